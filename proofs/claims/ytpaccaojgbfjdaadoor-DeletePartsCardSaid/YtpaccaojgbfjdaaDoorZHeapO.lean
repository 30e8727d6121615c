/-
  chirographkeep.heapOf. No condition.
-/
import Derived.Test.YtpaccaojgbfjdaaDoorZHeapC
set_option linter.unusedSimpArgs false
set_option linter.unusedVariables false
namespace Go.Proofs.YtpaccaojgbfjdaaDoor
open Go.RowKit

abbrev qCA (l : List Raw) : List Cl := qDs (l.take (l.length % 4))
set_option maxHeartbeats 1000000 in
theorem heapOf_pg (l : List Raw) : PG Tryd.prog 18 [.d (qBi l)] [] [] (.px 2000 0) [] [(2000, .var 50 [.d (qBi (l.take 40)), .d (iD 0), .d (qAY (qDs (l.take (l.length % 4))))])] := by
  have s1 := some_pc l 40
  have hm : (l.length : Int) % ((4 : Nat) : Int) = ((l.length % 4 : Nat) : Int) := by omega
  have p1 := qAO (l.length : Int) 4 (by omega) (by omega)
  rw [hm] at p1
  have s2 := some_pc l (l.length % 4)
  have c1 := cols_pc (l.take (l.length % 4))
  generalize l.take (l.length % 4) = q at *
  generalize l.take 40 = t at *
  generalize qDs q = cs at *
  refine pg_of_aw Tryd.func18 rfl (by kernel_rfl) mixed (by kernel_rfl) (qle (by kernel_rfl)) Tryd.results18 rfl ?_
  repeat (first | (with_reducible first | apply qAj | apply qAh | apply qAi | apply qAg | apply qAu | apply xg_ret) | ((with_reducible apply rp); first | ((with_reducible apply qAP); (iterate 3 exact rfl); exact (s1)) | ((with_reducible apply qAf); exact rfl; exact rfl; exact (p1); exact rfl) | ((with_reducible apply qAP); (iterate 3 exact rfl); exact (s2)) | ((with_reducible apply qAP); (iterate 3 exact rfl); exact (c1)) | ((with_reducible apply qAd); (conv => lhs; whnf)) | ((with_reducible apply qAa); (conv => lhs; whnf)) | ((with_reducible apply qA3); exact tyOk rfl; exact rfl; exact rfl) | ((with_reducible apply qAT); exact tyOk rfl; exact rfl; exact rfl; (focus repeat' (first | exact rfl | refine ⟨_, _, rfl, rfl, qle rfl, rfl, ?_⟩)); exact rfl)) | ((with_reducible apply rp1); ((with_reducible apply qAn); exact rfl; exact rfl)))
  (with_reducible apply retg_ok (l := [(2000, 12)])); (focus (repeat' (first | (with_reducible apply qAw) | (with_reducible apply qAr) | ((with_reducible apply qAB); exact rfl)))); rotate_left; refine ⟨(by repeat' exact qAI), (by repeat' (first | exact trivial | exact rfl | refine And.intro ?_ ?_)), rfl, (by repeat' (first | exact trivial | refine And.intro ?_ ?_)), (by repeat' (first | exact trivial | refine And.intro ?_ ?_))⟩; refine SubA.of_eq ?_
  rfl
end Go.Proofs.YtpaccaojgbfjdaaDoor

