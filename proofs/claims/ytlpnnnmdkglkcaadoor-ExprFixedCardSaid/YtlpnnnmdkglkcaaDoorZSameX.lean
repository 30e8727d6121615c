/-
  chirographkeep.sameExpr tells that an expression is itself. No condition.
-/
import Derived.Test.YtlpnnnmdkglkcaaDoorZRdv
set_option linter.unusedSimpArgs false
set_option linter.unusedVariables false
namespace Go.Proofs.YtlpnnnmdkglkcaaDoor
open Go.RowKit

set_option maxHeartbeats 2000000 in
theorem qDG (x : Ex) (ih : ∀ a ∈ x.args, PC Tryd.prog 25 [.ag a.cs, .ag a.cs] (bD true)) : PC Tryd.prog 25 [.ag x.cs, .ag x.cs] (bD true) := by
  have hl := x.args_len
  have hxl := x.cs_eq
  generalize x.cs = c at *
  subst hxl
  have hc : ((x.op : Int) != x.op || !(x.val.k == x.val.k && (x.val.n == x.val.n && ((x.val.b : Int) == x.val.b && (x.val.t.toList == x.val.t.toList && true)))) || !(x.nam.toList == x.nam.toList) || ((x.args.length : Nat) : Int) != x.args.length) = false := by simp
  refine qAJ Tryd.func25 rfl (by kernel_rfl) mixed (by kernel_rfl) (qle (by kernel_rfl)) Tryd.results25 ?_
  repeat (first | (with_reducible first | apply qAt | apply qAs | apply qAr | apply qAn) | ((first | (with_reducible apply rp) | ((with_reducible apply rpG); eq_refl; exact qAx rfl; (focus repeat' (first | exact trivial | exact id | apply And.intro)); intro zg; have zh := zg; (try simp only [zs1, zs2, zs3, zs4] at zg))); first | ((with_reducible first | apply qAe | apply qAd); (conv => lhs; whnf)) | ((with_reducible first | apply qBa | apply qAg | apply qAi | apply qA3 | apply qAz) <;> first | ((with_reducible apply tyOk); eq_refl) | eq_refl | exact id | decide) | ((with_reducible apply qAm); exact tyOk rfl; (iterate 3 eq_refl); exact qle rfl; eq_refl) | ((with_reducible apply qBR); eq_refl; eq_refl) | ((with_reducible apply qEp); eq_refl; eq_refl; exact tgOk rfl; eq_refl)) | ((with_reducible apply rp1); ((with_reducible apply qAp); eq_refl; eq_refl)))
  refine qAN rfl (fun hd => ?_) (fun hd => ?_)
  · exfalso
    simp at hd
  clear hd
  repeat (first | (with_reducible first | apply qAt | apply qAs | apply qAr | apply qAn | apply qAC | apply qAH) | ((with_reducible apply rp); first | ((with_reducible apply qAe); (conv => lhs; whnf)) | ((with_reducible apply qAg); exact tyOk rfl; eq_refl; eq_refl; decide; eq_refl) | ((with_reducible apply qAi); exact tyOk rfl; (iterate 4 eq_refl)) | ((with_reducible apply qAz); exact tyOk rfl; eq_refl; eq_refl)))
  refine qCb (fun m s => ∃ k, k ≤ x.args.length ∧ m = x.args.length - k ∧ s = ⟨[(2, .px 2 0), (3, .px 3 0), (36, .d (iD x.args.length)), (37, .d (iD k))],
    [(2, .var 53 [.d (iD x.op), .d (iD x.val.k), .d (iD x.val.n), .d (qD x.val.b), .d (strD x.val.t), .d (strD x.nam), .d (.sl 7 (x.args.map Ex.cs))]), (3, .var 53 [.d (iD x.op), .d (iD x.val.k), .d (iD x.val.n), .d (qD x.val.b), .d (strD x.val.t), .d (strD x.nam), .d (.sl 7 (x.args.map Ex.cs))])]⟩) _ _ ?_ ⟨0, by omega, rfl, rfl⟩ ?_
  · refine qA5 [] (by repeat' (first | exact qA7 | (refine qAY rfl (by exact SubA.refl _) ?_))) (kpX rfl) rfl (insS rfl) (insX rfl)
  · rintro m s ⟨k, hk, rfl, rfl⟩
    repeat (first | (with_reducible first | apply qAt | apply qAs | apply qAr | apply qAn) | ((with_reducible apply rp); ((with_reducible apply qA0); eq_refl; eq_refl)))
    refine qAN rfl (fun hd => ?_) (fun hd => ?_)
    · have hlt : k < x.args.length := by simp at hd; omega
      clear hd
      obtain ⟨a, ha⟩ : ∃ a, x.args[k]? = some a := ⟨_, List.getElem?_eq_getElem hlt⟩
      have ha2 : (x.args.map Ex.cs)[k]? = some a.cs := by rw [List.getElem?_map, ha]; rfl
      have i1 := ih a (List.mem_of_getElem? ha)
      have hal := a.cs_eq
      generalize a.cs = ac at *
      subst hal
      repeat (first | (with_reducible first | apply qAt | apply qAs | apply qAr | apply qAn | apply qBH | apply qAC | apply qA6 | apply qAH) | ((with_reducible apply qBT); (first | kernel_rfl | eq_refl)) | ((with_reducible first | apply rp | apply dr); first | ((with_reducible apply qAa); eq_refl; eq_refl; exact (i1); eq_refl) | ((with_reducible first | apply qAe | apply qAd); (conv => lhs; whnf)) | ((with_reducible first | apply qAg | apply qAi | apply qA9) <;> first | ((with_reducible apply tyOk); eq_refl) | eq_refl | decide) | ((with_reducible apply qAu); exact tyOk rfl; eq_refl; eq_refl; assumption; eq_refl) | ((with_reducible apply qAA); exact tyOk rfl; eq_refl; exact tyOk rfl; (iterate 4 eq_refl); (simp only [List.length_map, List.length_append, List.length_cons, List.length_nil] at *; omega)) | ((with_reducible apply qAZ); eq_refl; eq_refl; omega; omega)) | ((with_reducible apply qBr); eq_refl; eq_refl))
      refine ⟨_, _, ?_, ?_, k + 1, by omega, rfl, rfl⟩
      · omega
      · refine qA5 [] (by repeat' (first | exact qA7 | (refine qAY rfl (by exact SubA.refl _) ?_))) (kpX rfl) rfl (insS rfl) (insX rfl)
    · have hke : k = x.args.length := by simp at hd; omega
      clear hd
      subst hke
      repeat (first | (with_reducible first | apply qAt | apply qAs | apply qAr | apply qAn | apply qCa | apply qB9 | apply qB8 | apply qAM | apply qAX) | ((with_reducible apply rp); ((with_reducible apply qAd); (conv => lhs; whnf))))
      (with_reducible apply qAW); (focus (repeat' (first | (with_reducible apply qAL) | (with_reducible apply qAB) | ((with_reducible apply qA1); eq_refl)))); eq_refl; refine SubD.of_eq ?_
      rfl
theorem qEO : ∀ x : Ex, PC Tryd.prog 25 [.ag x.cs, .ag x.cs] (bD true)
  | .lit v => qDG (.lit v) fun a h => by cases h
  | .col n => qDG (.col n) fun a h => by cases h
  | .un op a => qDG (.un op a) fun b h => by
    have h : b = a := by simpa [Ex.args] using h
    rw [h]; exact qEO a
  | .bi op a b => qDG (.bi op a b) fun c h => by
    have h : c = a ∨ c = b := by simpa [Ex.args] using h
    rcases h with h | h
    · rw [h]; exact qEO a
    · rw [h]; exact qEO b
end Go.Proofs.YtlpnnnmdkglkcaaDoor

