/-
  TreeMap answers true. No condition.
-/
import Derived.Test.YtobgjkkadnihjaaZTrKp
import Derived.Test.YtobgjkkadnihjaaZJoinD
namespace Go.Proofs.Ytobgjkkadnihjaa
set_option linter.unusedSimpArgs false
set_option linter.unusedVariables false
open Go.RowKit

theorem le_list (x y : List UInt8) : leB (byS x) (byS y) = (Op.bytesLess x y || x == y) := by
  show (Op.bytesLess (byS x).toList (byS y).toList || (byS x).toList == (byS y).toList) = _
  rw [ByteArray.toList_eq, ByteArray.toList_eq]
theorem le_two {u v : Nat} (hu : u < 5) (hv : v < 6) : (leB ByteArray.empty (two 97 97 u v) && leB (two 97 97 u v) ⟨#[122, 122]⟩) = true := by
  have e1 : (ByteArray.empty : ByteArray) = byS [] := rfl
  have e2 : (⟨#[122, 122]⟩ : ByteArray) = byS [122, 122] := rfl
  rw [e1, e2, two, le_list, le_list]
  have h1 : (chrB 97 u) < 122 := by rw [UInt8.lt_iff_toNat_lt, chr_nat (by omega)]; show 97 + u < 122; omega
  simp [Op.bytesLess, h1]
theorem span_all {o : Option (Nat × Tn)} {n : Nat} (h : GOk o n) : spanL ByteArray.empty ⟨#[122, 122]⟩ (itemsO o) = itemsO o := by
  unfold spanL
  rw [List.filter_eq_self]
  intro p hp
  obtain ⟨u, v, hu, hv, he⟩ := h.keys p hp
  rw [he]
  exact le_two hu hv
theorem treeMap_pc (l : List Raw) (hl : l.length ≤ 4611686018427387904) : PC Try.prog 5 [.sl 4 (l.map Raw.cs)] (bD true) := by
  have g1 := grown_pc l 60 hl (Nat.le_refl _)
  have hG := gok_take l 60 (Nat.le_refl _)
  have l1 := list_good hG.good ByteArray.empty ⟨#[122, 122]⟩
  have c1 := check_good hG.good
  have t1 := treeTells_pc
  have hf := hG.few
  have s1 := samePairs_pc (itemsO (grownO (l.take 60))) (by omega)
  rw [span_all hG] at l1
  generalize grownO (l.take 60) = o at *
  unfold treeO treeD at *
  generalize nodesD (nodesO o) = dO at *
  generalize pairsD (itemsO o) = P1 at *
  generalize l.map Raw.cs = rc at *
  clear hG hf hl
  refine pc_of_aw Try.func5 rfl (by kernel_rfl) mixed (by kernel_rfl) (by rw [Try.ntmps5]; exact Nat.le_of_ble_eq_true rfl) Try.results5 ?_
  repeat (with_reducible apply aw_seq)
  repeat (first | (with_reducible first | apply aw_seq | apply aw_reg | apply rp_nil | apply ae_norm | apply aw_ret | apply re_ret) | ((first | (with_reducible apply rp) | ((with_reducible apply rpG); exact rfl; exact gval_t rfl; (focus repeat' (first | exact trivial | exact fun h => h | refine And.intro ?_ ?_)); intro hgd; have hgd0 := hgd; (try simp only [decide_eq_true_eq, Bool.and_eq_true, Bool.not_eq_true', beq_iff_eq] at hgd))); first | ((with_reducible apply does_call'); exact rfl; exact rfl; exact rfl; exact (g1)) | ((with_reducible apply does_call'); exact rfl; exact rfl; exact rfl; exact (l1)) | ((with_reducible apply does_call_flat); exact rfl; exact rfl; exact (t1); exact rfl) | ((with_reducible apply does_call_flat); exact rfl; exact rfl; exact (c1); exact rfl) | ((with_reducible apply does_call_flat); exact rfl; exact rfl; exact (s1); exact rfl) | ((with_reducible apply does_move); (conv => lhs; whnf)) | ((with_reducible apply does_assign); (conv => lhs; whnf)) | ((with_reducible apply does_and); exact rfl; exact rfl; exact rfl; exact fun h => h) | ((with_reducible apply does_load_row); exact tyOk rfl; exact rfl; exact rfl; exact rfl; exact Nat.le_of_ble_eq_true rfl; exact rfl) | ((with_reducible apply does_eq); exact rfl; exact rfl) | ((with_reducible apply does_extract); exact rfl; exact rfl)) | ((with_reducible apply rp1); ((with_reducible apply does_alloc); exact tyOk rfl; exact rfl)) | ((with_reducible apply rpN); ((with_reducible apply does_store_whole); exact tyOk rfl; exact rfl; exact rfl; exact rfl; exact rfl; exact rfl)))
  (with_reducible apply ret_ok); (focus (repeat' (first | (with_reducible apply rv_nil) | (with_reducible apply rv_cons) | ((with_reducible apply rv_tmp); exact rfl)))); exact rfl; refine SubD.of_eq ?_
  rfl
theorem treeMap_walk (A0 : Option Addr) (l0 : List Raw) (c0 : Nat) (w : World) (r0 : RdR w w.heap.size A0 l0) (k0 : l0.length ≤ c0) (m0 : c0 * 40 ≤ 140737488351232) (hok : ∀ r ∈ l0, r.ok) :
    Calls Try.prog 5 #[.slice A0 l0.length c0] w fun e w' => e = .returned (.bool true) ∧ Below w.heap.size w w' :=
  calls_of_pc (treeMap_pc l0 (by omega)) (rep_cons (rep_raws r0 k0) rfl)
end Go.Proofs.Ytobgjkkadnihjaa

