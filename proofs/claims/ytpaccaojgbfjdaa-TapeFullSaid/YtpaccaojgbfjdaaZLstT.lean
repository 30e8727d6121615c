/-
  some, sameLists (for a seat without oracle.Frame). No condition but the lengths.
-/
import Derived.Test.YtpaccaojgbfjdaaZC
import Derived.Test.YtpaccaojgbfjdaaZPick
namespace Go.Proofs.Ytpaccaojgbfjdaa
set_option linter.unusedSimpArgs false
set_option linter.unusedVariables false
open Go.RowKit

abbrev byL (l : List (List UInt8)) : D := .sl 1 (l.map fun p => [byD p])
abbrev rawsD (l : List Raw) : D := .sl 4 (l.map Raw.cs)
theorem take_min {α : Type} (l : List α) (m : Nat) : l.take (min l.length m) = l.take m := by
  rcases Nat.le_total l.length m with h | h
  · rw [Nat.min_eq_left h, List.take_of_length_le (Nat.le_refl _), List.take_of_length_le h]
  · rw [Nat.min_eq_right h]
theorem some_pc (l : List Raw) (m : Nat) : PC Try.prog 33 [rawsD l, iD m] (rawsD (l.take m)) := by
  refine pc_of_aw Try.func33 rfl (by kernel_rfl) mixed (by kernel_rfl) (by rw [Try.ntmps33]; exact Nat.le_of_ble_eq_true rfl) Try.results33 ?_
  repeat (first | (with_reducible first | apply aw_seq | apply aw_reg | apply rp_nil | apply ae_norm | apply aw_ret | apply re_ret) | ((with_reducible apply rp); first | (exact does_min_nat (a := l.length) (b := m) rfl rfl (by simp) rfl) | ((with_reducible apply does_move); (conv => lhs; whnf)) | ((with_reducible apply does_assign); (conv => lhs; whnf)) | ((with_reducible apply does_len_map); exact tyOk rfl; exact rfl; exact rfl) | ((with_reducible apply does_slice); exact tyOk rfl; exact rfl; exact tyOk rfl; exact rfl; exact rfl; (first | exact rfl | exact ⟨_, _, rfl, rfl⟩); (first | exact rfl | exact ⟨_, _, rfl, rfl⟩); (first | omega | (simp only [List.length_map, List.length_append, List.length_cons, List.length_nil] at *; omega)); (first | omega | (simp only [List.length_map, List.length_append, List.length_cons, List.length_nil] at *; omega)))))
  (with_reducible apply ret_ok); (focus (repeat' (first | (with_reducible apply rv_nil) | (with_reducible apply rv_cons) | ((with_reducible apply rv_tmp); exact rfl)))); exact rfl; refine SubD.of_eq ?_
  show D.sl 4 (List.drop 0 (List.take (min l.length m) (List.map Raw.cs l))) = D.sl 4 (List.map Raw.cs (List.take m l))
  rw [List.drop_zero, ← List.map_take, take_min]
def txt (n : Nat) (r : Raw) : List UInt8 := r.text.data.toList.take n
theorem txt_len (n : Nat) (r : Raw) : (txt n r).length ≤ n := by unfold txt; rw [List.length_take]; omega
theorem extract_take (s : ByteArray) (n : Nat) : (s.extract 0 (min s.size n)).data.toList = s.data.toList.take n := by
  rw [ByteArray.data_extract, Array.toList_extract, List.extract_eq_take_drop]
  have : s.size = s.data.toList.length := by show s.data.size = _; rw [Array.length_toList]
  rw [this]
  simp only [Nat.sub_zero, List.drop_zero]
  exact take_min _ _
theorem does_slice_str_to {P : Program} {dst : Option Nat} {ty : TypeId} {e : Operand → A} {β : Bx} {T : TypeId} {x : Operand} {t : TyI} {lo hi : Option Operand} {l h : Nat} {s s' : ByteArray} (ht : mkTy P T = some t) (hk : t.kind = .str) (hx : e x = .d (strD s)) (hl : loIs e l lo) (hh : hiIs e h s.size hi) (h1 : l ≤ h) (h2 : h ≤ s.size) (hs : s.extract l h = s') :
    Does P dst (.slice T x lo hi none) ty e β (.d (strD s')) [] [] := by
  subst hs; exact does_slice_str ht hk hx hl hh h1 h2
theorem sameLists_pc (a b : List (List UInt8)) (ha : a.length ≤ 4611686018427387904) : PC Try.prog 17 [byL a, byL b] (bD (a == b)) := by
  refine pc_of_aw Try.func17 rfl (by kernel_rfl) mixed (by kernel_rfl) (by rw [Try.ntmps17]; exact Nat.le_of_ble_eq_true rfl) Try.results17 ?_
  repeat (first | (with_reducible first | apply aw_seq | apply aw_reg | apply rp_nil | apply ae_norm) | ((with_reducible apply rp); first | ((with_reducible apply does_move); (conv => lhs; whnf)) | ((with_reducible apply does_assign); (conv => lhs; whnf)) | ((with_reducible apply does_ne); exact rfl; exact rfl) | ((with_reducible apply does_len_map); exact tyOk rfl; exact rfl; exact rfl)))
  refine aw_cond rfl (fun hc => ?_) (fun hc => ?_)
  · have hne : a ≠ b := fun h => by rw [h] at hc; simp at hc
    repeat (first | (with_reducible first | apply aw_seq | apply aw_reg | apply rp_nil | apply ae_norm | apply aw_ret | apply ae_ret | apply re_ret) | ((with_reducible apply rp); ((with_reducible apply does_assign); (conv => lhs; whnf))))
    (with_reducible apply ret_ok); (focus (repeat' (first | (with_reducible apply rv_nil) | (with_reducible apply rv_cons) | ((with_reducible apply rv_tmp); exact rfl)))); exact rfl; refine SubD.of_eq ?_
    rw [beq_eq_false_iff_ne.2 hne]; rfl
  · have hlen : a.length = b.length := by simp at hc; omega
    repeat (first | (with_reducible first | apply aw_seq | apply aw_reg | apply rp_nil | apply ae_norm | apply aw_block | apply aw_skip) | ((with_reducible apply rp); first | ((with_reducible apply does_move); (conv => lhs; whnf)) | ((with_reducible apply does_len_map); exact tyOk rfl; exact rfl; exact rfl)))
    refine aw_loop (fun n s => ∃ k, k ≤ a.length ∧ n = a.length - k ∧ a.take k = b.take k ∧ s = ⟨[(0, .d (byL a)), (1, .d (byL b)), (12, .d (iD a.length)), (13, .d (iD k))], []⟩) _ _ ?_ ⟨0, by omega, rfl, rfl, rfl⟩ ?_
    · refine forget_of [] (by repeat' (first | exact ks_nil | (refine ks_cons rfl (by exact SubA.refl _) ?_))) (by repeat' exact trivial) rfl (by repeat' (first | exact trivial | refine And.intro ?_ ?_)) (by repeat' (first | exact trivial | refine And.intro ?_ ?_))
    · rintro n s1 ⟨k, hk, rfl, hpre, rfl⟩
      repeat (first | (with_reducible first | apply aw_seq | apply aw_reg | apply rp_nil | apply ae_norm) | ((with_reducible apply rp); ((with_reducible apply does_lt); exact rfl; exact rfl)))
      refine aw_cond rfl (fun hd => ?_) (fun hd => ?_)
      · have hlt : k < a.length := by simpa using hd
        obtain ⟨p, hp⟩ : ∃ p, a[k]? = some p := ⟨_, List.getElem?_eq_getElem hlt⟩
        obtain ⟨q, hq⟩ : ∃ q, b[k]? = some q := ⟨_, List.getElem?_eq_getElem (by omega)⟩
        repeat (first | (with_reducible first | apply aw_seq | apply aw_reg | apply rp_nil | apply ae_norm | apply aw_regD | apply aw_block | apply aw_skip) | ((with_reducible apply dr_nil); (first | kernel_rfl | exact rfl)) | ((with_reducible first | apply rp | apply dr); first | (exact does_sne_by (c := !(p == q)) rfl rfl (by simp)) | ((with_reducible apply does_move); (conv => lhs; whnf)) | ((with_reducible apply does_assign); (conv => lhs; whnf)) | ((with_reducible apply does_load_elem); exact tyOk rfl; exact rfl; exact rfl; exact map_get (by assumption); exact rfl) | ((with_reducible apply does_index_sl); exact tyOk rfl; exact rfl; exact tyOk rfl; exact rfl; exact rfl; exact rfl; exact rfl; (simp only [List.length_map, List.length_append, List.length_cons, List.length_nil] at *; omega)) | ((with_reducible apply does_conv_bs); exact tyOk rfl; exact rfl; exact tyOk rfl; exact rfl; exact tyOk rfl; exact rfl; exact rfl)))
        refine aw_cond rfl (fun he => ?_) (fun he => ?_)
        · have hne : a ≠ b := fun h => by
            subst h
            rw [hp] at hq
            injection hq with hq
            subst hq
            simp at he
          repeat (first | (with_reducible first | apply aw_seq | apply aw_reg | apply rp_nil | apply ae_norm | apply aw_ret | apply ae_ret | apply be_ret | apply re_ret) | ((with_reducible apply rp); ((with_reducible apply does_assign); (conv => lhs; whnf))))
          (with_reducible apply ret_ok); (focus (repeat' (first | (with_reducible apply rv_nil) | (with_reducible apply rv_cons) | ((with_reducible apply rv_tmp); exact rfl)))); exact rfl; refine SubD.of_eq ?_
          rw [beq_eq_false_iff_ne.2 hne]; rfl
        · have hpq : p = q := by simpa using he
          repeat (first | (with_reducible first | apply aw_reg | apply rp_nil | apply ae_norm | apply be_norm | apply aw_skip) | ((with_reducible apply rp); first | ((with_reducible apply does_move); (conv => lhs; whnf)) | ((with_reducible apply does_add); exact rfl; exact rfl; omega; omega)))
          refine ⟨_, _, ?_, ?_, k + 1, by omega, rfl, ?_, rfl⟩
          · omega
          · refine forget_of [] (by repeat' (first | exact ks_nil | (refine ks_cons rfl (by exact SubA.refl _) ?_))) (by repeat' exact trivial) rfl (by repeat' (first | exact trivial | refine And.intro ?_ ?_)) (by repeat' (first | exact trivial | refine And.intro ?_ ?_))
          · rw [List.take_add_one, List.take_add_one, hp, hq, hpre, hpq]
      · have hke : k = a.length := by simp at hd; omega
        have hab : a = b := by
          rw [hke, List.take_length] at hpre
          rw [hlen, List.take_length] at hpre
          exact hpre
        repeat (first | (with_reducible first | apply aw_seq | apply aw_reg | apply rp_nil | apply ae_norm | apply aw_exit | apply ae_exit | apply be_exit | apply aw_ret | apply re_ret) | ((with_reducible apply rp); ((with_reducible apply does_assign); (conv => lhs; whnf))))
        (with_reducible apply ret_ok); (focus (repeat' (first | (with_reducible apply rv_nil) | (with_reducible apply rv_cons) | ((with_reducible apply rv_tmp); exact rfl)))); exact rfl; refine SubD.of_eq ?_
        subst hab
        rw [beq_self_eq_true]; rfl
end Go.Proofs.Ytpaccaojgbfjdaa

