/-
  chirographkeep.some. No condition.
-/
import Derived.Test.YtlpnnnmdkglkcaaDoorZReal
namespace Go.Proofs.YtlpnnnmdkglkcaaDoor
set_option linter.unusedSimpArgs false
set_option linter.unusedVariables false
open Go.RowKit

abbrev rawsD (l : List Raw) : D := .sl 4 (l.map Raw.cs)
abbrev valsD (l : List Vl) : D := .sl 4 (l.map Vl.cs)
theorem take_min {α : Type} (l : List α) (m : Nat) : l.take (min l.length m) = l.take m := by
  rcases Nat.le_total l.length m with h | h
  · rw [Nat.min_eq_left h, List.take_of_length_le (Nat.le_refl _), List.take_of_length_le h]
  · rw [Nat.min_eq_right h]
theorem some_pc (l : List Raw) (m : Nat) : PC Tryd.prog 18 [rawsD l, iD m] (rawsD (l.take m)) := by
  refine pc_of_aw Tryd.func18 rfl (by kernel_rfl) mixed (by kernel_rfl) (by rw [Tryd.ntmps18]; exact Nat.le_of_ble_eq_true rfl) Tryd.results18 ?_
  repeat (first | (with_reducible first | apply aw_seq | apply aw_reg | apply rp_nil | apply ae_norm | apply aw_ret | apply re_ret) | ((with_reducible apply rp); first | (exact does_min_nat (a := l.length) (b := m) rfl rfl (by simp) rfl) | ((with_reducible apply does_move); (conv => lhs; whnf)) | ((with_reducible apply does_assign); (conv => lhs; whnf)) | ((with_reducible apply does_len_map); exact tyOk rfl; exact rfl; exact rfl) | ((with_reducible apply does_slice); exact tyOk rfl; exact rfl; exact tyOk rfl; exact rfl; exact rfl; (first | exact rfl | exact ⟨_, _, rfl, rfl⟩); (first | exact rfl | exact ⟨_, _, rfl, rfl⟩); (first | omega | (simp only [List.length_map, List.length_append, List.length_cons, List.length_nil] at *; omega)); (first | omega | (simp only [List.length_map, List.length_append, List.length_cons, List.length_nil] at *; omega)))))
  (with_reducible apply ret_ok); (focus (repeat' (first | (with_reducible apply rv_nil) | (with_reducible apply rv_cons) | ((with_reducible apply rv_tmp); exact rfl)))); exact rfl; refine SubD.of_eq ?_
  show D.sl 4 (List.drop 0 (List.take (min l.length m) (List.map Raw.cs l))) = D.sl 4 (List.map Raw.cs (List.take m l))
  rw [List.drop_zero, ← List.map_take, take_min]
end Go.Proofs.YtlpnnnmdkglkcaaDoor

