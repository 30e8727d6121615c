/-
  chirographkeep.clean: the words of a text that may be, at most so many bytes. No condition but the size.
-/
import Derived.Test.YtlpnnnmdkglkcaaDoorZG
import Derived.Test.YtlpnnnmdkglkcaaDoorZTl
import Derived.Laws.Cover4
namespace Go.Proofs.YtlpnnnmdkglkcaaDoor
set_option linter.unusedSimpArgs false
set_option linter.unusedVariables false
open Go.RowKit

def cleanF (s : ByteArray) (most : Nat) : Nat → Nat → ByteArray → ByteArray
  | 0, _, out => out
  | f + 1, pos, out => if pos < s.size then (if most < out.size + 4 then out else cleanF s most f (pos + (Utf8.decode s pos).2) (out ++ Utf8.encode ((Utf8.decode s pos).1 : Nat))) else out
def cleanT (s : ByteArray) (most : Nat) : ByteArray := cleanF s most (s.size + 1) 0 ByteArray.empty
theorem decode_w (s : ByteArray) (pos : Nat) : 1 ≤ (Utf8.decode s pos).2 := by
  simp only [Utf8.decode]
  repeat' split
  all_goals simp
theorem cleanF_size (s : ByteArray) (most : Nat) : ∀ (f pos : Nat) (out : ByteArray), out.size ≤ most → (cleanF s most f pos out).size ≤ most
  | 0, _, out, h => h
  | f + 1, pos, out, h => by
    unfold cleanF
    split
    · split
      · exact h
      · refine cleanF_size s most f _ _ ?_
        have := encode_size_le ((Utf8.decode s pos).1 : Nat)
        rw [ByteArray.size_append]
        omega
    · exact h
theorem cleanT_size (s : ByteArray) (most : Nat) : (cleanT s most).size ≤ most := cleanF_size s most _ _ _ (Nat.zero_le _)
theorem cleanF_fuel (s : ByteArray) (most : Nat) : ∀ (f g pos : Nat) (out : ByteArray), s.size ≤ pos + f → s.size ≤ pos + g → cleanF s most f pos out = cleanF s most g pos out
  | 0, 0, _, _, _, _ => rfl
  | 0, g + 1, pos, out, h, _ => by unfold cleanF; rw [if_neg (by omega)]
  | f + 1, 0, pos, out, _, h => by unfold cleanF; rw [if_neg (by omega)]
  | f + 1, g + 1, pos, out, h1, h2 => by
    have := decode_w s pos
    unfold cleanF
    split
    · split
      · rfl
      · exact cleanF_fuel s most f g _ _ (by omega) (by omega)
    · rfl
set_option maxHeartbeats 1000000 in
theorem clean_pc (s : ByteArray) (most : Nat) (hm : most ≤ 1000000) : PC Tryd.prog 21 [strD s, iD most] (strD (cleanT s most)) := by
  refine pc_of_aw Tryd.func21 rfl (by kernel_rfl) mixed (by kernel_rfl) (by rw [Tryd.ntmps21]; exact Nat.le_of_ble_eq_true rfl) Tryd.results21 ?_
  repeat (first | (with_reducible first | apply aw_seq | apply aw_reg | apply rp_nil | apply ae_norm | apply aw_block) | ((with_reducible apply rp); first | ((with_reducible apply does_move); (conv => lhs; whnf)) | ((with_reducible apply does_assign); (conv => lhs; whnf))) | ((with_reducible apply rp1); (exact does_range (tyOk rfl) rfl rfl rfl)))
  refine aw_loop (fun m st => ∃ pos out, m = s.size + 1 - pos ∧ out.size ≤ most ∧ cleanF s most (s.size + 1 - pos) pos out = cleanT s most ∧ st = ⟨[(0, .d (strD s)), (1, .d (iD most)), (5, .d (strD out)), (9, .px 9 0)], [(9, .itr s pos)]⟩) _ _ ?_ ⟨0, ByteArray.empty, rfl, Nat.zero_le _, rfl, rfl⟩ ?_
  · refine forget_of [] (by repeat' (first | exact ks_nil | (refine ks_cons rfl (by exact SubA.refl _) ?_))) (by repeat' (first | exact trivial | exact rfl | refine And.intro ?_ ?_)) rfl (by repeat' (first | exact trivial | exact inB_px rfl | refine And.intro ?_ ?_)) (by repeat' (first | exact trivial | exact inB_px rfl | refine And.intro ?_ ?_))
  · rintro m st ⟨pos, out, rfl, h1, h2, rfl⟩
    by_cases hp : pos < s.size
    · obtain ⟨f, hf⟩ : ∃ f, s.size + 1 - pos = f + 1 := ⟨s.size - pos, by omega⟩
      have hw := decode_w s pos
      have he := encode_size_le ((Utf8.decode s pos).1 : Nat)
      rw [hf, cleanF, if_pos hp] at h2
      have hfc : ∀ out2, cleanF s most f (pos + (Utf8.decode s pos).2) out2 = cleanF s most (s.size + 1 - (pos + (Utf8.decode s pos).2)) (pos + (Utf8.decode s pos).2) out2 := fun out2 => cleanF_fuel s most _ _ _ _ (by omega) (by omega)
      rw [hfc] at h2
      have hd := fun (P : Program) (dst : Option Nat) (ty : TypeId) (x : Operand) (e : Operand → A) (β : Bx) id (hx : e x = .px id 0) (hl : look id β = some (.itr s pos)) => does_next (P := P) (dst := dst) (ty := ty) hx hl hp
      generalize (Utf8.decode s pos).1 = c at *
      generalize (Utf8.decode s pos).2 = wd at *
      repeat (first | (with_reducible first | apply aw_seq | apply aw_reg | apply rp_nil | apply ae_norm) | ((with_reducible apply rp); ((with_reducible apply does_extract); exact rfl; exact rfl)) | ((with_reducible apply rp1); (exact hd _ _ _ _ _ _ _ rfl rfl)))
      refine aw_cond rfl (fun _ => ?_) (fun h => (by cases h))
      repeat (first | (with_reducible first | apply aw_seq | apply aw_reg | apply rp_nil | apply ae_norm | apply aw_block | apply aw_skip) | ((with_reducible apply rp); first | (exact does_add_to (z := ((out.size + 4 : Nat) : Int)) rfl rfl (by omega) (by omega) (by omega)) | ((with_reducible apply does_move); (conv => lhs; whnf)) | ((with_reducible apply does_assign); (conv => lhs; whnf)) | ((with_reducible apply does_gt); exact rfl; exact rfl) | ((with_reducible apply does_extract); exact rfl; exact rfl) | ((with_reducible apply does_len_str); exact tyOk rfl; exact rfl; exact rfl)))
      refine aw_cond rfl (fun hc => ?_) (fun hc => ?_)
      · have hlt : most < out.size + 4 := by simp at hc; omega
        rw [if_pos hlt] at h2
        repeat (first | (with_reducible first | apply aw_seq | apply aw_reg | apply rp_nil | apply ae_norm | apply aw_exit | apply ae_exit | apply be_exit | apply aw_ret | apply re_ret) | ((with_reducible apply be_other); exact rfl) | ((with_reducible apply rp); first | ((with_reducible apply does_move); (conv => lhs; whnf)) | ((with_reducible apply does_assign); (conv => lhs; whnf))))
        (with_reducible apply ret_ok); (focus (repeat' (first | (with_reducible apply rv_nil) | (with_reducible apply rv_cons) | ((with_reducible apply rv_tmp); exact rfl)))); exact rfl; refine SubD.of_eq ?_
        rw [h2]; rfl
      · have hlt : ¬ most < out.size + 4 := by simp at hc; omega
        rw [if_neg hlt] at h2
        repeat (first | (with_reducible first | apply aw_reg | apply rp_nil | apply ae_norm | apply be_norm | apply aw_skip) | ((with_reducible apply rp); first | (exact does_conv_rune (tyOk rfl) (tyOk rfl) rfl rfl) | (exact does_cat rfl rfl (by omega)) | ((with_reducible apply does_move); (conv => lhs; whnf)) | ((with_reducible apply does_assign); (conv => lhs; whnf))))
        refine ⟨_, _, ?_, ?_, pos + wd, out ++ Utf8.encode (c : Nat), rfl, by rw [ByteArray.size_append]; omega, h2, rfl⟩
        · omega
        · refine forget_of [] (by repeat' (first | exact ks_nil | (refine ks_cons rfl (by exact SubA.refl _) ?_))) (by repeat' (first | exact trivial | exact rfl | refine And.intro ?_ ?_)) rfl (by repeat' (first | exact trivial | exact inB_px rfl | refine And.intro ?_ ?_)) (by repeat' (first | exact trivial | exact inB_px rfl | refine And.intro ?_ ?_))
    · have h3 : out = cleanT s most := by
        rw [← h2]
        cases s.size + 1 - pos with
        | zero => rfl
        | succ f => unfold cleanF; rw [if_neg hp]
      repeat (first | (with_reducible first | apply aw_seq | apply aw_reg | apply rp_nil | apply ae_norm) | ((with_reducible apply rp); first | (exact does_next_end rfl rfl (by omega)) | ((with_reducible apply does_extract); exact rfl; exact rfl)))
      refine aw_cond rfl (fun h => (by cases h)) (fun _ => ?_)
      repeat (first | (with_reducible first | apply aw_seq | apply aw_reg | apply rp_nil | apply ae_norm | apply aw_exit | apply ae_exit | apply be_exit | apply aw_ret | apply re_ret) | ((with_reducible apply rp); first | ((with_reducible apply does_move); (conv => lhs; whnf)) | ((with_reducible apply does_assign); (conv => lhs; whnf))))
      (with_reducible apply ret_ok); (focus (repeat' (first | (with_reducible apply rv_nil) | (with_reducible apply rv_cons) | ((with_reducible apply rv_tmp); exact rfl)))); exact rfl; refine SubD.of_eq ?_
      rw [h3]; rfl
end Go.Proofs.YtlpnnnmdkglkcaaDoor

