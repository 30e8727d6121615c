/-
  chirographkeep.clean: the words of a text that may be, at most so many bytes. No condition but the size.
-/
import Derived.Test.YtnkpnnphmimagaaDoorZPlStr
import Derived.Test.YtnkpnnphmimagaaDoorZTl
import Derived.Laws.Cover4
namespace Go.Proofs.YtnkpnnphmimagaaDoor
set_option linter.unusedSimpArgs false
set_option linter.unusedVariables false
open Go.RowKit

def cleanF (s : ByteArray) (most : Nat) : Nat → Nat → ByteArray → ByteArray
  | 0, _, out => out
  | f + 1, pos, out => if pos < s.size then (if most < out.size + 4 then out else cleanF s most f (pos + (Utf8.decode s pos).2) (out ++ Utf8.encode ((Utf8.decode s pos).1 : Nat))) else out
def cleanT (s : ByteArray) (most : Nat) : ByteArray := cleanF s most (s.size + 1) 0 ByteArray.empty
theorem decode_w (s : ByteArray) (pos : Nat) : 1 ≤ (Utf8.decode s pos).2 := by
  simp only [Utf8.decode]
  repeat' split
  all_goals simp
theorem cleanF_size (s : ByteArray) (most : Nat) : ∀ (f pos : Nat) (out : ByteArray), out.size ≤ most → (cleanF s most f pos out).size ≤ most
  | 0, _, out, h => h
  | f + 1, pos, out, h => by
    unfold cleanF
    split
    · split
      · exact h
      · refine cleanF_size s most f _ _ ?_
        have := encode_size_le ((Utf8.decode s pos).1 : Nat)
        rw [ByteArray.size_append]
        omega
    · exact h
theorem cleanT_size (s : ByteArray) (most : Nat) : (cleanT s most).size ≤ most := cleanF_size s most _ _ _ (Nat.zero_le _)
theorem cleanF_fuel (s : ByteArray) (most : Nat) : ∀ (f g pos : Nat) (out : ByteArray), s.size ≤ pos + f → s.size ≤ pos + g → cleanF s most f pos out = cleanF s most g pos out
  | 0, 0, _, _, _, _ => rfl
  | 0, g + 1, pos, out, h, _ => by unfold cleanF; rw [if_neg (by omega)]
  | f + 1, 0, pos, out, _, h => by unfold cleanF; rw [if_neg (by omega)]
  | f + 1, g + 1, pos, out, h1, h2 => by
    have := decode_w s pos
    unfold cleanF
    split
    · split
      · rfl
      · exact cleanF_fuel s most f g _ _ (by omega) (by omega)
    · rfl
set_option maxHeartbeats 1000000 in
theorem clean_pc (s : ByteArray) (most : Nat) (hm : most ≤ 1000000) : PC Tryd.prog 40 [strD s, iD most] (strD (cleanT s most)) := by
  refine pc_of_aw Tryd.func40 rfl (by kernel_rfl) mixed (by kernel_rfl) (by rw [Tryd.ntmps40]; exact Nat.le_of_ble_eq_true rfl) Tryd.results40 ?_
  repeat (first | (with_reducible apply aw_seq) | (with_reducible apply aw_reg) | (with_reducible apply rp_nil) | (with_reducible apply ae_norm) | (with_reducible apply aw_block) | ((with_reducible apply be_other); exact rfl) | ((with_reducible apply dr_nil); (first | kernel_rfl | exact rfl)) | ((with_reducible first | apply rp | apply dr); first | (exact does_range (tyOk rfl) rfl rfl rfl) | ((with_reducible apply does_move); (conv => lhs; whnf)) | ((with_reducible apply does_assign); (conv => lhs; whnf))) | ((with_reducible first | apply rp1 | apply dr1); first | (exact does_range (tyOk rfl) rfl rfl rfl)) | ((with_reducible first | apply rp2 | apply dr2); first | (exact does_range (tyOk rfl) rfl rfl rfl)) | ((with_reducible first | apply rpN | apply drN); first | (exact does_range (tyOk rfl) rfl rfl rfl)))
  refine aw_loop (fun m st => ∃ pos out, m = s.size + 1 - pos ∧ out.size ≤ most ∧ cleanF s most (s.size + 1 - pos) pos out = cleanT s most ∧ st = ⟨[(0, .d (strD s)), (1, .d (iD most)), (5, .d (strD out)), (9, .px 9 0)], [(9, .itr s pos)]⟩) _ _ ?_ ⟨0, ByteArray.empty, rfl, Nat.zero_le _, rfl, rfl⟩ ?_
  · refine forget_of [] (by repeat' (first | exact ks_nil | (refine ks_cons rfl (by (first | exact SubA.refl _ | exact SubA.d (SubD.nil _) | exact subA_ow (by (first | rfl | (simp; done) | (simp; omega))) | exact subA_i (by (first | rfl | (simp; done) | (simp; omega) | omega)) | (refine SubA.of_eq ?_; (first | rfl | (simp; done) | (simp; omega))))) ?_))) (by repeat' (first | exact trivial | exact rfl | exact kb_d rfl | refine And.intro ?_ ?_)) rfl (by repeat' (first | exact trivial | exact insB_map _ | exact inB_ow rfl | exact inB_px rfl | exact inB_pr rfl | exact inB_sx rfl | refine And.intro ?_ ?_)) (by repeat' (first | exact trivial | exact insB_map _ | exact inB_ow rfl | exact inB_px rfl | exact inB_pr rfl | exact inB_sx rfl | refine And.intro ?_ ?_))
  · rintro m st ⟨pos, out, rfl, h1, h2, rfl⟩
    by_cases hp : pos < s.size
    · obtain ⟨f, hf⟩ : ∃ f, s.size + 1 - pos = f + 1 := ⟨s.size - pos, by omega⟩
      have hw := decode_w s pos
      have he := encode_size_le ((Utf8.decode s pos).1 : Nat)
      rw [hf, cleanF, if_pos hp] at h2
      have hfc : ∀ out2, cleanF s most f (pos + (Utf8.decode s pos).2) out2 = cleanF s most (s.size + 1 - (pos + (Utf8.decode s pos).2)) (pos + (Utf8.decode s pos).2) out2 := fun out2 => cleanF_fuel s most _ _ _ _ (by omega) (by omega)
      rw [hfc] at h2
      have hd := fun (P : Program) (dst : Option Nat) (ty : TypeId) (x : Operand) (e : Operand → A) (β : Bx) id (hx : e x = .px id 0) (hl : look id β = some (.itr s pos)) => does_next (P := P) (dst := dst) (ty := ty) hx hl hp
      generalize (Utf8.decode s pos).1 = c at *
      generalize (Utf8.decode s pos).2 = wd at *
      repeat (first | (with_reducible apply aw_seq) | (with_reducible apply aw_reg) | (with_reducible apply rp_nil) | (with_reducible apply ae_norm) | ((with_reducible apply be_other); exact rfl) | ((with_reducible apply dr_nil); (first | kernel_rfl | exact rfl)) | ((with_reducible first | apply rp | apply dr); first | (exact hd _ _ _ _ _ _ _ rfl rfl) | ((with_reducible apply does_extract); exact rfl; exact rfl)) | ((with_reducible first | apply rp1 | apply dr1); first | (exact hd _ _ _ _ _ _ _ rfl rfl)) | ((with_reducible first | apply rp2 | apply dr2); first | (exact hd _ _ _ _ _ _ _ rfl rfl)) | ((with_reducible first | apply rpN | apply drN); first | (exact hd _ _ _ _ _ _ _ rfl rfl)))
      refine aw_cond rfl (fun _ => ?_) (fun h => (by cases h))
      repeat (first | (with_reducible apply aw_seq) | (with_reducible apply aw_reg) | (with_reducible apply rp_nil) | (with_reducible apply ae_norm) | (with_reducible apply aw_block) | (with_reducible apply aw_skip) | ((with_reducible apply be_other); exact rfl) | ((with_reducible apply dr_nil); (first | kernel_rfl | exact rfl)) | ((with_reducible first | apply rp | apply dr); first | (exact does_add_to (z := ((out.size + 4 : Nat) : Int)) rfl rfl (by omega) (by omega) (by omega)) | ((with_reducible apply does_move); (conv => lhs; whnf)) | ((with_reducible apply does_assign); (conv => lhs; whnf)) | ((with_reducible apply does_gt); exact rfl; exact rfl) | ((with_reducible apply does_extract); exact rfl; exact rfl) | ((with_reducible apply does_len_map); exact tyOk rfl; exact rfl; exact rfl) | ((with_reducible apply does_len_sl); exact tyOk rfl; exact rfl; exact rfl) | ((with_reducible apply does_len_ow); exact tyOk rfl; exact rfl; exact rfl) | ((with_reducible apply does_len_nl); exact tyOk rfl; exact rfl; exact rfl) | ((with_reducible apply does_len_str); exact tyOk rfl; exact rfl; exact rfl)) | ((with_reducible first | apply rp1 | apply dr1); first | (exact does_add_to (z := ((out.size + 4 : Nat) : Int)) rfl rfl (by omega) (by omega) (by omega))) | ((with_reducible first | apply rp2 | apply dr2); first | (exact does_add_to (z := ((out.size + 4 : Nat) : Int)) rfl rfl (by omega) (by omega) (by omega))) | ((with_reducible first | apply rpN | apply drN); first | (exact does_add_to (z := ((out.size + 4 : Nat) : Int)) rfl rfl (by omega) (by omega) (by omega))))
      refine aw_cond rfl (fun hc => ?_) (fun hc => ?_)
      · have hlt : most < out.size + 4 := by simp at hc; omega
        rw [if_pos hlt] at h2
        repeat (first | (with_reducible apply aw_seq) | (with_reducible apply aw_reg) | (with_reducible apply rp_nil) | (with_reducible apply ae_norm) | (with_reducible apply aw_exit) | (with_reducible apply ae_exit) | (with_reducible apply be_exit) | (with_reducible apply aw_ret) | (with_reducible apply re_ret) | ((with_reducible apply be_other); exact rfl) | ((with_reducible apply dr_nil); (first | kernel_rfl | exact rfl)) | ((with_reducible first | apply rp | apply dr); first | ((with_reducible apply does_move); (conv => lhs; whnf)) | ((with_reducible apply does_assign); (conv => lhs; whnf))))
        (with_reducible apply ret_ok); (focus (repeat' (first | (with_reducible apply rv_nil) | (with_reducible apply rv_cons) | ((with_reducible apply rv_tmp); exact rfl) | ((with_reducible apply rv_cell); exact rfl; exact rfl; exact tyOk rfl; exact rfl; exact rfl) | ((with_reducible apply rv_rowd); exact rfl; exact rfl; exact tyOk rfl; exact rfl; (first | (with_reducible assumption) | exact rfl | ((try simp only [List.length_map]); first | assumption | omega) | (simp; omega))) | ((with_reducible apply rv_row); exact rfl; exact rfl; exact tyOk rfl; exact rfl; (first | exact Nat.le_of_ble_eq_true rfl | omega | (simp; omega)))))); (first | exact rfl | (focus repeat' (first | exact frzVs_one (frzV_map _ _) | exact rfl | (apply frzVs_cons; (first | exact frzV_map _ _ | exact rfl))))); refine SubD.of_eq ?_
        rw [h2]; rfl
      · have hlt : ¬ most < out.size + 4 := by simp at hc; omega
        rw [if_neg hlt] at h2
        repeat (first | (with_reducible apply aw_reg) | (with_reducible apply rp_nil) | (with_reducible apply ae_norm) | (with_reducible apply be_norm) | (with_reducible apply aw_skip) | ((with_reducible apply be_other); exact rfl) | ((with_reducible apply dr_nil); (first | kernel_rfl | exact rfl)) | ((with_reducible first | apply rp | apply dr); first | (exact does_conv_rune (tyOk rfl) (tyOk rfl) rfl rfl) | (exact does_cat rfl rfl (by omega)) | ((with_reducible apply does_move); (conv => lhs; whnf)) | ((with_reducible apply does_assign); (conv => lhs; whnf))) | ((with_reducible first | apply rp1 | apply dr1); first | (exact does_conv_rune (tyOk rfl) (tyOk rfl) rfl rfl) | (exact does_cat rfl rfl (by omega))) | ((with_reducible first | apply rp2 | apply dr2); first | (exact does_conv_rune (tyOk rfl) (tyOk rfl) rfl rfl) | (exact does_cat rfl rfl (by omega))) | ((with_reducible first | apply rpN | apply drN); first | (exact does_conv_rune (tyOk rfl) (tyOk rfl) rfl rfl) | (exact does_cat rfl rfl (by omega))))
        refine ⟨_, _, ?_, ?_, pos + wd, out ++ Utf8.encode (c : Nat), rfl, by rw [ByteArray.size_append]; omega, h2, rfl⟩
        · omega
        · refine forget_of [] (by repeat' (first | exact ks_nil | (refine ks_cons rfl (by (first | exact SubA.refl _ | exact SubA.d (SubD.nil _) | exact subA_ow (by (first | rfl | (simp; done) | (simp; omega))) | exact subA_i (by (first | rfl | (simp; done) | (simp; omega) | omega)) | (refine SubA.of_eq ?_; (first | rfl | (simp; done) | (simp; omega))))) ?_))) (by repeat' (first | exact trivial | exact rfl | exact kb_d rfl | refine And.intro ?_ ?_)) rfl (by repeat' (first | exact trivial | exact insB_map _ | exact inB_ow rfl | exact inB_px rfl | exact inB_pr rfl | exact inB_sx rfl | refine And.intro ?_ ?_)) (by repeat' (first | exact trivial | exact insB_map _ | exact inB_ow rfl | exact inB_px rfl | exact inB_pr rfl | exact inB_sx rfl | refine And.intro ?_ ?_))
    · have h3 : out = cleanT s most := by
        rw [← h2]
        cases s.size + 1 - pos with
        | zero => rfl
        | succ f => unfold cleanF; rw [if_neg hp]
      repeat (first | (with_reducible apply aw_seq) | (with_reducible apply aw_reg) | (with_reducible apply rp_nil) | (with_reducible apply ae_norm) | ((with_reducible apply be_other); exact rfl) | ((with_reducible apply dr_nil); (first | kernel_rfl | exact rfl)) | ((with_reducible first | apply rp | apply dr); first | (exact does_next_end rfl rfl (by omega)) | ((with_reducible apply does_extract); exact rfl; exact rfl)) | ((with_reducible first | apply rp1 | apply dr1); first | (exact does_next_end rfl rfl (by omega))) | ((with_reducible first | apply rp2 | apply dr2); first | (exact does_next_end rfl rfl (by omega))) | ((with_reducible first | apply rpN | apply drN); first | (exact does_next_end rfl rfl (by omega))))
      refine aw_cond rfl (fun h => (by cases h)) (fun _ => ?_)
      repeat (first | (with_reducible apply aw_seq) | (with_reducible apply aw_reg) | (with_reducible apply rp_nil) | (with_reducible apply ae_norm) | (with_reducible apply aw_exit) | (with_reducible apply ae_exit) | (with_reducible apply be_exit) | (with_reducible apply aw_ret) | (with_reducible apply re_ret) | ((with_reducible apply be_other); exact rfl) | ((with_reducible apply dr_nil); (first | kernel_rfl | exact rfl)) | ((with_reducible first | apply rp | apply dr); first | ((with_reducible apply does_move); (conv => lhs; whnf)) | ((with_reducible apply does_assign); (conv => lhs; whnf))))
      (with_reducible apply ret_ok); (focus (repeat' (first | (with_reducible apply rv_nil) | (with_reducible apply rv_cons) | ((with_reducible apply rv_tmp); exact rfl) | ((with_reducible apply rv_cell); exact rfl; exact rfl; exact tyOk rfl; exact rfl; exact rfl) | ((with_reducible apply rv_rowd); exact rfl; exact rfl; exact tyOk rfl; exact rfl; (first | (with_reducible assumption) | exact rfl | ((try simp only [List.length_map]); first | assumption | omega) | (simp; omega))) | ((with_reducible apply rv_row); exact rfl; exact rfl; exact tyOk rfl; exact rfl; (first | exact Nat.le_of_ble_eq_true rfl | omega | (simp; omega)))))); (first | exact rfl | (focus repeat' (first | exact frzVs_one (frzV_map _ _) | exact rfl | (apply frzVs_cons; (first | exact frzV_map _ _ | exact rfl))))); refine SubD.of_eq ?_
      rw [h3]; rfl
end Go.Proofs.YtnkpnnphmimagaaDoor

