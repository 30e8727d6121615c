/-
  sum.Crc, tape.number, disk.Check, disk.Read as contracts. No condition but that the disk may be.
-/
import Derived.Test.YtpaccaojgbfjdaaZTapeF
import Derived.Test.YtpaccaojgbfjdaaZC
import Derived.Test.YtpaccaojgbfjdaaZPlAv
namespace Go.Proofs.Ytpaccaojgbfjdaa
set_option linter.unusedSimpArgs false
set_option linter.unusedVariables false
open Go.RowKit

theorem one32 (x : UInt32) : (((x &&& 1).toNat : Int) == 1) = decide (x &&& 1 = 1) := by
  rw [Bool.eq_iff_iff, beq_iff_eq, decide_eq_true_eq]
  constructor
  · intro h
    exact UInt32.toNat_inj.1 (by rw [show (1 : UInt32).toNat = 1 from rfl]; omega)
  · intro h
    rw [h]; rfl
set_option maxHeartbeats 2000000 in
theorem crc_pc (l : List UInt8) (hl : l.length ≤ 4611686018427387904) : PC Try.prog 32 [byD l] (.sc (.int .u32 (crcL l : Nat))) := by
  refine pc_of_aw Try.func32 rfl (by kernel_rfl) mixed (by kernel_rfl) (by rw [Try.ntmps32]; exact Nat.le_of_ble_eq_true rfl) Try.results32 ?_
  repeat (first | (with_reducible first | apply aw_seq | apply aw_reg | apply rp_nil | apply ae_norm | apply aw_block) | ((with_reducible apply rp); first | ((with_reducible apply does_move); (conv => lhs; whnf)) | ((with_reducible apply does_assign); (conv => lhs; whnf)) | ((with_reducible apply does_len_map); exact tyOk rfl; exact rfl; exact rfl)))
  refine aw_loop (fun n s => ∃ k, k ≤ l.length ∧ n = l.length - k ∧ s = ⟨[(3, .d (wD ((l.take k).foldl crcByte 4294967295))), (6, .d (byD l)), (7, .d (iD l.length)), (8, .d (iD k))], []⟩) _ _ ?_ ⟨0, by omega, rfl, rfl⟩ ?_
  · refine forget_of [] (by repeat' (first | exact ks_nil | (refine ks_cons rfl (by exact SubA.refl _) ?_))) (by repeat' exact trivial) rfl (by repeat' (first | exact trivial | refine And.intro ?_ ?_)) (by repeat' (first | exact trivial | refine And.intro ?_ ?_))
  · rintro n s1 ⟨k, hk, rfl, rfl⟩
    repeat (first | (with_reducible first | apply aw_seq | apply aw_reg | apply rp_nil | apply ae_norm) | ((with_reducible apply rp); ((with_reducible apply does_lt); exact rfl; exact rfl)))
    refine aw_cond rfl (fun hd => ?_) (fun hd => ?_)
    · have hlt : k < l.length := by simpa using hd
      clear hd
      obtain ⟨b, hb⟩ : ∃ b, l[k]? = some b := ⟨_, List.getElem?_eq_getElem hlt⟩
      have hg : (l.map fun c => [u8D c])[k]? = some [u8D b] := by rw [List.getElem?_map, hb]; rfl
      have hfin : (l.take (k + 1)).foldl crcByte 4294967295 = crcN 8 ((l.take k).foldl crcByte 4294967295 ^^^ b.toUInt32) := by
        rw [List.take_add_one, hb, List.foldl_append]; rfl
      generalize (l.take k).foldl crcByte 4294967295 = x at *
      repeat (first | (with_reducible first | apply aw_seq | apply aw_reg | apply rp_nil | apply ae_norm | apply aw_block | apply aw_skip) | ((with_reducible apply rp); first | (exact does_conv8_32 (tyOk rfl) (tyOk rfl) rfl rfl) | (exact does_xor32 rfl rfl) | ((with_reducible apply does_move); (conv => lhs; whnf)) | ((with_reducible apply does_assign); (conv => lhs; whnf)) | ((with_reducible apply does_load_elem); exact tyOk rfl; exact rfl; exact rfl; assumption; exact rfl) | ((with_reducible apply does_index_sl); exact tyOk rfl; exact rfl; exact tyOk rfl; exact rfl; exact rfl; exact rfl; exact rfl; (simp only [List.length_map, List.length_append, List.length_cons, List.length_nil] at *; omega))))
      refine aw_loop (fun n s => ∃ j, j ≤ 8 ∧ n = 8 - j ∧ s = ⟨[(3, .d (wD (crcN j (x ^^^ b.toUInt32)))), (6, .d (byD l)), (7, .d (iD l.length)), (8, .d (iD k)), (16, .d (iD j))], []⟩) _ _ ?_ ⟨0, by omega, rfl, rfl⟩ ?_
      · refine forget_of [] (by repeat' (first | exact ks_nil | (refine ks_cons rfl (by exact SubA.refl _) ?_))) (by repeat' exact trivial) rfl (by repeat' (first | exact trivial | refine And.intro ?_ ?_)) (by repeat' (first | exact trivial | refine And.intro ?_ ?_))
      · rintro n s1 ⟨j, hj, rfl, rfl⟩
        repeat (first | (with_reducible first | apply aw_seq | apply aw_reg | apply rp_nil | apply ae_norm) | ((with_reducible apply rp); ((with_reducible apply does_lt); exact rfl; exact rfl)))
        refine aw_cond rfl (fun hd => ?_) (fun hd => ?_)
        · have hlt8 : j < 8 := by simp at hd; omega
          clear hd
          have hst : crcN (j + 1) (x ^^^ b.toUInt32) = crcStep (crcN j (x ^^^ b.toUInt32)) := rfl
          generalize crcN j (x ^^^ b.toUInt32) = v at *
          unfold crcStep at hst
          repeat (first | (with_reducible first | apply aw_seq | apply aw_reg | apply rp_nil | apply ae_norm | apply aw_block | apply aw_skip) | ((with_reducible apply rp); first | (exact does_and32 (b := 1) rfl rfl) | ((with_reducible apply does_move); (conv => lhs; whnf)) | ((with_reducible apply does_eq); exact rfl; exact rfl)))
          refine aw_cond rfl (fun he => ?_) (fun he => ?_)
          · have hp : v &&& 1 = 1 := of_decide_eq_true ((one32 v).symm.trans he)
            rw [if_pos hp] at hst
            clear he hp
            repeat (first | (with_reducible first | apply aw_reg | apply rp_nil | apply ae_norm | apply be_norm) | ((with_reducible apply rp); first | (exact does_shr32 (s := 1) rfl rfl rfl (by decide)) | (exact does_xor32 (b := 2197175160) rfl rfl) | ((with_reducible apply does_move); (conv => lhs; whnf)) | ((with_reducible apply does_assign); (conv => lhs; whnf)) | ((with_reducible apply does_add); exact rfl; exact rfl; omega; omega)))
            refine ⟨_, _, ?_, ?_, j + 1, by omega, rfl, rfl⟩
            · omega
            · rw [hst]
              refine forget_of [] (by repeat' (first | exact ks_nil | (refine ks_cons rfl (by exact SubA.refl _) ?_))) (by repeat' exact trivial) rfl (by repeat' (first | exact trivial | refine And.intro ?_ ?_)) (by repeat' (first | exact trivial | refine And.intro ?_ ?_))
          · have hp : ¬ v &&& 1 = 1 := of_decide_eq_false ((one32 v).symm.trans he)
            rw [if_neg hp] at hst
            clear he hp
            repeat (first | (with_reducible first | apply aw_reg | apply rp_nil | apply ae_norm | apply be_norm) | ((with_reducible apply rp); first | (exact does_shr32 (s := 1) rfl rfl rfl (by decide)) | ((with_reducible apply does_move); (conv => lhs; whnf)) | ((with_reducible apply does_assign); (conv => lhs; whnf)) | ((with_reducible apply does_add); exact rfl; exact rfl; omega; omega)))
            refine ⟨_, _, ?_, ?_, j + 1, by omega, rfl, rfl⟩
            · omega
            · rw [hst]
              refine forget_of [] (by repeat' (first | exact ks_nil | (refine ks_cons rfl (by exact SubA.refl _) ?_))) (by repeat' exact trivial) rfl (by repeat' (first | exact trivial | refine And.intro ?_ ?_)) (by repeat' (first | exact trivial | refine And.intro ?_ ?_))
        · have hj8 : j = 8 := by simp at hd; omega
          subst hj8
          repeat (first | (with_reducible first | apply aw_reg | apply rp_nil | apply ae_norm | apply aw_exit | apply ae_exit | apply be_exit | apply be_norm) | ((with_reducible apply rp); first | ((with_reducible apply does_move); (conv => lhs; whnf)) | ((with_reducible apply does_add); exact rfl; exact rfl; omega; omega)))
          refine ⟨_, _, ?_, ?_, k + 1, by omega, rfl, rfl⟩
          · omega
          · rw [hfin]
            refine forget_of [] (by repeat' (first | exact ks_nil | (refine ks_cons rfl (by exact SubA.refl _) ?_))) (by repeat' exact trivial) rfl (by repeat' (first | exact trivial | refine And.intro ?_ ?_)) (by repeat' (first | exact trivial | refine And.intro ?_ ?_))
    · have hke : k = l.length := by simp at hd; omega
      subst hke
      rw [List.take_length]
      clear hd
      repeat (first | (with_reducible first | apply aw_seq | apply aw_reg | apply rp_nil | apply ae_norm | apply aw_exit | apply ae_exit | apply be_exit | apply aw_ret | apply re_ret) | ((with_reducible apply rp); first | (exact does_not32 rfl) | ((with_reducible apply does_move); (conv => lhs; whnf)) | ((with_reducible apply does_assign); (conv => lhs; whnf))))
      (with_reducible apply ret_ok); (focus (repeat' (first | (with_reducible apply rv_nil) | (with_reducible apply rv_cons) | ((with_reducible apply rv_tmp); exact rfl)))); exact rfl; refine SubD.of_eq ?_
      rfl
theorem numB_snoc (l : List UInt8) (b : UInt8) : numB (l ++ [b]) = numB l * 256 + b.toNat := by unfold numB; rw [List.foldl_append]; rfl
theorem numB_lt : ∀ l : List UInt8, numB l < 256 ^ l.length := by
  intro l
  rw [← List.reverse_reverse l]
  generalize l.reverse = m
  induction m with
  | nil => exact Nat.one_pos
  | cons b m ih =>
    rw [List.reverse_cons, numB_snoc, List.length_append, List.length_singleton, Nat.pow_succ]
    have := b.toNat_lt
    omega
theorem numB_4 {l : List UInt8} (h : l.length ≤ 4) : numB l < 4294967296 :=
  Nat.lt_of_lt_of_le (numB_lt l) (Nat.pow_le_pow_right (by omega) h)
set_option maxHeartbeats 2000000 in
theorem number_pc (l : List UInt8) (hl : l.length ≤ 4) : PC Try.prog 31 [byD l] (iD (numB l)) := by
  refine pc_of_aw Try.func31 rfl (by kernel_rfl) mixed (by kernel_rfl) (by rw [Try.ntmps31]; exact Nat.le_of_ble_eq_true rfl) Try.results31 ?_
  repeat (first | (with_reducible first | apply aw_seq | apply aw_reg | apply rp_nil | apply ae_norm | apply aw_block) | ((with_reducible apply rp); first | ((with_reducible apply does_move); (conv => lhs; whnf)) | ((with_reducible apply does_assign); (conv => lhs; whnf)) | ((with_reducible apply does_len_map); exact tyOk rfl; exact rfl; exact rfl)))
  refine aw_loop (fun n s => ∃ k, k ≤ l.length ∧ n = l.length - k ∧ s = ⟨[(3, .d (iD (numB (l.take k)))), (6, .d (byD l)), (7, .d (iD l.length)), (8, .d (iD k))], []⟩) _ _ ?_ ⟨0, by omega, rfl, rfl⟩ ?_
  · refine forget_of [] (by repeat' (first | exact ks_nil | (refine ks_cons rfl (by exact SubA.refl _) ?_))) (by repeat' exact trivial) rfl (by repeat' (first | exact trivial | refine And.intro ?_ ?_)) (by repeat' (first | exact trivial | refine And.intro ?_ ?_))
  · rintro n s1 ⟨k, hk, rfl, rfl⟩
    repeat (first | (with_reducible first | apply aw_seq | apply aw_reg | apply rp_nil | apply ae_norm) | ((with_reducible apply rp); ((with_reducible apply does_lt); exact rfl; exact rfl)))
    refine aw_cond rfl (fun hd => ?_) (fun hd => ?_)
    · have hlt : k < l.length := by simpa using hd
      clear hd
      obtain ⟨b, hb⟩ : ∃ b, l[k]? = some b := ⟨_, List.getElem?_eq_getElem hlt⟩
      have hg : (l.map fun c => [u8D c])[k]? = some [u8D b] := by rw [List.getElem?_map, hb]; rfl
      have hfin : numB (l.take (k + 1)) = numB (l.take k) * 256 + b.toNat := by
        rw [List.take_add_one, hb]; exact numB_snoc _ _
      have h4 := numB_4 (l := l.take k) (by rw [List.length_take]; omega)
      have hb8 := b.toNat_lt
      obtain ⟨z, hz⟩ : ∃ z, numB (l.take (k + 1)) = z := ⟨_, rfl⟩
      rw [hz] at hfin
      generalize numB (l.take k) = x at *
      repeat (first | (with_reducible first | apply aw_seq | apply aw_reg | apply rp_nil | apply ae_norm | apply aw_block | apply be_norm | apply aw_skip) | ((with_reducible apply rp); first | (exact does_conv_i64 (tyOk rfl) (tyOk rfl) rfl rfl (by omega) (by omega)) | (exact does_shl_n x 8 256 (x * 256) rfl rfl rfl rfl rfl (by omega) rfl (by omega)) | (exact does_or_join 8 256 x b.toNat z rfl rfl rfl rfl rfl (by omega) hfin.symm (by omega)) | ((with_reducible apply does_move); (conv => lhs; whnf)) | ((with_reducible apply does_assign); (conv => lhs; whnf)) | ((with_reducible apply does_load_elem); exact tyOk rfl; exact rfl; exact rfl; assumption; exact rfl) | ((with_reducible apply does_index_sl); exact tyOk rfl; exact rfl; exact tyOk rfl; exact rfl; exact rfl; exact rfl; exact rfl; (simp only [List.length_map, List.length_append, List.length_cons, List.length_nil] at *; omega)) | ((with_reducible apply does_add); exact rfl; exact rfl; omega; omega)))
      refine ⟨_, _, ?_, ?_, k + 1, by omega, rfl, rfl⟩
      · omega
      · rw [hz]
        refine forget_of [] (by repeat' (first | exact ks_nil | (refine ks_cons rfl (by exact SubA.refl _) ?_))) (by repeat' exact trivial) rfl (by repeat' (first | exact trivial | refine And.intro ?_ ?_)) (by repeat' (first | exact trivial | refine And.intro ?_ ?_))
    · have hke : k = l.length := by simp at hd; omega
      subst hke
      rw [List.take_length]
      clear hd
      repeat (first | (with_reducible first | apply aw_seq | apply aw_reg | apply rp_nil | apply ae_norm | apply aw_exit | apply ae_exit | apply be_exit | apply aw_ret | apply re_ret) | ((with_reducible apply rp); first | ((with_reducible apply does_move); (conv => lhs; whnf)) | ((with_reducible apply does_assign); (conv => lhs; whnf))))
      (with_reducible apply ret_ok); (focus (repeat' (first | (with_reducible apply rv_nil) | (with_reducible apply rv_cons) | ((with_reducible apply rv_tmp); exact rfl)))); exact rfl; refine SubD.of_eq ?_
      rfl

/-! ### a disk -/
abbrev secC (s : List UInt8) : List D := s.map u8D
abbrev lastsD (l : List (List UInt8)) : D := .sl 32 (l.map secC)
def putC (w : Nat × List UInt8) : List D := iD w.1 :: secC w.2
abbrev putsD (l : List (Nat × List UInt8)) : D := .sl 33 (l.map putC)
abbrev dkC (d : Dk) : List D := [lastsD d.lasts, putsD d.writes]
abbrev dkD (d : Dk) : D := .ag (dkC d)
set_option maxHeartbeats 4000000 in
theorem check_pc (d : Dk) (h : DkOk d) : PC Try.prog 50 [dkD d] (iD 0) := by
  obtain ⟨lasts, writes⟩ := d
  obtain ⟨h1, h2, h3, h4, h5, h6⟩ := h
  dsimp only at *
  refine pc_of_aw Try.func50 rfl (by kernel_rfl) mixed (by kernel_rfl) (by rw [Try.ntmps50]; exact Nat.le_of_ble_eq_true rfl) Try.results50 ?_
  repeat (first | (with_reducible first | apply aw_seq | apply aw_reg | apply rp_nil | apply ae_norm | apply aw_block | apply aw_skip) | ((first | (with_reducible apply rp) | ((with_reducible apply rpG); exact rfl; exact gval_f rfl; (focus repeat' (first | exact trivial | exact fun h => h | refine And.intro ?_ ?_)); intro hgd; have hgd0 := hgd; (try simp only [decide_eq_true_eq, Bool.and_eq_true, Bool.not_eq_true', beq_iff_eq] at hgd))); first | ((with_reducible apply does_move); (conv => lhs; whnf)) | ((with_reducible apply does_assign); (conv => lhs; whnf)) | ((with_reducible apply does_or); exact rfl; exact rfl; exact rfl; exact fun h => h) | ((with_reducible apply does_fieldAddr); exact tyOk rfl; exact rfl; exact rfl; decide; exact rfl) | ((with_reducible apply does_load_var); exact tyOk rfl; exact rfl; exact rfl; exact rfl; exact rfl) | ((with_reducible apply does_lt); exact rfl; exact rfl) | ((with_reducible apply does_gt); exact rfl; exact rfl) | ((with_reducible apply does_len_map); exact tyOk rfl; exact rfl; exact rfl)) | ((with_reducible apply rp1); ((with_reducible apply does_box_ag); exact rfl; exact rfl)) | ((with_reducible apply aw_cond); exact rfl; (focus (intro hd; (exfalso; simp at hd; omega))); (intro hd; clear hd)))
  refine aw_loop (fun n s => ∃ k, k ≤ writes.length ∧ n = writes.length - k ∧ s = ⟨[(1, .px 1 0), (22, .d (putsD writes)), (23, .d (iD writes.length)), (24, .d (iD k))], [(1, .var 26 [.d (lastsD lasts), .d (putsD writes)])]⟩) _ _ ?_ ⟨0, by omega, rfl, rfl⟩ ?_
  · refine forget_of [] (by repeat' (first | exact ks_nil | (refine ks_cons rfl (by exact SubA.refl _) ?_))) (by repeat' (first | exact trivial | exact rfl | refine And.intro ?_ ?_)) rfl (by repeat' (first | exact trivial | exact inB_px rfl | refine And.intro ?_ ?_)) (by repeat' (first | exact trivial | exact inB_px rfl | refine And.intro ?_ ?_))
  · rintro n s1 ⟨k, hk, rfl, rfl⟩
    repeat (first | (with_reducible first | apply aw_seq | apply aw_reg | apply rp_nil | apply ae_norm) | ((with_reducible apply rp); ((with_reducible apply does_lt); exact rfl; exact rfl)))
    refine aw_cond rfl (fun hd => ?_) (fun hd => ?_)
    · have hlt : k < writes.length := by simpa using hd
      clear hd
      obtain ⟨w, hw⟩ : ∃ w, writes[k]? = some w := ⟨_, List.getElem?_eq_getElem hlt⟩
      have hm := List.mem_of_getElem? hw
      have hat := h4 w hm
      have hsl := h6 w hm
      have hg : (writes.map putC)[k]? = some (iD w.1 :: secC w.2) := by rw [List.getElem?_map, hw]; rfl
      obtain ⟨c, hc⟩ : ∃ c, secC w.2 = c := ⟨_, rfl⟩
      have hcl : (iD w.1 :: c).length = 33 := by rw [← hc, List.length_cons, List.length_map, hsl]
      rw [hc] at hg
      clear hc hsl hm
      repeat (first | (with_reducible first | apply aw_seq | apply aw_reg | apply rp_nil | apply ae_norm | apply aw_block | apply be_norm | apply aw_skip) | ((first | (with_reducible apply rp) | ((with_reducible apply rpG); exact rfl; exact gval_f rfl; (focus repeat' (first | exact trivial | exact fun h => h | refine And.intro ?_ ?_)); intro hgd; have hgd0 := hgd; (try simp only [decide_eq_true_eq, Bool.and_eq_true, Bool.not_eq_true', beq_iff_eq] at hgd))); first | (exact does_load_elem_whole (tyOk rfl) rfl rfl hg hcl) | ((with_reducible apply does_move); (conv => lhs; whnf)) | ((with_reducible apply does_or); exact rfl; exact rfl; exact rfl; exact fun h => h) | ((with_reducible apply does_fieldAddr); exact tyOk rfl; exact rfl; exact rfl; decide; exact rfl) | ((with_reducible apply does_load_var); exact tyOk rfl; exact rfl; exact rfl; exact rfl; exact rfl) | ((with_reducible apply does_index_sl); exact tyOk rfl; exact rfl; exact tyOk rfl; exact rfl; exact rfl; exact rfl; exact rfl; (simp only [List.length_map, List.length_append, List.length_cons, List.length_nil] at *; omega)) | ((with_reducible apply does_lt); exact rfl; exact rfl) | ((with_reducible apply does_ge); exact rfl; exact rfl) | ((with_reducible apply does_add); exact rfl; exact rfl; omega; omega) | ((with_reducible apply does_len_map); exact tyOk rfl; exact rfl; exact rfl)) | ((with_reducible apply rp1); ((with_reducible apply does_alloc); exact tyOk rfl; exact rfl)) | ((with_reducible apply rpN); (exact does_store_whole (tyOk rfl) rfl rfl rfl hcl hcl)) | ((with_reducible apply aw_cond); exact rfl; (focus (intro hd; (exfalso; simp at hd; omega))); (intro hd; clear hd)))
      refine ⟨_, _, ?_, ?_, k + 1, by omega, rfl, rfl⟩
      · omega
      · refine forget_of [] (by repeat' (first | exact ks_nil | (refine ks_cons rfl (by exact SubA.refl _) ?_))) (by repeat' (first | exact trivial | exact rfl | refine And.intro ?_ ?_)) rfl (by repeat' (first | exact trivial | exact inB_px rfl | refine And.intro ?_ ?_)) (by repeat' (first | exact trivial | exact inB_px rfl | refine And.intro ?_ ?_))
    · have hke : k = writes.length := by simp at hd; omega
      clear hd
      repeat (first | (with_reducible first | apply aw_seq | apply aw_reg | apply rp_nil | apply ae_norm | apply aw_exit | apply ae_exit | apply be_exit | apply aw_ret | apply re_ret) | ((with_reducible apply rp); ((with_reducible apply does_assign); (conv => lhs; whnf))))
      (with_reducible apply ret_ok); (focus (repeat' (first | (with_reducible apply rv_nil) | (with_reducible apply rv_cons) | ((with_reducible apply rv_tmp); exact rfl)))); exact rfl; refine SubD.of_eq ?_
      rfl
end Go.Proofs.Ytpaccaojgbfjdaa

