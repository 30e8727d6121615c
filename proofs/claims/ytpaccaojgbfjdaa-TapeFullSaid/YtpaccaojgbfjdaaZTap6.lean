/-
  tape.framed, Open as contracts, on a tape that is one. No condition.
-/
import Derived.Test.YtpaccaojgbfjdaaZTap5
import Derived.Test.YtpaccaojgbfjdaaZLstT
namespace Go.Proofs.Ytpaccaojgbfjdaa
set_option linter.unusedSimpArgs false
set_option linter.unusedVariables false
open Go.RowKit

theorem w_b8 (a : UInt32) (k : Nat) (hk : k < 32) : (a >>> UInt32.ofNat k).toUInt8 = b8 (a.toNat / 2 ^ k) := by
  refine UInt8.toNat_inj.1 ?_
  rw [b8_toNat, UInt32.toNat_toUInt8, UInt32.toNat_shiftRight, UInt32.toNat_ofNat', Nat.shiftRight_eq_div_pow]
  congr 3
  omega
theorem w_b0 (a : UInt32) : a.toUInt8 = b8 a.toNat := by
  refine UInt8.toNat_inj.1 ?_
  rw [b8_toNat, UInt32.toNat_toUInt8]
set_option maxHeartbeats 2000000 in
theorem framed_pc (r : List UInt8) (hr : r.length ≤ 310) : PC Try.prog 27 [byD r] (byD (recB r)) := by
  have c1 : PC Try.prog 32 [byD r] (wD (crcW r)) := crc_pc r (by omega)
  unfold recB crcL
  generalize crcW r = a at *
  have e24 := w_b8 a 24 (by omega)
  have e16 := w_b8 a 16 (by omega)
  have e8 := w_b8 a 8 (by omega)
  have e0 := w_b0 a
  refine pc_of_aw Try.func27 rfl (by kernel_rfl) mixed (by kernel_rfl) (by rw [Try.ntmps27]; exact Nat.le_of_ble_eq_true rfl) Try.results27 ?_
  repeat (first | ((first | (with_reducible apply rpGT) | (with_reducible apply drGT) | (with_reducible apply rpGTN) | (with_reducible apply drGTN)); exact rfl; (first | exact gval_t rfl | exact gval_f rfl | exact gval_gt rfl | exact gval_gf rfl); (first | exact rfl | assumption | decide); (focus repeat' (first | exact trivial | exact fun h => h | refine And.intro ?_ ?_ | (intro h; (first | exact h | (simp only [Bool.and_eq_true] at h; (first | exact h.1 | exact h.1.1 | exact h.1.1.1 | exact h.2)) | (rw [h]; rfl) | (rw [hgd0, h]; rfl) | simp_all)))); ((first | ((with_reducible apply does_call_flat); exact rfl; exact rfl; exact (c1); exact rfl) | (exact does_shr_p (k := 8) (z := ((r.length / 256 : Nat) : Int)) rfl rfl rfl (by decide) (by omega)) | (exact does_conv_b8 (m := r.length / 256) (tyOk rfl) (tyOk rfl) rfl rfl rfl) | (exact does_conv_b8 (m := r.length) (tyOk rfl) (tyOk rfl) rfl rfl rfl) | (exact does_shr32 (s := 24) rfl rfl rfl (by decide)) | (exact does_shr32 (s := 16) rfl rfl rfl (by decide)) | (exact does_shr32 (s := 8) rfl rfl rfl (by decide)) | (exact does_conv32_8 (tyOk rfl) (tyOk rfl) rfl rfl) | ((with_reducible apply does_move); (conv => lhs; whnf)) | ((with_reducible apply does_assign); (conv => lhs; whnf)) | ((with_reducible apply does_len_map); exact tyOk rfl; exact rfl; exact rfl) | ((with_reducible apply does_buildSlice); exact tyOk rfl; exact rfl; exact tyOk rfl; exact rfl; exact rfl; (focus repeat' (first | exact trivial | refine And.intro rfl (And.intro rfl ?_))); decide; decide; exact rfl) | ((with_reducible apply does_append_own); exact tyOk rfl; exact rfl; exact tyOk rfl; exact rfl; exact rfl; exact rfl; decide; (first | (dsimp only; simp only [List.length_map, List.length_append, List.length_cons, List.length_nil] at *; omega) | (simp only [List.length_map, List.length_append, List.length_cons, List.length_nil] at *; omega)); (first | (dsimp only; simp only [List.length_map, List.length_append, List.length_cons, List.length_nil] at *; omega) | (simp only [List.length_map, List.length_append, List.length_cons, List.length_nil] at *; omega)); exact rfl)); (first | exact lapp_nil _ | exact lapp_1 _ _ | exact lapp_2 _ _ _ | exact lapp_3 _ _ _ _))) | (with_reducible first | apply aw_seq | apply aw_reg | apply rp_nil | apply ae_norm | apply aw_ret | apply re_ret) | ((with_reducible apply rp); first | ((with_reducible apply does_call_flat); exact rfl; exact rfl; exact (c1); exact rfl) | (exact does_shr_p (k := 8) (z := ((r.length / 256 : Nat) : Int)) rfl rfl rfl (by decide) (by omega)) | (exact does_conv_b8 (m := r.length / 256) (tyOk rfl) (tyOk rfl) rfl rfl rfl) | (exact does_conv_b8 (m := r.length) (tyOk rfl) (tyOk rfl) rfl rfl rfl) | (exact does_shr32 (s := 24) rfl rfl rfl (by decide)) | (exact does_shr32 (s := 16) rfl rfl rfl (by decide)) | (exact does_shr32 (s := 8) rfl rfl rfl (by decide)) | (exact does_conv32_8 (tyOk rfl) (tyOk rfl) rfl rfl) | ((with_reducible apply does_move); (conv => lhs; whnf)) | ((with_reducible apply does_assign); (conv => lhs; whnf)) | ((with_reducible apply does_len_map); exact tyOk rfl; exact rfl; exact rfl)) | ((with_reducible apply rp1); ((with_reducible apply does_buildSlice); exact tyOk rfl; exact rfl; exact tyOk rfl; exact rfl; exact rfl; (focus repeat' (first | exact trivial | refine And.intro rfl (And.intro rfl ?_))); decide; decide; exact rfl)) | ((with_reducible apply rp2); ((with_reducible apply does_append_own); exact tyOk rfl; exact rfl; exact tyOk rfl; exact rfl; exact rfl; exact rfl; decide; (first | (dsimp only; simp only [List.length_map, List.length_append, List.length_cons, List.length_nil] at *; omega) | (simp only [List.length_map, List.length_append, List.length_cons, List.length_nil] at *; omega)); (first | (dsimp only; simp only [List.length_map, List.length_append, List.length_cons, List.length_nil] at *; omega) | (simp only [List.length_map, List.length_append, List.length_cons, List.length_nil] at *; omega)); exact rfl)))
  (with_reducible apply ret_ok); (focus (repeat' (first | (with_reducible apply rv_nil) | (with_reducible apply rv_cons) | ((with_reducible apply rv_tmp); exact rfl)))); exact rfl; refine SubD.of_eq ?_
  rw [e24, e16, e8, e0]
  rfl
/-! ### the parts of a record -/
theorem rec_2 (r rest : List UInt8) : (recB r ++ rest).take 2 = [b8 (r.length / 256), b8 r.length] := rfl
theorem rec_6 (r rest : List UInt8) : ((recB r ++ rest).take 6).drop 2 = [b8 (crcL r / 16777216), b8 (crcL r / 65536), b8 (crcL r / 256), b8 (crcL r)] := rfl
theorem rec_r (r rest : List UInt8) : ((recB r ++ rest).take (6 + r.length)).drop 6 = r := by
  rw [List.take_append_of_le_length (by rw [recB_len]; omega), List.take_of_length_le (by rw [recB_len]; omega)]
  rfl
theorem rec_rest (r rest : List UInt8) : (recB r ++ rest).drop (6 + r.length) = rest := by
  rw [← recB_len, List.drop_left]
theorem num_2 (n : Nat) (h : n < 65536) : numB [b8 (n / 256), b8 n] = n := by
  simp only [numB, List.foldl_cons, List.foldl_nil, b8_toNat]; omega
theorem num_4 (n : Nat) (h : n < 4294967296) : numB [b8 (n / 16777216), b8 (n / 65536), b8 (n / 256), b8 n] = n := by
  simp only [numB, List.foldl_cons, List.foldl_nil, b8_toNat]; omega
section
variable {P : Program} {dst : Option Nat} {ty : TypeId} {e : Operand → A} {β : Bx} {T T' : TypeId} {x y : Operand} {k : IntKind} {m n : Int} {b : Bool}
theorem does_lt_b (hd : decide (m < n) = b) (hx : e x = .d (.sc (.int k m))) (hy : e y = .d (.sc (.int k n))) : Does P dst (.binOp .lss T x y T') ty e β (.d (bD b)) [] [] := by
  subst hd; exact does_lt hx hy
theorem does_gt_b (hd : decide (m > n) = b) (hx : e x = .d (.sc (.int k m))) (hy : e y = .d (.sc (.int k n))) : Does P dst (.binOp .gtr T x y T') ty e β (.d (bD b)) [] [] := by
  subst hd; exact does_gt hx hy
theorem does_ne_b (hd : (m != n) = b) (hx : e x = .d (.sc (.int k m))) (hy : e y = .d (.sc (.int k n))) : Does P dst (.binOp .neq T x y T') ty e β (.d (bD b)) [] [] := by
  subst hd; exact does_ne hx hy
theorem does_conv_u32 {S : TypeId} {s t : TyI} {m : Nat} (hs : mkTy P S = some s) (ht : mkTy P T = some t) (hk : t.kind = .int .u32) (hx : e x = .d (iD m)) (h : m < 4294967296) : Does P dst (.convert S T x) ty e β (.d (.sc (.int .u32 (m : Nat)))) [] [] := by
  have h0 := does_conv_int (P := P) (dst := dst) (ty := ty) (β := β) hs ht hk hx
  have e1 : IntKind.u32.wrap ((m : Nat) : Int) = (m : Int) := by
    show ((m : Int)) % 4294967296 = _
    omega
  rwa [e1] at h0
theorem does_sub_to' {m n z : Int} (hz : m - n = z) (h1 : -9223372036854775808 ≤ z) (h2 : z ≤ 9223372036854775807) (hx : e x = .d (iD m)) (hy : e y = .d (iD n)) : Does P dst (.binOp .sub T x y T') ty e β (.d (iD z)) [] [] := by
  subst hz; exact does_sub hx hy h1 h2
end
theorem recsB_drop {recs : List (List UInt8)} {k : Nat} {r : List UInt8} (h : recs[k]? = some r) : recsB (recs.drop k) = recB r ++ recsB (recs.drop (k + 1)) := by
  obtain ⟨hlt, rfl⟩ := List.getElem?_eq_some_iff.1 h
  rw [List.drop_eq_getElem_cons hlt]
  rfl
theorem nil_ls : SubD (resD [.nl, iD 0]) (.tu [byL [], iD 0]) := SubD.tu (SubDs.cons (SubD.nil 1) (fun _ => rfl) (SubDs.refl _))
set_option maxHeartbeats 8000000 in
theorem open_pc (d : Dk) (recs : List (List UInt8)) (h : Tape d recs) : PC Try.prog 14 [dkD d] (.tu [byL recs, iD 0]) := by
  have g1 := good_pc d recs h
  have hs := h.small
  have hok := h.recs
  have hdl : ∀ k, (recsB (recs.drop k)).length ≤ 12768 ∧ recs.length ≤ 12768 := by
    have hle : ∀ l : List (List UInt8), l.length ≤ (recsB l).length := fun l => by
      induction l with
      | nil => exact Nat.le_refl _
      | cons q l ih => rw [recsB, List.length_append, recB_len, List.length_cons]; omega
    have hd : ∀ (l : List (List UInt8)) (k : Nat), (recsB (l.drop k)).length ≤ (recsB l).length := fun l => by
      induction l with
      | nil => intro k; rw [List.drop_nil]; exact Nat.le_refl _
      | cons q l ih =>
        intro k
        cases k with
        | zero => exact Nat.le_refl _
        | succ k =>
          rw [List.drop_succ_cons, recsB, List.length_append]
          have := ih k
          omega
    exact fun k => ⟨Nat.le_trans (hd recs k) hs, Nat.le_trans (hle recs) hs⟩
  clear h
  refine pc_of_aw Try.func14 rfl (by kernel_rfl) mixed (by kernel_rfl) (by rw [Try.ntmps14]; exact Nat.le_of_ble_eq_true rfl) Try.results14 ?_
  repeat (first | ((first | (with_reducible apply rpGT) | (with_reducible apply drGT) | (with_reducible apply rpGTN) | (with_reducible apply drGTN)); exact rfl; (first | exact gval_t rfl | exact gval_f rfl | exact gval_gt rfl | exact gval_gf rfl); (first | exact rfl | assumption | decide); (focus repeat' (first | exact trivial | exact fun h => h | refine And.intro ?_ ?_ | (intro h; (first | exact h | (simp only [Bool.and_eq_true] at h; (first | exact h.1 | exact h.1.1 | exact h.1.1.1 | exact h.2)) | (rw [h]; rfl) | (rw [hgd0, h]; rfl) | simp_all)))); ((first | ((with_reducible apply does_call'); exact rfl; exact rfl; exact rfl; exact (g1)) | ((with_reducible apply does_move); (conv => lhs; whnf)) | ((with_reducible apply does_assign); (conv => lhs; whnf)) | ((with_reducible apply does_load_row); exact tyOk rfl; exact rfl; exact rfl; exact rfl; exact Nat.le_of_ble_eq_true rfl; exact rfl) | ((with_reducible apply does_ne); exact rfl; exact rfl) | ((with_reducible apply does_extract); exact rfl; exact rfl) | ((with_reducible apply does_box_ag); exact rfl; exact rfl)); (first | exact lapp_nil _ | exact lapp_1 _ _ | exact lapp_2 _ _ _ | exact lapp_3 _ _ _ _))) | (with_reducible first | apply aw_seq | apply aw_reg | apply rp_nil | apply ae_norm | apply aw_block | apply aw_skip) | ((with_reducible apply rp); first | ((with_reducible apply does_call'); exact rfl; exact rfl; exact rfl; exact (g1)) | ((with_reducible apply does_move); (conv => lhs; whnf)) | ((with_reducible apply does_assign); (conv => lhs; whnf)) | ((with_reducible apply does_load_row); exact tyOk rfl; exact rfl; exact rfl; exact rfl; exact Nat.le_of_ble_eq_true rfl; exact rfl) | ((with_reducible apply does_ne); exact rfl; exact rfl) | ((with_reducible apply does_extract); exact rfl; exact rfl)) | ((with_reducible apply rp1); ((with_reducible apply does_box_ag); exact rfl; exact rfl)) | ((with_reducible apply aw_cond); exact rfl; (focus (intro hd; (cases hd; done))); (intro hd; clear hd)))
  refine aw_loop (fun m st => (m = recs.length ∧ st = ⟨[(4, .d (byD (recsB (recs.drop 0)))), (6, .d .nl)], []⟩) ∨
    ∃ k : Nat, 1 ≤ k ∧ k ≤ recs.length ∧ m = recs.length - k ∧ st = ⟨[(4, .d (byD (recsB (recs.drop k)))), (6, .ow 6 (recs.take k).length)], [(6, .row 32 1 ((recs.take k).map fun p => [byD p]))]⟩) _ _ ?_ (.inl ⟨rfl, rfl⟩) ?_
  · refine forget_of [] (by repeat' (first | exact ks_nil | (refine ks_cons rfl (by exact SubA.refl _) ?_))) (by repeat' exact trivial) rfl (by repeat' (first | exact trivial | refine And.intro ?_ ?_)) (by repeat' (first | exact trivial | refine And.intro ?_ ?_))
  · rintro m st (⟨rfl, rfl⟩ | ⟨k, hk1, hk, rfl, rfl⟩)
    · repeat (first | ((first | (with_reducible apply rpGT) | (with_reducible apply drGT) | (with_reducible apply rpGTN) | (with_reducible apply drGTN)); exact rfl; (first | exact gval_t rfl | exact gval_f rfl | exact gval_gt rfl | exact gval_gf rfl); (first | exact rfl | assumption | decide); (focus repeat' (first | exact trivial | exact fun h => h | refine And.intro ?_ ?_ | (intro h; (first | exact h | (simp only [Bool.and_eq_true] at h; (first | exact h.1 | exact h.1.1 | exact h.1.1.1 | exact h.2)) | (rw [h]; rfl) | (rw [hgd0, h]; rfl) | simp_all)))); ((first | ((with_reducible apply does_move); (conv => lhs; whnf)) | ((with_reducible apply does_gt); exact rfl; exact rfl) | ((with_reducible apply does_len_map); exact tyOk rfl; exact rfl; exact rfl)); (first | exact lapp_nil _ | exact lapp_1 _ _ | exact lapp_2 _ _ _ | exact lapp_3 _ _ _ _))) | (with_reducible first | apply aw_seq | apply aw_reg | apply rp_nil | apply ae_norm) | ((with_reducible apply rp); first | ((with_reducible apply does_move); (conv => lhs; whnf)) | ((with_reducible apply does_gt); exact rfl; exact rfl) | ((with_reducible apply does_len_map); exact tyOk rfl; exact rfl; exact rfl)))
      refine aw_cond rfl (fun hd => ?_) (fun hd => ?_)
      · obtain ⟨r, hr⟩ : ∃ r, recs[0]? = some r := by
          cases recs with
          | nil => exact absurd hd (by decide)
          | cons r l => exact ⟨r, rfl⟩
        have hl0 : 0 < recs.length := (List.getElem?_eq_some_iff.1 hr).1
        have hro := hok r (List.mem_of_getElem? hr)
        unfold RecOk at hro
        have hrd := recsB_drop hr
        obtain ⟨h12, hrl⟩ := hdl 0
        have hdt : ((recs.take (0 + 1)).map fun p => [byD p]) = ((recs.take 0).map fun p => [byD p]) ++ [[byD r]] := by rw [List.take_add_one, hr, List.map_append]; rfl
        have hln : (recs.take (0 + 1)).length = (recs.take 0).length + 1 := by rw [List.length_take, List.length_take]; omega
        rw [hrd] at h12 ⊢
        obtain ⟨rest, hrest⟩ : ∃ rest, recsB (recs.drop (0 + 1)) = rest := ⟨_, rfl⟩
        rw [hrest] at h12 hrd ⊢
        have n1 := number_pc [b8 (r.length / 256), b8 r.length] (by simp)
        rw [num_2 _ (by omega)] at n1
        have n2 := number_pc [b8 (crcL r / 16777216), b8 (crcL r / 65536), b8 (crcL r / 256), b8 (crcL r)] (by simp)
        have hc4 := crcL_lt r
        rw [num_4 _ hc4] at n2
        have c1 := crc_pc r (by omega)
        have s2 := rec_2 r rest
        have s6 := rec_6 r rest
        have sr := rec_r r rest
        have sz := rec_rest r rest
        have hbl : (recB r ++ rest).length = 6 + r.length + rest.length := by rw [List.length_append, recB_len]
        generalize recB r ++ rest = b at *
        generalize crcL r = c at *
        have sz2 : (b.take b.length).drop (6 + r.length) = rest := by rw [List.take_length]; exact sz
        have d1 : decide (((b.length : Nat) : Int) < 6) = false := decide_eq_false (by omega)
        have d2 : decide (((r.length : Nat) : Int) < 1) = false := decide_eq_false (by omega)
        have d3 : decide (((r.length : Nat) : Int) > 310) = false := decide_eq_false (by omega)
        have d4 : decide (((r.length : Nat) : Int) > ((r.length + rest.length : Nat) : Int)) = false := decide_eq_false (by omega)
        have d5 : (((c : Nat) : Int) != ((c : Nat) : Int)) = false := by simp
        repeat (first | ((first | (with_reducible apply rpGT) | (with_reducible apply drGT) | (with_reducible apply rpGTN) | (with_reducible apply drGTN)); exact rfl; exact gval_f rfl; (first | exact rfl | assumption | decide); (focus repeat' (first | exact trivial | refine And.intro ?_ ?_)); ((first | (exact does_lt_b d1 rfl rfl) | (exact does_slice_bl (l := 0) (h := 2) (c := [b8 (r.length / 256), b8 r.length]) (tyOk rfl) rfl (tyOk rfl) rfl rfl rfl ⟨_, _, rfl, rfl⟩ (by omega) (by omega) s2) | ((with_reducible apply does_call_flat); exact rfl; exact rfl; exact (n1); exact rfl) | (exact does_lt_b d2 rfl rfl) | (exact does_gt_b d3 rfl rfl) | (exact does_sub_to' (z := ((r.length + rest.length : Nat) : Int)) (by omega) (by omega) (by omega) rfl rfl) | (exact does_gt_b d4 rfl rfl) | (exact does_slice_bl (l := 2) (h := 6) (c := [b8 (c / 16777216), b8 (c / 65536), b8 (c / 256), b8 c]) (tyOk rfl) rfl (tyOk rfl) rfl rfl ⟨_, _, rfl, rfl⟩ ⟨_, _, rfl, rfl⟩ (by omega) (by omega) s6) | ((with_reducible apply does_call_flat); exact rfl; exact rfl; exact (n2); exact rfl) | (exact does_conv_u32 (tyOk rfl) (tyOk rfl) rfl rfl hc4) | (exact does_add_to (z := ((6 + r.length : Nat) : Int)) rfl rfl (by omega) (by omega) (by omega)) | (exact does_slice_bl (l := 6) (h := 6 + r.length) (c := r) (tyOk rfl) rfl (tyOk rfl) rfl rfl ⟨_, _, rfl, rfl⟩ ⟨_, _, rfl, rfl⟩ (by omega) (by omega) sr) | ((with_reducible apply does_call_flat); exact rfl; exact rfl; exact (c1); exact rfl) | (exact does_ne_b d5 rfl rfl) | (exact does_build_f (t := 56) (tyOk rfl) rfl (tyOk rfl) rfl rfl rfl rfl (by decide)) | (exact does_slice_bl (l := 6 + r.length) (h := b.length) (c := rest) (tyOk rfl) rfl (tyOk rfl) rfl rfl ⟨_, _, rfl, rfl⟩ rfl (by omega) (by omega) sz2) | ((with_reducible apply does_move); (conv => lhs; whnf)) | ((with_reducible apply does_assign); (conv => lhs; whnf)) | ((with_reducible apply does_and); exact rfl; exact rfl; exact rfl; exact trivial) | ((with_reducible apply does_len_map); exact tyOk rfl; exact rfl; exact rfl) | ((with_reducible apply does_buildSlice); exact tyOk rfl; exact rfl; exact tyOk rfl; exact rfl; exact rfl; (focus repeat' (first | exact trivial | refine And.intro rfl (And.intro rfl ?_))); decide; decide; exact rfl) | ((with_reducible apply does_append_nil); exact tyOk rfl; exact rfl; exact tyOk rfl; exact rfl; exact rfl; decide; (first | (dsimp only; simp only [List.length_map, List.length_append, List.length_cons, List.length_nil] at *; omega) | (simp only [List.length_map, List.length_append, List.length_cons, List.length_nil] at *; omega)); (first | (dsimp only; simp only [List.length_map, List.length_append, List.length_cons, List.length_nil] at *; omega) | (simp only [List.length_map, List.length_append, List.length_cons, List.length_nil] at *; omega)); exact rfl) | ((with_reducible apply does_append_own); exact tyOk rfl; exact rfl; exact tyOk rfl; exact rfl; exact rfl; exact rfl; decide; (first | (dsimp only; simp only [List.length_map, List.length_append, List.length_cons, List.length_nil] at *; omega) | (simp only [List.length_map, List.length_append, List.length_cons, List.length_nil] at *; omega)); (first | (dsimp only; simp only [List.length_map, List.length_append, List.length_cons, List.length_nil] at *; omega) | (simp only [List.length_map, List.length_append, List.length_cons, List.length_nil] at *; omega)); exact rfl)); (first | exact lapp_nil _ | exact lapp_1 _ _ | exact lapp_2 _ _ _ | exact lapp_3 _ _ _ _))) | (with_reducible first | apply aw_seq | apply aw_reg | apply rp_nil | apply ae_norm | apply aw_regD | apply aw_block | apply be_norm | apply aw_skip) | ((with_reducible apply dr_nil); (first | kernel_rfl | exact rfl)) | ((with_reducible first | apply rp | apply dr); first | (exact does_lt_b d1 rfl rfl) | (exact does_slice_bl (l := 0) (h := 2) (c := [b8 (r.length / 256), b8 r.length]) (tyOk rfl) rfl (tyOk rfl) rfl rfl rfl ⟨_, _, rfl, rfl⟩ (by omega) (by omega) s2) | ((with_reducible apply does_call_flat); exact rfl; exact rfl; exact (n1); exact rfl) | (exact does_lt_b d2 rfl rfl) | (exact does_gt_b d3 rfl rfl) | (exact does_sub_to' (z := ((r.length + rest.length : Nat) : Int)) (by omega) (by omega) (by omega) rfl rfl) | (exact does_gt_b d4 rfl rfl) | (exact does_slice_bl (l := 2) (h := 6) (c := [b8 (c / 16777216), b8 (c / 65536), b8 (c / 256), b8 c]) (tyOk rfl) rfl (tyOk rfl) rfl rfl ⟨_, _, rfl, rfl⟩ ⟨_, _, rfl, rfl⟩ (by omega) (by omega) s6) | ((with_reducible apply does_call_flat); exact rfl; exact rfl; exact (n2); exact rfl) | (exact does_conv_u32 (tyOk rfl) (tyOk rfl) rfl rfl hc4) | (exact does_add_to (z := ((6 + r.length : Nat) : Int)) rfl rfl (by omega) (by omega) (by omega)) | (exact does_slice_bl (l := 6) (h := 6 + r.length) (c := r) (tyOk rfl) rfl (tyOk rfl) rfl rfl ⟨_, _, rfl, rfl⟩ ⟨_, _, rfl, rfl⟩ (by omega) (by omega) sr) | ((with_reducible apply does_call_flat); exact rfl; exact rfl; exact (c1); exact rfl) | (exact does_ne_b d5 rfl rfl) | (exact does_slice_bl (l := 6 + r.length) (h := b.length) (c := rest) (tyOk rfl) rfl (tyOk rfl) rfl rfl ⟨_, _, rfl, rfl⟩ rfl (by omega) (by omega) sz2) | ((with_reducible apply does_move); (conv => lhs; whnf)) | ((with_reducible apply does_assign); (conv => lhs; whnf)) | ((with_reducible apply does_and); exact rfl; exact rfl; exact rfl; exact trivial) | ((with_reducible apply does_len_map); exact tyOk rfl; exact rfl; exact rfl)) | ((with_reducible apply rp1); first | ((with_reducible apply does_buildSlice); exact tyOk rfl; exact rfl; exact tyOk rfl; exact rfl; exact rfl; (focus repeat' (first | exact trivial | refine And.intro rfl (And.intro rfl ?_))); decide; decide; exact rfl) | ((with_reducible apply does_append_nil); exact tyOk rfl; exact rfl; exact tyOk rfl; exact rfl; exact rfl; decide; (first | (dsimp only; simp only [List.length_map, List.length_append, List.length_cons, List.length_nil] at *; omega) | (simp only [List.length_map, List.length_append, List.length_cons, List.length_nil] at *; omega)); (first | (dsimp only; simp only [List.length_map, List.length_append, List.length_cons, List.length_nil] at *; omega) | (simp only [List.length_map, List.length_append, List.length_cons, List.length_nil] at *; omega)); exact rfl)) | ((with_reducible apply rp2); first | (exact does_build_f (t := 56) (tyOk rfl) rfl (tyOk rfl) rfl rfl rfl rfl (by decide)) | ((with_reducible apply does_append_own); exact tyOk rfl; exact rfl; exact tyOk rfl; exact rfl; exact rfl; exact rfl; decide; (first | (dsimp only; simp only [List.length_map, List.length_append, List.length_cons, List.length_nil] at *; omega) | (simp only [List.length_map, List.length_append, List.length_cons, List.length_nil] at *; omega)); (first | (dsimp only; simp only [List.length_map, List.length_append, List.length_cons, List.length_nil] at *; omega) | (simp only [List.length_map, List.length_append, List.length_cons, List.length_nil] at *; omega)); exact rfl)) | ((with_reducible apply aw_cond); exact rfl; (focus (intro hd; (cases hd; done))); (intro hd; clear hd)))
        refine ⟨_, _, ?_, ?_, .inr ⟨0 + 1, by omega, by omega, rfl, rfl⟩⟩
        · omega
        · rw [hdt, hln, hrest]
          refine forget_of [(6, 58)] (by repeat' (first | exact ks_nil | (refine ks_cons rfl (by exact SubA.refl _) ?_))) (by repeat' (first | exact trivial | exact rfl | refine And.intro ?_ ?_)) rfl (by repeat' (first | exact trivial | exact inB_ow rfl | refine And.intro ?_ ?_)) (by repeat' (first | exact trivial | exact inB_ow rfl | refine And.intro ?_ ?_))
      · have hz : recs = [] := by
          cases recs with
          | nil => rfl
          | cons r l =>
            exfalso
            rw [List.drop_zero, recsB, List.length_append, recB_len] at hd
            have := of_decide_eq_false hd
            omega
        subst hz
        repeat (first | ((first | (with_reducible apply rpGT) | (with_reducible apply drGT) | (with_reducible apply rpGTN) | (with_reducible apply drGTN)); exact rfl; (first | exact gval_t rfl | exact gval_f rfl | exact gval_gt rfl | exact gval_gf rfl); (first | exact rfl | assumption | decide); (focus repeat' (first | exact trivial | exact fun h => h | refine And.intro ?_ ?_ | (intro h; (first | exact h | (simp only [Bool.and_eq_true] at h; (first | exact h.1 | exact h.1.1 | exact h.1.1.1 | exact h.2)) | (rw [h]; rfl) | (rw [hgd0, h]; rfl) | simp_all)))); ((first | ((with_reducible apply does_move); (conv => lhs; whnf)) | ((with_reducible apply does_assign); (conv => lhs; whnf))); (first | exact lapp_nil _ | exact lapp_1 _ _ | exact lapp_2 _ _ _ | exact lapp_3 _ _ _ _))) | (with_reducible first | apply aw_seq | apply aw_reg | apply rp_nil | apply ae_norm | apply aw_exit | apply ae_exit | apply be_exit | apply aw_ret | apply re_ret) | ((with_reducible apply rp); first | ((with_reducible apply does_move); (conv => lhs; whnf)) | ((with_reducible apply does_assign); (conv => lhs; whnf))))
        (with_reducible apply ret_ok); (focus (repeat' (first | (with_reducible apply rv_nil) | (with_reducible apply rv_cons) | ((with_reducible apply rv_tmp); exact rfl)))); exact rfl
        exact nil_ls
    · repeat (first | ((first | (with_reducible apply rpGT) | (with_reducible apply drGT) | (with_reducible apply rpGTN) | (with_reducible apply drGTN)); exact rfl; (first | exact gval_t rfl | exact gval_f rfl | exact gval_gt rfl | exact gval_gf rfl); (first | exact rfl | assumption | decide); (focus repeat' (first | exact trivial | exact fun h => h | refine And.intro ?_ ?_ | (intro h; (first | exact h | (simp only [Bool.and_eq_true] at h; (first | exact h.1 | exact h.1.1 | exact h.1.1.1 | exact h.2)) | (rw [h]; rfl) | (rw [hgd0, h]; rfl) | simp_all)))); ((first | ((with_reducible apply does_move); (conv => lhs; whnf)) | ((with_reducible apply does_gt); exact rfl; exact rfl) | ((with_reducible apply does_len_map); exact tyOk rfl; exact rfl; exact rfl)); (first | exact lapp_nil _ | exact lapp_1 _ _ | exact lapp_2 _ _ _ | exact lapp_3 _ _ _ _))) | (with_reducible first | apply aw_seq | apply aw_reg | apply rp_nil | apply ae_norm) | ((with_reducible apply rp); first | ((with_reducible apply does_move); (conv => lhs; whnf)) | ((with_reducible apply does_gt); exact rfl; exact rfl) | ((with_reducible apply does_len_map); exact tyOk rfl; exact rfl; exact rfl)))
      refine aw_cond rfl (fun hd => ?_) (fun hd => ?_)
      · have hlt : k < recs.length := by
          refine Nat.lt_of_le_of_ne hk fun e => ?_
          subst e
          rw [List.drop_length] at hd
          exact absurd hd (by decide)
        clear hd
        obtain ⟨r, hr⟩ : ∃ r, recs[k]? = some r := ⟨_, List.getElem?_eq_getElem hlt⟩
        have hro := hok r (List.mem_of_getElem? hr)
        unfold RecOk at hro
        have hrd := recsB_drop hr
        obtain ⟨h12, hrl⟩ := hdl k
        have hdt : ((recs.take (k + 1)).map fun p => [byD p]) = ((recs.take k).map fun p => [byD p]) ++ [[byD r]] := by rw [List.take_add_one, hr, List.map_append]; rfl
        have hln : (recs.take (k + 1)).length = (recs.take k).length + 1 := by rw [List.length_take, List.length_take]; omega
        rw [hrd] at h12 ⊢
        obtain ⟨rest, hrest⟩ : ∃ rest, recsB (recs.drop (k + 1)) = rest := ⟨_, rfl⟩
        rw [hrest] at h12 hrd ⊢
        have n1 := number_pc [b8 (r.length / 256), b8 r.length] (by simp)
        rw [num_2 _ (by omega)] at n1
        have n2 := number_pc [b8 (crcL r / 16777216), b8 (crcL r / 65536), b8 (crcL r / 256), b8 (crcL r)] (by simp)
        have hc4 := crcL_lt r
        rw [num_4 _ hc4] at n2
        have c1 := crc_pc r (by omega)
        have s2 := rec_2 r rest
        have s6 := rec_6 r rest
        have sr := rec_r r rest
        have sz := rec_rest r rest
        have hbl : (recB r ++ rest).length = 6 + r.length + rest.length := by rw [List.length_append, recB_len]
        generalize recB r ++ rest = b at *
        generalize crcL r = c at *
        have sz2 : (b.take b.length).drop (6 + r.length) = rest := by rw [List.take_length]; exact sz
        have d1 : decide (((b.length : Nat) : Int) < 6) = false := decide_eq_false (by omega)
        have d2 : decide (((r.length : Nat) : Int) < 1) = false := decide_eq_false (by omega)
        have d3 : decide (((r.length : Nat) : Int) > 310) = false := decide_eq_false (by omega)
        have d4 : decide (((r.length : Nat) : Int) > ((r.length + rest.length : Nat) : Int)) = false := decide_eq_false (by omega)
        have d5 : (((c : Nat) : Int) != ((c : Nat) : Int)) = false := by simp
        repeat (first | ((first | (with_reducible apply rpGT) | (with_reducible apply drGT) | (with_reducible apply rpGTN) | (with_reducible apply drGTN)); exact rfl; exact gval_f rfl; (first | exact rfl | assumption | decide); (focus repeat' (first | exact trivial | refine And.intro ?_ ?_)); ((first | (exact does_lt_b d1 rfl rfl) | (exact does_slice_bl (l := 0) (h := 2) (c := [b8 (r.length / 256), b8 r.length]) (tyOk rfl) rfl (tyOk rfl) rfl rfl rfl ⟨_, _, rfl, rfl⟩ (by omega) (by omega) s2) | ((with_reducible apply does_call_flat); exact rfl; exact rfl; exact (n1); exact rfl) | (exact does_lt_b d2 rfl rfl) | (exact does_gt_b d3 rfl rfl) | (exact does_sub_to' (z := ((r.length + rest.length : Nat) : Int)) (by omega) (by omega) (by omega) rfl rfl) | (exact does_gt_b d4 rfl rfl) | (exact does_slice_bl (l := 2) (h := 6) (c := [b8 (c / 16777216), b8 (c / 65536), b8 (c / 256), b8 c]) (tyOk rfl) rfl (tyOk rfl) rfl rfl ⟨_, _, rfl, rfl⟩ ⟨_, _, rfl, rfl⟩ (by omega) (by omega) s6) | ((with_reducible apply does_call_flat); exact rfl; exact rfl; exact (n2); exact rfl) | (exact does_conv_u32 (tyOk rfl) (tyOk rfl) rfl rfl hc4) | (exact does_add_to (z := ((6 + r.length : Nat) : Int)) rfl rfl (by omega) (by omega) (by omega)) | (exact does_slice_bl (l := 6) (h := 6 + r.length) (c := r) (tyOk rfl) rfl (tyOk rfl) rfl rfl ⟨_, _, rfl, rfl⟩ ⟨_, _, rfl, rfl⟩ (by omega) (by omega) sr) | ((with_reducible apply does_call_flat); exact rfl; exact rfl; exact (c1); exact rfl) | (exact does_ne_b d5 rfl rfl) | (exact does_build_f (t := 56) (tyOk rfl) rfl (tyOk rfl) rfl rfl rfl rfl (by decide)) | (exact does_slice_bl (l := 6 + r.length) (h := b.length) (c := rest) (tyOk rfl) rfl (tyOk rfl) rfl rfl ⟨_, _, rfl, rfl⟩ rfl (by omega) (by omega) sz2) | ((with_reducible apply does_move); (conv => lhs; whnf)) | ((with_reducible apply does_assign); (conv => lhs; whnf)) | ((with_reducible apply does_and); exact rfl; exact rfl; exact rfl; exact trivial) | ((with_reducible apply does_len_map); exact tyOk rfl; exact rfl; exact rfl) | ((with_reducible apply does_buildSlice); exact tyOk rfl; exact rfl; exact tyOk rfl; exact rfl; exact rfl; (focus repeat' (first | exact trivial | refine And.intro rfl (And.intro rfl ?_))); decide; decide; exact rfl) | ((with_reducible apply does_append_own); exact tyOk rfl; exact rfl; exact tyOk rfl; exact rfl; exact rfl; exact rfl; decide; (first | (dsimp only; simp only [List.length_map, List.length_append, List.length_cons, List.length_nil] at *; omega) | (simp only [List.length_map, List.length_append, List.length_cons, List.length_nil] at *; omega) | (simp; omega)); (first | (dsimp only; simp only [List.length_map, List.length_append, List.length_cons, List.length_nil] at *; omega) | (simp only [List.length_map, List.length_append, List.length_cons, List.length_nil] at *; omega) | (simp; omega)); exact rfl)); (first | exact lapp_nil _ | exact lapp_1 _ _ | exact lapp_2 _ _ _ | exact lapp_3 _ _ _ _))) | (with_reducible first | apply aw_seq | apply aw_reg | apply rp_nil | apply ae_norm | apply aw_regD | apply aw_block | apply be_norm | apply aw_skip) | ((with_reducible apply dr_nil); (first | kernel_rfl | exact rfl)) | ((with_reducible first | apply rp | apply dr); first | (exact does_lt_b d1 rfl rfl) | (exact does_slice_bl (l := 0) (h := 2) (c := [b8 (r.length / 256), b8 r.length]) (tyOk rfl) rfl (tyOk rfl) rfl rfl rfl ⟨_, _, rfl, rfl⟩ (by omega) (by omega) s2) | ((with_reducible apply does_call_flat); exact rfl; exact rfl; exact (n1); exact rfl) | (exact does_lt_b d2 rfl rfl) | (exact does_gt_b d3 rfl rfl) | (exact does_sub_to' (z := ((r.length + rest.length : Nat) : Int)) (by omega) (by omega) (by omega) rfl rfl) | (exact does_gt_b d4 rfl rfl) | (exact does_slice_bl (l := 2) (h := 6) (c := [b8 (c / 16777216), b8 (c / 65536), b8 (c / 256), b8 c]) (tyOk rfl) rfl (tyOk rfl) rfl rfl ⟨_, _, rfl, rfl⟩ ⟨_, _, rfl, rfl⟩ (by omega) (by omega) s6) | ((with_reducible apply does_call_flat); exact rfl; exact rfl; exact (n2); exact rfl) | (exact does_conv_u32 (tyOk rfl) (tyOk rfl) rfl rfl hc4) | (exact does_add_to (z := ((6 + r.length : Nat) : Int)) rfl rfl (by omega) (by omega) (by omega)) | (exact does_slice_bl (l := 6) (h := 6 + r.length) (c := r) (tyOk rfl) rfl (tyOk rfl) rfl rfl ⟨_, _, rfl, rfl⟩ ⟨_, _, rfl, rfl⟩ (by omega) (by omega) sr) | ((with_reducible apply does_call_flat); exact rfl; exact rfl; exact (c1); exact rfl) | (exact does_ne_b d5 rfl rfl) | (exact does_slice_bl (l := 6 + r.length) (h := b.length) (c := rest) (tyOk rfl) rfl (tyOk rfl) rfl rfl ⟨_, _, rfl, rfl⟩ rfl (by omega) (by omega) sz2) | ((with_reducible apply does_move); (conv => lhs; whnf)) | ((with_reducible apply does_assign); (conv => lhs; whnf)) | ((with_reducible apply does_and); exact rfl; exact rfl; exact rfl; exact trivial) | ((with_reducible apply does_len_map); exact tyOk rfl; exact rfl; exact rfl)) | ((with_reducible apply rp1); ((with_reducible apply does_buildSlice); exact tyOk rfl; exact rfl; exact tyOk rfl; exact rfl; exact rfl; (focus repeat' (first | exact trivial | refine And.intro rfl (And.intro rfl ?_))); decide; decide; exact rfl)) | ((with_reducible apply rp2); first | (exact does_build_f (t := 56) (tyOk rfl) rfl (tyOk rfl) rfl rfl rfl rfl (by decide)) | ((with_reducible apply does_append_own); exact tyOk rfl; exact rfl; exact tyOk rfl; exact rfl; exact rfl; exact rfl; decide; (first | (dsimp only; simp only [List.length_map, List.length_append, List.length_cons, List.length_nil] at *; omega) | (simp only [List.length_map, List.length_append, List.length_cons, List.length_nil] at *; omega) | (simp; omega)); (first | (dsimp only; simp only [List.length_map, List.length_append, List.length_cons, List.length_nil] at *; omega) | (simp only [List.length_map, List.length_append, List.length_cons, List.length_nil] at *; omega) | (simp; omega)); exact rfl)) | ((with_reducible apply aw_cond); exact rfl; (focus (intro hd; (cases hd; done))); (intro hd; clear hd)))
        refine ⟨_, _, ?_, ?_, .inr ⟨k + 1, by omega, by omega, rfl, rfl⟩⟩
        · omega
        · rw [hdt, hln, hrest]
          refine forget_of [(6, 58)] (by repeat' (first | exact ks_nil | (refine ks_cons rfl (by (first | exact SubA.refl _ | exact subA_ow (by (simp; done)))) ?_))) (by repeat' (first | exact trivial | exact rfl | refine And.intro ?_ ?_)) rfl (by repeat' (first | exact trivial | exact inB_ow rfl | refine And.intro ?_ ?_)) (by repeat' (first | exact trivial | exact inB_ow rfl | refine And.intro ?_ ?_))
      · have hke : k = recs.length := by
          refine Nat.le_antisymm hk (Nat.le_of_not_lt fun hlt => ?_)
          obtain ⟨r, hr⟩ : ∃ r, recs[k]? = some r := ⟨_, List.getElem?_eq_getElem hlt⟩
          rw [recsB_drop hr, List.length_append, recB_len] at hd
          have := of_decide_eq_false hd
          omega
        clear hd
        rw [hke, List.take_length]
        repeat (first | ((first | (with_reducible apply rpGT) | (with_reducible apply drGT) | (with_reducible apply rpGTN) | (with_reducible apply drGTN)); exact rfl; (first | exact gval_t rfl | exact gval_f rfl | exact gval_gt rfl | exact gval_gf rfl); (first | exact rfl | assumption | decide); (focus repeat' (first | exact trivial | exact fun h => h | refine And.intro ?_ ?_ | (intro h; (first | exact h | (simp only [Bool.and_eq_true] at h; (first | exact h.1 | exact h.1.1 | exact h.1.1.1 | exact h.2)) | (rw [h]; rfl) | (rw [hgd0, h]; rfl) | simp_all)))); ((first | ((with_reducible apply does_move); (conv => lhs; whnf)) | ((with_reducible apply does_assign); (conv => lhs; whnf))); (first | exact lapp_nil _ | exact lapp_1 _ _ | exact lapp_2 _ _ _ | exact lapp_3 _ _ _ _))) | (with_reducible first | apply aw_seq | apply aw_reg | apply rp_nil | apply ae_norm | apply aw_exit | apply ae_exit | apply be_exit | apply aw_ret | apply re_ret) | ((with_reducible apply rp); first | ((with_reducible apply does_move); (conv => lhs; whnf)) | ((with_reducible apply does_assign); (conv => lhs; whnf))))
        (with_reducible apply ret_ok); (focus (repeat' (first | (with_reducible apply rv_nil) | (with_reducible apply rv_cons) | ((with_reducible apply rv_tmp); exact rfl)))); exact rfl; refine SubD.of_eq ?_
        rfl
end Go.Proofs.Ytpaccaojgbfjdaa

