/-
  tape.head, good, framed as contracts, on a tape that is one. No condition.
-/
import Derived.Test.YtpaccaojgbfjdaaZTap4
import Derived.Test.YtpaccaojgbfjdaaZPlAr2
import Derived.Test.YtpaccaojgbfjdaaZG
namespace Go.Proofs.Ytpaccaojgbfjdaa
set_option linter.unusedSimpArgs false
set_option linter.unusedVariables false
open Go.RowKit

section
variable {P : Program} {dst : Option Nat} {ty : TypeId} {e : Operand → A} {β : Bx} {T el : TypeId} {x y : Operand}
theorem does_index_sc {t te : TyI} {len esz i : Nat} {er : Bool} {k : IntKind} {n : Int} {cs : List D} {c : D} (ht : mkTy P T = some t) (hk : t.kind = .array len el esz er) (hte : mkTy P el = some te) (hr : te.row = false) (hs1 : te.size = 1) (hx : e x = .d (.ag cs)) (hy : e y = .d (.sc (.int k n))) (hn : n = (i : Nat)) (hi : i < len) (hc : cs[i]? = some c) :
    Does P dst (.index T x y) ty e β (.d c) [] [] :=
  Does.of_run fun C γ _ ρ I w _ a hops o ho _ => by
    have q1 := (hops x (by simp [Op.operands])).2
    have q2 := (hops y (by simp [Op.operands])).2
    rw [hx] at q1
    rw [hy] at q2
    have q2 := repA_sc q2
    obtain ⟨us, q1, q3⟩ := q1
    subst hn
    obtain ⟨_, d, z, _, hu, _, _, _, _, _, hkd⟩ := mkTy_spec ht
    obtain ⟨rfl, _, _⟩ := kind_array (hkd.symm.trans hk)
    obtain ⟨u, hu1, hu2, _⟩ := repC_get q3 hc
    refine ⟨u, ?_, trivial, hu2⟩
    have hp := part_run hte (cs := us) (off := i * te.size) w
    rw [if_neg (by rw [hr]; decide)] at hp
    have hus : us[i]? = some u := by simpa using hu1
    rw [hs1, Nat.mul_one] at hp
    simp [execOp, ho, q1, q2, Instr.index, asIntOf, Sem.run_bind, run_underlying hu, hi, sizeOf_mkTy hte, hs1, hp, hus]
theorem does_conv_b8 {S : TypeId} {s t : TyI} {m : Nat} {n : Int} (hs : mkTy P S = some s) (ht : mkTy P T = some t) (hk : t.kind = .int .u8) (hx : e x = .d (iD n)) (hn : n = (m : Nat)) : Does P dst (.convert S T x) ty e β (.d (u8D (b8 m))) [] [] := by
  subst hn
  have h := does_conv_int (P := P) (dst := dst) (ty := ty) (β := β) hs ht hk hx
  have e1 : IntKind.u8.wrap ((m : Nat) : Int) = ((b8 m).toNat : Int) := by
    rw [b8_toNat]
    show ((m : Int)) % 256 = _
    omega
  rwa [e1] at h
end
theorem Tape.read {d : Dk} {recs : List (List UInt8)} (h : Tape d recs) {i : Nat} {s : List UInt8} (hs : d.lasts[i]? = some s) : PC Try.prog 46 [dkD d, iD i] (.tu [.ag (secC s), iD 0]) := by
  have hi := (List.getElem?_eq_some_iff.1 hs).1
  have := read_pc d h.ok i hi
  have e : readF d i = s := by
    unfold readF
    rw [h.none_, List.getD_eq_getElem?_getD, hs]; rfl
  rwa [e] at this
theorem headS_at (n k : Nat) (hk : k < 32) : ∃ b, (headS n)[k]? = some b ∧ (k ≠ 6 → k ≠ 7 → k ≠ 5 → b = 0) := by
  unfold headS
  rcases Nat.lt_or_ge k 8 with h | h
  · rcases (by omega : k = 0 ∨ k = 1 ∨ k = 2 ∨ k = 3 ∨ k = 4 ∨ k = 5 ∨ k = 6 ∨ k = 7) with rfl | rfl | rfl | rfl | rfl | rfl | rfl | rfl <;> exact ⟨_, rfl, by simp⟩
  · refine ⟨0, ?_, fun _ _ _ => rfl⟩
    rw [List.getElem?_append_right (by simp; omega), List.getElem?_replicate, if_pos (by simp; omega)]
set_option maxHeartbeats 4000000 in
theorem head_pc (d : Dk) (recs : List (List UInt8)) (h : Tape d recs) : PC Try.prog 45 [dkD d] (.tu [iD (recsB recs).length, iD 0]) := by
  have r0 := h.read h.head
  have hs := h.small
  have hf := h.fit
  have ho := h.one
  have hm := h.most
  generalize (recsB recs).length = n at *
  have n1 := number_pc [b8 (n / 65536), b8 (n / 256), b8 n] (by simp)
  rw [headS_num (by omega)] at n1
  have hat := headS_at n
  have hmid : ((headS n).take 8).drop 5 = [b8 (n / 65536), b8 (n / 256), b8 n] := rfl
  have hlen := headS_len n
  clear h
  obtain ⟨lasts, writes⟩ := d
  dsimp only at *
  generalize headS n = s at *
  have hsl : (secC s).length = 32 := by rw [List.length_map, hlen]
  have hgt : decide ((n : Int) > IntKind.i64.wrap (IntKind.i64.wrap ((lasts.length : Int) - 1) * 32)) = false := decide_eq_false (by
    rw [IntKind.wrap_i64, IntKind.wrap_i64]; omega)
  refine pc_of_aw Try.func45 rfl (by kernel_rfl) mixed (by kernel_rfl) (by rw [Try.ntmps45]; exact Nat.le_of_ble_eq_true rfl) Try.results45 ?_
  repeat (first | (with_reducible first | apply aw_seq | apply aw_reg | apply rp_nil | apply ae_norm | apply aw_block | apply aw_skip) | ((with_reducible apply rp); first | ((with_reducible apply does_call'); exact rfl; exact rfl; exact rfl; exact (r0)) | (exact does_load_all (tyOk rfl) rfl rfl rfl hsl) | ((with_reducible apply does_move); (conv => lhs; whnf)) | ((with_reducible apply does_assign); (conv => lhs; whnf)) | ((with_reducible apply does_load_row); exact tyOk rfl; exact rfl; exact rfl; exact rfl; exact Nat.le_of_ble_eq_true rfl; exact rfl) | ((with_reducible apply does_ne); exact rfl; exact rfl) | ((with_reducible apply does_extract); exact rfl; exact rfl)) | ((with_reducible apply rp1); first | ((with_reducible apply does_box_ag); exact rfl; exact rfl) | ((with_reducible apply does_alloc); exact tyOk rfl; exact rfl)) | ((with_reducible apply rpN); (exact does_store_whole (tyOk rfl) rfl rfl rfl hsl hsl)) | ((with_reducible apply aw_cond); exact rfl; (focus (intro hd; (cases hd; done))); (intro hd; clear hd)))
  refine aw_loop (fun m st => ∃ k, k ≤ 32 ∧ m = 32 - k ∧ st = ⟨[(1, .px 1 0), (4, .px 4 0), (17, .d (.ag (secC s))), (18, .d (iD k))], [(1, .var 26 ((dkC ⟨lasts, writes⟩).map .d)), (4, .var 100 ((secC s).map .d))]⟩) _ _ ?_ ⟨0, by omega, rfl, rfl⟩ ?_
  · refine forget_of [] (by repeat' (first | exact ks_nil | (refine ks_cons rfl (by exact SubA.refl _) ?_))) (by repeat' (first | exact trivial | exact rfl | exact kb_d rfl | refine And.intro ?_ ?_)) rfl (by repeat' (first | exact trivial | exact insB_map _ | exact inB_px rfl | refine And.intro ?_ ?_)) (by repeat' (first | exact trivial | exact insB_map _ | exact inB_px rfl | refine And.intro ?_ ?_))
  · rintro m st ⟨k, hk, rfl, rfl⟩
    repeat (first | (with_reducible first | apply aw_seq | apply aw_reg | apply rp_nil | apply ae_norm) | ((with_reducible apply rp); ((with_reducible apply does_lt); exact rfl; exact rfl)))
    refine aw_cond rfl (fun hd => ?_) (fun hd => ?_)
    · have hlt : k < 32 := by simp at hd; omega
      clear hd
      obtain ⟨b, hb, hb0⟩ := hat k hlt
      have hg : (secC s)[k]? = some (u8D b) := by rw [List.getElem?_map, hb]; rfl
      repeat (first | (with_reducible first | apply aw_seq | apply aw_reg | apply rp_nil | apply ae_norm | apply aw_block | apply aw_skip) | ((first | (with_reducible apply rp) | ((with_reducible apply rpG); exact rfl; exact gval_t rfl; (focus repeat' (first | exact trivial | exact fun h => h | refine And.intro ?_ ?_)); intro hgd; have hgd0 := hgd; (try simp only [decide_eq_true_eq, Bool.and_eq_true, Bool.not_eq_true', beq_iff_eq] at hgd))); first | (exact does_index_sc (i := k) (tyOk rfl) rfl (tyOk rfl) rfl rfl rfl rfl rfl hlt hg) | ((with_reducible apply does_move); (conv => lhs; whnf)) | ((with_reducible apply does_assign); (conv => lhs; whnf)) | ((with_reducible apply does_and); exact rfl; exact rfl; exact rfl; exact fun h => h) | ((with_reducible apply does_ne); exact rfl; exact rfl)))
      refine aw_cond rfl (fun hd => ?_) (fun hd => ?_)
      · exfalso
        simp only [Bool.and_eq_true, bne_iff_ne, ne_eq] at hd
        obtain ⟨⟨⟨q1, q2⟩, q3⟩, q4⟩ := hd
        have := hb0 (by omega) (by omega) (by omega)
        subst this
        exact q4 rfl
      · repeat (first | (with_reducible first | apply aw_reg | apply rp_nil | apply ae_norm | apply be_norm | apply aw_skip) | ((with_reducible apply rp); first | ((with_reducible apply does_move); (conv => lhs; whnf)) | ((with_reducible apply does_add); exact rfl; exact rfl; omega; omega)))
        refine ⟨_, _, ?_, ?_, k + 1, by omega, rfl, rfl⟩
        · omega
        · refine forget_of [] (by repeat' (first | exact ks_nil | (refine ks_cons rfl (by exact SubA.refl _) ?_))) (by repeat' (first | exact trivial | exact rfl | exact kb_d rfl | refine And.intro ?_ ?_)) rfl (by repeat' (first | exact trivial | exact insB_map _ | exact inB_px rfl | refine And.intro ?_ ?_)) (by repeat' (first | exact trivial | exact insB_map _ | exact inB_px rfl | refine And.intro ?_ ?_))
    · have hke : k = 32 := by simp at hd; omega
      clear hd
      repeat (first | (with_reducible first | apply aw_seq | apply aw_reg | apply rp_nil | apply ae_norm | apply aw_exit | apply ae_exit | apply be_exit) | ((with_reducible apply rp); first | ((with_reducible apply does_call_flat); exact rfl; exact rfl; exact (n1); exact rfl) | ((with_reducible apply does_move); (conv => lhs; whnf)) | ((with_reducible apply does_assign); (conv => lhs; whnf)) | ((with_reducible apply does_fieldAddr); exact tyOk rfl; exact rfl; exact rfl; decide; exact rfl) | ((with_reducible apply does_load_var); exact tyOk rfl; exact rfl; exact rfl; exact rfl; exact rfl) | ((with_reducible apply does_gt); exact rfl; exact rfl) | ((with_reducible apply does_wsub); exact rfl; exact rfl) | ((with_reducible apply does_wmul); exact rfl; exact rfl) | ((with_reducible apply does_len_map); exact tyOk rfl; exact rfl; exact rfl)) | ((with_reducible apply rp1); (exact does_slice_mid (l := s) (lo := 5) (h := 8) (tyOk rfl) rfl rfl rfl rfl (by decide) (by decide) (by decide) rfl hlen hmid)))
      refine aw_cond rfl (fun hd => absurd (hgt.symm.trans hd) (by decide)) (fun _ => ?_)
      repeat (first | (with_reducible first | apply aw_seq | apply aw_reg | apply rp_nil | apply ae_norm | apply aw_ret | apply re_ret | apply aw_skip) | ((with_reducible apply rp); first | ((with_reducible apply does_move); (conv => lhs; whnf)) | ((with_reducible apply does_assign); (conv => lhs; whnf))))
      (with_reducible apply ret_ok); (focus (repeat' (first | (with_reducible apply rv_nil) | (with_reducible apply rv_cons) | ((with_reducible apply rv_tmp); exact rfl)))); exact rfl; refine SubD.of_eq ?_
      rfl
theorem nil_by : SubD (resD [.nl, iD 0]) (.tu [byD [], iD 0]) := SubD.tu (SubDs.cons (SubD.nil 1) (fun _ => rfl) (SubDs.refl _))
theorem take_byteAt {lasts : List (List UInt8)} {B b : List UInt8} (hB : ∀ p, p < B.length → B[p]? = byteAt lasts p) (hb : ∀ p, p < b.length → byteAt lasts p = b[p]?) (hl : b.length ≤ B.length) : B.take b.length = b := by
  refine List.ext_getElem? fun p => ?_
  rw [List.getElem?_take]
  split
  · rename_i hp
    rw [hB p (by omega), hb p hp]
  · rename_i hp
    rw [List.getElem?_eq_none (by omega)]
set_option maxHeartbeats 8000000 in
theorem good_pc (d : Dk) (recs : List (List UInt8)) (h : Tape d recs) : PC Try.prog 26 [dkD d] (.tu [byD (recsB recs), iD 0]) := by
  have h1 := head_pc d recs h
  have rd := fun i s (hs : d.lasts[i]? = some s) => h.read hs
  have hs := h.small
  have hf := h.fit
  have ho := h.one
  have hsec := h.sec
  have hbody := h.body
  generalize recsB recs = r at *
  clear h
  obtain ⟨lasts, writes⟩ := d
  dsimp only at *
  refine pc_of_aw Try.func26 rfl (by kernel_rfl) mixed (by kernel_rfl) (by rw [Try.ntmps26]; exact Nat.le_of_ble_eq_true rfl) Try.results26 ?_
  repeat (first | (with_reducible first | apply aw_seq | apply aw_reg | apply rp_nil | apply ae_norm | apply aw_block | apply aw_skip) | ((with_reducible apply rp); first | ((with_reducible apply does_call_flat); exact rfl; exact rfl; exact (h1); exact rfl) | ((with_reducible apply does_move); (conv => lhs; whnf)) | ((with_reducible apply does_assign); (conv => lhs; whnf)) | ((with_reducible apply does_load_row); exact tyOk rfl; exact rfl; exact rfl; exact rfl; exact Nat.le_of_ble_eq_true rfl; exact rfl) | ((with_reducible apply does_ne); exact rfl; exact rfl) | ((with_reducible apply does_extract); exact rfl; exact rfl)) | ((with_reducible apply rp1); ((with_reducible apply does_box_ag); exact rfl; exact rfl)) | ((with_reducible apply aw_cond); exact rfl; (focus (intro hd; (cases hd; done))); (intro hd; clear hd)))
  refine aw_loop (fun m st => (m = r.length + 32 ∧ st = ⟨[(1, .px 1 0), (4, .d (iD r.length)), (6, .d .nl), (7, .d (iD 1))], [(1, .var 26 ((dkC ⟨lasts, writes⟩).map .d))]⟩) ∨
    ∃ (k : Nat) (B : List UInt8), B.length = 32 * (k + 1) ∧ 32 * k < r.length ∧ (∀ p, p < B.length → B[p]? = byteAt lasts p) ∧ m = r.length + 32 - 32 * (k + 1) ∧ st = ⟨[(1, .px 1 0), (4, .d (iD r.length)), (6, .ow 6 B.length), (7, .d (iD ((k + 2 : Nat) : Int)))], [(1, .var 26 ((dkC ⟨lasts, writes⟩).map .d)), (6, .row 5 1 (B.map fun c => [u8D c]))]⟩) _ _ ?_ (.inl ⟨rfl, rfl⟩) ?_
  · refine forget_of [] (by repeat' (first | exact ks_nil | (refine ks_cons rfl (by exact SubA.refl _) ?_))) (by repeat' (first | exact trivial | exact rfl | refine And.intro ?_ ?_)) rfl (by repeat' (first | exact trivial | exact insB_map _ | exact inB_px rfl | refine And.intro ?_ ?_)) (by repeat' (first | exact trivial | exact insB_map _ | exact inB_px rfl | refine And.intro ?_ ?_))
  · rintro m st (⟨rfl, rfl⟩ | ⟨k, B, hBl, hkr, hB, rfl, rfl⟩)
    · repeat (first | (with_reducible first | apply aw_seq | apply aw_reg | apply rp_nil | apply ae_norm) | ((with_reducible apply rp); first | ((with_reducible apply does_move); (conv => lhs; whnf)) | ((with_reducible apply does_lt); exact rfl; exact rfl) | ((with_reducible apply does_len_nl); exact tyOk rfl; exact rfl; exact rfl)))
      refine aw_cond rfl (fun hd => ?_) (fun hd => ?_)
      · have hlt : 0 < r.length := by simp at hd; omega
        clear hd
        obtain ⟨s, hs1⟩ : ∃ s, lasts[1]? = some s := ⟨_, List.getElem?_eq_getElem (by omega)⟩
        have hs32 := hsec s (List.mem_of_getElem? hs1)
        have hsl : (secC s).length = 32 := by rw [List.length_map, hs32]
        have r1 := rd 1 s hs1
        repeat (first | (with_reducible first | apply aw_seq | apply aw_reg | apply rp_nil | apply ae_norm | apply aw_block | apply be_norm | apply aw_skip) | ((with_reducible apply rp); first | ((with_reducible apply does_call'); exact rfl; exact rfl; exact rfl; exact (r1)) | ((with_reducible apply does_move); (conv => lhs; whnf)) | ((with_reducible apply does_assign); (conv => lhs; whnf)) | ((with_reducible apply does_load_row); exact tyOk rfl; exact rfl; exact rfl; exact rfl; exact Nat.le_of_ble_eq_true rfl; exact rfl) | ((with_reducible apply does_ne); exact rfl; exact rfl) | ((with_reducible apply does_add); exact rfl; exact rfl; omega; omega) | ((with_reducible apply does_extract); exact rfl; exact rfl)) | ((with_reducible apply rp1); first | (exact does_slice_by_all (l := s) (tyOk rfl) rfl rfl rfl hs32) | ((with_reducible apply does_alloc); exact tyOk rfl; exact rfl) | ((with_reducible apply does_append_nil); exact tyOk rfl; exact rfl; exact tyOk rfl; exact rfl; exact rfl; decide; (first | (dsimp only; simp only [List.length_map, List.length_append, List.length_cons, List.length_nil] at *; omega) | (simp only [List.length_map, List.length_append, List.length_cons, List.length_nil] at *; omega)); (first | (dsimp only; simp only [List.length_map, List.length_append, List.length_cons, List.length_nil] at *; omega) | (simp only [List.length_map, List.length_append, List.length_cons, List.length_nil] at *; omega)); exact rfl)) | ((with_reducible apply rpN); (exact does_store_whole (tyOk rfl) rfl rfl rfl hsl hsl)) | ((with_reducible apply aw_cond); exact rfl; (focus (intro hd; (cases hd; done))); (intro hd; clear hd)))
        refine ⟨_, _, ?_, ?_, .inr ⟨0, s, hs32, by omega, fun p hp => ?_, rfl, rfl⟩⟩
        · omega
        · refine forget_of [(6, 35)] (by repeat' (first | exact ks_nil | (refine ks_cons rfl (by (first | exact SubA.refl _ | exact subA_ow (by (simp; done)))) ?_))) (by repeat' (first | exact trivial | exact rfl | refine And.intro ?_ ?_)) rfl (by repeat' (first | exact trivial | exact insB_map _ | exact inB_ow rfl | exact inB_px rfl | refine And.intro ?_ ?_)) (by repeat' (first | exact trivial | exact insB_map _ | exact inB_ow rfl | exact inB_px rfl | refine And.intro ?_ ?_))
        · unfold byteAt
          rw [show 1 + p / 32 = 1 by omega, hs1, show p % 32 = p by omega]
          rfl
      · have hz : r = [] := by simpa using hd
        clear hd
        subst hz
        repeat (first | (with_reducible first | apply aw_seq | apply aw_reg | apply rp_nil | apply ae_norm | apply aw_exit | apply ae_exit | apply be_exit | apply aw_ret | apply re_ret) | ((with_reducible apply rp); first | ((with_reducible apply does_move); (conv => lhs; whnf)) | ((with_reducible apply does_assign); (conv => lhs; whnf)) | ((with_reducible apply does_slice_nl); exact tyOk rfl; exact rfl; exact tyOk rfl; exact rfl; (first | exact rfl | exact ⟨_, _, rfl, rfl⟩); (first | exact rfl | exact ⟨_, _, rfl, rfl⟩))))
        (with_reducible apply ret_ok); (focus (repeat' (first | (with_reducible apply rv_nil) | (with_reducible apply rv_cons) | ((with_reducible apply rv_tmp); exact rfl)))); exact rfl
        exact nil_by
    · repeat (first | (with_reducible first | apply aw_seq | apply aw_reg | apply rp_nil | apply ae_norm) | ((with_reducible apply rp); first | ((with_reducible apply does_move); (conv => lhs; whnf)) | ((with_reducible apply does_lt); exact rfl; exact rfl) | ((with_reducible apply does_len_ow); exact tyOk rfl; exact rfl; exact rfl)))
      refine aw_cond rfl (fun hd => ?_) (fun hd => ?_)
      · have hlt : 32 * (k + 1) < r.length := by simp at hd; omega
        clear hd
        obtain ⟨s, hs1⟩ : ∃ s, lasts[k + 2]? = some s := ⟨_, List.getElem?_eq_getElem (by omega)⟩
        have hs32 := hsec s (List.mem_of_getElem? hs1)
        have hsl : (secC s).length = 32 := by rw [List.length_map, hs32]
        have r1 := rd (k + 2) s hs1
        repeat (first | (with_reducible first | apply aw_seq | apply aw_reg | apply rp_nil | apply ae_norm | apply aw_block | apply be_norm | apply aw_skip) | ((with_reducible apply rp); first | ((with_reducible apply does_call'); exact rfl; exact rfl; exact rfl; exact (r1)) | (exact does_add_to (z := ((k + 3 : Nat) : Int)) rfl rfl (by omega) (by omega) (by omega)) | ((with_reducible apply does_move); (conv => lhs; whnf)) | ((with_reducible apply does_assign); (conv => lhs; whnf)) | ((with_reducible apply does_load_row); exact tyOk rfl; exact rfl; exact rfl; exact rfl; exact Nat.le_of_ble_eq_true rfl; exact rfl) | ((with_reducible apply does_ne); exact rfl; exact rfl) | ((with_reducible apply does_extract); exact rfl; exact rfl)) | ((with_reducible apply rp1); first | (exact does_slice_by_all (l := s) (tyOk rfl) rfl rfl rfl hs32) | ((with_reducible apply does_alloc); exact tyOk rfl; exact rfl)) | ((with_reducible apply rp2); ((with_reducible apply does_append_own); exact tyOk rfl; exact rfl; exact tyOk rfl; exact rfl; exact rfl; exact rfl; decide; (first | (dsimp only; simp only [List.length_map, List.length_append, List.length_cons, List.length_nil] at *; omega) | (simp only [List.length_map, List.length_append, List.length_cons, List.length_nil] at *; omega)); (first | (dsimp only; simp only [List.length_map, List.length_append, List.length_cons, List.length_nil] at *; omega) | (simp only [List.length_map, List.length_append, List.length_cons, List.length_nil] at *; omega)); exact rfl)) | ((with_reducible apply rpN); (exact does_store_whole (tyOk rfl) rfl rfl rfl hsl hsl)) | ((with_reducible apply aw_cond); exact rfl; (focus (intro hd; (cases hd; done))); (intro hd; clear hd)))
        refine ⟨_, _, ?_, ?_, .inr ⟨k + 1, B ++ s, by rw [List.length_append]; omega, by omega, fun p hp => ?_, rfl, rfl⟩⟩
        · omega
        · rw [List.map_append, List.length_append]
          refine forget_of [(6, 35)] (by repeat' (first | exact ks_nil | (refine ks_cons rfl (by (first | exact SubA.refl _ | exact subA_ow (by (simp; done)))) ?_))) (by repeat' (first | exact trivial | exact rfl | refine And.intro ?_ ?_)) rfl (by repeat' (first | exact trivial | exact insB_map _ | exact inB_ow rfl | exact inB_px rfl | refine And.intro ?_ ?_)) (by repeat' (first | exact trivial | exact insB_map _ | exact inB_ow rfl | exact inB_px rfl | refine And.intro ?_ ?_))
        · rw [List.length_append] at hp
          rw [List.getElem?_append]
          split
          · rename_i h
            exact hB p h
          · rename_i h
            unfold byteAt
            rw [show 1 + p / 32 = k + 2 by omega, hs1, show p - B.length = p % 32 by omega]
            rfl
      · have hge : r.length ≤ B.length := by simp at hd; omega
        clear hd
        have htk : (B.map fun c => [u8D c]).take r.length = r.map fun c => [u8D c] := by rw [← List.map_take, take_byteAt hB hbody hge]
        repeat (first | (with_reducible first | apply aw_seq | apply aw_reg | apply rp_nil | apply ae_norm | apply aw_exit | apply ae_exit | apply be_exit | apply aw_ret | apply re_ret) | ((with_reducible apply rp); first | ((with_reducible apply does_move); (conv => lhs; whnf)) | ((with_reducible apply does_assign); (conv => lhs; whnf))) | ((with_reducible apply rp2); (exact does_slice_own (h := r.length) (tyOk rfl) rfl (tyOk rfl) rfl rfl (by rw [List.length_map]) ⟨_, _, rfl, rfl⟩ hge htk rfl)))
        (with_reducible apply ret_ok); (focus (repeat' (first | (with_reducible apply rv_nil) | (with_reducible apply rv_cons) | ((with_reducible apply rv_tmp); exact rfl)))); exact rfl; refine SubD.of_eq ?_
        rfl
end Go.Proofs.Ytpaccaojgbfjdaa

