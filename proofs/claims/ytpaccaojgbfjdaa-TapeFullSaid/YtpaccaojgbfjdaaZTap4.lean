/-
  disk.fall, Sync, Crash, New as contracts. No condition but that the disk may be. (Printed by gen_tap4.py.)
-/
import Derived.Test.YtpaccaojgbfjdaaZTap3
namespace Go.Proofs.Ytpaccaojgbfjdaa
set_option linter.unusedSimpArgs false
set_option linter.unusedVariables false
open Go.RowKit

theorem fallL_snoc (keep : Nat → Bool) (w : Nat × List UInt8) : ∀ (ws : List (Nat × List UInt8)) (i : Nat) (l : List (List UInt8)), fallL keep i l (ws ++ [w]) = if keep (i + ws.length) = true then (fallL keep i l ws).set w.1 w.2 else fallL keep i l ws
  | [], i, l => rfl
  | v :: ws, i, l => by
    show fallL keep (i + 1) _ (ws ++ [w]) = if keep (i + (v :: ws).length) = true then (fallL keep (i + 1) _ ws).set w.1 w.2 else fallL keep (i + 1) _ ws
    rw [fallL_snoc keep w ws, List.length_cons, show i + 1 + ws.length = i + (ws.length + 1) by omega]
theorem sync1_px (k : Nat) : PX Try.prog 49 [.d (iD k)] [] [] (bD true) [] [] := by
  refine px_of_aw Try.func49 rfl (by kernel_rfl) mixed (by kernel_rfl) (by rw [Try.ntmps49]; exact Nat.le_of_ble_eq_true rfl) Try.results49 rfl ?_
  repeat (first | (with_reducible first | apply aw_seq | apply aw_reg | apply rp_nil | apply ae_norm | apply aw_ret | apply xe_ret) | ((with_reducible apply rp); ((with_reducible apply does_assign); (conv => lhs; whnf))))
  (with_reducible apply retx_ok (l := [])); (focus (repeat' (first | (with_reducible apply rv_nil) | (with_reducible apply rv_cons) | ((with_reducible apply rv_tmp); exact rfl)))); exact rfl; exact SubD.refl _; refine ⟨(by repeat' exact ks_nil), (by repeat' exact trivial), rfl, (by repeat' exact trivial), (by repeat' exact trivial)⟩
theorem crash1_px (keep : Int) (k : Nat) (hk : k < 60) : ∃ b : Bool, PX Try.prog 35 [.d (iD k), .px 1000 0] [(1000, .var 3 [.d (iD keep)])] [] (bD b) [(1000, .var 3 [.d (iD keep)])] [] := by
  have h63 : decide ((k : Int) < 63) = true := decide_eq_true (by omega)
  refine ⟨decide ((k : Int) < 63) && (bitV BinOp.and IntKind.i64 (keep.fdiv (2 ^ min (Int.toNat (k : Int)) IntKind.i64.bits)) 1 == 1), ?_⟩
  refine px_of_aw Try.func35 rfl (by kernel_rfl) mixed (by kernel_rfl) (by rw [Try.ntmps35]; exact Nat.le_of_ble_eq_true rfl) Try.results35 rfl ?_
  repeat (first | (with_reducible first | apply aw_seq | apply aw_reg | apply rp_nil | apply ae_norm | apply aw_ret | apply xe_ret) | ((first | (with_reducible apply rp) | ((with_reducible apply rpG); exact rfl; exact gval_t rfl; (focus repeat' (first | exact trivial | exact fun h => h | refine And.intro ?_ ?_)); intro hgd; have hgd0 := hgd; (try simp only [decide_eq_true_eq, Bool.and_eq_true, Bool.not_eq_true', beq_iff_eq] at hgd))); first | (exact does_shr rfl rfl (by omega)) | ((with_reducible apply does_move); (conv => lhs; whnf)) | ((with_reducible apply does_assign); (conv => lhs; whnf)) | ((with_reducible apply does_and); exact rfl; exact rfl; exact rfl; exact fun h => h) | ((with_reducible apply does_load_var); exact tyOk rfl; exact rfl; exact rfl; exact rfl; exact rfl) | ((with_reducible apply does_eq); exact rfl; exact rfl) | ((with_reducible apply does_lt); exact rfl; exact rfl) | ((with_reducible apply does_band); exact rfl; exact rfl)))
  (with_reducible apply retx_ok (l := [])); (focus (repeat' (first | (with_reducible apply rv_nil) | (with_reducible apply rv_cons) | ((with_reducible apply rv_tmp); exact rfl)))); exact rfl; exact SubD.refl _; refine ⟨(by repeat' (first | exact ks_nil | (refine ks_cons rfl (by exact SubA.refl _) ?_))), (by repeat' (first | exact trivial | exact rfl | refine And.intro ?_ ?_)), rfl, (by repeat' (first | exact trivial | exact inB_px rfl | refine And.intro ?_ ?_)), (by repeat' (first | exact trivial | exact inB_px rfl | refine And.intro ?_ ?_))⟩
theorem nil_sub (l : List (List UInt8)) : SubD (.tu [.ag [.sl 32 (l.map secC), .nl], iD 0]) (.tu [dkD ⟨l, []⟩, iD 0]) :=
  SubD.tu (SubDs.cons (SubD.ag (SubDs.cons (SubD.refl _) id (SubDs.cons (SubD.nil 33) id SubDs.nil))) id (SubDs.refl _))
set_option maxHeartbeats 4000000 in
theorem fallS_px (d : Dk) (h : DkOk d) : PX Try.prog 34 [.d (dkD d), .fn (.func 49) [] []] [] [] (.tu [dkD (crashF (fun _ => true) d), iD 0]) [] [] := by
  have k1 := check_pc d h
  obtain ⟨lasts, writes⟩ := d
  obtain ⟨h1, h2, h3, h4, h5, h6⟩ := h
  unfold crashF
  dsimp only at *
  have hL : lasts.length = (lasts.map secC).length := by rw [List.length_map]
  refine pxf_of_aw Try.func34 rfl (by kernel_rfl) mixed (by kernel_rfl) (by rw [Try.ntmps34]; exact Nat.le_of_ble_eq_true rfl) Try.results34 rfl ?_
  repeat (first | (with_reducible first | apply aw_seq | apply aw_reg | apply rp_nil | apply ae_norm | apply aw_block | apply aw_skip) | ((with_reducible apply rp); first | ((with_reducible apply does_call_flat); exact rfl; exact rfl; exact (k1); exact rfl) | (exact (by (with_reducible apply does_build_own (out := [.ow 19 _, .d .nl])); exact tyOk rfl; exact rfl; exact rfl; (focus repeat' (first | exact rfl | refine ⟨_, _, rfl, rfl, Nat.le_of_ble_eq_true rfl, rfl, ?_⟩)))) | ((with_reducible apply does_move); (conv => lhs; whnf)) | ((with_reducible apply does_assign); (conv => lhs; whnf)) | ((with_reducible apply does_fieldAddr); exact tyOk rfl; exact rfl; exact rfl; decide; exact rfl) | ((with_reducible apply does_load_var); exact tyOk rfl; exact rfl; exact rfl; exact rfl; exact rfl) | ((with_reducible apply does_load_row); exact tyOk rfl; exact rfl; exact rfl; exact rfl; exact Nat.le_of_ble_eq_true rfl; exact rfl) | ((with_reducible apply does_ne); exact rfl; exact rfl) | ((with_reducible apply does_len_map); exact tyOk rfl; exact rfl; exact rfl)) | ((with_reducible apply rp1); first | ((with_reducible apply does_box_ag); exact rfl; exact rfl) | ((with_reducible apply does_alloc); exact tyOk rfl; exact rfl) | ((with_reducible apply does_buildSlice); exact tyOk rfl; exact rfl; exact tyOk rfl; exact rfl; exact rfl; (focus repeat' (first | exact trivial | refine And.intro rfl (And.intro rfl ?_))); decide; decide; exact rfl)) | ((with_reducible apply rp2); ((with_reducible apply does_append_own); exact tyOk rfl; exact rfl; exact tyOk rfl; exact rfl; exact rfl; exact rfl; decide; (dsimp only; simp only [List.length_map, List.length_append, List.length_cons, List.length_nil] at *; omega); (dsimp only; simp only [List.length_map, List.length_append, List.length_cons, List.length_nil] at *; omega); exact rfl)) | ((with_reducible apply rpN); ((with_reducible apply does_store_wholeA); exact tyOk rfl; exact rfl; exact rfl; exact rfl; exact rfl; exact rfl)) | ((with_reducible apply aw_cond); exact rfl; (focus (intro hd; (cases hd; done))); (intro hd; clear hd)))
  refine aw_loop (fun n s => ∃ k, k ≤ writes.length ∧ n = writes.length - k ∧ s = ⟨[(1, .fn (.func 49) [] []), (4, .px 4 0), (7, .px 7 0), (22, .d (putsD writes)), (23, .d (iD writes.length)), (24, .d (iD k))], [(4, .var 26 [.d .nl, .d .nl]), (7, .var 26 [.ow 19 (([] : List (List D)).length + (lasts.map secC).length), .d .nl]), (19, .row 100 32 ((fallL (fun _ => true) 0 lasts (writes.take k)).map secC))]⟩) _ _ ?_ ⟨0, by omega, rfl, rfl⟩ ?_
  · refine forget_of [] (by repeat' (first | exact ks_nil | (refine ks_cons rfl (by exact SubA.refl _) ?_))) (by repeat' (first | exact trivial | exact rfl | refine And.intro ?_ ?_)) rfl (by repeat' (first | exact trivial | exact inB_ow rfl | exact inB_px rfl | refine And.intro ?_ ?_)) (by repeat' (first | exact trivial | exact inB_ow rfl | exact inB_px rfl | refine And.intro ?_ ?_))
  · rintro n s1 ⟨k, hk, rfl, rfl⟩
    repeat (first | (with_reducible first | apply aw_seq | apply aw_reg | apply rp_nil | apply ae_norm) | ((with_reducible apply rp); ((with_reducible apply does_lt); exact rfl; exact rfl)))
    refine aw_cond rfl (fun hd => ?_) (fun hd => ?_)
    · have hlt : k < writes.length := by simpa using hd
      clear hd
      obtain ⟨w, hw⟩ : ∃ w, writes[k]? = some w := ⟨_, List.getElem?_eq_getElem hlt⟩
      have hm := List.mem_of_getElem? hw
      have hat := h4 w hm
      have hsl := h6 w hm
      have hg : (writes.map putC)[k]? = some (iD w.1 :: secC w.2) := by rw [List.getElem?_map, hw]; rfl
      have hnext : fallL ((fun _ => true)) 0 lasts (writes.take (k + 1)) = if ((fun _ => true)) k = true then (fallL ((fun _ => true)) 0 lasts (writes.take k)).set w.1 w.2 else fallL ((fun _ => true)) 0 lasts (writes.take k) := by
        have e : 0 + (writes.take k).length = k := by rw [List.length_take]; omega
        rw [List.take_add_one, hw]
        show fallL _ 0 lasts (writes.take k ++ [w]) = _
        first | (rw [fallL_snoc, e]) | (rw [fallL_snoc])
      have hfl : (fallL ((fun _ => true)) 0 lasts (writes.take k)).length = lasts.length := fallL_len _ _ _ _
      have hfs : ∀ s ∈ fallL ((fun _ => true)) 0 lasts (writes.take k), s.length = 32 := fallL_sec h5 fun v hv => h6 v (List.mem_of_mem_take hv)
      have hcl32 : (secC w.2).length = 32 := by rw [List.length_map, hsl]
      have hcl : (iD w.1 :: secC w.2).length = 33 := by rw [List.length_cons, hcl32]
      have hld := put_drop (iD w.1) (secC w.2) hcl32
      have hco := sec_one w.2
      have hat2 : w.1 < ([] : List (List D)).length + (lasts.map secC).length := by simpa using hat
      generalize fallL ((fun _ => true)) 0 lasts (writes.take k) = F at *
      obtain ⟨el, hel⟩ : ∃ el, F[w.1]? = some el := ⟨_, List.getElem?_eq_getElem (by omega)⟩
      have hell := hfs el (List.mem_of_getElem? hel)
      have hgF : (F.map secC)[w.1]? = some (secC el) := by rw [List.getElem?_map, hel]; rfl
      have hset : (F.map secC).set w.1 (putAt (secC el) 0 (secC w.2)) = (F.set w.1 w.2).map secC := by
        rw [putAt_whole (by rw [hcl32, List.length_map, hell]), List.map_set]
      have hell2 : 0 + 32 ≤ (secC el).length := by rw [List.length_map, hell]; omega
      have c1 := sync1_px k
      rw [if_pos rfl] at hnext
      obtain ⟨c, hcq⟩ : ∃ c, secC w.2 = c := ⟨_, rfl⟩
      rw [hcq] at hg hcl32 hcl hld hco hset
      repeat (first | (with_reducible first | apply aw_seq | apply aw_reg | apply rp_nil | apply ae_norm | apply aw_block | apply aw_skip) | ((with_reducible apply rp); first | (exact does_load_elem_whole (tyOk rfl) rfl rfl hg hcl) | ((with_reducible apply does_move); (conv => lhs; whnf)) | ((with_reducible apply does_assign); (conv => lhs; whnf)) | ((with_reducible apply does_index_sl); exact tyOk rfl; exact rfl; exact tyOk rfl; exact rfl; exact rfl; exact rfl; exact rfl; (simp only [List.length_map, List.length_append, List.length_cons, List.length_nil] at *; omega))) | ((with_reducible apply rp1); ((with_reducible apply does_alloc); exact tyOk rfl; exact rfl)) | ((with_reducible apply rpN); (exact does_store_whole (tyOk rfl) rfl rfl rfl hcl hcl)) | ((with_reducible apply rpL); (refine does_callX [] [] (ups := []) rfl (c1) rfl ?_ rfl ?_ ?_ rfl rfl rfl rfl rfl ?_ rfl rfl; (focus repeat' exact trivial); (focus repeat' (first | exact trivial | refine And.intro ?_ ?_)); (focus repeat' (first | exact trivial | refine And.intro ?_ ?_)); (focus repeat' (first | exact trivial | refine And.intro ?_ ?_))); exact lapp_nil _))
      refine aw_cond rfl (fun _ => ?_) (fun hc => (by cases hc))
      focus
        repeat (first | (with_reducible first | apply aw_reg | apply rp_nil | apply ae_norm | apply be_norm) | ((with_reducible apply rp); first | (exact does_load_d (ds := c) (tyOk rfl) rfl rfl rfl hld (Nat.le_of_eq (by rw [List.length_map, hcl]; rfl))) | (exact does_index_own (i := w.1) (tyOk rfl) rfl (tyOk rfl) rfl rfl rfl hat2) | ((with_reducible apply does_move); (conv => lhs; whnf)) | ((with_reducible apply does_fieldAddr); exact tyOk rfl; exact rfl; exact rfl; decide; exact rfl) | ((with_reducible apply does_load_var); exact tyOk rfl; exact rfl; exact rfl; exact rfl; exact rfl) | ((with_reducible apply does_add); exact rfl; exact rfl; omega; omega)) | ((with_reducible apply rpN); (exact does_store_own (tyOk rfl) rfl rfl hco rfl hgF hcl32 hell2)))
        refine ⟨_, _, ?_, ?_, k + 1, by omega, rfl, rfl⟩
        · omega
        · rw [hnext, ← hset]
          refine forget_of [] (by repeat' (first | exact ks_nil | (refine ks_cons rfl (by exact SubA.refl _) ?_))) (by repeat' (first | exact trivial | exact rfl | refine And.intro ?_ ?_)) rfl (by repeat' (first | exact trivial | exact inB_ow rfl | exact inB_px rfl | refine And.intro ?_ ?_)) (by repeat' (first | exact trivial | exact inB_ow rfl | exact inB_px rfl | refine And.intro ?_ ?_))
    · have hke : k = writes.length := by simp at hd; omega
      subst hke
      rw [List.take_length]
      clear hd
      generalize fallL ((fun _ => true)) 0 lasts writes = F at *
      repeat (first | (with_reducible first | apply aw_seq | apply aw_reg | apply rp_nil | apply ae_norm | apply aw_exit | apply ae_exit | apply be_exit | apply aw_ret | apply xf_ret) | ((with_reducible apply rp); first | (exact does_load_wholeA (tyOk rfl) rfl rfl rfl rfl) | ((with_reducible apply does_assign); (conv => lhs; whnf))) | ((with_reducible apply rpN); ((with_reducible apply does_store_wholeA); exact tyOk rfl; exact rfl; exact rfl; exact rfl; exact rfl; exact rfl)))
      (with_reducible apply retxf_ok (l := [])); (focus (repeat' (first | (with_reducible apply rv_nil) | (with_reducible apply rv_cons) | ((with_reducible apply rv_tmp); exact rfl) | ((with_reducible apply rv_row); exact rfl; exact rfl; exact tyOk rfl; exact rfl; exact Nat.le_of_ble_eq_true rfl)))); exact rfl; exact nil_sub _; refine ⟨(by repeat' (first | exact ks_nil | (refine ks_cons rfl (by exact SubA.refl _) ?_))), (by repeat' exact trivial), rfl, (by repeat' (first | exact trivial | refine And.intro ?_ ?_)), (by repeat' (first | exact trivial | refine And.intro ?_ ?_))⟩
set_option maxHeartbeats 4000000 in
theorem fallC_px (d : Dk) (h : DkOk d) (z : Int) (keep : Nat → Bool) (hkeep : ∀ k : Nat, k < 60 → PX Try.prog 35 [.d (iD k), .px 1000 0] [(1000, .var 3 [.d (iD z)])] [] (bD (keep k)) [(1000, .var 3 [.d (iD z)])] []) : PX Try.prog 34 [.d (dkD d), .fn (.func 35) [] [.px 1000 0]] [(1000, .var 3 [.d (iD z)])] [] (.tu [dkD (crashF keep d), iD 0]) [(1000, .var 3 [.d (iD z)])] [] := by
  have k1 := check_pc d h
  obtain ⟨lasts, writes⟩ := d
  obtain ⟨h1, h2, h3, h4, h5, h6⟩ := h
  unfold crashF
  dsimp only at *
  have hL : lasts.length = (lasts.map secC).length := by rw [List.length_map]
  refine pxf_of_aw Try.func34 rfl (by kernel_rfl) mixed (by kernel_rfl) (by rw [Try.ntmps34]; exact Nat.le_of_ble_eq_true rfl) Try.results34 rfl ?_
  repeat (first | (with_reducible first | apply aw_seq | apply aw_reg | apply rp_nil | apply ae_norm | apply aw_block | apply aw_skip) | ((with_reducible apply rp); first | ((with_reducible apply does_call_flat); exact rfl; exact rfl; exact (k1); exact rfl) | (exact (by (with_reducible apply does_build_own (out := [.ow 19 _, .d .nl])); exact tyOk rfl; exact rfl; exact rfl; (focus repeat' (first | exact rfl | refine ⟨_, _, rfl, rfl, Nat.le_of_ble_eq_true rfl, rfl, ?_⟩)))) | ((with_reducible apply does_move); (conv => lhs; whnf)) | ((with_reducible apply does_assign); (conv => lhs; whnf)) | ((with_reducible apply does_fieldAddr); exact tyOk rfl; exact rfl; exact rfl; decide; exact rfl) | ((with_reducible apply does_load_var); exact tyOk rfl; exact rfl; exact rfl; exact rfl; exact rfl) | ((with_reducible apply does_load_row); exact tyOk rfl; exact rfl; exact rfl; exact rfl; exact Nat.le_of_ble_eq_true rfl; exact rfl) | ((with_reducible apply does_ne); exact rfl; exact rfl) | ((with_reducible apply does_len_map); exact tyOk rfl; exact rfl; exact rfl)) | ((with_reducible apply rp1); first | ((with_reducible apply does_box_ag); exact rfl; exact rfl) | ((with_reducible apply does_alloc); exact tyOk rfl; exact rfl) | ((with_reducible apply does_buildSlice); exact tyOk rfl; exact rfl; exact tyOk rfl; exact rfl; exact rfl; (focus repeat' (first | exact trivial | refine And.intro rfl (And.intro rfl ?_))); decide; decide; exact rfl)) | ((with_reducible apply rp2); ((with_reducible apply does_append_own); exact tyOk rfl; exact rfl; exact tyOk rfl; exact rfl; exact rfl; exact rfl; decide; (dsimp only; simp only [List.length_map, List.length_append, List.length_cons, List.length_nil] at *; omega); (dsimp only; simp only [List.length_map, List.length_append, List.length_cons, List.length_nil] at *; omega); exact rfl)) | ((with_reducible apply rpN); ((with_reducible apply does_store_wholeA); exact tyOk rfl; exact rfl; exact rfl; exact rfl; exact rfl; exact rfl)) | ((with_reducible apply aw_cond); exact rfl; (focus (intro hd; (cases hd; done))); (intro hd; clear hd)))
  refine aw_loop (fun n s => ∃ k, k ≤ writes.length ∧ n = writes.length - k ∧ s = ⟨[(1, .fn (.func 35) [] [.px 1000 0]), (4, .px 4 0), (7, .px 7 0), (22, .d (putsD writes)), (23, .d (iD writes.length)), (24, .d (iD k))], [(4, .var 26 [.d .nl, .d .nl]), (7, .var 26 [.ow 19 (([] : List (List D)).length + (lasts.map secC).length), .d .nl]), (19, .row 100 32 ((fallL keep 0 lasts (writes.take k)).map secC)), (1000, .var 3 [.d (iD z)])]⟩) _ _ ?_ ⟨0, by omega, rfl, rfl⟩ ?_
  · refine forget_of [] (by repeat' (first | exact ks_nil | (refine ks_cons rfl (by exact SubA.refl _) ?_))) (by repeat' (first | exact trivial | exact rfl | refine And.intro ?_ ?_)) rfl (by repeat' (first | exact trivial | exact inB_ow rfl | exact inB_px rfl | refine And.intro ?_ ?_)) (by repeat' (first | exact trivial | exact inB_ow rfl | exact inB_px rfl | refine And.intro ?_ ?_))
  · rintro n s1 ⟨k, hk, rfl, rfl⟩
    repeat (first | (with_reducible first | apply aw_seq | apply aw_reg | apply rp_nil | apply ae_norm) | ((with_reducible apply rp); ((with_reducible apply does_lt); exact rfl; exact rfl)))
    refine aw_cond rfl (fun hd => ?_) (fun hd => ?_)
    · have hlt : k < writes.length := by simpa using hd
      clear hd
      obtain ⟨w, hw⟩ : ∃ w, writes[k]? = some w := ⟨_, List.getElem?_eq_getElem hlt⟩
      have hm := List.mem_of_getElem? hw
      have hat := h4 w hm
      have hsl := h6 w hm
      have hg : (writes.map putC)[k]? = some (iD w.1 :: secC w.2) := by rw [List.getElem?_map, hw]; rfl
      have hnext : fallL (keep) 0 lasts (writes.take (k + 1)) = if (keep) k = true then (fallL (keep) 0 lasts (writes.take k)).set w.1 w.2 else fallL (keep) 0 lasts (writes.take k) := by
        have e : 0 + (writes.take k).length = k := by rw [List.length_take]; omega
        rw [List.take_add_one, hw]
        show fallL _ 0 lasts (writes.take k ++ [w]) = _
        first | (rw [fallL_snoc, e]) | (rw [fallL_snoc])
      have hfl : (fallL (keep) 0 lasts (writes.take k)).length = lasts.length := fallL_len _ _ _ _
      have hfs : ∀ s ∈ fallL (keep) 0 lasts (writes.take k), s.length = 32 := fallL_sec h5 fun v hv => h6 v (List.mem_of_mem_take hv)
      have hcl32 : (secC w.2).length = 32 := by rw [List.length_map, hsl]
      have hcl : (iD w.1 :: secC w.2).length = 33 := by rw [List.length_cons, hcl32]
      have hld := put_drop (iD w.1) (secC w.2) hcl32
      have hco := sec_one w.2
      have hat2 : w.1 < ([] : List (List D)).length + (lasts.map secC).length := by simpa using hat
      generalize fallL (keep) 0 lasts (writes.take k) = F at *
      obtain ⟨el, hel⟩ : ∃ el, F[w.1]? = some el := ⟨_, List.getElem?_eq_getElem (by omega)⟩
      have hell := hfs el (List.mem_of_getElem? hel)
      have hgF : (F.map secC)[w.1]? = some (secC el) := by rw [List.getElem?_map, hel]; rfl
      have hset : (F.map secC).set w.1 (putAt (secC el) 0 (secC w.2)) = (F.set w.1 w.2).map secC := by
        rw [putAt_whole (by rw [hcl32, List.length_map, hell]), List.map_set]
      have hell2 : 0 + 32 ≤ (secC el).length := by rw [List.length_map, hell]; omega
      have c1 := hkeep k (by omega)
      obtain ⟨c, hcq⟩ : ∃ c, secC w.2 = c := ⟨_, rfl⟩
      rw [hcq] at hg hcl32 hcl hld hco hset
      repeat (first | (with_reducible first | apply aw_seq | apply aw_reg | apply rp_nil | apply ae_norm | apply aw_block | apply aw_skip) | ((with_reducible apply rp); first | (exact does_load_elem_whole (tyOk rfl) rfl rfl hg hcl) | ((with_reducible apply does_move); (conv => lhs; whnf)) | ((with_reducible apply does_assign); (conv => lhs; whnf)) | ((with_reducible apply does_index_sl); exact tyOk rfl; exact rfl; exact tyOk rfl; exact rfl; exact rfl; exact rfl; exact rfl; (simp only [List.length_map, List.length_append, List.length_cons, List.length_nil] at *; omega))) | ((with_reducible apply rp1); ((with_reducible apply does_alloc); exact tyOk rfl; exact rfl)) | ((with_reducible apply rpN); (exact does_store_whole (tyOk rfl) rfl rfl rfl hcl hcl)) | ((with_reducible apply rpL); (refine does_callX [(1000, 1000)] [(1000, 1000)] (ups := [(1000, .var 3 [.d (iD z)])]) rfl (c1) rfl ?_ rfl ?_ ?_ rfl rfl rfl rfl rfl ?_ rfl rfl; (focus repeat' (first | exact trivial | exact rfl | refine And.intro ?_ ?_)); (focus repeat' (first | exact trivial | exact inB_px rfl | refine And.intro ?_ ?_)); (focus repeat' (first | exact trivial | exact inB_px rfl | refine And.intro ?_ ?_)); (focus repeat' (first | exact trivial | exact inB_px rfl | refine And.intro ?_ ?_))); exact lapp_nil _))
      cases hkk : keep k with
      | true =>
        rw [hkk, if_pos rfl] at hnext
        refine aw_cond rfl (fun _ => ?_) (fun hc => (by cases hc))
        repeat (first | (with_reducible first | apply aw_reg | apply rp_nil | apply ae_norm | apply be_norm) | ((with_reducible apply rp); first | (exact does_load_d (ds := c) (tyOk rfl) rfl rfl rfl hld (Nat.le_of_eq (by rw [List.length_map, hcl]; rfl))) | (exact does_index_own (i := w.1) (tyOk rfl) rfl (tyOk rfl) rfl rfl rfl hat2) | ((with_reducible apply does_move); (conv => lhs; whnf)) | ((with_reducible apply does_fieldAddr); exact tyOk rfl; exact rfl; exact rfl; decide; exact rfl) | ((with_reducible apply does_load_var); exact tyOk rfl; exact rfl; exact rfl; exact rfl; exact rfl) | ((with_reducible apply does_add); exact rfl; exact rfl; omega; omega)) | ((with_reducible apply rpN); (exact does_store_own (tyOk rfl) rfl rfl hco rfl hgF hcl32 hell2)))
        refine ⟨_, _, ?_, ?_, k + 1, by omega, rfl, rfl⟩
        · omega
        · rw [hnext, ← hset]
          refine forget_of [] (by repeat' (first | exact ks_nil | (refine ks_cons rfl (by exact SubA.refl _) ?_))) (by repeat' (first | exact trivial | exact rfl | refine And.intro ?_ ?_)) rfl (by repeat' (first | exact trivial | exact inB_ow rfl | exact inB_px rfl | refine And.intro ?_ ?_)) (by repeat' (first | exact trivial | exact inB_ow rfl | exact inB_px rfl | refine And.intro ?_ ?_))
      | false =>
        rw [hkk, if_neg (by decide)] at hnext
        refine aw_cond rfl (fun hc => (by cases hc)) (fun _ => ?_)
        repeat (first | (with_reducible first | apply aw_reg | apply rp_nil | apply ae_norm | apply be_norm | apply aw_skip) | ((with_reducible apply rp); first | ((with_reducible apply does_move); (conv => lhs; whnf)) | ((with_reducible apply does_add); exact rfl; exact rfl; omega; omega)))
        refine ⟨_, _, ?_, ?_, k + 1, by omega, rfl, rfl⟩
        · omega
        · rw [hnext]
          refine forget_of [] (by repeat' (first | exact ks_nil | (refine ks_cons rfl (by exact SubA.refl _) ?_))) (by repeat' (first | exact trivial | exact rfl | refine And.intro ?_ ?_)) rfl (by repeat' (first | exact trivial | exact inB_ow rfl | exact inB_px rfl | refine And.intro ?_ ?_)) (by repeat' (first | exact trivial | exact inB_ow rfl | exact inB_px rfl | refine And.intro ?_ ?_))
    · have hke : k = writes.length := by simp at hd; omega
      subst hke
      rw [List.take_length]
      clear hd
      generalize fallL (keep) 0 lasts writes = F at *
      repeat (first | (with_reducible first | apply aw_seq | apply aw_reg | apply rp_nil | apply ae_norm | apply aw_exit | apply ae_exit | apply be_exit | apply aw_ret | apply xf_ret) | ((with_reducible apply rp); first | (exact does_load_wholeA (tyOk rfl) rfl rfl rfl rfl) | ((with_reducible apply does_assign); (conv => lhs; whnf))) | ((with_reducible apply rpN); ((with_reducible apply does_store_wholeA); exact tyOk rfl; exact rfl; exact rfl; exact rfl; exact rfl; exact rfl)))
      (with_reducible apply retxf_ok (l := [])); (focus (repeat' (first | (with_reducible apply rv_nil) | (with_reducible apply rv_cons) | ((with_reducible apply rv_tmp); exact rfl) | ((with_reducible apply rv_row); exact rfl; exact rfl; exact tyOk rfl; exact rfl; exact Nat.le_of_ble_eq_true rfl)))); exact rfl; exact nil_sub _; refine ⟨(by repeat' (first | exact ks_nil | (refine ks_cons rfl (by exact SubA.refl _) ?_))), (by repeat' (first | exact trivial | exact rfl | refine And.intro ?_ ?_)), rfl, (by repeat' (first | exact trivial | exact inB_px rfl | refine And.intro ?_ ?_)), (by repeat' (first | exact trivial | exact inB_px rfl | refine And.intro ?_ ?_))⟩
set_option maxHeartbeats 1000000 in
theorem sync_pc (d : Dk) (h : DkOk d) : PC Try.prog 30 [dkD d] (.tu [dkD (crashF (fun _ => true) d), iD 0]) := by
  have f1 := fallS_px d h
  refine pc_of_aw Try.func30 rfl (by kernel_rfl) mixed (by kernel_rfl) (by rw [Try.ntmps30]; exact Nat.le_of_ble_eq_true rfl) Try.results30 ?_
  repeat (first | (with_reducible first | apply aw_seq | apply aw_reg | apply rp_nil | apply ae_norm | apply aw_ret | apply re_ret) | ((with_reducible apply rp); first | ((with_reducible apply does_assign); (conv => lhs; whnf)) | ((with_reducible apply does_load_row); exact tyOk rfl; exact rfl; exact rfl; exact rfl; exact Nat.le_of_ble_eq_true rfl; exact rfl) | ((with_reducible apply does_extract); exact rfl; exact rfl)) | ((with_reducible apply rp1); first | ((with_reducible apply does_box_ag); exact rfl; exact rfl) | ((with_reducible apply does_alloc); exact tyOk rfl; exact rfl)) | ((with_reducible apply rpN); ((with_reducible apply does_store_whole); exact tyOk rfl; exact rfl; exact rfl; exact rfl; exact rfl; exact rfl)) | ((with_reducible apply rpL); (refine does_callX [] [] (ups := []) rfl (f1) rfl ?_ rfl ?_ ?_ rfl rfl rfl rfl rfl ?_ rfl rfl; (focus repeat' exact trivial); (focus repeat' (first | exact trivial | refine And.intro ?_ ?_)); (focus repeat' (first | exact trivial | refine And.intro ?_ ?_)); (focus repeat' (first | exact trivial | refine And.intro ?_ ?_))); exact lapp_nil _))
  (with_reducible apply ret_ok); (focus (repeat' (first | (with_reducible apply rv_nil) | (with_reducible apply rv_cons) | ((with_reducible apply rv_tmp); exact rfl) | ((with_reducible apply rv_rowd); exact rfl; exact rfl; exact tyOk rfl; exact rfl; exact rfl)))); exact rfl; refine SubD.of_eq ?_
  rfl
set_option maxHeartbeats 1000000 in
theorem crash_pc (d : Dk) (h : DkOk d) (z : Int) : ∃ keep, PC Try.prog 16 [dkD d, iD z] (.tu [dkD (crashF keep d), iD 0]) := by
  obtain ⟨keep, hkeep⟩ : ∃ keep : Nat → Bool, ∀ k : Nat, k < 60 → PX Try.prog 35 [.d (iD k), .px 1000 0] [(1000, .var 3 [.d (iD z)])] [] (bD (keep k)) [(1000, .var 3 [.d (iD z)])] [] := by
    have hall : ∀ k : Nat, ∃ b : Bool, k < 60 → PX Try.prog 35 [.d (iD k), .px 1000 0] [(1000, .var 3 [.d (iD z)])] [] (bD b) [(1000, .var 3 [.d (iD z)])] [] := fun k => by
      by_cases hk : k < 60
      · obtain ⟨b, hb⟩ := crash1_px z k hk
        exact ⟨b, fun _ => hb⟩
      · exact ⟨true, fun h => absurd h hk⟩
    exact Classical.axiomOfChoice hall
  refine ⟨keep, ?_⟩
  have f1 := fallC_px d h z keep hkeep
  clear hkeep
  generalize crashF keep d = r at *
  refine pc_of_aw Try.func16 rfl (by kernel_rfl) mixed (by kernel_rfl) (by rw [Try.ntmps16]; exact Nat.le_of_ble_eq_true rfl) Try.results16 ?_
  repeat (first | (with_reducible first | apply aw_seq | apply aw_reg | apply rp_nil | apply ae_norm | apply aw_ret | apply re_ret) | ((with_reducible apply rp); first | ((with_reducible apply does_assign); (conv => lhs; whnf)) | ((with_reducible apply does_load_row); exact tyOk rfl; exact rfl; exact rfl; exact rfl; exact Nat.le_of_ble_eq_true rfl; exact rfl) | ((with_reducible apply does_extract); exact rfl; exact rfl) | ((with_reducible apply does_makeFunc_l); (focus repeat' (first | exact evs_nil rfl | (apply evs_cons; exact rfl; (conv => lhs; whnf)))); (focus repeat' (first | exact evs_nil rfl | (apply evs_cons; exact rfl; (conv => lhs; whnf)))))) | ((with_reducible apply rp1); first | ((with_reducible apply does_box_ag); exact rfl; exact rfl) | ((with_reducible apply does_box_one); (conv => lhs; whnf); exact rfl; exact rfl) | ((with_reducible apply does_alloc); exact tyOk rfl; exact rfl)) | ((with_reducible apply rpN); ((with_reducible apply does_store_whole); exact tyOk rfl; exact rfl; exact rfl; exact rfl; exact rfl; exact rfl)) | ((with_reducible apply rpL); (refine does_callX [(1000, 3)] [(1000, 3)] (ups := [(3, .var 3 [.d (iD z)])]) rfl (f1) rfl ?_ rfl ?_ ?_ rfl rfl rfl rfl rfl ?_ rfl rfl; (focus repeat' (first | exact trivial | exact rfl | refine And.intro ?_ ?_)); (focus repeat' (first | exact trivial | exact inB_px rfl | refine And.intro ?_ ?_)); (focus repeat' (first | exact trivial | exact inB_px rfl | refine And.intro ?_ ?_)); (focus repeat' (first | exact trivial | exact inB_px rfl | refine And.intro ?_ ?_))); exact lapp_nil _))
  (with_reducible apply ret_ok); (focus (repeat' (first | (with_reducible apply rv_nil) | (with_reducible apply rv_cons) | ((with_reducible apply rv_tmp); exact rfl) | ((with_reducible apply rv_rowd); exact rfl; exact rfl; exact tyOk rfl; exact rfl; exact rfl)))); exact rfl; refine SubD.of_eq ?_
  rfl
set_option maxHeartbeats 1000000 in
theorem new_pc (k : Nat) (h1 : 1 ≤ k) (h2 : k ≤ 400) : PC Try.prog 12 [iD k] (.tu [dkD ⟨List.replicate k (zeros 32), []⟩, iD 0]) := by
  have hz : (List.replicate k (zeros 32)).map secC = List.replicate k ((zeros 32).map u8D) := by rw [List.map_replicate]
  refine pc_of_aw Try.func12 rfl (by kernel_rfl) mixed (by kernel_rfl) (by rw [Try.ntmps12]; exact Nat.le_of_ble_eq_true rfl) Try.results12 ?_
  repeat (first | (with_reducible first | apply aw_seq | apply aw_reg | apply rp_nil | apply ae_norm | apply aw_ret | apply re_ret | apply aw_skip) | ((first | (with_reducible apply rp) | ((with_reducible apply rpG); exact rfl; exact gval_f rfl; (focus repeat' (first | exact trivial | exact fun h => h | refine And.intro ?_ ?_)); intro hgd; have hgd0 := hgd; (try simp only [decide_eq_true_eq, Bool.and_eq_true, Bool.not_eq_true', beq_iff_eq] at hgd))); first | (exact (by (with_reducible apply does_build_own (out := [.ow 12 _, .d .nl])); exact tyOk rfl; exact rfl; exact rfl; (focus repeat' (first | exact rfl | refine ⟨_, _, rfl, rfl, Nat.le_of_ble_eq_true rfl, rfl, ?_⟩)))) | ((with_reducible apply does_move); (conv => lhs; whnf)) | ((with_reducible apply does_assign); (conv => lhs; whnf)) | ((with_reducible apply does_or); exact rfl; exact rfl; exact rfl; exact fun h => h) | ((with_reducible apply does_lt); exact rfl; exact rfl) | ((with_reducible apply does_gt); exact rfl; exact rfl)) | ((with_reducible apply rp1); first | ((with_reducible apply does_alloc); exact tyOk rfl; exact rfl) | ((with_reducible apply does_make); exact tyOk rfl; exact rfl; exact tyOk rfl; exact rfl; exact rfl; exact rfl; exact rfl; decide; (first | omega | (dsimp only; omega)); (first | omega | (dsimp only; omega)); exact rfl)) | ((with_reducible apply rpN); ((with_reducible apply does_store_wholeA); exact tyOk rfl; exact rfl; exact rfl; exact rfl; exact rfl; exact rfl)) | ((with_reducible apply aw_cond); exact rfl; (focus (intro hd; (exfalso; simp at hd; omega))); (intro hd; clear hd)))
  (with_reducible apply ret_ok); (focus (repeat' (first | (with_reducible apply rv_nil) | (with_reducible apply rv_cons) | ((with_reducible apply rv_tmp); exact rfl) | ((with_reducible apply rv_row); exact rfl; exact rfl; exact tyOk rfl; exact rfl; exact Nat.le_of_ble_eq_true rfl)))); exact rfl
  have h0 := nil_sub (List.replicate k (zeros 32))
  rw [hz] at h0
  exact h0
end Go.Proofs.Ytpaccaojgbfjdaa

