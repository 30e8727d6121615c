/-
  disk.Read, fresh, Write, New as contracts. No condition but that the disk may be.
-/
import Derived.Test.YtpaccaojgbfjdaaZTap1
import Derived.Test.YtpaccaojgbfjdaaZPlPxH
namespace Go.Proofs.Ytpaccaojgbfjdaa
set_option linter.unusedSimpArgs false
set_option linter.unusedVariables false
open Go.RowKit

def readF (d : Dk) (i : Nat) : List UInt8 := readL i (d.lasts.getD i []) d.writes
theorem readL_snoc (i : Nat) (w : Nat × List UInt8) : ∀ (l : List (Nat × List UInt8)) (b : List UInt8), readL i b (l ++ [w]) = if w.1 = i then w.2 else readL i b l
  | [], b => rfl
  | v :: l, b => by
    show readL i _ (l ++ [w]) = if w.1 = i then w.2 else readL i _ l
    rw [readL_snoc i w l]
theorem readL_len {i : Nat} : ∀ {l : List (Nat × List UInt8)} {b : List UInt8}, b.length = 32 → (∀ w ∈ l, w.2.length = 32) → (readL i b l).length = 32
  | [], b, h, _ => h
  | w :: l, b, h, hl => by
    rw [readL]
    refine readL_len ?_ fun v hv => hl v (List.mem_cons_of_mem _ hv)
    split
    · exact hl w List.mem_cons_self
    · exact h
theorem put_drop (a : D) (c : List D) (h : c.length = 32) : (((a :: c).map A.d).drop 1).take 32 = c.map A.d := by
  rw [List.map_cons, List.drop_succ_cons, List.drop_zero, List.take_of_length_le (by rw [List.length_map, h]; omega)]
set_option maxHeartbeats 4000000 in
theorem read_pc (d : Dk) (h : DkOk d) (i : Nat) (hi : i < d.lasts.length) : PC Try.prog 46 [dkD d, iD i] (.tu [.ag (secC (readF d i)), iD 0]) := by
  have k1 := check_pc d h
  obtain ⟨lasts, writes⟩ := d
  obtain ⟨h1, h2, h3, h4, h5, h6⟩ := h
  unfold readF
  dsimp only at *
  obtain ⟨b, hb⟩ : ∃ b, lasts[i]? = some b := ⟨_, List.getElem?_eq_getElem hi⟩
  have hb32 := h5 b (List.mem_of_getElem? hb)
  have hgd : lasts.getD i [] = b := by rw [List.getD_eq_getElem?_getD, hb]; rfl
  rw [hgd]
  have hlg : (lasts.map secC)[i]? = some (secC b) := by rw [List.getElem?_map, hb]; rfl
  have hbl : (secC b).length = 32 := by rw [List.length_map, hb32]
  have hlen32 : ∀ k, (secC (readL i b (writes.take k))).length = 32 := fun k => by
    rw [List.length_map]
    exact readL_len hb32 fun w hw => h6 w (List.mem_of_mem_take hw)
  have hlt2 : ((i : Int)) < lasts.length := by omega
  clear hgd
  refine pc_of_aw Try.func46 rfl (by kernel_rfl) mixed (by kernel_rfl) (by rw [Try.ntmps46]; exact Nat.le_of_ble_eq_true rfl) Try.results46 ?_
  repeat (first | (with_reducible first | apply aw_seq | apply aw_reg | apply rp_nil | apply ae_norm | apply aw_block | apply aw_skip) | ((first | (with_reducible apply rp) | ((with_reducible apply rpG); exact rfl; exact gval_f rfl; (focus repeat' (first | exact trivial | exact fun h => h | refine And.intro ?_ ?_)); intro hgd; have hgd0 := hgd; (try simp only [decide_eq_true_eq, Bool.and_eq_true, Bool.not_eq_true', beq_iff_eq] at hgd))); first | ((with_reducible apply does_call_flat); exact rfl; exact rfl; exact (k1); exact rfl) | (exact does_load_elem_whole (tyOk rfl) rfl rfl hlg hbl) | ((with_reducible apply does_move); (conv => lhs; whnf)) | ((with_reducible apply does_assign); (conv => lhs; whnf)) | ((with_reducible apply does_or); exact rfl; exact rfl; exact rfl; exact fun h => h) | ((with_reducible apply does_fieldAddr); exact tyOk rfl; exact rfl; exact rfl; decide; exact rfl) | ((with_reducible apply does_load_var); exact tyOk rfl; exact rfl; exact rfl; exact rfl; exact rfl) | ((with_reducible apply does_load_row); exact tyOk rfl; exact rfl; exact rfl; exact rfl; exact Nat.le_of_ble_eq_true rfl; exact rfl) | ((with_reducible apply does_index_sl); exact tyOk rfl; exact rfl; exact tyOk rfl; exact rfl; exact rfl; exact rfl; exact rfl; (dsimp only; simp only [List.length_map, List.length_append, List.length_cons, List.length_nil] at *; omega)) | ((with_reducible apply does_ne); exact rfl; exact rfl) | ((with_reducible apply does_lt); exact rfl; exact rfl) | ((with_reducible apply does_ge); exact rfl; exact rfl) | ((with_reducible apply does_len_map); exact tyOk rfl; exact rfl; exact rfl)) | ((with_reducible apply rp1); first | ((with_reducible apply does_box_ag); exact rfl; exact rfl) | ((with_reducible apply does_alloc); exact tyOk rfl; exact rfl)) | ((with_reducible apply rpN); (exact does_store_whole (tyOk rfl) rfl rfl rfl hbl hbl)) | ((with_reducible apply aw_cond); exact rfl; (focus (intro hd; (first | (cases hd; done) | (exfalso; simp at hd; omega)))); (intro hd; clear hd)))
  refine aw_loop (fun n s => ∃ k, k ≤ writes.length ∧ n = writes.length - k ∧ s = ⟨[(1, .d (iD i)), (4, .px 4 0), (7, .px 7 0), (32, .d (putsD writes)), (33, .d (iD writes.length)), (34, .d (iD k))], [(4, .var 100 ((zeros 32).map fun c => .d (u8D c))), (7, .var 100 ((secC (readL i b (writes.take k))).map .d))]⟩) _ _ ?_ ⟨0, by omega, rfl, rfl⟩ ?_
  · refine forget_of [] (by repeat' (first | exact ks_nil | (refine ks_cons rfl (by exact SubA.refl _) ?_))) (by repeat' (first | exact trivial | exact rfl | exact kb_d rfl | refine And.intro ?_ ?_)) rfl (by repeat' (first | exact trivial | exact insB_map _ | exact inB_px rfl | refine And.intro ?_ ?_)) (by repeat' (first | exact trivial | exact insB_map _ | exact inB_px rfl | refine And.intro ?_ ?_))
  · rintro n s1 ⟨k, hk, rfl, rfl⟩
    repeat (first | (with_reducible first | apply aw_seq | apply aw_reg | apply rp_nil | apply ae_norm) | ((with_reducible apply rp); ((with_reducible apply does_lt); exact rfl; exact rfl)))
    refine aw_cond rfl (fun hd => ?_) (fun hd => ?_)
    · have hlt : k < writes.length := by simpa using hd
      clear hd
      obtain ⟨w, hw⟩ : ∃ w, writes[k]? = some w := ⟨_, List.getElem?_eq_getElem hlt⟩
      have hm := List.mem_of_getElem? hw
      have hsl := h6 w hm
      have hg : (writes.map putC)[k]? = some (iD w.1 :: secC w.2) := by rw [List.getElem?_map, hw]; rfl
      have hnext : readL i b (writes.take (k + 1)) = if w.1 = i then w.2 else readL i b (writes.take k) := by
        rw [List.take_add_one, hw]; exact readL_snoc i w _ b
      have hcl32 : (secC w.2).length = 32 := by rw [List.length_map, hsl]
      have hcl : (iD w.1 :: secC w.2).length = 33 := by rw [List.length_cons, hcl32]
      have hl1 := hlen32 k
      have hld := put_drop (iD w.1) (secC w.2) hcl32
      obtain ⟨c, hcq⟩ : ∃ c, secC w.2 = c := ⟨_, rfl⟩
      rw [hcq] at hg hcl32 hcl hld
      obtain ⟨p, hp⟩ : ∃ p, secC (readL i b (writes.take k)) = p := ⟨_, rfl⟩
      rw [hp] at hl1 ⊢
      have hcp : (c.length = (p.map A.d).length) := by rw [hcl32, List.length_map, hl1]
      repeat (first | (with_reducible first | apply aw_seq | apply aw_reg | apply rp_nil | apply ae_norm | apply aw_block | apply aw_skip) | ((with_reducible apply rp); first | (exact does_load_elem_whole (tyOk rfl) rfl rfl hg hcl) | ((with_reducible apply does_move); (conv => lhs; whnf)) | ((with_reducible apply does_fieldAddr); exact tyOk rfl; exact rfl; exact rfl; decide; exact rfl) | ((with_reducible apply does_load_var); exact tyOk rfl; exact rfl; exact rfl; exact rfl; exact rfl) | ((with_reducible apply does_index_sl); exact tyOk rfl; exact rfl; exact tyOk rfl; exact rfl; exact rfl; exact rfl; exact rfl; (simp only [List.length_map, List.length_append, List.length_cons, List.length_nil] at *; omega)) | ((with_reducible apply does_eq); exact rfl; exact rfl)) | ((with_reducible apply rp1); ((with_reducible apply does_alloc); exact tyOk rfl; exact rfl)) | ((with_reducible apply rpN); (exact does_store_whole (tyOk rfl) rfl rfl rfl hcl hcl)))
      by_cases he : w.1 = i
      · rw [if_pos he] at hnext
        have hci : ((w.1 : Int) == (i : Int)) = true := beq_iff_eq.2 (by omega)
        refine aw_cond rfl (fun _ => ?_) (fun hd => absurd (hci.symm.trans hd) (by decide))
        repeat (first | (with_reducible first | apply aw_reg | apply rp_nil | apply ae_norm | apply be_norm) | ((with_reducible apply rp); first | (exact does_load_d (ds := c) (tyOk rfl) rfl rfl rfl hld (Nat.le_of_eq (by rw [List.length_map, hcl]; rfl))) | ((with_reducible apply does_move); (conv => lhs; whnf)) | ((with_reducible apply does_fieldAddr); exact tyOk rfl; exact rfl; exact rfl; decide; exact rfl) | ((with_reducible apply does_add); exact rfl; exact rfl; omega; omega)) | ((with_reducible apply rpN); (exact does_store_whole (tyOk rfl) rfl rfl rfl hcl32 hcp)))
        refine ⟨_, _, ?_, ?_, k + 1, by omega, rfl, rfl⟩
        · omega
        · rw [hnext, hcq]
          refine forget_of [] (by repeat' (first | exact ks_nil | (refine ks_cons rfl (by exact SubA.refl _) ?_))) (by repeat' (first | exact trivial | exact rfl | exact kb_d rfl | refine And.intro ?_ ?_)) rfl (by repeat' (first | exact trivial | exact insB_map _ | exact inB_px rfl | refine And.intro ?_ ?_)) (by repeat' (first | exact trivial | exact insB_map _ | exact inB_px rfl | refine And.intro ?_ ?_))
      · rw [if_neg he] at hnext
        have hci : ((w.1 : Int) == (i : Int)) = false := beq_eq_false_iff_ne.2 (by omega)
        refine aw_cond rfl (fun hd => absurd (hci.symm.trans hd) (by decide)) (fun _ => ?_)
        repeat (first | (with_reducible first | apply aw_reg | apply rp_nil | apply ae_norm | apply be_norm | apply aw_skip) | ((with_reducible apply rp); first | ((with_reducible apply does_move); (conv => lhs; whnf)) | ((with_reducible apply does_add); exact rfl; exact rfl; omega; omega)))
        refine ⟨_, _, ?_, ?_, k + 1, by omega, rfl, rfl⟩
        · omega
        · rw [hnext, hp]
          refine forget_of [] (by repeat' (first | exact ks_nil | (refine ks_cons rfl (by exact SubA.refl _) ?_))) (by repeat' (first | exact trivial | exact rfl | exact kb_d rfl | refine And.intro ?_ ?_)) rfl (by repeat' (first | exact trivial | exact insB_map _ | exact inB_px rfl | refine And.intro ?_ ?_)) (by repeat' (first | exact trivial | exact insB_map _ | exact inB_px rfl | refine And.intro ?_ ?_))
    · have hke : k = writes.length := by simp at hd; omega
      subst hke
      have hl1 := hlen32 writes.length
      rw [List.take_length] at hl1 ⊢
      clear hd
      generalize secC (readL i b writes) = p at *
      repeat (first | (with_reducible first | apply aw_seq | apply aw_reg | apply rp_nil | apply ae_norm | apply aw_exit | apply ae_exit | apply be_exit | apply aw_ret | apply re_ret) | ((with_reducible apply rp); first | (exact does_load_all (tyOk rfl) rfl rfl rfl hl1) | ((with_reducible apply does_assign); (conv => lhs; whnf))) | ((with_reducible apply rpN); (exact does_store_whole (tyOk rfl) rfl rfl rfl hl1 hl1)))
      (with_reducible apply ret_ok); (focus (repeat' (first | (with_reducible apply rv_nil) | (with_reducible apply rv_cons) | ((with_reducible apply rv_tmp); exact rfl) | ((with_reducible apply rv_rowd); exact rfl; exact rfl; exact tyOk rfl; exact rfl; (with_reducible assumption))))); (focus repeat' (first | exact rfl | (apply frzVs_cons; exact frzV_map _ _))); refine SubD.of_eq ?_
      rfl
end Go.Proofs.Ytpaccaojgbfjdaa

