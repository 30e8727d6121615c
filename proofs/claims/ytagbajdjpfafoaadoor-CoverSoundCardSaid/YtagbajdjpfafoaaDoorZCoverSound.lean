/-
  The law CoverSound returns true. No condition.
-/
import Derived.Test.YtagbajdjpfafoaaDoorZCoverRight
import Derived.Test.YtagbajdjpfafoaaDoorZOpenW
namespace Go.Proofs.YtagbajdjpfafoaaDoor
set_option linter.unusedSimpArgs false
set_option linter.unusedVariables false
open Go.RowKit

theorem restF_len {P : List Sl3} {R : List (List UInt8)} {B : Nat} (h : ∀ d ∈ R, d.length ≤ B) : (restF P R).1.1.length ≤ B := by
  cases R with
  | nil => exact Nat.zero_le _
  | cons d R => exact h d (by simp)
theorem bld_len (m : Int) {B : Nat} (hB : 16777216 ≤ B) : ∀ (j : Nat) (o : List Bool) (P : List Sl3) (R : List (List UInt8)), (∀ d ∈ R, d.length ≤ B) → (∀ s ∈ P, s.ok) → (bldF m j o P R).1.1.length ≤ B
  | 0, o, P, R, hR, hP => by
    unfold bldF
    split
    · cases P with
      | nil => exact Nat.zero_le _
      | cons s P =>
        have := leafS_len m (hP s (by simp))
        show (leafS m s).length ≤ B
        omega
    · exact restF_len hR
  | j + 1, o, P, R, hR, hP => by
    unfold bldF
    split
    · split
      · unfold pairB
        split
        · unfold nodeF
          dsimp only
          split
          · rename_i h
            rcases dig_len m 2 [(bldF m j (o.take (2 ^ j)) P R).1.1, (bldF m j (o.drop (2 ^ j)) (bldF m j (o.take (2 ^ j)) P R).2.1 (bldF m j (o.take (2 ^ j)) P R).2.2).1.1] with h1 | h1
            · dsimp only; omega
            · simp only [sumL, List.map_cons, List.map_nil, List.sum_cons, List.sum_nil] at h1
              dsimp only; omega
          · exact Nat.zero_le _
        · exact Nat.zero_le _
      · exact Nat.zero_le _
    · exact restF_len hR
theorem rt_sound {j : Nat} {l : List Sl3} {o : List Bool} {P : List Sl3} {R : List (List UInt8)} (h : l.length = 2 ^ j) (ho : o.length = 2 ^ j) (hj : 2 ^ j ≤ 16) (hok : ∀ s ∈ l, s.ok) (hP : ∀ s ∈ P, s.ok) (h0 : (rtF (bldF 2 j o P R)).2 = 0) (hr : (rtF (bldF 2 j o P R)).1 = rootSF 2 l) : P = selB l o := by
  have hs := bld_sound j l o P R h ho hj hok hP
  generalize bldF 2 j o P R = x at *
  unfold rtF at h0 hr
  split at h0
  · cases h0
  · rename_i hc
    rw [if_neg hc] at hr
    simp only [Bool.or_eq_true, Bool.not_eq_true', decide_eq_true_eq, not_or] at hc
    obtain ⟨⟨h1, h2⟩, _⟩ := hc
    have hx : x.1.2 = true := by simpa using h1
    have he := hs hx hr
    have hz : x.2.1 = [] := List.length_eq_zero_iff.1 (by omega)
    rw [hz, List.append_nil] at he
    exact he
theorem covF_rest (m : Int) : ∀ (j : Nat) (l : List Sl3) (o : List Bool), l.length = 2 ^ j → 2 ^ j ≤ 16 → (∀ s ∈ l, s.ok) → ∀ d ∈ (covF m j l o).2, d.length ≤ l.length * 533
  | 0, l, o, h, hj, hok => by
    have := rootSF_len m h hj hok
    unfold covF
    split
    · intro d hd; cases hd
    · intro d hd
      rw [List.mem_singleton.1 hd]; omega
  | j + 1, l, o, h, hj, hok => by
    have hp : 2 ^ (j + 1) = 2 * 2 ^ j := by rw [Nat.pow_succ]; omega
    have k1 : (l.take (2 ^ j)).length = 2 ^ j := by rw [List.length_take]; omega
    have k2 : (l.drop (2 ^ j)).length = 2 ^ j := by rw [List.length_drop]; omega
    have i1 := covF_rest m j (l.take (2 ^ j)) (o.take (2 ^ j)) k1 (by omega) (fun s hs => hok s (List.mem_of_mem_take hs))
    have i2 := covF_rest m j (l.drop (2 ^ j)) (o.drop (2 ^ j)) k2 (by omega) (fun s hs => hok s (List.mem_of_mem_drop hs))
    have := rootSF_len m h hj hok
    unfold covF
    split
    · intro d hd
      rcases List.mem_append.1 hd with hd | hd
      · exact Nat.le_trans (i1 d hd) (Nat.mul_le_mul_right _ (by omega))
      · exact Nat.le_trans (i2 d hd) (Nat.mul_le_mul_right _ (by omega))
    · intro d hd
      rw [List.mem_singleton.1 hd]; omega
theorem three_at {α : Type} {a b c x : α} {k : Nat} (h : [a, b, c][k]? = some x) : x = a ∨ x = b ∨ x = c := by
  match k, h with
  | 0, h => exact .inl (by simpa using h.symm)
  | 1, h => exact .inr (.inl (by simpa using h.symm))
  | 2, h => exact .inr (.inr (by simpa using h.symm))
set_option maxHeartbeats 4000000 in
theorem coverSound_pc (l others : List Raw) (w : Int) (rest : List (List UInt8)) (hrest : ∀ d ∈ rest, d.length ≤ 140737488355328) : PC Tryd.prog 8 [rawsD l, iD w, rawsD others, byL rest] (bD true) := by
  have q1 := slotsOf_pc l
  have hl := slF_len l
  have hok := slF_ok l
  generalize slF l = s at *
  have hp := logS_pow hl
  have hl16 : s.length ≤ 16 := by omega
  have op := opens_pc s w (by omega)
  have ho := opnF_len w s.length
  generalize opnF w s.length = o at *
  have r1 := sroot_pc 2 (.inr rfl) s hl hok
  have hpos := rootSF_pos 2 hl
  have c1 := coverOf_pc 2 (.inr rfl) s o hl ho hok
  have hRl : ∀ d ∈ (covF 2 (logS s.length) s o).2, d.length ≤ 140737488355328 := fun d hd => by
    have := covF_rest 2 (logS s.length) s o hp (by omega) hok d hd
    omega
  have hsel := covF_sel 2 (logS s.length) s o hp (ho.trans hp)
  have hCok := covF_ok 2 (logS s.length) s o hok
  rw [hsel] at c1 hCok
  have hrt : ∀ (P : List Sl3) (Q : List (List UInt8)), (∀ s ∈ P, s.ok) → (∀ d ∈ Q, d.length ≤ 140737488355328) → ∃ (dv : List UInt8) (cv : Nat), PC Tryd.prog 25 [iD 2, boolsD o, .ag [slotsD P, byL Q]] (.tu [byD dv, iD cv]) ∧ (cv = 0 → dv = rootSF 2 s → P = selB s o) := fun P Q hP hQ =>
    ⟨_, _, rooted_pc 2 (.inr rfl) (logS s.length) o P Q (ho.trans hp) (by omega) hP (bld_len 2 (by omega) _ o P Q hQ hP), rt_sound hp (ho.trans hp) (by omega) hok hP⟩
  clear hsel
  generalize (covF 2 (logS s.length) s o).2 = R at *
  have hC16 : (selB s o).length ≤ 16 := by rw [selB_len s o ho.symm]; exact Nat.le_trans (List.length_filter_le _ _) (by omega)
  generalize selB s o = C at *
  generalize rootSF 2 s = r at *
  clear hp hok hl
  have hz0 : ((0 : Int) != 0 || (0 : Int) != 0 || (r.length : Int) == 0) = false := by
    have h : ((r.length : Int) == 0) = false := beq_eq_false_iff_ne.2 (by omega)
    rw [h]; rfl
  have s1 := some_pc others 16
  have hq : (others.take 16).length ≤ 16 := by rw [List.length_take]; omega
  generalize others.take 16 = q at *
  refine pc_of_aw Tryd.func8 rfl (by kernel_rfl) mixed (by kernel_rfl) (by rw [Tryd.ntmps8]; exact Nat.le_of_ble_eq_true rfl) Tryd.results8 ?_
  repeat (first | (with_reducible apply aw_seq) | (with_reducible apply aw_reg) | (with_reducible apply rp_nil) | (with_reducible apply ae_norm) | ((with_reducible apply be_other); exact rfl) | ((with_reducible apply dr_nil); first | kernel_rfl | exact rfl) | ((first | (with_reducible apply rp) | (with_reducible apply dr) | ((first | (with_reducible apply rpG) | (with_reducible apply drG)); exact rfl; (first | exact gval_t rfl | exact gval_f rfl | exact gval_gt rfl | exact gval_gf rfl); (focus repeat' (first | exact trivial | exact fun h => h | refine And.intro ?_ ?_ | (intro h; first | exact h | (simp only [Bool.and_eq_true] at h; first | exact h.1 | exact h.1.1 | exact h.1.1.1 | exact h.2) | simp_all))); intro hgd; (try simp only [decide_eq_true_eq, Bool.and_eq_true, Bool.not_eq_true', beq_iff_eq] at hgd))); first | ((with_reducible apply does_call_flat); exact rfl; exact rfl; exact (q1); exact rfl) | ((with_reducible apply does_call'); exact rfl; exact rfl; exact rfl; exact (q1)) | ((with_reducible apply does_call_flat); exact rfl; exact rfl; exact (op); exact rfl) | ((with_reducible apply does_call'); exact rfl; exact rfl; exact rfl; exact (op)) | ((with_reducible apply does_call_flat); exact rfl; exact rfl; exact (r1); exact rfl) | ((with_reducible apply does_call'); exact rfl; exact rfl; exact rfl; exact (r1)) | ((with_reducible apply does_call_flat); exact rfl; exact rfl; exact (c1); exact rfl) | ((with_reducible apply does_call'); exact rfl; exact rfl; exact rfl; exact (c1)) | ((with_reducible apply does_move); (conv => lhs; whnf)) | ((with_reducible apply does_assign); (conv => lhs; whnf)) | ((with_reducible apply does_and); exact rfl; exact rfl; exact rfl; (first | exact trivial | exact fun h => h | (intro h; first | exact h | (simp only [Bool.and_eq_true] at h; first | exact h.1 | exact h.1.1 | exact h.1.1.1 | exact h.2) | simp_all))) | ((with_reducible apply does_or); exact rfl; exact rfl; exact rfl; (first | exact trivial | exact fun h => h | (intro h; first | exact h | (simp only [Bool.and_eq_true] at h; first | exact h.1 | exact h.1.1 | exact h.1.1.1 | exact h.2) | simp_all))) | ((with_reducible apply does_eq); exact rfl; exact rfl) | ((with_reducible apply does_ne); exact rfl; exact rfl) | ((with_reducible apply does_extract); exact rfl; exact rfl) | ((with_reducible apply does_len_map); exact tyOk rfl; exact rfl; exact rfl)) | ((first | (with_reducible apply rp1) | (with_reducible apply dr1)); first | ((with_reducible apply does_call1); exact rfl; exact rfl; exact rfl; exact (q1)) | ((with_reducible apply does_call1); exact rfl; exact rfl; exact rfl; exact (op)) | ((with_reducible apply does_call1); exact rfl; exact rfl; exact rfl; exact (r1)) | ((with_reducible apply does_call1); exact rfl; exact rfl; exact rfl; exact (c1)) | ((with_reducible apply does_alloc); exact tyOk rfl; exact rfl)) | ((first | (with_reducible apply rpN) | (with_reducible apply drN)); first | ((with_reducible apply does_store); exact tyOk rfl; exact rfl; exact rfl; (conv => lhs; whnf); exact rfl; exact rfl; (first | exact Nat.le_of_ble_eq_true rfl | omega | (simp; omega))) | ((with_reducible apply does_store_whole); exact tyOk rfl; exact rfl; exact rfl; exact rfl; exact rfl; exact rfl)))
  refine aw_cond rfl (fun hd => absurd (hz0.symm.trans hd) (by decide)) (fun _ => ?_)
  repeat (first | (with_reducible apply aw_seq) | (with_reducible apply aw_reg) | (with_reducible apply rp_nil) | (with_reducible apply ae_norm) | (with_reducible apply aw_block) | (with_reducible apply aw_skip) | ((with_reducible apply be_other); exact rfl) | ((with_reducible apply dr_nil); first | kernel_rfl | exact rfl) | ((first | (with_reducible apply rp) | (with_reducible apply dr)); first | ((with_reducible apply does_call_flat); exact rfl; exact rfl; exact (s1); exact rfl) | ((with_reducible apply does_call'); exact rfl; exact rfl; exact rfl; exact (s1)) | ((with_reducible apply does_move); (conv => lhs; whnf)) | ((with_reducible apply does_assign); (conv => lhs; whnf)) | ((with_reducible apply does_len_map); exact tyOk rfl; exact rfl; exact rfl)) | ((first | (with_reducible apply rp1) | (with_reducible apply dr1)); first | ((with_reducible apply does_call1); exact rfl; exact rfl; exact rfl; exact (s1))))
  refine aw_loop (fun n s1 => ∃ k, k ≤ q.length ∧ n = q.length - k ∧
    s1 = ⟨[(3, .d (byL rest)), (9, .d (slotsD s)), (10, .d (boolsD o)), (11, .d (byD r)), (13, .px 13 0), (15, .ow 1000 k), (51, .d (rawsD q)), (52, .d (iD q.length)), (53, .d (iD k))], [(13, .var 51 [.d (slotsD C), .d (byL R)]), (1000, .row 40 3 ((q.take k).map fun r => (slotR r).cs))]⟩) _ _ ?_ ⟨0, by omega, rfl, rfl⟩ ?_
  · refine Ent.trans (ent_nil 15 1000 40 3 rfl rfl) ?_
    refine forget_of [] (by repeat' (first | exact ks_nil | (refine ks_cons rfl (by first | exact SubA.refl _ | exact SubA.d (SubD.nil _) | exact subA_ow (by first | rfl | (simp; done) | (simp; omega)) | exact subA_i (by first | rfl | (simp; done) | (simp; omega) | omega) | (refine SubA.of_eq ?_; first | rfl | (simp; done) | (simp; omega))) ?_))) (by repeat' (first | exact trivial | exact rfl | exact kb_d rfl | refine And.intro ?_ ?_)) rfl (by repeat' (first | exact trivial | exact insB_map _ | exact inB_ow rfl | exact inB_px rfl | exact inB_pr rfl | refine And.intro ?_ ?_)) (by repeat' (first | exact trivial | exact insB_map _ | exact inB_ow rfl | exact inB_px rfl | exact inB_pr rfl | refine And.intro ?_ ?_))
  · rintro n1 s2 ⟨k, hk, rfl, rfl⟩
    repeat (first | (with_reducible apply aw_seq) | (with_reducible apply aw_reg) | (with_reducible apply rp_nil) | (with_reducible apply ae_norm) | ((with_reducible apply be_other); exact rfl) | ((with_reducible apply dr_nil); first | kernel_rfl | exact rfl) | ((first | (with_reducible apply rp) | (with_reducible apply dr)); first | ((with_reducible apply does_lt); exact rfl; exact rfl)))
    refine aw_cond rfl (fun hd => ?_) (fun hd => ?_)
    · have hlt : k < q.length := by simp at hd; omega
      clear hd
      obtain ⟨x, hx⟩ : ∃ x, q[k]? = some x := ⟨_, List.getElem?_eq_getElem hlt⟩
      have e1 : (q.take (k + 1)).map (fun r => (slotR r).cs) = (q.take k).map (fun r => (slotR r).cs) ++ [(slotR x).cs] := by
        rw [List.take_add_one, hx]; simp
      have l1 : ((q.take k).map fun r => (slotR r).cs).length = k := by rw [List.length_map, List.length_take]; omega
      have p1 := slotOf_pc x
      generalize (q.take k).map (fun r => (slotR r).cs) = oE at *
      generalize slotR x = z at *
      repeat (first | (with_reducible apply aw_seq) | (with_reducible apply aw_reg) | (with_reducible apply rp_nil) | (with_reducible apply ae_norm) | (with_reducible apply aw_block) | (with_reducible apply be_norm) | (with_reducible apply aw_skip) | ((with_reducible apply be_other); exact rfl) | ((with_reducible apply dr_nil); first | kernel_rfl | exact rfl) | ((first | (with_reducible apply rp) | (with_reducible apply dr)); first | ((with_reducible apply does_call_flat); exact rfl; exact rfl; exact (p1); exact rfl) | ((with_reducible apply does_call'); exact rfl; exact rfl; exact rfl; exact (p1)) | ((with_reducible apply does_move); (conv => lhs; whnf)) | ((with_reducible apply does_assign); (conv => lhs; whnf)) | ((with_reducible apply does_load_var); exact tyOk rfl; exact rfl; exact rfl; exact rfl; exact rfl) | ((with_reducible apply does_load_elem); exact tyOk rfl; exact rfl; exact rfl; (first | assumption | exact map_get (by assumption) | exact rfl); exact rfl) | ((with_reducible apply does_load_own); exact tyOk rfl; exact rfl; exact rfl; exact rfl; (first | assumption | exact map_get (by assumption) | exact rfl); exact rfl) | ((with_reducible apply does_load_row); exact tyOk rfl; exact rfl; exact rfl; exact rfl; (first | exact Nat.le_of_ble_eq_true rfl | omega | (simp; omega)); exact rfl) | ((with_reducible apply does_load_elem_whole); exact tyOk rfl; exact rfl; exact rfl; (first | assumption | exact map_get (by assumption) | exact rfl); exact rfl) | ((with_reducible apply does_index_sl); exact tyOk rfl; exact rfl; exact tyOk rfl; exact rfl; exact rfl; exact rfl; exact rfl; (first | omega | (dsimp only; omega) | (dsimp only; simp only [List.length_map, List.length_append, List.length_cons, List.length_nil] at *; omega) | (simp only [List.length_map, List.length_append, List.length_cons, List.length_nil] at *; omega) | (simp; omega))) | ((with_reducible apply does_add); exact rfl; exact rfl; omega; omega)) | ((first | (with_reducible apply rp1) | (with_reducible apply dr1)); first | ((with_reducible apply does_call1); exact rfl; exact rfl; exact rfl; exact (p1)) | ((with_reducible apply does_alloc); exact tyOk rfl; exact rfl) | ((with_reducible apply does_buildSlice); exact tyOk rfl; exact rfl; exact tyOk rfl; exact rfl; exact rfl; (focus repeat' (first | exact trivial | refine And.intro rfl (And.intro rfl ?_))); decide; decide; exact rfl) | ((with_reducible apply does_append_nil); exact tyOk rfl; exact rfl; exact tyOk rfl; exact rfl; exact rfl; decide; (first | omega | (dsimp only; omega) | (dsimp only; simp only [List.length_map, List.length_append, List.length_cons, List.length_nil] at *; omega) | (simp only [List.length_map, List.length_append, List.length_cons, List.length_nil] at *; omega) | (simp; omega)); (first | omega | (dsimp only; omega) | (dsimp only; simp only [List.length_map, List.length_append, List.length_cons, List.length_nil] at *; omega) | (simp only [List.length_map, List.length_append, List.length_cons, List.length_nil] at *; omega) | (simp; omega)); exact rfl)) | ((first | (with_reducible apply rp2) | (with_reducible apply dr2)); first | ((with_reducible apply does_append_own); exact tyOk rfl; exact rfl; exact tyOk rfl; exact rfl; exact rfl; exact rfl; decide; (first | omega | (dsimp only; omega) | (dsimp only; simp only [List.length_map, List.length_append, List.length_cons, List.length_nil] at *; omega) | (simp only [List.length_map, List.length_append, List.length_cons, List.length_nil] at *; omega) | (simp; omega)); (first | omega | (dsimp only; omega) | (dsimp only; simp only [List.length_map, List.length_append, List.length_cons, List.length_nil] at *; omega) | (simp only [List.length_map, List.length_append, List.length_cons, List.length_nil] at *; omega) | (simp; omega)); exact rfl)) | ((first | (with_reducible apply rpN) | (with_reducible apply drN)); first | ((with_reducible apply does_store); exact tyOk rfl; exact rfl; exact rfl; (conv => lhs; whnf); exact rfl; exact rfl; (first | exact Nat.le_of_ble_eq_true rfl | omega | (simp; omega))) | ((with_reducible apply does_store_whole); exact tyOk rfl; exact rfl; exact rfl; exact rfl; exact rfl; exact rfl)))
      refine ⟨_, _, ?_, ?_, k + 1, by omega, rfl, rfl⟩
      · omega
      · rw [e1]
        refine forget_of [(1000, 61)] (by repeat' (first | exact ks_nil | (refine ks_cons rfl (by first | exact SubA.refl _ | exact SubA.d (SubD.nil _) | exact subA_ow (by first | rfl | (simp; done) | (simp; omega)) | exact subA_i (by first | rfl | (simp; done) | (simp; omega) | omega) | (refine SubA.of_eq ?_; first | rfl | (simp; done) | (simp; omega))) ?_))) ?_ rfl (by repeat' (first | exact trivial | exact insB_map _ | exact inB_ow rfl | exact inB_px rfl | exact inB_pr rfl | refine And.intro ?_ ?_)) (by repeat' (first | exact trivial | exact insB_map _ | exact inB_ow rfl | exact inB_px rfl | exact inB_pr rfl | refine And.intro ?_ ?_))
        exact kb_cons rfl rfl (kb_cons rfl (row_eq rfl) kb_nil)
    · have hke : k = q.length := by simp at hd; omega
      clear hd
      subst hke
      rw [List.take_length]
      have hO : q.map (fun r => (slotR r).cs) = (q.map slotR).map Sl3.cs := by rw [List.map_map]; rfl
      have hOok : ∀ s ∈ q.map slotR, s.ok := fun s hs => by
        obtain ⟨r, _, rfl⟩ := List.mem_map.1 hs
        exact slotR_ok r
      have hOl : q.length = (q.map slotR).length := by simp
      rw [hO, hOl]
      generalize q.map slotR = O at *
      clear hO
      repeat (first | (with_reducible apply aw_seq) | (with_reducible apply aw_reg) | (with_reducible apply rp_nil) | (with_reducible apply ae_norm) | (with_reducible apply aw_block) | (with_reducible apply aw_exit) | (with_reducible apply ae_exit) | (with_reducible apply be_exit) | ((with_reducible apply be_other); exact rfl) | ((with_reducible apply dr_nil); first | kernel_rfl | exact rfl) | ((first | (with_reducible apply rp) | (with_reducible apply dr)); first | (exact (by (with_reducible apply does_frz0 63); exact rfl; exact rfl; (with_reducible apply does_build); exact tyOk rfl; exact rfl; exact rfl; (focus repeat' (first | exact rfl | refine ⟨_, _, rfl, rfl, Nat.le_of_ble_eq_true rfl, rfl, ?_⟩)); exact rfl)) | (exact (by (with_reducible apply does_frz0 66); exact rfl; exact rfl; (with_reducible apply does_build); exact tyOk rfl; exact rfl; exact rfl; (focus repeat' (first | exact rfl | refine ⟨_, _, rfl, rfl, Nat.le_of_ble_eq_true rfl, rfl, ?_⟩)); exact rfl)) | ((with_reducible apply does_move); (conv => lhs; whnf)) | ((with_reducible apply does_fieldAddr); exact tyOk rfl; exact rfl; exact rfl; decide; exact rfl) | ((with_reducible apply does_load_var); exact tyOk rfl; exact rfl; exact rfl; exact rfl; exact rfl) | ((with_reducible apply does_len_map); exact tyOk rfl; exact rfl; exact rfl) | ((with_reducible apply does_len_sl); exact tyOk rfl; exact rfl; exact rfl) | ((with_reducible apply does_len_ow); exact tyOk rfl; exact rfl; exact rfl) | ((with_reducible apply does_build); exact tyOk rfl; exact rfl; exact rfl; (focus repeat' (first | exact rfl | refine ⟨_, _, rfl, rfl, Nat.le_of_ble_eq_true rfl, rfl, ?_⟩)); exact rfl) | ((with_reducible apply does_build_full); exact tyOk rfl; exact rfl; (focus repeat' (first | exact pv_nil | (apply pv_cons; (conv => lhs; whnf); exact rfl))); exact rfl; exact rfl) | ((with_reducible apply does_buildA); exact tyOk rfl; exact rfl; decide; (focus repeat' (first | exact rfl | refine ⟨_, _, rfl, rfl, Nat.le_of_ble_eq_true rfl, rfl, ?_⟩)); exact rfl)) | ((first | (with_reducible apply rp1) | (with_reducible apply dr1)); first | (exact (by (with_reducible apply does_frz0 63); exact rfl; exact rfl; (with_reducible apply does_build); exact tyOk rfl; exact rfl; exact rfl; (focus repeat' (first | exact rfl | refine ⟨_, _, rfl, rfl, Nat.le_of_ble_eq_true rfl, rfl, ?_⟩)); exact rfl)) | (exact (by (with_reducible apply does_frz0 66); exact rfl; exact rfl; (with_reducible apply does_build); exact tyOk rfl; exact rfl; exact rfl; (focus repeat' (first | exact rfl | refine ⟨_, _, rfl, rfl, Nat.le_of_ble_eq_true rfl, rfl, ?_⟩)); exact rfl)) | ((with_reducible apply does_buildSlice); exact tyOk rfl; exact rfl; exact tyOk rfl; exact rfl; exact rfl; (focus repeat' (first | exact trivial | refine And.intro rfl (And.intro rfl ?_))); decide; decide; exact rfl)) | ((first | (with_reducible apply rp2) | (with_reducible apply dr2)); first | (exact (by (with_reducible apply does_frz0 63); exact rfl; exact rfl; (with_reducible apply does_build); exact tyOk rfl; exact rfl; exact rfl; (focus repeat' (first | exact rfl | refine ⟨_, _, rfl, rfl, Nat.le_of_ble_eq_true rfl, rfl, ?_⟩)); exact rfl)) | (exact (by (with_reducible apply does_frz0 66); exact rfl; exact rfl; (with_reducible apply does_build); exact tyOk rfl; exact rfl; exact rfl; (focus repeat' (first | exact rfl | refine ⟨_, _, rfl, rfl, Nat.le_of_ble_eq_true rfl, rfl, ?_⟩)); exact rfl))) | ((first | (with_reducible apply rpN) | (with_reducible apply drN)); first | (exact (by (with_reducible apply does_frz0 63); exact rfl; exact rfl; (with_reducible apply does_build); exact tyOk rfl; exact rfl; exact rfl; (focus repeat' (first | exact rfl | refine ⟨_, _, rfl, rfl, Nat.le_of_ble_eq_true rfl, rfl, ?_⟩)); exact rfl)) | (exact (by (with_reducible apply does_frz0 66); exact rfl; exact rfl; (with_reducible apply does_build); exact tyOk rfl; exact rfl; exact rfl; (focus repeat' (first | exact rfl | refine ⟨_, _, rfl, rfl, Nat.le_of_ble_eq_true rfl, rfl, ?_⟩)); exact rfl))))
      refine aw_loop (fun n s1 => ∃ k, k ≤ 3 ∧ n = 3 - k ∧
        s1 = ⟨[(10, .d (boolsD o)), (11, .d (byD r)), (13, .px 13 0), (74, .ow 74 3), (75, .d (iD 3)), (76, .d (iD k))], [(13, .var 51 [.d (slotsD C), .d (byL R)]), (74, .row 51 2 [[slotsD O, byL rest], [slotsD O, byL R], [slotsD C, byL rest]])]⟩) _ _ ?_ ⟨0, by omega, rfl, rfl⟩ ?_
      · refine forget_of [] (by repeat' (first | exact ks_nil | (refine ks_cons rfl (by first | exact SubA.refl _ | exact SubA.d (SubD.nil _) | exact subA_ow (by first | rfl | (simp; done) | (simp; omega)) | exact subA_i (by first | rfl | (simp; done) | (simp; omega) | omega) | (refine SubA.of_eq ?_; first | rfl | (simp; done) | (simp; omega))) ?_))) (by repeat' (first | exact trivial | exact rfl | exact kb_d rfl | refine And.intro ?_ ?_)) rfl (by repeat' (first | exact trivial | exact insB_map _ | exact inB_ow rfl | exact inB_px rfl | exact inB_pr rfl | refine And.intro ?_ ?_)) (by repeat' (first | exact trivial | exact insB_map _ | exact inB_ow rfl | exact inB_px rfl | exact inB_pr rfl | refine And.intro ?_ ?_))
      · rintro n1 s2 ⟨k, hk, rfl, rfl⟩
        repeat (first | (with_reducible apply aw_seq) | (with_reducible apply aw_reg) | (with_reducible apply rp_nil) | (with_reducible apply ae_norm) | ((with_reducible apply be_other); exact rfl) | ((with_reducible apply dr_nil); first | kernel_rfl | exact rfl) | ((first | (with_reducible apply rp) | (with_reducible apply dr)); first | ((with_reducible apply does_lt); exact rfl; exact rfl)))
        refine aw_cond rfl (fun hd => ?_) (fun hd => ?_)
        · have hlt : k < 3 := by simp at hd; omega
          clear hd
          obtain ⟨c, hc⟩ : ∃ c, [(O, rest), (O, R), (C, rest)][k]? = some c := ⟨_, List.getElem?_eq_getElem (by simpa using hlt)⟩
          have hc2 : [[slotsD O, byL rest], [slotsD O, byL R], [slotsD C, byL rest]][k]? = some [slotsD c.1, byL c.2] := by
            have h := congrArg (Option.map fun c : List Sl3 × List (List UInt8) => [slotsD c.1, byL c.2]) hc
            rw [← List.getElem?_map] at h; exact h
          have hcP : ∀ s ∈ c.1, s.ok := by rcases three_at hc with rfl | rfl | rfl <;> assumption
          have hcQ : ∀ d ∈ c.2, d.length ≤ 140737488355328 := by rcases three_at hc with rfl | rfl | rfl <;> assumption
          obtain ⟨P, Q⟩ := c
          dsimp only at hc2 hcP hcQ
          obtain ⟨dv, cv, d1, hsnd⟩ := hrt P Q hcP hcQ
          clear hc hrt
          repeat (first | (with_reducible apply aw_seq) | (with_reducible apply aw_reg) | (with_reducible apply rp_nil) | (with_reducible apply ae_norm) | (with_reducible apply aw_block) | (with_reducible apply aw_skip) | ((with_reducible apply be_other); exact rfl) | ((with_reducible apply dr_nil); first | kernel_rfl | exact rfl) | ((first | (with_reducible apply rp) | (with_reducible apply dr) | ((first | (with_reducible apply rpG) | (with_reducible apply drG)); exact rfl; (first | exact gval_t rfl | exact gval_f rfl | exact gval_gt rfl | exact gval_gf rfl); (focus repeat' (first | exact trivial | exact fun h => h | refine And.intro ?_ ?_ | (intro h; first | exact h | (simp only [Bool.and_eq_true] at h; first | exact h.1 | exact h.1.1 | exact h.1.1.1 | exact h.2) | simp_all))); intro hgd; (try simp only [decide_eq_true_eq, Bool.and_eq_true, Bool.not_eq_true', beq_iff_eq] at hgd))); first | ((with_reducible apply does_call_flat); exact rfl; exact rfl; exact (d1); exact rfl) | ((with_reducible apply does_call'); exact rfl; exact rfl; exact rfl; exact (d1)) | (exact does_sne_by (c := !(dv == r)) rfl rfl (by simp)) | ((with_reducible apply does_move); (conv => lhs; whnf)) | ((with_reducible apply does_assign); (conv => lhs; whnf)) | ((with_reducible apply does_and); exact rfl; exact rfl; exact rfl; (first | exact trivial | exact fun h => h | (intro h; first | exact h | (simp only [Bool.and_eq_true] at h; first | exact h.1 | exact h.1.1 | exact h.1.1.1 | exact h.2) | simp_all))) | ((with_reducible apply does_or); exact rfl; exact rfl; exact rfl; (first | exact trivial | exact fun h => h | (intro h; first | exact h | (simp only [Bool.and_eq_true] at h; first | exact h.1 | exact h.1.1 | exact h.1.1.1 | exact h.2) | simp_all))) | ((with_reducible apply does_load_var); exact tyOk rfl; exact rfl; exact rfl; exact rfl; exact rfl) | ((with_reducible apply does_load_elem); exact tyOk rfl; exact rfl; exact rfl; (first | assumption | exact map_get (by assumption) | exact rfl); exact rfl) | ((with_reducible apply does_load_own); exact tyOk rfl; exact rfl; exact rfl; exact rfl; (first | assumption | exact map_get (by assumption) | exact rfl); exact rfl) | ((with_reducible apply does_load_row); exact tyOk rfl; exact rfl; exact rfl; exact rfl; (first | exact Nat.le_of_ble_eq_true rfl | omega | (simp; omega)); exact rfl) | ((with_reducible apply does_load_elem_whole); exact tyOk rfl; exact rfl; exact rfl; (first | assumption | exact map_get (by assumption) | exact rfl); exact rfl) | ((with_reducible apply does_load_own_whole); exact tyOk rfl; exact rfl; exact rfl; exact rfl; (first | assumption | exact map_get (by assumption) | exact rfl); exact rfl) | ((with_reducible apply does_index_sl); exact tyOk rfl; exact rfl; exact tyOk rfl; exact rfl; exact rfl; exact rfl; exact rfl; (first | omega | (dsimp only; omega) | (dsimp only; simp only [List.length_map, List.length_append, List.length_cons, List.length_nil] at *; omega) | (simp only [List.length_map, List.length_append, List.length_cons, List.length_nil] at *; omega) | (simp; omega))) | ((with_reducible apply does_index_own); exact tyOk rfl; exact rfl; exact tyOk rfl; exact rfl; exact rfl; exact rfl; (first | omega | (dsimp only; omega) | (dsimp only; simp only [List.length_map, List.length_append, List.length_cons, List.length_nil] at *; omega) | (simp only [List.length_map, List.length_append, List.length_cons, List.length_nil] at *; omega) | (simp; omega))) | ((with_reducible apply does_ne); exact rfl; exact rfl) | ((with_reducible apply does_extract); exact rfl; exact rfl) | ((with_reducible apply does_conv_i64); exact tyOk rfl; exact tyOk rfl; exact rfl; exact rfl; omega; omega) | ((with_reducible apply does_conv_int); exact tyOk rfl; exact tyOk rfl; exact rfl; exact rfl) | ((with_reducible apply does_conv_str); exact tyOk rfl; exact tyOk rfl; exact rfl; exact rfl) | ((with_reducible apply does_conv_bs); exact tyOk rfl; exact rfl; exact tyOk rfl; exact rfl; exact tyOk rfl; exact rfl; exact rfl)) | ((first | (with_reducible apply rp1) | (with_reducible apply dr1)); first | ((with_reducible apply does_call1); exact rfl; exact rfl; exact rfl; exact (d1)) | (exact does_sne_by (c := !(dv == r)) rfl rfl (by simp)) | ((with_reducible apply does_alloc); exact tyOk rfl; exact rfl)) | ((first | (with_reducible apply rp2) | (with_reducible apply dr2)); first | (exact does_sne_by (c := !(dv == r)) rfl rfl (by simp))) | ((first | (with_reducible apply rpN) | (with_reducible apply drN)); first | (exact does_sne_by (c := !(dv == r)) rfl rfl (by simp)) | ((with_reducible apply does_store); exact tyOk rfl; exact rfl; exact rfl; (conv => lhs; whnf); exact rfl; exact rfl; (first | exact Nat.le_of_ble_eq_true rfl | omega | (simp; omega))) | ((with_reducible apply does_store_whole); exact tyOk rfl; exact rfl; exact rfl; exact rfl; exact rfl; exact rfl)))
          refine aw_cond rfl (fun hd => ?_) (fun hd => ?_)
          · clear hd
            repeat (first | (with_reducible apply aw_reg) | (with_reducible apply rp_nil) | (with_reducible apply ae_norm) | (with_reducible apply aw_exit) | (with_reducible apply ae_exit) | (with_reducible apply be_exit) | ((with_reducible apply be_other); exact rfl) | ((with_reducible apply dr_nil); first | kernel_rfl | exact rfl) | ((first | (with_reducible apply rp) | (with_reducible apply dr)); first | ((with_reducible apply does_move); (conv => lhs; whnf)) | ((with_reducible apply does_add); exact rfl; exact rfl; omega; omega)))
            refine ⟨_, _, ?_, ?_, k + 1, by omega, rfl, rfl⟩
            · omega
            · refine forget_of [] (by repeat' (first | exact ks_nil | (refine ks_cons rfl (by first | exact SubA.refl _ | exact SubA.d (SubD.nil _) | exact subA_ow (by first | rfl | (simp; done) | (simp; omega)) | exact subA_i (by first | rfl | (simp; done) | (simp; omega) | omega) | (refine SubA.of_eq ?_; first | rfl | (simp; done) | (simp; omega))) ?_))) (by repeat' (first | exact trivial | exact rfl | exact kb_d rfl | refine And.intro ?_ ?_)) rfl (by repeat' (first | exact trivial | exact insB_map _ | exact inB_ow rfl | exact inB_px rfl | exact inB_pr rfl | refine And.intro ?_ ?_)) (by repeat' (first | exact trivial | exact insB_map _ | exact inB_ow rfl | exact inB_px rfl | exact inB_pr rfl | refine And.intro ?_ ?_))
          · have hPC : P = C := by
              simp only [Bool.or_eq_false_iff, bne_eq_false_iff_eq, Bool.not_eq_false', beq_iff_eq] at hd
              exact hsnd (by omega) hd.2
            clear hd hsnd hcP
            subst hPC
            repeat (first | (with_reducible apply aw_seq) | (with_reducible apply aw_reg) | (with_reducible apply rp_nil) | (with_reducible apply ae_norm) | (with_reducible apply aw_skip) | ((with_reducible apply be_other); exact rfl) | ((with_reducible apply dr_nil); first | kernel_rfl | exact rfl) | ((first | (with_reducible apply rp) | (with_reducible apply dr)); first | ((with_reducible apply does_fieldAddr); exact tyOk rfl; exact rfl; exact rfl; decide; exact rfl) | ((with_reducible apply does_load_var); exact tyOk rfl; exact rfl; exact rfl; exact rfl; exact rfl) | ((with_reducible apply does_ne); exact rfl; exact rfl) | ((with_reducible apply does_len_map); exact tyOk rfl; exact rfl; exact rfl)))
            refine aw_cond rfl (fun hd => absurd hd (by simp)) (fun _ => ?_)
            repeat (first | (with_reducible apply aw_seq) | (with_reducible apply aw_reg) | (with_reducible apply rp_nil) | (with_reducible apply ae_norm) | (with_reducible apply aw_block) | (with_reducible apply aw_skip) | ((with_reducible apply be_other); exact rfl) | ((with_reducible apply dr_nil); first | kernel_rfl | exact rfl) | ((first | (with_reducible apply rp) | (with_reducible apply dr)); first | ((with_reducible apply does_move); (conv => lhs; whnf)) | ((with_reducible apply does_fieldAddr); exact tyOk rfl; exact rfl; exact rfl; decide; exact rfl) | ((with_reducible apply does_load_var); exact tyOk rfl; exact rfl; exact rfl; exact rfl; exact rfl) | ((with_reducible apply does_len_map); exact tyOk rfl; exact rfl; exact rfl)))
            refine aw_loop (fun n s1 => ∃ i, i ≤ P.length ∧ n = P.length - i ∧
              s1 = ⟨[(10, .d (boolsD o)), (11, .d (byD r)), (13, .px 13 0), (19, .px 19 0), (74, .ow 74 3), (75, .d (iD 3)), (76, .d (iD k)), (104, .d (iD P.length)), (105, .d (iD i))], [(13, .var 51 [.d (slotsD P), .d (byL R)]), (19, .var 51 [.d (slotsD P), .d (byL Q)]), (74, .row 51 2 [[slotsD O, byL rest], [slotsD O, byL R], [slotsD P, byL rest]])]⟩) _ _ ?_ ⟨0, by omega, rfl, rfl⟩ ?_
            · refine forget_of [] (by repeat' (first | exact ks_nil | (refine ks_cons rfl (by first | exact SubA.refl _ | exact SubA.d (SubD.nil _) | exact subA_ow (by first | rfl | (simp; done) | (simp; omega)) | exact subA_i (by first | rfl | (simp; done) | (simp; omega) | omega) | (refine SubA.of_eq ?_; first | rfl | (simp; done) | (simp; omega))) ?_))) (by repeat' (first | exact trivial | exact rfl | exact kb_d rfl | refine And.intro ?_ ?_)) rfl (by repeat' (first | exact trivial | exact insB_map _ | exact inB_ow rfl | exact inB_px rfl | exact inB_pr rfl | refine And.intro ?_ ?_)) (by repeat' (first | exact trivial | exact insB_map _ | exact inB_ow rfl | exact inB_px rfl | exact inB_pr rfl | refine And.intro ?_ ?_))
            · rintro n1 s2 ⟨i, hi, rfl, rfl⟩
              repeat (first | (with_reducible apply aw_seq) | (with_reducible apply aw_reg) | (with_reducible apply rp_nil) | (with_reducible apply ae_norm) | ((with_reducible apply be_other); exact rfl) | ((with_reducible apply dr_nil); first | kernel_rfl | exact rfl) | ((first | (with_reducible apply rp) | (with_reducible apply dr)); first | ((with_reducible apply does_lt); exact rfl; exact rfl)))
              refine aw_cond rfl (fun hd => ?_) (fun hd => ?_)
              · have hlt : i < P.length := by simp at hd; omega
                clear hd
                obtain ⟨x, hx⟩ : ∃ x, P[i]? = some x := ⟨_, List.getElem?_eq_getElem hlt⟩
                have g1 := slot_at hx
                have s2 := sameSlot_pc x x
                have hsm : (x.full == x.full && x.salt == x.salt && x.data == x.data) = true := by simp
                rw [hsm] at s2
                obtain ⟨fu, sa, da⟩ := x
                have s3 : PC Tryd.prog 18 [.ag [bD fu, byD sa, byD da], .ag [bD fu, byD sa, byD da]] (bD true) := s2
                have g2 : (P.map Sl3.cs)[i]? = some [bD fu, byD sa, byD da] := g1
                clear g1 s2
                repeat (first | (with_reducible apply aw_seq) | (with_reducible apply aw_reg) | (with_reducible apply rp_nil) | (with_reducible apply ae_norm) | (with_reducible apply aw_regD) | (with_reducible apply aw_block) | (with_reducible apply aw_skip) | ((with_reducible apply be_other); exact rfl) | ((with_reducible apply dr_nil); first | kernel_rfl | exact rfl) | ((first | (with_reducible apply rp) | (with_reducible apply dr)); first | ((with_reducible apply does_call_flat); exact rfl; exact rfl; exact (s3); exact rfl) | ((with_reducible apply does_call'); exact rfl; exact rfl; exact rfl; exact (s3)) | ((with_reducible apply does_move); (conv => lhs; whnf)) | ((with_reducible apply does_assign); (conv => lhs; whnf)) | ((with_reducible apply does_fieldAddr); exact tyOk rfl; exact rfl; exact rfl; decide; exact rfl) | ((with_reducible apply does_load_var); exact tyOk rfl; exact rfl; exact rfl; exact rfl; exact rfl) | ((with_reducible apply does_load_elem); exact tyOk rfl; exact rfl; exact rfl; (first | assumption | exact map_get (by assumption) | exact rfl); exact rfl) | ((with_reducible apply does_load_own); exact tyOk rfl; exact rfl; exact rfl; exact rfl; (first | assumption | exact map_get (by assumption) | exact rfl); exact rfl) | ((with_reducible apply does_load_row); exact tyOk rfl; exact rfl; exact rfl; exact rfl; (first | exact Nat.le_of_ble_eq_true rfl | omega | (simp; omega)); exact rfl) | ((with_reducible apply does_load_elem_whole); exact tyOk rfl; exact rfl; exact rfl; (first | assumption | exact map_get (by assumption) | exact rfl); exact rfl) | ((with_reducible apply does_index_sl); exact tyOk rfl; exact rfl; exact tyOk rfl; exact rfl; exact rfl; exact rfl; exact rfl; (first | omega | (dsimp only; omega) | (dsimp only; simp only [List.length_map, List.length_append, List.length_cons, List.length_nil] at *; omega) | (simp only [List.length_map, List.length_append, List.length_cons, List.length_nil] at *; omega) | (simp; omega))) | ((with_reducible apply does_not); exact rfl)) | ((first | (with_reducible apply rp1) | (with_reducible apply dr1)); first | ((with_reducible apply does_call1); exact rfl; exact rfl; exact rfl; exact (s3))))
                refine aw_cond rfl (fun hd => (by cases hd)) (fun _ => ?_)
                repeat (first | (with_reducible apply aw_reg) | (with_reducible apply rp_nil) | (with_reducible apply ae_norm) | (with_reducible apply be_norm) | (with_reducible apply aw_skip) | ((with_reducible apply be_other); exact rfl) | ((with_reducible apply dr_nil); first | kernel_rfl | exact rfl) | ((first | (with_reducible apply rp) | (with_reducible apply dr)); first | ((with_reducible apply does_move); (conv => lhs; whnf)) | ((with_reducible apply does_add); exact rfl; exact rfl; omega; omega)))
                refine ⟨_, _, ?_, ?_, i + 1, by omega, rfl, rfl⟩
                · omega
                · refine forget_of [] (by repeat' (first | exact ks_nil | (refine ks_cons rfl (by first | exact SubA.refl _ | exact SubA.d (SubD.nil _) | exact subA_ow (by first | rfl | (simp; done) | (simp; omega)) | exact subA_i (by first | rfl | (simp; done) | (simp; omega) | omega) | (refine SubA.of_eq ?_; first | rfl | (simp; done) | (simp; omega))) ?_))) (by repeat' (first | exact trivial | exact rfl | exact kb_d rfl | refine And.intro ?_ ?_)) rfl (by repeat' (first | exact trivial | exact insB_map _ | exact inB_ow rfl | exact inB_px rfl | exact inB_pr rfl | refine And.intro ?_ ?_)) (by repeat' (first | exact trivial | exact insB_map _ | exact inB_ow rfl | exact inB_px rfl | exact inB_pr rfl | refine And.intro ?_ ?_))
              · clear hd
                repeat (first | (with_reducible apply aw_reg) | (with_reducible apply rp_nil) | (with_reducible apply ae_norm) | (with_reducible apply aw_exit) | (with_reducible apply ae_exit) | (with_reducible apply be_exit) | (with_reducible apply be_norm) | ((with_reducible apply be_other); exact rfl) | ((with_reducible apply dr_nil); first | kernel_rfl | exact rfl) | ((first | (with_reducible apply rp) | (with_reducible apply dr)); first | ((with_reducible apply does_move); (conv => lhs; whnf)) | ((with_reducible apply does_add); exact rfl; exact rfl; omega; omega)))
                refine ⟨_, _, ?_, ?_, k + 1, by omega, rfl, rfl⟩
                · omega
                · refine forget_of [] (by repeat' (first | exact ks_nil | (refine ks_cons rfl (by first | exact SubA.refl _ | exact SubA.d (SubD.nil _) | exact subA_ow (by first | rfl | (simp; done) | (simp; omega)) | exact subA_i (by first | rfl | (simp; done) | (simp; omega) | omega) | (refine SubA.of_eq ?_; first | rfl | (simp; done) | (simp; omega))) ?_))) (by repeat' (first | exact trivial | exact rfl | exact kb_d rfl | refine And.intro ?_ ?_)) rfl (by repeat' (first | exact trivial | exact insB_map _ | exact inB_ow rfl | exact inB_px rfl | exact inB_pr rfl | refine And.intro ?_ ?_)) (by repeat' (first | exact trivial | exact insB_map _ | exact inB_ow rfl | exact inB_px rfl | exact inB_pr rfl | refine And.intro ?_ ?_))
        · clear hd
          repeat (first | (with_reducible apply aw_seq) | (with_reducible apply aw_reg) | (with_reducible apply rp_nil) | (with_reducible apply ae_norm) | (with_reducible apply aw_exit) | (with_reducible apply ae_exit) | (with_reducible apply be_exit) | (with_reducible apply aw_ret) | (with_reducible apply re_ret) | ((with_reducible apply be_other); exact rfl) | ((with_reducible apply dr_nil); first | kernel_rfl | exact rfl) | ((first | (with_reducible apply rp) | (with_reducible apply dr)); first | ((with_reducible apply does_assign); (conv => lhs; whnf))))
          (with_reducible apply ret_ok); (focus (repeat' (first | (with_reducible apply rv_nil) | (with_reducible apply rv_cons) | ((with_reducible apply rv_tmp); exact rfl) | ((with_reducible apply rv_cell); exact rfl; exact rfl; exact tyOk rfl; exact rfl; exact rfl) | ((with_reducible apply rv_rowd); exact rfl; exact rfl; exact tyOk rfl; exact rfl; (first | (with_reducible assumption) | exact rfl | ((try simp only [List.length_map]); first | assumption | omega) | (simp; omega))) | ((with_reducible apply rv_row); exact rfl; exact rfl; exact tyOk rfl; exact rfl; (first | exact Nat.le_of_ble_eq_true rfl | omega | (simp; omega)))))); (first | exact rfl | (focus repeat' (first | exact frzVs_one (frzV_map _ _) | exact rfl | (apply frzVs_cons; (first | exact frzV_map _ _ | exact rfl))))); refine SubD.of_eq ?_
          rfl
theorem coverSound_walk (A : Option Addr) (l : List Raw) (c : Nat) (a : Int) (A2 : Option Addr) (l2 : List Raw) (c2 : Nat) (C : Option Addr) (p : List (List UInt8)) (k : Nat) (w : World) (h : RdR w w.heap.size A l) (hc : l.length ≤ c) (_ : c * 40 ≤ 140737488351232) (_ : ∀ r ∈ l, r.ok) (ha : I64 a) (h2 : RdR w w.heap.size A2 l2) (hc2 : l2.length ≤ c2) (_ : c2 * 40 ≤ 140737488351232) (_ : ∀ r ∈ l2, r.ok) (hp : RepD (Lt w) w (byL p) (.slice C p.length k)) (hk : p.length ≤ k) (hk2 : k * 24 ≤ 140737488351232) (hw : ∀ q ∈ p, q.length ≤ 140737488351232) (hg : GlOk (Lt w) w) : Calls Tryd.prog 8 #[.slice A l.length c, .int .i64 a, .slice A2 l2.length c2, .slice C p.length k] w fun e w' => e = .returned (.bool true) ∧ Below w.heap.size w w' :=
  calls_of_pc (coverSound_pc l l2 a p (fun d hd => Nat.le_trans (hw d hd) (by omega))) (rep_cons (rep_raws h hc) (rep_cons (rep_int w a) (rep_cons (rep_raws h2 hc2) (rep_cons hp rfl)))) hg
end Go.Proofs.YtagbajdjpfafoaaDoor
