/-
  RowsRise: rows are told drawer by drawer, by rising keys.
-/
import Derived.Test.YtnkpnnphmimagaaDoorZTb7
import Derived.Test.YtnkpnnphmimagaaDoorZTb8
import Derived.Test.YtnkpnnphmimagaaDoorZJoinD
namespace Go.Proofs.YtnkpnnphmimagaaDoor
set_option linter.unusedSimpArgs false
set_option linter.unusedVariables false
open Go.RowKit

theorem step_rise {cols : List Cl} {d : List Ce} (h : DrOk cols d) : Rise (stepF true d []) ∧ ∀ x, x ∈ stepF true d [] ↔ ∃ c ∈ d, c.full = true ∧ c.row = x := by
  obtain ⟨s, h1, h2, h3⟩ := drawF_pre [] d [] List.Pairwise.nil (fun _ _ _ p hp => absurd hp (by simp)) h.keys
  have e : stepF true d [] = s := h2
  rw [e]
  exact ⟨h1, fun x => by rw [h3]; simp⟩
theorem step_app {cols : List Cl} {d : List Ce} (h : DrOk cols d) (A : List (List Vl)) : stepF true d A = A ++ stepF true d [] := by
  obtain ⟨s, h1, h2, h3⟩ := drawF_pre A d [] List.Pairwise.nil (fun _ _ _ p hp => absurd hp (by simp)) h.keys
  rw [List.append_nil] at h2
  have e : stepF true d A = A ++ s := h2
  rw [e, rise_eq h1 (step_rise h).1 fun x => by rw [h3, (step_rise h).2]; simp]
theorem step_len5 {cols : List Cl} (hc : ColsOk cols) {d : List Ce} (h : DrOk cols d) : ∀ r ∈ stepF true d [], r.length ≤ 5 := by
  intro r hr
  obtain ⟨c, hm, hf, rfl⟩ := ((step_rise h).2 r).1 hr
  have := ((h.ok c hm).fit hf).len
  have := hc.len
  omega
set_option maxHeartbeats 4000000 in
theorem rowsRise_pc (l : List Raw) : PC Tryd.prog 6 [rawsD l] (bD true) := by
  have g1 := tabled_pg l
  have hc := colsF_ok (l.take (l.length % 4))
  have hk : ∃ n l', colsH l = ⟨n, 2, false⟩ :: l' := ⟨_, _, rfl⟩
  have h0 : ∀ c, (colsH l)[0]? = some c → c.kind = 2 := fun c h => by injection h with h; subst h; rfl
  obtain ⟨ht, htc, _⟩ := tabF_ok (l.take 40) (cols := colsH l) hc hk h0 (l.length % 8)
  have hs := tabC_sub (l.take 40) (colsH l) (l.length % 8)
  have hcl : (tabC (l.take 40) (colsH l) (l.length % 8)).length = 19 := by
    unfold tabC
    split
    · rfl
    · exact Tb.len ht
  generalize tabC (l.take 40) (colsH l) (l.length % 8) = cs at *
  generalize tabF (l.take 40) (colsH l) (l.length % 8) = t at *
  generalize l.length % 8 * ((colsH l).length + 1) = nn at *
  have sub : ∀ o : D, SubDs [.ag cs, o] [.ag t.cs, o] := fun o => SubDs.cons (SubD.ag hs) id (SubDs.refl _)
  have r11 := (rows_pc t ht true true).args (sub _)
  have rA := (rows_pco t ht true false).args (sub _)
  have rB := (rows_pc t ht false true).args (sub _)
  have r00 : PC Tryd.prog 25 [.ag cs, .ag [bD false, bD false]] (.tu [.sl 1 [], iD 0]) := (rows_pc t ht false false).args (sub _)
  have hR := (step_rise ht.a).1
  have h5a := step_len5 ht.cols ht.a
  have h5b := step_len5 ht.cols ht.b
  have oA := stepF_ok ht.key true ht.a.ok (acc := []) (fun p hp => absurd hp (by simp))
  have oB := stepF_ok ht.key true ht.b.ok (acc := []) (fun p hp => absurd hp (by simp))
  rw [show accF t.a t.b true true 2 = stepF true t.a [] ++ stepF true t.b [] from step_app ht.b _] at r11
  rw [show accF t.a t.b true false 2 = stepF true t.a [] from rfl] at rA
  rw [show accF t.a t.b false true 2 = stepF true t.b [] from rfl] at rB
  rw [ht.a.len] at oA
  rw [ht.b.len] at oB
  generalize stepF true t.a [] = A at *
  generalize stepF true t.b [] = B at *
  obtain ⟨hkA, hlA⟩ := oA
  obtain ⟨hkB, hlB⟩ := oB
  simp only [List.length_nil, Nat.zero_add] at hlA hlB
  have s1 := sameRows_pc (A ++ B) (by rw [List.length_append]; omega) (fun r hr => by
    rcases List.mem_append.1 hr with hr | hr
    · exact h5a r hr
    · exact h5b r hr)
  have b1 := bothD_pc
  have o0 := one0_pc
  have o1 := one1_pc
  have tt := tableTells_pc
  obtain ⟨es, hes⟩ : ∃ es, A.map rowC = es := ⟨_, rfl⟩
  obtain ⟨fs, hfs⟩ : ∃ fs, B.map rowC = fs := ⟨_, rfl⟩
  have hel : es.length = A.length := by rw [← hes, List.length_map]
  have hfl : fs.length ≤ 4 := by rw [← hfs, List.length_map]; exact hlB
  have hel4 : es.length ≤ 4 := by omega
  unfold rowsS at r11 rB s1
  rw [List.map_append, hes, hfs] at r11 s1
  rw [hfs] at rB
  rw [hes] at rA
  clear ht hs hc hk h0 h5a h5b sub htc hkB hlB hfs
  generalize colsH l = cols at *
  generalize l.take 40 = q at *
  refine pc_of_aw Tryd.func6 rfl (by kernel_rfl) mixed (by kernel_rfl) (by rw [Tryd.ntmps6]; exact Nat.le_of_ble_eq_true rfl) Tryd.results6 ?_
  repeat (first | ((first | (with_reducible apply rpGT) | (with_reducible apply drGT) | (with_reducible apply rpGTN) | (with_reducible apply drGTN)); exact rfl; (first | exact gval_t rfl | exact gval_f rfl | exact gval_gt rfl | exact gval_gf rfl); (first | exact rfl | assumption | decide); (focus repeat' (first | exact trivial | exact fun h => h | refine And.intro ?_ ?_ | (intro h; (first | exact h | (simp only [Bool.and_eq_true] at h; (first | exact h.1 | exact h.1.1 | exact h.1.1.1 | exact h.2)) | (rw [h]; rfl) | (rw [hgd0, h]; rfl) | simp_all)))); (first | (exact does_load_allD (tyOk rfl) rfl rfl rfl hcl) | (exact does_store_whole (tyOk rfl) rfl rfl rfl hcl hcl) | ((with_reducible apply does_call_flat); exact rfl; exact rfl; exact (b1); exact rfl) | ((with_reducible apply does_call_flat); exact rfl; exact rfl; exact (o0); exact rfl) | ((with_reducible apply does_call_flat); exact rfl; exact rfl; exact (o1); exact rfl) | ((with_reducible apply does_call'); exact rfl; exact rfl; exact rfl; exact (r11)) | ((with_reducible apply does_call'); exact rfl; exact rfl; exact rfl; exact (rB)) | ((with_reducible apply does_callO'); exact rfl; exact rfl; exact rfl; exact (rA); (first | exact rfl | (simp; done) | (simp; omega)); exact rfl; (conv => lhs; whnf)) | ((with_reducible apply does_move); (conv => lhs; whnf)) | ((with_reducible apply does_assign); (conv => lhs; whnf)) | ((with_reducible apply does_extract); exact rfl; exact rfl) | ((with_reducible apply does_extractA); exact rfl; exact rfl) | ((with_reducible apply does_len_ow); exact tyOk rfl; exact rfl; exact rfl) | ((with_reducible apply does_alloc); exact tyOk rfl; exact rfl)); (first | exact lapp_nil _ | exact lapp_1 _ _ | exact lapp_2 _ _ _ | exact lapp_3 _ _ _ _)) | (with_reducible first | apply aw_seq | apply aw_reg | apply rp_nil | apply ae_norm | apply aw_regD | apply aw_block) | ((with_reducible apply dr_nil); (first | kernel_rfl | exact rfl)) | ((with_reducible first | apply rp | apply dr); first | (exact does_load_allD (tyOk rfl) rfl rfl rfl hcl) | ((with_reducible apply does_call_flat); exact rfl; exact rfl; exact (b1); exact rfl) | ((with_reducible apply does_call_flat); exact rfl; exact rfl; exact (o0); exact rfl) | ((with_reducible apply does_call_flat); exact rfl; exact rfl; exact (o1); exact rfl) | ((with_reducible apply does_call'); exact rfl; exact rfl; exact rfl; exact (r11)) | ((with_reducible apply does_call'); exact rfl; exact rfl; exact rfl; exact (rB)) | ((with_reducible apply does_move); (conv => lhs; whnf)) | ((with_reducible apply does_assign); (conv => lhs; whnf)) | ((with_reducible apply does_extract); exact rfl; exact rfl) | ((with_reducible apply does_extractA); exact rfl; exact rfl) | ((with_reducible apply does_len_ow); exact tyOk rfl; exact rfl; exact rfl)) | ((with_reducible first | apply rp1 | apply dr1); first | ((with_reducible apply does_callO'); exact rfl; exact rfl; exact rfl; exact (rA); (first | exact rfl | (simp; done) | (simp; omega)); exact rfl; (conv => lhs; whnf)) | ((with_reducible apply does_alloc); exact tyOk rfl; exact rfl)) | ((with_reducible apply rpN); (exact does_store_whole (tyOk rfl) rfl rfl rfl hcl hcl)) | ((with_reducible apply rpL); (refine does_callG' [] [(2000, 17)] (ups := [(17, .var 80 [.d (rawsD q), .d (iD nn), .d (colsD cols)])]) (v := (.tu [.d (.ag cs), .px 17 0, .d (bD true)])) rfl (g1) rfl ?_ rfl ?_ ?_ rfl rfl rfl rfl rfl ?_ ?_ rfl rfl rfl; (focus repeat' exact trivial); (focus repeat' (first | exact trivial | exact inB_px rfl | refine And.intro ?_ ?_)); (focus repeat' (first | exact trivial | exact inB_px rfl | refine And.intro ?_ ?_)); (focus repeat' (first | exact trivial | exact inB_px rfl | refine And.intro ?_ ?_)); (focus repeat' (first | exact trivial | exact inB_px rfl | refine And.intro ?_ ?_))); exact lapp_nil _))
  refine aw_loop (fun m s => ∃ i, i ≤ es.length ∧ m = es.length - i ∧ s = ⟨[(3, .px 3 0), (5, .d (bD true)), (6, .d (.sl 1 (es ++ fs))), (7, .d (iD 0)), (8, .ow 1000 es.length), (9, .d (iD 0)), (10, .d (.sl 1 fs)), (11, .d (iD 0)), (40, .d (iD es.length)), (41, .d (iD i))], [(3, .var 47 (cs.map .d)), (1000, .row 41 1 es)]⟩) _ _ ?_ ⟨0, by omega, rfl, rfl⟩ ?_
  · refine forget_of [(1000, 30)] (by repeat' (first | exact ks_nil | (refine ks_cons rfl (by exact SubA.refl _) ?_))) (by repeat' (first | exact trivial | exact rfl | exact kb_d rfl | refine And.intro ?_ ?_)) rfl (by repeat' (first | exact trivial | exact insB_map _ | exact inB_ow rfl | exact inB_px rfl | refine And.intro ?_ ?_)) (by repeat' (first | exact trivial | exact insB_map _ | exact inB_ow rfl | exact inB_px rfl | refine And.intro ?_ ?_))
  · rintro m s ⟨i, hi, rfl, rfl⟩
    repeat (first | ((first | (with_reducible apply rpGT) | (with_reducible apply drGT) | (with_reducible apply rpGTN) | (with_reducible apply drGTN)); exact rfl; (first | exact gval_t rfl | exact gval_f rfl | exact gval_gt rfl | exact gval_gf rfl); (first | exact rfl | assumption | decide); (focus repeat' (first | exact trivial | exact fun h => h | refine And.intro ?_ ?_ | (intro h; (first | exact h | (simp only [Bool.and_eq_true] at h; (first | exact h.1 | exact h.1.1 | exact h.1.1.1 | exact h.2)) | (rw [h]; rfl) | (rw [hgd0, h]; rfl) | simp_all)))); (first | ((with_reducible apply does_lt); exact rfl; exact rfl)); (first | exact lapp_nil _ | exact lapp_1 _ _ | exact lapp_2 _ _ _ | exact lapp_3 _ _ _ _)) | (with_reducible first | apply aw_seq | apply aw_reg | apply rp_nil | apply ae_norm) | ((with_reducible apply rp); ((with_reducible apply does_lt); exact rfl; exact rfl)))
    refine aw_cond rfl (fun hd => ?_) (fun hd => ?_)
    · have hlt : i < es.length := by simp at hd; omega
      clear hd
      cases i with
      | zero =>
        have hff : decide (((0 : Nat) : Int) > 0) = false := rfl
        repeat (first | ((first | (with_reducible apply rpGT) | (with_reducible apply drGT) | (with_reducible apply rpGTN) | (with_reducible apply drGTN)); exact rfl; exact gval_t rfl; (first | exact rfl | assumption | decide); (focus repeat' (first | exact trivial | exact fun h => h | refine And.intro ?_ ?_)); (first | ((with_reducible apply does_move); (conv => lhs; whnf)) | ((with_reducible apply does_assign); (conv => lhs; whnf)) | ((with_reducible apply does_pickF); exact rfl; (first | assumption | decide); (conv => lhs; whnf)) | ((with_reducible apply does_index_own); exact tyOk rfl; exact rfl; exact tyOk rfl; exact rfl; exact rfl; exact rfl; omega) | ((with_reducible apply does_gt); exact rfl; exact rfl) | ((with_reducible apply does_sub); exact rfl; exact rfl; omega; omega)); (first | exact lapp_nil _ | exact lapp_1 _ _ | exact lapp_2 _ _ _ | exact lapp_3 _ _ _ _)) | (with_reducible first | apply aw_seq | apply aw_reg | apply rp_nil | apply ae_norm | apply aw_regD | apply aw_block | apply aw_skip) | ((with_reducible apply dr_nil); (first | kernel_rfl | exact rfl)) | ((first | (with_reducible first | apply rp | apply dr) | ((with_reducible apply drG); exact rfl; exact gval_t rfl; (focus repeat' (first | exact trivial | exact fun h => h | refine And.intro ?_ ?_)); intro hgd; have hgd0 := hgd; (try simp only [decide_eq_true_eq, Bool.and_eq_true, Bool.not_eq_true', beq_iff_eq] at hgd))); first | ((with_reducible apply does_move); (conv => lhs; whnf)) | ((with_reducible apply does_assign); (conv => lhs; whnf)) | ((with_reducible apply does_pickF); exact rfl; (first | assumption | decide); (conv => lhs; whnf)) | ((with_reducible apply does_index_own); exact tyOk rfl; exact rfl; exact tyOk rfl; exact rfl; exact rfl; exact rfl; omega) | ((with_reducible apply does_gt); exact rfl; exact rfl) | ((with_reducible apply does_sub); exact rfl; exact rfl; omega; omega)) | ((first | (with_reducible apply rpGF) | (with_reducible apply drGF)); exact rfl; exact gval_t rfl; (first | assumption | decide); (focus repeat' (first | exact trivial | exact fun h => h | refine And.intro ?_ ?_))))
        refine aw_cond rfl (fun hd => ?_) (fun hd => ?_)
        · exfalso
          simp at hd <;> omega
        · clear hd
          repeat (first | ((first | (with_reducible apply rpGT) | (with_reducible apply drGT) | (with_reducible apply rpGTN) | (with_reducible apply drGTN)); exact rfl; (first | exact gval_t rfl | exact gval_f rfl | exact gval_gt rfl | exact gval_gf rfl); (first | exact rfl | assumption | decide); (focus repeat' (first | exact trivial | exact fun h => h | refine And.intro ?_ ?_ | (intro h; (first | exact h | (simp only [Bool.and_eq_true] at h; (first | exact h.1 | exact h.1.1 | exact h.1.1.1 | exact h.2)) | (rw [h]; rfl) | (rw [hgd0, h]; rfl) | simp_all)))); (first | ((with_reducible apply does_move); (conv => lhs; whnf)) | ((with_reducible apply does_add); exact rfl; exact rfl; omega; omega)); (first | exact lapp_nil _ | exact lapp_1 _ _ | exact lapp_2 _ _ _ | exact lapp_3 _ _ _ _)) | (with_reducible first | apply aw_reg | apply rp_nil | apply ae_norm | apply be_norm | apply aw_skip) | ((with_reducible apply rp); first | ((with_reducible apply does_move); (conv => lhs; whnf)) | ((with_reducible apply does_add); exact rfl; exact rfl; omega; omega)))
          refine ⟨_, _, ?_, ?_, 0 + 1, by omega, rfl, rfl⟩
          · omega
          · refine forget_of [] (by repeat' (first | exact ks_nil | (refine ks_cons rfl (by exact SubA.refl _) ?_))) (by repeat' (first | exact trivial | exact rfl | exact kb_d rfl | refine And.intro ?_ ?_)) rfl (by repeat' (first | exact trivial | exact insB_map _ | exact inB_ow rfl | exact inB_px rfl | refine And.intro ?_ ?_)) (by repeat' (first | exact trivial | exact insB_map _ | exact inB_ow rfl | exact inB_px rfl | refine And.intro ?_ ?_))
      | succ j =>
        obtain ⟨r, hr⟩ : ∃ r, A[j + 1]? = some r := ⟨_, List.getElem?_eq_getElem (by omega)⟩
        obtain ⟨p, hp⟩ : ∃ p, A[j]? = some p := ⟨_, List.getElem?_eq_getElem (by omega)⟩
        have hlt2 : keyN p < keyN r := by
          obtain ⟨l1, e1⟩ := List.getElem?_eq_some_iff.1 hp
          obtain ⟨l2, e2⟩ := List.getElem?_eq_some_iff.1 hr
          have := List.pairwise_iff_getElem.1 hR j (j + 1) l1 l2 (by omega)
          rw [e1, e2] at this
          exact this
        obtain ⟨kr, lr, e0⟩ := hkA r (List.mem_of_getElem? hr)
        subst e0
        obtain ⟨kp, lp, e0⟩ := hkA p (List.mem_of_getElem? hp)
        subst e0
        have hlt3 : kp < kr := hlt2
        have g1 := rowC_at hr
        have g2 := rowC_at hp
        rw [hes] at g1 g2
        have hgr : ((numV kr :: lr).map Vl.cs)[0]? = some [iD 2, iD kr, qD 0, strD .empty] := rfl
        have hgp : ((numV kp :: lp).map Vl.cs)[0]? = some [iD 2, iD kp, qD 0, strD .empty] := rfl
        have hgt : decide (((j + 1 : Nat) : Int) > 0) = true := by rw [decide_eq_true_eq]; omega
        repeat (first | ((first | (with_reducible apply rpGT) | (with_reducible apply drGT) | (with_reducible apply rpGTN) | (with_reducible apply drGTN)); exact rfl; exact gval_t rfl; (first | exact rfl | assumption | decide); (focus repeat' (first | exact trivial | refine And.intro ?_ ?_)); (first | (exact does_sub_to (z := (j : Int)) rfl rfl (by omega) (by omega) (by omega)) | ((with_reducible apply does_move); (conv => lhs; whnf)) | ((with_reducible apply does_assign); (conv => lhs; whnf)) | ((with_reducible apply does_and); exact rfl; exact rfl; exact rfl; exact trivial) | ((with_reducible apply does_fieldAddr); exact tyOk rfl; exact rfl; exact rfl; decide; exact rfl) | ((with_reducible apply does_load_elem); exact tyOk rfl; exact rfl; exact rfl; assumption; exact rfl) | ((with_reducible apply does_load_own); exact tyOk rfl; exact rfl; exact rfl; exact rfl; assumption; exact rfl) | ((with_reducible apply does_index_sl); exact tyOk rfl; exact rfl; exact tyOk rfl; exact rfl; exact rfl; exact rfl; exact rfl; (first | omega | (dsimp only; simp only [List.length_map, List.length_append, List.length_cons, List.length_nil] at *; omega))) | ((with_reducible apply does_index_own); exact tyOk rfl; exact rfl; exact tyOk rfl; exact rfl; exact rfl; exact rfl; (first | omega | (dsimp only; simp only [List.length_map, List.length_append, List.length_cons, List.length_nil] at *; omega))) | ((with_reducible apply does_gt); exact rfl; exact rfl) | ((with_reducible apply does_ge); exact rfl; exact rfl)); (first | exact lapp_nil _ | exact lapp_1 _ _ | exact lapp_2 _ _ _ | exact lapp_3 _ _ _ _)) | (with_reducible first | apply aw_seq | apply aw_reg | apply rp_nil | apply ae_norm | apply aw_regD | apply aw_block | apply aw_skip) | ((with_reducible apply dr_nil); (first | kernel_rfl | exact rfl)) | ((with_reducible first | apply rp | apply dr); first | (exact does_sub_to (z := (j : Int)) rfl rfl (by omega) (by omega) (by omega)) | ((with_reducible apply does_move); (conv => lhs; whnf)) | ((with_reducible apply does_assign); (conv => lhs; whnf)) | ((with_reducible apply does_and); exact rfl; exact rfl; exact rfl; exact trivial) | ((with_reducible apply does_fieldAddr); exact tyOk rfl; exact rfl; exact rfl; decide; exact rfl) | ((with_reducible apply does_load_elem); exact tyOk rfl; exact rfl; exact rfl; assumption; exact rfl) | ((with_reducible apply does_load_own); exact tyOk rfl; exact rfl; exact rfl; exact rfl; assumption; exact rfl) | ((with_reducible apply does_index_sl); exact tyOk rfl; exact rfl; exact tyOk rfl; exact rfl; exact rfl; exact rfl; exact rfl; (first | omega | (dsimp only; simp only [List.length_map, List.length_append, List.length_cons, List.length_nil] at *; omega))) | ((with_reducible apply does_index_own); exact tyOk rfl; exact rfl; exact tyOk rfl; exact rfl; exact rfl; exact rfl; (first | omega | (dsimp only; simp only [List.length_map, List.length_append, List.length_cons, List.length_nil] at *; omega))) | ((with_reducible apply does_gt); exact rfl; exact rfl) | ((with_reducible apply does_ge); exact rfl; exact rfl)))
        refine aw_cond rfl (fun hd => ?_) (fun hd => ?_)
        · exfalso
          simp at hd
          omega
        · clear hd
          repeat (first | ((first | (with_reducible apply rpGT) | (with_reducible apply drGT) | (with_reducible apply rpGTN) | (with_reducible apply drGTN)); exact rfl; (first | exact gval_t rfl | exact gval_f rfl | exact gval_gt rfl | exact gval_gf rfl); (first | exact rfl | assumption | decide); (focus repeat' (first | exact trivial | exact fun h => h | refine And.intro ?_ ?_ | (intro h; (first | exact h | (simp only [Bool.and_eq_true] at h; (first | exact h.1 | exact h.1.1 | exact h.1.1.1 | exact h.2)) | (rw [h]; rfl) | (rw [hgd0, h]; rfl) | simp_all)))); (first | ((with_reducible apply does_move); (conv => lhs; whnf)) | ((with_reducible apply does_add); exact rfl; exact rfl; omega; omega)); (first | exact lapp_nil _ | exact lapp_1 _ _ | exact lapp_2 _ _ _ | exact lapp_3 _ _ _ _)) | (with_reducible first | apply aw_reg | apply rp_nil | apply ae_norm | apply be_norm | apply aw_skip) | ((with_reducible apply rp); first | ((with_reducible apply does_move); (conv => lhs; whnf)) | ((with_reducible apply does_add); exact rfl; exact rfl; omega; omega)))
          refine ⟨_, _, ?_, ?_, j + 1 + 1, by omega, rfl, rfl⟩
          · omega
          · refine forget_of [] (by repeat' (first | exact ks_nil | (refine ks_cons rfl (by exact SubA.refl _) ?_))) (by repeat' (first | exact trivial | exact rfl | exact kb_d rfl | refine And.intro ?_ ?_)) rfl (by repeat' (first | exact trivial | exact insB_map _ | exact inB_ow rfl | exact inB_px rfl | refine And.intro ?_ ?_)) (by repeat' (first | exact trivial | exact insB_map _ | exact inB_ow rfl | exact inB_px rfl | refine And.intro ?_ ?_))
    · have hke : i = es.length := by simp at hd; omega
      clear hd
      subst hke
      repeat (first | ((first | (with_reducible apply rpGT) | (with_reducible apply drGT) | (with_reducible apply rpGTN) | (with_reducible apply drGTN)); exact rfl; exact gval_t rfl; (first | exact rfl | assumption | decide); (focus repeat' (first | exact trivial | refine And.intro ?_ ?_)); (first | (exact does_load_allD (tyOk rfl) rfl rfl rfl hcl) | ((with_reducible apply does_call'); exact rfl; exact rfl; exact rfl; exact (r00)) | ((with_reducible apply does_call_flat); exact rfl; exact rfl; exact (tt); exact rfl) | ((with_reducible apply does_call_flat); exact rfl; exact rfl; exact (s1); exact rfl) | ((with_reducible apply does_move); (conv => lhs; whnf)) | ((with_reducible apply does_assign); (conv => lhs; whnf)) | ((with_reducible apply does_and); exact rfl; exact rfl; exact rfl; exact trivial) | ((with_reducible apply does_eq); exact rfl; exact rfl) | ((with_reducible apply does_extract); exact rfl; exact rfl) | ((with_reducible apply does_len_sl); exact tyOk rfl; exact rfl; exact rfl) | ((with_reducible apply does_zeroA); exact tyOk rfl; exact rfl; decide) | ((with_reducible apply does_append_own); exact tyOk rfl; exact rfl; exact tyOk rfl; exact rfl; exact rfl; exact rfl; decide; (first | omega | (dsimp only; omega)); (first | omega | (dsimp only; omega)); exact rfl)); (first | exact lapp_nil _ | exact lapp_1 _ _ | exact lapp_2 _ _ _ | exact lapp_3 _ _ _ _)) | (with_reducible first | apply aw_seq | apply aw_reg | apply rp_nil | apply ae_norm | apply aw_exit | apply ae_exit | apply be_exit | apply aw_ret | apply re_ret) | ((with_reducible apply rp); first | (exact does_load_allD (tyOk rfl) rfl rfl rfl hcl) | ((with_reducible apply does_call'); exact rfl; exact rfl; exact rfl; exact (r00)) | ((with_reducible apply does_call_flat); exact rfl; exact rfl; exact (tt); exact rfl) | ((with_reducible apply does_call_flat); exact rfl; exact rfl; exact (s1); exact rfl) | ((with_reducible apply does_move); (conv => lhs; whnf)) | ((with_reducible apply does_assign); (conv => lhs; whnf)) | ((with_reducible apply does_and); exact rfl; exact rfl; exact rfl; exact trivial) | ((with_reducible apply does_eq); exact rfl; exact rfl) | ((with_reducible apply does_extract); exact rfl; exact rfl) | ((with_reducible apply does_len_sl); exact tyOk rfl; exact rfl; exact rfl) | ((with_reducible apply does_zeroA); exact tyOk rfl; exact rfl; decide)) | ((with_reducible first | apply rp2 | apply dr2); ((with_reducible apply does_append_own); exact tyOk rfl; exact rfl; exact tyOk rfl; exact rfl; exact rfl; exact rfl; decide; (first | omega | (dsimp only; omega)); (first | omega | (dsimp only; omega)); exact rfl)))
      (with_reducible apply ret_ok); (focus (repeat' (first | (with_reducible apply rv_nil) | (with_reducible apply rv_cons) | ((with_reducible apply rv_tmp); exact rfl)))); exact rfl; refine SubD.of_eq ?_
      rfl
theorem rowsRise_walk (A : Option Addr) (l : List Raw) (c : Nat) (w : World) (h : RdR w w.heap.size A l) (hc : l.length ≤ c) (_ : c * 40 ≤ 140737488351232) (hr : ∀ r ∈ l, r.ok) (hg : GlOk (Lt w) w) : Calls Tryd.prog 6 #[.slice A l.length c] w fun e w' => e = .returned (.bool true) ∧ Below w.heap.size w w' :=
  calls_of_pc (rowsRise_pc l) (rep_cons (rep_raws h hc) rfl) hg
end Go.Proofs.YtnkpnnphmimagaaDoor

