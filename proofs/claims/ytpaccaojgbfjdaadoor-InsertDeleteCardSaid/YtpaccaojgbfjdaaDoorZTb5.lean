/-
  chirograph/table: Insert as a contract.
-/
import Derived.Test.YtpaccaojgbfjdaaDoorZTb4
namespace Go.Proofs.YtpaccaojgbfjdaaDoor
set_option linter.unusedSimpArgs false
set_option linter.unusedVariables false
open Go.RowKit

theorem drF_zero (a b : List Ce) : drF a b 0 = a := rfl
theorem drF_one (a b : List Ce) : drF a b 1 = b := rfl
set_option maxHeartbeats 8000000 in
theorem insert0_pc (t : Tb) (h : TbOk t) (r : List Vl) (hr : FitR r t.cols) : PC Tryd.prog 12 [.ag t.cs, iD 0, valsD r] (insD t 0 r) := by
  have b1 : PC Tryd.prog 39 [.ag t.cs, iD 0] (.tu [.ag t.cs, iD 0]) := begun_pc t h 0 (by omega)
  have k1 := kRow_pc r t.cols h.cols hr
  have hlen := Tb.len h
  obtain ⟨tn, tc, a, b⟩ := t
  obtain ⟨hn, hc, hk, ha, hb⟩ := h
  have hl5 := hc.len
  have t1 := trow_pc r (by have := hr.len; dsimp only at *; omega)
  obtain ⟨kr, lr, rfl⟩ := fit_key hr hk
  have ha4 := ha.len
  have hb4 := hb.len
  have hcl := ha
  unfold insD
  rw [drF_zero]
  unfold Tb.cs at *
  dsimp only at *
  have hgr : ((numV kr :: lr).map Vl.cs)[0]? = some [iD 2, iD kr, qD 0, strD .empty] := rfl
  refine pc_of_aw Tryd.func12 rfl (by kernel_rfl) mixed (by kernel_rfl) (by rw [Tryd.ntmps12]; exact Nat.le_of_ble_eq_true rfl) Tryd.results12 ?_
  repeat (first | (with_reducible first | apply aw_seq | apply aw_reg | apply rp_nil | apply ae_norm | apply aw_block | apply aw_skip) | ((with_reducible apply rp); first | (exact does_load_allD (tyOk rfl) rfl rfl rfl hlen) | ((with_reducible apply does_call'); exact rfl; exact rfl; exact rfl; exact (b1)) | ((with_reducible apply does_call_flat); exact rfl; exact rfl; exact (k1); exact rfl) | (exact does_load_dr0 (a := a) (b := b) (pre := [bD true, strD tn, colsD tc]) (tyOk rfl) rfl rfl rfl rfl rfl ha4 hb4) | ((with_reducible apply does_move); (conv => lhs; whnf)) | ((with_reducible apply does_assign); (conv => lhs; whnf)) | ((with_reducible apply does_fieldAddr); exact tyOk rfl; exact rfl; exact rfl; decide; exact rfl) | ((with_reducible apply does_load_var); exact tyOk rfl; exact rfl; exact rfl; exact rfl; exact rfl) | ((with_reducible apply does_index_arr); exact tyOk rfl; exact rfl; exact rfl; exact rfl; (dsimp only; omega); decide; exact rfl) | ((with_reducible apply does_ne); exact rfl; exact rfl) | ((with_reducible apply does_extract); exact rfl; exact rfl)) | ((with_reducible apply rp1); first | ((with_reducible apply does_box_ag); exact rfl; exact rfl) | ((with_reducible apply does_alloc); exact tyOk rfl; exact rfl)) | ((with_reducible apply rpN); (exact does_store_whole (tyOk rfl) rfl rfl rfl hlen (List.length_map _).symm)) | ((with_reducible apply aw_cond); exact rfl; (focus (intro hd; (cases hd; done))); (intro hd; clear hd)))
  refine aw_loop (fun m s => ∃ k, k ≤ 4 ∧ m = 4 - k ∧ (∀ j c, j < k → a[j]? = some c → c.full = true → keyN c.row ≠ kr) ∧ s = ⟨[(1, .d (iD 0)), (2, .d (valsD (numV kr :: lr))), (3, .px 3 0), (6, .px 6 0), (10, .d (iD (freeN a k))), (34, .d (.ag (a.flatMap Ce.cs))), (35, .d (iD k))], [(3, .var 30 (([bD true, strD tn, colsD tc] ++ (a.flatMap Ce.cs ++ b.flatMap Ce.cs)).map .d)), (6, .var 30 (tb0.map .d))]⟩) _ _ ?_ ⟨0, by omega, rfl, fun _ _ h => absurd h (by omega), rfl⟩ ?_
  · refine forget_of [] (by repeat' (first | exact ks_nil | (refine ks_cons rfl (by exact SubA.refl _) ?_))) (by repeat' (first | exact trivial | exact rfl | exact kb_d rfl | refine And.intro ?_ ?_)) rfl (by repeat' (first | exact trivial | exact insB_map _ | exact inB_px rfl | refine And.intro ?_ ?_)) (by repeat' (first | exact trivial | exact insB_map _ | exact inB_px rfl | refine And.intro ?_ ?_))
  · rintro m s ⟨k, hk4, rfl, hall, rfl⟩
    repeat (first | (with_reducible first | apply aw_seq | apply aw_reg | apply rp_nil | apply ae_norm) | ((with_reducible apply rp); ((with_reducible apply does_lt); exact rfl; exact rfl)))
    refine aw_cond rfl (fun hd => ?_) (fun hd => ?_)
    · have hlt4 : k < 4 := by simp at hd; omega
      clear hd
      obtain ⟨c, hcc⟩ : ∃ c, a[k]? = some c := ⟨_, List.getElem?_eq_getElem (by omega)⟩
      have hco := hcl.ok c (List.mem_of_getElem? hcc)
      have hgd : a.getD k ⟨true, []⟩ = c := by rw [List.getD_eq_getElem?_getD, hcc]; rfl
      have hm := List.mem_of_getElem? hcc
      obtain ⟨cf, cr⟩ := c
      cases cf with
      | true =>
        obtain ⟨kc, lc, e1⟩ := fit_key (hco.fit rfl) hk
        dsimp only at e1
        subst e1
        have hgc : ((numV kc :: lc).map Vl.cs)[0]? = some [iD 2, iD kc, qD 0, strD .empty] := rfl
        have hfn : freeN a (k + 1) = freeN a k := by
          conv => lhs; unfold freeN
          rw [hgd, if_neg (by simp)]
        repeat (first | (with_reducible first | apply aw_seq | apply aw_reg | apply rp_nil | apply ae_norm | apply aw_regD | apply aw_block | apply aw_skip) | ((with_reducible apply dr_nil); (first | kernel_rfl | exact rfl)) | ((first | (with_reducible first | apply rp | apply dr) | ((with_reducible apply drG); exact rfl; exact gval_t rfl; (focus repeat' (first | exact trivial | exact fun h => h | refine And.intro ?_ ?_)); intro hgd; have hgd0 := hgd; (try simp only [decide_eq_true_eq, Bool.and_eq_true, Bool.not_eq_true', beq_iff_eq] at hgd))); first | (exact does_index_flat (d := a) (c := ⟨true, numV kc :: lc⟩) (tyOk rfl) rfl (tyOk rfl) rfl rfl rfl rfl rfl ha4 hcc) | ((with_reducible apply does_move); (conv => lhs; whnf)) | ((with_reducible apply does_assign); (conv => lhs; whnf)) | ((with_reducible apply does_and); exact rfl; exact rfl; exact rfl; exact fun h => h) | ((with_reducible apply does_fieldAddr); exact tyOk rfl; exact rfl; exact rfl; decide; exact rfl) | ((with_reducible apply does_load_var); exact tyOk rfl; exact rfl; exact rfl; exact rfl; exact rfl) | ((with_reducible apply does_load_elem_whole); exact tyOk rfl; exact rfl; exact rfl; assumption; exact rfl) | ((with_reducible apply does_index_sl); exact tyOk rfl; exact rfl; exact tyOk rfl; exact rfl; exact rfl; exact rfl; exact rfl; (dsimp only; simp only [List.length_map, List.length_append, List.length_cons, List.length_nil] at *; omega)) | ((with_reducible apply does_eqS); exact rfl; exact rfl; exact tgOk rfl; exact rfl)) | ((with_reducible apply rp1); ((with_reducible apply does_alloc); exact tyOk rfl; exact rfl)) | ((with_reducible apply rpN); ((with_reducible apply does_store_whole); exact tyOk rfl; exact rfl; exact rfl; exact rfl; exact rfl; exact rfl)))
        refine aw_cond rfl (fun hd => ?_) (fun hd => ?_)
        · have hkk : kc = kr := by simp at hd; exact hd
          clear hd
          rw [if_pos (by
            unfold twiceB
            rw [List.any_eq_true]
            exact ⟨_, hm, by simpa [keyN, keyV, numV] using hkk⟩)]
          repeat (first | (with_reducible first | apply aw_seq | apply aw_reg | apply rp_nil | apply ae_norm | apply aw_ret | apply ae_ret | apply be_ret | apply re_ret) | ((with_reducible apply rp); first | ((with_reducible apply does_assign); (conv => lhs; whnf)) | ((with_reducible apply does_zeroS); exact tyOk rfl; exact rfl; exact rfl)) | ((with_reducible apply rpN); ((with_reducible apply does_store_whole); exact tyOk rfl; exact rfl; exact rfl; exact rfl; exact rfl; exact rfl)))
          (with_reducible apply ret_ok); (focus (repeat' (first | (with_reducible apply rv_nil) | (with_reducible apply rv_cons) | ((with_reducible apply rv_tmp); exact rfl) | ((with_reducible apply rv_rowd); exact rfl; exact rfl; exact tyOk rfl; exact rfl; exact rfl)))); exact rfl; refine SubD.of_eq ?_
          rfl
        · have hkk : kc ≠ kr := by intro e; subst e; simp at hd
          clear hd
          repeat (first | (with_reducible first | apply aw_seq | apply aw_reg | apply rp_nil | apply ae_norm | apply aw_skip) | ((first | (with_reducible apply rp) | ((with_reducible apply rpG); exact rfl; exact gval_t rfl; (focus repeat' (first | exact trivial | exact fun h => h | refine And.intro ?_ ?_)); intro hgd; have hgd0 := hgd; (try simp only [decide_eq_true_eq, Bool.and_eq_true, Bool.not_eq_true', beq_iff_eq] at hgd))); first | ((with_reducible apply does_move); (conv => lhs; whnf)) | ((with_reducible apply does_and); exact rfl; exact rfl; exact rfl; exact fun h => h) | ((with_reducible apply does_fieldAddr); exact tyOk rfl; exact rfl; exact rfl; decide; exact rfl) | ((with_reducible apply does_load_var); exact tyOk rfl; exact rfl; exact rfl; exact rfl; exact rfl) | ((with_reducible apply does_lt); exact rfl; exact rfl) | ((with_reducible apply does_not); exact rfl)))
          refine aw_cond rfl (fun hd => absurd hd (by simp)) (fun hd => ?_)
          clear hd
          repeat (first | (with_reducible first | apply aw_reg | apply rp_nil | apply ae_norm | apply be_norm | apply aw_skip) | ((with_reducible apply rp); first | ((with_reducible apply does_move); (conv => lhs; whnf)) | ((with_reducible apply does_add); exact rfl; exact rfl; omega; omega)))
          refine ⟨_, _, ?_, ?_, k + 1, by omega, rfl, fun j c hj hc hf => ?_, rfl⟩
          · omega
          · rw [hfn]
            refine forget_of [] (by repeat' (first | exact ks_nil | (refine ks_cons rfl (by exact SubA.refl _) ?_))) (by repeat' (first | exact trivial | exact rfl | exact kb_d rfl | refine And.intro ?_ ?_)) rfl (by repeat' (first | exact trivial | exact insB_map _ | exact inB_px rfl | refine And.intro ?_ ?_)) (by repeat' (first | exact trivial | exact insB_map _ | exact inB_px rfl | refine And.intro ?_ ?_))
          · rcases (by omega : j < k ∨ j = k) with h1 | rfl
            · exact hall j c h1 hc hf
            · rw [hcc] at hc
              injection hc with hc
              subst hc
              exact hkk
      | false =>
        have hr0 : cr = [] := hco.none rfl
        subst hr0
        repeat (first | (with_reducible first | apply aw_seq | apply aw_reg | apply rp_nil | apply ae_norm | apply aw_regD | apply aw_block | apply aw_skip) | ((with_reducible apply dr_nil); (first | kernel_rfl | exact rfl)) | ((first | (with_reducible first | apply rp | apply dr) | ((with_reducible apply drG); exact rfl; exact gval_t rfl; (focus repeat' (first | exact trivial | exact fun h => h | refine And.intro ?_ ?_)); intro hgd; have hgd0 := hgd; (try simp only [decide_eq_true_eq, Bool.and_eq_true, Bool.not_eq_true', beq_iff_eq] at hgd))); first | (exact does_index_flat (d := a) (c := ⟨false, []⟩) (tyOk rfl) rfl (tyOk rfl) rfl rfl rfl rfl rfl ha4 hcc) | ((with_reducible apply does_move); (conv => lhs; whnf)) | ((with_reducible apply does_assign); (conv => lhs; whnf)) | ((with_reducible apply does_pickF); exact rfl; (first | assumption | decide); (conv => lhs; whnf)) | ((with_reducible apply does_fieldAddr); exact tyOk rfl; exact rfl; exact rfl; decide; exact rfl) | ((with_reducible apply does_load_var); exact tyOk rfl; exact rfl; exact rfl; exact rfl; exact rfl) | ((with_reducible apply does_load_elem_whole); exact tyOk rfl; exact rfl; exact rfl; assumption; exact rfl) | ((with_reducible apply does_index_sl); exact tyOk rfl; exact rfl; exact tyOk rfl; exact rfl; exact rfl; exact rfl; exact rfl; (dsimp only; simp only [List.length_map, List.length_append, List.length_cons, List.length_nil] at *; omega))) | ((with_reducible apply rp1); ((with_reducible apply does_alloc); exact tyOk rfl; exact rfl)) | ((with_reducible apply rpN); ((with_reducible apply does_store_whole); exact tyOk rfl; exact rfl; exact rfl; exact rfl; exact rfl; exact rfl)) | ((first | (with_reducible apply rpGF) | (with_reducible apply drGF)); exact rfl; exact gval_t rfl; (first | assumption | decide | exact rfl); (focus repeat' (first | exact trivial | exact fun h => h | refine And.intro ?_ ?_))))
        refine aw_cond rfl (fun hd => absurd hd (by decide)) (fun hd => ?_)
        clear hd
        repeat (first | (with_reducible first | apply aw_seq | apply aw_reg | apply rp_nil | apply ae_norm | apply aw_skip) | ((first | (with_reducible apply rp) | ((with_reducible apply rpG); exact rfl; exact gval_t rfl; (focus repeat' (first | exact trivial | exact fun h => h | refine And.intro ?_ ?_)); intro hgd; have hgd0 := hgd; (try simp only [decide_eq_true_eq, Bool.and_eq_true, Bool.not_eq_true', beq_iff_eq] at hgd))); first | ((with_reducible apply does_move); (conv => lhs; whnf)) | ((with_reducible apply does_and); exact rfl; exact rfl; exact rfl; exact fun h => h) | ((with_reducible apply does_fieldAddr); exact tyOk rfl; exact rfl; exact rfl; decide; exact rfl) | ((with_reducible apply does_load_var); exact tyOk rfl; exact rfl; exact rfl; exact rfl; exact rfl) | ((with_reducible apply does_lt); exact rfl; exact rfl) | ((with_reducible apply does_not); exact rfl)))
        refine aw_cond rfl (fun hd => ?_) (fun hd => ?_)
        · have hfl : freeN a k < 0 := by simpa using hd
          clear hd
          have hfn : freeN a (k + 1) = (k : Nat) := by
            conv => lhs; unfold freeN
            rw [hgd, if_pos ⟨hfl, rfl⟩]
          repeat (first | (with_reducible first | apply aw_reg | apply rp_nil | apply ae_norm | apply be_norm) | ((with_reducible apply rp); first | ((with_reducible apply does_move); (conv => lhs; whnf)) | ((with_reducible apply does_assign); (conv => lhs; whnf)) | ((with_reducible apply does_add); exact rfl; exact rfl; omega; omega)))
          refine ⟨_, _, ?_, ?_, k + 1, by omega, rfl, fun j c hj hc hf => ?_, rfl⟩
          · omega
          · rw [hfn]
            refine forget_of [] (by repeat' (first | exact ks_nil | (refine ks_cons rfl (by exact SubA.refl _) ?_))) (by repeat' (first | exact trivial | exact rfl | exact kb_d rfl | refine And.intro ?_ ?_)) rfl (by repeat' (first | exact trivial | exact insB_map _ | exact inB_px rfl | refine And.intro ?_ ?_)) (by repeat' (first | exact trivial | exact insB_map _ | exact inB_px rfl | refine And.intro ?_ ?_))
          · rcases (by omega : j < k ∨ j = k) with h1 | rfl
            · exact hall j c h1 hc hf
            · rw [hcc] at hc
              injection hc with hc
              subst hc
              cases hf
        · have hfl : ¬ freeN a k < 0 := by simpa using hd
          clear hd
          have hfn : freeN a (k + 1) = freeN a k := by
            conv => lhs; unfold freeN
            rw [if_neg (by intro h; exact hfl h.1)]
          repeat (first | (with_reducible first | apply aw_reg | apply rp_nil | apply ae_norm | apply be_norm | apply aw_skip) | ((with_reducible apply rp); first | ((with_reducible apply does_move); (conv => lhs; whnf)) | ((with_reducible apply does_add); exact rfl; exact rfl; omega; omega)))
          refine ⟨_, _, ?_, ?_, k + 1, by omega, rfl, fun j c hj hc hf => ?_, rfl⟩
          · omega
          · rw [hfn]
            refine forget_of [] (by repeat' (first | exact ks_nil | (refine ks_cons rfl (by exact SubA.refl _) ?_))) (by repeat' (first | exact trivial | exact rfl | exact kb_d rfl | refine And.intro ?_ ?_)) rfl (by repeat' (first | exact trivial | exact insB_map _ | exact inB_px rfl | refine And.intro ?_ ?_)) (by repeat' (first | exact trivial | exact insB_map _ | exact inB_px rfl | refine And.intro ?_ ?_))
          · rcases (by omega : j < k ∨ j = k) with h1 | rfl
            · exact hall j c h1 hc hf
            · rw [hcc] at hc
              injection hc with hc
              subst hc
              cases hf
    · have hke : k = 4 := by simp at hd; omega
      clear hd
      subst hke
      rw [if_neg (by
        unfold twiceB
        rw [List.any_eq_true]
        rintro ⟨c, hm, hp⟩
        obtain ⟨j, hj⟩ := List.getElem?_of_mem hm
        have hjl := (List.getElem?_eq_some_iff.1 hj).1
        simp only [Bool.and_eq_true, decide_eq_true_eq] at hp
        exact hall j c (by omega) hj hp.1 hp.2)]
      clear hall
      rcases freeN_lt a 4 with hfr | ⟨n, hn4, hfr⟩
      · rw [if_pos hfr]
        repeat (first | (with_reducible first | apply aw_seq | apply aw_reg | apply rp_nil | apply ae_norm | apply aw_exit | apply ae_exit | apply be_exit) | ((with_reducible apply rp); first | ((with_reducible apply does_move); (conv => lhs; whnf)) | ((with_reducible apply does_lt); exact rfl; exact rfl)))
        refine aw_cond rfl (fun hd => ?_) (fun hd => ?_)
        · clear hd
          repeat (first | (with_reducible first | apply aw_seq | apply aw_reg | apply rp_nil | apply ae_norm | apply aw_ret | apply ae_ret | apply re_ret) | ((with_reducible apply rp); first | ((with_reducible apply does_assign); (conv => lhs; whnf)) | ((with_reducible apply does_zeroS); exact tyOk rfl; exact rfl; exact rfl)) | ((with_reducible apply rpN); ((with_reducible apply does_store_whole); exact tyOk rfl; exact rfl; exact rfl; exact rfl; exact rfl; exact rfl)))
          (with_reducible apply ret_ok); (focus (repeat' (first | (with_reducible apply rv_nil) | (with_reducible apply rv_cons) | ((with_reducible apply rv_tmp); exact rfl) | ((with_reducible apply rv_rowd); exact rfl; exact rfl; exact tyOk rfl; exact rfl; exact rfl)))); exact rfl; refine SubD.of_eq ?_
          rfl
        · exfalso
          simp at hd
          omega
      · rw [if_neg (by omega), hfr]
        clear hfr
        rw [Int.toNat_natCast]
        obtain ⟨a0, a1, a2, a3, rfl⟩ := four_of ha4
        obtain ⟨b0, b1, b2, b3, rfl⟩ := four_of hb4
        rcases (by omega : n = 0 ∨ n = 1 ∨ n = 2 ∨ n = 3) with rfl | rfl | rfl | rfl
        · repeat (first | (with_reducible first | apply aw_seq | apply aw_reg | apply rp_nil | apply ae_norm | apply aw_regD | apply aw_exit | apply ae_exit | apply be_exit | apply aw_ret | apply re_ret | apply aw_skip) | ((with_reducible apply dr_nil); (first | kernel_rfl | exact rfl)) | ((with_reducible first | apply rp | apply dr); first | ((with_reducible apply does_call'); exact rfl; exact rfl; exact rfl; exact (t1)) | ((with_reducible apply does_move); (conv => lhs; whnf)) | ((with_reducible apply does_assign); (conv => lhs; whnf)) | ((with_reducible apply does_fieldAddr); exact tyOk rfl; exact rfl; exact rfl; decide; exact rfl) | ((with_reducible apply does_load_row); exact tyOk rfl; exact rfl; exact rfl; exact rfl; exact Nat.le_of_ble_eq_true rfl; exact rfl) | ((with_reducible apply does_index_arr); exact tyOk rfl; exact rfl; exact rfl; exact rfl; (first | omega | (dsimp only; omega)); decide; exact rfl) | ((with_reducible apply does_lt); exact rfl; exact rfl) | ((with_reducible apply does_build); exact tyOk rfl; exact rfl; exact rfl; (focus repeat' (first | exact rfl | refine ⟨_, _, rfl, rfl, Nat.le_of_ble_eq_true rfl, rfl, ?_⟩)); exact rfl)) | ((with_reducible first | apply rpN | apply drN); first | ((with_reducible apply does_store_whole); exact tyOk rfl; exact rfl; exact rfl; exact rfl; exact rfl; exact rfl) | ((with_reducible apply does_store_rowD); exact tyOk rfl; exact rfl; exact rfl; exact rfl; exact rfl; exact Nat.le_of_ble_eq_true rfl)) | ((with_reducible apply aw_cond); exact rfl; (focus (intro hd; (cases hd; done))); (intro hd; clear hd)))
          (with_reducible apply ret_ok); (focus (repeat' (first | (with_reducible apply rv_nil) | (with_reducible apply rv_cons) | ((with_reducible apply rv_tmp); exact rfl) | ((with_reducible apply rv_rowd); exact rfl; exact rfl; exact tyOk rfl; exact rfl; exact rfl)))); exact rfl; refine SubD.of_eq ?_
          rfl
        · repeat (first | (with_reducible first | apply aw_seq | apply aw_reg | apply rp_nil | apply ae_norm | apply aw_regD | apply aw_exit | apply ae_exit | apply be_exit | apply aw_ret | apply re_ret | apply aw_skip) | ((with_reducible apply dr_nil); (first | kernel_rfl | exact rfl)) | ((with_reducible first | apply rp | apply dr); first | ((with_reducible apply does_call'); exact rfl; exact rfl; exact rfl; exact (t1)) | ((with_reducible apply does_move); (conv => lhs; whnf)) | ((with_reducible apply does_assign); (conv => lhs; whnf)) | ((with_reducible apply does_fieldAddr); exact tyOk rfl; exact rfl; exact rfl; decide; exact rfl) | ((with_reducible apply does_load_row); exact tyOk rfl; exact rfl; exact rfl; exact rfl; exact Nat.le_of_ble_eq_true rfl; exact rfl) | ((with_reducible apply does_index_arr); exact tyOk rfl; exact rfl; exact rfl; exact rfl; (first | omega | (dsimp only; omega)); decide; exact rfl) | ((with_reducible apply does_lt); exact rfl; exact rfl) | ((with_reducible apply does_build); exact tyOk rfl; exact rfl; exact rfl; (focus repeat' (first | exact rfl | refine ⟨_, _, rfl, rfl, Nat.le_of_ble_eq_true rfl, rfl, ?_⟩)); exact rfl)) | ((with_reducible first | apply rpN | apply drN); first | ((with_reducible apply does_store_whole); exact tyOk rfl; exact rfl; exact rfl; exact rfl; exact rfl; exact rfl) | ((with_reducible apply does_store_rowD); exact tyOk rfl; exact rfl; exact rfl; exact rfl; exact rfl; exact Nat.le_of_ble_eq_true rfl)) | ((with_reducible apply aw_cond); exact rfl; (focus (intro hd; (cases hd; done))); (intro hd; clear hd)))
          (with_reducible apply ret_ok); (focus (repeat' (first | (with_reducible apply rv_nil) | (with_reducible apply rv_cons) | ((with_reducible apply rv_tmp); exact rfl) | ((with_reducible apply rv_rowd); exact rfl; exact rfl; exact tyOk rfl; exact rfl; exact rfl)))); exact rfl; refine SubD.of_eq ?_
          rfl
        · repeat (first | (with_reducible first | apply aw_seq | apply aw_reg | apply rp_nil | apply ae_norm | apply aw_regD | apply aw_exit | apply ae_exit | apply be_exit | apply aw_ret | apply re_ret | apply aw_skip) | ((with_reducible apply dr_nil); (first | kernel_rfl | exact rfl)) | ((with_reducible first | apply rp | apply dr); first | ((with_reducible apply does_call'); exact rfl; exact rfl; exact rfl; exact (t1)) | ((with_reducible apply does_move); (conv => lhs; whnf)) | ((with_reducible apply does_assign); (conv => lhs; whnf)) | ((with_reducible apply does_fieldAddr); exact tyOk rfl; exact rfl; exact rfl; decide; exact rfl) | ((with_reducible apply does_load_row); exact tyOk rfl; exact rfl; exact rfl; exact rfl; exact Nat.le_of_ble_eq_true rfl; exact rfl) | ((with_reducible apply does_index_arr); exact tyOk rfl; exact rfl; exact rfl; exact rfl; (first | omega | (dsimp only; omega)); decide; exact rfl) | ((with_reducible apply does_lt); exact rfl; exact rfl) | ((with_reducible apply does_build); exact tyOk rfl; exact rfl; exact rfl; (focus repeat' (first | exact rfl | refine ⟨_, _, rfl, rfl, Nat.le_of_ble_eq_true rfl, rfl, ?_⟩)); exact rfl)) | ((with_reducible first | apply rpN | apply drN); first | ((with_reducible apply does_store_whole); exact tyOk rfl; exact rfl; exact rfl; exact rfl; exact rfl; exact rfl) | ((with_reducible apply does_store_rowD); exact tyOk rfl; exact rfl; exact rfl; exact rfl; exact rfl; exact Nat.le_of_ble_eq_true rfl)) | ((with_reducible apply aw_cond); exact rfl; (focus (intro hd; (cases hd; done))); (intro hd; clear hd)))
          (with_reducible apply ret_ok); (focus (repeat' (first | (with_reducible apply rv_nil) | (with_reducible apply rv_cons) | ((with_reducible apply rv_tmp); exact rfl) | ((with_reducible apply rv_rowd); exact rfl; exact rfl; exact tyOk rfl; exact rfl; exact rfl)))); exact rfl; refine SubD.of_eq ?_
          rfl
        · repeat (first | (with_reducible first | apply aw_seq | apply aw_reg | apply rp_nil | apply ae_norm | apply aw_regD | apply aw_exit | apply ae_exit | apply be_exit | apply aw_ret | apply re_ret | apply aw_skip) | ((with_reducible apply dr_nil); (first | kernel_rfl | exact rfl)) | ((with_reducible first | apply rp | apply dr); first | ((with_reducible apply does_call'); exact rfl; exact rfl; exact rfl; exact (t1)) | ((with_reducible apply does_move); (conv => lhs; whnf)) | ((with_reducible apply does_assign); (conv => lhs; whnf)) | ((with_reducible apply does_fieldAddr); exact tyOk rfl; exact rfl; exact rfl; decide; exact rfl) | ((with_reducible apply does_load_row); exact tyOk rfl; exact rfl; exact rfl; exact rfl; exact Nat.le_of_ble_eq_true rfl; exact rfl) | ((with_reducible apply does_index_arr); exact tyOk rfl; exact rfl; exact rfl; exact rfl; (first | omega | (dsimp only; omega)); decide; exact rfl) | ((with_reducible apply does_lt); exact rfl; exact rfl) | ((with_reducible apply does_build); exact tyOk rfl; exact rfl; exact rfl; (focus repeat' (first | exact rfl | refine ⟨_, _, rfl, rfl, Nat.le_of_ble_eq_true rfl, rfl, ?_⟩)); exact rfl)) | ((with_reducible first | apply rpN | apply drN); first | ((with_reducible apply does_store_whole); exact tyOk rfl; exact rfl; exact rfl; exact rfl; exact rfl; exact rfl) | ((with_reducible apply does_store_rowD); exact tyOk rfl; exact rfl; exact rfl; exact rfl; exact rfl; exact Nat.le_of_ble_eq_true rfl)) | ((with_reducible apply aw_cond); exact rfl; (focus (intro hd; (cases hd; done))); (intro hd; clear hd)))
          (with_reducible apply ret_ok); (focus (repeat' (first | (with_reducible apply rv_nil) | (with_reducible apply rv_cons) | ((with_reducible apply rv_tmp); exact rfl) | ((with_reducible apply rv_rowd); exact rfl; exact rfl; exact tyOk rfl; exact rfl; exact rfl)))); exact rfl; refine SubD.of_eq ?_
          rfl
set_option maxHeartbeats 8000000 in
theorem insert1_pc (t : Tb) (h : TbOk t) (r : List Vl) (hr : FitR r t.cols) : PC Tryd.prog 12 [.ag t.cs, iD 1, valsD r] (insD t 1 r) := by
  have b1 : PC Tryd.prog 39 [.ag t.cs, iD 1] (.tu [.ag t.cs, iD 0]) := begun_pc t h 1 (by omega)
  have k1 := kRow_pc r t.cols h.cols hr
  have hlen := Tb.len h
  obtain ⟨tn, tc, a, b⟩ := t
  obtain ⟨hn, hc, hk, ha, hb⟩ := h
  have hl5 := hc.len
  have t1 := trow_pc r (by have := hr.len; dsimp only at *; omega)
  obtain ⟨kr, lr, rfl⟩ := fit_key hr hk
  have ha4 := ha.len
  have hb4 := hb.len
  have hcl := hb
  unfold insD
  rw [drF_one]
  unfold Tb.cs at *
  dsimp only at *
  have hgr : ((numV kr :: lr).map Vl.cs)[0]? = some [iD 2, iD kr, qD 0, strD .empty] := rfl
  refine pc_of_aw Tryd.func12 rfl (by kernel_rfl) mixed (by kernel_rfl) (by rw [Tryd.ntmps12]; exact Nat.le_of_ble_eq_true rfl) Tryd.results12 ?_
  repeat (first | (with_reducible first | apply aw_seq | apply aw_reg | apply rp_nil | apply ae_norm | apply aw_block | apply aw_skip) | ((with_reducible apply rp); first | (exact does_load_allD (tyOk rfl) rfl rfl rfl hlen) | ((with_reducible apply does_call'); exact rfl; exact rfl; exact rfl; exact (b1)) | ((with_reducible apply does_call_flat); exact rfl; exact rfl; exact (k1); exact rfl) | (exact does_load_dr1 (a := a) (b := b) (pre := [bD true, strD tn, colsD tc]) (tyOk rfl) rfl rfl rfl rfl rfl ha4 hb4) | ((with_reducible apply does_move); (conv => lhs; whnf)) | ((with_reducible apply does_assign); (conv => lhs; whnf)) | ((with_reducible apply does_fieldAddr); exact tyOk rfl; exact rfl; exact rfl; decide; exact rfl) | ((with_reducible apply does_load_var); exact tyOk rfl; exact rfl; exact rfl; exact rfl; exact rfl) | ((with_reducible apply does_index_arr); exact tyOk rfl; exact rfl; exact rfl; exact rfl; (dsimp only; omega); decide; exact rfl) | ((with_reducible apply does_ne); exact rfl; exact rfl) | ((with_reducible apply does_extract); exact rfl; exact rfl)) | ((with_reducible apply rp1); first | ((with_reducible apply does_box_ag); exact rfl; exact rfl) | ((with_reducible apply does_alloc); exact tyOk rfl; exact rfl)) | ((with_reducible apply rpN); (exact does_store_whole (tyOk rfl) rfl rfl rfl hlen (List.length_map _).symm)) | ((with_reducible apply aw_cond); exact rfl; (focus (intro hd; (cases hd; done))); (intro hd; clear hd)))
  refine aw_loop (fun m s => ∃ k, k ≤ 4 ∧ m = 4 - k ∧ (∀ j c, j < k → b[j]? = some c → c.full = true → keyN c.row ≠ kr) ∧ s = ⟨[(1, .d (iD 1)), (2, .d (valsD (numV kr :: lr))), (3, .px 3 0), (6, .px 6 0), (10, .d (iD (freeN b k))), (34, .d (.ag (b.flatMap Ce.cs))), (35, .d (iD k))], [(3, .var 30 (([bD true, strD tn, colsD tc] ++ (a.flatMap Ce.cs ++ b.flatMap Ce.cs)).map .d)), (6, .var 30 (tb0.map .d))]⟩) _ _ ?_ ⟨0, by omega, rfl, fun _ _ h => absurd h (by omega), rfl⟩ ?_
  · refine forget_of [] (by repeat' (first | exact ks_nil | (refine ks_cons rfl (by exact SubA.refl _) ?_))) (by repeat' (first | exact trivial | exact rfl | exact kb_d rfl | refine And.intro ?_ ?_)) rfl (by repeat' (first | exact trivial | exact insB_map _ | exact inB_px rfl | refine And.intro ?_ ?_)) (by repeat' (first | exact trivial | exact insB_map _ | exact inB_px rfl | refine And.intro ?_ ?_))
  · rintro m s ⟨k, hk4, rfl, hall, rfl⟩
    repeat (first | (with_reducible first | apply aw_seq | apply aw_reg | apply rp_nil | apply ae_norm) | ((with_reducible apply rp); ((with_reducible apply does_lt); exact rfl; exact rfl)))
    refine aw_cond rfl (fun hd => ?_) (fun hd => ?_)
    · have hlt4 : k < 4 := by simp at hd; omega
      clear hd
      obtain ⟨c, hcc⟩ : ∃ c, b[k]? = some c := ⟨_, List.getElem?_eq_getElem (by omega)⟩
      have hco := hcl.ok c (List.mem_of_getElem? hcc)
      have hgd : b.getD k ⟨true, []⟩ = c := by rw [List.getD_eq_getElem?_getD, hcc]; rfl
      have hm := List.mem_of_getElem? hcc
      obtain ⟨cf, cr⟩ := c
      cases cf with
      | true =>
        obtain ⟨kc, lc, e1⟩ := fit_key (hco.fit rfl) hk
        dsimp only at e1
        subst e1
        have hgc : ((numV kc :: lc).map Vl.cs)[0]? = some [iD 2, iD kc, qD 0, strD .empty] := rfl
        have hfn : freeN b (k + 1) = freeN b k := by
          conv => lhs; unfold freeN
          rw [hgd, if_neg (by simp)]
        repeat (first | (with_reducible first | apply aw_seq | apply aw_reg | apply rp_nil | apply ae_norm | apply aw_regD | apply aw_block | apply aw_skip) | ((with_reducible apply dr_nil); (first | kernel_rfl | exact rfl)) | ((first | (with_reducible first | apply rp | apply dr) | ((with_reducible apply drG); exact rfl; exact gval_t rfl; (focus repeat' (first | exact trivial | exact fun h => h | refine And.intro ?_ ?_)); intro hgd; have hgd0 := hgd; (try simp only [decide_eq_true_eq, Bool.and_eq_true, Bool.not_eq_true', beq_iff_eq] at hgd))); first | (exact does_index_flat (d := b) (c := ⟨true, numV kc :: lc⟩) (tyOk rfl) rfl (tyOk rfl) rfl rfl rfl rfl rfl hb4 hcc) | ((with_reducible apply does_move); (conv => lhs; whnf)) | ((with_reducible apply does_assign); (conv => lhs; whnf)) | ((with_reducible apply does_and); exact rfl; exact rfl; exact rfl; exact fun h => h) | ((with_reducible apply does_fieldAddr); exact tyOk rfl; exact rfl; exact rfl; decide; exact rfl) | ((with_reducible apply does_load_var); exact tyOk rfl; exact rfl; exact rfl; exact rfl; exact rfl) | ((with_reducible apply does_load_elem_whole); exact tyOk rfl; exact rfl; exact rfl; assumption; exact rfl) | ((with_reducible apply does_index_sl); exact tyOk rfl; exact rfl; exact tyOk rfl; exact rfl; exact rfl; exact rfl; exact rfl; (dsimp only; simp only [List.length_map, List.length_append, List.length_cons, List.length_nil] at *; omega)) | ((with_reducible apply does_eqS); exact rfl; exact rfl; exact tgOk rfl; exact rfl)) | ((with_reducible apply rp1); ((with_reducible apply does_alloc); exact tyOk rfl; exact rfl)) | ((with_reducible apply rpN); ((with_reducible apply does_store_whole); exact tyOk rfl; exact rfl; exact rfl; exact rfl; exact rfl; exact rfl)))
        refine aw_cond rfl (fun hd => ?_) (fun hd => ?_)
        · have hkk : kc = kr := by simp at hd; exact hd
          clear hd
          rw [if_pos (by
            unfold twiceB
            rw [List.any_eq_true]
            exact ⟨_, hm, by simpa [keyN, keyV, numV] using hkk⟩)]
          repeat (first | (with_reducible first | apply aw_seq | apply aw_reg | apply rp_nil | apply ae_norm | apply aw_ret | apply ae_ret | apply be_ret | apply re_ret) | ((with_reducible apply rp); first | ((with_reducible apply does_assign); (conv => lhs; whnf)) | ((with_reducible apply does_zeroS); exact tyOk rfl; exact rfl; exact rfl)) | ((with_reducible apply rpN); ((with_reducible apply does_store_whole); exact tyOk rfl; exact rfl; exact rfl; exact rfl; exact rfl; exact rfl)))
          (with_reducible apply ret_ok); (focus (repeat' (first | (with_reducible apply rv_nil) | (with_reducible apply rv_cons) | ((with_reducible apply rv_tmp); exact rfl) | ((with_reducible apply rv_rowd); exact rfl; exact rfl; exact tyOk rfl; exact rfl; exact rfl)))); exact rfl; refine SubD.of_eq ?_
          rfl
        · have hkk : kc ≠ kr := by intro e; subst e; simp at hd
          clear hd
          repeat (first | (with_reducible first | apply aw_seq | apply aw_reg | apply rp_nil | apply ae_norm | apply aw_skip) | ((first | (with_reducible apply rp) | ((with_reducible apply rpG); exact rfl; exact gval_t rfl; (focus repeat' (first | exact trivial | exact fun h => h | refine And.intro ?_ ?_)); intro hgd; have hgd0 := hgd; (try simp only [decide_eq_true_eq, Bool.and_eq_true, Bool.not_eq_true', beq_iff_eq] at hgd))); first | ((with_reducible apply does_move); (conv => lhs; whnf)) | ((with_reducible apply does_and); exact rfl; exact rfl; exact rfl; exact fun h => h) | ((with_reducible apply does_fieldAddr); exact tyOk rfl; exact rfl; exact rfl; decide; exact rfl) | ((with_reducible apply does_load_var); exact tyOk rfl; exact rfl; exact rfl; exact rfl; exact rfl) | ((with_reducible apply does_lt); exact rfl; exact rfl) | ((with_reducible apply does_not); exact rfl)))
          refine aw_cond rfl (fun hd => absurd hd (by simp)) (fun hd => ?_)
          clear hd
          repeat (first | (with_reducible first | apply aw_reg | apply rp_nil | apply ae_norm | apply be_norm | apply aw_skip) | ((with_reducible apply rp); first | ((with_reducible apply does_move); (conv => lhs; whnf)) | ((with_reducible apply does_add); exact rfl; exact rfl; omega; omega)))
          refine ⟨_, _, ?_, ?_, k + 1, by omega, rfl, fun j c hj hc hf => ?_, rfl⟩
          · omega
          · rw [hfn]
            refine forget_of [] (by repeat' (first | exact ks_nil | (refine ks_cons rfl (by exact SubA.refl _) ?_))) (by repeat' (first | exact trivial | exact rfl | exact kb_d rfl | refine And.intro ?_ ?_)) rfl (by repeat' (first | exact trivial | exact insB_map _ | exact inB_px rfl | refine And.intro ?_ ?_)) (by repeat' (first | exact trivial | exact insB_map _ | exact inB_px rfl | refine And.intro ?_ ?_))
          · rcases (by omega : j < k ∨ j = k) with h1 | rfl
            · exact hall j c h1 hc hf
            · rw [hcc] at hc
              injection hc with hc
              subst hc
              exact hkk
      | false =>
        have hr0 : cr = [] := hco.none rfl
        subst hr0
        repeat (first | (with_reducible first | apply aw_seq | apply aw_reg | apply rp_nil | apply ae_norm | apply aw_regD | apply aw_block | apply aw_skip) | ((with_reducible apply dr_nil); (first | kernel_rfl | exact rfl)) | ((first | (with_reducible first | apply rp | apply dr) | ((with_reducible apply drG); exact rfl; exact gval_t rfl; (focus repeat' (first | exact trivial | exact fun h => h | refine And.intro ?_ ?_)); intro hgd; have hgd0 := hgd; (try simp only [decide_eq_true_eq, Bool.and_eq_true, Bool.not_eq_true', beq_iff_eq] at hgd))); first | (exact does_index_flat (d := b) (c := ⟨false, []⟩) (tyOk rfl) rfl (tyOk rfl) rfl rfl rfl rfl rfl hb4 hcc) | ((with_reducible apply does_move); (conv => lhs; whnf)) | ((with_reducible apply does_assign); (conv => lhs; whnf)) | ((with_reducible apply does_pickF); exact rfl; (first | assumption | decide); (conv => lhs; whnf)) | ((with_reducible apply does_fieldAddr); exact tyOk rfl; exact rfl; exact rfl; decide; exact rfl) | ((with_reducible apply does_load_var); exact tyOk rfl; exact rfl; exact rfl; exact rfl; exact rfl) | ((with_reducible apply does_load_elem_whole); exact tyOk rfl; exact rfl; exact rfl; assumption; exact rfl) | ((with_reducible apply does_index_sl); exact tyOk rfl; exact rfl; exact tyOk rfl; exact rfl; exact rfl; exact rfl; exact rfl; (dsimp only; simp only [List.length_map, List.length_append, List.length_cons, List.length_nil] at *; omega))) | ((with_reducible apply rp1); ((with_reducible apply does_alloc); exact tyOk rfl; exact rfl)) | ((with_reducible apply rpN); ((with_reducible apply does_store_whole); exact tyOk rfl; exact rfl; exact rfl; exact rfl; exact rfl; exact rfl)) | ((first | (with_reducible apply rpGF) | (with_reducible apply drGF)); exact rfl; exact gval_t rfl; (first | assumption | decide | exact rfl); (focus repeat' (first | exact trivial | exact fun h => h | refine And.intro ?_ ?_))))
        refine aw_cond rfl (fun hd => absurd hd (by decide)) (fun hd => ?_)
        clear hd
        repeat (first | (with_reducible first | apply aw_seq | apply aw_reg | apply rp_nil | apply ae_norm | apply aw_skip) | ((first | (with_reducible apply rp) | ((with_reducible apply rpG); exact rfl; exact gval_t rfl; (focus repeat' (first | exact trivial | exact fun h => h | refine And.intro ?_ ?_)); intro hgd; have hgd0 := hgd; (try simp only [decide_eq_true_eq, Bool.and_eq_true, Bool.not_eq_true', beq_iff_eq] at hgd))); first | ((with_reducible apply does_move); (conv => lhs; whnf)) | ((with_reducible apply does_and); exact rfl; exact rfl; exact rfl; exact fun h => h) | ((with_reducible apply does_fieldAddr); exact tyOk rfl; exact rfl; exact rfl; decide; exact rfl) | ((with_reducible apply does_load_var); exact tyOk rfl; exact rfl; exact rfl; exact rfl; exact rfl) | ((with_reducible apply does_lt); exact rfl; exact rfl) | ((with_reducible apply does_not); exact rfl)))
        refine aw_cond rfl (fun hd => ?_) (fun hd => ?_)
        · have hfl : freeN b k < 0 := by simpa using hd
          clear hd
          have hfn : freeN b (k + 1) = (k : Nat) := by
            conv => lhs; unfold freeN
            rw [hgd, if_pos ⟨hfl, rfl⟩]
          repeat (first | (with_reducible first | apply aw_reg | apply rp_nil | apply ae_norm | apply be_norm) | ((with_reducible apply rp); first | ((with_reducible apply does_move); (conv => lhs; whnf)) | ((with_reducible apply does_assign); (conv => lhs; whnf)) | ((with_reducible apply does_add); exact rfl; exact rfl; omega; omega)))
          refine ⟨_, _, ?_, ?_, k + 1, by omega, rfl, fun j c hj hc hf => ?_, rfl⟩
          · omega
          · rw [hfn]
            refine forget_of [] (by repeat' (first | exact ks_nil | (refine ks_cons rfl (by exact SubA.refl _) ?_))) (by repeat' (first | exact trivial | exact rfl | exact kb_d rfl | refine And.intro ?_ ?_)) rfl (by repeat' (first | exact trivial | exact insB_map _ | exact inB_px rfl | refine And.intro ?_ ?_)) (by repeat' (first | exact trivial | exact insB_map _ | exact inB_px rfl | refine And.intro ?_ ?_))
          · rcases (by omega : j < k ∨ j = k) with h1 | rfl
            · exact hall j c h1 hc hf
            · rw [hcc] at hc
              injection hc with hc
              subst hc
              cases hf
        · have hfl : ¬ freeN b k < 0 := by simpa using hd
          clear hd
          have hfn : freeN b (k + 1) = freeN b k := by
            conv => lhs; unfold freeN
            rw [if_neg (by intro h; exact hfl h.1)]
          repeat (first | (with_reducible first | apply aw_reg | apply rp_nil | apply ae_norm | apply be_norm | apply aw_skip) | ((with_reducible apply rp); first | ((with_reducible apply does_move); (conv => lhs; whnf)) | ((with_reducible apply does_add); exact rfl; exact rfl; omega; omega)))
          refine ⟨_, _, ?_, ?_, k + 1, by omega, rfl, fun j c hj hc hf => ?_, rfl⟩
          · omega
          · rw [hfn]
            refine forget_of [] (by repeat' (first | exact ks_nil | (refine ks_cons rfl (by exact SubA.refl _) ?_))) (by repeat' (first | exact trivial | exact rfl | exact kb_d rfl | refine And.intro ?_ ?_)) rfl (by repeat' (first | exact trivial | exact insB_map _ | exact inB_px rfl | refine And.intro ?_ ?_)) (by repeat' (first | exact trivial | exact insB_map _ | exact inB_px rfl | refine And.intro ?_ ?_))
          · rcases (by omega : j < k ∨ j = k) with h1 | rfl
            · exact hall j c h1 hc hf
            · rw [hcc] at hc
              injection hc with hc
              subst hc
              cases hf
    · have hke : k = 4 := by simp at hd; omega
      clear hd
      subst hke
      rw [if_neg (by
        unfold twiceB
        rw [List.any_eq_true]
        rintro ⟨c, hm, hp⟩
        obtain ⟨j, hj⟩ := List.getElem?_of_mem hm
        have hjl := (List.getElem?_eq_some_iff.1 hj).1
        simp only [Bool.and_eq_true, decide_eq_true_eq] at hp
        exact hall j c (by omega) hj hp.1 hp.2)]
      clear hall
      rcases freeN_lt b 4 with hfr | ⟨n, hn4, hfr⟩
      · rw [if_pos hfr]
        repeat (first | (with_reducible first | apply aw_seq | apply aw_reg | apply rp_nil | apply ae_norm | apply aw_exit | apply ae_exit | apply be_exit) | ((with_reducible apply rp); first | ((with_reducible apply does_move); (conv => lhs; whnf)) | ((with_reducible apply does_lt); exact rfl; exact rfl)))
        refine aw_cond rfl (fun hd => ?_) (fun hd => ?_)
        · clear hd
          repeat (first | (with_reducible first | apply aw_seq | apply aw_reg | apply rp_nil | apply ae_norm | apply aw_ret | apply ae_ret | apply re_ret) | ((with_reducible apply rp); first | ((with_reducible apply does_assign); (conv => lhs; whnf)) | ((with_reducible apply does_zeroS); exact tyOk rfl; exact rfl; exact rfl)) | ((with_reducible apply rpN); ((with_reducible apply does_store_whole); exact tyOk rfl; exact rfl; exact rfl; exact rfl; exact rfl; exact rfl)))
          (with_reducible apply ret_ok); (focus (repeat' (first | (with_reducible apply rv_nil) | (with_reducible apply rv_cons) | ((with_reducible apply rv_tmp); exact rfl) | ((with_reducible apply rv_rowd); exact rfl; exact rfl; exact tyOk rfl; exact rfl; exact rfl)))); exact rfl; refine SubD.of_eq ?_
          rfl
        · exfalso
          simp at hd
          omega
      · rw [if_neg (by omega), hfr]
        clear hfr
        rw [Int.toNat_natCast]
        obtain ⟨a0, a1, a2, a3, rfl⟩ := four_of ha4
        obtain ⟨b0, b1, b2, b3, rfl⟩ := four_of hb4
        rcases (by omega : n = 0 ∨ n = 1 ∨ n = 2 ∨ n = 3) with rfl | rfl | rfl | rfl
        · repeat (first | (with_reducible first | apply aw_seq | apply aw_reg | apply rp_nil | apply ae_norm | apply aw_regD | apply aw_exit | apply ae_exit | apply be_exit | apply aw_ret | apply re_ret | apply aw_skip) | ((with_reducible apply dr_nil); (first | kernel_rfl | exact rfl)) | ((with_reducible first | apply rp | apply dr); first | ((with_reducible apply does_call'); exact rfl; exact rfl; exact rfl; exact (t1)) | ((with_reducible apply does_move); (conv => lhs; whnf)) | ((with_reducible apply does_assign); (conv => lhs; whnf)) | ((with_reducible apply does_fieldAddr); exact tyOk rfl; exact rfl; exact rfl; decide; exact rfl) | ((with_reducible apply does_load_row); exact tyOk rfl; exact rfl; exact rfl; exact rfl; exact Nat.le_of_ble_eq_true rfl; exact rfl) | ((with_reducible apply does_index_arr); exact tyOk rfl; exact rfl; exact rfl; exact rfl; (first | omega | (dsimp only; omega)); decide; exact rfl) | ((with_reducible apply does_lt); exact rfl; exact rfl) | ((with_reducible apply does_build); exact tyOk rfl; exact rfl; exact rfl; (focus repeat' (first | exact rfl | refine ⟨_, _, rfl, rfl, Nat.le_of_ble_eq_true rfl, rfl, ?_⟩)); exact rfl)) | ((with_reducible first | apply rpN | apply drN); first | ((with_reducible apply does_store_whole); exact tyOk rfl; exact rfl; exact rfl; exact rfl; exact rfl; exact rfl) | ((with_reducible apply does_store_rowD); exact tyOk rfl; exact rfl; exact rfl; exact rfl; exact rfl; exact Nat.le_of_ble_eq_true rfl)) | ((with_reducible apply aw_cond); exact rfl; (focus (intro hd; (cases hd; done))); (intro hd; clear hd)))
          (with_reducible apply ret_ok); (focus (repeat' (first | (with_reducible apply rv_nil) | (with_reducible apply rv_cons) | ((with_reducible apply rv_tmp); exact rfl) | ((with_reducible apply rv_rowd); exact rfl; exact rfl; exact tyOk rfl; exact rfl; exact rfl)))); exact rfl; refine SubD.of_eq ?_
          rfl
        · repeat (first | (with_reducible first | apply aw_seq | apply aw_reg | apply rp_nil | apply ae_norm | apply aw_regD | apply aw_exit | apply ae_exit | apply be_exit | apply aw_ret | apply re_ret | apply aw_skip) | ((with_reducible apply dr_nil); (first | kernel_rfl | exact rfl)) | ((with_reducible first | apply rp | apply dr); first | ((with_reducible apply does_call'); exact rfl; exact rfl; exact rfl; exact (t1)) | ((with_reducible apply does_move); (conv => lhs; whnf)) | ((with_reducible apply does_assign); (conv => lhs; whnf)) | ((with_reducible apply does_fieldAddr); exact tyOk rfl; exact rfl; exact rfl; decide; exact rfl) | ((with_reducible apply does_load_row); exact tyOk rfl; exact rfl; exact rfl; exact rfl; exact Nat.le_of_ble_eq_true rfl; exact rfl) | ((with_reducible apply does_index_arr); exact tyOk rfl; exact rfl; exact rfl; exact rfl; (first | omega | (dsimp only; omega)); decide; exact rfl) | ((with_reducible apply does_lt); exact rfl; exact rfl) | ((with_reducible apply does_build); exact tyOk rfl; exact rfl; exact rfl; (focus repeat' (first | exact rfl | refine ⟨_, _, rfl, rfl, Nat.le_of_ble_eq_true rfl, rfl, ?_⟩)); exact rfl)) | ((with_reducible first | apply rpN | apply drN); first | ((with_reducible apply does_store_whole); exact tyOk rfl; exact rfl; exact rfl; exact rfl; exact rfl; exact rfl) | ((with_reducible apply does_store_rowD); exact tyOk rfl; exact rfl; exact rfl; exact rfl; exact rfl; exact Nat.le_of_ble_eq_true rfl)) | ((with_reducible apply aw_cond); exact rfl; (focus (intro hd; (cases hd; done))); (intro hd; clear hd)))
          (with_reducible apply ret_ok); (focus (repeat' (first | (with_reducible apply rv_nil) | (with_reducible apply rv_cons) | ((with_reducible apply rv_tmp); exact rfl) | ((with_reducible apply rv_rowd); exact rfl; exact rfl; exact tyOk rfl; exact rfl; exact rfl)))); exact rfl; refine SubD.of_eq ?_
          rfl
        · repeat (first | (with_reducible first | apply aw_seq | apply aw_reg | apply rp_nil | apply ae_norm | apply aw_regD | apply aw_exit | apply ae_exit | apply be_exit | apply aw_ret | apply re_ret | apply aw_skip) | ((with_reducible apply dr_nil); (first | kernel_rfl | exact rfl)) | ((with_reducible first | apply rp | apply dr); first | ((with_reducible apply does_call'); exact rfl; exact rfl; exact rfl; exact (t1)) | ((with_reducible apply does_move); (conv => lhs; whnf)) | ((with_reducible apply does_assign); (conv => lhs; whnf)) | ((with_reducible apply does_fieldAddr); exact tyOk rfl; exact rfl; exact rfl; decide; exact rfl) | ((with_reducible apply does_load_row); exact tyOk rfl; exact rfl; exact rfl; exact rfl; exact Nat.le_of_ble_eq_true rfl; exact rfl) | ((with_reducible apply does_index_arr); exact tyOk rfl; exact rfl; exact rfl; exact rfl; (first | omega | (dsimp only; omega)); decide; exact rfl) | ((with_reducible apply does_lt); exact rfl; exact rfl) | ((with_reducible apply does_build); exact tyOk rfl; exact rfl; exact rfl; (focus repeat' (first | exact rfl | refine ⟨_, _, rfl, rfl, Nat.le_of_ble_eq_true rfl, rfl, ?_⟩)); exact rfl)) | ((with_reducible first | apply rpN | apply drN); first | ((with_reducible apply does_store_whole); exact tyOk rfl; exact rfl; exact rfl; exact rfl; exact rfl; exact rfl) | ((with_reducible apply does_store_rowD); exact tyOk rfl; exact rfl; exact rfl; exact rfl; exact rfl; exact Nat.le_of_ble_eq_true rfl)) | ((with_reducible apply aw_cond); exact rfl; (focus (intro hd; (cases hd; done))); (intro hd; clear hd)))
          (with_reducible apply ret_ok); (focus (repeat' (first | (with_reducible apply rv_nil) | (with_reducible apply rv_cons) | ((with_reducible apply rv_tmp); exact rfl) | ((with_reducible apply rv_rowd); exact rfl; exact rfl; exact tyOk rfl; exact rfl; exact rfl)))); exact rfl; refine SubD.of_eq ?_
          rfl
        · repeat (first | (with_reducible first | apply aw_seq | apply aw_reg | apply rp_nil | apply ae_norm | apply aw_regD | apply aw_exit | apply ae_exit | apply be_exit | apply aw_ret | apply re_ret | apply aw_skip) | ((with_reducible apply dr_nil); (first | kernel_rfl | exact rfl)) | ((with_reducible first | apply rp | apply dr); first | ((with_reducible apply does_call'); exact rfl; exact rfl; exact rfl; exact (t1)) | ((with_reducible apply does_move); (conv => lhs; whnf)) | ((with_reducible apply does_assign); (conv => lhs; whnf)) | ((with_reducible apply does_fieldAddr); exact tyOk rfl; exact rfl; exact rfl; decide; exact rfl) | ((with_reducible apply does_load_row); exact tyOk rfl; exact rfl; exact rfl; exact rfl; exact Nat.le_of_ble_eq_true rfl; exact rfl) | ((with_reducible apply does_index_arr); exact tyOk rfl; exact rfl; exact rfl; exact rfl; (first | omega | (dsimp only; omega)); decide; exact rfl) | ((with_reducible apply does_lt); exact rfl; exact rfl) | ((with_reducible apply does_build); exact tyOk rfl; exact rfl; exact rfl; (focus repeat' (first | exact rfl | refine ⟨_, _, rfl, rfl, Nat.le_of_ble_eq_true rfl, rfl, ?_⟩)); exact rfl)) | ((with_reducible first | apply rpN | apply drN); first | ((with_reducible apply does_store_whole); exact tyOk rfl; exact rfl; exact rfl; exact rfl; exact rfl; exact rfl) | ((with_reducible apply does_store_rowD); exact tyOk rfl; exact rfl; exact rfl; exact rfl; exact rfl; exact Nat.le_of_ble_eq_true rfl)) | ((with_reducible apply aw_cond); exact rfl; (focus (intro hd; (cases hd; done))); (intro hd; clear hd)))
          (with_reducible apply ret_ok); (focus (repeat' (first | (with_reducible apply rv_nil) | (with_reducible apply rv_cons) | ((with_reducible apply rv_tmp); exact rfl) | ((with_reducible apply rv_rowd); exact rfl; exact rfl; exact tyOk rfl; exact rfl; exact rfl)))); exact rfl; refine SubD.of_eq ?_
          rfl
end Go.Proofs.YtpaccaojgbfjdaaDoor

