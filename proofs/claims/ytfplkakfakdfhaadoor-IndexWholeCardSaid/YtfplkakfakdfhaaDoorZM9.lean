/-
  chirographkeep's heap of raw things: row, as a row of one's own. No condition but the sizes.
-/
import Derived.Test.YtfplkakfakdfhaaDoorZM8
import Derived.Test.YtfplkakfakdfhaaDoorZG
namespace Go.Proofs.YtfplkakfakdfhaaDoor
set_option linter.unusedSimpArgs false
set_option linter.unusedVariables false
open Go.RowKit

set_option maxHeartbeats 2000000 in
theorem row_pg (l : List Raw) (n : Nat) (cols : List Cl) (hl5 : cols.length ≤ 5) (hk4 : ∀ c ∈ cols, c.kind ≤ 4) (key : Int) (hn : n ≤ 1000000) : PG Tryd.prog 12 [.px 1000 0, .d (iD key)] [hpB l n cols] [] (.ow 2000 cols.length) [hpB l (n + cols.length) cols] [(2000, .row 30 4 ((rowF l n key 0 cols).map Vl.cs))] := by
  unfold hpB
  refine ph_of_aw Tryd.func12 rfl (by kernel_rfl) mixed (by kernel_rfl) (by rw [Tryd.ntmps12]; exact Nat.le_of_ble_eq_true rfl) Tryd.results12 rfl ?_
  repeat (first | (with_reducible first | apply aw_seq | apply aw_reg | apply rp_nil | apply ae_norm | apply aw_block) | ((with_reducible apply rp); first | ((with_reducible apply does_move); (conv => lhs; whnf)) | ((with_reducible apply does_assign); (conv => lhs; whnf)) | ((with_reducible apply does_fieldAddr); exact tyOk rfl; exact rfl; exact rfl; decide; exact rfl) | ((with_reducible apply does_load_var); exact tyOk rfl; exact rfl; exact rfl; exact rfl; exact rfl) | ((with_reducible apply does_len_map); exact tyOk rfl; exact rfl; exact rfl) | ((with_reducible apply does_nilCheck); exact rfl)))
  refine aw_loop (fun m s => ∃ k, k ≤ cols.length ∧ m = cols.length - k ∧ s = ⟨[(0, .px 1000 0), (1, .d (iD key)), (5, .ow 2000 k), (12, .d (colsD cols)), (13, .d (iD cols.length)), (14, .d (iD k))], [(1000, .var 40 [.d (rawsD l), .d (iD (n + k : Nat)), .d (colsD cols)]), (2000, .row 30 4 ((rowF l n key 0 (cols.take k)).map Vl.cs))]⟩) _ _ ?_ ⟨0, by omega, rfl, rfl⟩ ?_
  · refine Ent.trans (ent_nil 5 2000 30 4 rfl rfl) ?_
    refine forget_of [] (by repeat' (first | exact ks_nil | (refine ks_cons rfl (by exact SubA.refl _) ?_))) (by repeat' (first | exact trivial | exact rfl | refine And.intro ?_ ?_)) rfl (by repeat' (first | exact trivial | exact inB_ow rfl | exact inB_px rfl | refine And.intro ?_ ?_)) (by repeat' (first | exact trivial | exact inB_ow rfl | exact inB_px rfl | refine And.intro ?_ ?_))
  · rintro m s ⟨k, hk, rfl, rfl⟩
    repeat (first | (with_reducible first | apply aw_seq | apply aw_reg | apply rp_nil | apply ae_norm) | ((with_reducible apply rp); ((with_reducible apply does_lt); exact rfl; exact rfl)))
    refine aw_cond rfl (fun hd => ?_) (fun hd => ?_)
    · have hlt : k < cols.length := by simp at hd; omega
      clear hd
      obtain ⟨c, hcc⟩ : ∃ c, cols[k]? = some c := ⟨_, List.getElem?_eq_getElem hlt⟩
      have hc2 : (cols.map Cl.cs)[k]? = some c.cs := by rw [List.getElem?_map, hcc]; rfl
      have h4 := hk4 c (List.mem_of_getElem? hcc)
      have n1 := next_px l (n + k) cols (by omega)
      have e1 : (rowF l n key 0 (cols.take (k + 1))).map Vl.cs = (rowF l n key 0 (cols.take k)).map Vl.cs ++ [(cellF key k c (nextF l (n + k))).cs] := by rw [rowF_take l n key hcc, List.map_append]; rfl
      have l1 : ((rowF l n key 0 (cols.take k)).map Vl.cs).length = k := by rw [List.length_map, rowF_len, List.length_take]; omega
      generalize (rowF l n key 0 (cols.take k)).map Vl.cs = o at *
      unfold hpB at n1
      generalize nextF l (n + k) = r at *
      obtain ⟨_, _, v1⟩ := voF_ok h4 r
      have p4 := picked_pc r.b 4 (by omega) (by omega)
      have p40 := picked_pc r.a 40 (by omega) (by omega)
      unfold cellF at e1
      by_cases h0 : k = 0
      · rw [if_pos h0] at e1
        have hk0 : ((k : Int) == 0) = true := by rw [h0]; rfl
        clear v1 p4 p40
        obtain ⟨rk, ra, rb, rt⟩ := r
        obtain ⟨cn, ck, cb⟩ := c
        unfold Raw.cs Cl.cs at *
        dsimp only at *
        repeat (first | (with_reducible first | apply aw_seq | apply aw_reg | apply rp_nil | apply ae_norm | apply aw_block | apply aw_skip) | ((with_reducible apply rp); first | ((with_reducible apply does_move); (conv => lhs; whnf)) | ((with_reducible apply does_assign); (conv => lhs; whnf)) | ((with_reducible apply does_load_elem_whole); exact tyOk rfl; exact rfl; exact rfl; assumption; exact rfl) | ((with_reducible apply does_index_sl); exact tyOk rfl; exact rfl; exact tyOk rfl; exact rfl; exact rfl; exact rfl; exact rfl; (simp only [List.length_map, List.length_append, List.length_cons, List.length_nil] at *; omega)) | ((with_reducible apply does_eq); exact rfl; exact rfl)) | ((with_reducible apply rp1); ((with_reducible apply does_alloc); exact tyOk rfl; exact rfl)) | ((with_reducible apply rpN); ((with_reducible apply does_store_whole); exact tyOk rfl; exact rfl; exact rfl; exact rfl; exact rfl; exact rfl)) | ((with_reducible apply rpL); (refine does_callX [] [] (ups := [(1000, .var 40 [.d (rawsD l), .d (iD (n + k + 1 : Nat)), .d (colsD cols)])]) rfl (n1) rfl ?_ rfl ?_ ?_ rfl rfl rfl rfl rfl ?_ rfl rfl; (focus repeat' (first | exact trivial | exact rfl | refine And.intro ?_ ?_)); (focus repeat' (first | exact trivial | exact inB_px rfl | refine And.intro ?_ ?_)); (focus repeat' (first | exact trivial | exact inB_px rfl | refine And.intro ?_ ?_)); (focus repeat' (first | exact trivial | exact inB_px rfl | refine And.intro ?_ ?_))); exact lapp_nil _))
        refine aw_cond rfl (fun _ => ?_) (fun hd => absurd (hk0.symm.trans hd) (by decide))
        repeat (first | (with_reducible first | apply aw_reg | apply rp_nil | apply ae_norm | apply be_norm) | ((with_reducible apply rp); first | ((with_reducible apply does_move); (conv => lhs; whnf)) | ((with_reducible apply does_assign); (conv => lhs; whnf)) | ((with_reducible apply does_add); exact rfl; exact rfl; omega; omega) | ((with_reducible apply does_build); exact tyOk rfl; exact rfl; exact rfl; (focus repeat' (first | exact rfl | refine ⟨_, _, rfl, rfl, Nat.le_of_ble_eq_true rfl, rfl, ?_⟩)); exact rfl)) | ((with_reducible apply rp1); ((with_reducible apply does_buildSlice); exact tyOk rfl; exact rfl; exact tyOk rfl; exact rfl; exact rfl; (focus repeat' (first | exact trivial | refine And.intro rfl (And.intro rfl ?_))); decide; decide; exact rfl)) | ((with_reducible apply rp2); ((with_reducible apply does_append_own); exact tyOk rfl; exact rfl; exact tyOk rfl; exact rfl; exact rfl; exact rfl; decide; (first | (dsimp only; simp only [List.length_map, List.length_append, List.length_cons, List.length_nil] at *; omega) | (simp only [List.length_map, List.length_append, List.length_cons, List.length_nil] at *; omega)); (first | (dsimp only; simp only [List.length_map, List.length_append, List.length_cons, List.length_nil] at *; omega) | (simp only [List.length_map, List.length_append, List.length_cons, List.length_nil] at *; omega)); exact rfl)))
        refine ⟨_, _, ?_, ?_, k + 1, by omega, rfl, rfl⟩
        · omega
        · rw [e1]
          refine forget_of [(2000, 35)] (by repeat' (first | exact ks_nil | (refine ks_cons rfl (by (first | exact SubA.refl _ | exact subA_ow (by (simp; omega)))) ?_))) ?_ rfl (by repeat' (first | exact trivial | exact inB_ow rfl | exact inB_px rfl | refine And.intro ?_ ?_)) (by repeat' (first | exact trivial | exact inB_ow rfl | exact inB_px rfl | refine And.intro ?_ ?_))
          exact kb_cons rfl rfl (kb_cons rfl (row_eq rfl) kb_nil)
      · rw [if_neg h0] at e1
        have hk0 : ((k : Int) == 0) = false := beq_eq_false_iff_ne.2 (by omega)
        by_cases hn : c.null = true ∧ r.b % 4 = 0
        · rw [if_pos hn] at e1
          have hq : (c.null && (r.b % ((4 : Nat) : Int) == 0)) = true := by
            rw [Bool.and_eq_true, beq_iff_eq]; exact ⟨hn.1, hn.2⟩
          clear v1 p40 hn
          obtain ⟨rk, ra, rb, rt⟩ := r
          obtain ⟨cn, ck, cb⟩ := c
          unfold Raw.cs Cl.cs at *
          dsimp only at *
          repeat (first | (with_reducible first | apply aw_seq | apply aw_reg | apply rp_nil | apply ae_norm | apply aw_block | apply aw_skip) | ((with_reducible apply rp); first | ((with_reducible apply does_move); (conv => lhs; whnf)) | ((with_reducible apply does_assign); (conv => lhs; whnf)) | ((with_reducible apply does_load_elem_whole); exact tyOk rfl; exact rfl; exact rfl; assumption; exact rfl) | ((with_reducible apply does_index_sl); exact tyOk rfl; exact rfl; exact tyOk rfl; exact rfl; exact rfl; exact rfl; exact rfl; (simp only [List.length_map, List.length_append, List.length_cons, List.length_nil] at *; omega)) | ((with_reducible apply does_eq); exact rfl; exact rfl)) | ((with_reducible apply rp1); ((with_reducible apply does_alloc); exact tyOk rfl; exact rfl)) | ((with_reducible apply rpN); ((with_reducible apply does_store_whole); exact tyOk rfl; exact rfl; exact rfl; exact rfl; exact rfl; exact rfl)) | ((with_reducible apply rpL); (refine does_callX [] [] (ups := [(1000, .var 40 [.d (rawsD l), .d (iD (n + k + 1 : Nat)), .d (colsD cols)])]) rfl (n1) rfl ?_ rfl ?_ ?_ rfl rfl rfl rfl rfl ?_ rfl rfl; (focus repeat' (first | exact trivial | exact rfl | refine And.intro ?_ ?_)); (focus repeat' (first | exact trivial | exact inB_px rfl | refine And.intro ?_ ?_)); (focus repeat' (first | exact trivial | exact inB_px rfl | refine And.intro ?_ ?_)); (focus repeat' (first | exact trivial | exact inB_px rfl | refine And.intro ?_ ?_))); exact lapp_nil _))
          refine aw_cond rfl (fun hd => absurd (hk0.symm.trans hd) (by decide)) (fun hd => ?_)
          clear hd
          repeat (first | (with_reducible first | apply aw_seq | apply aw_reg | apply rp_nil | apply ae_norm) | ((first | (with_reducible apply rp) | ((with_reducible apply rpG); exact rfl; exact gval_t rfl; (focus repeat' (first | exact trivial | exact fun h => h | refine And.intro ?_ ?_)); intro hgd; have hgd0 := hgd; (try simp only [decide_eq_true_eq, Bool.and_eq_true, Bool.not_eq_true', beq_iff_eq] at hgd))); first | ((with_reducible apply does_call_flat); exact rfl; exact rfl; exact (p4); exact rfl) | ((with_reducible apply does_move); (conv => lhs; whnf)) | ((with_reducible apply does_assign); (conv => lhs; whnf)) | ((with_reducible apply does_and); exact rfl; exact rfl; exact rfl; exact fun h => h) | ((with_reducible apply does_fieldAddr); exact tyOk rfl; exact rfl; exact rfl; decide; exact rfl) | ((with_reducible apply does_load_var); exact tyOk rfl; exact rfl; exact rfl; exact rfl; exact rfl) | ((with_reducible apply does_eq); exact rfl; exact rfl)))
          refine aw_cond rfl (fun _ => ?_) (fun hd => absurd (hq.symm.trans hd) (by decide))
          repeat (first | (with_reducible first | apply aw_reg | apply rp_nil | apply ae_norm | apply be_norm) | ((with_reducible apply rp); first | ((with_reducible apply does_move); (conv => lhs; whnf)) | ((with_reducible apply does_assign); (conv => lhs; whnf)) | ((with_reducible apply does_add); exact rfl; exact rfl; omega; omega) | ((with_reducible apply does_zeroS); exact tyOk rfl; exact rfl; exact rfl)) | ((with_reducible apply rp1); ((with_reducible apply does_buildSlice); exact tyOk rfl; exact rfl; exact tyOk rfl; exact rfl; exact rfl; (focus repeat' (first | exact trivial | refine And.intro rfl (And.intro rfl ?_))); decide; decide; exact rfl)) | ((with_reducible apply rp2); ((with_reducible apply does_append_own); exact tyOk rfl; exact rfl; exact tyOk rfl; exact rfl; exact rfl; exact rfl; decide; (dsimp only; simp only [List.length_map, List.length_append, List.length_cons, List.length_nil] at *; omega); (dsimp only; simp only [List.length_map, List.length_append, List.length_cons, List.length_nil] at *; omega); exact rfl)))
          refine ⟨_, _, ?_, ?_, k + 1, by omega, rfl, rfl⟩
          · omega
          · rw [e1]
            refine forget_of [(2000, 48)] (by repeat' (first | exact ks_nil | (refine ks_cons rfl (by (first | exact SubA.refl _ | exact subA_ow (by (simp; omega)))) ?_))) ?_ rfl (by repeat' (first | exact trivial | exact inB_ow rfl | exact inB_px rfl | refine And.intro ?_ ?_)) (by repeat' (first | exact trivial | exact inB_ow rfl | exact inB_px rfl | refine And.intro ?_ ?_))
            exact kb_cons rfl rfl (kb_cons rfl (row_eq rfl) kb_nil)
        · rw [if_neg hn] at e1
          have hq : (c.null && (r.b % ((4 : Nat) : Int) == 0)) = false := by
            rw [Bool.and_eq_false_iff]
            by_cases hb : c.null = true
            · exact .inr (beq_eq_false_iff_ne.2 fun h => hn ⟨hb, h⟩)
            · exact .inl (eq_false_of_ne_true hb)
          clear hn
          by_cases hk2 : c.kind = 2
          · rw [if_pos hk2] at e1
            have hq2 : ((c.kind : Int) == 2) = true := by rw [hk2]; rfl
            obtain ⟨u, hu⟩ : ∃ u : Nat, r.a % ((40 : Nat) : Int) = u := ⟨(r.a % 40).toNat, by omega⟩
            have hu2 : r.a % 40 - 10 = (u : Int) - 10 := by have : r.a % 40 = (u : Int) := hu; omega
            have hu3 : u < 40 := by omega
            rw [hu] at p40
            rw [hu2] at e1
            clear v1
            obtain ⟨rk, ra, rb, rt⟩ := r
            obtain ⟨cn, ck, cb⟩ := c
            unfold Raw.cs Cl.cs at *
            dsimp only at *
            repeat (first | (with_reducible first | apply aw_seq | apply aw_reg | apply rp_nil | apply ae_norm | apply aw_block | apply aw_skip) | ((with_reducible apply rp); first | ((with_reducible apply does_move); (conv => lhs; whnf)) | ((with_reducible apply does_assign); (conv => lhs; whnf)) | ((with_reducible apply does_load_elem_whole); exact tyOk rfl; exact rfl; exact rfl; assumption; exact rfl) | ((with_reducible apply does_index_sl); exact tyOk rfl; exact rfl; exact tyOk rfl; exact rfl; exact rfl; exact rfl; exact rfl; (simp only [List.length_map, List.length_append, List.length_cons, List.length_nil] at *; omega)) | ((with_reducible apply does_eq); exact rfl; exact rfl)) | ((with_reducible apply rp1); ((with_reducible apply does_alloc); exact tyOk rfl; exact rfl)) | ((with_reducible apply rpN); ((with_reducible apply does_store_whole); exact tyOk rfl; exact rfl; exact rfl; exact rfl; exact rfl; exact rfl)) | ((with_reducible apply rpL); (refine does_callX [] [] (ups := [(1000, .var 40 [.d (rawsD l), .d (iD (n + k + 1 : Nat)), .d (colsD cols)])]) rfl (n1) rfl ?_ rfl ?_ ?_ rfl rfl rfl rfl rfl ?_ rfl rfl; (focus repeat' (first | exact trivial | exact rfl | refine And.intro ?_ ?_)); (focus repeat' (first | exact trivial | exact inB_px rfl | refine And.intro ?_ ?_)); (focus repeat' (first | exact trivial | exact inB_px rfl | refine And.intro ?_ ?_)); (focus repeat' (first | exact trivial | exact inB_px rfl | refine And.intro ?_ ?_))); exact lapp_nil _))
            refine aw_cond rfl (fun hd => absurd (hk0.symm.trans hd) (by decide)) (fun hd => ?_)
            clear hd
            repeat (first | (with_reducible first | apply aw_seq | apply aw_reg | apply rp_nil | apply ae_norm) | ((first | (with_reducible apply rp) | ((with_reducible apply rpG); exact rfl; exact gval_t rfl; (focus repeat' (first | exact trivial | exact fun h => h | refine And.intro ?_ ?_)); intro hgd; have hgd0 := hgd; (try simp only [decide_eq_true_eq, Bool.and_eq_true, Bool.not_eq_true', beq_iff_eq] at hgd))); first | ((with_reducible apply does_call_flat); exact rfl; exact rfl; exact (p4); exact rfl) | ((with_reducible apply does_move); (conv => lhs; whnf)) | ((with_reducible apply does_assign); (conv => lhs; whnf)) | ((with_reducible apply does_and); exact rfl; exact rfl; exact rfl; exact fun h => h) | ((with_reducible apply does_fieldAddr); exact tyOk rfl; exact rfl; exact rfl; decide; exact rfl) | ((with_reducible apply does_load_var); exact tyOk rfl; exact rfl; exact rfl; exact rfl; exact rfl) | ((with_reducible apply does_eq); exact rfl; exact rfl)))
            refine aw_cond rfl (fun hd => absurd (hq.symm.trans hd) (by decide)) (fun hd => ?_)
            clear hd
            repeat (first | (with_reducible first | apply aw_seq | apply aw_reg | apply rp_nil | apply ae_norm) | ((with_reducible apply rp); first | ((with_reducible apply does_assign); (conv => lhs; whnf)) | ((with_reducible apply does_fieldAddr); exact tyOk rfl; exact rfl; exact rfl; decide; exact rfl) | ((with_reducible apply does_load_var); exact tyOk rfl; exact rfl; exact rfl; exact rfl; exact rfl) | ((with_reducible apply does_eq); exact rfl; exact rfl)))
            refine aw_cond rfl (fun _ => ?_) (fun hd => absurd (hq2.symm.trans hd) (by decide))
            repeat (first | (with_reducible first | apply aw_reg | apply rp_nil | apply ae_norm | apply be_norm) | ((with_reducible apply rp); first | ((with_reducible apply does_call_flat); exact rfl; exact rfl; exact (p40); exact rfl) | ((with_reducible apply does_move); (conv => lhs; whnf)) | ((with_reducible apply does_assign); (conv => lhs; whnf)) | ((with_reducible apply does_fieldAddr); exact tyOk rfl; exact rfl; exact rfl; decide; exact rfl) | ((with_reducible apply does_load_var); exact tyOk rfl; exact rfl; exact rfl; exact rfl; exact rfl) | ((with_reducible apply does_add); exact rfl; exact rfl; omega; omega) | ((with_reducible apply does_sub); exact rfl; exact rfl; omega; omega) | ((with_reducible apply does_build); exact tyOk rfl; exact rfl; exact rfl; (focus repeat' (first | exact rfl | refine ⟨_, _, rfl, rfl, Nat.le_of_ble_eq_true rfl, rfl, ?_⟩)); exact rfl)) | ((with_reducible apply rp1); ((with_reducible apply does_buildSlice); exact tyOk rfl; exact rfl; exact tyOk rfl; exact rfl; exact rfl; (focus repeat' (first | exact trivial | refine And.intro rfl (And.intro rfl ?_))); decide; decide; exact rfl)) | ((with_reducible apply rp2); ((with_reducible apply does_append_own); exact tyOk rfl; exact rfl; exact tyOk rfl; exact rfl; exact rfl; exact rfl; decide; (first | (dsimp only; simp only [List.length_map, List.length_append, List.length_cons, List.length_nil] at *; omega) | (simp only [List.length_map, List.length_append, List.length_cons, List.length_nil] at *; omega)); (first | (dsimp only; simp only [List.length_map, List.length_append, List.length_cons, List.length_nil] at *; omega) | (simp only [List.length_map, List.length_append, List.length_cons, List.length_nil] at *; omega)); exact rfl)))
            refine ⟨_, _, ?_, ?_, k + 1, by omega, rfl, rfl⟩
            · omega
            · rw [e1]
              refine forget_of [(2000, 60)] (by repeat' (first | exact ks_nil | (refine ks_cons rfl (by (first | exact SubA.refl _ | exact subA_ow (by (simp; omega)))) ?_))) ?_ rfl (by repeat' (first | exact trivial | exact inB_ow rfl | exact inB_px rfl | refine And.intro ?_ ?_)) (by repeat' (first | exact trivial | exact inB_ow rfl | exact inB_px rfl | refine And.intro ?_ ?_))
              exact kb_cons rfl rfl (kb_cons rfl (row_eq rfl) kb_nil)
          · rw [if_neg hk2] at e1
            have hq2 : ((c.kind : Int) == 2) = false := beq_eq_false_iff_ne.2 (by omega)
            generalize voF c.kind r = v at *
            obtain ⟨vk, vn, vb, vt⟩ := v
            obtain ⟨rk, ra, rb, rt⟩ := r
            obtain ⟨cn, ck, cb⟩ := c
            unfold Raw.cs Cl.cs Vl.cs at *
            dsimp only at *
            repeat (first | (with_reducible first | apply aw_seq | apply aw_reg | apply rp_nil | apply ae_norm | apply aw_block | apply aw_skip) | ((with_reducible apply rp); first | ((with_reducible apply does_move); (conv => lhs; whnf)) | ((with_reducible apply does_assign); (conv => lhs; whnf)) | ((with_reducible apply does_load_elem_whole); exact tyOk rfl; exact rfl; exact rfl; assumption; exact rfl) | ((with_reducible apply does_index_sl); exact tyOk rfl; exact rfl; exact tyOk rfl; exact rfl; exact rfl; exact rfl; exact rfl; (simp only [List.length_map, List.length_append, List.length_cons, List.length_nil] at *; omega)) | ((with_reducible apply does_eq); exact rfl; exact rfl)) | ((with_reducible apply rp1); ((with_reducible apply does_alloc); exact tyOk rfl; exact rfl)) | ((with_reducible apply rpN); ((with_reducible apply does_store_whole); exact tyOk rfl; exact rfl; exact rfl; exact rfl; exact rfl; exact rfl)) | ((with_reducible apply rpL); (refine does_callX [] [] (ups := [(1000, .var 40 [.d (rawsD l), .d (iD (n + k + 1 : Nat)), .d (colsD cols)])]) rfl (n1) rfl ?_ rfl ?_ ?_ rfl rfl rfl rfl rfl ?_ rfl rfl; (focus repeat' (first | exact trivial | exact rfl | refine And.intro ?_ ?_)); (focus repeat' (first | exact trivial | exact inB_px rfl | refine And.intro ?_ ?_)); (focus repeat' (first | exact trivial | exact inB_px rfl | refine And.intro ?_ ?_)); (focus repeat' (first | exact trivial | exact inB_px rfl | refine And.intro ?_ ?_))); exact lapp_nil _))
            refine aw_cond rfl (fun hd => absurd (hk0.symm.trans hd) (by decide)) (fun hd => ?_)
            clear hd
            repeat (first | (with_reducible first | apply aw_seq | apply aw_reg | apply rp_nil | apply ae_norm) | ((first | (with_reducible apply rp) | ((with_reducible apply rpG); exact rfl; exact gval_t rfl; (focus repeat' (first | exact trivial | exact fun h => h | refine And.intro ?_ ?_)); intro hgd; have hgd0 := hgd; (try simp only [decide_eq_true_eq, Bool.and_eq_true, Bool.not_eq_true', beq_iff_eq] at hgd))); first | ((with_reducible apply does_call_flat); exact rfl; exact rfl; exact (p4); exact rfl) | ((with_reducible apply does_move); (conv => lhs; whnf)) | ((with_reducible apply does_assign); (conv => lhs; whnf)) | ((with_reducible apply does_and); exact rfl; exact rfl; exact rfl; exact fun h => h) | ((with_reducible apply does_fieldAddr); exact tyOk rfl; exact rfl; exact rfl; decide; exact rfl) | ((with_reducible apply does_load_var); exact tyOk rfl; exact rfl; exact rfl; exact rfl; exact rfl) | ((with_reducible apply does_eq); exact rfl; exact rfl)))
            refine aw_cond rfl (fun hd => absurd (hq.symm.trans hd) (by decide)) (fun hd => ?_)
            clear hd
            repeat (first | (with_reducible first | apply aw_seq | apply aw_reg | apply rp_nil | apply ae_norm) | ((with_reducible apply rp); first | ((with_reducible apply does_assign); (conv => lhs; whnf)) | ((with_reducible apply does_fieldAddr); exact tyOk rfl; exact rfl; exact rfl; decide; exact rfl) | ((with_reducible apply does_load_var); exact tyOk rfl; exact rfl; exact rfl; exact rfl; exact rfl) | ((with_reducible apply does_eq); exact rfl; exact rfl)))
            refine aw_cond rfl (fun hd => absurd (hq2.symm.trans hd) (by decide)) (fun hd => ?_)
            clear hd
            repeat (first | (with_reducible first | apply aw_reg | apply rp_nil | apply ae_norm | apply be_norm) | ((with_reducible apply rp); first | ((with_reducible apply does_call_flat); exact rfl; exact rfl; exact (v1); exact rfl) | ((with_reducible apply does_move); (conv => lhs; whnf)) | ((with_reducible apply does_assign); (conv => lhs; whnf)) | ((with_reducible apply does_fieldAddr); exact tyOk rfl; exact rfl; exact rfl; decide; exact rfl) | ((with_reducible apply does_load_var); exact tyOk rfl; exact rfl; exact rfl; exact rfl; exact rfl) | ((with_reducible apply does_load_row); exact tyOk rfl; exact rfl; exact rfl; exact rfl; exact Nat.le_of_ble_eq_true rfl; exact rfl) | ((with_reducible apply does_add); exact rfl; exact rfl; omega; omega)) | ((with_reducible apply rp1); ((with_reducible apply does_buildSlice); exact tyOk rfl; exact rfl; exact tyOk rfl; exact rfl; exact rfl; (focus repeat' (first | exact trivial | refine And.intro rfl (And.intro rfl ?_))); decide; decide; exact rfl)) | ((with_reducible apply rp2); ((with_reducible apply does_append_own); exact tyOk rfl; exact rfl; exact tyOk rfl; exact rfl; exact rfl; exact rfl; decide; (first | (dsimp only; simp only [List.length_map, List.length_append, List.length_cons, List.length_nil] at *; omega) | (simp only [List.length_map, List.length_append, List.length_cons, List.length_nil] at *; omega)); (first | (dsimp only; simp only [List.length_map, List.length_append, List.length_cons, List.length_nil] at *; omega) | (simp only [List.length_map, List.length_append, List.length_cons, List.length_nil] at *; omega)); exact rfl)))
            refine ⟨_, _, ?_, ?_, k + 1, by omega, rfl, rfl⟩
            · omega
            · rw [e1]
              refine forget_of [(2000, 27)] (by repeat' (first | exact ks_nil | (refine ks_cons rfl (by (first | exact SubA.refl _ | exact subA_ow (by (simp; omega)))) ?_))) ?_ rfl (by repeat' (first | exact trivial | exact inB_ow rfl | exact inB_px rfl | refine And.intro ?_ ?_)) (by repeat' (first | exact trivial | exact inB_ow rfl | exact inB_px rfl | refine And.intro ?_ ?_))
              exact kb_cons rfl rfl (kb_cons rfl (row_eq rfl) kb_nil)
    · have hke : k = cols.length := by simp at hd; omega
      clear hd
      subst hke
      rw [List.take_length]
      repeat (first | (with_reducible first | apply aw_seq | apply aw_reg | apply rp_nil | apply ae_norm | apply aw_exit | apply ae_exit | apply be_exit | apply aw_ret | apply xh_ret) | ((with_reducible apply rp); first | ((with_reducible apply does_move); (conv => lhs; whnf)) | ((with_reducible apply does_assign); (conv => lhs; whnf))))
      (with_reducible apply reth_ok (l := [])); (focus (repeat' (first | (with_reducible apply rv_nil) | (with_reducible apply rv_cons) | ((with_reducible apply rv_tmp); exact rfl)))); rotate_left; refine ⟨(by repeat' (first | exact ks_nil | (refine ks_cons rfl (by exact SubA.refl _) ?_))), (by repeat' (first | exact trivial | exact rfl | refine And.intro ?_ ?_)), rfl, (by repeat' (first | exact trivial | exact inB_px rfl | refine And.intro ?_ ?_)), (by repeat' (first | exact trivial | exact inB_px rfl | refine And.intro ?_ ?_))⟩; refine SubA.of_eq ?_
      rfl
end Go.Proofs.YtfplkakfakdfhaaDoor


/-
  The pure layer: a tree of nodes as one box. No condition.
-/
namespace Go.Proofs.YtfplkakfakdfhaaDoor
set_option linter.unusedSimpArgs false
set_option linter.unusedVariables false
open Go.RowKit

/-- A node: keys, values, kids. -/
inductive Tn where
  | node (ks : List ByteArray) (vs : List Int) (ts : List Tn)
/-- The types of a node, of its keys, values and kids. -/
structure TrTy where
  T : TypeId
  K : TypeId
  V : TypeId
  E : TypeId
def blkL (v : Value) : List Nat := (blk v).toList
mutual
def TreeRep (Q : TrTy) (w : World) : Tn → Value → List Nat → Prop
  | .node ks vs ts, p, fs => ∃ g a b c xs f0, p = .pointer (some ⟨g, 0, none⟩) ∧ w.heap[g]? = some (.cells #[a, b, c] Q.T (0, 0)) ∧ w.ownsRow 0 Q.K 1 a ks.length (ks.map .string) ∧
      w.ownsRow 0 Q.V 1 b vs.length (vs.map (.int .i64)) ∧ w.ownsRow 0 Q.E 1 c ts.length xs ∧ ForestRep Q w ts xs f0 ∧ fs = g :: (blkL a ++ (blkL b ++ (blkL c ++ f0))) ∧ fs.Nodup
def ForestRep (Q : TrTy) (w : World) : List Tn → List Value → List Nat → Prop
  | [], xs, fs => xs = [] ∧ fs = []
  | t :: ts, xs, fs => ∃ p ps f1 f2, xs = p :: ps ∧ TreeRep Q w t p f1 ∧ ForestRep Q w ts ps f2 ∧ fs = f1 ++ f2 ∧ fs.Nodup
end
theorem ownsRow_det {w : World} {base : Nat} {e : TypeId} {size n : Nat} {v : Value} {xs ys : List Value} (h : w.ownsRow base e size v n xs) (h2 : w.ownsRow base e size v n ys) : xs = ys := by
  rcases h.2 with ⟨rfl, rfl⟩ | ⟨g, cap, cur, rfl, _, a3, _, _, _, a7⟩
  · have h1 := h.1
    have h3 := h2.1
    rw [Nat.zero_mul] at h1 h3
    rw [List.length_eq_zero_iff.1 h1, List.length_eq_zero_iff.1 h3]
  · rcases h2.2 with ⟨e1, _⟩ | ⟨g', cap', cur', e1, _, b3, _, _, _, b7⟩
    · cases e1
    · injection e1 with e1 e2 e3
      injection e1 with e1
      injection e1 with e1
      subst e1
      rw [a3] at b3
      injection b3 with b3
      injection b3 with b3
      subst b3
      rw [← a7, ← b7]
mutual
theorem TreeRep.stay {Q : TrTy} {w w' : World} : ∀ (t : Tn) {p : Value} {fs : List Nat}, TreeRep Q w t p fs → (∀ g ∈ fs, w'.heap[g]? = w.heap[g]?) → TreeRep Q w' t p fs
  | .node ks vs ts, p, fs, ⟨g, a, b, c, xs, f0, h1, h2, h3, h4, h5, h6, h7, h8⟩, hs => by
    have hb : ∀ v : Value, (∀ k ∈ blkL v, k ∈ fs) → ∀ k, blk v = some k → w'.heap[k]? = w.heap[k]? := fun v hv k hk => hs k (hv k (by unfold blkL; rw [hk]; simp))
    refine ⟨g, a, b, c, xs, f0, h1, ?_, ownsRow_same h3 (hb a ?_), ownsRow_same h4 (hb b ?_), ownsRow_same h5 (hb c ?_), ForestRep.stay ts h6 (fun k hk => hs k ?_), h7, h8⟩
    · rw [hs g (by rw [h7]; simp)]; exact h2
    all_goals rw [h7]
    · intro k hk; simp [hk]
    · intro k hk; simp [hk]
    · intro k hk; simp [hk]
    · simp [hk]
theorem ForestRep.stay {Q : TrTy} {w w' : World} : ∀ (ts : List Tn) {ps : List Value} {fs : List Nat}, ForestRep Q w ts ps fs → (∀ g ∈ fs, w'.heap[g]? = w.heap[g]?) → ForestRep Q w' ts ps fs
  | [], _, _, h, _ => h
  | t :: ts, _, fs, ⟨p, ps, f1, f2, h1, h2, h3, h4, h5⟩, hs => ⟨p, ps, f1, f2, h1, TreeRep.stay t h2 (fun g hg => hs g (by rw [h4]; simp [hg])), ForestRep.stay ts h3 (fun g hg => hs g (by rw [h4]; simp [hg])), h4, h5⟩
end
mutual
theorem TreeRep.det {Q : TrTy} {w : World} : ∀ (t : Tn) {p : Value} {fs fs' : List Nat}, TreeRep Q w t p fs → TreeRep Q w t p fs' → fs = fs'
  | .node ks vs ts, p, fs, fs', ⟨g, a, b, c, xs, f0, h1, h2, h3, h4, h5, h6, h7, h8⟩, ⟨g', a', b', c', xs', f0', k1, k2, k3, k4, k5, k6, k7, k8⟩ => by
    subst h1
    injection k1 with k1
    injection k1 with k1
    injection k1 with k1
    subst k1
    rw [h2] at k2
    injection k2 with k2
    injection k2 with k2
    have k2 := congrArg Array.toList k2
    injection k2 with e1 k2
    injection k2 with e2 k2
    injection k2 with e3 k2
    subst e1 e2 e3
    have e4 := ownsRow_det h5 k5
    subst e4
    rw [h7, k7, ForestRep.det ts h6 k6]
theorem ForestRep.det {Q : TrTy} {w : World} : ∀ (ts : List Tn) {ps : List Value} {fs fs' : List Nat}, ForestRep Q w ts ps fs → ForestRep Q w ts ps fs' → fs = fs'
  | [], _, _, _, h, h' => h.2.trans h'.2.symm
  | t :: ts, _, fs, fs', ⟨p, ps, f1, f2, h1, h2, h3, h4, h5⟩, ⟨p', ps', f1', f2', k1, k2, k3, k4, k5⟩ => by
    subst h1
    injection k1 with e1 e2
    subst e1 e2
    rw [h4, k4, TreeRep.det t h2 k2, ForestRep.det ts h3 k3]
end
/-- A tree that a pointer has. -/
def treeR (Q : TrTy) (t : Tn) : Res := ⟨fun w v fs => TreeRep Q w t v fs, fun h hs => TreeRep.stay t h hs, fun h h' => TreeRep.det t h h'⟩
/-- Trees that these pointers have. -/
def forestR (Q : TrTy) (ts : List Tn) (ps : List Value) : Res := ⟨fun w _ fs => ForestRep Q w ts ps fs, fun h hs => ForestRep.stay ts h hs, fun h h' => ForestRep.det ts h h'⟩
/-- The kids of a node: a row of pointers to trees. -/
def KidsRep (Q : TrTy) (w : World) (ts : List Tn) (v : Value) (fs : List Nat) : Prop := ∃ xs f0, w.ownsRow 0 Q.E 1 v ts.length xs ∧ ForestRep Q w ts xs f0 ∧ fs = blkL v ++ f0 ∧ fs.Nodup
theorem blkL_mem {v : Value} {g : Nat} (h : blk v = some g) : g ∈ blkL v := by unfold blkL; rw [h]; simp
def kidsR (Q : TrTy) (ts : List Tn) : Res := ⟨fun w v fs => KidsRep Q w ts v fs, fun {w w' v fs} h hs => by
    obtain ⟨xs, f0, h1, h2, h3, h4⟩ := h
    exact ⟨xs, f0, ownsRow_same h1 (fun g hg => hs g (by rw [h3]; simp [blkL_mem hg])), ForestRep.stay ts h2 (fun g hg => hs g (by rw [h3]; simp [hg])), h3, h4⟩, fun {w v fs fs'} h h' => by
    obtain ⟨xs, f0, h1, h2, h3, h4⟩ := h
    obtain ⟨xs', f0', k1, k2, k3, k4⟩ := h'
    rw [ownsRow_det h1 k1] at h2
    rw [h3, k3, ForestRep.det ts h2 k2]⟩
/-- The kids but for one, that another box has. -/
def kidHole (Q : TrTy) (l1 l2 : List Tn) : Rel := ⟨fun w u v fs => ∃ p1 p2 f0, w.ownsRow 0 Q.E 1 v (l1.length + 1 + l2.length) (p1 ++ u :: p2) ∧ p1.length = l1.length ∧ ForestRep Q w (l1 ++ l2) (p1 ++ p2) f0 ∧ fs = blkL v ++ f0 ∧ fs.Nodup, fun {w w' u v fs} h hs => by
    obtain ⟨p1, p2, f0, h1, h2, h3, h4, h5⟩ := h
    exact ⟨p1, p2, f0, ownsRow_same h1 (fun g hg => hs g (by rw [h4]; simp [blkL_mem hg])), h2, ForestRep.stay _ h3 (fun g hg => hs g (by rw [h4]; simp [hg])), h4, h5⟩, fun {w u u' v fs fs'} h h' => by
    obtain ⟨p1, p2, f0, h1, h2, h3, h4, h5⟩ := h
    obtain ⟨q1, q2, f0', k1, k2, k3, k4, k5⟩ := h'
    have e := ownsRow_det h1 k1
    obtain ⟨e1, e2⟩ := List.append_inj e (h2.trans k2.symm)
    injection e2 with e2 e3
    subst e1 e3
    rw [h4, k4, ForestRep.det _ h3 k3]⟩
theorem repC_strs (I : Nat → Prop) (w : World) : ∀ l : List ByteArray, RepR I w 1 (l.map fun k => [strD k]) (l.map .string)
  | [] => rfl
  | k :: l => ⟨[.string k], l.map .string, rfl, rfl, ⟨_, _, rfl, fun _ => rfl, ⟨rfl, rfl⟩, rfl⟩, repC_strs I w l⟩
theorem repC_ints (I : Nat → Prop) (w : World) : ∀ l : List Int, RepR I w 1 (l.map fun k => [iD k]) (l.map (.int .i64))
  | [] => rfl
  | k :: l => ⟨[.int .i64 k], l.map (.int .i64), rfl, rfl, ⟨_, _, rfl, fun _ => rfl, ⟨rfl, rfl⟩, rfl⟩, repC_ints I w l⟩
theorem repC_ptrs (I : Nat → Prop) (w : World) : ∀ l : List Value, (∀ p ∈ l, p.oneCell' = true) → RepR I w 1 (l.map fun p => [D.sc p]) l
  | [], _ => rfl
  | p :: l, h => ⟨[p], l, rfl, rfl, ⟨_, _, rfl, fun _ => rfl, ⟨rfl, h p (by simp)⟩, rfl⟩, repC_ptrs I w l fun q hq => h q (by simp [hq])⟩
theorem forest_len {Q : TrTy} {w : World} : ∀ {ts : List Tn} {ps : List Value} {fs : List Nat}, ForestRep Q w ts ps fs → ps.length = ts.length
  | [], _, _, h => by rw [h.1]; rfl
  | t :: ts, _, _, ⟨p, ps, f1, f2, h1, _, h3, _⟩ => by rw [h1, List.length_cons, List.length_cons, forest_len h3]
theorem forest_ptr {Q : TrTy} {w : World} : ∀ {ts : List Tn} {ps : List Value} {fs : List Nat}, ForestRep Q w ts ps fs → ∀ p ∈ ps, ∃ g : Nat, p = .pointer (some ⟨g, 0, none⟩)
  | [], _, _, h, p, hp => by rw [h.1] at hp; cases hp
  | .node ks vs ts0 :: ts, _, _, ⟨p', ps, f1, f2, h1, ⟨g, _, _, _, _, _, h2, _⟩, h3, _⟩, p, hp => by
    rw [h1] at hp
    rcases List.mem_cons.1 hp with rfl | hp
    · exact ⟨g, h2⟩
    · exact forest_ptr h3 p hp
theorem forest_nodup {Q : TrTy} {w : World} : ∀ {ts : List Tn} {ps : List Value} {fs : List Nat}, ForestRep Q w ts ps fs → fs.Nodup
  | [], _, _, h => by rw [h.2]; exact List.nodup_nil
  | t :: ts, _, _, ⟨p, ps, f1, f2, _, _, _, _, h⟩ => h
theorem tree_nodup {Q : TrTy} {w : World} : ∀ {t : Tn} {p : Value} {fs : List Nat}, TreeRep Q w t p fs → fs.Nodup
  | .node _ _ _, _, _, ⟨g, a, b, c, xs, f0, _, _, _, _, _, _, _, h⟩ => h
theorem tree_ptr {Q : TrTy} {w : World} : ∀ {t : Tn} {p : Value} {fs : List Nat}, TreeRep Q w t p fs → ∃ g : Nat, p = .pointer (some ⟨g, 0, none⟩)
  | .node _ _ _, _, _, ⟨g, a, b, c, xs, f0, h, _⟩ => ⟨g, h⟩
theorem forest_app {Q : TrTy} {w : World} : ∀ {a b : List Tn} {pa pb : List Value} {fs : List Nat}, pa.length = a.length → ForestRep Q w (a ++ b) (pa ++ pb) fs →
    ∃ fa fb, ForestRep Q w a pa fa ∧ ForestRep Q w b pb fb ∧ fs = fa ++ fb
  | [], b, pa, pb, fs, hl, h => by
    have := List.length_eq_zero_iff.1 hl
    subst this
    exact ⟨[], fs, ⟨rfl, rfl⟩, h, rfl⟩
  | t :: a, b, [], pb, fs, hl, h => by cases hl
  | t :: a, b, q :: pa, pb, fs, hl, ⟨p, ps, f1, f2, h1, h2, h3, h4, h5⟩ => by
    injection h1 with e1 e2
    subst e1 e2
    obtain ⟨fa, fb, k1, k2, k3⟩ := forest_app (by simpa using hl) h3
    subst k3 h4
    refine ⟨f1 ++ fa, fb, ⟨q, pa, f1, fa, rfl, h2, k1, rfl, ?_⟩, k2, (List.append_assoc _ _ _).symm⟩
    rw [← List.append_assoc] at h5
    exact (List.nodup_append.1 h5).1
theorem app_forest {Q : TrTy} {w : World} : ∀ {a b : List Tn} {pa pb : List Value} {fa fb : List Nat}, ForestRep Q w a pa fa → ForestRep Q w b pb fb → (∀ g ∈ fa, g ∉ fb) → ForestRep Q w (a ++ b) (pa ++ pb) (fa ++ fb)
  | [], b, pa, pb, fa, fb, h, h2, _ => by
    obtain ⟨rfl, rfl⟩ := h
    exact h2
  | t :: a, b, pa, pb, fa, fb, ⟨p, ps, f1, f2, h1, h2, h3, h4, h5⟩, hb, hd => by
    subst h1 h4
    have k := app_forest h3 hb fun g hg => hd g (List.mem_append_right _ hg)
    refine ⟨p, ps ++ pb, f1, f2 ++ fb, rfl, h2, k, List.append_assoc _ _ _, ?_⟩
    refine List.nodup_append.2 ⟨h5, forest_nodup hb, fun x hx y hy e => ?_⟩
    subst e
    exact hd x hx hy
theorem forest_one {Q : TrTy} {w : World} {t : Tn} {p : Value} {fs : List Nat} (h : TreeRep Q w t p fs) : ForestRep Q w [t] [p] fs := ⟨p, [], fs, [], rfl, h, ⟨rfl, rfl⟩, (List.append_nil _).symm, tree_nodup h⟩
theorem one_forest {Q : TrTy} {w : World} {t : Tn} {p : Value} {fs : List Nat} (h : ForestRep Q w [t] [p] fs) : TreeRep Q w t p fs := by
  obtain ⟨q, ps, f1, f2, h1, h2, h3, h4, h5⟩ := h
  injection h1 with e1 e2
  subst e1
  rw [h4, h3.2, List.append_nil]
  exact h2
/-- The boxes stand otherwise, over the same blocks. -/
theorem mem_regroup {C : Ctx} {β : Bx} {ρ : Nat → Value} {I : Nat → Prop} {w : World} (hm : Mem C β ρ I w) (ups : Bx) (ρ' : Nat → Value) (hx : ∀ id, dom β id → ρ' id = ρ id)
    (hrep : ∀ id b, look id ups = some b → BoxRep ρ' I w id b ∧ b.inB (ups ++ β))
    (hcov : ∀ id b g, look id ups = some b → b.has w (ρ' id) g → ∃ i0 b0, look i0 β = some b0 ∧ look i0 ups ≠ none ∧ b0.has w (ρ i0) g)
    (hinj : ∀ i j b b' g, look i ups = some b → look j ups = some b' → b.has w (ρ' i) g → b'.has w (ρ' j) g → i = j) : Mem C (ups ++ β) ρ' I w ∧ Ext β ρ I w ρ' I w := by
  have hx' : Ext β ρ I w ρ' I w := ⟨⟨fun _ h => h, fun _ _ => rfl⟩, hx⟩
  exact ⟨hm.upd ups hx' rfl rfl rfl (Nat.le_refl _) hm.imm (fun _ h => .inl h) (fun _ => False) (fun _ _ _ => rfl) (fun _ h => h.elim) (fun i b k hi hn hh => ⟨fun h => h, (hm.own i b k hi hh).2.1⟩)
    (fun i b hi => ⟨(hrep i b hi).1, (hrep i b hi).2, fun k hk => by
      obtain ⟨i0, b0, h1, h2, h3⟩ := hcov i b k hi hk
      obtain ⟨q1, q2, q3⟩ := hm.own i0 b0 k h1 h3
      exact ⟨q1, q2, q3, fun id2 b2 hl2 hn2 hh => h2 (by rw [hm.inj i0 id2 b0 b2 k h1 hl2 h3 hh]; exact hn2)⟩⟩) hinj, hx'⟩
/-- In another state: the boxes stand otherwise, over the same blocks. -/
theorem at_regroup {C : Ctx} {σ : Sl} {β : Bx} {ρ : Nat → Value} {I : Nat → Prop} {w : World} {a : Act} (hm : Mem C β ρ I w) (hfr : Fr C σ β ρ I w a) (ups : Bx) (ρ' : Nat → Value) (τ : Sl) (hx : ∀ id, dom β id → ρ' id = ρ id)
    (hrep : ∀ id b, look id ups = some b → BoxRep ρ' I w id b ∧ b.inB (ups ++ β))
    (hcov : ∀ id b g, look id ups = some b → b.has w (ρ' id) g → ∃ i0 b0, look i0 β = some b0 ∧ look i0 ups ≠ none ∧ b0.has w (ρ i0) g)
    (hinj : ∀ i j b b' g, look i ups = some b → look j ups = some b' → b.has w (ρ' i) g → b'.has w (ρ' j) g → i = j)
    (hτ : ∀ t v, look t τ = some v → look t σ ≠ none ∧ v.inB (ups ++ β) ∧ RepA ρ' I w v (a.tmps.getD t undef)) : At C ⟨τ ++ σ, ups ++ β⟩ a w := by
  obtain ⟨hmem, hx'⟩ := mem_regroup hm ups ρ' hx hrep hcov hinj
  refine ⟨ρ', I, hmem, hfr.defers, hfr.size, hfr.keep, fun t v ht => ?_⟩
  have ht : look t (τ ++ σ) = some v := ht
  rw [look_append] at ht
  cases h : look t τ with
  | some v' =>
    rw [h] at ht
    injection ht with ht
    subst ht
    obtain ⟨k1, k2, k3⟩ := hτ t v' h
    obtain ⟨v0, hv0⟩ := Option.ne_none_iff_exists'.1 k1
    exact ⟨(hfr.val t v0 hv0).1, k2, k3⟩
  | none =>
    rw [h] at ht
    obtain ⟨q1, q2, q3⟩ := hfr.val t v ht
    exact ⟨q1, A.inB_mono (fun i hi => dom_append hi) v q2, RepA.ext hx' v _ q2 q3⟩
/-- A state of which the boxes stand otherwise. -/
theorem at_mem {C : Ctx} {σ : Sl} {β ups : Bx} {a : Act} {w : World} (h : ∀ ρ I, Mem C β ρ I w → Mem C (ups ++ β) ρ I w) (hat : At C ⟨σ, β⟩ a w) : At C ⟨σ, ups ++ β⟩ a w := by
  obtain ⟨ρ, I, hm, hfr⟩ := hat
  refine ⟨ρ, I, h ρ I hm, hfr.defers, hfr.size, hfr.keep, fun t v ht => ?_⟩
  obtain ⟨q1, q2, q3⟩ := hfr.val t v ht
  exact ⟨q1, A.inB_mono (fun i hi => dom_append hi) v q2, q3⟩
theorem Mem.sub {C : Ctx} {β γ : Bx} {ρ : Nat → Value} {I : Nat → Prop} {w : World} (h : Mem C β ρ I w) (hs : ∀ id b, look id γ = some b → look id β = some b) (hc : ∀ id b, look id γ = some b → b.inB γ) : Mem C γ ρ I w :=
  ⟨h.os, h.tape, h.output, h.size, h.frame, h.imm, h.new, fun id b hb => h.box id b (hs id b hb), fun id b g hb => h.own id b g (hs id b hb), fun i j b b' g hb hb' => h.inj i j b b' g (hs i b hb) (hs j b' hb'), hc, h.gl⟩
theorem fresh_id (γ : Bx) (l : List Nat) : ∃ i, look i γ = none ∧ i ∉ l := by
  have hb : ∀ m : List Nat, ∃ n, ∀ x ∈ m, x < n := fun m => by
    induction m with
    | nil => exact ⟨0, by simp⟩
    | cons a m ih =>
      obtain ⟨n, hn⟩ := ih
      refine ⟨max n (a + 1), fun x hx => ?_⟩
      rcases List.mem_cons.1 hx with rfl | hx
      · omega
      · have := hn x hx; omega
  obtain ⟨n, hn⟩ := hb (γ.map (·.1) ++ l)
  refine ⟨n, look_none fun h => ?_, fun h => ?_⟩
  · exact Nat.lt_irrefl _ (hn n (List.mem_append_left _ h))
  · exact Nat.lt_irrefl _ (hn n (List.mem_append_right _ h))
theorem look_of3 {i a b c : Nat} {A B C x : Box} (h : look i [(a, A), (b, B), (c, C)] = some x) : (i = a ∧ x = A) ∨ (i = b ∧ x = B) ∨ (i = c ∧ x = C) := by
  simp only [look_cons] at h
  split at h
  · rename_i e1; injection h with h; exact .inl ⟨e1.symm, h.symm⟩
  · split at h
    · rename_i e1; injection h with h; exact .inr (.inl ⟨e1.symm, h.symm⟩)
    · split at h
      · rename_i e1; injection h with h; exact .inr (.inr ⟨e1.symm, h.symm⟩)
      · cases h
theorem look_of2 {i a b : Nat} {A B x : Box} (h : look i [(a, A), (b, B)] = some x) : (i = a ∧ x = A) ∨ (i = b ∧ x = B) := by
  simp only [look_cons] at h
  split at h
  · rename_i e1; injection h with h; exact .inl ⟨e1.symm, h.symm⟩
  · split at h
    · rename_i e1; injection h with h; exact .inr ⟨e1.symm, h.symm⟩
    · cases h
theorem look_a {i : Nat} {A : Box} {r : Bx} : look i ((i, A) :: r) ≠ none := by rw [look_cons, if_pos rfl]; simp
theorem look_b {i j : Nat} {A B : Box} {r : Bx} : look j ((i, A) :: (j, B) :: r) ≠ none := by
  rw [look_cons]
  split
  · simp
  · exact look_a
theorem look_c {i j k : Nat} {A B D : Box} {r : Bx} : look k ((i, A) :: (j, B) :: (k, D) :: r) ≠ none := by
  rw [look_cons]
  split
  · simp
  · exact look_b
theorem dom_left {β γ : Bx} {i : Nat} (h : look i γ ≠ none) : dom (γ ++ β) i := by
  unfold dom
  rw [look_append]
  cases h2 : look i γ with
  | none => exact absurd h2 h
  | some b => simp
section
variable {P : Program} {Q : Exit → St → Prop}
/-- In another state, one of many. -/
theorem aw_exR (hmx : P.follows .mixedOrders = true) {id : Nat} {ops : Array Oper} {d : Bool} {α : Type} {s : St} {s' : α → St} (h : ∀ (C : Ctx) (a : Act) (w : World), At C s a w → ∃ x, At C (s' x) a w) (hq : ∀ x, AW P (.region id ops d) Q (s' x)) : AW P (.region id ops d) Q s := by
  have hs : SemWP P (.region id ops d) Q s := fun C a w hc hat => by
    obtain ⟨x, hx⟩ := h C a w hat
    exact aw_sound hmx _ _ _ a w hc (hq x) hx
  cases d with
  | true => exact .inr hs
  | false => exact .inr hs
end
end Go.Proofs.YtfplkakfakdfhaaDoor

