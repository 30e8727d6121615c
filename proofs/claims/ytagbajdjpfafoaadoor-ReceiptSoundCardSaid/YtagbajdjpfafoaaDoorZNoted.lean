/-
  chirographkeep.noted: entries of raw things, and what they are of. No condition but the length.
-/
import Derived.Test.YtagbajdjpfafoaaDoorZAudit
import Derived.Test.YtagbajdjpfafoaaDoorZSaltL
namespace Go.Proofs.YtagbajdjpfafoaaDoor
set_option linter.unusedSimpArgs false
set_option linter.unusedVariables false
open Go.RowKit

theorem picked_to (n : Int) (m : Nat) (hm : 0 < m) (hm2 : m ≤ 4611686018427387904) : PC Tryd.prog 11 [iD n, iD m] (iD ((n % (m : Int)).toNat : Nat)) ∧ (n % (m : Int)).toNat < m := by
  have h1 := emod_in n m (by omega)
  have := picked_pc n m hm hm2
  exact ⟨by rwa [show (((n % (m : Int)).toNat : Nat) : Int) = n % m by omega], by omega⟩
def saltM (m : Int) (s : List UInt8) (a b : Int) : List UInt8 := if m = 2 then saltO s a b else saltH s a b
theorem salt_pc (m : Int) (hm : m = 1 ∨ m = 2) (s : List UInt8) (hs : s.length ≤ 16) (a b : Int) : PC Tryd.prog 28 [iD m, byD s, iD a, iD b] (.tu [byD (saltM m s a b), iD 0]) := by
  rcases hm with rfl | rfl
  · exact salt_hashed_pc s hs a b
  · exact salt_open_pc s hs a b
theorem saltM_len (m : Int) (s : List UInt8) (hs : s.length ≤ 16) (a b : Int) : (saltM m s a b).length ≤ 46 := by
  unfold saltM
  split
  · rw [saltO_len]; omega
  · rw [saltH_len]; omega
theorem rawAt_of {l : List Raw} {i : Nat} {r : Raw} (h : l[i]? = some r) : rawAt l i = r := by unfold rawAt; rw [h]; rfl
def ntState (r : Raw) : List UInt8 := [lowB r.a, lowB r.b]
def ntSlot (m : Int) (i : Nat) (r : Raw) : Sl3 := ⟨true, saltM m [115] i 76, dataF m ((r.a % ((3 : Nat) : Int)).toNat : Nat) ((r.b % ((13 : Nat) : Int)).toNat : Nat) (cleanT r.text 40)⟩
def ntEnt (m : Int) (i : Nat) (r : Raw) : List UInt8 := dig m 8 [ntState r, leafS m (ntSlot m i r)]
theorem ntSlot_ok (m : Int) (i : Nat) (r : Raw) : (ntSlot m i r).ok := ⟨by
  have := saltM_len m [115] (by simp) i 76
  show (saltM m [115] i 76).length ≤ 80
  omega, by
  have := (dataF_len m ((r.a % ((3 : Nat) : Int)).toNat : Nat) ((r.b % ((13 : Nat) : Int)).toNat : Nat) (cleanT_size r.text 40)).1
  show (dataF m _ _ _).length ≤ 400
  omega, fun h => by cases h⟩
theorem entG_nt (m : Int) (i : Nat) (r : Raw) : entG m (ntState r) (ntSlot m i r) = (ntEnt m i r, 0) := by
  have := leafS_len m (ntSlot_ok m i r)
  have h2 : (ntState r).length = 2 := rfl
  unfold entG
  rw [if_pos (by omega)]
  rfl
theorem ntEnt_len (m : Int) (i : Nat) (r : Raw) : 0 < (ntEnt m i r).length ∧ (ntEnt m i r).length ≤ 503 := by
  have := leafS_len m (ntSlot_ok m i r)
  have h2 : (ntState r).length = 2 := rfl
  unfold ntEnt
  rcases dig_len m 8 [ntState r, leafS m (ntSlot m i r)] with h | h
  · omega
  · simp only [sumL, List.map_cons, List.map_nil, List.sum_cons, List.sum_nil] at h
    omega
def ntE (m : Int) (q : List Raw) (k : Nat) : List (List UInt8) := (List.range k).map fun i => ntEnt m i (rawAt q i)
def ntS (q : List Raw) (k : Nat) : List (List UInt8) := (List.range k).map fun i => ntState (rawAt q i)
def ntL (m : Int) (q : List Raw) (k : Nat) : List Sl3 := (List.range k).map fun i => ntSlot m i (rawAt q i)
set_option maxHeartbeats 2000000 in
theorem noted_pc (m : Int) (hm : m = 1 ∨ m = 2) (l : List Raw) : PC Tryd.prog 10 [iD m, rawsD l] (.tu [byL (ntE m (l.take 12) (l.take 12).length), byL (ntS (l.take 12) (l.take 12).length), slotsD (ntL m (l.take 12) (l.take 12).length), bD true]) := by
  have s1 := some_pc l 12
  have hq12 : (l.take 12).length ≤ 12 := by rw [List.length_take]; omega
  generalize l.take 12 = q at *
  refine pc_of_aw Tryd.func10 rfl (by kernel_rfl) mixed (by kernel_rfl) (by rw [Tryd.ntmps10]; exact Nat.le_of_ble_eq_true rfl) Tryd.results10 ?_
  repeat (first | (with_reducible apply aw_seq) | (with_reducible apply aw_reg) | (with_reducible apply rp_nil) | (with_reducible apply ae_norm) | (with_reducible apply aw_block) | ((with_reducible apply be_other); exact rfl) | ((with_reducible apply dr_nil); first | kernel_rfl | exact rfl) | ((first | (with_reducible apply rp) | (with_reducible apply dr)); first | ((with_reducible apply does_call_flat); exact rfl; exact rfl; exact (s1); exact rfl) | ((with_reducible apply does_call'); exact rfl; exact rfl; exact rfl; exact (s1)) | ((with_reducible apply does_move); (conv => lhs; whnf)) | ((with_reducible apply does_assign); (conv => lhs; whnf)) | ((with_reducible apply does_len_map); exact tyOk rfl; exact rfl; exact rfl)) | ((first | (with_reducible apply rp1) | (with_reducible apply dr1)); first | ((with_reducible apply does_call1); exact rfl; exact rfl; exact rfl; exact (s1))))
  refine aw_loop (fun n s => ∃ k, k ≤ q.length ∧ n = q.length - k ∧
      s = ⟨[(0, .d (iD m)), (8, .ow 1000 k), (9, .ow 1001 k), (10, .ow 1002 k), (11, .d (bD true)), (23, .d (rawsD q)), (24, .d (iD q.length)), (25, .d (iD k))], [(1000, .row 31 1 ((ntE m q k).map fun p => [byD p])), (1001, .row 31 1 ((ntS q k).map fun p => [byD p])), (1002, .row 40 3 ((ntL m q k).map Sl3.cs))]⟩) _ _ ?_ ⟨0, by omega, rfl, rfl⟩ ?_
  · refine Ent.trans (ent_nil 8 1000 31 1 rfl rfl) (Ent.trans (ent_nil 9 1001 31 1 rfl rfl) (Ent.trans (ent_nil 10 1002 40 3 rfl rfl) ?_))
    refine forget_of [] (by repeat' (first | exact ks_nil | (refine ks_cons rfl (by first | exact SubA.refl _ | exact SubA.d (SubD.nil _) | exact subA_ow (by first | rfl | (simp; done) | (simp; omega)) | exact subA_i (by first | rfl | (simp; done) | (simp; omega) | omega) | (refine SubA.of_eq ?_; first | rfl | (simp; done) | (simp; omega))) ?_))) (by repeat' (first | exact trivial | exact rfl | exact kb_d rfl | refine And.intro ?_ ?_)) rfl (by repeat' (first | exact trivial | exact insB_map _ | exact inB_ow rfl | exact inB_px rfl | exact inB_pr rfl | refine And.intro ?_ ?_)) (by repeat' (first | exact trivial | exact insB_map _ | exact inB_ow rfl | exact inB_px rfl | exact inB_pr rfl | refine And.intro ?_ ?_))
  · rintro n s2 ⟨k, hk, rfl, rfl⟩
    repeat (first | (with_reducible apply aw_seq) | (with_reducible apply aw_reg) | (with_reducible apply rp_nil) | (with_reducible apply ae_norm) | ((with_reducible apply be_other); exact rfl) | ((with_reducible apply dr_nil); first | kernel_rfl | exact rfl) | ((first | (with_reducible apply rp) | (with_reducible apply dr)); first | ((with_reducible apply does_lt); exact rfl; exact rfl)))
    refine aw_cond rfl (fun hd => ?_) (fun hd => ?_)
    · have hlt : k < q.length := by simpa using hd
      obtain ⟨r, hr⟩ : ∃ r, q[k]? = some r := ⟨_, List.getElem?_eq_getElem hlt⟩
      have hra := rawAt_of hr
      have e1 : (ntE m q (k + 1)).map (fun p => [byD p]) = (ntE m q k).map (fun p => [byD p]) ++ [[byD (ntEnt m k r)]] := by simp [ntE, List.range_succ, hra]
      have e2 : (ntS q (k + 1)).map (fun p => [byD p]) = (ntS q k).map (fun p => [byD p]) ++ [[byD (ntState r)]] := by simp [ntS, List.range_succ, hra]
      have e3 : (ntL m q (k + 1)).map Sl3.cs = (ntL m q k).map Sl3.cs ++ [(ntSlot m k r).cs] := by simp [ntL, List.range_succ, hra]
      have l1 : ((ntE m q k).map fun p => [byD p]).length = k := by simp [ntE]
      have l2 : ((ntS q k).map fun p => [byD p]).length = k := by simp [ntS]
      have l3 : ((ntL m q k).map Sl3.cs).length = k := by simp [ntL]
      generalize (ntE m q k).map (fun p => [byD p]) = oE at *
      generalize (ntS q k).map (fun p => [byD p]) = oS at *
      generalize (ntL m q k).map Sl3.cs = oL at *
      obtain ⟨p1, b1⟩ := picked_to r.a 3 (by omega) (by omega)
      obtain ⟨p2, b2⟩ := picked_to r.b 13 (by omega) (by omega)
      have c1 := clean_pc r.text 40 (by omega)
      have d1 := data_pc m hm _ _ (cleanT r.text 40) b1 b2 (cleanT_size r.text 40)
      have t1 := salt_pc m hm [115] (by simp) k 76
      have n1 := entry_pc m hm (ntState r) (ntSlot m k r) (ntSlot_ok m k r)
      rw [entG_nt] at n1
      have hE := (ntEnt_len m k r).1
      have hpos : decide (((ntEnt m k r).length : Int) > 0) = true := decide_eq_true (by omega)
      have n1 : PC Tryd.prog 29 [iD m, .sl 1 [[u8D (lowB r.a)], [u8D (lowB r.b)]], .ag [bD true, byD (saltM m [115] k 76), byD (dataF m ((r.a % ((3 : Nat) : Int)).toNat : Nat) ((r.b % ((13 : Nat) : Int)).toNat : Nat) (cleanT r.text 40))]] (.tu [byD (ntEnt m k r), iD 0]) := n1
      have e3 : (ntL m q (k + 1)).map Sl3.cs = oL ++ [[bD true, byD (saltM m [115] k 76), byD (dataF m ((r.a % ((3 : Nat) : Int)).toNat : Nat) ((r.b % ((13 : Nat) : Int)).toNat : Nat) (cleanT r.text 40))]] := e3
      have e2 : (ntS q (k + 1)).map (fun p => [byD p]) = oS ++ [[.sl 1 [[u8D (lowB r.a)], [u8D (lowB r.b)]]]] := e2
      generalize ntEnt m k r = en at *
      generalize saltM m [115] k 76 = sa at *
      generalize dataF m ((r.a % ((3 : Nat) : Int)).toNat : Nat) ((r.b % ((13 : Nat) : Int)).toNat : Nat) (cleanT r.text 40) = da at *
      generalize (r.a % ((3 : Nat) : Int)).toNat = u1 at *
      generalize (r.b % ((13 : Nat) : Int)).toNat = u2 at *
      generalize cleanT r.text 40 = tx at *
      repeat (first | (with_reducible apply aw_seq) | (with_reducible apply aw_reg) | (with_reducible apply rp_nil) | (with_reducible apply ae_norm) | (with_reducible apply aw_regD) | (with_reducible apply aw_block) | (with_reducible apply be_norm) | (with_reducible apply aw_skip) | ((with_reducible apply be_other); exact rfl) | ((with_reducible apply dr_nil); first | kernel_rfl | exact rfl) | ((first | (with_reducible apply rp) | (with_reducible apply dr) | ((first | (with_reducible apply rpG) | (with_reducible apply drG)); exact rfl; (first | exact gval_t rfl | exact gval_f rfl | exact gval_gt rfl | exact gval_gf rfl); (focus repeat' (first | exact trivial | exact fun h => h | refine And.intro ?_ ?_ | (intro h; first | exact h | (simp only [Bool.and_eq_true] at h; first | exact h.1 | exact h.1.1 | exact h.1.1.1 | exact h.2) | simp_all))); intro hgd; (try simp only [decide_eq_true_eq, Bool.and_eq_true, Bool.not_eq_true', beq_iff_eq] at hgd))); first | ((with_reducible apply does_call_flat); exact rfl; exact rfl; exact (t1); exact rfl) | ((with_reducible apply does_call'); exact rfl; exact rfl; exact rfl; exact (t1)) | ((with_reducible apply does_call_flat); exact rfl; exact rfl; exact (p1); exact rfl) | ((with_reducible apply does_call'); exact rfl; exact rfl; exact rfl; exact (p1)) | ((with_reducible apply does_call_flat); exact rfl; exact rfl; exact (p2); exact rfl) | ((with_reducible apply does_call'); exact rfl; exact rfl; exact rfl; exact (p2)) | ((with_reducible apply does_call_flat); exact rfl; exact rfl; exact (c1); exact rfl) | ((with_reducible apply does_call'); exact rfl; exact rfl; exact rfl; exact (c1)) | ((with_reducible apply does_call_flat); exact rfl; exact rfl; exact (d1); exact rfl) | ((with_reducible apply does_call'); exact rfl; exact rfl; exact rfl; exact (d1)) | ((with_reducible apply does_call_flat); exact rfl; exact rfl; exact (n1); exact rfl) | ((with_reducible apply does_call'); exact rfl; exact rfl; exact rfl; exact (n1)) | (exact does_conv_u8 (tyOk rfl) (tyOk rfl) rfl rfl) | (exact (by (with_reducible apply does_frz1 92); exact rfl; exact rfl; (with_reducible apply does_buildSlice); exact tyOk rfl; exact rfl; exact tyOk rfl; exact rfl; exact rfl; (focus repeat' (first | exact trivial | refine And.intro rfl (And.intro rfl ?_))); decide; decide; exact rfl)) | ((with_reducible apply does_move); (conv => lhs; whnf)) | ((with_reducible apply does_assign); (conv => lhs; whnf)) | ((with_reducible apply does_and); exact rfl; exact rfl; exact rfl; (first | exact trivial | exact fun h => h | (intro h; first | exact h | (simp only [Bool.and_eq_true] at h; first | exact h.1 | exact h.1.1 | exact h.1.1.1 | exact h.2) | simp_all))) | ((with_reducible apply does_fieldAddr); exact tyOk rfl; exact rfl; exact rfl; decide; exact rfl) | ((with_reducible apply does_load_var); exact tyOk rfl; exact rfl; exact rfl; exact rfl; exact rfl) | ((with_reducible apply does_load_elem); exact tyOk rfl; exact rfl; exact rfl; (first | assumption | exact map_get (by assumption) | exact rfl); exact rfl) | ((with_reducible apply does_load_own); exact tyOk rfl; exact rfl; exact rfl; exact rfl; (first | assumption | exact map_get (by assumption) | exact rfl); exact rfl) | ((with_reducible apply does_load_row); exact tyOk rfl; exact rfl; exact rfl; exact rfl; (first | exact Nat.le_of_ble_eq_true rfl | omega | (simp; omega)); exact rfl) | ((with_reducible apply does_load_elem_whole); exact tyOk rfl; exact rfl; exact rfl; (first | assumption | exact map_get (by assumption) | exact rfl); exact rfl) | ((with_reducible apply does_index_sl); exact tyOk rfl; exact rfl; exact tyOk rfl; exact rfl; exact rfl; exact rfl; exact rfl; (first | omega | (dsimp only; omega) | (dsimp only; simp only [List.length_map, List.length_append, List.length_cons, List.length_nil] at *; omega) | (simp only [List.length_map, List.length_append, List.length_cons, List.length_nil] at *; omega) | (simp; omega))) | ((with_reducible apply does_eq); exact rfl; exact rfl) | ((with_reducible apply does_gt); exact rfl; exact rfl) | ((with_reducible apply does_add); exact rfl; exact rfl; omega; omega) | ((with_reducible apply does_extract); exact rfl; exact rfl) | ((with_reducible apply does_len_map); exact tyOk rfl; exact rfl; exact rfl) | ((with_reducible apply does_conv_i64); exact tyOk rfl; exact tyOk rfl; exact rfl; exact rfl; omega; omega) | ((with_reducible apply does_conv_int); exact tyOk rfl; exact tyOk rfl; exact rfl; exact rfl) | ((with_reducible apply does_conv_str); exact tyOk rfl; exact tyOk rfl; exact rfl; exact rfl) | ((with_reducible apply does_build); exact tyOk rfl; exact rfl; exact rfl; (focus repeat' (first | exact rfl | refine ⟨_, _, rfl, rfl, Nat.le_of_ble_eq_true rfl, rfl, ?_⟩)); exact rfl) | ((with_reducible apply does_conv_bs); exact tyOk rfl; exact rfl; exact tyOk rfl; exact rfl; exact tyOk rfl; exact rfl; exact rfl) | ((with_reducible apply does_conv_sb); exact tyOk rfl; exact rfl; exact tyOk rfl; exact rfl; exact tyOk rfl; exact rfl; exact rfl)) | ((first | (with_reducible apply rp1) | (with_reducible apply dr1)); first | ((with_reducible apply does_call1); exact rfl; exact rfl; exact rfl; exact (t1)) | ((with_reducible apply does_call1); exact rfl; exact rfl; exact rfl; exact (p1)) | ((with_reducible apply does_call1); exact rfl; exact rfl; exact rfl; exact (p2)) | ((with_reducible apply does_call1); exact rfl; exact rfl; exact rfl; exact (c1)) | ((with_reducible apply does_call1); exact rfl; exact rfl; exact rfl; exact (d1)) | ((with_reducible apply does_call1); exact rfl; exact rfl; exact rfl; exact (n1)) | (exact does_conv_u8 (tyOk rfl) (tyOk rfl) rfl rfl) | (exact (by (with_reducible apply does_frz1 92); exact rfl; exact rfl; (with_reducible apply does_buildSlice); exact tyOk rfl; exact rfl; exact tyOk rfl; exact rfl; exact rfl; (focus repeat' (first | exact trivial | refine And.intro rfl (And.intro rfl ?_))); decide; decide; exact rfl)) | ((with_reducible apply does_alloc); exact tyOk rfl; exact rfl) | ((with_reducible apply does_buildSlice); exact tyOk rfl; exact rfl; exact tyOk rfl; exact rfl; exact rfl; (focus repeat' (first | exact trivial | refine And.intro rfl (And.intro rfl ?_))); decide; decide; exact rfl) | ((with_reducible apply does_append_nil); exact tyOk rfl; exact rfl; exact tyOk rfl; exact rfl; exact rfl; decide; (first | omega | (dsimp only; omega) | (dsimp only; simp only [List.length_map, List.length_append, List.length_cons, List.length_nil] at *; omega) | (simp only [List.length_map, List.length_append, List.length_cons, List.length_nil] at *; omega) | (simp; omega)); (first | omega | (dsimp only; omega) | (dsimp only; simp only [List.length_map, List.length_append, List.length_cons, List.length_nil] at *; omega) | (simp only [List.length_map, List.length_append, List.length_cons, List.length_nil] at *; omega) | (simp; omega)); exact rfl) | ((with_reducible apply does_conv_bb); exact tyOk rfl; exact rfl; exact tyOk rfl; exact rfl; exact rfl; exact rfl; decide)) | ((first | (with_reducible apply rp2) | (with_reducible apply dr2)); first | (exact does_conv_u8 (tyOk rfl) (tyOk rfl) rfl rfl) | (exact (by (with_reducible apply does_frz1 92); exact rfl; exact rfl; (with_reducible apply does_buildSlice); exact tyOk rfl; exact rfl; exact tyOk rfl; exact rfl; exact rfl; (focus repeat' (first | exact trivial | refine And.intro rfl (And.intro rfl ?_))); decide; decide; exact rfl)) | ((with_reducible apply does_append_own); exact tyOk rfl; exact rfl; exact tyOk rfl; exact rfl; exact rfl; exact rfl; decide; (first | omega | (dsimp only; omega) | (dsimp only; simp only [List.length_map, List.length_append, List.length_cons, List.length_nil] at *; omega) | (simp only [List.length_map, List.length_append, List.length_cons, List.length_nil] at *; omega) | (simp; omega)); (first | omega | (dsimp only; omega) | (dsimp only; simp only [List.length_map, List.length_append, List.length_cons, List.length_nil] at *; omega) | (simp only [List.length_map, List.length_append, List.length_cons, List.length_nil] at *; omega) | (simp; omega)); exact rfl)) | ((first | (with_reducible apply rpN) | (with_reducible apply drN)); first | (exact does_conv_u8 (tyOk rfl) (tyOk rfl) rfl rfl) | (exact (by (with_reducible apply does_frz1 92); exact rfl; exact rfl; (with_reducible apply does_buildSlice); exact tyOk rfl; exact rfl; exact tyOk rfl; exact rfl; exact rfl; (focus repeat' (first | exact trivial | refine And.intro rfl (And.intro rfl ?_))); decide; decide; exact rfl)) | ((with_reducible apply does_store); exact tyOk rfl; exact rfl; exact rfl; (conv => lhs; whnf); exact rfl; exact rfl; (first | exact Nat.le_of_ble_eq_true rfl | omega | (simp; omega))) | ((with_reducible apply does_store_whole); exact tyOk rfl; exact rfl; exact rfl; exact rfl; exact rfl; exact rfl)))
      rw [hpos]
      refine ⟨_, _, ?_, ?_, k + 1, by omega, rfl, rfl⟩
      · omega
      · rw [e1, e2, e3]
        refine forget_of [(1000, 90), (1001, 94), (1002, 98)] (by repeat' (first | exact ks_nil | (refine ks_cons rfl (by first | exact SubA.refl _ | exact SubA.d (SubD.nil _) | exact subA_ow (by first | rfl | (simp; done) | (simp; omega)) | exact subA_i (by first | rfl | (simp; done) | (simp; omega) | omega) | (refine SubA.of_eq ?_; first | rfl | (simp; done) | (simp; omega))) ?_))) ?_ rfl (by repeat' (first | exact trivial | exact insB_map _ | exact inB_ow rfl | exact inB_px rfl | exact inB_pr rfl | refine And.intro ?_ ?_)) (by repeat' (first | exact trivial | exact insB_map _ | exact inB_ow rfl | exact inB_px rfl | exact inB_pr rfl | refine And.intro ?_ ?_))
        exact kb_cons rfl (row_eq rfl) (kb_cons rfl (row_eq rfl) (kb_cons rfl (row_eq rfl) kb_nil))
    · have hke : k = q.length := by simp at hd; omega
      subst hke
      repeat (first | (with_reducible apply aw_seq) | (with_reducible apply aw_reg) | (with_reducible apply rp_nil) | (with_reducible apply ae_norm) | (with_reducible apply aw_exit) | (with_reducible apply ae_exit) | (with_reducible apply be_exit) | (with_reducible apply aw_ret) | (with_reducible apply re_ret) | ((with_reducible apply be_other); exact rfl) | ((with_reducible apply dr_nil); first | kernel_rfl | exact rfl) | ((first | (with_reducible apply rp) | (with_reducible apply dr)); first | ((with_reducible apply does_move); (conv => lhs; whnf)) | ((with_reducible apply does_assign); (conv => lhs; whnf))))
      (with_reducible apply ret_ok); (focus (repeat' (first | (with_reducible apply rv_nil) | (with_reducible apply rv_cons) | ((with_reducible apply rv_tmp); exact rfl) | ((with_reducible apply rv_cell); exact rfl; exact rfl; exact tyOk rfl; exact rfl; exact rfl) | ((with_reducible apply rv_rowd); exact rfl; exact rfl; exact tyOk rfl; exact rfl; (first | (with_reducible assumption) | exact rfl | ((try simp only [List.length_map]); first | assumption | omega) | (simp; omega))) | ((with_reducible apply rv_row); exact rfl; exact rfl; exact tyOk rfl; exact rfl; (first | exact Nat.le_of_ble_eq_true rfl | omega | (simp; omega)))))); (first | exact rfl | (focus repeat' (first | exact frzVs_one (frzV_map _ _) | exact rfl | (apply frzVs_cons; (first | exact frzV_map _ _ | exact rfl))))); refine SubD.of_eq ?_
      rfl
end Go.Proofs.YtagbajdjpfafoaaDoor
