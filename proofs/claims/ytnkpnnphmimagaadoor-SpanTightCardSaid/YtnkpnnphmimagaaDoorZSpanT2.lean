/-
  SpanTight, the walk. No condition.
-/
import Derived.Test.YtnkpnnphmimagaaDoorZSpanTight
import Derived.Test.YtnkpnnphmimagaaDoorZSomeP
namespace Go.Proofs.YtnkpnnphmimagaaDoor
set_option linter.unusedSimpArgs false
set_option linter.unusedVariables false
open Go.RowKit
open Go.Lib

theorem spanTells_pc : PC Tryd.prog 48 [] (bD true) := by
  have n1 := number_pc 1
  have o1 := sOf_pc aN (.lit (numV 1)) ⟨.int 1, by decide⟩ ⟨by decide, by decide⟩ (by decide) (by decide)
  have o1 : PC Tryd.prog 47 [.ag (Ex.lit (numV 1)).cs, strD aN] (.tu [.ag [iD (-9223372036854775808), iD 9223372036854775807], iD 0]) := o1
  generalize (Ex.lit (numV 1)).cs = c at *
  refine pc_of_aw Tryd.func48 rfl (by kernel_rfl) mixed (by kernel_rfl) (by rw [Tryd.ntmps48]; exact Nat.le_of_ble_eq_true rfl) Tryd.results48 ?_
  repeat (first | (with_reducible first | apply aw_seq | apply aw_reg | apply rp_nil | apply ae_norm | apply aw_ret | apply re_ret) | ((first | (with_reducible apply rp) | ((with_reducible apply rpG); exact rfl; exact gval_t rfl; (focus repeat' (first | exact trivial | exact fun h => h | refine And.intro ?_ ?_)); intro hgd; have hgd0 := hgd; (try simp only [decide_eq_true_eq, Bool.and_eq_true, Bool.not_eq_true', beq_iff_eq] at hgd))); first | ((with_reducible apply does_call'); exact rfl; exact rfl; exact rfl; exact (n1)) | ((with_reducible apply does_call_flat); exact rfl; exact rfl; exact (o1); exact rfl) | ((with_reducible apply does_move); (conv => lhs; whnf)) | ((with_reducible apply does_assign); (conv => lhs; whnf)) | ((with_reducible apply does_and); exact rfl; exact rfl; exact rfl; exact fun h => h) | ((with_reducible apply does_load_row); exact tyOk rfl; exact rfl; exact rfl; exact rfl; exact Nat.le_of_ble_eq_true rfl; exact rfl) | ((with_reducible apply does_eq); exact rfl; exact rfl) | ((with_reducible apply does_eqS); exact rfl; exact rfl; exact tgOk rfl; exact rfl) | ((with_reducible apply does_extract); exact rfl; exact rfl) | ((with_reducible apply does_build); exact tyOk rfl; exact rfl; exact rfl; (focus repeat' (first | exact rfl | refine ⟨_, _, rfl, rfl, Nat.le_of_ble_eq_true rfl, rfl, ?_⟩)); exact rfl)) | ((with_reducible apply rp1); ((with_reducible apply does_alloc); exact tyOk rfl; exact rfl)) | ((with_reducible apply rpN); ((with_reducible apply does_store_whole); exact tyOk rfl; exact rfl; exact rfl; exact rfl; exact rfl; exact rfl)))
  (with_reducible apply ret_ok); (focus (repeat' (first | (with_reducible apply rv_nil) | (with_reducible apply rv_cons) | ((with_reducible apply rv_tmp); exact rfl)))); exact rfl; refine SubD.of_eq ?_
  simp
  rfl
theorem andX_step {q : List Raw} {k : Nat} {r : Raw} (h : q[k]? = some r) : andX (q.take (k + 1)) = if k = 0 then boundX r else .bi 15 (andX (q.take k)) (boundX r) := by
  have hk := (List.getElem?_eq_some_iff.1 h).1
  rw [List.take_add_one, h]
  split
  · rename_i h0
    subst h0
    rfl
  · rename_i h0
    exact andX_snoc (fun h => by
      have := congrArg List.length h
      rw [List.length_take, List.length_nil] at this
      omega) r
set_option maxHeartbeats 4000000 in
theorem spanTight_pc (l : List Raw) (n : Int) : PC Tryd.prog 16 [rawsD l, iD n] (bD true) := by
  have b0 : PC Tryd.prog 46 [.ag [iD 0, iD 0, iD 0, strD .empty]] (.ag (boundX raw0).cs) := bound_pc raw0
  have s1 := some_pc l 5
  have hq : (l.take 5).length ≤ 5 := by rw [List.length_take]; omega
  generalize l.take 5 = q at *
  have p80 : PC Tryd.prog 20 [iD n, iD 80] (iD (((n % 80).toNat : Nat) : Int)) := pkn n 80 (by omega) (by omega)
  have hu80 : (n % 80).toNat < 80 := by omega
  generalize (n % 80).toNat = u at *
  obtain ⟨z, hz⟩ : ∃ z : Int, (u : Int) - 40 = z := ⟨_, rfl⟩
  have hzI : I64 z := by unfold I64; omega
  have i1 := ints_pc z 0
  obtain ⟨t, ev, ti⟩ := tight_all hzI (evA z 0) q
  have o1 := sOf_pc aN (andX q) (andX_ok q).1 (andX_ok q).2 (andX_size q hq).1 (andX_size q hq).2
  have e1 := evalX_pc abC abC_ok [numV z, numV 0] (abC_fit z 0) (andX q) (andX_ok q).1 (andX_size q hq).1 (andX_size q hq).2
  rw [ev] at e1
  have hz1 : -40 ≤ z ∧ z ≤ 40 := by omega
  have hfin : ((if t = true then (1 : Int) else 0) == 1) = (decide ((spanO aN (andX q)).1 ≤ z) && decide (z ≤ (spanO aN (andX q)).2)) ∧ ((spanO aN (andX q)).1 ≤ (spanO aN (andX q)).2 ∨ spanO aN (andX q) = (1, 0)) := by
    unfold spanO
    generalize spanF aN (andX q) = s at *
    obtain ⟨lo, hi⟩ := s
    dsimp only at *
    by_cases h : lo > hi
    · simp only [if_pos h]
      have ht : t = false := by
        cases t with
        | false => rfl
        | true => have := ti.1 rfl; omega
      subst ht
      refine ⟨?_, .inr trivial⟩
      rw [Bool.eq_iff_iff]
      simp
      omega
    · simp only [if_neg h]
      refine ⟨?_, .inl (by omega)⟩
      rw [Bool.eq_iff_iff, Bool.and_eq_true, decide_eq_true_eq, decide_eq_true_eq, ← ti]
      cases t <;> simp
  clear ev ti
  generalize spanO aN (andX q) = s at *
  obtain ⟨lo, hi⟩ := s
  unfold rgD tvD Vl.cs at *
  dsimp only at *
  have hx0 : (boundX raw0) = andX (q.take 0) := rfl
  rw [hx0] at b0
  have hxl := (andX (q.take 0)).cs_eq
  generalize hxc : (andX (q.take 0)).cs = c0 at *
  subst hxl
  refine pc_of_aw Tryd.func16 rfl (by kernel_rfl) mixed (by kernel_rfl) (by rw [Tryd.ntmps16]; exact Nat.le_of_ble_eq_true rfl) Tryd.results16 ?_
  repeat (first | (with_reducible first | apply aw_seq | apply aw_reg | apply rp_nil | apply ae_norm | apply aw_block) | ((with_reducible apply rp); first | ((with_reducible apply does_call'); exact rfl; exact rfl; exact rfl; exact (b0)) | ((with_reducible apply does_call'); exact rfl; exact rfl; exact rfl; exact (s1)) | ((with_reducible apply does_move); (conv => lhs; whnf)) | ((with_reducible apply does_assign); (conv => lhs; whnf)) | ((with_reducible apply does_len_map); exact tyOk rfl; exact rfl; exact rfl) | ((with_reducible apply does_zeroS); exact tyOk rfl; exact rfl; exact rfl)) | ((with_reducible apply rp1); ((with_reducible apply does_alloc); exact tyOk rfl; exact rfl)) | ((with_reducible apply rpN); ((with_reducible apply does_store_whole); exact tyOk rfl; exact rfl; exact rfl; exact rfl; exact rfl; exact rfl)))
  refine aw_loop (fun m st => ∃ k, k ≤ q.length ∧ m = q.length - k ∧ st = ⟨[(1, .d (iD n)), (5, .px 5 0), (18, .d (rawsD q)), (19, .d (iD q.length)), (20, .d (iD k))],
    [(5, .var 28 [.d (iD (andX (q.take k)).op), .d (iD (andX (q.take k)).val.k), .d (iD (andX (q.take k)).val.n), .d (qD (andX (q.take k)).val.b), .d (strD (andX (q.take k)).val.t), .d (strD (andX (q.take k)).nam), .d (.sl 7 ((andX (q.take k)).args.map Ex.cs))])]⟩) _ _ ?_ ⟨0, by omega, rfl, rfl⟩ ?_
  · refine forget_of [] (by repeat' (first | exact ks_nil | (refine ks_cons rfl (by exact SubA.refl _) ?_))) (by repeat' (first | exact trivial | exact rfl | refine And.intro ?_ ?_)) rfl (by repeat' (first | exact trivial | exact inB_px rfl | refine And.intro ?_ ?_)) (by repeat' (first | exact trivial | exact inB_px rfl | refine And.intro ?_ ?_))
  · rintro m st ⟨k, hk, rfl, rfl⟩
    repeat (first | (with_reducible first | apply aw_seq | apply aw_reg | apply rp_nil | apply ae_norm) | ((with_reducible apply rp); ((with_reducible apply does_lt); exact rfl; exact rfl)))
    refine aw_cond rfl (fun hd => ?_) (fun hd => ?_)
    · have hlt : k < q.length := by simp at hd; omega
      clear hd
      obtain ⟨r, hr⟩ : ∃ r, q[k]? = some r := ⟨_, List.getElem?_eq_getElem hlt⟩
      have hr2 : (q.map Raw.cs)[k]? = some r.cs := by rw [List.getElem?_map, hr]; rfl
      have hst := andX_step hr
      have b1 := bound_pc r
      have o2 := op2_pc 15 (andX (q.take k)) (boundX r)
      by_cases h0 : k = 0
      · rw [if_pos h0] at hst
        have hk0 : ((k : Int) == 0) = true := by rw [h0]; rfl
        rw [← hst] at b1
        clear o2 hst
        have hxl := (andX (q.take (k + 1))).cs_eq
        generalize (andX (q.take (k + 1))).cs = c1 at *
        subst hxl
        obtain ⟨rk, ra, rb, rt⟩ := r
        unfold Raw.cs at *
        dsimp only at *
        repeat (first | (with_reducible first | apply aw_seq | apply aw_reg | apply rp_nil | apply ae_norm | apply aw_block | apply aw_skip) | ((with_reducible apply rp); first | ((with_reducible apply does_move); (conv => lhs; whnf)) | ((with_reducible apply does_assign); (conv => lhs; whnf)) | ((with_reducible apply does_load_elem_whole); exact tyOk rfl; exact rfl; exact rfl; assumption; exact rfl) | ((with_reducible apply does_index_sl); exact tyOk rfl; exact rfl; exact tyOk rfl; exact rfl; exact rfl; exact rfl; exact rfl; (simp only [List.length_map, List.length_append, List.length_cons, List.length_nil] at *; omega)) | ((with_reducible apply does_eq); exact rfl; exact rfl)) | ((with_reducible apply rp1); ((with_reducible apply does_alloc); exact tyOk rfl; exact rfl)) | ((with_reducible apply rpN); ((with_reducible apply does_store_whole); exact tyOk rfl; exact rfl; exact rfl; exact rfl; exact rfl; exact rfl)))
        refine aw_cond rfl (fun _ => ?_) (fun hd => absurd (hk0.symm.trans hd) (by decide))
        repeat (first | (with_reducible first | apply aw_seq | apply aw_reg | apply rp_nil | apply ae_norm | apply aw_exit | apply ae_exit | apply be_exit) | ((with_reducible apply rp); first | ((with_reducible apply does_call'); exact rfl; exact rfl; exact rfl; exact (b1)) | ((with_reducible apply does_move); (conv => lhs; whnf)) | ((with_reducible apply does_load_row); exact tyOk rfl; exact rfl; exact rfl; exact rfl; exact Nat.le_of_ble_eq_true rfl; exact rfl) | ((with_reducible apply does_add); exact rfl; exact rfl; omega; omega)) | ((with_reducible apply rpN); ((with_reducible apply does_store_whole); exact tyOk rfl; exact rfl; exact rfl; exact rfl; exact rfl; exact rfl)))
        refine ⟨_, _, ?_, ?_, k + 1, by omega, rfl, rfl⟩
        · omega
        · refine forget_of [] (by repeat' (first | exact ks_nil | (refine ks_cons rfl (by exact SubA.refl _) ?_))) (by repeat' (first | exact trivial | exact rfl | refine And.intro ?_ ?_)) rfl (by repeat' (first | exact trivial | exact inB_px rfl | refine And.intro ?_ ?_)) (by repeat' (first | exact trivial | exact inB_px rfl | refine And.intro ?_ ?_))
      · rw [if_neg h0] at hst
        have hk0 : ((k : Int) == 0) = false := beq_eq_false_iff_ne.2 (by omega)
        rw [← hst] at o2
        clear hst
        have hxl := (andX (q.take (k + 1))).cs_eq
        generalize (andX (q.take (k + 1))).cs = c1 at *
        subst hxl
        have hyl := (andX (q.take k)).cs_eq
        generalize (andX (q.take k)).cs = c2 at *
        subst hyl
        have hbl := (boundX r).cs_eq
        generalize (boundX r).cs = c3 at *
        subst hbl
        obtain ⟨rk, ra, rb, rt⟩ := r
        unfold Raw.cs at *
        dsimp only at *
        repeat (first | (with_reducible first | apply aw_seq | apply aw_reg | apply rp_nil | apply ae_norm | apply aw_block | apply aw_skip) | ((with_reducible apply rp); first | ((with_reducible apply does_move); (conv => lhs; whnf)) | ((with_reducible apply does_assign); (conv => lhs; whnf)) | ((with_reducible apply does_load_elem_whole); exact tyOk rfl; exact rfl; exact rfl; assumption; exact rfl) | ((with_reducible apply does_index_sl); exact tyOk rfl; exact rfl; exact tyOk rfl; exact rfl; exact rfl; exact rfl; exact rfl; (simp only [List.length_map, List.length_append, List.length_cons, List.length_nil] at *; omega)) | ((with_reducible apply does_eq); exact rfl; exact rfl)) | ((with_reducible apply rp1); ((with_reducible apply does_alloc); exact tyOk rfl; exact rfl)) | ((with_reducible apply rpN); ((with_reducible apply does_store_whole); exact tyOk rfl; exact rfl; exact rfl; exact rfl; exact rfl; exact rfl)))
        refine aw_cond rfl (fun hd => absurd (hk0.symm.trans hd) (by decide)) (fun _ => ?_)
        repeat (first | (with_reducible first | apply aw_reg | apply rp_nil | apply ae_norm | apply aw_regD | apply be_norm | apply aw_skip) | ((with_reducible apply dr_nil); (first | kernel_rfl | exact rfl)) | ((with_reducible first | apply rp | apply dr); first | ((with_reducible apply does_call'); exact rfl; exact rfl; exact rfl; exact (b1)) | ((with_reducible apply does_call'); exact rfl; exact rfl; exact rfl; exact (o2)) | ((with_reducible apply does_move); (conv => lhs; whnf)) | ((with_reducible apply does_load_row); exact tyOk rfl; exact rfl; exact rfl; exact rfl; exact Nat.le_of_ble_eq_true rfl; exact rfl) | ((with_reducible apply does_add); exact rfl; exact rfl; omega; omega)) | ((with_reducible apply drN); ((with_reducible apply does_store_whole); exact tyOk rfl; exact rfl; exact rfl; exact rfl; exact rfl; exact rfl)))
        refine ⟨_, _, ?_, ?_, k + 1, by omega, rfl, rfl⟩
        · omega
        · refine forget_of [] (by repeat' (first | exact ks_nil | (refine ks_cons rfl (by exact SubA.refl _) ?_))) (by repeat' (first | exact trivial | exact rfl | refine And.intro ?_ ?_)) rfl (by repeat' (first | exact trivial | exact inB_px rfl | refine And.intro ?_ ?_)) (by repeat' (first | exact trivial | exact inB_px rfl | refine And.intro ?_ ?_))
    · have hke : k = q.length := by simp at hd; omega
      clear hd
      subst hke
      rw [List.take_length]
      have hxl := (andX q).cs_eq
      generalize (andX q).cs = c1 at *
      subst hxl
      repeat (first | (with_reducible first | apply aw_seq | apply aw_reg | apply rp_nil | apply ae_norm | apply aw_exit | apply ae_exit | apply be_exit | apply aw_ret | apply re_ret) | ((first | (with_reducible apply rp) | ((with_reducible apply rpG); exact rfl; (first | exact gval_t rfl | exact gval_gt rfl | exact gval_gf rfl); (focus repeat' (first | exact trivial | exact fun h => h | refine And.intro ?_ ?_ | (intro h; simp_all))); intro hgd; have hgd0 := hgd; (try simp only [decide_eq_true_eq, Bool.and_eq_true, Bool.not_eq_true', beq_iff_eq] at hgd))); first | ((with_reducible apply does_call_flat); exact rfl; exact rfl; exact (p80); exact rfl) | (exact does_sub_to (z := z) rfl rfl hz (by omega) (by omega)) | ((with_reducible apply does_call'); exact rfl; exact rfl; exact rfl; exact (i1)) | ((with_reducible apply does_call_flat); exact rfl; exact rfl; exact (o1); exact rfl) | ((with_reducible apply does_call_flat); exact rfl; exact rfl; exact (e1); exact rfl) | ((with_reducible apply does_move); (conv => lhs; whnf)) | ((with_reducible apply does_assign); (conv => lhs; whnf)) | ((with_reducible apply does_and); exact rfl; exact rfl; exact rfl; (first | exact fun h => h | (intro h; (rw [hgd0, h]; rfl)))) | ((with_reducible apply does_or); exact rfl; exact rfl; exact rfl; (first | exact fun h => h | (intro h; (rw [hgd0, h]; rfl)))) | ((with_reducible apply does_fieldAddr); exact tyOk rfl; exact rfl; exact rfl; decide; exact rfl) | ((with_reducible apply does_load_var); exact tyOk rfl; exact rfl; exact rfl; exact rfl; exact rfl) | ((with_reducible apply does_load_row); exact tyOk rfl; exact rfl; exact rfl; exact rfl; exact Nat.le_of_ble_eq_true rfl; exact rfl) | ((with_reducible apply does_eq); exact rfl; exact rfl) | ((with_reducible apply does_le); exact rfl; exact rfl) | ((with_reducible apply does_eqS); exact rfl; exact rfl; exact tgOk rfl; exact rfl) | ((with_reducible apply does_beq); exact tyOk rfl; exact rfl; exact rfl; exact rfl; exact rfl) | ((with_reducible apply does_extract); exact rfl; exact rfl) | ((with_reducible apply does_build); exact tyOk rfl; exact rfl; exact rfl; (focus repeat' (first | exact rfl | refine ⟨_, _, rfl, rfl, Nat.le_of_ble_eq_true rfl, rfl, ?_⟩)); exact rfl)) | ((with_reducible apply rp1); ((with_reducible apply does_alloc); exact tyOk rfl; exact rfl)) | ((with_reducible apply rpN); ((with_reducible apply does_store_whole); exact tyOk rfl; exact rfl; exact rfl; exact rfl; exact rfl; exact rfl)) | ((first | (with_reducible apply rpGP) | (with_reducible apply drGP)); exact rfl; (first | exact gval_t rfl | exact gval_gt rfl | exact gval_gf rfl); (focus repeat' (first | exact trivial | exact fun h => h | refine And.intro ?_ ?_ | (intro h; simp_all))); (intro hgd; have hgd0 := hgd; (try simp only [decide_eq_true_eq, Bool.and_eq_true, Bool.not_eq_true', beq_iff_eq] at hgd); first | ((with_reducible apply does_or); exact rfl; exact rfl; exact rfl; (first | exact fun h => h | (intro h; (rw [hgd0, h]; rfl)))) | ((with_reducible apply does_and); exact rfl; exact rfl; exact rfl; (first | exact fun h => h | (intro h; (rw [hgd0, h]; rfl)))))))
      (with_reducible apply ret_ok); (focus (repeat' (first | (with_reducible apply rv_nil) | (with_reducible apply rv_cons) | ((with_reducible apply rv_tmp); exact rfl)))); exact rfl; refine SubD.of_eq ?_
      refine congrArg bD (a₂ := true) ?_
      rw [hfin.1]
      have hl : (decide (lo ≤ hi) || lo == 1 && (hi == 0 && true)) = true := by
        rcases hfin.2 with h | h
        · rw [decide_eq_true h]; rfl
        · injection h with h1 h2
          rw [h1, h2]; rfl
      rw [hl]
      simp
theorem spanTight_walk (A : Option Addr) (l : List Raw) (c : Nat) (a : Int) (w : World) (h : RdR w w.heap.size A l) (hc : l.length ≤ c) (_ : c * 40 ≤ 140737488351232) (hr : ∀ r ∈ l, r.ok) (ha : I64 a) (hg : GlOk (Lt w) w) : Calls Tryd.prog 16 #[.slice A l.length c, .int .i64 a] w fun e w' => e = .returned (.bool true) ∧ Below w.heap.size w w' :=
  calls_of_pc (spanTight_pc l a) (rep_cons (rep_raws h hc) (rep_cons (rep_int w a) rfl)) hg
end Go.Proofs.YtnkpnnphmimagaaDoor

