/-
  The laws OrderTurns and OrderChain return true. No condition.
-/
import Derived.Test.YtclhmdobhlalmaaDoorZReal
import Derived.Test.YtclhmdobhlalmaaDoorZJoinD
namespace Go.Proofs.YtclhmdobhlalmaaDoor
set_option linter.unusedSimpArgs false
set_option linter.unusedVariables false
open Go.RowKit

theorem ord_in (a b : Vl) : ordV a b = -1 ∨ ordV a b = 0 ∨ ordV a b = 1 := by
  unfold ordV
  repeat' split
  all_goals simp
theorem ord_neg {a b : Vl} (ha : Gd a) (hb : Gd b) : ordV a b = -1 ↔ lessV a b = true := by
  unfold ordV
  constructor
  · intro h
    split at h
    · assumption
    · split at h <;> omega
  · intro h; rw [if_pos h]
theorem ord_pos {a b : Vl} (ha : Gd a) (hb : Gd b) : ordV a b = 1 ↔ lessV b a = true := by
  unfold ordV
  rw [more_less ha hb]
  constructor
  · intro h
    split at h
    · omega
    · split at h
      · assumption
      · omega
  · intro h
    rw [if_neg, if_pos h]
    intro h2
    have := less_trans ha hb ha h2 h
    rw [less_irr ha] at this
    cases this
theorem ord_zero {a b : Vl} (ha : Gd a) (hb : Gd b) : ordV a b = 0 ↔ a = b := by
  constructor
  · intro h
    refine less_tri ha hb ?_ ?_
    · cases hl : lessV a b with
      | false => rfl
      | true => have := (ord_neg ha hb).2 hl; omega
    · cases hl : lessV b a with
      | false => rfl
      | true => have := (ord_pos ha hb).2 hl; omega
  · rintro rfl
    unfold ordV
    rw [more_less ha ha, less_irr ha]
    rfl
theorem ord_turn {a b : Vl} (ha : Gd a) (hb : Gd b) : ordV b a = -ordV a b := by
  rcases ord_in a b with h | h | h
  · have := (ord_pos hb ha).2 ((ord_neg ha hb).1 h); omega
  · have := (ord_zero ha hb).1 h
    subst this; omega
  · have := (ord_neg hb ha).2 ((ord_pos ha hb).1 h); omega
theorem gd_cmp {a b : Vl} (ha : Gd a) (hb : Gd b) : PC Tryd.prog 15 [.ag a.cs, .ag b.cs] (.tu [iD (ordV a b), iD 0]) :=
  compare_pc a b (Nat.le_trans ha.size (by omega)) (Nat.le_trans hb.size (by omega)) ha.chk hb.chk
set_option maxHeartbeats 2000000 in
theorem orderTurns_pc (a b : Raw) : PC Tryd.prog 3 [.ag a.cs, .ag b.cs] (bD true) := by
  obtain ⟨x, hx, p1⟩ := val_pc a
  obtain ⟨y, hy, p2⟩ := val_pc b
  have c1 := gd_cmp hx hy
  have c2 := gd_cmp hy hx
  have c3 := gd_cmp .null (.bool 0 (.inl rfl))
  have e3 : ordV ⟨0, 0, 0, .empty⟩ ⟨1, 0, 0, .empty⟩ = -1 := rfl
  rw [e3] at c3
  rw [ord_turn hx hy] at c2
  have hin := ord_in x y
  have hz := ord_zero hx hy
  generalize ordV x y = c at *
  have c3 : PC Tryd.prog 15 [.ag [iD 0, iD 0, qD 0, strD .empty], .ag [iD 1, iD 0, qD 0, strD .empty]] (.tu [iD (-1), iD 0]) := c3
  clear hx hy e3
  obtain ⟨xk, xn, xb, xt⟩ := x
  obtain ⟨yk, yn, yb, yt⟩ := y
  obtain ⟨ak, aa, ab, at_⟩ := a
  obtain ⟨bk, ba, bb, bt⟩ := b
  unfold Vl.cs Raw.cs at *
  refine pc_of_aw Tryd.func3 rfl (by kernel_rfl) mixed (by kernel_rfl) (by rw [Tryd.ntmps3]; exact Nat.le_of_ble_eq_true rfl) Tryd.results3 ?_
  repeat (first | (with_reducible apply aw_seq) | (with_reducible apply aw_reg) | (with_reducible apply rp_nil) | (with_reducible apply ae_norm) | (with_reducible apply aw_regD) | (with_reducible apply aw_ret) | (with_reducible apply re_ret) | ((with_reducible apply be_other); exact rfl) | ((with_reducible apply dr_nil); first | kernel_rfl | exact rfl) | ((first | (with_reducible apply rp) | (with_reducible apply dr) | ((first | (with_reducible apply rpG) | (with_reducible apply drG)); exact rfl; (first | exact gval_t rfl | exact gval_f rfl | exact gval_gt rfl | exact gval_gf rfl); (focus repeat' (first | exact trivial | exact fun h => h | refine And.intro ?_ ?_ | (intro h; first | exact h | (simp only [Bool.and_eq_true] at h; first | exact h.1 | exact h.1.1 | exact h.1.1.1 | exact h.2) | (rw [h]; rfl) | (rw [hgd0, h]; rfl) | simp_all))); intro hgd; have hgd0 := hgd; (try simp only [decide_eq_true_eq, Bool.and_eq_true, Bool.not_eq_true', beq_iff_eq] at hgd))); first | ((with_reducible apply does_call_flat); exact rfl; exact rfl; exact (p1); exact rfl) | ((with_reducible apply does_call'); exact rfl; exact rfl; exact rfl; exact (p1)) | ((with_reducible apply does_call_flat); exact rfl; exact rfl; exact (p2); exact rfl) | ((with_reducible apply does_call'); exact rfl; exact rfl; exact rfl; exact (p2)) | ((with_reducible apply does_call_flat); exact rfl; exact rfl; exact (c1); exact rfl) | ((with_reducible apply does_call'); exact rfl; exact rfl; exact rfl; exact (c1)) | ((with_reducible apply does_call_flat); exact rfl; exact rfl; exact (c2); exact rfl) | ((with_reducible apply does_call'); exact rfl; exact rfl; exact rfl; exact (c2)) | ((with_reducible apply does_call_flat); exact rfl; exact rfl; exact (c3); exact rfl) | ((with_reducible apply does_call'); exact rfl; exact rfl; exact rfl; exact (c3)) | ((with_reducible apply does_move); (conv => lhs; whnf)) | ((with_reducible apply does_assign); (conv => lhs; whnf)) | ((with_reducible apply does_and); exact rfl; exact rfl; exact rfl; (first | exact trivial | exact fun h => h | (intro h; first | exact h | (simp only [Bool.and_eq_true] at h; first | exact h.1 | exact h.1.1 | exact h.1.1.1 | exact h.2) | (rw [h]; rfl) | (rw [hgd0, h]; rfl) | simp_all))) | ((with_reducible apply does_load_var); exact tyOk rfl; exact rfl; exact rfl; exact rfl; exact rfl) | ((with_reducible apply does_load_elem); exact tyOk rfl; exact rfl; exact rfl; (first | assumption | exact map_get (by assumption) | exact rfl); exact rfl) | ((with_reducible apply does_load_own); exact tyOk rfl; exact rfl; exact rfl; exact rfl; (first | assumption | exact map_get (by assumption) | exact rfl); exact rfl) | ((with_reducible apply does_load_row); exact tyOk rfl; exact rfl; exact rfl; exact rfl; (first | exact Nat.le_of_ble_eq_true rfl | omega | (simp; omega)); exact rfl) | ((with_reducible apply does_eq); exact rfl; exact rfl) | ((with_reducible apply does_le); exact rfl; exact rfl) | ((with_reducible apply does_ge); exact rfl; exact rfl) | ((with_reducible apply does_seq); exact rfl; exact rfl) | ((with_reducible apply does_eqS); exact rfl; exact rfl; exact tgOk rfl; exact rfl) | ((with_reducible apply does_beq); exact tyOk rfl; exact rfl; exact rfl; exact rfl; exact rfl) | ((with_reducible apply does_neg); exact rfl) | ((with_reducible apply does_extract); exact rfl; exact rfl) | ((with_reducible apply does_zeroA); exact tyOk rfl; exact rfl; decide) | ((with_reducible apply does_zeroS); exact tyOk rfl; exact rfl; exact rfl) | ((with_reducible apply does_build); exact tyOk rfl; exact rfl; exact rfl; (focus repeat' (first | exact rfl | refine ⟨_, _, rfl, rfl, Nat.le_of_ble_eq_true rfl, rfl, ?_⟩)); exact rfl)) | ((first | (with_reducible apply rp1) | (with_reducible apply dr1)); first | ((with_reducible apply does_call1); exact rfl; exact rfl; exact rfl; exact (p1)) | ((with_reducible apply does_call1); exact rfl; exact rfl; exact rfl; exact (p2)) | ((with_reducible apply does_call1); exact rfl; exact rfl; exact rfl; exact (c1)) | ((with_reducible apply does_call1); exact rfl; exact rfl; exact rfl; exact (c2)) | ((with_reducible apply does_call1); exact rfl; exact rfl; exact rfl; exact (c3)) | ((with_reducible apply does_box_ag); exact rfl; exact rfl) | ((with_reducible apply does_alloc); exact tyOk rfl; exact rfl)) | ((first | (with_reducible apply rpN) | (with_reducible apply drN)); first | ((with_reducible apply does_store); exact tyOk rfl; exact rfl; exact rfl; (conv => lhs; whnf); exact rfl; exact rfl; (first | exact Nat.le_of_ble_eq_true rfl | omega | (simp; omega))) | ((with_reducible apply does_store_whole); exact tyOk rfl; exact rfl; exact rfl; exact rfl; exact rfl; exact rfl)))
  (with_reducible apply ret_ok); (focus (repeat' (first | (with_reducible apply rv_nil) | (with_reducible apply rv_cons) | ((with_reducible apply rv_tmp); exact rfl) | ((with_reducible apply rv_cell); exact rfl; exact rfl; exact tyOk rfl; exact rfl; exact rfl) | ((with_reducible apply rv_rowd); exact rfl; exact rfl; exact tyOk rfl; exact rfl; (first | (with_reducible assumption) | exact rfl | ((try simp only [List.length_map]); first | assumption | omega) | (simp; omega))) | ((with_reducible apply rv_row); exact rfl; exact rfl; exact tyOk rfl; exact rfl; (first | exact Nat.le_of_ble_eq_true rfl | omega | (simp; omega)))))); (first | exact rfl | (focus repeat' (first | exact frzVs_one (frzV_map _ _) | exact rfl | (apply frzVs_cons; (first | exact frzV_map _ _ | exact rfl))))); refine SubD.of_eq ?_
  have hst : (xk == yk && (xn == yn && (((xb : Nat) : Int) == ((yb : Nat) : Int) && (xt.toList == yt.toList && true)))) = (c == 0) := by
    rw [Bool.eq_iff_iff]
    simp only [Bool.and_eq_true, beq_iff_eq, and_true]
    rw [hz]
    constructor
    · rintro ⟨rfl, rfl, h3, h4⟩
      obtain rfl : xb = yb := by omega
      rw [ba_eq h4]
    · intro h
      injection h with h1 h2 h3 h4
      subst h1 h2 h3 h4
      exact ⟨rfl, rfl, rfl, rfl⟩
  show bD ((0 : Int) == 0 && (0 : Int) == 0 && (0 : Int) == 0 && (-1 : Int) == -1 && c == IntKind.i64.wrap (0 - -c) && (c == 0) == (xk == yk && (xn == yn && (((xb : Nat) : Int) == ((yb : Nat) : Int) && (xt.toList == yt.toList && true)))) && decide (c ≥ -1) && decide (c ≤ 1)) = bD true
  rw [hst]
  clear hst hz c1 c2
  rcases hin with rfl | rfl | rfl <;> rfl
set_option maxHeartbeats 4000000 in
theorem orderChain_pc (a b d : Raw) : PC Tryd.prog 4 [.ag a.cs, .ag b.cs, .ag d.cs] (bD true) := by
  obtain ⟨x, hx, p1⟩ := val_pc a
  obtain ⟨y, hy, p2⟩ := val_pc b
  obtain ⟨z, hz, p3⟩ := val_pc d
  have c1 := gd_cmp hx hy
  have c2 := gd_cmp hy hz
  have c3 := gd_cmp hx hz
  have c4 := gd_cmp (.int 1) (.int 0)
  have e4 : ordV ⟨2, 1, 0, .empty⟩ ⟨2, 0, 0, .empty⟩ = 1 := rfl
  rw [e4] at c4
  have i1 := ord_in x y
  have i2 := ord_in y z
  have i3 := ord_in x z
  have t1 : ordV x y ≤ 0 → ordV y z ≤ 0 → ordV x z ≤ 0 ∧ (ordV x z < 0 ↔ ordV x y < 0 ∨ ordV y z < 0) := by
    intro h1 h2
    rcases i1 with q1 | q1 | q1
    · rcases i2 with q2 | q2 | q2
      · have := (ord_neg hx hz).2 (less_trans hx hy hz ((ord_neg hx hy).1 q1) ((ord_neg hy hz).1 q2)); omega
      · have := (ord_zero hy hz).1 q2; subst this; omega
      · omega
    · have := (ord_zero hx hy).1 q1; subst this; omega
    · omega
  generalize ordV x y = m at *
  generalize ordV y z = n at *
  generalize ordV x z = k at *
  have c4 : PC Tryd.prog 15 [.ag [iD 2, iD 1, qD 0, strD .empty], .ag [iD 2, iD 0, qD 0, strD .empty]] (.tu [iD 1, iD 0]) := c4
  clear hx hy hz e4
  obtain ⟨xk, xn, xb, xt⟩ := x
  obtain ⟨yk, yn, yb, yt⟩ := y
  obtain ⟨zk, zn, zb, zt⟩ := z
  obtain ⟨ak, aa, ab, at_⟩ := a
  obtain ⟨bk, ba, bb, bt⟩ := b
  obtain ⟨dk, da, db, dt⟩ := d
  unfold Vl.cs Raw.cs at *
  refine pc_of_aw Tryd.func4 rfl (by kernel_rfl) mixed (by kernel_rfl) (by rw [Tryd.ntmps4]; exact Nat.le_of_ble_eq_true rfl) Tryd.results4 ?_
  repeat (first | (with_reducible apply aw_seq) | (with_reducible apply aw_reg) | (with_reducible apply rp_nil) | (with_reducible apply ae_norm) | (with_reducible apply aw_regD) | (with_reducible apply aw_ret) | (with_reducible apply re_ret) | ((with_reducible apply be_other); exact rfl) | ((with_reducible apply dr_nil); first | kernel_rfl | exact rfl) | ((first | (with_reducible apply rp) | (with_reducible apply dr) | ((first | (with_reducible apply rpG) | (with_reducible apply drG)); exact rfl; (first | exact gval_t rfl | exact gval_f rfl | exact gval_gt rfl | exact gval_gf rfl); (focus repeat' (first | exact trivial | exact fun h => h | refine And.intro ?_ ?_ | (intro h; first | exact h | (simp only [Bool.and_eq_true] at h; first | exact h.1 | exact h.1.1 | exact h.1.1.1 | exact h.2) | (rw [h]; rfl) | (rw [hgd0, h]; rfl) | simp_all))); intro hgd; have hgd0 := hgd; (try simp only [decide_eq_true_eq, Bool.and_eq_true, Bool.not_eq_true', beq_iff_eq] at hgd))); first | ((with_reducible apply does_call_flat); exact rfl; exact rfl; exact (p1); exact rfl) | ((with_reducible apply does_call'); exact rfl; exact rfl; exact rfl; exact (p1)) | ((with_reducible apply does_call_flat); exact rfl; exact rfl; exact (p2); exact rfl) | ((with_reducible apply does_call'); exact rfl; exact rfl; exact rfl; exact (p2)) | ((with_reducible apply does_call_flat); exact rfl; exact rfl; exact (p3); exact rfl) | ((with_reducible apply does_call'); exact rfl; exact rfl; exact rfl; exact (p3)) | ((with_reducible apply does_call_flat); exact rfl; exact rfl; exact (c1); exact rfl) | ((with_reducible apply does_call'); exact rfl; exact rfl; exact rfl; exact (c1)) | ((with_reducible apply does_call_flat); exact rfl; exact rfl; exact (c2); exact rfl) | ((with_reducible apply does_call'); exact rfl; exact rfl; exact rfl; exact (c2)) | ((with_reducible apply does_call_flat); exact rfl; exact rfl; exact (c3); exact rfl) | ((with_reducible apply does_call'); exact rfl; exact rfl; exact rfl; exact (c3)) | ((with_reducible apply does_call_flat); exact rfl; exact rfl; exact (c4); exact rfl) | ((with_reducible apply does_call'); exact rfl; exact rfl; exact rfl; exact (c4)) | (exact does_beq (tyOk rfl) rfl rfl rfl rfl) | ((with_reducible apply does_move); (conv => lhs; whnf)) | ((with_reducible apply does_assign); (conv => lhs; whnf)) | ((with_reducible apply does_and); exact rfl; exact rfl; exact rfl; (first | exact trivial | exact fun h => h | (intro h; first | exact h | (simp only [Bool.and_eq_true] at h; first | exact h.1 | exact h.1.1 | exact h.1.1.1 | exact h.2) | (rw [h]; rfl) | (rw [hgd0, h]; rfl) | simp_all))) | ((with_reducible apply does_or); exact rfl; exact rfl; exact rfl; (first | exact trivial | exact fun h => h | (intro h; first | exact h | (simp only [Bool.and_eq_true] at h; first | exact h.1 | exact h.1.1 | exact h.1.1.1 | exact h.2) | (rw [h]; rfl) | (rw [hgd0, h]; rfl) | simp_all))) | ((with_reducible apply does_load_var); exact tyOk rfl; exact rfl; exact rfl; exact rfl; exact rfl) | ((with_reducible apply does_load_elem); exact tyOk rfl; exact rfl; exact rfl; (first | assumption | exact map_get (by assumption) | exact rfl); exact rfl) | ((with_reducible apply does_load_own); exact tyOk rfl; exact rfl; exact rfl; exact rfl; (first | assumption | exact map_get (by assumption) | exact rfl); exact rfl) | ((with_reducible apply does_load_row); exact tyOk rfl; exact rfl; exact rfl; exact rfl; (first | exact Nat.le_of_ble_eq_true rfl | omega | (simp; omega)); exact rfl) | ((with_reducible apply does_eq); exact rfl; exact rfl) | ((with_reducible apply does_lt); exact rfl; exact rfl) | ((with_reducible apply does_le); exact rfl; exact rfl) | ((with_reducible apply does_gt); exact rfl; exact rfl) | ((with_reducible apply does_extract); exact rfl; exact rfl) | ((with_reducible apply does_build); exact tyOk rfl; exact rfl; exact rfl; (focus repeat' (first | exact rfl | refine ⟨_, _, rfl, rfl, Nat.le_of_ble_eq_true rfl, rfl, ?_⟩)); exact rfl)) | ((first | (with_reducible apply rp1) | (with_reducible apply dr1)); first | ((with_reducible apply does_call1); exact rfl; exact rfl; exact rfl; exact (p1)) | ((with_reducible apply does_call1); exact rfl; exact rfl; exact rfl; exact (p2)) | ((with_reducible apply does_call1); exact rfl; exact rfl; exact rfl; exact (p3)) | ((with_reducible apply does_call1); exact rfl; exact rfl; exact rfl; exact (c1)) | ((with_reducible apply does_call1); exact rfl; exact rfl; exact rfl; exact (c2)) | ((with_reducible apply does_call1); exact rfl; exact rfl; exact rfl; exact (c3)) | ((with_reducible apply does_call1); exact rfl; exact rfl; exact rfl; exact (c4)) | (exact does_beq (tyOk rfl) rfl rfl rfl rfl) | ((with_reducible apply does_box_ag); exact rfl; exact rfl) | ((with_reducible apply does_alloc); exact tyOk rfl; exact rfl)) | ((first | (with_reducible apply rp2) | (with_reducible apply dr2)); first | (exact does_beq (tyOk rfl) rfl rfl rfl rfl)) | ((first | (with_reducible apply rpN) | (with_reducible apply drN)); first | (exact does_beq (tyOk rfl) rfl rfl rfl rfl) | ((with_reducible apply does_store); exact tyOk rfl; exact rfl; exact rfl; (conv => lhs; whnf); exact rfl; exact rfl; (first | exact Nat.le_of_ble_eq_true rfl | omega | (simp; omega))) | ((with_reducible apply does_store_whole); exact tyOk rfl; exact rfl; exact rfl; exact rfl; exact rfl; exact rfl)) | ((first | (with_reducible apply rpGP) | (with_reducible apply drGP)); exact rfl; (first | exact gval_t rfl | exact gval_f rfl | exact gval_gt rfl | exact gval_gf rfl); (focus repeat' (first | exact trivial | exact fun h => h | refine And.intro ?_ ?_ | (intro h; first | exact h | (simp only [Bool.and_eq_true] at h; first | exact h.1 | exact h.1.1 | exact h.1.1.1 | exact h.2) | (rw [h]; rfl) | (rw [hgd0, h]; rfl) | simp_all))); (intro hgd; have hgd0 := hgd; (try simp only [decide_eq_true_eq, Bool.and_eq_true, Bool.not_eq_true', beq_iff_eq] at hgd); first | ((with_reducible apply does_or); exact rfl; exact rfl; exact rfl; (first | exact trivial | exact fun h => h | (intro h; first | exact h | (simp only [Bool.and_eq_true] at h; first | exact h.1 | exact h.1.1 | exact h.1.1.1 | exact h.2) | (rw [h]; rfl) | (rw [hgd0, h]; rfl) | simp_all))) | ((with_reducible apply does_and); exact rfl; exact rfl; exact rfl; (first | exact trivial | exact fun h => h | (intro h; first | exact h | (simp only [Bool.and_eq_true] at h; first | exact h.1 | exact h.1.1 | exact h.1.1.1 | exact h.2) | (rw [h]; rfl) | (rw [hgd0, h]; rfl) | simp_all))))))
  (with_reducible apply ret_ok); (focus (repeat' (first | (with_reducible apply rv_nil) | (with_reducible apply rv_cons) | ((with_reducible apply rv_tmp); exact rfl) | ((with_reducible apply rv_cell); exact rfl; exact rfl; exact tyOk rfl; exact rfl; exact rfl) | ((with_reducible apply rv_rowd); exact rfl; exact rfl; exact tyOk rfl; exact rfl; (first | (with_reducible assumption) | exact rfl | ((try simp only [List.length_map]); first | assumption | omega) | (simp; omega))) | ((with_reducible apply rv_row); exact rfl; exact rfl; exact tyOk rfl; exact rfl; (first | exact Nat.le_of_ble_eq_true rfl | omega | (simp; omega)))))); (first | exact rfl | (focus repeat' (first | exact frzVs_one (frzV_map _ _) | exact rfl | (apply frzVs_cons; (first | exact frzV_map _ _ | exact rfl))))); refine SubD.of_eq ?_
  show bD ((0 : Int) == 0 && (0 : Int) == 0 && (0 : Int) == 0 && (0 : Int) == 0 && (1 : Int) == 1 && (decide (m > 0) || decide (n > 0) || decide (k ≤ 0) && decide (k < 0) == (decide (m < 0) || decide (n < 0)))) = bD true
  have hh : (decide (m > 0) || decide (n > 0) || decide (k ≤ 0) && decide (k < 0) == (decide (m < 0) || decide (n < 0))) = true := by
    by_cases hm : m > 0
    · simp [hm]
    · by_cases hn : n > 0
      · simp [hn]
      · obtain ⟨k1, k2⟩ := t1 (by omega) (by omega)
        have e1 : decide (k ≤ 0) = true := decide_eq_true k1
        have e2 : decide (k < 0) = (decide (m < 0) || decide (n < 0)) := by
          rw [Bool.eq_iff_iff]
          simp only [decide_eq_true_eq, Bool.or_eq_true]
          exact k2
        rw [e1, e2]
        simp
  rw [hh]
  rfl
theorem orderTurns_walk (a b : Raw) (w : World) (_ : a.ok) (_ : b.ok) (hg : GlOk (Lt w) w) : Calls Tryd.prog 3 #[.agg #[.int .i64 a.kind, .int .i64 a.a, .int .i64 a.b, .string a.text], .agg #[.int .i64 b.kind, .int .i64 b.a, .int .i64 b.b, .string b.text]] w fun e w' => e = .returned (.bool true) ∧ Below w.heap.size w w' :=
  calls_of_pc (orderTurns_pc a b) (rep_cons (rep_raw w a) (rep_cons (rep_raw w b) rfl)) hg
theorem orderChain_walk (a b d : Raw) (w : World) (_ : a.ok) (_ : b.ok) (_ : d.ok) (hg : GlOk (Lt w) w) : Calls Tryd.prog 4 #[.agg #[.int .i64 a.kind, .int .i64 a.a, .int .i64 a.b, .string a.text], .agg #[.int .i64 b.kind, .int .i64 b.a, .int .i64 b.b, .string b.text], .agg #[.int .i64 d.kind, .int .i64 d.a, .int .i64 d.b, .string d.text]] w fun e w' => e = .returned (.bool true) ∧ Below w.heap.size w w' :=
  calls_of_pc (orderChain_pc a b d) (rep_cons (rep_raw w a) (rep_cons (rep_raw w b) (rep_cons (rep_raw w d) rfl))) hg
end Go.Proofs.YtclhmdobhlalmaaDoor
