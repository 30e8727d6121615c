/-
  TreeDeep answers true. No condition.
-/
import Derived.Test.YtobgjkkadnihjaaZTrKp
import Derived.Test.YtobgjkkadnihjaaZJoinD
namespace Go.Proofs.Ytobgjkkadnihjaa
set_option linter.unusedSimpArgs false
set_option linter.unusedVariables false
open Go.RowKit

/-- The nodes on the left. -/
theorem left_lay : ∀ (h : Nat) (t : Tn), Sh h t → ∀ (a d : Nat), d ≤ h → ∃ n, (layN a t)[d]? = some n ∧ (d = h → n.kids = []) ∧ (d < h → n.kids[0]? = some (a + d + 1) ∧ 0 < n.kids.length)
  | 0, .node ks vs ts, hs, a, d, hd => by
    obtain ⟨h1, h2, h3, rfl⟩ := hs
    have : d = 0 := by omega
    subst this
    refine ⟨_, by rw [layN]; rfl, fun _ => by rw [layF], fun h => absurd h (Nat.lt_irrefl _)⟩
  | h + 1, .node ks vs ts, hs, a, d, hd => by
    obtain ⟨h1, h2, h3, h4, h5⟩ := hs
    cases ts with
    | nil => simp at h4
    | cons t ts =>
      rw [layN, layF]
      cases d with
      | zero => exact ⟨_, rfl, fun h => (by cases h), fun _ => ⟨rfl, Nat.succ_pos _⟩⟩
      | succ d =>
        obtain ⟨n, e1, e2, e3⟩ := left_lay h t (h5 t (by simp)) (a + 1) d (by omega)
        refine ⟨n, ?_, fun h => e2 (by omega), fun h => ?_⟩
        · rw [List.getElem?_cons_succ]
          exact List.getElem?_append_left (List.getElem?_eq_some_iff.1 e1).1 ▸ e1
        · obtain ⟨e4, e5⟩ := e3 (by omega)
          rw [show a + (d + 1) + 1 = a + 1 + d + 1 by omega]
          exact ⟨e4, e5⟩
theorem sum_pow (m : Nat) : ∀ (l : List Nat), (∀ x ∈ l, m ≤ x + 1) → l.length * m ≤ l.sum + l.length
  | [], _ => by simp
  | x :: l, h => by
    have h1 := h x (by simp)
    have h2 := sum_pow m l fun y hy => h y (by simp [hy])
    rw [List.length_cons, List.sum_cons, Nat.succ_mul]
    omega
theorem deep_items : ∀ (h : Nat) (t : Tn), Sh h t → 2 ^ (h + 1) ≤ (items t).length + 1
  | 0, .node ks vs ts, hs => by
    obtain ⟨h1, h2, h3, rfl⟩ := hs
    rw [items, itemsF, weave_leaf, List.length_zip]
    show 2 ≤ _
    omega
  | h + 1, .node ks vs ts, hs => by
    obtain ⟨h1, h2, h3, h4, h5⟩ := hs
    rw [items, weave_len _ _ (by rw [itemsF_len, List.length_zip]; omega), List.length_zip]
    have := sum_pow (2 ^ (h + 1)) ((itemsF ts).map List.length) fun x hx => by
      rw [itemsF_map] at hx
      obtain ⟨l, hl, rfl⟩ := List.mem_map.1 hx
      obtain ⟨t, ht, rfl⟩ := List.mem_map.1 hl
      exact deep_items h t (h5 t ht)
    rw [List.length_map, itemsF_len, h4] at this
    have h6 : 2 * 2 ^ (h + 1) ≤ (ks.length + 1) * 2 ^ (h + 1) := Nat.mul_le_mul_right _ (by omega)
    have h7 : 2 ^ (h + 1 + 1) = 2 * 2 ^ (h + 1) := by rw [Nat.pow_succ]; omega
    omega
theorem treeDeep_pc (l : List Raw) (hl : l.length ≤ 4611686018427387904) : PC Try.prog 4 [.sl 4 (l.map Raw.cs)] (bD true) := by
  have g1 := grown_pc l 60 hl (Nat.le_refl _)
  have hG := gok_take l 60 (Nat.le_refl _)
  have t1 := treeTells_pc
  have hf := hG.few
  generalize grownO (l.take 60) = o at *
  have hpl : ((itemsO o).map pairE).length = (itemsO o).length := List.length_map _
  unfold pairsD treeO treeD nodesD at *
  generalize l.map Raw.cs = rc at *
  rcases o with _ | ⟨h, t⟩
  · have g1 : PC _ _ _ (.tu [.ag [.sl 3 []], .sl 2 [], bD true]) := g1
    clear hG hf hpl
    refine pc_of_aw Try.func4 rfl (by kernel_rfl) mixed (by kernel_rfl) (by rw [Try.ntmps4]; exact Nat.le_of_ble_eq_true rfl) Try.results4 ?_
    repeat (with_reducible apply aw_seq)
    repeat (first | (with_reducible first | apply aw_seq | apply aw_reg | apply rp_nil | apply ae_norm | apply aw_block) | ((with_reducible apply rp); first | ((with_reducible apply does_call'); exact rfl; exact rfl; exact rfl; exact (g1)) | ((with_reducible apply does_move); (conv => lhs; whnf)) | ((with_reducible apply does_assign); (conv => lhs; whnf)) | ((with_reducible apply does_extract); exact rfl; exact rfl)) | ((with_reducible apply rp1); ((with_reducible apply does_alloc); exact tyOk rfl; exact rfl)) | ((with_reducible apply rpN); ((with_reducible apply does_store_whole); exact tyOk rfl; exact rfl; exact rfl; exact rfl; exact rfl; exact rfl)))
    refine aw_loop (fun n s => n = 0 ∧ s = ⟨[(3, .px 3 0), (4, .d (.sl 2 [])), (5, .d (bD true)), (6, .d (iD 0)), (7, .d (iD 0))], [(3, .var 26 [.d (.sl 3 [])])]⟩) _ _ ?_ ⟨rfl, rfl⟩ ?_
    · refine forget_of [] (by repeat' (first | exact ks_nil | (refine ks_cons rfl (by exact SubA.refl _) ?_))) (by repeat' (first | exact trivial | exact rfl | refine And.intro ?_ ?_)) rfl (by repeat' (first | exact trivial | exact inB_px rfl | refine And.intro ?_ ?_)) (by repeat' (first | exact trivial | exact inB_px rfl | refine And.intro ?_ ?_))
    · rintro n s1 ⟨rfl, rfl⟩
      repeat (first | (with_reducible first | apply aw_seq | apply aw_reg | apply rp_nil | apply ae_norm | apply aw_exit | apply ae_exit | apply be_exit | apply aw_ret | apply re_ret) | ((first | (with_reducible apply rp) | ((with_reducible apply rpG); exact rfl; exact gval_t rfl; (focus repeat' (first | exact trivial | exact fun h => h | refine And.intro ?_ ?_)); intro hgd; have hgd0 := hgd; (try simp only [decide_eq_true_eq, Bool.and_eq_true, Bool.not_eq_true', beq_iff_eq] at hgd))); first | ((with_reducible apply does_call_flat); exact rfl; exact rfl; exact (t1); exact rfl) | (exact does_shl_n 1 0 1 1 rfl rfl rfl rfl rfl (by decide) rfl (by decide)) | ((with_reducible apply does_move); (conv => lhs; whnf)) | ((with_reducible apply does_assign); (conv => lhs; whnf)) | ((with_reducible apply does_and); exact rfl; exact rfl; exact rfl; exact fun h => h) | ((with_reducible apply does_fieldAddr); exact tyOk rfl; exact rfl; exact rfl; decide; exact rfl) | ((with_reducible apply does_load_var); exact tyOk rfl; exact rfl; exact rfl; exact rfl; exact rfl) | ((with_reducible apply does_le); exact rfl; exact rfl) | ((with_reducible apply does_gt); exact rfl; exact rfl) | ((with_reducible apply does_wadd); exact rfl; exact rfl) | ((with_reducible apply does_beq); exact tyOk rfl; exact rfl; exact rfl; exact rfl; exact rfl) | ((with_reducible apply does_len_sl); exact tyOk rfl; exact rfl; exact rfl)) | ((with_reducible apply aw_cond); exact rfl; (focus (intro hd; (cases hd; done))); (intro hd; clear hd)))
      (with_reducible apply ret_ok); (focus (repeat' (first | (with_reducible apply rv_nil) | (with_reducible apply rv_cons) | ((with_reducible apply rv_tmp); exact rfl)))); exact rfl; refine SubD.of_eq ?_
      rfl
  · have hs : Sh h t := hG.good.sh
    have hdeep := deep_items h t hs
    have hleft := left_lay h t hs 0
    have hhigh := high_lay h t hs 0
    have hlf : (items t).length ≤ 60 := hf
    have hcl : ((layN 0 t).map nodeC).length = (layN 0 t).length := List.length_map _
    have hcg : ∀ {j : Nat} {n : Nd}, (layN 0 t)[j]? = some n → ((layN 0 t).map nodeC)[j]? = some [.sl 1 (n.ks.map strE), .sl 1 (n.vs.map intE), .sl 1 (n.kids.map natE)] := fun h => by rw [List.getElem?_map, h]; rfl
    have hlfew := lay_few h t hs 0
    have hpl : ((items t).map pairE).length = (items t).length := hpl
    have g1 : PC _ _ _ (.tu [.ag [.sl 3 ((layN 0 t).map nodeC)], .sl 2 ((items t).map pairE), bD true]) := g1
    have hh5 : h ≤ 5 := by
      by_cases hc : h ≤ 5
      · exact hc
      · have h9 : 2 ^ 7 ≤ 2 ^ (h + 1) := Nat.pow_le_pow_right (by decide) (by omega)
        have : (2 : Nat) ^ 7 = 128 := by decide
        omega
    generalize (items t).map pairE = es at *
    generalize (layN 0 t).map nodeC = cs at *
    clear hG hf
    have hc0 : decide ((cs.length : Int) > 0) = true := decide_eq_true (by omega)
    refine pc_of_aw Try.func4 rfl (by kernel_rfl) mixed (by kernel_rfl) (by rw [Try.ntmps4]; exact Nat.le_of_ble_eq_true rfl) Try.results4 ?_
    repeat (with_reducible apply aw_seq)
    repeat (first | (with_reducible first | apply aw_seq | apply aw_reg | apply rp_nil | apply ae_norm | apply aw_block) | ((with_reducible apply rp); first | ((with_reducible apply does_call'); exact rfl; exact rfl; exact rfl; exact (g1)) | ((with_reducible apply does_move); (conv => lhs; whnf)) | ((with_reducible apply does_assign); (conv => lhs; whnf)) | ((with_reducible apply does_extract); exact rfl; exact rfl)) | ((with_reducible apply rp1); ((with_reducible apply does_alloc); exact tyOk rfl; exact rfl)) | ((with_reducible apply rpN); ((with_reducible apply does_store_whole); exact tyOk rfl; exact rfl; exact rfl; exact rfl; exact rfl; exact rfl)))
    refine aw_loop (fun n s => ∃ d, d ≤ h ∧ n = h - d ∧ s = ⟨[(3, .px 3 0), (4, .d (.sl 2 es)), (5, .d (bD true)), (6, .d (iD d)), (7, .d (iD d))], [(3, .var 26 [.d (.sl 3 cs)])]⟩) _ _ ?_ ⟨0, by omega, rfl, rfl⟩ ?_
    · refine forget_of [] (by repeat' (first | exact ks_nil | (refine ks_cons rfl (by exact SubA.refl _) ?_))) (by repeat' (first | exact trivial | exact rfl | refine And.intro ?_ ?_)) rfl (by repeat' (first | exact trivial | exact inB_px rfl | refine And.intro ?_ ?_)) (by repeat' (first | exact trivial | exact inB_px rfl | refine And.intro ?_ ?_))
    · rintro n s1 ⟨d, hd, rfl, rfl⟩
      obtain ⟨nd, hn, hk1, hk2⟩ := hleft d hd
      have hn2 := hcg hn
      have hdl : d < cs.length := by omega
      have hno : (decide ((d : Int) ≥ (cs.length : Int)) || decide ((d : Int) + 1 > 10)) = false := by rw [decide_eq_false (by omega), decide_eq_false (by omega)]; rfl
      by_cases hdh : d = h
      · have hk := hk1 hdh
        rw [hk] at hn2
        have hn2 : cs[d]? = some [.sl 1 (nd.ks.map strE), .sl 1 (nd.vs.map intE), .sl 1 []] := hn2
        have hpow : 2 ^ (d + 1) ≤ es.length + 1 := by rw [hdh]; omega
        have hp2 : 2 ^ (d + 1) ≤ 64 := Nat.le_trans (Nat.pow_le_pow_right (by decide) (by omega) : 2 ^ (d + 1) ≤ 2 ^ 6) (by decide)
        have hp1 : 2 ≤ 2 ^ (d + 1) := Nat.le_trans (by decide) (Nat.pow_le_pow_right (by decide) (by omega) : 2 ^ 1 ≤ 2 ^ (d + 1))
        generalize hpw : 2 ^ (d + 1) = pw at *
        have hb1 : decide ((es.length : Int) > 0) = true := decide_eq_true (by omega)
        have hb2 : decide ((pw : Int) ≤ (es.length : Int) + 1) = true := decide_eq_true (by omega)
        have hel : es.length ≤ 60 := by omega
        repeat (first | (with_reducible first | apply aw_seq | apply aw_reg | apply rp_nil | apply ae_norm | apply aw_block | apply aw_exit | apply ae_exit | apply be_exit | apply aw_ret | apply re_ret | apply aw_skip) | ((with_reducible apply be_other); exact rfl) | ((first | (with_reducible apply rp) | ((with_reducible apply rpG); exact rfl; (first | exact gval_t rfl | exact gval_f rfl); (focus repeat' (first | exact trivial | exact fun h => h | refine And.intro ?_ ?_)); intro hgd; have hgd0 := hgd; (try simp only [decide_eq_true_eq, Bool.and_eq_true, Bool.not_eq_true', beq_iff_eq] at hgd))); first | ((with_reducible apply does_call_flat); exact rfl; exact rfl; exact (t1); exact rfl) | (exact does_shl_n 1 (d + 1) pw pw hpw.symm rfl rfl rfl (by omega) (by omega) (by omega) (by omega)) | ((with_reducible apply does_move); (conv => lhs; whnf)) | ((with_reducible apply does_assign); (conv => lhs; whnf)) | ((with_reducible apply does_and); exact rfl; exact rfl; exact rfl; exact fun h => h) | ((with_reducible apply does_or); exact rfl; exact rfl; exact rfl; exact fun h => h) | ((with_reducible apply does_fieldAddr); exact tyOk rfl; exact rfl; exact rfl; decide; exact rfl) | ((with_reducible apply does_load_var); exact tyOk rfl; exact rfl; exact rfl; exact rfl; exact rfl) | ((with_reducible apply does_load_elem); exact tyOk rfl; exact rfl; exact rfl; assumption; exact rfl) | ((with_reducible apply does_index_sl); exact tyOk rfl; exact rfl; exact tyOk rfl; exact rfl; exact rfl; exact rfl; exact rfl; omega) | ((with_reducible apply does_eq); exact rfl; exact rfl) | ((with_reducible apply does_le); exact rfl; exact rfl) | ((with_reducible apply does_gt); exact rfl; exact rfl) | ((with_reducible apply does_ge); exact rfl; exact rfl) | ((with_reducible apply does_add); exact rfl; exact rfl; omega; omega) | ((with_reducible apply does_beq); exact tyOk rfl; exact rfl; exact rfl; exact rfl; exact rfl) | ((with_reducible apply does_len_sl); exact tyOk rfl; exact rfl; exact rfl)) | ((with_reducible apply aw_cond); exact rfl; (focus (intro hd; (first | (cases hd; done) | (exfalso; simp at hd; omega) | (exact absurd (hd.symm.trans (by assumption : _ = true)) (by decide))))); (intro hd; clear hd)) | ((with_reducible apply aw_cond); exact rfl; rotate_left; (focus (intro hd; (first | (cases hd; done) | (exfalso; simp at hd; omega) | (exact absurd (hd.symm.trans (by assumption : _ = true)) (by decide))))); (intro hd; clear hd)))
        (with_reducible apply ret_ok); (focus (repeat' (first | (with_reducible apply rv_nil) | (with_reducible apply rv_cons) | ((with_reducible apply rv_tmp); exact rfl)))); exact rfl; refine SubD.of_eq ?_
        rw [hb1, hb2, decide_eq_true (by omega : (d : Int) + 1 > 0)]
        rfl
      · obtain ⟨hk, hkp⟩ := hk2 (by omega)
        have hkl : (nd.kids.map natE).length = nd.kids.length := List.length_map _
        have hk0 : (nd.kids.map natE)[0]? = some [iD (d + 1 : Nat)] := by rw [List.getElem?_map, hk, Nat.zero_add]; rfl
        generalize nd.kids.map natE = kd at *
        have hkne : ((kd.length : Int) == 0) = false := by rw [beq_eq_false_iff_ne]; omega
        have hkl0 : 0 < kd.length := by omega
        repeat (first | (with_reducible first | apply aw_seq | apply aw_reg | apply rp_nil | apply ae_norm | apply aw_block | apply be_norm | apply aw_skip) | ((first | (with_reducible apply rp) | ((with_reducible apply rpG); exact rfl; exact gval_f rfl; (focus repeat' (first | exact trivial | exact fun h => h | refine And.intro ?_ ?_)); intro hgd; have hgd0 := hgd; (try simp only [decide_eq_true_eq, Bool.and_eq_true, Bool.not_eq_true', beq_iff_eq] at hgd))); first | ((with_reducible apply does_move); (conv => lhs; whnf)) | ((with_reducible apply does_assign); (conv => lhs; whnf)) | ((with_reducible apply does_or); exact rfl; exact rfl; exact rfl; exact fun h => h) | ((with_reducible apply does_fieldAddr); exact tyOk rfl; exact rfl; exact rfl; decide; exact rfl) | ((with_reducible apply does_load_var); exact tyOk rfl; exact rfl; exact rfl; exact rfl; exact rfl) | ((with_reducible apply does_load_elem); exact tyOk rfl; exact rfl; exact rfl; assumption; exact rfl) | ((with_reducible apply does_index_sl); exact tyOk rfl; exact rfl; exact tyOk rfl; exact rfl; exact rfl; exact rfl; exact rfl; omega) | ((with_reducible apply does_eq); exact rfl; exact rfl) | ((with_reducible apply does_gt); exact rfl; exact rfl) | ((with_reducible apply does_ge); exact rfl; exact rfl) | ((with_reducible apply does_add); exact rfl; exact rfl; omega; omega) | ((with_reducible apply does_len_sl); exact tyOk rfl; exact rfl; exact rfl)) | ((with_reducible apply aw_cond); exact rfl; (focus (intro hd; (first | (exfalso; simp at hd; omega) | (exact absurd (hd.symm.trans (by assumption : _ = false)) (by decide)) | (exact absurd (hd.symm.trans (by assumption : _ = true)) (by decide))))); (intro hd; clear hd)) | ((with_reducible apply aw_cond); exact rfl; rotate_left; (focus (intro hd; (first | (exfalso; simp at hd; omega) | (exact absurd (hd.symm.trans (by assumption : _ = false)) (by decide)) | (exact absurd (hd.symm.trans (by assumption : _ = true)) (by decide))))); (intro hd; clear hd)))
        refine ⟨h - (d + 1), _, by omega, ?_, d + 1, by omega, rfl, rfl⟩
        refine forget_of [] (by repeat' (first | exact ks_nil | (refine ks_cons rfl (by exact SubA.refl _) ?_))) (by repeat' (first | exact trivial | exact rfl | refine And.intro ?_ ?_)) rfl (by repeat' (first | exact trivial | exact inB_px rfl | refine And.intro ?_ ?_)) (by repeat' (first | exact trivial | exact inB_px rfl | refine And.intro ?_ ?_))
theorem treeDeep_walk (A0 : Option Addr) (l0 : List Raw) (c0 : Nat) (w : World) (r0 : RdR w w.heap.size A0 l0) (k0 : l0.length ≤ c0) (m0 : c0 * 40 ≤ 140737488351232) (hok : ∀ r ∈ l0, r.ok) :
    Calls Try.prog 4 #[.slice A0 l0.length c0] w fun e w' => e = .returned (.bool true) ∧ Below w.heap.size w w' :=
  calls_of_pc (treeDeep_pc l0 (by omega)) (rep_cons (rep_raws r0 k0) rfl)
end Go.Proofs.Ytobgjkkadnihjaa

