/-
  LexBack: tokens are cut as they were shown.
-/
import Derived.Test.YtlpnnnmdkglkcaaDoorZLexW
import Derived.Test.YtlpnnnmdkglkcaaDoorZTokL
import Derived.Test.YtlpnnnmdkglkcaaDoorZJoinD
namespace Go.Proofs.YtlpnnnmdkglkcaaDoor
set_option linter.unusedSimpArgs false
set_option linter.unusedVariables false
open Go.RowKit

theorem shwT_20 {t : Tk} (h : TkL t) (h4 : t.k = 4 → t.t.size ≤ 20) : (shwT t).length ≤ 42 := by
  cases h with
  | name n h =>
    obtain ⟨_, _, _, _, h8, _⟩ := name_get h
    show n.data.toList.length ≤ _
    rw [← ba_len]; omega
  | word n h =>
    have := h.2.1
    show n.data.toList.length ≤ _
    rw [← ba_len]; omega
  | num n h =>
    show (Lib.decDigits (Int.toNat (n : Int))).length ≤ _
    rw [Lib.decDigits_length, Int.toNat_natCast]
    have := nd_le 18 n (by omega)
    omega
  | quote b h1 h2 =>
    have h5 : b.size ≤ 20 := h4 rfl
    show (39 :: (dblL b.data.toList ++ [39])).length ≤ _
    have := dbl_le b.data.toList
    rw [← ba_len] at this
    simp only [List.length_cons, List.length_append, List.length_nil]
    omega
  | hex b h1 h2 =>
    show (35 :: hexL 16 b).length ≤ _
    rw [List.length_cons, hexL_len]
    omega
  | sign s h =>
    have := lexSigns_len h
    show s.data.toList.length ≤ _
    omega
theorem join_20 : ∀ T : List Tk, (∀ t ∈ T, TkL t ∧ (t.k = 4 → t.t.size ≤ 20)) → (joinT T).length ≤ 43 * T.length
  | [], _ => Nat.le_refl _
  | [t], h => by
    have := shwT_20 (h t (by simp)).1 (h t (by simp)).2
    show (shwT t).length ≤ 43 * 1
    omega
  | t :: u :: T, h => by
    have h1 := shwT_20 (h t (by simp)).1 (h t (by simp)).2
    have h2 := join_20 (u :: T) fun x hx => h x (by simp [hx])
    rw [joinT, List.length_append]
    simp only [List.length_cons] at *
    omega
set_option maxHeartbeats 2000000 in
theorem sameTokens_pc (T : List Tk) (hT : T.length ≤ 1000) : PC Tryd.prog 16 [toksD T, toksD T] (bD true) := by
  have hne : ((T.length : Int) != (T.length : Int)) = false := by simp
  refine pc_of_aw Tryd.func16 rfl (by kernel_rfl) mixed (by kernel_rfl) (by rw [Tryd.ntmps16]; exact Nat.le_of_ble_eq_true rfl) Tryd.results16 ?_
  repeat (first | ((first | (with_reducible apply rpGT) | (with_reducible apply drGT) | (with_reducible apply rpGTN) | (with_reducible apply drGTN)); exact rfl; (first | exact gval_t rfl | exact gval_f rfl | exact gval_gt rfl | exact gval_gf rfl); (first | exact rfl | assumption | decide); (focus repeat' (first | exact trivial | exact fun h => h | refine And.intro ?_ ?_ | (intro h; (first | exact h | (simp only [Bool.and_eq_true] at h; (first | exact h.1 | exact h.1.1 | exact h.1.1.1 | exact h.2)) | (rw [h]; rfl) | (rw [hgd0, h]; rfl) | simp_all)))); ((first | (exact does_ne_u hne rfl rfl) | ((with_reducible apply does_move); (conv => lhs; whnf)) | ((with_reducible apply does_assign); (conv => lhs; whnf)) | ((with_reducible apply does_len_map); exact tyOk rfl; exact rfl; exact rfl)); (first | exact lapp_nil _ | exact lapp_1 _ _ | exact lapp_2 _ _ _ | exact lapp_3 _ _ _ _))) | (with_reducible first | apply aw_seq | apply aw_reg | apply rp_nil | apply ae_norm | apply aw_block | apply aw_skip) | ((with_reducible apply rp); first | (exact does_ne_u hne rfl rfl) | ((with_reducible apply does_move); (conv => lhs; whnf)) | ((with_reducible apply does_assign); (conv => lhs; whnf)) | ((with_reducible apply does_len_map); exact tyOk rfl; exact rfl; exact rfl)) | ((with_reducible apply aw_cond); exact rfl; (focus (intro hd; (cases hd; done))); (intro hd; clear hd)))
  refine aw_loop (fun m st => ∃ k : Nat, k ≤ T.length ∧ T.length - k = m ∧ st = ⟨[(0, .d (toksD T)), (1, .d (toksD T)), (12, .d (iD T.length)), (13, .d (iD (k : Nat)))], []⟩) _ _ ?_ ⟨0, Nat.zero_le _, rfl, rfl⟩ ?_
  · refine forget_of [] (by repeat' (first | exact ks_nil | (refine ks_cons rfl (by exact SubA.refl _) ?_))) (by repeat' exact trivial) rfl (by repeat' (first | exact trivial | refine And.intro ?_ ?_)) (by repeat' (first | exact trivial | refine And.intro ?_ ?_))
  · rintro m st ⟨k, hk, rfl, rfl⟩
    rcases Nat.lt_or_ge k T.length with hlt | hge
    · have hll : decide ((k : Int) < (T.length : Nat)) = true := decide_eq_true (by omega)
      obtain ⟨t, ht⟩ : ∃ t, T[k]? = some t := ⟨_, List.getElem?_eq_getElem hlt⟩
      have hgt : (T.map Tk.cs)[k]? = some t.cs := by rw [List.getElem?_map, ht]; rfl
      have he := tkEq (a := t) (b := t) (c := true) (decide_eq_true rfl)
      obtain ⟨tk, tt, tn, tb⟩ := t
      have hgt2 : (T.map Tk.cs)[k]? = some [iD tk, strD tt, iD tn, qD tb] := hgt
      have he2 : eqAll [.i, .s, .i, .i] [iD tk, strD tt, iD tn, qD tb] [iD tk, strD tt, iD tn, qD tb] = some true := he
      clear hgt he ht
      repeat (first | ((first | (with_reducible apply rpGT) | (with_reducible apply drGT) | (with_reducible apply rpGTN) | (with_reducible apply drGTN)); exact rfl; (first | exact gval_t rfl | exact gval_f rfl | exact gval_gt rfl | exact gval_gf rfl); (first | exact rfl | assumption | decide); (focus repeat' (first | exact trivial | exact fun h => h | refine And.intro ?_ ?_ | (intro h; (first | exact h | (simp only [Bool.and_eq_true] at h; (first | exact h.1 | exact h.1.1 | exact h.1.1.1 | exact h.2)) | (rw [h]; rfl) | (rw [hgd0, h]; rfl) | simp_all)))); ((first | (exact does_lt_u hll rfl rfl) | (exact does_neS rfl rfl (tgOk rfl) he2) | ((with_reducible apply does_move); (conv => lhs; whnf)) | ((with_reducible apply does_assign); (conv => lhs; whnf)) | ((with_reducible apply does_load_elem_whole); exact tyOk rfl; exact rfl; exact rfl; assumption; exact rfl) | ((with_reducible apply does_index_sl); exact tyOk rfl; exact rfl; exact tyOk rfl; exact rfl; exact rfl; exact rfl; exact rfl; (simp only [List.length_map, List.length_append, List.length_cons, List.length_nil] at *; omega)) | ((with_reducible apply does_add); exact rfl; exact rfl; omega; omega)); (first | exact lapp_nil _ | exact lapp_1 _ _ | exact lapp_2 _ _ _ | exact lapp_3 _ _ _ _))) | (with_reducible first | apply aw_seq | apply aw_reg | apply rp_nil | apply ae_norm | apply aw_regD | apply aw_block | apply be_norm | apply aw_skip) | ((with_reducible apply dr_nil); (first | kernel_rfl | exact rfl)) | ((with_reducible first | apply rp | apply dr); first | (exact does_lt_u hll rfl rfl) | (exact does_neS rfl rfl (tgOk rfl) he2) | ((with_reducible apply does_move); (conv => lhs; whnf)) | ((with_reducible apply does_assign); (conv => lhs; whnf)) | ((with_reducible apply does_load_elem_whole); exact tyOk rfl; exact rfl; exact rfl; assumption; exact rfl) | ((with_reducible apply does_index_sl); exact tyOk rfl; exact rfl; exact tyOk rfl; exact rfl; exact rfl; exact rfl; exact rfl; (simp only [List.length_map, List.length_append, List.length_cons, List.length_nil] at *; omega)) | ((with_reducible apply does_add); exact rfl; exact rfl; omega; omega)) | ((with_reducible apply aw_cond); exact rfl; (focus (intro hd; (cases hd; done))); (intro hd; clear hd)) | ((with_reducible apply aw_cond); exact rfl; rotate_left; (focus (intro hd; (cases hd; done))); (intro hd; clear hd)))
      refine ⟨_, _, ?_, ?_, k + 1, by omega, rfl, rfl⟩
      · omega
      · refine forget_of [] (by repeat' (first | exact ks_nil | (refine ks_cons rfl (by exact SubA.refl _) ?_))) (by repeat' exact trivial) rfl (by repeat' (first | exact trivial | refine And.intro ?_ ?_)) (by repeat' (first | exact trivial | refine And.intro ?_ ?_))
    · have hll : decide ((k : Int) < (T.length : Nat)) = false := decide_eq_false (by omega)
      repeat (first | ((first | (with_reducible apply rpGT) | (with_reducible apply drGT) | (with_reducible apply rpGTN) | (with_reducible apply drGTN)); exact rfl; (first | exact gval_t rfl | exact gval_f rfl | exact gval_gt rfl | exact gval_gf rfl); (first | exact rfl | assumption | decide); (focus repeat' (first | exact trivial | exact fun h => h | refine And.intro ?_ ?_ | (intro h; (first | exact h | (simp only [Bool.and_eq_true] at h; (first | exact h.1 | exact h.1.1 | exact h.1.1.1 | exact h.2)) | (rw [h]; rfl) | (rw [hgd0, h]; rfl) | simp_all)))); ((first | (exact does_lt_u hll rfl rfl) | ((with_reducible apply does_assign); (conv => lhs; whnf))); (first | exact lapp_nil _ | exact lapp_1 _ _ | exact lapp_2 _ _ _ | exact lapp_3 _ _ _ _))) | (with_reducible first | apply aw_seq | apply aw_reg | apply rp_nil | apply ae_norm | apply aw_exit | apply ae_exit | apply be_exit | apply aw_ret | apply re_ret) | ((with_reducible apply rp); first | (exact does_lt_u hll rfl rfl) | ((with_reducible apply does_assign); (conv => lhs; whnf))) | ((with_reducible apply aw_cond); exact rfl; (focus (intro hd; (cases hd; done))); (intro hd; clear hd)))
      (with_reducible apply ret_ok); (focus (repeat' (first | (with_reducible apply rv_nil) | (with_reducible apply rv_cons) | ((with_reducible apply rv_tmp); exact rfl)))); exact rfl; refine SubD.of_eq ?_
      rfl
theorem toks_lex {T : List Tk} (h : ∀ t ∈ T, TkOk t ∧ t.n < 9223372036854775808 ∧ (t.k = 4 → t.t.size ≤ 20)) : ∀ t ∈ T, TkL t ∧ (t.k = 4 → t.t.size ≤ 20) := fun t ht => ⟨(h t ht).1.lex (h t ht).2.1, (h t ht).2.2⟩
/-- The sign ; alone. -/
theorem semi_show : PC Tryd.prog 14 [.sl 4 [[iD 6, strD ⟨#[59]⟩, iD 0, qD 0]]] (.tu [strD ⟨#[59]⟩, iD 0]) :=
  lexShow_pc [⟨6, ⟨#[59]⟩, 0, 0⟩] (fun t ht => by rw [List.mem_singleton] at ht; subst ht; exact .sign _ (by simp [lexSigns])) (by decide)
set_option maxHeartbeats 4000000 in
theorem lexBack_pc (l : List Raw) : PC Tryd.prog 3 [rawsD l] (bD true) := by
  obtain ⟨T, h1, h2, t1⟩ := tokensOf_ex2 l 6 (by decide)
  have h3 := toks_lex h1
  have hL : ∀ t ∈ T, TkL t := fun t ht => (h3 t ht).1
  have hj := join_20 T h3
  have s1 := lexShow_pc T hL (by omega)
  unfold shD at s1
  rw [if_neg (by omega)] at s1
  have c1 := cut_pc (byS (joinT T)) (by rw [cut_size]; omega) (.ok T) (by
    show cutT (joinT T) = _
    unfold cutT
    rw [if_neg (by omega)]
    exact cut_join T hL (by omega))
  have c1 : PC Tryd.prog 15 [strD (byS (joinT T))] (.tu [toksD T, iD 0, iD 0]) := c1
  have q1 := sameTokens_pc T (by omega)
  have m1 := semi_show
  have hll : T.length ≤ 6 := h2
  clear h1 h3 hL hj
  generalize joinT T = J at *
  have hs : ((⟨#[59]⟩ : ByteArray).toList == (⟨#[59]⟩ : ByteArray).toList) = true := beq_self_eq_true _
  refine pc_of_aw Tryd.func3 rfl (by kernel_rfl) mixed (by kernel_rfl) (by rw [Tryd.ntmps3]; exact Nat.le_of_ble_eq_true rfl) Tryd.results3 ?_
  repeat (first | ((first | (with_reducible apply rpGT) | (with_reducible apply drGT) | (with_reducible apply rpGTN) | (with_reducible apply drGTN)); exact rfl; exact gval_t rfl; (first | exact rfl | assumption | decide); (focus repeat' (first | exact trivial | refine And.intro ?_ ?_)); ((first | ((with_reducible apply does_call'); exact rfl; exact rfl; exact rfl; exact (t1)) | ((with_reducible apply does_call_flat); exact rfl; exact rfl; exact (s1); exact rfl) | ((with_reducible apply does_call'); exact rfl; exact rfl; exact rfl; exact (c1)) | ((with_reducible apply does_call_flat); exact rfl; exact rfl; exact (q1); exact rfl) | ((with_reducible apply does_call_flat); exact rfl; exact rfl; exact (m1); exact rfl) | (exact does_seq_to hs rfl rfl) | ((with_reducible apply does_move); (conv => lhs; whnf)) | ((with_reducible apply does_assign); (conv => lhs; whnf)) | ((with_reducible apply does_and); exact rfl; exact rfl; exact rfl; exact trivial) | ((with_reducible apply does_eq); exact rfl; exact rfl) | ((with_reducible apply does_extract); exact rfl; exact rfl) | ((with_reducible apply does_build); exact tyOk rfl; exact rfl; exact rfl; (focus repeat' (first | exact rfl | refine ⟨_, _, rfl, rfl, Nat.le_of_ble_eq_true rfl, rfl, ?_⟩)); exact rfl) | ((with_reducible apply does_buildSlice); exact tyOk rfl; exact rfl; exact tyOk rfl; exact rfl; exact rfl; (focus repeat' (first | exact trivial | refine And.intro rfl (And.intro rfl ?_))); decide; decide; exact rfl)); (first | exact lapp_nil _ | exact lapp_1 _ _ | exact lapp_2 _ _ _ | exact lapp_3 _ _ _ _))) | (with_reducible first | apply aw_seq | apply aw_reg | apply rp_nil | apply ae_norm | apply aw_ret | apply re_ret) | ((with_reducible apply rp); first | ((with_reducible apply does_call'); exact rfl; exact rfl; exact rfl; exact (t1)) | ((with_reducible apply does_call_flat); exact rfl; exact rfl; exact (s1); exact rfl) | ((with_reducible apply does_call'); exact rfl; exact rfl; exact rfl; exact (c1)) | ((with_reducible apply does_call_flat); exact rfl; exact rfl; exact (q1); exact rfl) | ((with_reducible apply does_call_flat); exact rfl; exact rfl; exact (m1); exact rfl) | (exact does_seq_to hs rfl rfl) | ((with_reducible apply does_move); (conv => lhs; whnf)) | ((with_reducible apply does_assign); (conv => lhs; whnf)) | ((with_reducible apply does_and); exact rfl; exact rfl; exact rfl; exact trivial) | ((with_reducible apply does_eq); exact rfl; exact rfl) | ((with_reducible apply does_extract); exact rfl; exact rfl) | ((with_reducible apply does_build); exact tyOk rfl; exact rfl; exact rfl; (focus repeat' (first | exact rfl | refine ⟨_, _, rfl, rfl, Nat.le_of_ble_eq_true rfl, rfl, ?_⟩)); exact rfl)) | ((with_reducible apply rp1); ((with_reducible apply does_buildSlice); exact tyOk rfl; exact rfl; exact tyOk rfl; exact rfl; exact rfl; (focus repeat' (first | exact trivial | refine And.intro rfl (And.intro rfl ?_))); decide; decide; exact rfl)))
  (with_reducible apply ret_ok); (focus (repeat' (first | (with_reducible apply rv_nil) | (with_reducible apply rv_cons) | ((with_reducible apply rv_tmp); exact rfl)))); exact rfl; refine SubD.of_eq ?_
  rfl
theorem lexBack_walk (A : Option Addr) (l : List Raw) (c : Nat) (w : World) (h : RdR w w.heap.size A l) (hc : l.length ≤ c) (_ : c * 40 ≤ 140737488351232) (hr : ∀ r ∈ l, r.ok) (hg : GlOk (Lt w) w) : Calls Tryd.prog 3 #[.slice A l.length c] w fun e w' => e = .returned (.bool true) ∧ Below w.heap.size w w' :=
  calls_of_pc (lexBack_pc l) (rep_cons (rep_raws h hc) rfl) hg
end Go.Proofs.YtlpnnnmdkglkcaaDoor

