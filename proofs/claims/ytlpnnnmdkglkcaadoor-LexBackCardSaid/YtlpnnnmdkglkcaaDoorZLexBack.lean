/-
  LexBack: tokens are cut as they were shown.
-/
import Derived.Test.YtlpnnnmdkglkcaaDoorZLexW
import Derived.Test.YtlpnnnmdkglkcaaDoorZTokL
import Derived.Test.YtlpnnnmdkglkcaaDoorZJoinD
set_option linter.unusedSimpArgs false
set_option linter.unusedVariables false
namespace Go.Proofs.YtlpnnnmdkglkcaaDoor
open Go.RowKit

theorem shwT_20 {t : Tk} (h : TkL t) (h4 : t.k = 4 → t.t.size ≤ 20) : (shwT t).length ≤ 42 := by
  cases h with
  | name n h =>
    obtain ⟨_, _, _, _, h8, _⟩ := qDX h
    show n.data.toList.length ≤ _
    rw [← qDg]; omega
  | word n h =>
    have := h.2.1
    show n.data.toList.length ≤ _
    rw [← qDg]; omega
  | num n h =>
    show (Lib.decDigits (Int.toNat (n : Int))).length ≤ _
    rw [Lib.decDigits_length, Int.toNat_natCast]
    have := nd_le 18 n (by omega)
    omega
  | quote b h1 h2 =>
    have h5 : b.size ≤ 20 := h4 rfl
    show (39 :: (dblL b.data.toList ++ [39])).length ≤ _
    have := dbl_le b.data.toList
    rw [← qDg] at this
    simp only [List.length_cons, List.length_append, List.length_nil]
    omega
  | hex b h1 h2 =>
    show (35 :: hexL 16 b).length ≤ _
    rw [List.length_cons, qCT]
    omega
  | sign s h =>
    have := qEf h
    show s.data.toList.length ≤ _
    omega
theorem join_20 : ∀ T : List Tk, (∀ t ∈ T, TkL t ∧ (t.k = 4 → t.t.size ≤ 20)) → (qBG T).length ≤ 43 * T.length
  | [], _ => Nat.le_refl _
  | [t], h => by
    have := shwT_20 (h t (by simp)).1 (h t (by simp)).2
    show (shwT t).length ≤ 43 * 1
    omega
  | t :: u :: T, h => by
    have h1 := shwT_20 (h t (by simp)).1 (h t (by simp)).2
    have h2 := join_20 (u :: T) fun x hx => h x (by simp [hx])
    rw [qBG, List.length_append]
    simp only [List.length_cons] at *
    omega
set_option maxHeartbeats 2000000 in
theorem sameTokens_pc (T : List Tk) (hT : T.length ≤ 1000) : PC Tryd.prog 16 [toksD T, toksD T] (bD true) := by
  have hne : ((T.length : Int) != (T.length : Int)) = false := by simp
  refine qAM Tryd.func16 rfl (by kernel_rfl) mixed (by kernel_rfl) (qle (by kernel_rfl)) Tryd.results16 ?_
  repeat (first | ((first | (with_reducible apply rpGT) | (with_reducible apply drGT) | (with_reducible apply qAP) | (with_reducible apply qAO)); eq_refl; (first | exact qAo rfl | exact qAt rfl | exact qAw rfl | exact qAy rfl); (first | eq_refl | assumption | decide); (focus repeat' (first | exact trivial | exact id | apply And.intro | (intro h; (first | exact h | (simp only [Bool.and_eq_true] at h; (first | exact h.1 | exact h.1.1 | exact h.1.1.1 | exact h.2)) | (rw [h]; rfl) | (rw [zh, h]; rfl) | simp_all)))); ((first | (exact qBT hne rfl rfl) | ((with_reducible first | apply qAc | apply qAa); (conv => lhs; whnf)) | ((with_reducible apply qBY); exact tyOk rfl; eq_refl; eq_refl)); (first | exact qAh _ | exact qAp _ _ | exact qAr _ _ _ | exact qAq _ _ _ _))) | (with_reducible first | apply qAl | apply qAm | apply qAn | apply qAk | apply qAs | apply qAC) | ((with_reducible apply rp); first | (exact qBT hne rfl rfl) | ((with_reducible apply qAc); (conv => lhs; whnf)) | ((with_reducible apply qAa); (conv => lhs; whnf)) | ((with_reducible apply qBY); exact tyOk rfl; eq_refl; eq_refl)) | ((with_reducible apply qBl); eq_refl; eq_refl))
  refine qB5 (fun m st => ∃ k : Nat, k ≤ T.length ∧ T.length - k = m ∧ st = ⟨[(0, .d (toksD T)), (1, .d (toksD T)), (12, .d (iD T.length)), (13, .d (iD (k : Nat)))], []⟩) _ _ ?_ ⟨0, Nat.zero_le _, rfl, rfl⟩ ?_
  · refine qAT [] (by repeat' (first | exact qA0 | (refine qAH rfl (by exact SubA.refl _) ?_))) (kpX rfl) rfl (insS rfl) (insX rfl)
  · rintro m st ⟨k, hk, rfl, rfl⟩
    rcases Nat.lt_or_ge k T.length with hlt | hge
    · have hll : decide ((k : Int) < (T.length : Nat)) = true := decide_eq_true (by omega)
      obtain ⟨t, ht⟩ : ∃ t, T[k]? = some t := ⟨_, List.getElem?_eq_getElem hlt⟩
      have hgt : (T.map Tk.cs)[k]? = some t.cs := by rw [List.getElem?_map, ht]; rfl
      have he := tkEq (a := t) (b := t) (c := true) (decide_eq_true rfl)
      obtain ⟨tk, tt, tn, tb⟩ := t
      have hgt2 : (T.map Tk.cs)[k]? = some [iD tk, strD tt, iD tn, qD tb] := hgt
      have he2 : qEn [.i, .s, .i, .i] [iD tk, strD tt, iD tn, qD tb] [iD tk, strD tt, iD tn, qD tb] = some true := he
      clear hgt he ht
      repeat (first | ((first | (with_reducible apply rpGT) | (with_reducible apply drGT) | (with_reducible apply qAP) | (with_reducible apply qAO)); eq_refl; (first | exact qAo rfl | exact qAt rfl | exact qAw rfl | exact qAy rfl); (first | eq_refl | assumption | decide); (focus repeat' (first | exact trivial | exact id | apply And.intro | (intro h; (first | exact h | (simp only [Bool.and_eq_true] at h; (first | exact h.1 | exact h.1.1 | exact h.1.1.1 | exact h.2)) | (rw [h]; rfl) | (rw [zh, h]; rfl) | simp_all)))); ((first | (exact qA4 hll rfl rfl) | (exact does_neS rfl rfl (tgOk rfl) he2) | ((with_reducible first | apply qAc | apply qAa); (conv => lhs; whnf)) | ((with_reducible apply qA3); exact tyOk rfl; eq_refl; eq_refl; assumption; eq_refl) | ((with_reducible apply qBv); exact tyOk rfl; eq_refl; exact tyOk rfl; (iterate 4 eq_refl); (simp only [List.length_map, List.length_append, List.length_cons, List.length_nil] at *; omega)) | ((with_reducible apply qA1); eq_refl; eq_refl; omega; omega)); (first | exact qAh _ | exact qAp _ _ | exact qAr _ _ _ | exact qAq _ _ _ _))) | (with_reducible first | apply qAl | apply qAm | apply qAn | apply qAk | apply qBi | apply qAs | apply qA2 | apply qAC) | ((with_reducible apply qBt); (first | kernel_rfl | eq_refl)) | ((with_reducible first | apply rp | apply dr); first | (exact qA4 hll rfl rfl) | (exact does_neS rfl rfl (tgOk rfl) he2) | ((with_reducible first | apply qAc | apply qAa); (conv => lhs; whnf)) | ((with_reducible apply qA3); exact tyOk rfl; eq_refl; eq_refl; assumption; eq_refl) | ((with_reducible apply qBv); exact tyOk rfl; eq_refl; exact tyOk rfl; (iterate 4 eq_refl); (simp only [List.length_map, List.length_append, List.length_cons, List.length_nil] at *; omega)) | ((with_reducible apply qA1); eq_refl; eq_refl; omega; omega)) | ((with_reducible apply qBl); eq_refl; eq_refl) | ((with_reducible apply qBr); eq_refl; eq_refl))
      refine ⟨_, _, ?_, ?_, k + 1, by omega, rfl, rfl⟩
      · omega
      · refine qAT [] (by repeat' (first | exact qA0 | (refine qAH rfl (by exact SubA.refl _) ?_))) (kpX rfl) rfl (insS rfl) (insX rfl)
    · have hll : decide ((k : Int) < (T.length : Nat)) = false := decide_eq_false (by omega)
      repeat (first | ((first | (with_reducible apply rpGT) | (with_reducible apply drGT) | (with_reducible apply qAP) | (with_reducible apply qAO)); eq_refl; (first | exact qAo rfl | exact qAt rfl | exact qAw rfl | exact qAy rfl); (first | eq_refl | assumption | decide); (focus repeat' (first | exact trivial | exact id | apply And.intro | (intro h; (first | exact h | (simp only [Bool.and_eq_true] at h; (first | exact h.1 | exact h.1.1 | exact h.1.1.1 | exact h.2)) | (rw [h]; rfl) | (rw [zh, h]; rfl) | simp_all)))); ((first | (exact qA4 hll rfl rfl) | ((with_reducible apply qAa); (conv => lhs; whnf))); (first | exact qAh _ | exact qAp _ _ | exact qAr _ _ _ | exact qAq _ _ _ _))) | (with_reducible first | apply qAl | apply qAm | apply qAn | apply qAk | apply qBJ | apply qBL | apply qBK | apply qAF | apply qAX) | ((with_reducible apply rp); first | (exact qA4 hll rfl rfl) | ((with_reducible apply qAa); (conv => lhs; whnf))) | ((with_reducible apply qBl); eq_refl; eq_refl))
      (with_reducible apply qAY); (focus (repeat' (first | (with_reducible apply qAE) | (with_reducible apply qAx) | ((with_reducible apply qAI); eq_refl)))); eq_refl; refine SubD.of_eq ?_
      rfl
theorem toks_lex {T : List Tk} (h : ∀ t ∈ T, TkOk t ∧ t.n < 9223372036854775808 ∧ (t.k = 4 → t.t.size ≤ 20)) : ∀ t ∈ T, TkL t ∧ (t.k = 4 → t.t.size ≤ 20) := fun t ht => ⟨(h t ht).1.lex (h t ht).2.1, (h t ht).2.2⟩
theorem semi_show : PC Tryd.prog 14 [.sl 4 [[iD 6, strD ⟨#[59]⟩, iD 0, qD 0]]] (.tu [strD ⟨#[59]⟩, iD 0]) :=
  lexShow_pc [⟨6, ⟨#[59]⟩, 0, 0⟩] (fun t ht => by rw [List.mem_singleton] at ht; subst ht; exact .sign _ (by simp [qBH])) (by decide)
set_option maxHeartbeats 4000000 in
theorem lexBack_pc (l : List Raw) : PC Tryd.prog 3 [rawsD l] (bD true) := by
  obtain ⟨T, h1, h2, t1⟩ := tokensOf_ex2 l 6 (by decide)
  have h3 := toks_lex h1
  have hL : ∀ t ∈ T, TkL t := fun t ht => (h3 t ht).1
  have hj := join_20 T h3
  have s1 := lexShow_pc T hL (by omega)
  unfold shD at s1
  rw [if_neg (by omega)] at s1
  have c1 := cut_pc (byS (qBG T)) (by rw [qDW]; omega) (.ok T) (by
    show cutT (qBG T) = _
    unfold cutT
    rw [if_neg (by omega)]
    exact cut_join T hL (by omega))
  have c1 : PC Tryd.prog 15 [strD (byS (qBG T))] (.tu [toksD T, iD 0, iD 0]) := c1
  have q1 := sameTokens_pc T (by omega)
  have m1 := semi_show
  have hll : T.length ≤ 6 := h2
  clear h1 h3 hL hj
  generalize qBG T = J at *
  have hs : ((⟨#[59]⟩ : ByteArray).toList == (⟨#[59]⟩ : ByteArray).toList) = true := beq_self_eq_true _
  refine qAM Tryd.func3 rfl (by kernel_rfl) mixed (by kernel_rfl) (qle (by kernel_rfl)) Tryd.results3 ?_
  repeat (first | ((first | (with_reducible apply rpGT) | (with_reducible apply drGT) | (with_reducible apply qAP) | (with_reducible apply qAO)); eq_refl; exact qAo rfl; (first | eq_refl | assumption | decide); (focus repeat' (first | exact trivial | apply And.intro)); ((first | ((with_reducible apply qCD); (iterate 3 eq_refl); exact (t1)) | ((with_reducible apply qAd); eq_refl; eq_refl; (first | exact (s1) | exact (q1) | exact (m1)); eq_refl) | ((with_reducible apply qCD); (iterate 3 eq_refl); exact (c1)) | (exact qCn hs rfl rfl) | ((with_reducible first | apply qAc | apply qAa); (conv => lhs; whnf)) | ((with_reducible first | apply qAz | apply qAA | apply qAv) <;> first | eq_refl | exact trivial) | ((with_reducible apply qAQ); exact tyOk rfl; eq_refl; eq_refl; (focus repeat' (first | eq_refl | refine ⟨_, _, rfl, rfl, qle rfl, rfl, ?_⟩)); eq_refl) | ((with_reducible apply qAV); exact tyOk rfl; eq_refl; exact tyOk rfl; eq_refl; eq_refl; (focus repeat' (first | exact trivial | refine And.intro rfl (And.intro rfl ?_))); decide; decide; eq_refl)); (first | exact qAh _ | exact qAp _ _ | exact qAr _ _ _ | exact qAq _ _ _ _))) | (with_reducible first | apply qAl | apply qAm | apply qAn | apply qAk | apply qAF | apply qAX) | ((with_reducible apply rp); first | ((with_reducible apply qCD); (iterate 3 eq_refl); exact (t1)) | ((with_reducible apply qAd); eq_refl; eq_refl; exact (s1); eq_refl) | ((with_reducible apply qCD); (iterate 3 eq_refl); exact (c1)) | ((with_reducible apply qAd); eq_refl; eq_refl; exact (q1); eq_refl) | ((with_reducible apply qAd); eq_refl; eq_refl; exact (m1); eq_refl) | (exact qCn hs rfl rfl) | ((with_reducible apply qAc); (conv => lhs; whnf)) | ((with_reducible apply qAa); (conv => lhs; whnf)) | ((with_reducible apply qAz); (iterate 3 eq_refl); exact trivial) | ((with_reducible apply qAA); eq_refl; eq_refl) | ((with_reducible apply qAv); eq_refl; eq_refl) | ((with_reducible apply qAQ); exact tyOk rfl; eq_refl; eq_refl; (focus repeat' (first | eq_refl | refine ⟨_, _, rfl, rfl, qle rfl, rfl, ?_⟩)); eq_refl)) | ((with_reducible apply rp1); ((with_reducible apply qAV); exact tyOk rfl; eq_refl; exact tyOk rfl; eq_refl; eq_refl; (focus repeat' (first | exact trivial | refine And.intro rfl (And.intro rfl ?_))); decide; decide; eq_refl)))
  (with_reducible apply qAY); (focus (repeat' (first | (with_reducible apply qAE) | (with_reducible apply qAx) | ((with_reducible apply qAI); eq_refl)))); eq_refl; refine SubD.of_eq ?_
  rfl
theorem lexBack_walk (A : Option Addr) (l : List Raw) (c : Nat) (w : World) (h : RdR w w.heap.size A l) (hc : l.length ≤ c) (_ : c * 40 ≤ 140737488351232) (hr : ∀ r ∈ l, r.ok) (hg : GlOk (Lt w) w) : Calls Tryd.prog 3 #[.slice A l.length c] w fun e w' => e = .returned (.bool true) ∧ Below w.heap.size w w' :=
  calls_of_pc (lexBack_pc l) (rep_cons (rep_raws h hc) rfl) hg
end Go.Proofs.YtlpnnnmdkglkcaaDoor

