/-
  Where a condition holds of a row, the row's number is within the range of the condition. No program in sight.
-/
import Derived.Test.YtpaccaojgbfjdaaDoorZSpanTight
import Derived.Test.YtpaccaojgbfjdaaDoorZHeapR
namespace Go.Proofs.YtpaccaojgbfjdaaDoor
set_option linter.unusedSimpArgs false
set_option linter.unusedVariables false
open Go.Lib

theorem Gx.i64 {cols : List Cl} {K d : Nat} {x : Ex} (h : Gx cols K d x) : x.i64 := by
  induction h with
  | lit h h0 hk => exact ⟨by omega, by omega⟩
  | col h hk => trivial
  | neg h ih => exact ih
  | len h ih => exact ih
  | not h ih => exact ih
  | isn h ih => exact ih
  | sum ho h h' ih ih' => exact ⟨ih, ih'⟩
  | cmp ho h h' ih ih' => exact ⟨ih, ih'⟩
  | log ho h h' ih ih' => exact ⟨ih, ih'⟩
  | join h h' ih ih' => exact ⟨ih, ih'⟩
  | coal h h' ih ih' => exact ⟨ih, ih'⟩
/-- What a value may be, if the range is this one. -/
def InS (v : Vl) (s : Int × Int) : Prop := (v = nullV ∧ s = (minI, maxI)) ∨ ∃ k, I64 k ∧ v = numV k ∧ s.1 ≤ k ∧ k ≤ s.2
theorem InS.full {v : Vl} (hv : v = nullV ∨ ∃ k, I64 k ∧ v = numV k) : InS v (minI, maxI) := by
  rcases hv with h | ⟨k, hk, h⟩
  · exact .inl ⟨h, rfl⟩
  · refine .inr ⟨k, hk, h, ?_⟩
    unfold I64 at hk
    show -9223372036854775808 ≤ k ∧ k ≤ 9223372036854775807
    omega
theorem InS.and {v : Vl} {s t : Int × Int} (h : InS v s) (h' : InS v t) : InS v ((if s.1 < t.1 then t.1 else s.1), (if t.2 < s.2 then t.2 else s.2)) := by
  rcases h with ⟨h1, h2⟩ | ⟨k, hk, h1, h2⟩
  · rcases h' with ⟨_, h3⟩ | ⟨j, _, h3, _⟩
    · subst h2 h3
      exact .inl ⟨h1, rfl⟩
    · rw [h1] at h3
      cases h3
  · rcases h' with ⟨h3, _⟩ | ⟨j, _, h3, h4⟩
    · rw [h1] at h3
      cases h3
    · rw [h1] at h3
      injection h3 with _ h3
      subst h3
      refine .inr ⟨k, hk, h1, ?_⟩
      dsimp only
      split <;> split <;> omega
/-- A literal is what it tells. -/
theorem lit_ev {cols : List Cl} {row : List Vl} {x : Ex} (hok : x.ok) (hb : litB x = true) (he : (evF cols row x).e = 0) : (evF cols row x).v = numV (litN x) := by
  cases x with
  | lit v =>
    have hk : v.k = 2 := eq_of_beq hb
    exact hok.1.int_n hk
  | col n => cases hb
  | bi op a b => cases hb
  | un op a =>
    have hb : op = 3 ∧ a.op = 1 ∧ a.val.k = 2 := of_decide_eq_true hb
    cases a with
    | lit v =>
      obtain ⟨rfl, _, hk⟩ := hb
      have hk : v.k = 2 := hk
      have hv := hok.2.1.int_n hk
      have hn : litN (.un 3 (.lit v)) = w64 (0 - v.n) := if_pos ⟨rfl, rfl, hk⟩
      rw [hn]
      rw [hv] at he ⊢
      rw [evF, lit_evN] at he ⊢
      dsimp only at he ⊢
      rw [if_pos rfl] at he ⊢
      unfold oneF at he ⊢
      rw [if_neg (by decide), if_neg (by show ¬ (2 : Int) = 0; omega), if_neg (by decide), if_neg (by decide), if_pos rfl] at he ⊢
      split at he
      · cases he
      · rename_i h
        rw [if_neg h]
    | col n => cases hb.2.1
    | un op2 b =>
      have h1 : op2 = 1 := hb.2.1
      have := hok.2.1
      unfold un1 at this
      omega
    | bi op2 b c =>
      have h1 : op2 = 1 := hb.2.1
      have := hok.2.1
      unfold bi2 at this
      omega
theorem isCol_col {c : ByteArray} {x : Ex} (h : isCol c x = true) : x = .col c := by
  cases x with
  | col n =>
    have h : n = c := of_decide_eq_true h
    rw [h]
  | _ => cases h
/-- A comparison of a column with a number that holds. -/
theorem comp_in {op : Nat} (ho : 9 ≤ op ∧ op ≤ 14) {v : Vl} (hv : v = nullV ∨ ∃ k, I64 k ∧ v = numV k) {z : Int} (hz : I64 z) (h : (compF op v (numV z)).v.n = 1) : InS v (boundF op z) := by
  rcases hv with h1 | ⟨k, hk, h1⟩
  · rw [h1] at h
    have e : compF op nullV (numV z) = ⟨nullV, 0⟩ := by
      unfold compF
      rw [if_pos (.inl rfl)]
    rw [e] at h
    exact absurd h (by decide)
  · rw [h1, comp_int ho] at h
    by_cases h10 : op = 10
    · subst h10
      exact InS.full (.inr ⟨k, hk, h1⟩)
    · have hb : cmpB op k z = true := by
        cases hb : cmpB op k z with
        | true => rfl
        | false => rw [hb] at h; exact absurd h (by decide)
      exact .inr ⟨k, hk, h1, (bound_iff (by omega) hk hz).1 hb⟩
theorem comp_in2 {op : Nat} (ho : 9 ≤ op ∧ op ≤ 14) {v : Vl} (hv : v = nullV ∨ ∃ k, I64 k ∧ v = numV k) {z : Int} (hz : I64 z) (h : (compF op (numV z) v).v.n = 1) : InS v (boundF (turnF op) z) := by
  rcases hv with h1 | ⟨k, hk, h1⟩
  · rw [h1] at h
    have e : compF op (numV z) nullV = ⟨nullV, 0⟩ := by
      unfold compF
      rw [if_pos (.inr rfl)]
    rw [e] at h
    exact absurd h (by decide)
  · rw [h1, comp_int ho] at h
    by_cases h10 : op = 10
    · subst h10
      exact InS.full (.inr ⟨k, hk, h1⟩)
    · have ho2 : op = 9 ∨ op = 11 ∨ op = 12 ∨ op = 13 ∨ op = 14 := by omega
      have hb : cmpB op z k = true := by
        cases hb : cmpB op z k with
        | true => rfl
        | false => rw [hb] at h; exact absurd h (by decide)
      rw [cmp_turn ho2] at hb
      exact .inr ⟨k, hk, h1, (bound_iff (turn_in ho2) hk hz).1 hb⟩
theorem part_two {v : Vl} (h : Gd v) (hk : v.k ≤ 1) (hp : 2 ≤ partI v) : v.n = 1 := by
  cases h with
  | null => exact absurd hp (by decide)
  | bool n h =>
    rcases h with rfl | rfl
    · exact absurd hp (by decide)
    · rfl
  | int n => have hk : (2 : Int) ≤ 1 := hk; omega
  | real b h1 h2 h3 => have hk : (3 : Int) ≤ 1 := hk; omega
  | text t h1 h2 => have hk : (4 : Int) ≤ 1 := hk; omega
theorem log_true {v w : Vl} (hv : Gd v) (hw : Gd w) (h : (logF 15 v w).v.n = 1) : v.n = 1 ∧ w.n = 1 := by
  unfold logF at h
  split at h
  · rename_i hk
    rw [if_neg (by decide)] at h
    have h1 := partI_in hv hk.1
    have h2 := partI_in hw hk.2
    have h3 : ¬ min (partI v) (partI w) = 0 := fun e => by rw [e] at h; exact absurd h (by decide)
    have h4 : ¬ min (partI v) (partI w) = 1 := fun e => by rw [e] at h; exact absurd h (by decide)
    exact ⟨part_two hv hk.1 (by omega), part_two hw hk.2 (by omega)⟩
  · exact absurd h (by decide)
theorem short_cmp {op : Nat} (h : 9 ≤ op ∧ op ≤ 14) (v : Vl) : shortB op v = false := by
  unfold shortB
  have h1 : (op == 20) = false := beq_eq_false_iff_ne.2 (by omega)
  have h2 : (op == 15) = false := beq_eq_false_iff_ne.2 (by omega)
  have h3 : (op == 16) = false := beq_eq_false_iff_ne.2 (by omega)
  rw [h1, h2, h3]; rfl
theorem ev_two {cols : List Cl} {row : List Vl} {op : Nat} {a b : Ex} (he : (evF cols row (.bi op a b)).e = 0) (hs : shortB op (evF cols row a).v = false) : (evF cols row a).e = 0 ∧ (evF cols row b).e = 0 ∧ evF cols row (.bi op a b) = twoF op (evF cols row a).v (evF cols row b).v := by
  rw [evF] at he ⊢
  rw [hs] at he ⊢
  by_cases h1 : (evF cols row a).e = 0
  · by_cases h2 : (evF cols row b).e = 0
    · exact ⟨h1, h2, by rw [if_pos h1, if_neg (by decide), if_pos h2]⟩
    · rw [if_pos h1, if_neg (by decide), if_neg h2] at he
      exact absurd he h2
  · rw [if_neg h1] at he
    exact absurd he h1
theorem two_comp {op : Nat} (h : 9 ≤ op ∧ op ≤ 14) (v w : Vl) : twoF op v w = compF op v w := by
  unfold twoF
  rw [if_neg (by omega), if_neg (by omega), if_neg (by omega), if_neg (by omega)]
theorem span_in {cols : List Cl} {row : List Vl} (hr : ∀ v ∈ row, Gd v) {c : ByteArray} {v : Vl} (hc : evF cols row (.col c) = ⟨v, 0⟩) (hv : v = nullV ∨ ∃ k, I64 k ∧ v = numV k) :
    ∀ x : Ex, x.ok → x.i64 → (evF cols row x).e = 0 → (evF cols row x).v.n = 1 → InS v (spanF c x)
  | .lit _, _, _, _, _ => InS.full hv
  | .col _, _, _, _, _ => InS.full hv
  | .un _ _, _, _, _, _ => InS.full hv
  | .bi op a b, hok, hi, he, hn => by
    have ih1 := span_in hr hc hv a hok.2.1 hi.1
    have ih2 := span_in hr hc hv b hok.2.2 hi.2
    rw [spanF]
    by_cases h15 : op = 15
    · subst h15
      rw [if_pos rfl]
      cases hs : shortB 15 (evF cols row a).v with
      | true =>
        exfalso
        rw [evF, hs] at hn he
        by_cases h1 : (evF cols row a).e = 0
        · rw [if_pos h1, if_pos rfl] at hn
          have hn : (evF cols row a).v.n = 1 := hn
          unfold shortB at hs
          rw [hn] at hs
          simp at hs
        · rw [if_neg h1] at he
          exact h1 he
      | false =>
        obtain ⟨h1, h2, h3⟩ := ev_two he hs
        rw [h3] at hn
        have hn : (logF 15 (evF cols row a).v (evF cols row b).v).v.n = 1 := hn
        obtain ⟨n1, n2⟩ := log_true (evF_gd hr hok.2.1) (evF_gd hr hok.2.2) hn
        exact (ih1 h1 n1).and (ih2 h2 n2)
    · rw [if_neg h15]
      by_cases ho : op < 9 ∨ op > 14
      · rw [if_pos ho]
        exact InS.full hv
      · rw [if_neg ho]
        have ho : 9 ≤ op ∧ op ≤ 14 := by omega
        obtain ⟨h1, h2, h3⟩ := ev_two he (short_cmp ho _)
        rw [h3, two_comp ho] at hn
        by_cases hb : (litB b && isCol c a) = true
        · rw [if_pos hb]
          rw [Bool.and_eq_true] at hb
          rw [isCol_col hb.2, hc, lit_ev hok.2.2 hb.1 h2] at hn
          exact comp_in ho hv (litN_ok hi.2) hn
        · rw [if_neg hb]
          by_cases hb : (litB a && isCol c b) = true
          · rw [if_pos hb]
            rw [Bool.and_eq_true] at hb
            rw [isCol_col hb.2, hc, lit_ev hok.2.1 hb.1 h1] at hn
            exact comp_in2 ho hv (litN_ok hi.1) hn
          · rw [if_neg hb]
            exact InS.full hv
/-! ### the law -/
abbrev colsS : List Cl := [⟨kN, 2, false⟩, ⟨aN, 2, true⟩]
theorem colsS_ok : ColsOk colsS := by
  refine ⟨by decide, ?_, ?_, ?_⟩
  · intro c h
    simp only [List.mem_cons, List.not_mem_nil, or_false] at h
    rcases h with rfl | rfl
    · show nameB kN.data.toList = true; decide
    · show nameB aN.data.toList = true; decide
  · intro c h
    simp only [List.mem_cons, List.not_mem_nil, or_false] at h
    rcases h with rfl | rfl <;> decide
  · rw [List.pairwise_cons]
    refine ⟨?_, List.pairwise_singleton _ _⟩
    intro c h
    rw [List.mem_singleton] at h
    subst h
    decide
/-- What the second column of a row has. -/
noncomputable abbrev aV (l : List Raw) (n : Nat) : Vl := cellF 0 1 ⟨aN, 2, true⟩ (nextF l (n + 1))
theorem aV_in (l : List Raw) (n : Nat) : aV l n = nullV ∨ ∃ k, I64 k ∧ aV l n = numV k := by
  unfold aV cellF
  rw [if_neg (by decide)]
  split
  · exact .inl rfl
  · rw [if_pos rfl]
    refine .inr ⟨_, ?_, rfl⟩
    unfold I64
    omega
theorem rowS_eq (l : List Raw) (n : Nat) (key : Int) : rowF l n key 0 colsS = [numV key, aV l n] := rfl
theorem colS_ev (l : List Raw) (n : Nat) (key : Int) : evF colsS (rowF l n key 0 colsS) (.col aN) = ⟨aV l n, 0⟩ := by
  rw [rowS_eq]
  rfl
/-- What the law asks. -/
theorem spanSound_law (l : List Raw) (n : Nat) (key : Int) (x : Ex) (hok : x.ok) (hi : x.i64) (he : (evF colsS (rowF l n key 0 colsS) x).e = 0) (hn : (evF colsS (rowF l n key 0 colsS) x).v.n = 1) :
    ((spanO aN x).1 ≤ (aV l n).n ∧ (aV l n).n ≤ (spanO aN x).2) ∨ ((spanO aN x).1 = -9223372036854775808 ∧ (spanO aN x).2 = 9223372036854775807) := by
  have h := span_in (rowF_fit l n key colsS_ok (fun c h => by
    have h : (⟨kN, 2, false⟩ : Cl) = c := Option.some.inj h
    rw [← h])).gd (colS_ev l n key) (aV_in l n) x hok hi he hn
  unfold spanO
  rcases h with ⟨h1, h2⟩ | ⟨k, hk, h1, h2⟩
  · rw [h2, if_neg (by decide)]
    exact .inr ⟨rfl, rfl⟩
  · rw [h1, if_neg (by omega)]
    exact .inl h2
end Go.Proofs.YtpaccaojgbfjdaaDoor

