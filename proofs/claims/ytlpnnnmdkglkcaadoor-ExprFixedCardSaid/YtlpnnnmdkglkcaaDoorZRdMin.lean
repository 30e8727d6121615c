/-
  What is read is shown in at most as many tokens, and may be; reading comes to an end. No program in sight.
-/
import Derived.Test.YtlpnnnmdkglkcaaDoorZParseE
set_option linter.unusedSimpArgs false
set_option linter.unusedVariables false
namespace Go.Proofs.YtlpnnnmdkglkcaaDoor

theorem shw_mono (x : Ex) {k l : Nat} (h : k ≤ l) : (shw x k).length ≤ (shw x l).length := by
  unfold shw qCg
  by_cases h1 : lvl x.op < k
  · rw [if_pos h1, if_pos (by omega)]
    exact Nat.le_refl _
  · rw [if_neg h1]
    split
    · rw [List.length_cons, List.length_append]; omega
    · exact Nat.le_refl _
theorem qFo {x : Ex} {k : Nat} (h : k ≤ lvl x.op) : shw x k = shwB x := if_neg (by omega)
def qDD (T : List Tk) (lv i : Nat) : Pr → Prop
  | .ok x j => i + (shw x lv).length ≤ j ∧ j ≤ T.length ∧ x.ok
  | .bad p e => p ≤ T.length ∧ (e = 3 ∨ e = 4)
  | .out => True
theorem qEc {T : List Tk} {lv i p : Nat} (h : p ≤ T.length) : qDD T lv i (qD4 T p) := by
  refine ⟨h, ?_⟩
  split
  · exact .inr rfl
  · exact .inl rfl
theorem qEP {T : List Tk} {p : Nat} : qD4 T p ≠ .out := by unfold qD4; simp
theorem qCT {T : List Tk} {lv i p : Nat} {t : Tk} {K : Nat → Pr} (h : p ≤ T.length) (hK : p + 1 ≤ T.length → qDD T lv i (K (p + 1)) ) : qDD T lv i (qCy T t p K) := by
  unfold qCy
  split
  · rename_i ht
    exact hK (List.getElem?_eq_some_iff.1 ht).1
  · exact qEc h
theorem qDc {T : List Tk} {p : Nat} {t : Tk} {K : Nat → Pr} (hK : p + 1 ≤ T.length → K (p + 1) ≠ .out) : qCy T t p K ≠ .out := by
  unfold qCy
  split
  · rename_i ht
    exact hK (List.getElem?_eq_some_iff.1 ht).1
  · exact qEP
theorem qCn {T : List Tk} {lv i lv' i' : Nat} {r : Pr} {f : Ex → Nat → Pr} (h : qDD T lv' i' r) (hf : ∀ e k, i' + (shw e lv').length ≤ k → k ≤ T.length → e.ok → qDD T lv i (f e k)) : qDD T lv i (r.then f) := by
  cases r with
  | ok e k => exact hf e k h.1 h.2.1 h.2.2
  | bad p e => exact h
  | out => trivial
theorem qCL {T : List Tk} {lv' i' : Nat} {r : Pr} {f : Ex → Nat → Pr} (h : qDD T lv' i' r) (hr : r ≠ .out) (hf : ∀ e k, i' + (shw e lv').length ≤ k → k ≤ T.length → e.ok → f e k ≠ .out) : r.then f ≠ .out := by
  cases r with
  | ok e k => exact hf e k h.1 h.2.1 h.2.2
  | bad p e => simp [Pr.then]
  | out => exact absurd rfl hr
theorem pick_get {T : List Tk} {k op : Nat} : ∀ {ops : List Nat}, qBY T ops k = some op → op ∈ ops ∧ k + 1 ≤ T.length
  | o :: l, h => by
    unfold qBY at h
    split at h
    · rename_i ht
      injection h with h
      subst h
      exact ⟨List.mem_cons_self, (List.getElem?_eq_some_iff.1 ht).1⟩
    · obtain ⟨h1, h2⟩ := pick_get h
      exact ⟨List.mem_cons_of_mem _ h1, h2⟩
theorem qES {T : List Tk} {next : Nat → Pr} {L i : Nat} (hc : qBK L) (hn : ∀ p, p ≤ T.length → qDD T (L + 1) p (next p)) : ∀ (g : Nat) (e : Ex) (k : Nat), k ≤ T.length → e.ok → i + (shw e L).length ≤ k →
    qDD T L i (chn T next (opsL L) g e k) ∧ (T.length - k < g → (∀ p, k ≤ p → p ≤ T.length → next p ≠ .out) → chn T next (opsL L) g e k ≠ .out)
  | 0, e, k, _, _, _ => ⟨trivial, fun h => by omega⟩
  | g + 1, e, k, hk, he, hs => by
    unfold chn
    cases hp : qBY T (opsL L) k with
    | none => exact ⟨⟨hs, hk, he⟩, fun _ _ => by simp⟩
    | some op =>
      obtain ⟨hm, hlt⟩ := pick_get hp
      obtain ⟨o1, o2, o3⟩ := (qEe hc).1 hm
      have hg := hn (k + 1) hlt
      have hstep : ∀ e2 k2, k + 1 + (shw e2 (L + 1)).length ≤ k2 → i + (shw (.bi op e e2) L).length ≤ k2 := fun e2 k2 h => by
        have hl4 : qCB (lvl op) = lvl op := by unfold qCB; rw [o3]; unfold qBK at hc; rw [if_neg (by omega)]
        have : shw (.bi op e e2) L = shw e L ++ qBN op :: shw e2 (L + 1) := by
          rw [qFo (by show L ≤ lvl op; omega)]
          unfold shwB
          rw [if_neg o2, hl4, o3]
          rfl
        rw [this, List.length_append, List.length_cons]
        omega
      refine ⟨qCn hg fun e2 k2 h1 h2 h3 => (qES hc hn g (.bi op e e2) k2 h2 ⟨o1, he, h3⟩ (hstep e2 k2 h1)).1, fun hgg hno => ?_⟩
      refine qCL hg (hno (k + 1) (by omega) hlt) fun e2 k2 h1 h2 h3 => ?_
      have := List.length_pos_iff.2 (wrap_ne e2.op (L + 1) (qDl e2))
      have : 0 < (shw e2 (L + 1)).length := this
      exact (qES hc hn g (.bi op e e2) k2 h2 ⟨o1, he, h3⟩ (hstep e2 k2 h1)).2 (by omega) fun p hp1 hp2 => hno p (by omega) hp2
theorem chain_good {T : List Tk} {next : Nat → Pr} {L i : Nat} (hc : qBK L) (hi : i ≤ T.length) (hn : ∀ p, p ≤ T.length → qDD T (L + 1) p (next p)) : qDD T L i (qBV T next (opsL L) i) ∧ ((∀ p, i ≤ p → p ≤ T.length → next p ≠ .out) → qBV T next (opsL L) i ≠ .out) := by
  unfold qBV
  have hg := hn i hi
  have hstep : ∀ e k, i + (shw e (L + 1)).length ≤ k → i + (shw e L).length ≤ k := fun e k h => by
    have := shw_mono e (k := L) (l := L + 1) (by omega)
    omega
  refine ⟨qCn hg fun e k h1 h2 h3 => (qES hc hn _ e k h2 h3 (hstep e k h1)).1, fun hno => qCL hg (hno i (Nat.le_refl _) hi) fun e k h1 h2 h3 => (qES (i := i) hc hn _ e k h2 h3 (hstep e k h1)).2 (by omega) fun p hp1 hp2 => hno p (by omega) hp2⟩
theorem qDJ {T : List Tk} {i : Nat} {v : Vl} (h : i + 1 ≤ T.length) (hv : Gd v) (h0 : 0 ≤ v.n) : qDD T 9 i (.ok (.lit v) (i + 1)) := ⟨Nat.le_refl _, h, hv, h0⟩
theorem rd_good (T : List Tk) (hok : ∀ t ∈ T, TkOk t) : ∀ (f lv i : Nat), 1 ≤ lv → lv ≤ 9 → i ≤ T.length → qDD T lv i (rd T f lv i) ∧ (10 * (T.length + 1 - i) + (10 - lv) ≤ f → rd T f lv i ≠ .out)
  | 0, lv, i, _, _, _ => ⟨trivial, fun h => by omega⟩
  | f + 1, lv, i, h1, h9, hi => by
    have ih := rd_good T hok f
    show qDD T lv i (stepT T (rd T f) lv i) ∧ (_ → stepT T (rd T f) lv i ≠ .out)
    by_cases hc : qBK lv
    · rw [qEr T _ hc]
      have h8 : lv + 1 ≤ 9 := by unfold qBK at hc; omega
      obtain ⟨q1, q2⟩ := chain_good hc hi (fun p hp => (ih (lv + 1) p (by omega) h8 hp).1)
      exact ⟨q1, fun hf => q2 fun p hp1 hp2 => (ih (lv + 1) p (by omega) h8 hp2).2 (by omega)⟩
    · have hcase : (lv = 3 ∨ lv = 8) ∨ lv = 4 ∨ lv = 9 := by unfold qBK at hc; omega
      rcases hcase with h38 | rfl | rfl
      · obtain ⟨op, t, hop, hst, hlv⟩ : ∃ op t, un1 op ∧ stepT T (rd T f) lv i = preT T t op (rd T f lv) (rd T f (lv + 1)) i ∧ ∀ e, (shw (.un op e) lv).length = 1 + (shw e lv).length := by
          rcases h38 with rfl | rfl
          · exact ⟨4, notW, .inr (.inl rfl), rfl, fun e => by rw [qFo (by show 3 ≤ lvl 4; decide)]; show (notW :: shw e 3).length = _; rw [List.length_cons]; omega⟩
          · exact ⟨3, mnT, .inl rfl, rfl, fun e => by rw [qFo (by show 8 ≤ lvl 3; decide)]; show (mnT :: shw e 8).length = _; rw [List.length_cons]; omega⟩
        rw [hst]
        unfold preT
        split
        · rename_i ht
          have hlt : i + 1 ≤ T.length := (List.getElem?_eq_some_iff.1 ht).1
          obtain ⟨g1, g2⟩ := ih lv (i + 1) h1 h9 hlt
          exact ⟨qCn g1 fun e k a b c => ⟨by rw [hlv]; omega, b, hop, c⟩, fun hf => qCL g1 (g2 (by omega)) fun e k _ _ _ => by simp⟩
        · obtain ⟨g1, g2⟩ := ih (lv + 1) i (by omega) (by omega) hi
          refine ⟨?_, fun hf => g2 (by omega)⟩
          cases hr : rd T f (lv + 1) i with
          | ok x j =>
            rw [hr] at g1
            have := shw_mono x (k := lv) (l := lv + 1) (by omega)
            exact ⟨by have := g1.1; omega, g1.2⟩
          | bad p e => rw [hr] at g1; exact g1
          | out => trivial
      · show qDD T 4 i (qEA T (rd T f 5) i) ∧ (_ → qEA T (rd T f 5) i ≠ .out)
        unfold qEA
        obtain ⟨g1, g2⟩ := ih 5 i (by omega) (by omega) hi
        have hin : ∀ e j, i + (shw e 5).length ≤ j → j ≤ T.length → e.ok → qDD T 4 i (if T[j]? = some isW then qCy T qCY (j + 1) fun j => .ok (.un 17 e) j else match qBY T qCx j with | none => .ok e j | some op => (rd T f 5 (j + 1)).then fun e2 k => .ok (.bi op e e2) k) ∧
            (10 * (T.length + 1 - i) + (10 - 4) ≤ f + 1 → (if T[j]? = some isW then qCy T qCY (j + 1) fun j => .ok (.un 17 e) j else match qBY T qCx j with | none => .ok e j | some op => (rd T f 5 (j + 1)).then fun e2 k => .ok (.bi op e e2) k) ≠ .out) := by
          intro e j a b c
          split
          · rename_i ht
            have hlt : j + 1 ≤ T.length := (List.getElem?_eq_some_iff.1 ht).1
            refine ⟨qCT hlt fun h2 => ⟨?_, h2, .inr (.inr (.inl rfl)), c⟩, fun _ => qDc fun _ => by simp⟩
            rw [qFo (by show 4 ≤ lvl 17; decide)]
            show i + (shw e 5 ++ [isW, qCY]).length ≤ _
            rw [List.length_append]
            show i + ((shw e 5).length + 2) ≤ _
            omega
          · cases hp : qBY T qCx j with
            | none =>
              have := shw_mono e (k := 4) (l := 5) (by omega)
              exact ⟨⟨by omega, b, c⟩, fun _ => by simp⟩
            | some op =>
              obtain ⟨hm, hlt⟩ := pick_get hp
              have hop : op = 9 ∨ op = 10 ∨ op = 11 ∨ op = 12 ∨ op = 13 ∨ op = 14 := by simpa [qCx] using hm
              have hl4 : lvl op = 4 := by rcases hop with rfl | rfl | rfl | rfl | rfl | rfl <;> rfl
              obtain ⟨k1, k2⟩ := ih 5 (j + 1) (by omega) (by omega) hlt
              refine ⟨qCn k1 fun e2 k a2 b2 c2 => ⟨?_, b2, by unfold bi2; omega, c, c2⟩, fun hf => qCL k1 (k2 (by omega)) fun _ _ _ _ _ => by simp⟩
              have : shw (.bi op e e2) 4 = shw e 5 ++ qBN op :: shw e2 5 := by
                rw [qFo (by show 4 ≤ lvl op; omega)]
                unfold shwB
                rw [if_neg (by omega), hl4]
                rfl
              rw [this, List.length_append, List.length_cons]
              omega
        exact ⟨qCn g1 fun e k a b c => (hin e k a b c).1, fun hf => qCL g1 (g2 (by omega)) fun e k a b c => (hin e k a b c).2 hf⟩
      · show qDD T 9 i (firstT T (rd T f 1) i) ∧ (_ → firstT T (rd T f 1) i ≠ .out)
        have hl : ∀ {t : Tk}, T[i]? = some t → i + 1 ≤ T.length := fun h => (List.getElem?_eq_some_iff.1 h).1
        unfold firstT
        split
        · rename_i ht; exact ⟨qDJ (hl ht) .null (by decide), fun _ => by simp⟩
        split
        · rename_i ht; exact ⟨qDJ (hl ht) (.bool 1 (.inr rfl)) (by decide), fun _ => by simp⟩
        split
        · rename_i ht; exact ⟨qDJ (hl ht) (.bool 0 (.inl rfl)) (by decide), fun _ => by simp⟩
        split
        · rename_i ht
          obtain ⟨g1, g2⟩ := ih 1 (i + 1) (by omega) (by omega) (hl ht)
          refine ⟨qCn g1 fun e k a b c => qCT b fun h2 => ⟨?_, h2, c⟩, fun hf => qCL g1 (g2 (by omega)) fun e k _ _ _ => qDc fun _ => by simp⟩
          have hw := qEa e.op 9 (shwB e)
          rw [shw_one] at a
          show i + (qCg e.op 9 (shwB e)).length ≤ _
          omega
        split
        · rename_i ht
          refine ⟨qCT (hl ht) fun h2 => ?_, fun hf => qDc fun h2 => ?_⟩
          · obtain ⟨g1, g2⟩ := ih 1 (i + 1 + 1) (by omega) (by omega) h2
            refine qCn g1 fun e k a b c => qCT b fun h3 => ⟨?_, h3, .inr (.inr (.inr rfl)), c⟩
            rw [qFo (by show 9 ≤ lvl 18; decide)]
            show i + (lenW :: lpT :: (shw e 1 ++ [rpT])).length ≤ _
            rw [List.length_cons, List.length_cons, List.length_append]
            show i + ((shw e 1).length + 1 + 1 + 1) ≤ _
            omega
          · obtain ⟨g1, g2⟩ := ih 1 (i + 1 + 1) (by omega) (by omega) h2
            exact qCL g1 (g2 (by omega)) fun e k _ _ _ => qDc fun _ => by simp
        split
        · rename_i ht
          refine ⟨qCT (hl ht) fun h2 => ?_, fun hf => qDc fun h2 => ?_⟩
          · obtain ⟨g1, _⟩ := ih 1 (i + 1 + 1) (by omega) (by omega) h2
            refine qCn g1 fun e k a b c => qCT b fun h3 => ?_
            obtain ⟨g3, _⟩ := ih 1 (k + 1) (by omega) (by omega) h3
            refine qCn g3 fun e2 k2 a2 b2 c2 => qCT b2 fun h4 => ⟨?_, h4, by unfold bi2; omega, c, c2⟩
            rw [qFo (by show 9 ≤ lvl 20; decide)]
            show i + (coaW :: lpT :: (shw e 1 ++ cmT :: (shw e2 1 ++ [rpT]))).length ≤ _
            rw [List.length_cons, List.length_cons, List.length_append, List.length_cons, List.length_append]
            show i + ((shw e 1).length + ((shw e2 1).length + 1 + 1) + 1 + 1) ≤ _
            omega
          · obtain ⟨g1, g2⟩ := ih 1 (i + 1 + 1) (by omega) (by omega) h2
            refine qCL g1 (g2 (by omega)) fun e k a _ _ => qDc fun h3 => ?_
            obtain ⟨g3, g4⟩ := ih 1 (k + 1) (by omega) (by omega) h3
            exact qCL g3 (g4 (by omega)) fun _ _ _ _ _ => qDc fun _ => by simp
        cases ht : T[i]? with
        | none => exact ⟨qEc hi, fun _ => qEP⟩
        | some t =>
          have hto := hok t (List.mem_of_getElem? ht)
          have hlt := hl ht
          cases hto with
          | name n hn => exact ⟨⟨Nat.le_refl _, hlt, hn⟩, fun _ => by simp⟩
          | word w hw => exact ⟨qEc hi, fun _ => qEP⟩
          | num n hn => exact ⟨qDJ hlt (.int n) hn, fun _ => by simp⟩
          | quote s h1 h2 => exact ⟨qDJ hlt (.text s h1 h2) (by show (0 : Int) ≤ 0; decide), fun _ => by simp⟩
          | hex b h1 h2 h3 => exact ⟨qDJ hlt (.real b h1 h2 h3) (by show (0 : Int) ≤ 0; decide), fun _ => by simp⟩
          | sign s hs => exact ⟨qEc hi, fun _ => qEP⟩
end Go.Proofs.YtlpnnnmdkglkcaaDoor

