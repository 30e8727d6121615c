/-
  Tokens with blanks between, cut; what is cut. Plain. No condition.
-/
import Derived.Test.YtlpnnnmdkglkcaaDoorZLexB
namespace Go.Proofs.YtlpnnnmdkglkcaaDoor
set_option linter.unusedSimpArgs false
set_option linter.unusedVariables false
open Go.RowKit

/-! ### what is cut may be -/
theorem num_lt : ∀ (l : List UInt8) (n v : Nat), n < 9223372036854775808 → numF l n = some v → v < 9223372036854775808
  | [], n, v, hn, h => by
    injection h with h
    omega
  | c :: l, n, v, hn, h => by
    have hc : c.toNat < 256 := c.toNat_lt
    have h : (if (9223372036854775807 - (c.toNat - 48)) / 10 < n then none else numF l (10 * n + (c.toNat - 48))) = some v := h
    split at h
    · cases h
    · exact num_lt l _ v (by omega) h
theorem quo_len : ∀ (l b : List UInt8) (n : Nat), quoF l = some (b, n) → 0 < n ∧ n ≤ l.length
  | [], b, n, h => by cases h
  | [c], b, n, h => by
    have h : (if c = 39 then some ([], 1) else none) = some (b, n) := h
    split at h
    · injection h with h
      injection h with h1 h2
      subst h2
      exact ⟨Nat.one_pos, Nat.le_refl _⟩
    · cases h
  | c :: d :: l, b, n, h => by
    have h : (if c = 39 then (if d = 39 then (quoF l).map (fun r => (39 :: r.1, r.2 + 2)) else some ([], 1)) else (quoF (d :: l)).map fun r => (c :: r.1, r.2 + 1)) = some (b, n) := h
    split at h
    · split at h
      · cases hq : quoF l with
        | none => rw [hq] at h; cases h
        | some r =>
          rw [hq] at h
          injection h with h
          injection h with h1 h2
          have := quo_len l r.1 r.2 hq
          simp only [List.length_cons]
          omega
      · injection h with h
        injection h with h1 h2
        simp only [List.length_cons]
        omega
    · cases hq : quoF (d :: l) with
      | none => rw [hq] at h; cases h
      | some r =>
        rw [hq] at h
        injection h with h
        injection h with h1 h2
        have := quo_len (d :: l) r.1 r.2 hq
        simp only [List.length_cons] at *
        omega
theorem hex_len : ∀ (k : Nat) (l : List UInt8) (m v : Nat), hexF k l m = .ok v → k ≤ l.length
  | 0, l, m, v, h => Nat.zero_le _
  | k + 1, [], m, v, h => by cases h
  | k + 1, c :: l, m, v, h => by
    have h : (match hexV c with | none => HR.err 3 | some d => hexF k l (m * 16 + d)) = .ok v := h
    cases hv : hexV c with
    | none => rw [hv] at h; cases h
    | some d =>
      rw [hv] at h
      have := hex_len k l _ v h
      rw [List.length_cons]
      omega
theorem ba_size (l : List UInt8) : (⟨l.toArray⟩ : ByteArray).size = l.length := by
  show l.toArray.size = _
  simp
theorem run_pos {p : UInt8 → Bool} {c : UInt8} (h : p c = true) (l : List UInt8) : runN p (c :: l) = runN p l + 1 := by rw [runN, if_pos h]
theorem tok_ok {l : List UInt8} {t : Tk} {n : Nat} (h : tokF l = .ok t n) : TkL t ∧ 0 < n ∧ n ≤ l.length := by
  cases l with
  | nil => cases h
  | cons c l =>
    have h : (if smallB c then wrdT 1 inNameB (c :: l) else if greatB c then wrdT 2 greatB (c :: l) else if digitB c then numT (c :: l) else if c = 39 then quoT l else if c = 35 then hexT l else sgnT (c :: l)) = .ok t n := h
    split at h
    · rename_i hs
      unfold wrdT at h
      split at h
      · cases h
      · rename_i h8
        injection h with h1 h2
        subst h1 h2
        have hin : inNameB c = true := by unfold inNameB; rw [hs]; rfl
        have hall := run_take inNameB (c :: l)
        have hl := run_len inNameB (c :: l)
        refine ⟨.name _ ?_, by rw [run_pos hin]; omega, hl⟩
        show nameB (List.toArray _).toList = true
        rw [List.toList_toArray]
        rw [run_pos hin] at h8 hl hall ⊢
        rw [List.take_succ_cons] at hall ⊢
        show (smallB c && decide ((c :: List.take (runN inNameB l) l).length ≤ 8) && (c :: List.take (runN inNameB l) l).all inNameB) = true
        rw [hs, List.all_eq_true.2 hall, decide_eq_true]
        · rfl
        · rw [List.length_cons, List.length_take]; omega
    · split at h
      · rename_i hs
        unfold wrdT at h
        split at h
        · cases h
        · rename_i h8
          injection h with h1 h2
          subst h1 h2
          have hall := run_take greatB (c :: l)
          have hl := run_len greatB (c :: l)
          refine ⟨.word _ ⟨?_, ?_, ?_⟩, by rw [run_pos hs]; omega, hl⟩
          · show (List.toArray _).toList ≠ []
            rw [run_pos hs]; simp
          · rw [ba_size, List.length_take]; omega
          · show (List.toArray _).toList.all _ = true
            rw [List.toList_toArray]
            exact List.all_eq_true.2 hall
      · split at h
        · rename_i hs
          unfold numT at h
          split at h
          · cases h
          · cases hv : numF ((c :: l).take (runN digitB (c :: l))) 0 with
            | none => rw [hv] at h; cases h
            | some m =>
              rw [hv] at h
              injection h with h1 h2
              subst h1 h2
              exact ⟨.num m (num_lt _ 0 m (by decide) hv), by rw [run_pos hs]; omega, run_len _ _⟩
        · split at h
          · unfold quoT at h
            cases hq : quoF l with
            | none => rw [hq] at h; cases h
            | some r =>
              obtain ⟨b, m⟩ := r
              rw [hq] at h
              simp only at h
              split at h
              · cases h
              · rename_i h40
                split at h
                · rename_i hv
                  injection h with h1 h2
                  subst h1 h2
                  have := quo_len l b m hq
                  exact ⟨.quote _ (by rw [ba_size]; omega) (by rw [List.toList_toArray]; exact hv), Nat.succ_pos _, by rw [List.length_cons]; omega⟩
                · cases h
          · split at h
            · unfold hexT at h
              cases hq : hexF 16 l 0 with
              | err e => rw [hq] at h; cases h
              | ok v =>
                rw [hq] at h
                simp only at h
                split at h
                · rename_i hv
                  injection h with h1 h2
                  subst h1 h2
                  have h3 := hexF_lt 16 l 0 v hq
                  have h4 := hex_len 16 l 0 v hq
                  exact ⟨.hex v (by omega) hv, by decide, by rw [List.length_cons]; omega⟩
                · cases h
            · unfold sgnT at h
              split at h
              · rename_i hc
                injection h with h1 h2
                subst h1 h2
                exact ⟨.sign _ (sgn_mem hc.1), by decide, hc.2⟩
              · split at h
                · rename_i hc
                  injection h with h1 h2
                  subst h1 h2
                  exact ⟨.sign _ (sgn_mem hc.1), by decide, hc.2⟩
                · cases h
theorem hex_err : ∀ (k : Nat) (l : List UInt8) (m e : Nat), hexF k l m = .err e → e ≠ 0
  | 0, l, m, e, h => by cases h
  | k + 1, [], m, e, h => by
    injection h with h
    omega
  | k + 1, c :: l, m, e, h => by
    have h : (match hexV c with | none => HR.err 3 | some d => hexF k l (m * 16 + d)) = .err e := h
    cases hv : hexV c with
    | none =>
      rw [hv] at h
      injection h with h
      omega
    | some d =>
      rw [hv] at h
      exact hex_err k l _ e h
theorem lrE {e e2 : Nat} (h : LR.err e = .err e2) (he : e ≠ 0) : e2 ≠ 0 := by
  injection h with h
  omega
theorem tok_err {l : List UInt8} {e : Nat} (h : tokF l = .err e) : e ≠ 0 := by
  cases l with
  | nil => exact lrE h (by decide)
  | cons c l =>
    have h : (if smallB c then wrdT 1 inNameB (c :: l) else if greatB c then wrdT 2 greatB (c :: l) else if digitB c then numT (c :: l) else if c = 39 then quoT l else if c = 35 then hexT l else sgnT (c :: l)) = .err e := h
    unfold wrdT numT quoT hexT sgnT at h
    repeat' split at h
    all_goals first
      | exact lrE h (by decide)
      | (cases h; done)
      | (rename_i hq; exact lrE h (hex_err _ _ _ _ hq))
/-! ### cuts -/
def consAll (T : List Tk) (r : CR) : CR := T.foldr CR.cons r
theorem cut_gap {g r : List UInt8} (h : blkN false (g ++ r) = g.length + blkN false r) (f p k : Nat) : cutF (f + 1) p k (g ++ r) = cutF (f + 1) (p + g.length) k r := by
  rw [cutF, cutF, h, List.drop_append, List.drop_eq_nil_of_le (by omega), List.nil_append, show g.length + blkN false r - g.length = blkN false r by omega, ← Nat.add_assoc]
theorem cut_nil (f p k : Nat) : cutF f p k [] = .ok [] := by
  cases f <;> rfl
theorem cut_tok {l : List UInt8} {t : Tk} {n : Nat} (hb : blkN false l = 0) (ht : tokF l = .ok t n) {k : Nat} (hk : k ≠ 100) (f p : Nat) : cutF (f + 1) p k l = (cutF f (p + n) (k + 1) (l.drop n)).cons t := by
  rw [cutF, hb, List.drop_zero]
  cases l with
  | nil => cases ht
  | cons c m =>
    simp only
    rw [if_neg hk, ht]
    rfl
theorem cut_bad {l : List UInt8} {e : Nat} (hb : blkN false l = 0) (hl : l ≠ []) (ht : tokF l = .err e) {k : Nat} (hk : k ≠ 100) (f p : Nat) : cutF (f + 1) p k l = .err p e := by
  rw [cutF, hb, List.drop_zero]
  cases l with
  | nil => exact absurd rfl hl
  | cons c m =>
    simp only
    rw [if_neg hk, ht]
    rfl
theorem blk_shown {c : UInt8} {l r : List UInt8} (h1 : blankB c = false) (h2 : c = 45 → l = []) (hr : Sep r) : blkN false (c :: l ++ r) = 0 := by
  show (if blankB c then _ else if c = 45 ∧ (l ++ r).head? = some 45 then _ else 0) = 0
  rw [if_neg (by rw [h1]; decide), if_neg]
  rintro ⟨rfl, e⟩
  rw [h2 rfl, List.nil_append] at e
  exact absurd (sep_head hr e) (by decide)
theorem cut_shown {t : Tk} (h : TkL t) {r : List UInt8} (hr : Sep r) {k : Nat} (hk : k ≠ 100) (f p : Nat) : cutF (f + 1) p k (shwT t ++ r) = (cutF f (p + (shwT t).length) (k + 1) r).cons t := by
  obtain ⟨h1, c, l, hc, hb, h45⟩ := tok_shown h hr
  have h2 := blk_shown hb h45 hr
  rw [← hc] at h2
  rw [cut_tok h2 h1 hk]
  congr 2
  simp
theorem shw_ne {t : Tk} (h : TkL t) : 0 < (shwT t).length := by
  obtain ⟨_, c, l, hc, _⟩ := tok_shown h (.inl rfl)
  rw [hc]
  exact Nat.succ_pos _
theorem sep_32 (l : List UInt8) : Sep (32 :: l) := .inr ⟨32, l, rfl, rfl⟩
theorem blk_32 (r : List UInt8) : blkN false ([32] ++ r) = [32].length + blkN false r := by
  show (if blankB 32 then blkN false r + 1 else _) = _
  rw [if_pos (show blankB 32 = true from rfl), Nat.add_comm]; rfl
theorem join_cut {r : List UInt8} (hr : Sep r) : ∀ (T : List Tk) (f p k : Nat), (∀ t ∈ T, TkL t) → k + T.length ≤ 100 →
    cutF (T.length + f + 1) p k (joinT T ++ r) = consAll T (cutF (f + 1) (p + (joinT T).length) (k + T.length) r)
  | [], f, p, k, _, _ => by
    show cutF (0 + f + 1) p k r = cutF (f + 1) (p + 0) (k + 0) r
    rw [Nat.zero_add]
    rfl
  | [t], f, p, k, h, hk => by
    have hk : k + 1 ≤ 100 := hk
    show cutF (1 + f + 1) p k (shwT t ++ r) = (cutF (f + 1) (p + (shwT t).length) (k + 1) r).cons t
    rw [Nat.add_comm 1 f, cut_shown (h t (by simp)) hr (by omega)]
  | t :: u :: T, f, p, k, h, hk => by
    have hk : k + (T.length + 1 + 1) ≤ 100 := hk
    have ih := join_cut hr (u :: T) f (p + (shwT t).length + 1) (k + 1) (fun x hx => h x (by simp [hx])) (by show k + 1 + (T.length + 1) ≤ 100; omega)
    have e1 : joinT (t :: u :: T) ++ r = shwT t ++ (32 :: (joinT (u :: T) ++ r)) := by
      rw [joinT, List.append_assoc]; rfl
    have e2 : (t :: u :: T).length + f + 1 = ((u :: T).length + f + 1) + 1 := by simp only [List.length_cons]; omega
    rw [e1, e2, cut_shown (h t (by simp)) (sep_32 _) (by omega)]
    have e3 := cut_gap (blk_32 (joinT (u :: T) ++ r)) ((u :: T).length + f) (p + (shwT t).length) (k + 1)
    have e3 : cutF ((u :: T).length + f + 1) (p + (shwT t).length) (k + 1) (32 :: (joinT (u :: T) ++ r)) = cutF ((u :: T).length + f + 1) (p + (shwT t).length + 1) (k + 1) (joinT (u :: T) ++ r) := e3
    rw [e3, ih]
    show CR.cons t (consAll (u :: T) _) = CR.cons t (consAll (u :: T) _)
    congr 3
    · rw [joinT, List.length_append, List.length_cons]; omega
    · simp only [List.length_cons]; omega
theorem cons_ok : ∀ (T U : List Tk), consAll T (.ok U) = .ok (T ++ U)
  | [], U => rfl
  | t :: T, U => by
    show CR.cons t (consAll T (.ok U)) = _
    rw [cons_ok T U]; rfl
theorem cons_err : ∀ (T : List Tk) (p e : Nat), consAll T (.err p e) = .err p e
  | [], p, e => rfl
  | t :: T, p, e => by
    show CR.cons t (consAll T (.err p e)) = _
    rw [cons_err T p e]; rfl
theorem join_len : ∀ T : List Tk, (∀ t ∈ T, TkL t) → T.length ≤ (joinT T).length
  | [], _ => Nat.le_refl _
  | [t], h => shw_ne (h t (by simp))
  | t :: u :: T, h => by
    have := join_len (u :: T) fun x hx => h x (by simp [hx])
    have := shw_ne (h t (by simp))
    rw [joinT, List.length_append]
    simp only [List.length_cons] at *
    omega
/-- What is shown is cut as it was. -/
theorem cut_join (T : List Tk) (h : ∀ t ∈ T, TkL t) (hl : T.length ≤ 100) : cutF ((joinT T).length + 1) 0 0 (joinT T) = .ok T := by
  have h1 := join_len T h
  have h2 := join_cut (.inl rfl) T ((joinT T).length - T.length) 0 0 h (by omega)
  rw [List.append_nil, cut_nil, cons_ok, List.append_nil, show T.length + ((joinT T).length - T.length) + 1 = (joinT T).length + 1 by omega] at h2
  exact h2
theorem cut_ok : ∀ (f p k : Nat) (l : List UInt8) (T : List Tk), k ≤ 100 → cutF f p k l = .ok T → (∀ t ∈ T, TkL t) ∧ k + T.length ≤ 100
  | 0, p, k, l, T, hk, h => by
    injection h with h
    subst h
    exact ⟨fun t ht => (by cases ht), by simpa using hk⟩
  | f + 1, p, k, l, T, hk, h => by
    rw [cutF] at h
    split at h
    · injection h with h
      subst h
      exact ⟨fun t ht => (by cases ht), by simpa using hk⟩
    · split at h
      · cases h
      · split at h
        · cases h
        · rename_i t n ht
          cases hc : cutF f (p + blkN false l + n) (k + 1) (List.drop n (_ :: _)) with
          | err a b => rw [hc] at h; cases h
          | ok U =>
            rw [hc] at h
            injection h with h
            subst h
            have ih := cut_ok f _ _ _ U (by omega) hc
            refine ⟨fun x hx => ?_, by rw [List.length_cons]; omega⟩
            rcases List.mem_cons.1 hx with rfl | hx
            · exact (tok_ok ht).1
            · exact ih.1 x hx
theorem cut_err : ∀ (f p k : Nat) (l : List UInt8) (q e : Nat), cutF f p k l = .err q e → q ≤ p + l.length ∧ e ≠ 0
  | 0, p, k, l, q, e, h => by cases h
  | f + 1, p, k, l, q, e, h => by
    have hb := blk_len false l
    rw [cutF] at h
    split at h
    · cases h
    · rename_i c m hd
      have hm : (c :: m).length = l.length - blkN false l := by rw [← hd, List.length_drop]
      split at h
      · injection h with h1 h2
        subst h1 h2
        exact ⟨by omega, by decide⟩
      · split at h
        · rename_i e' ht
          injection h with h1 h2
          subst h1 h2
          exact ⟨by omega, tok_err ht⟩
        · rename_i t n ht
          have hn := (tok_ok ht).2.2
          cases hc : cutF f (p + blkN false l + n) (k + 1) ((c :: m).drop n) with
          | ok U => rw [hc] at h; cases h
          | err a b =>
            rw [hc] at h
            injection h with h1 h2
            subst h1 h2
            have ih := cut_err f _ _ _ a b hc
            rw [List.length_drop] at ih
            exact ⟨by omega, ih.2⟩
end Go.Proofs.YtlpnnnmdkglkcaaDoor

