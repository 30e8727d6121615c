/-
  An expression is read as it was shown, wherever it stands, if what stands behind it does not go on with it. No program in sight.
-/
import Derived.Test.YtlpnnnmdkglkcaaDoorZShw
set_option linter.unusedSimpArgs false
set_option linter.unusedVariables false
namespace Go.Proofs.YtlpnnnmdkglkcaaDoor

abbrev Pk (x : Ex) : Prop := ∀ (k : Nat) (T : List Tk) (i : Nat), 1 ≤ k → k ≤ 9 → Here T i (shw x k) → Stop k T (i + (shw x k).length) → Ev T k i x (i + (shw x k).length)
abbrev Ck (x : Ex) : Prop := ∀ (L : Nat) (T : List Tk) (i : Nat), qBK L → Here T i (shw x L) → Stop (L + 1) T (i + (shw x L).length) → ∃ (f0 n k0 : Nat) (e0 : Ex), n ≤ (shw x L).length ∧
  ∀ f, f0 ≤ f → rd T f (L + 1) i = .ok e0 k0 ∧ ∀ g, chn T (rd T f (L + 1)) (opsL L) (g + n) e0 k0 = chn T (rd T f (L + 1)) (opsL L) g x (i + (shw x L).length)
abbrev Dk (x : Ex) : Prop := ∀ (T : List Tk) (i : Nat), Here T i (shwB x) → Stop (lvl x.op) T (i + (shwB x).length) → Ev T (lvl x.op) i x (i + (shwB x).length)
theorem stop_of {k : Nat} {T : List Tk} {j : Nat} {t : Tk} (h : T[j]? = some t) (h1 : ∀ op, bi2 op → op ≠ 20 → k ≤ lvl op → qBN op ≠ t) (h2 : k ≤ 4 → isW ≠ t) : Stop k T j :=
  ⟨fun op a b c e => h1 op a b c (Option.some.inj (e.symm.trans h)), fun a e => h2 a (Option.some.inj (e.symm.trans h))⟩
theorem qE5 {op : Nat} (h : bi2 op) (h20 : op ≠ 20) : op = 5 ∨ op = 6 ∨ op = 7 ∨ op = 8 ∨ op = 9 ∨ op = 10 ∨ op = 11 ∨ op = 12 ∨ op = 13 ∨ op = 14 ∨ op = 15 ∨ op = 16 ∨ op = 19 := by
  obtain ⟨a1, a2, a3, a4⟩ := h
  omega
theorem mark_ne {t : Tk} (ht : t = rpT ∨ t = cmT ∨ t = isW) : ∀ op, bi2 op → op ≠ 20 → qBN op ≠ t := by
  intro op h h20
  rcases ht with rfl | rfl | rfl <;> rcases qE5 h h20 with rfl | rfl | rfl | rfl | rfl | rfl | rfl | rfl | rfl | rfl | rfl | rfl | rfl <;> decide
theorem stop_rp {k : Nat} {T : List Tk} {j : Nat} (h : T[j]? = some rpT) : Stop k T j := stop_of h (fun op a b _ => mark_ne (.inl rfl) op a b) (fun _ => by decide)
theorem stop_cm {k : Nat} {T : List Tk} {j : Nat} (h : T[j]? = some cmT) : Stop k T j := stop_of h (fun op a b _ => mark_ne (.inr (.inl rfl)) op a b) (fun _ => by decide)
theorem stop_is {k : Nat} {T : List Tk} {j : Nat} (hk : 5 ≤ k) (h : T[j]? = some isW) : Stop k T j := stop_of h (fun op a b _ => mark_ne (.inr (.inr rfl)) op a b) (fun h => by omega)
theorem stop_mark {k op : Nat} {T : List Tk} {j : Nat} (hb : bi2 op) (h20 : op ≠ 20) (hk : lvl op < k) (h : T[j]? = some (qBN op)) (h5 : k ≤ 4 → lvl op ≤ 2) : Stop k T j := by
  refine stop_of h (fun o a b c e => ?_) (fun h4 => ?_)
  · have := mark_inj a hb b h20 e
    subst this
    omega
  · have := h5 h4
    revert this
    rcases qE5 hb h20 with rfl | rfl | rfl | rfl | rfl | rfl | rfl | rfl | rfl | rfl | rfl | rfl | rfl <;> decide
theorem then_ok (x : Ex) (j : Nat) (f : Ex → Nat → Pr) : (Pr.ok x j).then f = f x j := rfl
theorem qDY {T : List Tk} {t : Tk} {i : Nat} (h : T[i]? = some t) (K : Nat → Pr) : qCy T t i K = K (i + 1) := if_pos h
theorem first_lp {T : List Tk} {R : Nat → Pr} {i : Nat} (h : T[i]? = some lpT) : firstT T R i = (R (i + 1)).then fun e j => qCy T rpT j fun j => .ok e j := by
  unfold firstT
  rw [h, if_neg (by decide), if_neg (by decide), if_neg (by decide), if_pos rfl]
theorem first_len {T : List Tk} {R : Nat → Pr} {i : Nat} (h : T[i]? = some lenW) : firstT T R i = qCy T lpT (i + 1) fun i => (R i).then fun e j => qCy T rpT j fun j => .ok (.un 18 e) j := by
  unfold firstT
  rw [h, if_neg (by decide), if_neg (by decide), if_neg (by decide), if_neg (by decide), if_pos rfl]
theorem first_coa {T : List Tk} {R : Nat → Pr} {i : Nat} (h : T[i]? = some coaW) : firstT T R i = qCy T lpT (i + 1) fun i => (R i).then fun a j => qCy T cmT j fun j => (R j).then fun b j => qCy T rpT j fun j => .ok (.bi 20 a b) j := by
  unfold firstT
  rw [h, if_neg (by decide), if_neg (by decide), if_neg (by decide), if_neg (by decide), if_neg (by decide), if_pos rfl]
theorem qD6 {T : List Tk} {R : Nat → Pr} {i : Nat} {t : Tk} (h : T[i]? = some t) (hk : t.k ≠ 2 ∧ t.k ≠ 6) : firstT T R i = if t.k = 1 then .ok (.col t.t) (i + 1) else if t.k = 3 then .ok (.lit ⟨2, t.n, 0, .empty⟩) (i + 1) else if t.k = 5 then .ok (.lit ⟨3, 0, t.b, .empty⟩) (i + 1) else
    if t.k = 4 then .ok (.lit ⟨4, 0, 0, t.t⟩) (i + 1) else qD4 T i := by
  have hne : ∀ u : Tk, u.k = 2 ∨ u.k = 6 → ¬ (some t = some u) := fun u hu e => by
    have e := Option.some.inj e
    subst e
    rcases hu with hu | hu
    · exact hk.1 hu
    · exact hk.2 hu
  unfold firstT
  rw [h, if_neg (hne _ (.inl rfl)), if_neg (hne _ (.inl rfl)), if_neg (hne _ (.inl rfl)), if_neg (hne _ (.inr rfl)), if_neg (hne _ (.inl rfl)), if_neg (hne _ (.inl rfl))]
theorem qDa {T : List Tk} {k i j : Nat} {x : Ex} (h : ∃ f0, ∀ f, f0 ≤ f → stepT T (rd T f) k i = .ok x j) : Ev T k i x j := by
  obtain ⟨f0, h⟩ := h
  refine ⟨f0 + 1, fun f hf => ?_⟩
  obtain ⟨g, rfl⟩ : ∃ g, f = g + 1 := ⟨f - 1, by omega⟩
  exact h g (by omega)
theorem direct_lit {v : Vl} (hg : Gd v) (h0 : 0 ≤ v.n) : Dk (.lit v) := by
  intro T i hh _
  have ht : T[i]? = some (litT v) := hh.cons.1
  refine qDa ⟨0, fun f _ => ?_⟩
  show firstT T _ i = .ok (.lit v) (i + 1)
  cases hg with
  | null =>
    unfold firstT
    rw [ht]
    rfl
  | bool n hn =>
    rcases hn with rfl | rfl
    · unfold firstT
      rw [ht]
      rfl
    · unfold firstT
      rw [ht]
      rfl
  | int n =>
    rw [qD6 ht ⟨(by show (3 : Int) ≠ 2; decide), (by show (3 : Int) ≠ 6; decide)⟩]
    rfl
  | real b h1 h2 h3 =>
    rw [qD6 ht ⟨(by show (5 : Int) ≠ 2; decide), (by show (5 : Int) ≠ 6; decide)⟩]
    rfl
  | text t h1 h2 =>
    rw [qD6 ht ⟨(by show (4 : Int) ≠ 2; decide), (by show (4 : Int) ≠ 6; decide)⟩]
    rfl
theorem direct_col (n : ByteArray) : Dk (.col n) := by
  intro T i hh _
  have ht : T[i]? = some ⟨1, n, 0, 0⟩ := hh.cons.1
  refine qDa ⟨0, fun f _ => ?_⟩
  show firstT T _ i = .ok (.col n) (i + 1)
  rw [qD6 ht ⟨(by show (1 : Int) ≠ 2; decide), (by show (1 : Int) ≠ 6; decide)⟩]
  rfl
theorem pk_of {x : Ex} (hx : x.ok) (D : Dk x) : Pk x := by
  have hhead : ∀ {T : List Tk} {i : Nat}, Here T i (shwB x) → T[i]? = (shwB x).head? := fun h => h.head (qDl x)
  have hU : ∀ (k : Nat) (T : List Tk) (i : Nat), 1 ≤ k → k ≤ lvl x.op → Here T i (shwB x) → Stop k T (i + (shwB x).length) → Ev T k i x (i + (shwB x).length) := by
    intro k T i h1 hk hh hs
    have h9 := (qDU x.op).2
    have hd := D T i hh (hs.mono hk)
    refine ev_downs (d := lvl x.op - k) h1 (by omega) (by rwa [show k + (lvl x.op - k) = lvl x.op by omega]) hs (fun _ h3 => ?_) (fun _ h8 => ?_)
    · rw [hhead hh, ← shw_one]
      exact head_not x 1 hx (.inr (by omega))
    · rw [hhead hh, ← shw_one]
      exact head_min x 1 hx (.inr (by omega))
  intro k T i h1 h9 hh hs
  by_cases hk : lvl x.op < k
  · have hw : shw x k = lpT :: (shwB x ++ [rpT]) := if_pos hk
    rw [hw] at hh hs ⊢
    have hl : (lpT :: (shwB x ++ [rpT])).length = (shwB x).length + 2 := by rw [List.length_cons, List.length_append]; rfl
    rw [hl] at hs ⊢
    obtain ⟨t0, h2⟩ := hh.cons
    obtain ⟨h3, h4⟩ := h2.app
    have t1 : T[i + 1 + (shwB x).length]? = some rpT := h4.cons.1
    have e9 : Ev T 9 i x (i + ((shwB x).length + 2)) := by
      obtain ⟨f0, hf⟩ := hU 1 T (i + 1) (Nat.le_refl 1) (qDU x.op).1 h3 (stop_rp t1)
      refine qDa ⟨f0, fun f h => ?_⟩
      show firstT T (rd T f 1) i = _
      rw [first_lp t0, hf f h]
      show qCy T rpT _ _ = _
      rw [qDY t1]
      rw [show i + 1 + (shwB x).length + 1 = i + ((shwB x).length + 2) by omega]
    refine ev_downs (d := 9 - k) h1 (by omega) (by rwa [show k + (9 - k) = 9 by omega]) hs (fun _ _ => ?_) (fun _ _ => ?_)
    · rw [t0]; decide
    · rw [t0]; decide
  · have hw : shw x k = shwB x := if_neg hk
    rw [hw] at hh hs ⊢
    exact hU k T i h1 (by omega) hh hs
theorem ck_up {x : Ex} (P : Pk x) {L : Nat} (T : List Tk) (i : Nat) (hc : qBK L) (hne : lvl x.op ≠ L) (hh : Here T i (shw x L)) (hs : Stop (L + 1) T (i + (shw x L).length)) : ∃ (f0 n k0 : Nat) (e0 : Ex), n ≤ (shw x L).length ∧
    ∀ f, f0 ≤ f → rd T f (L + 1) i = .ok e0 k0 ∧ ∀ g, chn T (rd T f (L + 1)) (opsL L) (g + n) e0 k0 = chn T (rd T f (L + 1)) (opsL L) g x (i + (shw x L).length) := by
  have he : shw x L = shw x (L + 1) := by
    unfold shw qCg
    by_cases h : lvl x.op < L
    · rw [if_pos h, if_pos (by omega)]
    · rw [if_neg h, if_neg (by omega)]
  rw [he] at hh hs ⊢
  obtain ⟨f0, hf⟩ := P (L + 1) T i (by omega) (by unfold qBK at hc; omega) hh hs
  exact ⟨f0, 0, _, x, Nat.zero_le _, fun f h => ⟨hf f h, fun g => rfl⟩⟩
theorem ck_bi {op : Nat} {a b : Ex} (hb : bi2 op) (h20 : op ≠ 20) (Ca : Ck a) (Pb : Pk b) (T : List Tk) (i : Nat) (hc : qBK (lvl op)) (hh : Here T i (shwB (.bi op a b))) (hs : Stop (lvl op + 1) T (i + (shwB (.bi op a b)).length)) : ∃ (f0 n k0 : Nat) (e0 : Ex), n ≤ (shwB (.bi op a b)).length ∧
    ∀ f, f0 ≤ f → rd T f (lvl op + 1) i = .ok e0 k0 ∧ ∀ g, chn T (rd T f (lvl op + 1)) (opsL (lvl op)) (g + n) e0 k0 = chn T (rd T f (lvl op + 1)) (opsL (lvl op)) g (.bi op a b) (i + (shwB (.bi op a b)).length) := by
  have hl4 : qCB (lvl op) = lvl op := by unfold qCB qBK at *; rw [if_neg (by omega)]
  have hw : shwB (.bi op a b) = shw a (lvl op) ++ qBN op :: shw b (lvl op + 1) := by
    unfold shwB
    rw [if_neg h20, hl4]
    rfl
  rw [hw] at hh hs ⊢
  have hlen : (shw a (lvl op) ++ qBN op :: shw b (lvl op + 1)).length = (shw a (lvl op)).length + 1 + (shw b (lvl op + 1)).length := by rw [List.length_append, List.length_cons]; omega
  rw [hlen] at hs ⊢
  obtain ⟨h1, h2⟩ := hh.app
  obtain ⟨t1, h3⟩ := h2.cons
  have h9 := (qDU op).2
  obtain ⟨f0, n, k0, e0, hn, hf⟩ := Ca (lvl op) T i hc h1 (stop_mark hb h20 (by omega) t1 (fun h => by unfold qBK at hc; omega))
  obtain ⟨f1, hg⟩ := Pb (lvl op + 1) T _ (by omega) (by unfold qBK at hc; omega) h3 (by rwa [show i + (shw a (lvl op)).length + 1 + (shw b (lvl op + 1)).length = i + ((shw a (lvl op)).length + 1 + (shw b (lvl op + 1)).length) by omega])
  refine ⟨max f0 f1, n + 1, k0, e0, by omega, fun f h => ?_⟩
  obtain ⟨q1, q2⟩ := hf f (by omega)
  refine ⟨q1, fun g => ?_⟩
  rw [show g + (n + 1) = g + 1 + n by omega, q2]
  conv => lhs; unfold chn
  rw [qFq hb h20 t1 ((qEe hc).2 ⟨hb, h20, rfl⟩) (fun o ho => by obtain ⟨a1, a2, _⟩ := (qEe hc).1 ho; exact ⟨a1, a2⟩)]
  show ((rd T f (lvl op + 1) _).then _) = _
  rw [hg f (by omega)]
  show chn T _ _ g _ _ = _
  rw [show i + (shw a (lvl op)).length + 1 + (shw b (lvl op + 1)).length = i + ((shw a (lvl op)).length + 1 + (shw b (lvl op + 1)).length) by omega]
theorem here_len {T : List Tk} {i : Nat} {l : List Tk} (h : Here T i l) (hl : 0 < l.length) : i + l.length ≤ T.length := by
  rcases Nat.lt_or_ge (i + (l.length - 1)) T.length with h1 | h1
  · omega
  · have := h (l.length - 1) (by omega)
    rw [List.getElem?_eq_none h1, List.getElem?_eq_getElem (by omega)] at this
    cases this
theorem direct_chain {op : Nat} {a b : Ex} (hb : bi2 op) (h20 : op ≠ 20) (Ca : Ck a) (Pb : Pk b) (hc : qBK (lvl op)) : Dk (.bi op a b) := by
  intro T i hh hs
  have hs : Stop (lvl op) T (i + (shwB (.bi op a b)).length) := hs
  obtain ⟨f0, n, k0, e0, hn, hf⟩ := ck_bi hb h20 Ca Pb T i hc hh (hs.mono (by omega))
  have hT := here_len hh (List.length_pos_iff.2 (qDl _))
  refine qDa ⟨f0, fun f h => ?_⟩
  show stepT T (rd T f) (lvl op) i = _
  rw [qEr T _ hc]
  unfold qBV
  obtain ⟨q1, q2⟩ := hf f h
  rw [q1]
  show chn T _ _ (T.length + 1) e0 k0 = _
  obtain ⟨g, hg⟩ : ∃ g, T.length + 1 = (g + 1) + n := ⟨T.length - n, by omega⟩
  rw [hg, q2]
  unfold chn
  rw [qB7 fun o ho => ?_]
  obtain ⟨o1, o2, o3⟩ := (qEe hc).1 ho
  exact hs.1 o o1 o2 (by omega)
theorem direct_cmp {op : Nat} {a b : Ex} (hop : 9 ≤ op ∧ op ≤ 14) (Pa : Pk a) (Pb : Pk b) : Dk (.bi op a b) := by
  have hb : bi2 op := by unfold bi2; omega
  have h20 : op ≠ 20 := by omega
  have hl : lvl op = 4 := by rcases (by omega : op = 9 ∨ op = 10 ∨ op = 11 ∨ op = 12 ∨ op = 13 ∨ op = 14) with rfl | rfl | rfl | rfl | rfl | rfl <;> rfl
  intro T i hh hs
  have hs : Stop (lvl op) T (i + (shwB (.bi op a b)).length) := hs
  have hw : shwB (.bi op a b) = shw a 5 ++ qBN op :: shw b 5 := by
    unfold shwB
    rw [if_neg h20, hl]
    rfl
  show Ev T (lvl op) i _ _
  rw [hl] at hs ⊢
  rw [hw] at hh hs ⊢
  have hlen : (shw a 5 ++ qBN op :: shw b 5).length = (shw a 5).length + 1 + (shw b 5).length := by rw [List.length_append, List.length_cons]; omega
  rw [hlen] at hs ⊢
  obtain ⟨h1, h2⟩ := hh.app
  obtain ⟨t1, h3⟩ := h2.cons
  obtain ⟨f0, hf⟩ := Pa 5 T i (by omega) (by omega) h1 (stop_mark hb h20 (by omega) t1 (fun h => by omega))
  obtain ⟨f1, hg⟩ := Pb 5 T _ (by omega) (by omega) h3 (by rw [show i + (shw a 5).length + 1 + (shw b 5).length = i + ((shw a 5).length + 1 + (shw b 5).length) by omega]; exact hs.mono (by omega))
  refine qDa ⟨max f0 f1, fun f h => ?_⟩
  show qEA T (rd T f 5) i = _
  unfold qEA
  rw [hf f (by omega)]
  show (if _ then _ else _) = _
  rw [if_neg (by rw [t1]; rcases (by omega : op = 9 ∨ op = 10 ∨ op = 11 ∨ op = 12 ∨ op = 13 ∨ op = 14) with rfl | rfl | rfl | rfl | rfl | rfl <;> decide),
    qFq (ops := qCx) hb h20 t1 (by unfold qCx; simp; omega) (fun o ho => by
      have : o = 9 ∨ o = 10 ∨ o = 11 ∨ o = 12 ∨ o = 13 ∨ o = 14 := by simpa [qCx] using ho
      unfold bi2; omega)]
  show ((rd T f 5 _).then _) = _
  rw [hg f (by omega)]
  show Pr.ok _ _ = _
  rw [show i + (shw a 5).length + 1 + (shw b 5).length = i + ((shw a 5).length + 1 + (shw b 5).length) by omega]
theorem direct_pre {op lv : Nat} {t : Tk} {a : Ex} (h : (op = 3 ∧ lv = 8 ∧ t = mnT) ∨ (op = 4 ∧ lv = 3 ∧ t = notW)) (Pa : Pk a) : Dk (.un op a) := by
  have hl : lvl op = lv := by rcases h with ⟨rfl, rfl, rfl⟩ | ⟨rfl, rfl, rfl⟩ <;> rfl
  have hw : shwB (.un op a) = t :: shw a lv := by rcases h with ⟨rfl, rfl, rfl⟩ | ⟨rfl, rfl, rfl⟩ <;> rfl
  have hlv : 1 ≤ lv ∧ lv ≤ 9 := by omega
  intro T i hh hs
  have hs : Stop (lvl op) T (i + (shwB (.un op a)).length) := hs
  show Ev T (lvl op) i _ _
  rw [hl] at hs ⊢
  rw [hw] at hh hs ⊢
  obtain ⟨t1, h2⟩ := hh.cons
  rw [List.length_cons] at hs ⊢
  obtain ⟨f0, hf⟩ := Pa lv T (i + 1) hlv.1 hlv.2 h2 (by rwa [show i + 1 + (shw a lv).length = i + ((shw a lv).length + 1) by omega])
  refine qDa ⟨f0, fun f hff => ?_⟩
  have hf := hf f hff
  rw [show i + 1 + (shw a lv).length = i + ((shw a lv).length + 1) by omega] at hf
  rcases h with ⟨rfl, rfl, rfl⟩ | ⟨rfl, rfl, rfl⟩
  · show preT T mnT 3 (rd T f 8) _ i = _
    unfold preT
    rw [if_pos t1, hf]
    rfl
  · show preT T notW 4 (rd T f 3) _ i = _
    unfold preT
    rw [if_pos t1, hf]
    rfl
theorem direct_is {a : Ex} (Pa : Pk a) : Dk (.un 17 a) := by
  intro T i hh hs
  have hw : shwB (.un 17 a) = shw a 5 ++ [isW, qCY] := rfl
  rw [hw] at hh hs ⊢
  have hlen : (shw a 5 ++ [isW, qCY]).length = (shw a 5).length + 2 := by rw [List.length_append]; rfl
  rw [hlen] at hs ⊢
  obtain ⟨h1, h2⟩ := hh.app
  obtain ⟨t1, h3⟩ := h2.cons
  have t2 := h3.cons.1
  obtain ⟨f0, hf⟩ := Pa 5 T i (by omega) (by omega) h1 (stop_is (by omega) t1)
  refine qDa ⟨f0, fun f h => ?_⟩
  show qEA T (rd T f 5) i = _
  unfold qEA
  rw [hf f h]
  show (if _ then _ else _) = _
  rw [if_pos t1, qDY t2]
  rfl
theorem direct_len {a : Ex} (Pa : Pk a) : Dk (.un 18 a) := by
  intro T i hh hs
  have hw : shwB (.un 18 a) = lenW :: lpT :: (shw a 1 ++ [rpT]) := rfl
  rw [hw] at hh hs ⊢
  have hlen : (lenW :: lpT :: (shw a 1 ++ [rpT])).length = (shw a 1).length + 3 := by rw [List.length_cons, List.length_cons, List.length_append]; rfl
  rw [hlen] at hs ⊢
  obtain ⟨t1, h2⟩ := hh.cons
  obtain ⟨t2, h3⟩ := h2.cons
  obtain ⟨h4, h5⟩ := h3.app
  have t3 := h5.cons.1
  obtain ⟨f0, hf⟩ := Pa 1 T _ (by omega) (by omega) h4 (stop_rp t3)
  refine qDa ⟨f0, fun f h => ?_⟩
  show firstT T (rd T f 1) i = _
  rw [first_len t1, qDY t2, hf f h]
  show qCy T rpT _ _ = _
  rw [qDY t3]
  rw [show i + 1 + 1 + (shw a 1).length + 1 = i + ((shw a 1).length + 3) by omega]
theorem direct_coa {a b : Ex} (Pa : Pk a) (Pb : Pk b) : Dk (.bi 20 a b) := by
  intro T i hh hs
  have hw : shwB (.bi 20 a b) = coaW :: lpT :: (shw a 1 ++ cmT :: (shw b 1 ++ [rpT])) := rfl
  rw [hw] at hh hs ⊢
  have hlen : (coaW :: lpT :: (shw a 1 ++ cmT :: (shw b 1 ++ [rpT]))).length = (shw a 1).length + (shw b 1).length + 4 := by
    rw [List.length_cons, List.length_cons, List.length_append, List.length_cons, List.length_append]
    show _ + (_ + 1 + 1) + 1 + 1 = _
    omega
  rw [hlen] at hs ⊢
  obtain ⟨t1, h2⟩ := hh.cons
  obtain ⟨t2, h3⟩ := h2.cons
  obtain ⟨h4, h5⟩ := h3.app
  obtain ⟨t3, h6⟩ := h5.cons
  obtain ⟨h7, h8⟩ := h6.app
  have t4 := h8.cons.1
  obtain ⟨f0, hf⟩ := Pa 1 T _ (by omega) (by omega) h4 (stop_cm t3)
  obtain ⟨f1, hg⟩ := Pb 1 T _ (by omega) (by omega) h7 (stop_rp t4)
  refine qDa ⟨max f0 f1, fun f h => ?_⟩
  show firstT T (rd T f 1) i = _
  rw [first_coa t1, qDY t2, hf f (by omega), then_ok, qDY t3, hg f (by omega), then_ok, qDY t4]
  rw [show i + 1 + 1 + (shw a 1).length + 1 + (shw b 1).length + 1 = i + ((shw a 1).length + (shw b 1).length + 4) by omega]
theorem shown : ∀ x : Ex, x.ok → Pk x ∧ Ck x
  | .lit v, hx => by
    have P := pk_of hx (direct_lit hx.1 hx.2)
    exact ⟨P, fun L T i hc hh hs => ck_up P T i hc (by show (9 : Nat) ≠ L; unfold qBK at hc; omega) hh hs⟩
  | .col n, hx => by
    have P := pk_of hx (direct_col n)
    exact ⟨P, fun L T i hc hh hs => ck_up P T i hc (by show (9 : Nat) ≠ L; unfold qBK at hc; omega) hh hs⟩
  | .un op a, hx => by
    obtain ⟨Pa, Ca⟩ := shown a hx.2
    have hop : un1 op := hx.1
    have hD : Dk (.un op a) := by
      rcases hop with rfl | rfl | rfl | rfl
      · exact direct_pre (.inl ⟨rfl, rfl, rfl⟩) Pa
      · exact direct_pre (.inr ⟨rfl, rfl, rfl⟩) Pa
      · exact direct_is Pa
      · exact direct_len Pa
    have P := pk_of hx hD
    refine ⟨P, fun L T i hc hh hs => ck_up P T i hc ?_ hh hs⟩
    show lvl op ≠ L
    rcases hop with rfl | rfl | rfl | rfl
    · show (8 : Nat) ≠ L; unfold qBK at hc; omega
    · show (3 : Nat) ≠ L; unfold qBK at hc; omega
    · show (4 : Nat) ≠ L; unfold qBK at hc; omega
    · show (9 : Nat) ≠ L; unfold qBK at hc; omega
  | .bi op a b, hx => by
    obtain ⟨Pa, Ca⟩ := shown a hx.2.1
    obtain ⟨Pb, Cb⟩ := shown b hx.2.2
    have hb : bi2 op := hx.1
    by_cases h20 : op = 20
    · subst h20
      have P := pk_of hx (direct_coa Pa Pb)
      exact ⟨P, fun L T i hc hh hs => ck_up P T i hc (by show (9 : Nat) ≠ L; unfold qBK at hc; omega) hh hs⟩
    · by_cases hcm : 9 ≤ op ∧ op ≤ 14
      · have P := pk_of hx (direct_cmp hcm Pa Pb)
        refine ⟨P, fun L T i hc hh hs => ck_up P T i hc ?_ hh hs⟩
        show lvl op ≠ L
        have hl : lvl op = 4 := by rcases (by omega : op = 9 ∨ op = 10 ∨ op = 11 ∨ op = 12 ∨ op = 13 ∨ op = 14) with rfl | rfl | rfl | rfl | rfl | rfl <;> rfl
        rw [hl]
        unfold qBK at hc
        omega
      · have hc : qBK (lvl op) := by
          rcases qE5 hb h20 with rfl | rfl | rfl | rfl | rfl | rfl | rfl | rfl | rfl | rfl | rfl | rfl | rfl <;> first | exact absurd ⟨by omega, by omega⟩ hcm | (unfold qBK; decide)
        have P := pk_of hx (direct_chain hb h20 Ca Pb hc)
        refine ⟨P, fun L T i hcL hh hs => ?_⟩
        by_cases hL : lvl op = L
        · subst hL
          have he : shw (.bi op a b) (lvl op) = shwB (.bi op a b) := if_neg (by show ¬ lvl op < lvl op; omega)
          rw [he] at hh hs ⊢
          exact ck_bi hb h20 Ca Pb T i hc hh hs
        · exact ck_up P T i hcL hL hh hs
end Go.Proofs.YtlpnnnmdkglkcaaDoor

