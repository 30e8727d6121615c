/-
  What code.read and code.Decode read, in plain words; the inverse of one and of Encode. No program in sight.
-/
import Derived.Test.YtclhmdobhlalmaaDoorZRd
namespace Go.Proofs.YtclhmdobhlalmaaDoor
set_option linter.unusedSimpArgs false
set_option linter.unusedVariables false
open Go.RowKit

def Vl0 : Vl := ⟨0, 0, 0, .empty⟩
def finU (v : Vl) (r : List UInt8) : Nat × Vl × List UInt8 := if chkV v = 0 then (0, v, r) else (3, Vl0, r)
def textU (s : List UInt8) : Nat × List UInt8 × List UInt8 :=
  if (txtU [] s).1 = 0 then (if Lib.validD (txtU [] s).2.1 = true then txtU [] s else (3, [], (txtU [] s).2.2)) else ((txtU [] s).1, [], (txtU [] s).2.2)
/-- A value by its kind, and what is left. -/
def kindU (c : UInt8) (s : List UInt8) : Nat × Vl × List UInt8 :=
  if c = 1 then (0, Vl0, s)
  else if c = 2 then (match s with
    | [] => (4, Vl0, [])
    | d :: r => finU ⟨1, (d.toNat : Int), 0, .empty⟩ r)
  else if c = 3 then (if (numU 8 0 s).1 = 0 then finU ⟨2, intU (numU 8 0 s).2.1, 0, .empty⟩ (numU 8 0 s).2.2 else ((numU 8 0 s).1, Vl0, (numU 8 0 s).2.2))
  else if c = 4 then (if (numU 8 0 s).1 = 0 then finU ⟨3, 0, (backF (numU 8 0 s).2.1).toNat, .empty⟩ (numU 8 0 s).2.2 else ((numU 8 0 s).1, Vl0, (numU 8 0 s).2.2))
  else if c = 5 then (if (textU s).1 = 0 then finU ⟨4, 0, 0, byS (textU s).2.1⟩ (textU s).2.2 else ((textU s).1, Vl0, (textU s).2.2))
  else (3, Vl0, s)
def readU : List UInt8 → Nat × Vl × List UInt8
  | [] => (4, Vl0, [])
  | c :: s => kindU c s
theorem byS_self (t : ByteArray) : byS t.data.toList = t := by
  cases t
  simp [byS]
theorem byS_list (l : List UInt8) : (byS l).data.toList = l := by simp [byS]
theorem byS_size (l : List UInt8) : (byS l).size = l.length := by
  show (byS l).data.size = _
  rw [← Array.length_toList, byS_list]
theorem finU_ok {v : Vl} {r : List UInt8} (h : chkV v = 0) : finU v r = (0, v, r) := if_pos h
theorem kind_2 (d : UInt8) (r : List UInt8) : kindU 2 (d :: r) = finU ⟨1, (d.toNat : Int), 0, .empty⟩ r := rfl
theorem kind_3 (s : List UInt8) : kindU 3 s = if (numU 8 0 s).1 = 0 then finU ⟨2, intU (numU 8 0 s).2.1, 0, .empty⟩ (numU 8 0 s).2.2 else ((numU 8 0 s).1, Vl0, (numU 8 0 s).2.2) := rfl
theorem kind_4 (s : List UInt8) : kindU 4 s = if (numU 8 0 s).1 = 0 then finU ⟨3, 0, (backF (numU 8 0 s).2.1).toNat, .empty⟩ (numU 8 0 s).2.2 else ((numU 8 0 s).1, Vl0, (numU 8 0 s).2.2) := rfl
theorem kind_5 (s : List UInt8) : kindU 5 s = if (textU s).1 = 0 then finU ⟨4, 0, 0, byS (textU s).2.1⟩ (textU s).2.2 else ((textU s).1, Vl0, (textU s).2.2) := rfl
theorem text_ok {s t r : List UInt8} (h : txtU [] s = (0, t, r)) (hv : Lib.validD t = true) : textU s = (0, t, r) := by
  unfold textU
  rw [h]
  show (if (0 : Nat) = 0 then (if Lib.validD t = true then (0, t, r) else _) else _) = _
  rw [if_pos rfl, if_pos hv]
/-- A VALUE IS READ AS IT WAS WRITTEN. -/
theorem read_one {v : Vl} (h : Gi v) (r : List UInt8) : readU (oneF v ++ r) = (0, v, r) := by
  obtain ⟨hg, hi⟩ := h
  have hc := hg.chk
  cases hg with
  | null => rfl
  | bool n hn =>
    rcases hn with rfl | rfl
    · show finU ⟨1, 0, 0, .empty⟩ r = _
      exact finU_ok hc
    · show finU ⟨1, 1, 0, .empty⟩ r = _
      exact finU_ok hc
  | int n =>
    obtain ⟨h1, h2⟩ := hi rfl
    show kindU 3 (eightB (lowL n ^^^ topU) ++ r) = _
    rw [kind_3, num_eight]
    show (if (0 : Nat) = 0 then finU ⟨2, intU (lowL n ^^^ topU), 0, .empty⟩ r else _) = _
    rw [if_pos rfl, int_low h1 h2]
    exact finU_ok hc
  | real b h1 h2 h3 =>
    have hb : (UInt64.ofNat b).toNat = b := by rw [UInt64.toNat_ofNat', Nat.mod_eq_of_lt h1]
    show kindU 4 (eightB (turnF (UInt64.ofNat b)) ++ r) = _
    rw [kind_4, num_eight]
    show (if (0 : Nat) = 0 then finU ⟨3, 0, (backF (turnF (UInt64.ofNat b))).toNat, .empty⟩ r else _) = _
    rw [if_pos rfl, back_turn, hb]
    exact finU_ok hc
  | text t h1 h2 =>
    have hsz : t.data.toList.length = t.size := Array.length_toList
    show kindU 5 ((escF t.data.toList ++ [0, 1]) ++ r) = _
    have e := text_ok (txt_esc t.data.toList [] r (by simp; omega)) h2
    rw [List.append_assoc]
    show kindU 5 (escF t.data.toList ++ 0 :: 1 :: r) = _
    rw [kind_5, e]
    show (if (0 : Nat) = 0 then finU ⟨4, 0, 0, byS t.data.toList⟩ r else _) = _
    rw [if_pos rfl, byS_self]
    exact finU_ok hc
theorem num_cut {n : UInt64} {p q : List UInt8} (hq : q ≠ []) (e : eightB n = p ++ q) : (numU 8 0 p).1 = 4 := by
  have h8 : (eightB n).length = 8 := eightK_len n 8
  have : 0 < q.length := List.length_pos_iff.2 hq
  rw [e, List.length_append] at h8
  exact numU_short 8 0 p (by omega)
/-- A VALUE THAT IS CUT IS SHORT. -/
theorem read_cut {v : Vl} (h : Gd v) {p q : List UInt8} (hq : q ≠ []) (e : oneF v = p ++ q) : (readU p).1 = 4 := by
  cases p with
  | nil => rfl
  | cons c p =>
    show (kindU c p).1 = 4
    cases h with
    | null =>
      injection e with _ e
      exact absurd (List.append_eq_nil_iff.1 e.symm).2 hq
    | bool n hn =>
      injection e with ec e
      subst ec
      have e : [lowB n] = p ++ q := e
      cases p with
      | nil => rfl
      | cons d p =>
        injection e with _ e
        exact absurd (List.append_eq_nil_iff.1 e.symm).2 hq
    | int n =>
      injection e with ec e
      subst ec
      have e : eightB (lowL n ^^^ topU) = p ++ q := e
      have h4 := num_cut hq e
      show (kindU 3 p).1 = 4
      rw [kind_3, if_neg (by rw [h4]; decide)]
      exact h4
    | real b h1 h2 h3 =>
      injection e with ec e
      subst ec
      have e : eightB (turnF (UInt64.ofNat b)) = p ++ q := e
      have h4 := num_cut hq e
      show (kindU 4 p).1 = 4
      rw [kind_4, if_neg (by rw [h4]; decide)]
      exact h4
    | text t h1 h2 =>
      have hsz : t.data.toList.length = t.size := Array.length_toList
      injection e with ec e
      subst ec
      have e : escF t.data.toList ++ [0, 1] = p ++ q := e
      have h4 := txt_cut t.data.toList [] p q (by simp; omega) hq e
      have h5 : (textU p).1 = 4 := by
        unfold textU
        rw [if_neg (by rw [h4]; decide)]
        exact h4
      show (kindU 5 p).1 = 4
      rw [kind_5, if_neg (by rw [h5]; decide)]
      exact h5
theorem fin_inv {w v : Vl} {s r : List UInt8} (h : finU w s = (0, v, r)) : v = w ∧ r = s ∧ chkV v = 0 := by
  unfold finU at h
  split at h
  · rename_i hc
    injection h with _ h
    injection h with h1 h2
    subst h1 h2
    exact ⟨rfl, rfl, hc⟩
  · injection h with h _
    cases h
theorem chk_bool {d : Nat} (h : chkV ⟨1, (d : Int), 0, .empty⟩ = 0) : d = 0 ∨ d = 1 := by
  by_cases h4 : (⟨1, (d : Int), 0, .empty⟩ : Vl).b4 = true
  · exfalso
    have e1 : (⟨1, (d : Int), 0, .empty⟩ : Vl).b1 = false := rfl
    have e2 : (⟨1, (d : Int), 0, .empty⟩ : Vl).b2 = false := rfl
    unfold chkV at h
    rw [e1, e2, if_neg (by decide), if_neg (by decide)] at h
    split at h
    · cases h
    · split at h
      · cases h
      · rename_i h1
        exact h1 rfl
  · unfold Vl.b4 at h4
    simp at h4
    omega
theorem chk_text {t : ByteArray} (h : chkV ⟨4, 0, 0, t⟩ = 0) : t.size ≤ 40 := by
  by_cases h2 : (⟨4, 0, 0, t⟩ : Vl).b2 = true
  · exfalso
    have e1 : (⟨4, 0, 0, t⟩ : Vl).b1 = false := rfl
    unfold chkV at h
    rw [e1, if_neg (by decide), if_pos h2] at h
    cases h
  · unfold Vl.b2 at h2
    simp at h2
    omega
/-- WHAT IS READ IS WRITTEN JUST SO. -/
theorem read_inv {s r : List UInt8} {v : Vl} (h : readU s = (0, v, r)) : Gk v ∧ chkV v = 0 ∧ s = oneF v ++ r := by
  cases s with
  | nil =>
    injection h with h _
    cases h
  | cons c s =>
    have h : kindU c s = (0, v, r) := h
    by_cases c1 : c = 1
    · subst c1
      injection h with _ h
      injection h with h1 h2
      subst h1 h2
      exact ⟨.null, Gd.null.chk, rfl⟩
    by_cases c2 : c = 2
    · subst c2
      cases s with
      | nil =>
        injection h with h _
        cases h
      | cons d s =>
        obtain ⟨rfl, rfl, hc⟩ := fin_inv ((kind_2 d s).symm.trans h)
        have hd := chk_bool hc
        refine ⟨.bool _ (by omega), hc, ?_⟩
        have : d = 0 ∨ d = 1 := by
          rcases hd with h0 | h0
          · exact .inl (UInt8.toNat_inj.1 h0)
          · exact .inr (UInt8.toNat_inj.1 h0)
        rcases this with rfl | rfl <;> rfl
    by_cases c3 : c = 3
    · subst c3
      rw [kind_3] at h
      obtain ⟨⟨e, n, q⟩, hn⟩ : ∃ R, numU 8 0 s = R := ⟨_, rfl⟩
      rw [hn] at h
      by_cases e0 : e = 0
      · subst e0
        have h : finU ⟨2, intU n, 0, .empty⟩ q = (0, v, r) := h
        obtain ⟨rfl, rfl, hc⟩ := fin_inv h
        refine ⟨.int _, hc, ?_⟩
        rw [eight_num hn]
        show 3 :: (eightB n ++ r) = 3 :: (eightB (lowL (intU n) ^^^ topU) ++ r)
        rw [low_int]
      · have h : (if e = 0 then finU ⟨2, intU n, 0, .empty⟩ q else (e, Vl0, q)) = (0, v, r) := h
        rw [if_neg e0] at h
        injection h with h _
        exact absurd h e0
    by_cases c4 : c = 4
    · subst c4
      rw [kind_4] at h
      obtain ⟨⟨e, n, q⟩, hn⟩ : ∃ R, numU 8 0 s = R := ⟨_, rfl⟩
      rw [hn] at h
      by_cases e0 : e = 0
      · subst e0
        have h : finU ⟨3, 0, (backF n).toNat, .empty⟩ q = (0, v, r) := h
        obtain ⟨rfl, rfl, hc⟩ := fin_inv h
        refine ⟨.real _ (UInt64.toNat_lt _), hc, ?_⟩
        rw [eight_num hn]
        show 4 :: (eightB n ++ r) = 4 :: (eightB (turnF (UInt64.ofNat (backF n).toNat)) ++ r)
        rw [UInt64.ofNat_toNat, turn_back]
      · have h : (if e = 0 then finU ⟨3, 0, (backF n).toNat, .empty⟩ q else (e, Vl0, q)) = (0, v, r) := h
        rw [if_neg e0] at h
        injection h with h _
        exact absurd h e0
    by_cases c5 : c = 5
    · subst c5
      rw [kind_5] at h
      obtain ⟨⟨e, t, q⟩, hn⟩ : ∃ R, textU s = R := ⟨_, rfl⟩
      rw [hn] at h
      by_cases e0 : e = 0
      · subst e0
        have h : finU ⟨4, 0, 0, byS t⟩ q = (0, v, r) := h
        obtain ⟨rfl, rfl, hc⟩ := fin_inv h
        refine ⟨.text _ (chk_text hc), hc, ?_⟩
        have hx : txtU [] s = (0, t, r) := by
          unfold textU at hn
          split at hn
          · split at hn
            · exact hn
            · injection hn with hn _
              cases hn
          · rename_i hne
            injection hn with hn _
            exact absurd hn hne
        obtain ⟨u, e1, e2, _⟩ := txt_inv _ [] s t r (Nat.le_refl _) (by decide) hx
        have e1 : t = u := e1
        subst e1
        show 5 :: s = 5 :: ((escF (byS t).data.toList ++ [0, 1]) ++ r)
        rw [byS_list, e2, List.append_assoc]
        rfl
      · have h : (if e = 0 then finU ⟨4, 0, 0, byS t⟩ q else (e, Vl0, q)) = (0, v, r) := h
        rw [if_neg e0] at h
        injection h with h _
        exact absurd h e0
    unfold kindU at h
    rw [if_neg c1, if_neg c2, if_neg c3, if_neg c4, if_neg c5] at h
    injection h with h _
    cases h
/-! ### rows -/
def decU (d : Int) : Nat → Nat → List Vl → List UInt8 → Nat × List Vl × List UInt8
  | _, 0, o, s => (0, o, s)
  | i, n + 1, o, s => if (readU (s.map (flipB (opnB d i)))).1 = 0 then decU d (i + 1) n (o ++ [(readU (s.map (flipB (opnB d i)))).2.1]) ((readU (s.map (flipB (opnB d i)))).2.2.map (flipB (opnB d i)))
    else ((readU (s.map (flipB (opnB d i)))).1, [], [])
/-- What Decode tells. -/
def decF (d : Int) (n : Nat) (s : List UInt8) : Nat × List Vl :=
  if (decU d 0 n [] s).1 = 0 then (if (decU d 0 n [] s).2.2 = [] then (0, (decU d 0 n [] s).2.1) else (3, [])) else ((decU d 0 n [] s).1, [])
theorem flip_flip (b : Bool) (c : UInt8) : flipB b (flipB b c) = c := by
  cases b
  · rfl
  · show 255 ^^^ (255 ^^^ c) = c
    rw [← UInt8.xor_assoc, UInt8.xor_self, UInt8.zero_xor]
theorem map_flip (b : Bool) (l : List UInt8) : (l.map (flipB b)).map (flipB b) = l := by
  rw [List.map_map]
  have : flipB b ∘ flipB b = id := funext fun c => flip_flip b c
  rw [this, List.map_id]
theorem dec_enc (d : Int) : ∀ (l : List Vl) (i : Nat) (o : List Vl) (r : List UInt8), (∀ v ∈ l, Gi v) → decU d i l.length o (encF d i l ++ r) = (0, o ++ l, r)
  | [], i, o, r, _ => by rw [List.append_nil]; rfl
  | v :: l, i, o, r, h => by
    have hv := h v List.mem_cons_self
    have e : ((encF d i (v :: l) ++ r).map (flipB (opnB d i))) = oneF v ++ (encF d (i + 1) l ++ r).map (flipB (opnB d i)) := by
      rw [encF, List.append_assoc, List.map_append, map_flip]
    have e2 := read_one hv ((encF d (i + 1) l ++ r).map (flipB (opnB d i)))
    rw [List.length_cons, decU, e, e2]
    show (if (0 : Nat) = 0 then _ else _) = _
    rw [if_pos rfl]
    show decU d (i + 1) l.length (o ++ [v]) (((encF d (i + 1) l ++ r).map (flipB (opnB d i))).map (flipB (opnB d i))) = _
    rw [map_flip, dec_enc d l (i + 1) (o ++ [v]) r fun w hw => h w (List.mem_cons_of_mem _ hw), List.append_assoc]
    rfl
theorem app_split {α : Type} : ∀ (a b p q : List α), a ++ b = p ++ q → (∃ x, x ≠ [] ∧ a = p ++ x) ∨ ∃ x, p = a ++ x ∧ b = x ++ q
  | [], b, p, q, h => .inr ⟨p, rfl, h⟩
  | c :: a, b, [], q, h => .inl ⟨c :: a, by simp, rfl⟩
  | c :: a, b, e :: p, q, h => by
    injection h with h1 h2
    subst h1
    rcases app_split a b p q h2 with ⟨x, hx, h3⟩ | ⟨x, h3, h4⟩
    · exact .inl ⟨x, hx, by rw [h3]; rfl⟩
    · exact .inr ⟨x, by rw [h3]; rfl, h4⟩
theorem dec_cut (d : Int) : ∀ (l : List Vl) (i : Nat) (o : List Vl) (p q : List UInt8), (∀ v ∈ l, Gi v) → q ≠ [] → encF d i l = p ++ q → (decU d i l.length o p).1 = 4
  | [], i, o, p, q, _, hq, e => absurd (List.append_eq_nil_iff.1 (show [] = p ++ q from e).symm).2 hq
  | v :: l, i, o, p, q, h, hq, e => by
    have hv := h v List.mem_cons_self
    rw [encF] at e
    rw [List.length_cons, decU]
    rcases app_split _ _ p q e with ⟨x, hx, h3⟩ | ⟨x, h3, h4⟩
    · have e2 : oneF v = p.map (flipB (opnB d i)) ++ x.map (flipB (opnB d i)) := by rw [← List.map_append, ← h3, map_flip]
      have h5 := read_cut hv.1 (by simpa using hx) e2
      rw [if_neg (by rw [h5]; decide)]
      exact h5
    · have e3 : p.map (flipB (opnB d i)) = oneF v ++ x.map (flipB (opnB d i)) := by rw [h3, List.map_append, map_flip]
      rw [e3, read_one hv, if_pos rfl]
      show (decU d (i + 1) l.length (o ++ [v]) ((x.map (flipB (opnB d i))).map (flipB (opnB d i)))).1 = 4
      rw [map_flip]
      exact dec_cut d l (i + 1) _ x q (fun w hw => h w (List.mem_cons_of_mem _ hw)) hq h4
theorem dec_inv (d : Int) : ∀ (n i : Nat) (o o' : List Vl) (s r : List UInt8), decU d i n o s = (0, o', r) → ∃ l, o' = o ++ l ∧ l.length = n ∧ (∀ v ∈ l, Gk v ∧ chkV v = 0) ∧ s = encF d i l ++ r
  | 0, i, o, o', s, r, h => by
    injection h with _ h
    injection h with h1 h2
    subst h1 h2
    exact ⟨[], by simp, rfl, fun v hv => absurd hv (by simp), rfl⟩
  | n + 1, i, o, o', s, r, h => by
    rw [decU] at h
    obtain ⟨⟨e, v, q⟩, hr⟩ : ∃ R, readU (s.map (flipB (opnB d i))) = R := ⟨_, rfl⟩
    rw [hr] at h
    have h : (if e = 0 then decU d (i + 1) n (o ++ [v]) (q.map (flipB (opnB d i))) else (e, [], [])) = (0, o', r) := h
    by_cases e0 : e = 0
    · subst e0
      rw [if_pos rfl] at h
      obtain ⟨g1, g2, g3⟩ := read_inv hr
      obtain ⟨l, h1, h2, h3, h4⟩ := dec_inv d n (i + 1) _ o' _ r h
      refine ⟨v :: l, by rw [h1, List.append_assoc]; rfl, by rw [List.length_cons, h2], fun w hw => ?_, ?_⟩
      · rcases List.mem_cons.1 hw with rfl | hw
        · exact ⟨g1, g2⟩
        · exact h3 w hw
      · rw [encF, List.append_assoc, ← h4, ← map_flip (opnB d i) s, g3, List.map_append]
    · rw [if_neg e0] at h
      injection h with h _
      exact absurd h e0
theorem decF_enc (d : Int) {l : List Vl} (h : ∀ v ∈ l, Gi v) : decF d l.length (encF d 0 l) = (0, l) := by
  have e := dec_enc d l 0 [] [] h
  rw [List.append_nil] at e
  unfold decF
  rw [e]
  rfl
theorem decF_more (d : Int) {l : List Vl} (h : ∀ v ∈ l, Gi v) (c : UInt8) : decF d l.length (encF d 0 l ++ [c]) = (3, []) := by
  unfold decF
  rw [dec_enc d l 0 [] [c] h]
  rfl
theorem decF_cut (d : Int) {l : List Vl} (h : ∀ v ∈ l, Gi v) {k : Nat} (hk : k < (encF d 0 l).length) : decF d l.length ((encF d 0 l).take k) = (4, []) := by
  have e := dec_cut d l 0 [] _ _ h (fun hx => by have := congrArg List.length hx; rw [List.length_drop, List.length_nil] at this; omega) (List.take_append_drop k (encF d 0 l)).symm
  unfold decF
  rw [if_neg (by rw [e]; decide), e]
theorem decF_inv {d : Int} {n : Nat} {s : List UInt8} {l : List Vl} (h : decF d n s = (0, l)) : l.length = n ∧ (∀ v ∈ l, Gk v ∧ chkV v = 0) ∧ s = encF d 0 l := by
  unfold decF at h
  obtain ⟨⟨e, o, q⟩, hr⟩ : ∃ R, decU d 0 n [] s = R := ⟨_, rfl⟩
  rw [hr] at h
  have h : (if e = 0 then (if q = [] then (0, o) else (3, [])) else (e, [])) = ((0, l) : Nat × List Vl) := h
  by_cases e0 : e = 0
  · rw [if_pos e0] at h
    subst e0
    by_cases q0 : q = []
    · rw [if_pos q0] at h
      subst q0
      injection h with _ h
      subst h
      obtain ⟨l', h1, h2, h3, h4⟩ := dec_inv d n 0 [] o s [] hr
      have h1 : o = l' := h1
      subst h1
      exact ⟨h2, h3, by rw [h4, List.append_nil]⟩
    · rw [if_neg q0] at h
      injection h with h _
      cases h
  · rw [if_neg e0] at h
    injection h with h _
    exact absurd h e0
end Go.Proofs.YtclhmdobhlalmaaDoor
