/-
  What wire.Tell tells and wire.Told reads, in plain words. No program in sight.
-/
import Derived.Test.YtclhmdobhlalmaaDoorZRd2
namespace Go.Proofs.YtclhmdobhlalmaaDoor
set_option linter.unusedSimpArgs false
set_option linter.unusedVariables false
open Go.RowKit

def rowB (r : List Vl) : List UInt8 := lowB (r.length : Nat) :: lowB (((encF 0 0 r).length / 256 : Nat) : Int) :: lowB ((encF 0 0 r).length : Nat) :: encF 0 0 r
def rowsB : List (List Vl) → List UInt8
  | [] => []
  | r :: l => rowB r ++ rowsB l
def telF (e n : Nat) (l : List (List Vl)) : List UInt8 := lowB e :: lowB n :: lowB (l.length : Nat) :: rowsB l
theorem rowsB_app : ∀ l m : List (List Vl), rowsB (l ++ m) = rowsB l ++ rowsB m
  | [], m => rfl
  | r :: l, m => by rw [List.cons_append, rowsB, rowsB, rowsB_app l m, List.append_assoc]
theorem rowsB_take {l : List (List Vl)} {k : Nat} {r : List Vl} (h : l[k]? = some r) : rowsB (l.take (k + 1)) = rowsB (l.take k) ++ rowB r := by
  have e : l.take (k + 1) = l.take k ++ [r] := by rw [List.take_add_one, h]; rfl
  rw [e, rowsB_app]
  simp [rowsB]
def decG (k : Nat) (s : List UInt8) : Nat × List Vl := if k ≤ 5 then decF 0 k s else (1, [])
def rowsU : Nat → List (List Vl) → List UInt8 → Nat × List (List Vl) × List UInt8
  | 0, o, s => (0, o, s)
  | n + 1, o, a :: b :: c :: s => if s.length < b.toNat * 256 + c.toNat then (4, [], []) else if (decG a.toNat (s.take (b.toNat * 256 + c.toNat))).1 = 0 then
      rowsU n (o ++ [(decG a.toNat (s.take (b.toNat * 256 + c.toNat))).2]) (s.drop (b.toNat * 256 + c.toNat)) else ((decG a.toNat (s.take (b.toNat * 256 + c.toNat))).1, [], [])
  | _ + 1, _, _ => (4, [], [])
def fixR (x y : Nat) (R : Nat × List (List Vl) × List UInt8) : Nat × Nat × Nat × List (List Vl) := if R.1 = 0 then (if R.2.2 = [] then (0, x, y, R.2.1) else (3, 0, 0, [])) else (R.1, 0, 0, [])
def toldF : List UInt8 → Nat × Nat × Nat × List (List Vl)
  | a :: b :: c :: s => if 12 < a.toNat ∨ 64 < b.toNat ∨ 64 < c.toNat then (6, 0, 0, []) else fixR a.toNat b.toNat (rowsU c.toNat [] s)
  | _ => (4, 0, 0, [])
theorem rowsU_short (n : Nat) (o : List (List Vl)) {s : List UInt8} (h : s.length < 3) : rowsU (n + 1) o s = (4, [], []) := by
  match s, h with
  | [], _ => rfl
  | [_], _ => rfl
  | [_, _], _ => rfl
  | _ :: _ :: _ :: _, h => simp only [List.length_cons] at h; omega
theorem rowsU_cons (n : Nat) (o : List (List Vl)) (a b c : UInt8) (s : List UInt8) : rowsU (n + 1) o (a :: b :: c :: s) = if s.length < b.toNat * 256 + c.toNat then (4, [], []) else if (decG a.toNat (s.take (b.toNat * 256 + c.toNat))).1 = 0 then
      rowsU n (o ++ [(decG a.toNat (s.take (b.toNat * 256 + c.toNat))).2]) (s.drop (b.toNat * 256 + c.toNat)) else ((decG a.toNat (s.take (b.toNat * 256 + c.toNat))).1, [], []) := rfl
theorem toldF_short {s : List UInt8} (h : s.length < 3) : toldF s = (4, 0, 0, []) := by
  match s, h with
  | [], _ => rfl
  | [_], _ => rfl
  | [_, _], _ => rfl
  | _ :: _ :: _ :: _, h => simp only [List.length_cons] at h; omega
theorem toldF_cons (a b c : UInt8) (s : List UInt8) : toldF (a :: b :: c :: s) = if 12 < a.toNat ∨ 64 < b.toNat ∨ 64 < c.toNat then (6, 0, 0, []) else fixR a.toNat b.toNat (rowsU c.toNat [] s) := rfl
theorem low_n {n : Nat} (h : n < 256) : (lowB (n : Int)).toNat = n := by
  have := lowB_nat (n := (n : Int)) (by omega) (by omega)
  omega
theorem low_2 {n : Nat} (h : n < 65536) : (lowB ((n / 256 : Nat) : Int)).toNat * 256 + (lowB (n : Int)).toNat = n := by
  have h1 := low_n (n := n / 256) (by omega)
  have h2 : (lowB (n : Int)).toNat = n % 256 := by
    unfold lowB
    rw [UInt8.toNat_ofNat']
    omega
  rw [h1, h2]
  omega
theorem low_self (a : UInt8) : lowB ((a.toNat : Nat) : Int) = a := UInt8.toNat_inj.1 (low_n a.toNat_lt)
theorem low_hi (b c : UInt8) : lowB (((b.toNat * 256 + c.toNat) / 256 : Nat) : Int) = b := by
  have hb := b.toNat_lt
  have hc := c.toNat_lt
  have e : (b.toNat * 256 + c.toNat) / 256 = b.toNat := by omega
  rw [e, low_self]
theorem low_lo (b c : UInt8) : lowB ((b.toNat * 256 + c.toNat : Nat) : Int) = c := by
  have hb := b.toNat_lt
  have hc := c.toNat_lt
  apply UInt8.toNat_inj.1
  unfold lowB
  rw [UInt8.toNat_ofNat']
  omega
/-- A row that may be. -/
def RowOk (r : List Vl) : Prop := r.length ≤ 5 ∧ ∀ v ∈ r, Gi v
def RowK (r : List Vl) : Prop := r.length ≤ 5 ∧ ∀ v ∈ r, Gk v ∧ chkV v = 0
theorem RowOk.k {r : List Vl} (h : RowOk r) : RowK r := ⟨h.1, fun v hv => ⟨(h.2 v hv).1.gk, (h.2 v hv).1.chk⟩⟩
theorem RowK.len {r : List Vl} (h : RowK r) : (encF 0 0 r).length ≤ 415 := by
  have h1 := (encK_len 0 0 r fun v hv => (h.2 v hv).1).1
  have h2 := h.1
  omega
theorem rows_told : ∀ (l o : List (List Vl)) (t : List UInt8), (∀ r ∈ l, RowOk r) → rowsU l.length o (rowsB l ++ t) = (0, o ++ l, t)
  | [], o, t, _ => by rw [List.append_nil]; rfl
  | r :: l, o, t, h => by
    have hr := h r List.mem_cons_self
    have hlen := hr.k.len
    have h5 := hr.1
    have e : rowsB (r :: l) ++ t = lowB (r.length : Nat) :: lowB (((encF 0 0 r).length / 256 : Nat) : Int) :: lowB ((encF 0 0 r).length : Nat) :: (encF 0 0 r ++ (rowsB l ++ t)) := by
      rw [rowsB, List.append_assoc]; rfl
    have hd : decG r.length (encF 0 0 r) = (0, r) := by
      unfold decG
      rw [if_pos h5]
      exact decF_enc 0 hr.2
    rw [List.length_cons, e, rowsU_cons, low_2 (by omega), low_n (by omega), if_neg (by rw [List.length_append]; omega), List.take_left, List.drop_left, hd, if_pos rfl]
    rw [rows_told l _ t fun q hq => h q (List.mem_cons_of_mem _ hq), List.append_assoc]
    rfl
theorem rows_cut : ∀ (l o : List (List Vl)) (p q : List UInt8), (∀ r ∈ l, RowOk r) → q ≠ [] → rowsB l = p ++ q → (rowsU l.length o p).1 = 4
  | [], o, p, q, _, hq, e => absurd (List.append_eq_nil_iff.1 (show [] = p ++ q from e).symm).2 hq
  | r :: l, o, p, q, h, hq, e => by
    have hr := h r List.mem_cons_self
    have hlen := hr.k.len
    have h5 := hr.1
    rw [List.length_cons]
    by_cases h3 : p.length < 3
    · rw [rowsU_short _ _ h3]
    · rcases p with _ | ⟨a, _ | ⟨b, _ | ⟨c, p⟩⟩⟩
      · exact absurd (by simp) h3
      · exact absurd (by simp) h3
      · exact absurd (by simp) h3
      · clear h3
        have z : lowB (r.length : Nat) :: lowB (((encF 0 0 r).length / 256 : Nat) : Int) :: lowB ((encF 0 0 r).length : Nat) :: (encF 0 0 r ++ rowsB l) = a :: b :: c :: (p ++ q) := e
        clear e
        injection z with e1 z
        injection z with e2 z
        injection z with e3 z
        subst e1 e2 e3
        rw [rowsU_cons, low_2 (by omega), low_n (by omega)]
        rcases app_split _ _ p q z with ⟨x, hx, h4⟩ | ⟨x, h4, h6⟩
        · have hxl := List.length_pos_iff.2 hx
          rw [if_pos (by rw [h4, List.length_append]; omega)]
        · have hd : decG r.length (encF 0 0 r) = (0, r) := by
            unfold decG
            rw [if_pos h5]
            exact decF_enc 0 hr.2
          rw [h4, if_neg (by rw [List.length_append]; omega), List.take_left, List.drop_left, hd, if_pos rfl]
          exact rows_cut l _ x q (fun q hq => h q (List.mem_cons_of_mem _ hq)) hq h6
theorem rows_inv : ∀ (n : Nat) (o o' : List (List Vl)) (s t : List UInt8), rowsU n o s = (0, o', t) → ∃ l, o' = o ++ l ∧ l.length = n ∧ (∀ r ∈ l, RowK r) ∧ s = rowsB l ++ t
  | 0, o, o', s, t, h => by
    injection h with _ h
    injection h with h1 h2
    subst h1 h2
    exact ⟨[], by simp, rfl, fun r hr => absurd hr (by simp), rfl⟩
  | n + 1, o, o', s, t, h => by
    by_cases h3 : s.length < 3
    · rw [rowsU_short _ _ h3] at h
      injection h with h _
      cases h
    · rcases s with _ | ⟨a, _ | ⟨b, _ | ⟨c, s⟩⟩⟩
      · exact absurd (by simp) h3
      · exact absurd (by simp) h3
      · exact absurd (by simp) h3
      · clear h3
        rw [rowsU_cons] at h
        obtain ⟨m, hm⟩ : ∃ m, b.toNat * 256 + c.toNat = m := ⟨_, rfl⟩
        have hb := low_hi b c
        have hc := low_lo b c
        rw [hm] at h hb hc
        obtain ⟨⟨e, r⟩, hR⟩ : ∃ R, decG a.toNat (s.take m) = R := ⟨_, rfl⟩
        rw [hR] at h
        by_cases hl : s.length < m
        · rw [if_pos hl] at h
          injection h with h _
          cases h
        · rw [if_neg hl] at h
          have h : (if e = 0 then rowsU n (o ++ [r]) (s.drop m) else (e, [], [])) = (0, o', t) := h
          by_cases he : e = 0
          · subst he
            rw [if_pos rfl] at h
            unfold decG at hR
            by_cases h5 : a.toNat ≤ 5
            · rw [if_pos h5] at hR
              obtain ⟨g1, g2, g3⟩ := decF_inv hR
              obtain ⟨l, q1, q2, q3, q4⟩ := rows_inv n _ o' _ t h
              refine ⟨r :: l, by rw [q1, List.append_assoc]; rfl, by rw [List.length_cons, q2], fun z hz => ?_, ?_⟩
              · rcases List.mem_cons.1 hz with rfl | hz
                · exact ⟨by omega, g2⟩
                · exact q3 z hz
              · have hL : (encF 0 0 r).length = m := by rw [← g3, List.length_take]; omega
                have hA : lowB (r.length : Nat) = a := by rw [g1, low_self]
                have e1 : rowsB (r :: l) ++ t = lowB (r.length : Nat) :: lowB (((encF 0 0 r).length / 256 : Nat) : Int) :: lowB ((encF 0 0 r).length : Nat) :: (encF 0 0 r ++ (rowsB l ++ t)) := by
                  rw [rowsB, List.append_assoc]; rfl
                rw [e1, hL, hA, hb, hc, ← q4, ← g3, List.take_append_drop]
            · rw [if_neg h5] at hR
              injection hR with hR _
              cases hR
          · rw [if_neg he] at h
            injection h with h _
            exact absurd h he
/-! ### replies -/
theorem told_tell {e n : Nat} {l : List (List Vl)} (he : e ≤ 12) (hn : n ≤ 64) (hl : l.length ≤ 64) (h : ∀ r ∈ l, RowOk r) : toldF (telF e n l) = (0, e, n, l) := by
  have e1 := rows_told l [] [] h
  rw [List.append_nil] at e1
  unfold telF
  rw [toldF_cons, low_n (by omega), low_n (by omega), low_n (by omega), if_neg (by omega), e1]
  rfl
theorem told_cut {e n k : Nat} {l : List (List Vl)} (he : e ≤ 12) (hn : n ≤ 64) (hl : l.length ≤ 64) (h : ∀ r ∈ l, RowOk r) (hk : k < (telF e n l).length) : toldF ((telF e n l).take k) = (4, 0, 0, []) := by
  by_cases h3 : k < 3
  · exact toldF_short (by rw [List.length_take]; omega)
  · obtain ⟨j, rfl⟩ : ∃ j, k = j + 3 := ⟨k - 3, by omega⟩
    have hj : j < (rowsB l).length := by unfold telF at hk; simp only [List.length_cons] at hk; omega
    have e1 := rows_cut l [] ((rowsB l).take j) ((rowsB l).drop j) h (fun hx => by have := congrArg List.length hx; rw [List.length_drop, List.length_nil] at this; omega) (List.take_append_drop j _).symm
    show toldF (lowB e :: lowB n :: lowB (l.length : Nat) :: (rowsB l).take j) = _
    rw [toldF_cons, low_n (by omega), low_n (by omega), low_n (by omega), if_neg (by omega)]
    unfold fixR
    rw [if_neg (by rw [e1]; decide), e1]
theorem told_inv {s : List UInt8} {x y : Nat} {l : List (List Vl)} (h : toldF s = (0, x, y, l)) : x ≤ 12 ∧ y ≤ 64 ∧ l.length ≤ 64 ∧ (∀ r ∈ l, RowK r) ∧ s = telF x y l := by
  by_cases h3 : s.length < 3
  · rw [toldF_short h3] at h
    injection h with h _
    cases h
  · rcases s with _ | ⟨a, _ | ⟨b, _ | ⟨c, s⟩⟩⟩
    · exact absurd (by simp) h3
    · exact absurd (by simp) h3
    · exact absurd (by simp) h3
    · clear h3
      rw [toldF_cons] at h
      by_cases hb : 12 < a.toNat ∨ 64 < b.toNat ∨ 64 < c.toNat
      · rw [if_pos hb] at h
        injection h with h _
        cases h
      · rw [if_neg hb] at h
        obtain ⟨⟨e, o, t⟩, hR⟩ : ∃ R, rowsU c.toNat [] s = R := ⟨_, rfl⟩
        rw [hR] at h
        have h : (if e = 0 then (if t = [] then (0, a.toNat, b.toNat, o) else (3, 0, 0, [])) else (e, 0, 0, [])) = ((0, x, y, l) : Nat × Nat × Nat × List (List Vl)) := h
        by_cases he : e = 0
        · subst he
          rw [if_pos rfl] at h
          by_cases ht : t = []
          · subst ht
            rw [if_pos rfl] at h
            injection h with _ h
            injection h with h1 h
            injection h with h2 h3
            subst h1 h2 h3
            obtain ⟨l', q1, q2, q3, q4⟩ := rows_inv _ _ _ _ _ hR
            have q1 : o = l' := q1
            subst q1
            refine ⟨by omega, by omega, by omega, q3, ?_⟩
            unfold telF
            rw [q2, low_self, low_self, low_self, q4, List.append_nil]
          · rw [if_neg ht] at h
            injection h with h _
            cases h
        · rw [if_neg he] at h
          injection h with h _
          exact absurd h he
theorem told_err {s : List UInt8} {e x y : Nat} {l : List (List Vl)} (h : toldF s = (e, x, y, l)) (he : e ≠ 0) : x = 0 ∧ y = 0 ∧ l = [] := by
  have key : ∀ q : Nat, ((q, 0, 0, []) : Nat × Nat × Nat × List (List Vl)) = (e, x, y, l) → x = 0 ∧ y = 0 ∧ l = [] := fun q h => by
    injection h with _ h
    injection h with h1 h
    injection h with h2 h3
    exact ⟨h1.symm, h2.symm, h3.symm⟩
  unfold toldF at h
  split at h
  · split at h
    · exact key _ h
    · unfold fixR at h
      split at h
      · split at h
        · injection h with h _
          exact absurd h.symm he
        · exact key _ h
      · exact key _ h
  · exact key _ h
end Go.Proofs.YtclhmdobhlalmaaDoor
