/-
  What an expression says of a row: a value, or what is wrong. No program in sight.
-/
import Derived.Test.YtpaccaojgbfjdaaDoorZEx
namespace Go.Proofs.YtpaccaojgbfjdaaDoor
set_option linter.unusedSimpArgs false
set_option linter.unusedVariables false
open Go.Lib

/-- What is told: a value, and what is wrong. -/
structure Tv where
  v : Vl
  e : Nat
abbrev nullV : Vl := ⟨0, 0, 0, .empty⟩
abbrev Tv.bad (e : Nat) : Tv := ⟨nullV, e⟩
abbrev numV (n : Int) : Vl := ⟨2, n, 0, .empty⟩
abbrev txtV (t : ByteArray) : Vl := ⟨4, 0, 0, t⟩
abbrev w64 (n : Int) : Int := IntKind.i64.wrap n
/-- How many signs there are in a text. -/
def runesL : Nat → List UInt8 → Nat
  | 0, _ => 0
  | f + 1, l => if l = [] then 0 else runesL f (l.drop (decodeL l).2) + 1
def runeN (s : ByteArray) : Nat := runesL s.size s.data.toList
theorem runesL_fuel : ∀ (f g : Nat) (l : List UInt8), l.length ≤ f → l.length ≤ g → runesL f l = runesL g l
  | 0, 0, _, _, _ => rfl
  | 0, g + 1, l, h, _ => by
    have : l = [] := List.length_eq_zero_iff.1 (by omega)
    subst this; rfl
  | f + 1, 0, l, _, h => by
    have : l = [] := List.length_eq_zero_iff.1 (by omega)
    subst this; rfl
  | f + 1, g + 1, l, h1, h2 => by
    have hw := decodeL_width l
    unfold runesL
    split
    · rfl
    · rw [runesL_fuel f g _ (by rw [List.length_drop]; omega) (by rw [List.length_drop]; omega)]
theorem runesL_le : ∀ (f : Nat) (l : List UInt8), runesL f l ≤ l.length
  | 0, _ => Nat.zero_le _
  | f + 1, l => by
    unfold runesL
    split
    · exact Nat.zero_le _
    · rename_i hne
      have hw := decodeL_width l
      have hl := decodeL_le l hne
      have := runesL_le f (l.drop (decodeL l).2)
      rw [List.length_drop] at this
      omega
theorem runesL_app : ∀ (f : Nat) (a b : List UInt8), a.length + b.length ≤ f → validD a = true → runesL f (a ++ b) = runesL f a + runesL f b
  | 0, a, b, h, _ => rfl
  | f + 1, a, b, h, ha => by
    by_cases hne : a = []
    · subst hne
      show runesL (f + 1) b = 0 + _
      rw [Nat.zero_add]
    · rw [validD_step a hne] at ha
      split at ha
      · cases ha
      · rename_i hv
        have hw := decodeL_width a
        have hle := decodeL_le a hne
        rw [runesL, if_neg (by simp [hne]), dec_app hne hv, List.drop_append_of_le_length hle, runesL_app f _ b (by rw [List.length_drop]; omega) ha]
        have e1 : runesL (f + 1) a = runesL f (a.drop (decodeL a).2) + 1 := by rw [runesL, if_neg hne]
        rw [e1, runesL_fuel (f + 1) f b (by omega) (by omega)]
        omega
theorem sz_eq (s : ByteArray) : s.size = s.data.toList.length := by rw [Array.length_toList]; rfl
theorem runeN_le (s : ByteArray) : runeN s ≤ s.size := by
  have := runesL_le s.size s.data.toList
  rw [← sz_eq] at this
  exact this
theorem runeN_pos (s : ByteArray) : 0 < runeN s ↔ 0 < s.size := by
  constructor
  · intro h; have := runeN_le s; omega
  · intro h
    unfold runeN
    obtain ⟨f, hf⟩ : ∃ f, s.size = f + 1 := ⟨s.size - 1, by omega⟩
    rw [hf, runesL, if_neg (by intro h0; rw [sz_eq, h0] at h; simp at h)]
    omega
theorem runeN_app (s t : ByteArray) (hs : validD s.data.toList = true) : runeN (s ++ t) = runeN s + runeN t := by
  unfold runeN
  have e : (s ++ t).data.toList = s.data.toList ++ t.data.toList := by rw [ByteArray.data_append, Array.toList_append]
  have e2 : (s ++ t).size = s.size + t.size := ByteArray.size_append
  rw [e, e2, runesL_app _ _ _ (by rw [← sz_eq, ← sz_eq]; omega) hs, runesL_fuel (s.size + t.size) s.size _ (by rw [← sz_eq]; omega) (by rw [← sz_eq]; omega),
    runesL_fuel (s.size + t.size) t.size _ (by rw [← sz_eq]; omega) (by rw [← sz_eq]; omega)]

/-! ### one operation -/
def yesI (g : Bool) : Int := if g = true then 2 else 0
def partI (v : Vl) : Int := if v.k = 0 then 1 else w64 (2 * v.n)
def truI (t : Int) : Vl := if t = 1 then nullV else ⟨1, Int.tdiv t 2, 0, .empty⟩
def oneF (op : Nat) (v : Vl) : Tv :=
  if op = 17 then (if v.k = 0 then ⟨truI 2, 0⟩ else ⟨truI 0, 0⟩) else
  if v.k = 0 then ⟨v, 0⟩ else
  if op = 4 then (if v.k = 1 then ⟨⟨1, w64 (1 - v.n), 0, .empty⟩, 0⟩ else .bad 2) else
  if op = 18 then (if v.k = 4 then ⟨numV (runeN v.t), 0⟩ else .bad 2) else
  if v.k = 2 then (if v.n = -9223372036854775808 then .bad 6 else ⟨numV (w64 (0 - v.n)), 0⟩) else .bad 2
def logF (op : Nat) (v w : Vl) : Tv := if v.k ≤ 1 ∧ w.k ≤ 1 then ⟨truI (if op = 16 then max (partI v) (partI w) else min (partI v) (partI w)), 0⟩ else .bad 2
def fitK (k : Int) (v w : Vl) : Bool := (v.k == 0 || v.k == k) && (w.k == 0 || w.k == k)
def catF (v w : Vl) : Tv := if fitK 4 v w = true then (if v.k = 0 ∨ w.k = 0 then ⟨nullV, 0⟩ else if v.t.size + w.t.size > 40 then .bad 1 else ⟨txtV (v.t ++ w.t), 0⟩) else .bad 2
def addB (a b : Int) : Bool := decide (w64 (a + b) > a) == decide (b > 0) || b == 0
def subB (a b : Int) : Bool := decide (w64 (a - b) < a) == decide (b > 0) || b == 0
def mulB (a b : Int) : Bool := !(a == -1 && b == -9223372036854775808) && !(b == -1 && a == -9223372036854775808) && w64 (Int.tdiv (w64 (a * b)) b) == a
def reckN (op : Nat) (a b : Int) : Tv :=
  if op = 5 then (if addB a b = true then ⟨numV (w64 (a + b)), 0⟩ else .bad 6) else
  if op = 6 then (if subB a b = true then ⟨numV (w64 (a - b)), 0⟩ else .bad 6) else
  if op = 7 then (if a = 0 ∨ b = 0 then ⟨numV 0, 0⟩ else if mulB a b = true then ⟨numV (w64 (a * b)), 0⟩ else .bad 6) else
  if b = 0 then .bad 7 else if a = -9223372036854775808 ∧ b = -1 then .bad 6 else ⟨numV (w64 (Int.tdiv a b)), 0⟩
def reckF (op : Nat) (v w : Vl) : Tv := if fitK 2 v w = true then (if v.k = 0 ∨ w.k = 0 then ⟨nullV, 0⟩ else reckN op v.n w.n) else .bad 2
def cmpT (op : Nat) (v w : Vl) : Int :=
  if op = 9 then yesI (ordV v w == 0) else if op = 10 then 2 - yesI (ordV v w == 0) else if op = 11 then yesI (decide (ordV v w < 0)) else
  if op = 14 then 2 - yesI (decide (ordV v w < 0)) else if op = 13 then yesI (decide (ordV w v < 0)) else 2 - yesI (decide (ordV w v < 0))
def compF (op : Nat) (v w : Vl) : Tv := if v.k = 0 ∨ w.k = 0 then ⟨nullV, 0⟩ else if v.k = w.k then ⟨truI (cmpT op v w), 0⟩ else .bad 2
def twoF (op : Nat) (v w : Vl) : Tv :=
  if op = 15 ∨ op = 16 then logF op v w else if op = 20 then ⟨w, 0⟩ else if op = 19 then catF v w else if op ≤ 8 then reckF op v w else compF op v w

/-! ### an expression -/
def findI (n : ByteArray) : Nat → List Cl → Option Nat
  | _, [] => none
  | i, c :: l => if c.name = n then some i else findI n (i + 1) l
/-- Is the second value not looked at? -/
def shortB (op : Nat) (v : Vl) : Bool := (op == 20 && v.k != 0) || (op == 15 && v.k == 1 && v.n == 0) || (op == 16 && v.k == 1 && v.n == 1)
def evF (cols : List Cl) (row : List Vl) : Ex → Tv
  | .lit v => ⟨v, 0⟩
  | .col n => match findI n 0 cols with
    | some i => match row[i]? with
      | some v => ⟨v, 0⟩
      | none => .bad 5
    | none => .bad 5
  | .un op a => if (evF cols row a).e = 0 then oneF op (evF cols row a).v else .bad (evF cols row a).e
  | .bi op a b => if (evF cols row a).e = 0 then
      (if shortB op (evF cols row a).v = true then ⟨(evF cols row a).v, 0⟩ else
       if (evF cols row b).e = 0 then twoF op (evF cols row a).v (evF cols row b).v else .bad (evF cols row b).e)
    else .bad (evF cols row a).e

/-! ### what comes of good values is good -/
theorem yesI_in (g : Bool) : yesI g = 0 ∨ yesI g = 2 := by cases g <;> simp [yesI]
theorem truI_gd {t : Int} (h : t = 0 ∨ t = 1 ∨ t = 2) : Gd (truI t) ∧ ((truI t).k = 1 ∨ (t = 1 ∧ (truI t).k = 0)) := by
  rcases h with rfl | rfl | rfl
  · exact ⟨.bool 0 (.inl rfl), .inl rfl⟩
  · exact ⟨.null, .inr ⟨rfl, rfl⟩⟩
  · exact ⟨.bool 1 (.inr rfl), .inl rfl⟩
theorem partI_in {v : Vl} (h : Gd v) (hk : v.k ≤ 1) : partI v = 0 ∨ partI v = 1 ∨ partI v = 2 := by
  cases h with
  | null => exact .inr (.inl rfl)
  | bool n h => rcases h with rfl | rfl
                · exact .inl rfl
                · exact .inr (.inr rfl)
  | int n => have hk : (2 : Int) ≤ 1 := hk; omega
  | real b h1 h2 h3 => have hk : (3 : Int) ≤ 1 := hk; omega
  | text t h1 h2 => have hk : (4 : Int) ≤ 1 := hk; omega
theorem Gd.k_in {v : Vl} (h : Gd v) : v.k = 0 ∨ v.k = 1 ∨ v.k = 2 ∨ v.k = 3 ∨ v.k = 4 := by
  cases h with
  | null => exact .inl rfl
  | bool n h => exact .inr (.inl rfl)
  | int n => exact .inr (.inr (.inl rfl))
  | real b h1 h2 h3 => exact .inr (.inr (.inr (.inl rfl)))
  | text t h1 h2 => exact .inr (.inr (.inr (.inr rfl)))
theorem Gd.bool_n {v : Vl} (h : Gd v) (hk : v.k = 1) : ∃ n, (n = 0 ∨ n = 1) ∧ v = ⟨1, n, 0, .empty⟩ := by
  cases h with
  | bool n h => exact ⟨n, h, rfl⟩
  | null => have hk : (0 : Int) = 1 := hk; omega
  | int n => have hk : (2 : Int) = 1 := hk; omega
  | real b h1 h2 h3 => have hk : (3 : Int) = 1 := hk; omega
  | text t h1 h2 => have hk : (4 : Int) = 1 := hk; omega
theorem Gd.int_n {v : Vl} (h : Gd v) (hk : v.k = 2) : v = numV v.n := by
  cases h with
  | int n => rfl
  | null => have hk : (0 : Int) = 2 := hk; omega
  | bool n h => have hk : (1 : Int) = 2 := hk; omega
  | real b h1 h2 h3 => have hk : (3 : Int) = 2 := hk; omega
  | text t h1 h2 => have hk : (4 : Int) = 2 := hk; omega
theorem Gd.null_n {v : Vl} (h : Gd v) (hk : v.k = 0) : v = nullV := by
  cases h with
  | null => rfl
  | int n => have hk : (2 : Int) = 0 := hk; omega
  | bool n h => have hk : (1 : Int) = 0 := hk; omega
  | real b h1 h2 h3 => have hk : (3 : Int) = 0 := hk; omega
  | text t h1 h2 => have hk : (4 : Int) = 0 := hk; omega
theorem Gd.text_v {v : Vl} (h : Gd v) (hk : v.k = 4) : v.t.size ≤ 40 ∧ validD v.t.data.toList = true ∧ v = txtV v.t := by
  cases h with
  | text t h1 h2 => exact ⟨h1, h2, rfl⟩
  | null => have hk : (0 : Int) = 4 := hk; omega
  | int n => have hk : (2 : Int) = 4 := hk; omega
  | bool n h => have hk : (1 : Int) = 4 := hk; omega
  | real b h1 h2 h3 => have hk : (3 : Int) = 4 := hk; omega
theorem oneF_gd (op : Nat) {v : Vl} (h : Gd v) : Gd (oneF op v).v := by
  unfold oneF
  split
  · split
    · exact (truI_gd (.inr (.inr rfl))).1
    · exact (truI_gd (.inl rfl)).1
  · split
    · exact h
    · split
      · split
        · rename_i hk
          obtain ⟨n, hn, rfl⟩ := h.bool_n hk
          rcases hn with rfl | rfl
          · exact .bool 1 (.inr rfl)
          · exact .bool 0 (.inl rfl)
        · exact .null
      · split
        · split
          · exact .int _
          · exact .null
        · split
          · split
            · exact .null
            · exact .int _
          · exact .null
theorem reckN_gd (op : Nat) (a b : Int) : Gd (reckN op a b).v := by
  unfold reckN
  repeat' split
  all_goals first | exact .null | exact .int _
theorem cmpT_in (op : Nat) (v w : Vl) : cmpT op v w = 0 ∨ cmpT op v w = 2 := by
  have h1 := yesI_in (ordV v w == 0)
  have h2 := yesI_in (decide (ordV v w < 0))
  have h3 := yesI_in (decide (ordV w v < 0))
  unfold cmpT
  repeat' split
  all_goals omega
theorem twoF_gd (op : Nat) {v w : Vl} (hv : Gd v) (hw : Gd w) : Gd (twoF op v w).v := by
  unfold twoF
  split
  · unfold logF
    split
    · rename_i hk
      have h1 := partI_in hv hk.1
      have h2 := partI_in hw hk.2
      refine (truI_gd ?_).1
      split <;> omega
    · exact .null
  · split
    · exact hw
    · split
      · unfold catF
        split
        · rename_i hf
          split
          · exact .null
          · rename_i h0
            split
            · exact .null
            · rename_i hs
              unfold fitK at hf
              simp only [Bool.and_eq_true, Bool.or_eq_true, beq_iff_eq] at hf
              have k1 : v.k = 4 := by omega
              have k2 : w.k = 4 := by omega
              obtain ⟨a1, a2, _⟩ := hv.text_v k1
              obtain ⟨b1, b2, _⟩ := hw.text_v k2
              refine .text _ (by rw [ByteArray.size_append]; omega) ?_
              rw [ByteArray.data_append, Array.toList_append]
              exact valid_app _ _ _ (Nat.le_refl _) a2 b2
        · exact .null
      · split
        · unfold reckF
          split
          · split
            · exact .null
            · exact reckN_gd _ _ _
          · exact .null
        · unfold compF
          split
          · exact .null
          · split
            · exact (truI_gd (by have := cmpT_in op v w; omega)).1
            · exact .null
theorem evF_gd {cols : List Cl} {row : List Vl} (hr : ∀ v ∈ row, Gd v) : ∀ {x : Ex}, x.ok → Gd (evF cols row x).v
  | .lit v, h => h.1
  | .col n, h => by
    unfold evF
    split
    · split
      · rename_i v hv; exact hr v (List.mem_of_getElem? hv)
      · exact .null
    · exact .null
  | .un op a, h => by
    have ih := evF_gd (cols := cols) hr (x := a) h.2
    unfold evF
    split
    · exact oneF_gd op ih
    · exact .null
  | .bi op a b, h => by
    have ih := evF_gd (cols := cols) hr (x := a) h.2.1
    have ih' := evF_gd (cols := cols) hr (x := b) h.2.2
    unfold evF
    split
    · split
      · exact ih
      · split
        · exact twoF_gd op ih ih'
        · exact .null
    · exact .null
end Go.Proofs.YtpaccaojgbfjdaaDoor

