/-
  What chirographkeep's heap of raw things makes: columns, raw things, literals and columns of an expression. No program in sight.
-/
import Derived.Test.YtlpnnnmdkglkcaaDoorZEx
import Derived.Test.YtlpnnnmdkglkcaaDoorZD
import Derived.Test.YtlpnnnmdkglkcaaDoorZA
namespace Go.Proofs.YtlpnnnmdkglkcaaDoor
set_option linter.unusedSimpArgs false
set_option linter.unusedVariables false
open Go.RowKit

abbrev kN : ByteArray := { data := #[107] }
abbrev zzN : ByteArray := { data := #[122, 122] }
abbrev abcN : ByteArray := { data := #[97, 98, 99] }
def abcF (i : Nat) : ByteArray := abcN.extract i (i + 1)
def clF (i : Nat) (r : Raw) : Cl := ⟨abcF i, 1 + (r.kind % 4).toNat, decide (r.a % 2 = 0)⟩
def clsF : Nat → List Raw → List Cl
  | _, [] => []
  | i, r :: l => clF i r :: clsF (i + 1) l
def colsF (l : List Raw) : List Cl := ⟨kN, 2, false⟩ :: clsF 0 (l.take 3)
theorem clsF_len : ∀ (i : Nat) (l : List Raw), (clsF i l).length = l.length
  | _, [] => rfl
  | i, r :: l => by rw [clsF, List.length_cons, clsF_len, List.length_cons]
theorem clsF_get : ∀ (i : Nat) (l : List Raw) (k : Nat), (clsF i l)[k]? = (l[k]?).map (clF (i + k))
  | _, [], _ => rfl
  | i, r :: l, 0 => rfl
  | i, r :: l, k + 1 => by
    show (clsF (i + 1) l)[k]? = (l[k]?).map (clF (i + (k + 1)))
    rw [clsF_get, show i + 1 + k = i + (k + 1) by omega]
theorem clsF_app (i : Nat) : ∀ (l : List Raw) (r : Raw), clsF i (l ++ [r]) = clsF i l ++ [clF (i + l.length) r]
  | [], r => rfl
  | x :: l, r => by
    have := clsF_app (i + 1) l r
    rw [List.cons_append, clsF, clsF, this, List.cons_append, List.length_cons, show i + 1 + l.length = i + (l.length + 1) by omega]
theorem abc_ok {i : Nat} (h : i < 3) : NameOk (abcF i) ∧ abcF i ≠ kN ∧ abcF i ≠ zzN := by
  rcases (by omega : i = 0 ∨ i = 1 ∨ i = 2) with rfl | rfl | rfl <;> (refine ⟨by decide, by decide, by decide⟩)
theorem abc_inj {i j : Nat} (hi : i < 3) (hj : j < 3) (h : abcF i = abcF j) : i = j := by
  rcases (by omega : i = 0 ∨ i = 1 ∨ i = 2) with rfl | rfl | rfl <;> rcases (by omega : j = 0 ∨ j = 1 ∨ j = 2) with rfl | rfl | rfl <;> first | rfl | exact absurd h (by decide)
theorem clsF_mem {l : List Raw} {c : Cl} (hl : l.length ≤ 3) (h : c ∈ clsF 0 l) : ∃ i r, i < 3 ∧ c = clF i r := by
  obtain ⟨k, hk⟩ := List.getElem?_of_mem h
  rw [clsF_get] at hk
  rcases hr : l[k]? with _ | r
  · rw [hr] at hk; cases hk
  · rw [hr] at hk
    injection hk with hk
    have := (List.getElem?_eq_some_iff.1 hr).1
    exact ⟨k, r, by omega, by rw [← hk, Nat.zero_add]⟩
theorem colsF_ok (l : List Raw) : ColsOk (colsF l) := by
  have hl : (l.take 3).length ≤ 3 := by rw [List.length_take]; omega
  refine ⟨?_, fun c hc => ?_, fun c hc => ?_, ?_⟩
  · unfold colsF
    rw [List.length_cons, clsF_len]
    omega
  · rcases List.mem_cons.1 hc with rfl | hc
    · decide
    · obtain ⟨i, r, hi, rfl⟩ := clsF_mem hl hc
      exact (abc_ok hi).1
  · rcases List.mem_cons.1 hc with rfl | hc
    · exact ⟨by decide, by decide⟩
    · obtain ⟨i, r, hi, rfl⟩ := clsF_mem hl hc
      show 1 ≤ 1 + (r.kind % 4).toNat ∧ 1 + (r.kind % 4).toNat ≤ 4
      omega
  · unfold colsF
    rw [List.pairwise_cons]
    refine ⟨fun c hc => ?_, ?_⟩
    · obtain ⟨i, r, hi, rfl⟩ := clsF_mem hl hc
      exact fun h => (abc_ok hi).2.1 h.symm
    · rw [List.pairwise_iff_getElem]
      intro i j hi hj hij he
      have h1 : (clsF 0 (l.take 3))[i]? = some (clsF 0 (l.take 3))[i] := List.getElem?_eq_getElem hi
      have h2 : (clsF 0 (l.take 3))[j]? = some (clsF 0 (l.take 3))[j] := List.getElem?_eq_getElem hj
      rw [clsF_len] at hi hj
      rw [clsF_get, List.getElem?_eq_getElem hi] at h1
      rw [clsF_get, List.getElem?_eq_getElem hj] at h2
      injection h1 with h1
      injection h2 with h2
      rw [← h1, ← h2] at he
      have := abc_inj (i := 0 + i) (j := 0 + j) (by omega) (by omega) he
      omega
theorem colsF_zz (l : List Raw) : ∀ c ∈ colsF l, c.name ≠ zzN := by
  have hl : (l.take 3).length ≤ 3 := by rw [List.length_take]; omega
  intro c hc
  rcases List.mem_cons.1 hc with rfl | hc
  · show kN ≠ zzN
    decide
  · obtain ⟨i, r, hi, rfl⟩ := clsF_mem hl hc
    exact (abc_ok hi).2.2
/-- The next raw thing. -/
def nextF (l : List Raw) (at' : Nat) : Raw := match l[at' % l.length]? with
  | none => ⟨0, (at' + 1 : Nat), (at' + 1 : Nat), .empty⟩
  | some r => ⟨r.kind, IntKind.i64.wrap (r.a + ((at' + 1) / l.length : Nat)), r.b, r.text⟩
/-- Which column a leaf is, if any. -/
def leafC (K : Nat) (a : Int) : Nat → List Cl → Option Cl
  | _, [] => none
  | i, c :: l => if c.kind = K ∧ a % ((2 + i : Nat) : Int) = 0 then some c else leafC K a (i + 1) l
theorem leafC_mem {K : Nat} {a : Int} : ∀ {i : Nat} {l : List Cl} {c : Cl}, leafC K a i l = some c → c ∈ l ∧ c.kind = K
  | i, d :: l, c, h => by
    unfold leafC at h
    split at h
    · rename_i hc
      injection h with h
      subst h
      exact ⟨List.mem_cons_self, hc.1⟩
    · obtain ⟨h1, h2⟩ := leafC_mem h
      exact ⟨List.mem_cons_of_mem _ h1, h2⟩
theorem mask_nn (a : Int) : 0 ≤ bitV .and .i64 a 9223372036854775807 ∧ bitV .and .i64 a 9223372036854775807 ≤ 9223372036854775807 := by
  show 0 ≤ IntKind.i64.wrap ((BitVec.ofInt 64 a &&& BitVec.ofInt 64 9223372036854775807).toNat : Int) ∧ IntKind.i64.wrap ((BitVec.ofInt 64 a &&& BitVec.ofInt 64 9223372036854775807).toNat : Int) ≤ 9223372036854775807
  have h : (BitVec.ofInt 64 a &&& BitVec.ofInt 64 9223372036854775807).toNat ≤ 9223372036854775807 := by
    rw [BitVec.toNat_and]
    exact Nat.le_trans Nat.and_le_right (by decide)
  rw [wrap64_of (by omega) (by omega)]
  omega
/-- Which value it is, else. -/
def litF (K : Nat) (r : Raw) (v : Vl) : Vl :=
  if r.b % 9 = 0 then ⟨0, 0, 0, .empty⟩ else if K = 2 ∧ r.b % 4 = 0 then ⟨2, bitV .and .i64 r.a 9223372036854775807, 0, .empty⟩ else if K = 2 then ⟨2, r.a % 20, 0, .empty⟩ else v
theorem litF_gx {cols : List Cl} {K d : Nat} (r : Raw) {v : Vl} (hv : Gd v) (hk : v.k = K) (hn : K ≠ 2 → 0 ≤ v.n ∧ v.n ≤ 9223372036854775807) : Gx cols K (d + 1) (.lit (litF K r v)) := by
  unfold litF
  split
  · exact .lit .null ⟨Int.le_refl _, by decide⟩ (.inr rfl)
  · split
    · rename_i h
      obtain ⟨rfl, _⟩ := h
      exact .lit (.int _) (mask_nn r.a) (.inl rfl)
    · split
      · rename_i h
        subst h
        exact .lit (.int _) (show 0 ≤ r.a % 20 ∧ r.a % 20 ≤ 9223372036854775807 by omega) (.inl rfl)
      · rename_i h
        exact .lit hv (hn h) (.inl hk)
def leafF (cols : List Cl) (K : Nat) (r : Raw) (v : Vl) : Ex := match leafC K r.a 0 cols with
  | some c => .col c.name
  | none => .lit (litF K r v)
theorem leafF_gx {cols : List Cl} {K d : Nat} (r : Raw) {v : Vl} (hv : Gd v) (hk : v.k = K) (hn : K ≠ 2 → 0 ≤ v.n ∧ v.n ≤ 9223372036854775807) : Gx cols K (d + 1) (leafF cols K r v) := by
  unfold leafF
  split
  · rename_i c hc
    obtain ⟨h1, h2⟩ := leafC_mem hc
    exact .col h1 h2
  · exact litF_gx r hv hk hn
end Go.Proofs.YtlpnnnmdkglkcaaDoor

