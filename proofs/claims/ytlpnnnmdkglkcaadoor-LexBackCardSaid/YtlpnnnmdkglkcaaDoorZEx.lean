/-
  Expressions, and the kind that an expression has over columns. No program in sight.
-/
import Derived.Test.YtlpnnnmdkglkcaaDoorZGood
set_option linter.unusedSimpArgs false
set_option linter.unusedVariables false
namespace Go.Proofs.YtlpnnnmdkglkcaaDoor
open Go.RowKit

inductive Ex where
  | lit (v : Vl)
  | col (n : ByteArray)
  | un (op : Nat) (a : Ex)
  | bi (op : Nat) (a b : Ex)
def Ex.cs : Ex → List D
  | .lit v => [iD 1, iD v.k, iD v.n, qD v.b, strD v.t, strD .empty, .sl 7 []]
  | .col n => [iD 2, iD 0, iD 0, qD 0, strD .empty, strD n, .sl 7 []]
  | .un op a => [iD op, iD 0, iD 0, qD 0, strD .empty, strD .empty, .sl 7 [a.cs]]
  | .bi op a b => [iD op, iD 0, iD 0, qD 0, strD .empty, strD .empty, .sl 7 [a.cs, b.cs]]
def Ex.num : Ex → Nat
  | .lit _ => 1
  | .col _ => 1
  | .un _ a => 1 + a.num
  | .bi _ a b => 1 + a.num + b.num
def Ex.op : Ex → Nat
  | .lit _ => 1
  | .col _ => 2
  | .un op _ => op
  | .bi op _ _ => op
def Ex.val : Ex → Vl
  | .lit v => v
  | _ => ⟨0, 0, 0, .empty⟩
def Ex.args : Ex → List Ex
  | .un _ a => [a]
  | .bi _ a b => [a, b]
  | _ => []
def qBU (c : UInt8) : Bool := decide (97 ≤ c.toNat) && decide (c.toNat ≤ 122)
def qBd (c : UInt8) : Bool := decide (48 ≤ c.toNat) && decide (c.toNat ≤ 57)
def qBA (c : UInt8) : Bool := qBU c || qBd c || c.toNat == 95
def nameB : List UInt8 → Bool
  | [] => false
  | c :: l => qBU c && decide ((c :: l).length ≤ 8) && (c :: l).all qBA
abbrev qDc (n : ByteArray) : Prop := nameB n.data.toList = true
def un1 (op : Nat) : Prop := op = 3 ∨ op = 4 ∨ op = 17 ∨ op = 18
def bi2 (op : Nat) : Prop := 5 ≤ op ∧ op ≤ 20 ∧ op ≠ 17 ∧ op ≠ 18
def Ex.ok : Ex → Prop
  | .lit v => Gd v ∧ 0 ≤ v.n
  | .col n => qDc n
  | .un op a => un1 op ∧ a.ok
  | .bi op a b => bi2 op ∧ a.ok ∧ b.ok
structure Cl where
  name : ByteArray
  kind : Nat
  null : Bool
def Cl.cs (c : Cl) : List D := [strD c.name, iD c.kind, bD c.null]
structure So where
  e : Nat
  k : Int
  n : Bool
def So.bad (e : Nat) : So := ⟨e, 0, false⟩
def So.fits (s : So) (k : Int) : Bool := s.k == k || s.k == 0
def askF (s : So) (ask give : Int) : So := if s.fits ask = true then ⟨0, give, s.n⟩ else .bad 2
def askF2 (s t : So) (ask give : Int) : So := if (s.fits ask && t.fits ask) = true then ⟨0, give, s.n || t.n⟩ else .bad 2
def joinF1 (op : Nat) (s : So) : So := if op = 3 then askF s 2 2 else if op = 4 then askF s 1 1 else if op = 18 then askF s 4 2 else ⟨0, 1, false⟩
def bothK (s t : So) : Int := if s.k = 0 then t.k else s.k
def joinF2 (op : Nat) (s t : So) : So :=
  if op ≤ 8 then askF2 s t 2 2 else if op = 15 ∨ op = 16 then askF2 s t 1 1 else if op = 19 then askF2 s t 4 4 else
  if (s.fits (bothK s t) && t.fits (bothK s t)) = true then (if op = 20 then ⟨0, bothK s t, s.n && t.n⟩ else ⟨0, 1, s.n || t.n⟩) else .bad 2
def findC (n : ByteArray) : List Cl → So
  | [] => .bad 5
  | c :: l => if c.name = n then ⟨0, c.kind, c.null⟩ else findC n l
def ofF (cols : List Cl) : Ex → So
  | .lit v => ⟨0, v.k, v.k == 0⟩
  | .col n => findC n cols
  | .un op a => if (ofF cols a).e = 0 then joinF1 op (ofF cols a) else .bad (ofF cols a).e
  | .bi op a b => if (ofF cols a).e = 0 then (if (ofF cols b).e = 0 then joinF2 op (ofF cols a) (ofF cols b) else .bad (ofF cols b).e) else .bad (ofF cols a).e

def Less (t s : So) : Prop := t.e = s.e ∧ t.k = s.k ∧ (t.n = true → s.n = true)
theorem Less.fits {t s : So} (h : Less t s) (k : Int) : t.fits k = s.fits k := by unfold So.fits; rw [h.2.1]
inductive Gx (cols : List Cl) : Nat → Nat → Ex → Prop where
  | lit {K d : Nat} {v : Vl} (h : Gd v) (h0 : 0 ≤ v.n ∧ v.n ≤ 9223372036854775807) (hk : v.k = K ∨ v.k = 0) : Gx cols K (d + 1) (.lit v)
  | col {K d : Nat} {c : Cl} (h : c ∈ cols) (hk : c.kind = K) : Gx cols K (d + 1) (.col c.name)
  | neg {d : Nat} {a : Ex} (h : Gx cols 2 d a) : Gx cols 2 (d + 1) (.un 3 a)
  | len {d : Nat} {a : Ex} (h : Gx cols 4 d a) : Gx cols 2 (d + 1) (.un 18 a)
  | not {d : Nat} {a : Ex} (h : Gx cols 1 d a) : Gx cols 1 (d + 1) (.un 4 a)
  | isn {K d : Nat} {a : Ex} (h : Gx cols K d a) : Gx cols 1 (d + 1) (.un 17 a)
  | sum {d op : Nat} {a b : Ex} (ho : 5 ≤ op ∧ op ≤ 8) (h : Gx cols 2 d a) (h' : Gx cols 2 d b) : Gx cols 2 (d + 1) (.bi op a b)
  | cmp {K d op : Nat} {a b : Ex} (ho : 9 ≤ op ∧ op ≤ 14) (h : Gx cols K d a) (h' : Gx cols K d b) : Gx cols 1 (d + 1) (.bi op a b)
  | log {d op : Nat} {a b : Ex} (ho : op = 15 ∨ op = 16) (h : Gx cols 1 d a) (h' : Gx cols 1 d b) : Gx cols 1 (d + 1) (.bi op a b)
  | join {d : Nat} {a b : Ex} (h : Gx cols 4 d a) (h' : Gx cols 4 d b) : Gx cols 4 (d + 1) (.bi 19 a b)
  | coal {K d : Nat} {a b : Ex} (h : Gx cols K d a) (h' : Gx cols K d b) : Gx cols K (d + 1) (.bi 20 a b)
structure ColsOk (cols : List Cl) : Prop where
  len : cols.length ≤ 5
  name : ∀ c ∈ cols, qDc c.name
  kind : ∀ c ∈ cols, 1 ≤ c.kind ∧ c.kind ≤ 4
  once : cols.Pairwise fun c d => c.name ≠ d.name
theorem find_mem : ∀ {cols : List Cl} {c : Cl}, cols.Pairwise (fun c d => c.name ≠ d.name) → c ∈ cols → findC c.name cols = ⟨0, c.kind, c.null⟩
  | d :: l, c, hp, hc => by
    rw [List.pairwise_cons] at hp
    rcases List.mem_cons.1 hc with rfl | hc
    · show (if c.name = c.name then _ else _) = _
      rw [if_pos rfl]
    · show (if d.name = c.name then _ else findC c.name l) = _
      rw [if_neg (hp.1 c hc), find_mem hp.2 hc]
theorem Gx.num {cols : List Cl} {K d : Nat} {x : Ex} (h : Gx cols K d x) : x.num + 1 ≤ 2 ^ d := by
  induction h with
  | lit => simp only [Ex.num, Nat.pow_succ]; have := Nat.one_le_two_pow (n := ‹_›); omega
  | col => simp only [Ex.num, Nat.pow_succ]; have := Nat.one_le_two_pow (n := ‹_›); omega
  | _ => simp only [Ex.num, Nat.pow_succ]; omega
theorem Gx.ok {cols : List Cl} (hc : ∀ c ∈ cols, qDc c.name) {K d : Nat} {x : Ex} (h : Gx cols K d x) : x.ok := by
  induction h with
  | lit h h0 hk => exact ⟨h, h0.1⟩
  | col h hk => exact hc _ h
  | neg h ih => exact ⟨.inl rfl, ih⟩
  | len h ih => exact ⟨.inr (.inr (.inr rfl)), ih⟩
  | not h ih => exact ⟨.inr (.inl rfl), ih⟩
  | isn h ih => exact ⟨.inr (.inr (.inl rfl)), ih⟩
  | sum ho h h' ih ih' => exact ⟨by unfold bi2; omega, ih, ih'⟩
  | cmp ho h h' ih ih' => exact ⟨by unfold bi2; omega, ih, ih'⟩
  | log ho h h' ih ih' => exact ⟨by unfold bi2; omega, ih, ih'⟩
  | join h h' ih ih' => exact ⟨by unfold bi2; omega, ih, ih'⟩
  | coal h h' ih ih' => exact ⟨by unfold bi2; omega, ih, ih'⟩
def Kd (s : So) (K : Nat) : Prop := s.e = 0 ∧ (s.k = K ∨ s.k = 0)
theorem Kd.fits {s : So} {K : Nat} (h : Kd s K) : s.fits K = true := by
  unfold So.fits
  rcases h.2 with h | h <;> simp [h]
theorem Kd.both {s t : So} {K : Nat} (h : Kd s K) (h' : Kd t K) : s.fits (bothK s t) = true ∧ t.fits (bothK s t) = true ∧ (bothK s t = K ∨ bothK s t = 0) := by
  unfold bothK So.fits
  rcases h.2 with h | h <;> rcases h'.2 with h' | h' <;> split <;> simp_all
theorem Gx.kind {cols : List Cl} (hc : cols.Pairwise fun c d => c.name ≠ d.name) {K d : Nat} {x : Ex} (h : Gx cols K d x) : Kd (ofF cols x) K := by
  induction h with
  | lit h h0 hk => exact ⟨rfl, hk⟩
  | col h hk => rw [ofF, find_mem hc h]; exact ⟨rfl, .inl (by rw [hk])⟩
  | neg h ih =>
    have hf : So.fits _ (2 : Int) = true := ih.fits
    rw [ofF, if_pos ih.1]
    show Kd (askF _ 2 2) 2
    unfold askF
    rw [if_pos hf]
    exact ⟨rfl, .inl rfl⟩
  | len h ih =>
    have hf : So.fits _ (4 : Int) = true := ih.fits
    rw [ofF, if_pos ih.1]
    show Kd (askF _ 4 2) 2
    unfold askF
    rw [if_pos hf]
    exact ⟨rfl, .inl rfl⟩
  | not h ih =>
    have hf : So.fits _ (1 : Int) = true := ih.fits
    rw [ofF, if_pos ih.1]
    show Kd (askF _ 1 1) 1
    unfold askF
    rw [if_pos hf]
    exact ⟨rfl, .inl rfl⟩
  | isn h ih =>
    rw [ofF, if_pos ih.1]
    exact ⟨rfl, .inl rfl⟩
  | sum ho h h' ih ih' =>
    rw [ofF, if_pos ih.1, if_pos ih'.1]
    unfold joinF2
    rw [if_pos ho.2]
    unfold askF2
    rw [if_pos (by rw [show ((2 : Int)) = ((2 : Nat) : Int) from rfl, ih.fits, ih'.fits]; rfl)]
    exact ⟨rfl, .inl rfl⟩
  | cmp ho h h' ih ih' =>
    rw [ofF, if_pos ih.1, if_pos ih'.1]
    obtain ⟨b1, b2, _⟩ := ih.both ih'
    unfold joinF2
    rw [if_neg (by omega), if_neg (by omega), if_neg (by omega), if_pos (by rw [b1, b2]; rfl), if_neg (by omega)]
    exact ⟨rfl, .inl rfl⟩
  | log ho h h' ih ih' =>
    rw [ofF, if_pos ih.1, if_pos ih'.1]
    unfold joinF2
    rw [if_neg (by omega), if_pos (by omega)]
    unfold askF2
    rw [if_pos (by rw [show ((1 : Int)) = ((1 : Nat) : Int) from rfl, ih.fits, ih'.fits]; rfl)]
    exact ⟨rfl, .inl rfl⟩
  | join h h' ih ih' =>
    rw [ofF, if_pos ih.1, if_pos ih'.1]
    unfold joinF2
    rw [if_neg (by omega), if_neg (by omega), if_pos rfl]
    unfold askF2
    rw [if_pos (by rw [show ((4 : Int)) = ((4 : Nat) : Int) from rfl, ih.fits, ih'.fits]; rfl)]
    exact ⟨rfl, .inl rfl⟩
  | coal h h' ih ih' =>
    rw [ofF, if_pos ih.1, if_pos ih'.1]
    obtain ⟨b1, b2, b3⟩ := ih.both ih'
    unfold joinF2
    rw [if_neg (by omega), if_neg (by omega), if_neg (by omega), if_pos (by rw [b1, b2]; rfl), if_pos rfl]
    exact ⟨rfl, b3⟩
end Go.Proofs.YtlpnnnmdkglkcaaDoor

