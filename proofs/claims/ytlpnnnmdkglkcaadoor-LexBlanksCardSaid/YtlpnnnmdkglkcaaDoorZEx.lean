/-
  Expressions, and the kind that an expression has over columns. No program in sight.
-/
import Derived.Test.YtlpnnnmdkglkcaaDoorZGood
namespace Go.Proofs.YtlpnnnmdkglkcaaDoor
set_option linter.unusedSimpArgs false
set_option linter.unusedVariables false
open Go.RowKit

/-- An expression: a literal, a column, an operation with one part or two. -/
inductive Ex where
  | lit (v : Vl)
  | col (n : ByteArray)
  | un (op : Nat) (a : Ex)
  | bi (op : Nat) (a b : Ex)
def Ex.cs : Ex → List D
  | .lit v => [iD 1, iD v.k, iD v.n, qD v.b, strD v.t, strD .empty, .sl 7 []]
  | .col n => [iD 2, iD 0, iD 0, qD 0, strD .empty, strD n, .sl 7 []]
  | .un op a => [iD op, iD 0, iD 0, qD 0, strD .empty, strD .empty, .sl 7 [a.cs]]
  | .bi op a b => [iD op, iD 0, iD 0, qD 0, strD .empty, strD .empty, .sl 7 [a.cs, b.cs]]
theorem Ex.cs_len (x : Ex) : x.cs.length = 7 := by cases x <;> rfl
def Ex.deep : Ex → Nat
  | .lit _ => 1
  | .col _ => 1
  | .un _ a => a.deep + 1
  | .bi _ a b => max a.deep b.deep + 1
def Ex.num : Ex → Nat
  | .lit _ => 1
  | .col _ => 1
  | .un _ a => 1 + a.num
  | .bi _ a b => 1 + a.num + b.num
def Ex.op : Ex → Nat
  | .lit _ => 1
  | .col _ => 2
  | .un op _ => op
  | .bi op _ _ => op
def Ex.val : Ex → Vl
  | .lit v => v
  | _ => ⟨0, 0, 0, .empty⟩
def Ex.nam : Ex → ByteArray
  | .col n => n
  | _ => .empty
def Ex.args : Ex → List Ex
  | .un _ a => [a]
  | .bi _ a b => [a, b]
  | _ => []
theorem Ex.cs_eq (x : Ex) : x.cs = [iD x.op, iD x.val.k, iD x.val.n, qD x.val.b, strD x.val.t, strD x.nam, .sl 7 (x.args.map Ex.cs)] := by cases x <;> rfl
def numL : List Ex → Nat
  | [] => 0
  | x :: l => x.num + numL l
theorem numL_app : ∀ (l m : List Ex), numL (l ++ m) = numL l + numL m
  | [], m => (Nat.zero_add _).symm
  | x :: l, m => by rw [List.cons_append, numL, numL, numL_app l m, Nat.add_assoc]
theorem numL_le : ∀ (l : List Ex) (k : Nat), numL (l.take k) ≤ numL l
  | [], k => by rw [List.take_nil]; exact Nat.le_refl _
  | x :: l, 0 => Nat.zero_le _
  | x :: l, k + 1 => by rw [List.take_succ_cons, numL, numL]; have := numL_le l k; omega
theorem Ex.num_eq (x : Ex) : x.num = 1 + numL x.args := by cases x <;> simp only [Ex.num, Ex.args, numL] <;> omega
theorem Ex.deep_arg {x a : Ex} (h : a ∈ x.args) : a.deep + 1 ≤ x.deep := by
  cases x with
  | lit => cases h
  | col => cases h
  | un op b => simp only [Ex.args, List.mem_singleton] at h; subst h; simp only [Ex.deep]; omega
  | bi op b c =>
    simp only [Ex.args, List.mem_cons, List.not_mem_nil, or_false] at h
    rcases h with rfl | rfl <;> simp only [Ex.deep] <;> omega
theorem Ex.args_len (x : Ex) : x.args.length ≤ 2 := by cases x <;> simp [Ex.args]
theorem Ex.deep_pos (x : Ex) : 1 ≤ x.deep := by cases x <;> simp only [Ex.deep] <;> omega
theorem Ex.num_pos (x : Ex) : 1 ≤ x.num := by cases x <;> simp only [Ex.num] <;> omega
/-- Bytes of a name. -/
def smallB (c : UInt8) : Bool := decide (97 ≤ c.toNat) && decide (c.toNat ≤ 122)
def digitB (c : UInt8) : Bool := decide (48 ≤ c.toNat) && decide (c.toNat ≤ 57)
def inNameB (c : UInt8) : Bool := smallB c || digitB c || c.toNat == 95
def nameB : List UInt8 → Bool
  | [] => false
  | c :: l => smallB c && decide ((c :: l).length ≤ 8) && (c :: l).all inNameB
abbrev NameOk (n : ByteArray) : Prop := nameB n.data.toList = true
def un1 (op : Nat) : Prop := op = 3 ∨ op = 4 ∨ op = 17 ∨ op = 18
def bi2 (op : Nat) : Prop := 5 ≤ op ∧ op ≤ 20 ∧ op ≠ 17 ∧ op ≠ 18
/-- An expression that may be, its size apart. -/
def Ex.ok : Ex → Prop
  | .lit v => Gd v ∧ 0 ≤ v.n
  | .col n => NameOk n
  | .un op a => un1 op ∧ a.ok
  | .bi op a b => bi2 op ∧ a.ok ∧ b.ok
theorem Ex.ok_arg {x a : Ex} (h : x.ok) (ha : a ∈ x.args) : a.ok := by
  cases x with
  | lit => cases ha
  | col => cases ha
  | un op b => simp only [Ex.args, List.mem_singleton] at ha; subst ha; exact h.2
  | bi op b c =>
    simp only [Ex.args, List.mem_cons, List.not_mem_nil, or_false] at ha
    rcases ha with rfl | rfl
    · exact h.2.1
    · exact h.2.2
/-- A column. -/
structure Cl where
  name : ByteArray
  kind : Nat
  null : Bool
def Cl.cs (c : Cl) : List D := [strD c.name, iD c.kind, bD c.null]
abbrev colsD (l : List Cl) : D := .sl 3 (l.map Cl.cs)
/-- What the kind is: what is wrong, the kind, whether it may be null. -/
structure So where
  e : Nat
  k : Int
  n : Bool
def So.bad (e : Nat) : So := ⟨e, 0, false⟩
def So.fits (s : So) (k : Int) : Bool := s.k == k || s.k == 0
def askF (s : So) (ask give : Int) : So := if s.fits ask = true then ⟨0, give, s.n⟩ else .bad 2
def askF2 (s t : So) (ask give : Int) : So := if (s.fits ask && t.fits ask) = true then ⟨0, give, s.n || t.n⟩ else .bad 2
def joinF1 (op : Nat) (s : So) : So := if op = 3 then askF s 2 2 else if op = 4 then askF s 1 1 else if op = 18 then askF s 4 2 else ⟨0, 1, false⟩
def bothK (s t : So) : Int := if s.k = 0 then t.k else s.k
def joinF2 (op : Nat) (s t : So) : So :=
  if op ≤ 8 then askF2 s t 2 2 else if op = 15 ∨ op = 16 then askF2 s t 1 1 else if op = 19 then askF2 s t 4 4 else
  if (s.fits (bothK s t) && t.fits (bothK s t)) = true then (if op = 20 then ⟨0, bothK s t, s.n && t.n⟩ else ⟨0, 1, s.n || t.n⟩) else .bad 2
def findC (n : ByteArray) : List Cl → So
  | [] => .bad 5
  | c :: l => if c.name = n then ⟨0, c.kind, c.null⟩ else findC n l
def ofF (cols : List Cl) : Ex → So
  | .lit v => ⟨0, v.k, v.k == 0⟩
  | .col n => findC n cols
  | .un op a => if (ofF cols a).e = 0 then joinF1 op (ofF cols a) else .bad (ofF cols a).e
  | .bi op a b => if (ofF cols a).e = 0 then (if (ofF cols b).e = 0 then joinF2 op (ofF cols a) (ofF cols b) else .bad (ofF cols b).e) else .bad (ofF cols a).e

/-! ### what the laws make -/
def Ex.free (z : ByteArray) : Ex → Prop
  | .lit _ => True
  | .col n => n ≠ z
  | .un _ a => a.free z
  | .bi _ a b => a.free z ∧ b.free z
theorem findC_more {z n : ByteArray} {k : Nat} {b : Bool} (h : n ≠ z) : ∀ cols : List Cl, findC n (cols ++ [⟨z, k, b⟩]) = findC n cols
  | [] => by
    show (if z = n then _ else _) = _
    rw [if_neg (Ne.symm h)]
  | c :: l => by
    show (if c.name = n then _ else findC n (l ++ _)) = (if c.name = n then _ else findC n l)
    rw [findC_more h l]
theorem ofF_more {z : ByteArray} {k : Nat} {b : Bool} (cols : List Cl) : ∀ x : Ex, x.free z → ofF (cols ++ [⟨z, k, b⟩]) x = ofF cols x
  | .lit _, _ => rfl
  | .col n, h => findC_more h cols
  | .un op a, h => by simp only [ofF, ofF_more cols a h]
  | .bi op a b, h => by simp only [ofF, ofF_more cols a h.1, ofF_more cols b h.2]
def strictC (c : Cl) : Cl := { c with null := false }
/-- As s, but null less often. -/
def Less (t s : So) : Prop := t.e = s.e ∧ t.k = s.k ∧ (t.n = true → s.n = true)
theorem Less.fits {t s : So} (h : Less t s) (k : Int) : t.fits k = s.fits k := by unfold So.fits; rw [h.2.1]
theorem less_ask {t s : So} (h : Less t s) (a g : Int) : Less (askF t a g) (askF s a g) := by
  unfold askF
  rw [h.fits]
  split
  · exact ⟨rfl, rfl, h.2.2⟩
  · exact ⟨rfl, rfl, fun h => h⟩
theorem less_ask2 {t s t' s' : So} (h : Less t s) (h' : Less t' s') (a g : Int) : Less (askF2 t t' a g) (askF2 s s' a g) := by
  unfold askF2
  rw [h.fits, h'.fits]
  split
  · refine ⟨rfl, rfl, fun hn => ?_⟩
    simp only [Bool.or_eq_true] at hn ⊢
    exact hn.imp h.2.2 h'.2.2
  · exact ⟨rfl, rfl, fun h => h⟩
theorem less_1 {t s : So} (op : Nat) (h : Less t s) : Less (joinF1 op t) (joinF1 op s) := by
  unfold joinF1
  split
  · exact less_ask h _ _
  · split
    · exact less_ask h _ _
    · split
      · exact less_ask h _ _
      · exact ⟨rfl, rfl, fun h => h⟩
theorem less_2 {t s t' s' : So} (op : Nat) (h : Less t s) (h' : Less t' s') : Less (joinF2 op t t') (joinF2 op s s') := by
  have hb : bothK t t' = bothK s s' := by unfold bothK; rw [h.2.1, h'.2.1]
  unfold joinF2
  rw [hb, h.fits, h'.fits]
  split
  · exact less_ask2 h h' _ _
  · split
    · exact less_ask2 h h' _ _
    · split
      · exact less_ask2 h h' _ _
      · split
        · split
          · refine ⟨rfl, rfl, fun hn => ?_⟩
            simp only [Bool.and_eq_true] at hn ⊢
            exact ⟨h.2.2 hn.1, h'.2.2 hn.2⟩
          · refine ⟨rfl, rfl, fun hn => ?_⟩
            simp only [Bool.or_eq_true] at hn ⊢
            exact hn.imp h.2.2 h'.2.2
        · exact ⟨rfl, rfl, fun h => h⟩
theorem less_find (n : ByteArray) : ∀ cols : List Cl, Less (findC n (cols.map strictC)) (findC n cols)
  | [] => ⟨rfl, rfl, fun h => h⟩
  | c :: l => by
    show Less (if c.name = n then _ else findC n (l.map strictC)) (if c.name = n then _ else findC n l)
    split
    · exact ⟨rfl, rfl, fun h => by cases h⟩
    · exact less_find n l
theorem less_of (cols : List Cl) : ∀ x : Ex, Less (ofF (cols.map strictC) x) (ofF cols x)
  | .lit _ => ⟨rfl, rfl, fun h => h⟩
  | .col n => less_find n cols
  | .un op a => by
    have h := less_of cols a
    simp only [ofF, h.1]
    split
    · exact less_1 op h
    · exact ⟨rfl, rfl, fun h => h⟩
  | .bi op a b => by
    have h := less_of cols a
    have h' := less_of cols b
    simp only [ofF, h.1, h'.1]
    split
    · split
      · exact less_2 op h h'
      · exact ⟨rfl, rfl, fun h => h⟩
    · exact ⟨rfl, rfl, fun h => h⟩
/-- An expression of a kind, made over columns, not deeper than so. -/
inductive Gx (cols : List Cl) : Nat → Nat → Ex → Prop where
  | lit {K d : Nat} {v : Vl} (h : Gd v) (h0 : 0 ≤ v.n ∧ v.n ≤ 9223372036854775807) (hk : v.k = K ∨ v.k = 0) : Gx cols K (d + 1) (.lit v)
  | col {K d : Nat} {c : Cl} (h : c ∈ cols) (hk : c.kind = K) : Gx cols K (d + 1) (.col c.name)
  | neg {d : Nat} {a : Ex} (h : Gx cols 2 d a) : Gx cols 2 (d + 1) (.un 3 a)
  | len {d : Nat} {a : Ex} (h : Gx cols 4 d a) : Gx cols 2 (d + 1) (.un 18 a)
  | not {d : Nat} {a : Ex} (h : Gx cols 1 d a) : Gx cols 1 (d + 1) (.un 4 a)
  | isn {K d : Nat} {a : Ex} (h : Gx cols K d a) : Gx cols 1 (d + 1) (.un 17 a)
  | sum {d op : Nat} {a b : Ex} (ho : 5 ≤ op ∧ op ≤ 8) (h : Gx cols 2 d a) (h' : Gx cols 2 d b) : Gx cols 2 (d + 1) (.bi op a b)
  | cmp {K d op : Nat} {a b : Ex} (ho : 9 ≤ op ∧ op ≤ 14) (h : Gx cols K d a) (h' : Gx cols K d b) : Gx cols 1 (d + 1) (.bi op a b)
  | log {d op : Nat} {a b : Ex} (ho : op = 15 ∨ op = 16) (h : Gx cols 1 d a) (h' : Gx cols 1 d b) : Gx cols 1 (d + 1) (.bi op a b)
  | join {d : Nat} {a b : Ex} (h : Gx cols 4 d a) (h' : Gx cols 4 d b) : Gx cols 4 (d + 1) (.bi 19 a b)
  | coal {K d : Nat} {a b : Ex} (h : Gx cols K d a) (h' : Gx cols K d b) : Gx cols K (d + 1) (.bi 20 a b)
/-- Columns that may be. -/
structure ColsOk (cols : List Cl) : Prop where
  len : cols.length ≤ 5
  name : ∀ c ∈ cols, NameOk c.name
  kind : ∀ c ∈ cols, 1 ≤ c.kind ∧ c.kind ≤ 4
  once : cols.Pairwise fun c d => c.name ≠ d.name
theorem find_mem : ∀ {cols : List Cl} {c : Cl}, cols.Pairwise (fun c d => c.name ≠ d.name) → c ∈ cols → findC c.name cols = ⟨0, c.kind, c.null⟩
  | d :: l, c, hp, hc => by
    rw [List.pairwise_cons] at hp
    rcases List.mem_cons.1 hc with rfl | hc
    · show (if c.name = c.name then _ else _) = _
      rw [if_pos rfl]
    · show (if d.name = c.name then _ else findC c.name l) = _
      rw [if_neg (hp.1 c hc), find_mem hp.2 hc]
theorem Gx.deep {cols : List Cl} {K d : Nat} {x : Ex} (h : Gx cols K d x) : x.deep ≤ d := by
  induction h with
  | lit => simp only [Ex.deep]; omega
  | col => simp only [Ex.deep]; omega
  | _ => simp only [Ex.deep]; omega
theorem Gx.num {cols : List Cl} {K d : Nat} {x : Ex} (h : Gx cols K d x) : x.num + 1 ≤ 2 ^ d := by
  induction h with
  | lit => simp only [Ex.num, Nat.pow_succ]; have := Nat.one_le_two_pow (n := ‹_›); omega
  | col => simp only [Ex.num, Nat.pow_succ]; have := Nat.one_le_two_pow (n := ‹_›); omega
  | _ => simp only [Ex.num, Nat.pow_succ]; omega
theorem Gx.ok {cols : List Cl} (hc : ∀ c ∈ cols, NameOk c.name) {K d : Nat} {x : Ex} (h : Gx cols K d x) : x.ok := by
  induction h with
  | lit h h0 hk => exact ⟨h, h0.1⟩
  | col h hk => exact hc _ h
  | neg h ih => exact ⟨.inl rfl, ih⟩
  | len h ih => exact ⟨.inr (.inr (.inr rfl)), ih⟩
  | not h ih => exact ⟨.inr (.inl rfl), ih⟩
  | isn h ih => exact ⟨.inr (.inr (.inl rfl)), ih⟩
  | sum ho h h' ih ih' => exact ⟨by unfold bi2; omega, ih, ih'⟩
  | cmp ho h h' ih ih' => exact ⟨by unfold bi2; omega, ih, ih'⟩
  | log ho h h' ih ih' => exact ⟨by unfold bi2; omega, ih, ih'⟩
  | join h h' ih ih' => exact ⟨by unfold bi2; omega, ih, ih'⟩
  | coal h h' ih ih' => exact ⟨by unfold bi2; omega, ih, ih'⟩
theorem Gx.free {cols : List Cl} {z : ByteArray} (hc : ∀ c ∈ cols, c.name ≠ z) {K d : Nat} {x : Ex} (h : Gx cols K d x) : x.free z := by
  induction h with
  | lit h h0 hk => trivial
  | col h hk => exact hc _ h
  | neg h ih => exact ih
  | len h ih => exact ih
  | not h ih => exact ih
  | isn h ih => exact ih
  | sum ho h h' ih ih' => exact ⟨ih, ih'⟩
  | cmp ho h h' ih ih' => exact ⟨ih, ih'⟩
  | log ho h h' ih ih' => exact ⟨ih, ih'⟩
  | join h h' ih ih' => exact ⟨ih, ih'⟩
  | coal h h' ih ih' => exact ⟨ih, ih'⟩
/-- Its kind is the one asked for, or it is always null. -/
def Kd (s : So) (K : Nat) : Prop := s.e = 0 ∧ (s.k = K ∨ s.k = 0)
theorem Kd.fits {s : So} {K : Nat} (h : Kd s K) : s.fits K = true := by
  unfold So.fits
  rcases h.2 with h | h <;> simp [h]
theorem Kd.both {s t : So} {K : Nat} (h : Kd s K) (h' : Kd t K) : s.fits (bothK s t) = true ∧ t.fits (bothK s t) = true ∧ (bothK s t = K ∨ bothK s t = 0) := by
  unfold bothK So.fits
  rcases h.2 with h | h <;> rcases h'.2 with h' | h' <;> split <;> simp_all
theorem Gx.kind {cols : List Cl} (hc : cols.Pairwise fun c d => c.name ≠ d.name) {K d : Nat} {x : Ex} (h : Gx cols K d x) : Kd (ofF cols x) K := by
  induction h with
  | lit h h0 hk => exact ⟨rfl, hk⟩
  | col h hk => rw [ofF, find_mem hc h]; exact ⟨rfl, .inl (by rw [hk])⟩
  | neg h ih =>
    have hf : So.fits _ (2 : Int) = true := ih.fits
    rw [ofF, if_pos ih.1]
    show Kd (askF _ 2 2) 2
    unfold askF
    rw [if_pos hf]
    exact ⟨rfl, .inl rfl⟩
  | len h ih =>
    have hf : So.fits _ (4 : Int) = true := ih.fits
    rw [ofF, if_pos ih.1]
    show Kd (askF _ 4 2) 2
    unfold askF
    rw [if_pos hf]
    exact ⟨rfl, .inl rfl⟩
  | not h ih =>
    have hf : So.fits _ (1 : Int) = true := ih.fits
    rw [ofF, if_pos ih.1]
    show Kd (askF _ 1 1) 1
    unfold askF
    rw [if_pos hf]
    exact ⟨rfl, .inl rfl⟩
  | isn h ih =>
    rw [ofF, if_pos ih.1]
    exact ⟨rfl, .inl rfl⟩
  | sum ho h h' ih ih' =>
    rw [ofF, if_pos ih.1, if_pos ih'.1]
    unfold joinF2
    rw [if_pos ho.2]
    unfold askF2
    rw [if_pos (by rw [show ((2 : Int)) = ((2 : Nat) : Int) from rfl, ih.fits, ih'.fits]; rfl)]
    exact ⟨rfl, .inl rfl⟩
  | cmp ho h h' ih ih' =>
    rw [ofF, if_pos ih.1, if_pos ih'.1]
    obtain ⟨b1, b2, _⟩ := ih.both ih'
    unfold joinF2
    rw [if_neg (by omega), if_neg (by omega), if_neg (by omega), if_pos (by rw [b1, b2]; rfl), if_neg (by omega)]
    exact ⟨rfl, .inl rfl⟩
  | log ho h h' ih ih' =>
    rw [ofF, if_pos ih.1, if_pos ih'.1]
    unfold joinF2
    rw [if_neg (by omega), if_pos (by omega)]
    unfold askF2
    rw [if_pos (by rw [show ((1 : Int)) = ((1 : Nat) : Int) from rfl, ih.fits, ih'.fits]; rfl)]
    exact ⟨rfl, .inl rfl⟩
  | join h h' ih ih' =>
    rw [ofF, if_pos ih.1, if_pos ih'.1]
    unfold joinF2
    rw [if_neg (by omega), if_neg (by omega), if_pos rfl]
    unfold askF2
    rw [if_pos (by rw [show ((4 : Int)) = ((4 : Nat) : Int) from rfl, ih.fits, ih'.fits]; rfl)]
    exact ⟨rfl, .inl rfl⟩
  | coal h h' ih ih' =>
    rw [ofF, if_pos ih.1, if_pos ih'.1]
    obtain ⟨b1, b2, b3⟩ := ih.both ih'
    unfold joinF2
    rw [if_neg (by omega), if_neg (by omega), if_neg (by omega), if_pos (by rw [b1, b2]; rfl), if_pos rfl]
    exact ⟨rfl, b3⟩
end Go.Proofs.YtlpnnnmdkglkcaaDoor

