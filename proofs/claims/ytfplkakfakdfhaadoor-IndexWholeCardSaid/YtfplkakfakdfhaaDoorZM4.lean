/-
  Expressions, and the kind that an expression has over columns. No program in sight.
-/
import Derived.Test.YtfplkakfakdfhaaDoorZM3
import Derived.Test.YtfplkakfakdfhaaDoorZD
import Derived.Test.YtfplkakfakdfhaaDoorZA
namespace Go.Proofs.YtfplkakfakdfhaaDoor
set_option linter.unusedSimpArgs false
set_option linter.unusedVariables false
open Go.RowKit

/-- An expression: a literal, a column, an operation with one part or two. -/
inductive Ex where
  | lit (v : Vl)
  | col (n : ByteArray)
  | un (op : Nat) (a : Ex)
  | bi (op : Nat) (a b : Ex)
def Ex.cs : Ex → List D
  | .lit v => [iD 1, iD v.k, iD v.n, qD v.b, strD v.t, strD .empty, .sl 7 []]
  | .col n => [iD 2, iD 0, iD 0, qD 0, strD .empty, strD n, .sl 7 []]
  | .un op a => [iD op, iD 0, iD 0, qD 0, strD .empty, strD .empty, .sl 7 [a.cs]]
  | .bi op a b => [iD op, iD 0, iD 0, qD 0, strD .empty, strD .empty, .sl 7 [a.cs, b.cs]]
theorem Ex.cs_len (x : Ex) : x.cs.length = 7 := by cases x <;> rfl
def Ex.deep : Ex → Nat
  | .lit _ => 1
  | .col _ => 1
  | .un _ a => a.deep + 1
  | .bi _ a b => max a.deep b.deep + 1
def Ex.num : Ex → Nat
  | .lit _ => 1
  | .col _ => 1
  | .un _ a => 1 + a.num
  | .bi _ a b => 1 + a.num + b.num
def Ex.op : Ex → Nat
  | .lit _ => 1
  | .col _ => 2
  | .un op _ => op
  | .bi op _ _ => op
def Ex.val : Ex → Vl
  | .lit v => v
  | _ => ⟨0, 0, 0, .empty⟩
def Ex.nam : Ex → ByteArray
  | .col n => n
  | _ => .empty
def Ex.args : Ex → List Ex
  | .un _ a => [a]
  | .bi _ a b => [a, b]
  | _ => []
theorem Ex.cs_eq (x : Ex) : x.cs = [iD x.op, iD x.val.k, iD x.val.n, qD x.val.b, strD x.val.t, strD x.nam, .sl 7 (x.args.map Ex.cs)] := by cases x <;> rfl
def numL : List Ex → Nat
  | [] => 0
  | x :: l => x.num + numL l
theorem numL_app : ∀ (l m : List Ex), numL (l ++ m) = numL l + numL m
  | [], m => (Nat.zero_add _).symm
  | x :: l, m => by rw [List.cons_append, numL, numL, numL_app l m, Nat.add_assoc]
theorem numL_le : ∀ (l : List Ex) (k : Nat), numL (l.take k) ≤ numL l
  | [], k => by rw [List.take_nil]; exact Nat.le_refl _
  | x :: l, 0 => Nat.zero_le _
  | x :: l, k + 1 => by rw [List.take_succ_cons, numL, numL]; have := numL_le l k; omega
theorem Ex.num_eq (x : Ex) : x.num = 1 + numL x.args := by cases x <;> simp only [Ex.num, Ex.args, numL] <;> omega
theorem Ex.deep_arg {x a : Ex} (h : a ∈ x.args) : a.deep + 1 ≤ x.deep := by
  cases x with
  | lit => cases h
  | col => cases h
  | un op b => simp only [Ex.args, List.mem_singleton] at h; subst h; simp only [Ex.deep]; omega
  | bi op b c =>
    simp only [Ex.args, List.mem_cons, List.not_mem_nil, or_false] at h
    rcases h with rfl | rfl <;> simp only [Ex.deep] <;> omega
theorem Ex.args_len (x : Ex) : x.args.length ≤ 2 := by cases x <;> simp [Ex.args]
theorem Ex.deep_pos (x : Ex) : 1 ≤ x.deep := by cases x <;> simp only [Ex.deep] <;> omega
theorem Ex.num_pos (x : Ex) : 1 ≤ x.num := by cases x <;> simp only [Ex.num] <;> omega
/-- Bytes of a name. -/
def smallB (c : UInt8) : Bool := decide (97 ≤ c.toNat) && decide (c.toNat ≤ 122)
def digitB (c : UInt8) : Bool := decide (48 ≤ c.toNat) && decide (c.toNat ≤ 57)
def inNameB (c : UInt8) : Bool := smallB c || digitB c || c.toNat == 95
def nameB : List UInt8 → Bool
  | [] => false
  | c :: l => smallB c && decide ((c :: l).length ≤ 8) && (c :: l).all inNameB
abbrev NameOk (n : ByteArray) : Prop := nameB n.data.toList = true
def un1 (op : Nat) : Prop := op = 3 ∨ op = 4 ∨ op = 17 ∨ op = 18
def bi2 (op : Nat) : Prop := 5 ≤ op ∧ op ≤ 20 ∧ op ≠ 17 ∧ op ≠ 18
/-- An expression that may be, its size apart. -/
def Ex.ok : Ex → Prop
  | .lit v => Gd v ∧ 0 ≤ v.n
  | .col n => NameOk n
  | .un op a => un1 op ∧ a.ok
  | .bi op a b => bi2 op ∧ a.ok ∧ b.ok
theorem Ex.ok_arg {x a : Ex} (h : x.ok) (ha : a ∈ x.args) : a.ok := by
  cases x with
  | lit => cases ha
  | col => cases ha
  | un op b => simp only [Ex.args, List.mem_singleton] at ha; subst ha; exact h.2
  | bi op b c =>
    simp only [Ex.args, List.mem_cons, List.not_mem_nil, or_false] at ha
    rcases ha with rfl | rfl
    · exact h.2.1
    · exact h.2.2
/-- A column. -/
structure Cl where
  name : ByteArray
  kind : Nat
  null : Bool
def Cl.cs (c : Cl) : List D := [strD c.name, iD c.kind, bD c.null]
abbrev colsD (l : List Cl) : D := .sl 3 (l.map Cl.cs)
/-- What the kind is: what is wrong, the kind, whether it may be null. -/
structure So where
  e : Nat
  k : Int
  n : Bool
def So.bad (e : Nat) : So := ⟨e, 0, false⟩
def So.fits (s : So) (k : Int) : Bool := s.k == k || s.k == 0
def askF (s : So) (ask give : Int) : So := if s.fits ask = true then ⟨0, give, s.n⟩ else .bad 2
def askF2 (s t : So) (ask give : Int) : So := if (s.fits ask && t.fits ask) = true then ⟨0, give, s.n || t.n⟩ else .bad 2
def joinF1 (op : Nat) (s : So) : So := if op = 3 then askF s 2 2 else if op = 4 then askF s 1 1 else if op = 18 then askF s 4 2 else ⟨0, 1, false⟩
def bothK (s t : So) : Int := if s.k = 0 then t.k else s.k
def joinF2 (op : Nat) (s t : So) : So :=
  if op ≤ 8 then askF2 s t 2 2 else if op = 15 ∨ op = 16 then askF2 s t 1 1 else if op = 19 then askF2 s t 4 4 else
  if (s.fits (bothK s t) && t.fits (bothK s t)) = true then (if op = 20 then ⟨0, bothK s t, s.n && t.n⟩ else ⟨0, 1, s.n || t.n⟩) else .bad 2
def findC (n : ByteArray) : List Cl → So
  | [] => .bad 5
  | c :: l => if c.name = n then ⟨0, c.kind, c.null⟩ else findC n l
def ofF (cols : List Cl) : Ex → So
  | .lit v => ⟨0, v.k, v.k == 0⟩
  | .col n => findC n cols
  | .un op a => if (ofF cols a).e = 0 then joinF1 op (ofF cols a) else .bad (ofF cols a).e
  | .bi op a b => if (ofF cols a).e = 0 then (if (ofF cols b).e = 0 then joinF2 op (ofF cols a) (ofF cols b) else .bad (ofF cols b).e) else .bad (ofF cols a).e

/-! ### what the laws make -/
def Ex.free (z : ByteArray) : Ex → Prop
  | .lit _ => True
  | .col n => n ≠ z
  | .un _ a => a.free z
  | .bi _ a b => a.free z ∧ b.free z
theorem findC_more {z n : ByteArray} {k : Nat} {b : Bool} (h : n ≠ z) : ∀ cols : List Cl, findC n (cols ++ [⟨z, k, b⟩]) = findC n cols
  | [] => by
    show (if z = n then _ else _) = _
    rw [if_neg (Ne.symm h)]
  | c :: l => by
    show (if c.name = n then _ else findC n (l ++ _)) = (if c.name = n then _ else findC n l)
    rw [findC_more h l]
theorem ofF_more {z : ByteArray} {k : Nat} {b : Bool} (cols : List Cl) : ∀ x : Ex, x.free z → ofF (cols ++ [⟨z, k, b⟩]) x = ofF cols x
  | .lit _, _ => rfl
  | .col n, h => findC_more h cols
  | .un op a, h => by simp only [ofF, ofF_more cols a h]
  | .bi op a b, h => by simp only [ofF, ofF_more cols a h.1, ofF_more cols b h.2]
def strictC (c : Cl) : Cl := { c with null := false }
/-- As s, but null less often. -/
def Less (t s : So) : Prop := t.e = s.e ∧ t.k = s.k ∧ (t.n = true → s.n = true)
theorem Less.fits {t s : So} (h : Less t s) (k : Int) : t.fits k = s.fits k := by unfold So.fits; rw [h.2.1]
theorem less_ask {t s : So} (h : Less t s) (a g : Int) : Less (askF t a g) (askF s a g) := by
  unfold askF
  rw [h.fits]
  split
  · exact ⟨rfl, rfl, h.2.2⟩
  · exact ⟨rfl, rfl, fun h => h⟩
theorem less_ask2 {t s t' s' : So} (h : Less t s) (h' : Less t' s') (a g : Int) : Less (askF2 t t' a g) (askF2 s s' a g) := by
  unfold askF2
  rw [h.fits, h'.fits]
  split
  · refine ⟨rfl, rfl, fun hn => ?_⟩
    simp only [Bool.or_eq_true] at hn ⊢
    exact hn.imp h.2.2 h'.2.2
  · exact ⟨rfl, rfl, fun h => h⟩
theorem less_1 {t s : So} (op : Nat) (h : Less t s) : Less (joinF1 op t) (joinF1 op s) := by
  unfold joinF1
  split
  · exact less_ask h _ _
  · split
    · exact less_ask h _ _
    · split
      · exact less_ask h _ _
      · exact ⟨rfl, rfl, fun h => h⟩
theorem less_2 {t s t' s' : So} (op : Nat) (h : Less t s) (h' : Less t' s') : Less (joinF2 op t t') (joinF2 op s s') := by
  have hb : bothK t t' = bothK s s' := by unfold bothK; rw [h.2.1, h'.2.1]
  unfold joinF2
  rw [hb, h.fits, h'.fits]
  split
  · exact less_ask2 h h' _ _
  · split
    · exact less_ask2 h h' _ _
    · split
      · exact less_ask2 h h' _ _
      · split
        · split
          · refine ⟨rfl, rfl, fun hn => ?_⟩
            simp only [Bool.and_eq_true] at hn ⊢
            exact ⟨h.2.2 hn.1, h'.2.2 hn.2⟩
          · refine ⟨rfl, rfl, fun hn => ?_⟩
            simp only [Bool.or_eq_true] at hn ⊢
            exact hn.imp h.2.2 h'.2.2
        · exact ⟨rfl, rfl, fun h => h⟩
theorem less_find (n : ByteArray) : ∀ cols : List Cl, Less (findC n (cols.map strictC)) (findC n cols)
  | [] => ⟨rfl, rfl, fun h => h⟩
  | c :: l => by
    show Less (if c.name = n then _ else findC n (l.map strictC)) (if c.name = n then _ else findC n l)
    split
    · exact ⟨rfl, rfl, fun h => by cases h⟩
    · exact less_find n l
theorem less_of (cols : List Cl) : ∀ x : Ex, Less (ofF (cols.map strictC) x) (ofF cols x)
  | .lit _ => ⟨rfl, rfl, fun h => h⟩
  | .col n => less_find n cols
  | .un op a => by
    have h := less_of cols a
    simp only [ofF, h.1]
    split
    · exact less_1 op h
    · exact ⟨rfl, rfl, fun h => h⟩
  | .bi op a b => by
    have h := less_of cols a
    have h' := less_of cols b
    simp only [ofF, h.1, h'.1]
    split
    · split
      · exact less_2 op h h'
      · exact ⟨rfl, rfl, fun h => h⟩
    · exact ⟨rfl, rfl, fun h => h⟩
/-- An expression of a kind, made over columns, not deeper than so. -/
inductive Gx (cols : List Cl) : Nat → Nat → Ex → Prop where
  | lit {K d : Nat} {v : Vl} (h : Gd v) (h0 : 0 ≤ v.n ∧ v.n ≤ 9223372036854775807) (hk : v.k = K ∨ v.k = 0) : Gx cols K (d + 1) (.lit v)
  | col {K d : Nat} {c : Cl} (h : c ∈ cols) (hk : c.kind = K) : Gx cols K (d + 1) (.col c.name)
  | neg {d : Nat} {a : Ex} (h : Gx cols 2 d a) : Gx cols 2 (d + 1) (.un 3 a)
  | len {d : Nat} {a : Ex} (h : Gx cols 4 d a) : Gx cols 2 (d + 1) (.un 18 a)
  | not {d : Nat} {a : Ex} (h : Gx cols 1 d a) : Gx cols 1 (d + 1) (.un 4 a)
  | isn {K d : Nat} {a : Ex} (h : Gx cols K d a) : Gx cols 1 (d + 1) (.un 17 a)
  | sum {d op : Nat} {a b : Ex} (ho : 5 ≤ op ∧ op ≤ 8) (h : Gx cols 2 d a) (h' : Gx cols 2 d b) : Gx cols 2 (d + 1) (.bi op a b)
  | cmp {K d op : Nat} {a b : Ex} (ho : 9 ≤ op ∧ op ≤ 14) (h : Gx cols K d a) (h' : Gx cols K d b) : Gx cols 1 (d + 1) (.bi op a b)
  | log {d op : Nat} {a b : Ex} (ho : op = 15 ∨ op = 16) (h : Gx cols 1 d a) (h' : Gx cols 1 d b) : Gx cols 1 (d + 1) (.bi op a b)
  | join {d : Nat} {a b : Ex} (h : Gx cols 4 d a) (h' : Gx cols 4 d b) : Gx cols 4 (d + 1) (.bi 19 a b)
  | coal {K d : Nat} {a b : Ex} (h : Gx cols K d a) (h' : Gx cols K d b) : Gx cols K (d + 1) (.bi 20 a b)
/-- Columns that may be. -/
structure ColsOk (cols : List Cl) : Prop where
  len : cols.length ≤ 5
  name : ∀ c ∈ cols, NameOk c.name
  kind : ∀ c ∈ cols, 1 ≤ c.kind ∧ c.kind ≤ 4
  once : cols.Pairwise fun c d => c.name ≠ d.name
theorem find_mem : ∀ {cols : List Cl} {c : Cl}, cols.Pairwise (fun c d => c.name ≠ d.name) → c ∈ cols → findC c.name cols = ⟨0, c.kind, c.null⟩
  | d :: l, c, hp, hc => by
    rw [List.pairwise_cons] at hp
    rcases List.mem_cons.1 hc with rfl | hc
    · show (if c.name = c.name then _ else _) = _
      rw [if_pos rfl]
    · show (if d.name = c.name then _ else findC c.name l) = _
      rw [if_neg (hp.1 c hc), find_mem hp.2 hc]
theorem Gx.deep {cols : List Cl} {K d : Nat} {x : Ex} (h : Gx cols K d x) : x.deep ≤ d := by
  induction h with
  | lit => simp only [Ex.deep]; omega
  | col => simp only [Ex.deep]; omega
  | _ => simp only [Ex.deep]; omega
theorem Gx.num {cols : List Cl} {K d : Nat} {x : Ex} (h : Gx cols K d x) : x.num + 1 ≤ 2 ^ d := by
  induction h with
  | lit => simp only [Ex.num, Nat.pow_succ]; have := Nat.one_le_two_pow (n := ‹_›); omega
  | col => simp only [Ex.num, Nat.pow_succ]; have := Nat.one_le_two_pow (n := ‹_›); omega
  | _ => simp only [Ex.num, Nat.pow_succ]; omega
theorem Gx.ok {cols : List Cl} (hc : ∀ c ∈ cols, NameOk c.name) {K d : Nat} {x : Ex} (h : Gx cols K d x) : x.ok := by
  induction h with
  | lit h h0 hk => exact ⟨h, h0.1⟩
  | col h hk => exact hc _ h
  | neg h ih => exact ⟨.inl rfl, ih⟩
  | len h ih => exact ⟨.inr (.inr (.inr rfl)), ih⟩
  | not h ih => exact ⟨.inr (.inl rfl), ih⟩
  | isn h ih => exact ⟨.inr (.inr (.inl rfl)), ih⟩
  | sum ho h h' ih ih' => exact ⟨by unfold bi2; omega, ih, ih'⟩
  | cmp ho h h' ih ih' => exact ⟨by unfold bi2; omega, ih, ih'⟩
  | log ho h h' ih ih' => exact ⟨by unfold bi2; omega, ih, ih'⟩
  | join h h' ih ih' => exact ⟨by unfold bi2; omega, ih, ih'⟩
  | coal h h' ih ih' => exact ⟨by unfold bi2; omega, ih, ih'⟩
theorem Gx.free {cols : List Cl} {z : ByteArray} (hc : ∀ c ∈ cols, c.name ≠ z) {K d : Nat} {x : Ex} (h : Gx cols K d x) : x.free z := by
  induction h with
  | lit h h0 hk => trivial
  | col h hk => exact hc _ h
  | neg h ih => exact ih
  | len h ih => exact ih
  | not h ih => exact ih
  | isn h ih => exact ih
  | sum ho h h' ih ih' => exact ⟨ih, ih'⟩
  | cmp ho h h' ih ih' => exact ⟨ih, ih'⟩
  | log ho h h' ih ih' => exact ⟨ih, ih'⟩
  | join h h' ih ih' => exact ⟨ih, ih'⟩
  | coal h h' ih ih' => exact ⟨ih, ih'⟩
/-- Its kind is the one asked for, or it is always null. -/
def Kd (s : So) (K : Nat) : Prop := s.e = 0 ∧ (s.k = K ∨ s.k = 0)
theorem Kd.fits {s : So} {K : Nat} (h : Kd s K) : s.fits K = true := by
  unfold So.fits
  rcases h.2 with h | h <;> simp [h]
theorem Kd.both {s t : So} {K : Nat} (h : Kd s K) (h' : Kd t K) : s.fits (bothK s t) = true ∧ t.fits (bothK s t) = true ∧ (bothK s t = K ∨ bothK s t = 0) := by
  unfold bothK So.fits
  rcases h.2 with h | h <;> rcases h'.2 with h' | h' <;> split <;> simp_all
theorem Gx.kind {cols : List Cl} (hc : cols.Pairwise fun c d => c.name ≠ d.name) {K d : Nat} {x : Ex} (h : Gx cols K d x) : Kd (ofF cols x) K := by
  induction h with
  | lit h h0 hk => exact ⟨rfl, hk⟩
  | col h hk => rw [ofF, find_mem hc h]; exact ⟨rfl, .inl (by rw [hk])⟩
  | neg h ih =>
    have hf : So.fits _ (2 : Int) = true := ih.fits
    rw [ofF, if_pos ih.1]
    show Kd (askF _ 2 2) 2
    unfold askF
    rw [if_pos hf]
    exact ⟨rfl, .inl rfl⟩
  | len h ih =>
    have hf : So.fits _ (4 : Int) = true := ih.fits
    rw [ofF, if_pos ih.1]
    show Kd (askF _ 4 2) 2
    unfold askF
    rw [if_pos hf]
    exact ⟨rfl, .inl rfl⟩
  | not h ih =>
    have hf : So.fits _ (1 : Int) = true := ih.fits
    rw [ofF, if_pos ih.1]
    show Kd (askF _ 1 1) 1
    unfold askF
    rw [if_pos hf]
    exact ⟨rfl, .inl rfl⟩
  | isn h ih =>
    rw [ofF, if_pos ih.1]
    exact ⟨rfl, .inl rfl⟩
  | sum ho h h' ih ih' =>
    rw [ofF, if_pos ih.1, if_pos ih'.1]
    unfold joinF2
    rw [if_pos ho.2]
    unfold askF2
    rw [if_pos (by rw [show ((2 : Int)) = ((2 : Nat) : Int) from rfl, ih.fits, ih'.fits]; rfl)]
    exact ⟨rfl, .inl rfl⟩
  | cmp ho h h' ih ih' =>
    rw [ofF, if_pos ih.1, if_pos ih'.1]
    obtain ⟨b1, b2, _⟩ := ih.both ih'
    unfold joinF2
    rw [if_neg (by omega), if_neg (by omega), if_neg (by omega), if_pos (by rw [b1, b2]; rfl), if_neg (by omega)]
    exact ⟨rfl, .inl rfl⟩
  | log ho h h' ih ih' =>
    rw [ofF, if_pos ih.1, if_pos ih'.1]
    unfold joinF2
    rw [if_neg (by omega), if_pos (by omega)]
    unfold askF2
    rw [if_pos (by rw [show ((1 : Int)) = ((1 : Nat) : Int) from rfl, ih.fits, ih'.fits]; rfl)]
    exact ⟨rfl, .inl rfl⟩
  | join h h' ih ih' =>
    rw [ofF, if_pos ih.1, if_pos ih'.1]
    unfold joinF2
    rw [if_neg (by omega), if_neg (by omega), if_pos rfl]
    unfold askF2
    rw [if_pos (by rw [show ((4 : Int)) = ((4 : Nat) : Int) from rfl, ih.fits, ih'.fits]; rfl)]
    exact ⟨rfl, .inl rfl⟩
  | coal h h' ih ih' =>
    rw [ofF, if_pos ih.1, if_pos ih'.1]
    obtain ⟨b1, b2, b3⟩ := ih.both ih'
    unfold joinF2
    rw [if_neg (by omega), if_neg (by omega), if_neg (by omega), if_pos (by rw [b1, b2]; rfl), if_pos rfl]
    exact ⟨rfl, b3⟩
end Go.Proofs.YtfplkakfakdfhaaDoor


/-
  What chirographkeep's heap of raw things makes: columns, raw things, literals and columns of an expression. No program in sight.
-/
namespace Go.Proofs.YtfplkakfakdfhaaDoor
set_option linter.unusedSimpArgs false
set_option linter.unusedVariables false
open Go.RowKit

abbrev kN : ByteArray := { data := #[107] }
abbrev zzN : ByteArray := { data := #[122, 122] }
abbrev abcN : ByteArray := { data := #[97, 98, 99] }
def abcF (i : Nat) : ByteArray := abcN.extract i (i + 1)
def clF (i : Nat) (r : Raw) : Cl := ⟨abcF i, 1 + (r.kind % 4).toNat, decide (r.a % 2 = 0)⟩
def clsF : Nat → List Raw → List Cl
  | _, [] => []
  | i, r :: l => clF i r :: clsF (i + 1) l
def colsF (l : List Raw) : List Cl := ⟨kN, 2, false⟩ :: clsF 0 (l.take 3)
theorem clsF_len : ∀ (i : Nat) (l : List Raw), (clsF i l).length = l.length
  | _, [] => rfl
  | i, r :: l => by rw [clsF, List.length_cons, clsF_len, List.length_cons]
theorem clsF_get : ∀ (i : Nat) (l : List Raw) (k : Nat), (clsF i l)[k]? = (l[k]?).map (clF (i + k))
  | _, [], _ => rfl
  | i, r :: l, 0 => rfl
  | i, r :: l, k + 1 => by
    show (clsF (i + 1) l)[k]? = (l[k]?).map (clF (i + (k + 1)))
    rw [clsF_get, show i + 1 + k = i + (k + 1) by omega]
theorem clsF_app (i : Nat) : ∀ (l : List Raw) (r : Raw), clsF i (l ++ [r]) = clsF i l ++ [clF (i + l.length) r]
  | [], r => rfl
  | x :: l, r => by
    have := clsF_app (i + 1) l r
    rw [List.cons_append, clsF, clsF, this, List.cons_append, List.length_cons, show i + 1 + l.length = i + (l.length + 1) by omega]
theorem abc_ok {i : Nat} (h : i < 3) : NameOk (abcF i) ∧ abcF i ≠ kN ∧ abcF i ≠ zzN := by
  rcases (by omega : i = 0 ∨ i = 1 ∨ i = 2) with rfl | rfl | rfl <;> (refine ⟨by decide, by decide, by decide⟩)
theorem abc_inj {i j : Nat} (hi : i < 3) (hj : j < 3) (h : abcF i = abcF j) : i = j := by
  rcases (by omega : i = 0 ∨ i = 1 ∨ i = 2) with rfl | rfl | rfl <;> rcases (by omega : j = 0 ∨ j = 1 ∨ j = 2) with rfl | rfl | rfl <;> first | rfl | exact absurd h (by decide)
theorem clsF_mem {l : List Raw} {c : Cl} (hl : l.length ≤ 3) (h : c ∈ clsF 0 l) : ∃ i r, i < 3 ∧ c = clF i r := by
  obtain ⟨k, hk⟩ := List.getElem?_of_mem h
  rw [clsF_get] at hk
  rcases hr : l[k]? with _ | r
  · rw [hr] at hk; cases hk
  · rw [hr] at hk
    injection hk with hk
    have := (List.getElem?_eq_some_iff.1 hr).1
    exact ⟨k, r, by omega, by rw [← hk, Nat.zero_add]⟩
theorem colsF_ok (l : List Raw) : ColsOk (colsF l) := by
  have hl : (l.take 3).length ≤ 3 := by rw [List.length_take]; omega
  refine ⟨?_, fun c hc => ?_, fun c hc => ?_, ?_⟩
  · unfold colsF
    rw [List.length_cons, clsF_len]
    omega
  · rcases List.mem_cons.1 hc with rfl | hc
    · decide
    · obtain ⟨i, r, hi, rfl⟩ := clsF_mem hl hc
      exact (abc_ok hi).1
  · rcases List.mem_cons.1 hc with rfl | hc
    · exact ⟨by decide, by decide⟩
    · obtain ⟨i, r, hi, rfl⟩ := clsF_mem hl hc
      show 1 ≤ 1 + (r.kind % 4).toNat ∧ 1 + (r.kind % 4).toNat ≤ 4
      omega
  · unfold colsF
    rw [List.pairwise_cons]
    refine ⟨fun c hc => ?_, ?_⟩
    · obtain ⟨i, r, hi, rfl⟩ := clsF_mem hl hc
      exact fun h => (abc_ok hi).2.1 h.symm
    · rw [List.pairwise_iff_getElem]
      intro i j hi hj hij he
      have h1 : (clsF 0 (l.take 3))[i]? = some (clsF 0 (l.take 3))[i] := List.getElem?_eq_getElem hi
      have h2 : (clsF 0 (l.take 3))[j]? = some (clsF 0 (l.take 3))[j] := List.getElem?_eq_getElem hj
      rw [clsF_len] at hi hj
      rw [clsF_get, List.getElem?_eq_getElem hi] at h1
      rw [clsF_get, List.getElem?_eq_getElem hj] at h2
      injection h1 with h1
      injection h2 with h2
      rw [← h1, ← h2] at he
      have := abc_inj (i := 0 + i) (j := 0 + j) (by omega) (by omega) he
      omega
theorem colsF_zz (l : List Raw) : ∀ c ∈ colsF l, c.name ≠ zzN := by
  have hl : (l.take 3).length ≤ 3 := by rw [List.length_take]; omega
  intro c hc
  rcases List.mem_cons.1 hc with rfl | hc
  · show kN ≠ zzN
    decide
  · obtain ⟨i, r, hi, rfl⟩ := clsF_mem hl hc
    exact (abc_ok hi).2.2
/-- The next raw thing. -/
def nextF (l : List Raw) (at' : Nat) : Raw := match l[at' % l.length]? with
  | none => ⟨0, (at' + 1 : Nat), (at' + 1 : Nat), .empty⟩
  | some r => ⟨r.kind, IntKind.i64.wrap (r.a + ((at' + 1) / l.length : Nat)), r.b, r.text⟩
/-- Which column a leaf is, if any. -/
def leafC (K : Nat) (a : Int) : Nat → List Cl → Option Cl
  | _, [] => none
  | i, c :: l => if c.kind = K ∧ a % ((2 + i : Nat) : Int) = 0 then some c else leafC K a (i + 1) l
theorem leafC_mem {K : Nat} {a : Int} : ∀ {i : Nat} {l : List Cl} {c : Cl}, leafC K a i l = some c → c ∈ l ∧ c.kind = K
  | i, d :: l, c, h => by
    unfold leafC at h
    split at h
    · rename_i hc
      injection h with h
      subst h
      exact ⟨List.mem_cons_self, hc.1⟩
    · obtain ⟨h1, h2⟩ := leafC_mem h
      exact ⟨List.mem_cons_of_mem _ h1, h2⟩
theorem mask_nn (a : Int) : 0 ≤ bitV .and .i64 a 9223372036854775807 ∧ bitV .and .i64 a 9223372036854775807 ≤ 9223372036854775807 := by
  show 0 ≤ IntKind.i64.wrap ((BitVec.ofInt 64 a &&& BitVec.ofInt 64 9223372036854775807).toNat : Int) ∧ IntKind.i64.wrap ((BitVec.ofInt 64 a &&& BitVec.ofInt 64 9223372036854775807).toNat : Int) ≤ 9223372036854775807
  have h : (BitVec.ofInt 64 a &&& BitVec.ofInt 64 9223372036854775807).toNat ≤ 9223372036854775807 := by
    rw [BitVec.toNat_and]
    exact Nat.le_trans Nat.and_le_right (by decide)
  rw [wrap64_of (by omega) (by omega)]
  omega
/-- Which value it is, else. -/
def litF (K : Nat) (r : Raw) (v : Vl) : Vl :=
  if r.b % 9 = 0 then ⟨0, 0, 0, .empty⟩ else if K = 2 ∧ r.b % 4 = 0 then ⟨2, bitV .and .i64 r.a 9223372036854775807, 0, .empty⟩ else if K = 2 then ⟨2, r.a % 20, 0, .empty⟩ else v
theorem litF_gx {cols : List Cl} {K d : Nat} (r : Raw) {v : Vl} (hv : Gd v) (hk : v.k = K) (hn : K ≠ 2 → 0 ≤ v.n ∧ v.n ≤ 9223372036854775807) : Gx cols K (d + 1) (.lit (litF K r v)) := by
  unfold litF
  split
  · exact .lit .null ⟨Int.le_refl _, by decide⟩ (.inr rfl)
  · split
    · rename_i h
      obtain ⟨rfl, _⟩ := h
      exact .lit (.int _) (mask_nn r.a) (.inl rfl)
    · split
      · rename_i h
        subst h
        exact .lit (.int _) (show 0 ≤ r.a % 20 ∧ r.a % 20 ≤ 9223372036854775807 by omega) (.inl rfl)
      · rename_i h
        exact .lit hv (hn h) (.inl hk)
def leafF (cols : List Cl) (K : Nat) (r : Raw) (v : Vl) : Ex := match leafC K r.a 0 cols with
  | some c => .col c.name
  | none => .lit (litF K r v)
theorem leafF_gx {cols : List Cl} {K d : Nat} (r : Raw) {v : Vl} (hv : Gd v) (hk : v.k = K) (hn : K ≠ 2 → 0 ≤ v.n ∧ v.n ≤ 9223372036854775807) : Gx cols K (d + 1) (leafF cols K r v) := by
  unfold leafF
  split
  · rename_i c hc
    obtain ⟨h1, h2⟩ := leafC_mem hc
    exact .col h1 h2
  · exact litF_gx r hv hk hn
end Go.Proofs.YtfplkakfakdfhaaDoor

