/-
  The pure layer: comparisons, lengths, slices, fields, texts, functions as values. No condition.
-/
import Derived.Test.YtfkkamkhjbfjmaaDoorPlStep
namespace Go.Proofs.YtfkkamkhjbfjmaaDoor
set_option linter.unusedSimpArgs false
set_option linter.unusedVariables false
open Go.RowKit

section
variable {P : Program} {fr : Nat} {dst : Option Nat} {ty : TypeId} {e : Operand → A} {β : Bx}
variable {T T' : TypeId} {x y : Operand} {k : IntKind} {m n : Int}
theorem does_eq (hx : e x = .d (.sc (.int k m))) (hy : e y = .d (.sc (.int k n))) : Does P dst (.binOp .eql T x y T') ty e β (.d (bD (m == n))) [] [] := does_int hx hy trivial
theorem does_ne (hx : e x = .d (.sc (.int k m))) (hy : e y = .d (.sc (.int k n))) : Does P dst (.binOp .neq T x y T') ty e β (.d (bD (m != n))) [] [] := does_int hx hy trivial
theorem does_lt (hx : e x = .d (.sc (.int k m))) (hy : e y = .d (.sc (.int k n))) : Does P dst (.binOp .lss T x y T') ty e β (.d (bD (decide (m < n)))) [] [] := does_int hx hy trivial
theorem does_le (hx : e x = .d (.sc (.int k m))) (hy : e y = .d (.sc (.int k n))) : Does P dst (.binOp .leq T x y T') ty e β (.d (bD (decide (m ≤ n)))) [] [] := does_int hx hy trivial
theorem does_gt (hx : e x = .d (.sc (.int k m))) (hy : e y = .d (.sc (.int k n))) : Does P dst (.binOp .gtr T x y T') ty e β (.d (bD (decide (m > n)))) [] [] := does_int hx hy trivial
theorem does_ge (hx : e x = .d (.sc (.int k m))) (hy : e y = .d (.sc (.int k n))) : Does P dst (.binOp .geq T x y T') ty e β (.d (bD (decide (m ≥ n)))) [] [] := does_int hx hy trivial
theorem does_wadd (hx : e x = .d (.sc (.int k m))) (hy : e y = .d (.sc (.int k n))) : Does P dst (.binOp .add T x y T') ty e β (.d (.sc (.int k (k.wrap (m + n))))) [] [] := does_int hx hy trivial
theorem does_wsub (hx : e x = .d (.sc (.int k m))) (hy : e y = .d (.sc (.int k n))) : Does P dst (.binOp .sub T x y T') ty e β (.d (.sc (.int k (k.wrap (m - n))))) [] [] := does_int hx hy trivial
theorem does_wmul (hx : e x = .d (.sc (.int k m))) (hy : e y = .d (.sc (.int k n))) : Does P dst (.binOp .mul T x y T') ty e β (.d (.sc (.int k (k.wrap (m * n))))) [] [] := does_int hx hy trivial
theorem does_wrem (hx : e x = .d (.sc (.int k m))) (hy : e y = .d (.sc (.int k n))) (h : n ≠ 0) : Does P dst (.binOp .rem T x y T') ty e β (.d (.sc (.int k (m.tmod n)))) [] [] := does_int hx hy h
theorem does_wquo (hx : e x = .d (.sc (.int k m))) (hy : e y = .d (.sc (.int k n))) (h : n ≠ 0) : Does P dst (.binOp .quo T x y T') ty e β (.d (.sc (.int k (k.wrap (m.tdiv n))))) [] [] := does_int hx hy h
theorem does_band (hx : e x = .d (.sc (.int k m))) (hy : e y = .d (.sc (.int k n))) : Does P dst (.binOp .and T x y T') ty e β (.d (.sc (.int k (bitV .and k m n)))) [] [] := does_int hx hy trivial
theorem does_bor (hx : e x = .d (.sc (.int k m))) (hy : e y = .d (.sc (.int k n))) : Does P dst (.binOp .or T x y T') ty e β (.d (.sc (.int k (bitV .or k m n)))) [] [] := does_int hx hy trivial
theorem does_bxor (hx : e x = .d (.sc (.int k m))) (hy : e y = .d (.sc (.int k n))) : Does P dst (.binOp .xor T x y T') ty e β (.d (.sc (.int k (bitV .xor k m n)))) [] [] := does_int hx hy trivial
theorem does_bandNot (hx : e x = .d (.sc (.int k m))) (hy : e y = .d (.sc (.int k n))) : Does P dst (.binOp .andNot T x y T') ty e β (.d (.sc (.int k (bitV .andNot k m n)))) [] [] := does_int hx hy trivial
theorem does_shl {k' : IntKind} (hx : e x = .d (.sc (.int k m))) (hy : e y = .d (.sc (.int k' n))) (h : 0 ≤ n) : Does P dst (.binOp .shl T x y T') ty e β (.d (.sc (.int k (k.wrap (m * 2 ^ (min n.toNat k.bits)))))) [] [] := does_shift hx hy (.inl rfl) h
theorem does_shr {k' : IntKind} (hx : e x = .d (.sc (.int k m))) (hy : e y = .d (.sc (.int k' n))) (h : 0 ≤ n) : Does P dst (.binOp .shr T x y T') ty e β (.d (.sc (.int k (m.fdiv (2 ^ (min n.toNat k.bits)))))) [] [] := does_shift hx hy (.inr rfl) h
theorem does_sub_to {z : Int} (hx : e x = .d (iD m)) (hy : e y = .d (iD n)) (hz : m - n = z) (h1 : -9223372036854775808 ≤ z) (h2 : z ≤ 9223372036854775807) : Does P dst (.binOp .sub T x y T') ty e β (.d (iD z)) [] [] := by
  subst hz; exact does_sub hx hy h1 h2
theorem does_add_to {z : Int} (hx : e x = .d (iD m)) (hy : e y = .d (iD n)) (hz : m + n = z) (h1 : -9223372036854775808 ≤ z) (h2 : z ≤ 9223372036854775807) : Does P dst (.binOp .add T x y T') ty e β (.d (iD z)) [] [] := by
  subst hz; exact does_add hx hy h1 h2
theorem does_int_to {bo : BinOp} {z : D} (hx : e x = .d (.sc (.int k m))) (hy : e y = .d (.sc (.int k n))) (hs : (intV bo k m n).1) (hz : D.sc (intV bo k m n).2 = z) : Does P dst (.binOp bo T x y T') ty e β (.d z) [] [] := by
  subst hz; exact does_int hx hy hs
theorem does_seq {p q : ByteArray} (hx : e x = .d (strD p)) (hy : e y = .d (strD q)) : Does P dst (.binOp .eql T x y T') ty e β (.d (bD (p.toList == q.toList))) [] [] := does_str hx hy rfl
theorem does_sne {p q : ByteArray} (hx : e x = .d (strD p)) (hy : e y = .d (strD q)) : Does P dst (.binOp .neq T x y T') ty e β (.d (bD (!(p.toList == q.toList)))) [] [] := does_str hx hy rfl
theorem does_slt {p q : ByteArray} (hx : e x = .d (strD p)) (hy : e y = .d (strD q)) : Does P dst (.binOp .lss T x y T') ty e β (.d (bD (Op.bytesLess p.toList q.toList))) [] [] := does_str hx hy rfl
theorem does_sle {p q : ByteArray} (hx : e x = .d (strD p)) (hy : e y = .d (strD q)) : Does P dst (.binOp .leq T x y T') ty e β (.d (bD (Op.bytesLess p.toList q.toList || p.toList == q.toList))) [] [] := does_str hx hy rfl
theorem does_sgt {p q : ByteArray} (hx : e x = .d (strD p)) (hy : e y = .d (strD q)) : Does P dst (.binOp .gtr T x y T') ty e β (.d (bD (!(Op.bytesLess p.toList q.toList || p.toList == q.toList)))) [] [] := does_str hx hy rfl
theorem does_sge {p q : ByteArray} (hx : e x = .d (strD p)) (hy : e y = .d (strD q)) : Does P dst (.binOp .geq T x y T') ty e β (.d (bD (!(Op.bytesLess p.toList q.toList)))) [] [] := does_str hx hy rfl

theorem putAt_whole {α : Type} {cs vs : List α} (h : vs.length = cs.length) : putAt cs 0 vs = vs := by
  unfold putAt
  rw [List.take_zero, List.nil_append, Nat.zero_add, h, List.drop_length, List.append_nil]
theorem does_store_whole {T0 : TypeId} {t : TyI} {id : Nat} {cs : List A} {vs : List D} (ht : mkTy P T = some t) (hx : e x = .px id 0) (hy : e y = .d (.ag vs)) (hl : look id β = some (.var T0 cs)) (hs : vs.length = t.size) (hlen : vs.length = cs.length) :
    Does P dst (.store T x y) ty e β .un [(id, .var T0 (vs.map .d))] [id] := by
  have := does_store_rowD (P := P) (dst := dst) (ty := ty) ht hx hy hs hl (by omega)
  rwa [putAt_whole (by simpa using hlen)] at this
theorem does_store_wholeA {T0 : TypeId} {t : TyI} {id : Nat} {cs vs : List A} (ht : mkTy P T = some t) (hx : e x = .px id 0) (hy : e y = .ag vs) (hl : look id β = some (.var T0 cs)) (hs : vs.length = t.size) (hlen : vs.length = cs.length) :
    Does P dst (.store T x y) ty e β .un [(id, .var T0 vs)] [id] := by
  have := does_store_row (P := P) (dst := dst) (ty := ty) ht hx hy hs hl (by omega)
  rwa [putAt_whole hlen] at this
theorem run_len_slice {t : TyI} {el : TypeId} (ht : mkTy P T = some t) (hk : t.kind = .slice el) (tyr : TypeId) (ad : Option Addr) (n c : Nat) (w : World) : (Builtin.len_ #[T] tyr #[.slice ad n c]).run P w = .ok (.int .i64 n) w := by
  obtain ⟨i, d, z, _, hu, _, _, _, _, _, hkd⟩ := mkTy_spec ht
  have hu2 : P.underlying T = some (.slice el) := by rw [hu, kind_slice (hkd.symm.trans hk)]
  simp [Builtin.len_, Sem.run_bind, run_underlying hu2, goInt]
theorem does_len_sl {t : TyI} {el : TypeId} {sz : Nat} {es : List (List D)} (ht : mkTy P T = some t) (hk : t.kind = .slice el) (hx : e x = .d (.sl sz es)) : Does P dst (.call { callee := .builtin .len, args := #[x], argTypes := #[T] }) ty e β (.d (iD es.length)) [] [] :=
  Does.of_run fun C γ _ ρ I w _ a hops o ho _ => by
    have h1 := (hops x (by simp [Op.operands, Call.operands])).2
    rw [hx] at h1
    obtain ⟨ad, c, xs, h1, _⟩ := h1
    exact ⟨_, by simp [execOp, ho, resolve, invoke, builtin, Sem.run_bind, h1, run_len_slice ht hk], trivial, rfl, rfl⟩
theorem does_len_map {t : TyI} {el : TypeId} {sz : Nat} {α : Type} {l : List α} {f : α → List D} (ht : mkTy P T = some t) (hk : t.kind = .slice el) (hx : e x = .d (.sl sz (l.map f))) : Does P dst (.call { callee := .builtin .len, args := #[x], argTypes := #[T] }) ty e β (.d (iD l.length)) [] [] := by
  have := does_len_sl (P := P) (dst := dst) (ty := ty) (β := β) ht hk hx
  rwa [List.length_map] at this
theorem does_len_nl {t : TyI} {el : TypeId} (ht : mkTy P T = some t) (hk : t.kind = .slice el) (hx : e x = .d .nl) : Does P dst (.call { callee := .builtin .len, args := #[x], argTypes := #[T] }) ty e β (.d (iD 0)) [] [] :=
  Does.of_run fun C γ _ ρ I w _ a hops o ho _ => by
    have h1 := (hops x (by simp [Op.operands, Call.operands])).2
    rw [hx] at h1
    have h1 : a.eval x = .slice none 0 0 := h1
    exact ⟨_, by simp [execOp, ho, resolve, invoke, builtin, Sem.run_bind, h1, run_len_slice ht hk], trivial, rfl, rfl⟩
theorem does_len_ow {t : TyI} {el : TypeId} {id n : Nat} (ht : mkTy P T = some t) (hk : t.kind = .slice el) (hx : e x = .ow id n) : Does P dst (.call { callee := .builtin .len, args := #[x], argTypes := #[T] }) ty e β (.d (iD n)) [] [] :=
  Does.of_run fun C γ _ ρ I w _ a hops o ho _ => by
    have h1 := (hops x (by simp [Op.operands, Call.operands])).2
    rw [hx] at h1
    obtain ⟨_, ad, c, h1, _⟩ := h1
    exact ⟨_, by simp [execOp, ho, resolve, invoke, builtin, Sem.run_bind, h1, run_len_slice ht hk], trivial, rfl, rfl⟩
theorem does_len_str {t : TyI} {s : ByteArray} (ht : mkTy P T = some t) (hk : t.kind = .str) (hx : e x = .d (strD s)) : Does P dst (.call { callee := .builtin .len, args := #[x], argTypes := #[T] }) ty e β (.d (iD s.size)) [] [] :=
  Does.of_run fun C γ _ ρ I w _ a hops o ho _ => by
    have h1 := (hops x (by simp [Op.operands, Call.operands])).2
    rw [hx] at h1
    have h1 := repA_sc h1
    obtain ⟨i, d, z, _, hu, _, _, _, _, _, hkd⟩ := mkTy_spec ht
    have hu2 : P.underlying T = some .string := by rw [hu, kind_str (hkd.symm.trans hk)]
    exact ⟨.int .i64 s.size, by simp [execOp, ho, resolve, invoke, builtin, Sem.run_bind, h1, Builtin.len_, run_underlying hu2, goInt], trivial, rfl, rfl⟩
theorem does_min {ts : Array TypeId} {a b : Int} (hx : e x = .d (iD a)) (hy : e y = .d (iD b)) : Does P dst (.call { callee := .builtin .min, args := #[x, y], argTypes := ts }) ty e β (.d (iD (if b < a then b else a))) [] [] :=
  Does.of_run fun C γ _ ρ I w _ ac hops o ho _ => by
    have h1 := (hops x (by simp [Op.operands, Call.operands])).2
    have h2 := (hops y (by simp [Op.operands, Call.operands])).2
    rw [hx] at h1
    rw [hy] at h2
    have h1 := repA_sc h1
    have h2 := repA_sc h2
    refine ⟨.int .i64 (if b < a then b else a), ?_, trivial, rfl, rfl⟩
    simp [execOp, ho, resolve, invoke, builtin, Sem.run_bind, h1, h2, Builtin.min_, Builtin.min2]
theorem does_makeFunc {f : Fn} {first captured : Array Operand} : Does P dst (.makeFunc f first captured) ty e β (.fn f (first.toList.map e) (captured.toList.map e)) [] [] :=
  Does.of_run fun C γ _ ρ I w _ a hops o ho _ => by
    obtain ⟨h1, h2⟩ := ops_rep (γ := γ) (ρ := ρ) (I := I) (w := w) (a := a) (e := e) (l := first.toList) fun y hy => hops y (by simp [Op.operands, Array.mem_toList_iff.1 hy])
    obtain ⟨h3, h4⟩ := ops_rep (γ := γ) (ρ := ρ) (I := I) (w := w) (a := a) (e := e) (l := captured.toList) fun y hy => hops y (by simp [Op.operands, Array.mem_toList_iff.1 hy])
    exact ⟨.func f (first.map a.eval) (captured.map a.eval), by simp [execOp, ho, Instr.makeFunc, Sem.run_bind], ⟨h1, h3⟩, _, _, rfl, by simpa using h2, by simpa using h4⟩
theorem bound_run {v : Value} {k : IntKind} {i : Nat} {y : Nat} (hv : v = .int k (i : Int)) (h : i ≤ y) (c : BoundsCode) (w : World) : (Instr.sliceBound v y c).run P w = .ok i w := by
  subst hv
  have : (0 : Int) ≤ i ∧ (i : Int) ≤ y := ⟨by omega, by omega⟩
  simp [Instr.sliceBound, Sem.run_bind, asIntOf, this, h]
theorem repD_sl {I : Nat → Prop} {w : World} {sz : Nat} {es : List (List D)} {ad : Option Addr} {n c : Nat} (h : RepD I w (.sl sz es) (.slice ad n c)) : n = es.length ∧ n ≤ c ∧ ∃ xs, RepR I w sz es xs ∧ (0 < n → ∃ g off, ad = some ⟨g, off, none⟩ ∧ I g ∧ ∀ (j : Nat) (u : Value), xs[j]? = some u → w.cell? ⟨g, off + j, none⟩ = some u) := by
  obtain ⟨ad', c', xs, h1, h2, h3, h4⟩ := h
  injection h1 with e1 e2 e3
  subst e1 e2 e3
  exact ⟨rfl, h2, xs, h3, h4⟩
/-- A part of a slice of data. -/
theorem slice_rep {I : Nat → Prop} {w : World} {sz : Nat} {es : List (List D)} {ad : Option Addr} {c l h : Nat} {n : Nat} (hr : RepD I w (.sl sz es) (.slice ad n c)) (h1 : l ≤ h) (h2 : h ≤ n) :
    RepD I w (.sl sz ((es.take h).drop l)) (.slice (if c = l then ad else ad.map (·.add (l * sz))) (h - l) (c - l)) := by
  obtain ⟨hn, hc, xs, hR, hg⟩ := repD_sl hr
  have hlen : ((es.take h).drop l).length = h - l := by rw [List.length_drop, List.length_take]; omega
  refine ⟨_, c - l, (xs.take (h * sz)).drop (l * sz), by rw [hlen], by rw [hlen]; omega, repR_drop l (repR_take h hR), fun h0 => ?_⟩
  rw [hlen] at h0
  obtain ⟨g, off, rfl, hI, hcell⟩ := hg (by omega)
  rw [if_neg (by omega)]
  refine ⟨g, off + l * sz, by simp [Addr.add_mid], hI, fun j u hu => ?_⟩
  rw [List.getElem?_drop, List.getElem?_take] at hu
  split at hu
  · have := hcell _ u hu
    rwa [Nat.add_assoc]
  · cases hu
theorem run_slice {t te : TyI} {el : TypeId} (ht : mkTy P T = some t) (hk : t.kind = .slice el) (hte : mkTy P el = some te) {ad : Option Addr} {c l h nn : Nat} {lo hi : Option Value} {k1 k2 : IntKind} (hlo : lo = some (.int k1 (l : Int)) ∨ (lo = none ∧ l = 0)) (hhi : hi = some (.int k2 (h : Int)) ∨ (hi = none ∧ h = nn))
    (h1 : l ≤ h) (h2 : h ≤ c) (w : World) : (Instr.sliceAt T (.slice ad nn c) lo hi none).run P w = .ok (.slice (if c = l then ad else ad.map (·.add (l * te.size))) (h - l) (c - l)) w := by
  obtain ⟨i, d, z, _, hu, _, _, _, _, _, hkd⟩ := mkTy_spec ht
  have hu2 : P.underlying T = some (.slice el) := by rw [hu, kind_slice (hkd.symm.trans hk)]
  have b1 : ∀ c', (Instr.sliceBound (.int k2 (h : Int)) c c').run P w = .ok h w := fun c' => bound_run rfl h2 c' w
  have b2 : ∀ c', (Instr.sliceBound (.int k1 (l : Int)) h c').run P w = .ok l w := fun c' => bound_run rfl h1 c' w
  rcases hlo with rfl | ⟨rfl, rfl⟩ <;> rcases hhi with rfl | ⟨rfl, rfl⟩ <;> simp [Instr.sliceAt, Instr.slice, Instr.sliceBounds, Sem.run_bind, run_underlying hu2, b1, b2, sizeOf_mkTy hte]
def loIs (e : Operand → A) (l : Nat) : Option Operand → Prop
  | none => l = 0
  | some x => ∃ k m, e x = .d (.sc (.int k m)) ∧ m = (l : Int)
def hiIs (e : Operand → A) (h n : Nat) : Option Operand → Prop
  | none => h = n
  | some x => ∃ k m, e x = .d (.sc (.int k m)) ∧ m = (h : Int)
theorem lo_val {ρ : Nat → Value} {I : Nat → Prop} {w : World} {a : Act} {l : Nat} {lo : Option Operand} (h : loIs e l lo) (hops : ∀ x ∈ lo.toList, RepA ρ I w (e x) (a.eval x)) : ∃ k1 : IntKind, lo.map a.eval = some (.int k1 (l : Int)) ∨ (lo.map a.eval = none ∧ l = 0) := by
  cases lo with
  | none => exact ⟨.i64, .inr ⟨rfl, h⟩⟩
  | some x =>
    obtain ⟨k, m, h1, rfl⟩ := h
    have := hops x (by simp)
    rw [h1] at this
    exact ⟨k, .inl (by rw [Option.map_some, repA_sc this])⟩
theorem hi_val {ρ : Nat → Value} {I : Nat → Prop} {w : World} {a : Act} {h n : Nat} {hi : Option Operand} (hh : hiIs e h n hi) (hops : ∀ x ∈ hi.toList, RepA ρ I w (e x) (a.eval x)) : ∃ k1 : IntKind, hi.map a.eval = some (.int k1 (h : Int)) ∨ (hi.map a.eval = none ∧ h = n) := by
  cases hi with
  | none => exact ⟨.i64, .inr ⟨rfl, hh⟩⟩
  | some x =>
    obtain ⟨k, m, h1, rfl⟩ := hh
    have := hops x (by simp)
    rw [h1] at this
    exact ⟨k, .inl (by rw [Option.map_some, repA_sc this])⟩
theorem does_slice {t te : TyI} {el : TypeId} {lo hi : Option Operand} {sz l h : Nat} {es : List (List D)} (ht : mkTy P T = some t) (hk : t.kind = .slice el) (hte : mkTy P el = some te) (hx : e x = .d (.sl sz es)) (hsz : te.size = sz) (hl : loIs e l lo) (hh : hiIs e h es.length hi) (h1 : l ≤ h) (h2 : h ≤ es.length) :
    Does P dst (.slice T x lo hi none) ty e β (.d (.sl sz ((es.take h).drop l))) [] [] :=
  Does.of_run fun C γ _ ρ I w _ a hops o ho _ => by
    have q1 := (hops x (by simp [Op.operands])).2
    rw [hx] at q1
    obtain ⟨ad, c, xs, q2, q3, q4, q5⟩ := q1
    obtain ⟨k1, v1⟩ := lo_val (a := a) hl fun y hy => (hops y (by cases lo <;> simp_all [Op.operands])).2
    obtain ⟨k2, v2⟩ := hi_val (a := a) hh fun y hy => (hops y (by cases hi <;> simp_all [Op.operands])).2
    have hrun := run_slice (P := P) ht hk hte (ad := ad) (c := c) (nn := es.length) v1 v2 h1 (by omega) w
    rw [hsz] at hrun
    refine ⟨_, ?_, trivial, slice_rep (n := es.length) ⟨ad, c, xs, rfl, q3, q4, q5⟩ h1 h2⟩
    simp only [execOp, ho, q2, Sem.run_bind, Option.map_none, hrun]
    rfl
theorem does_slice_nl {t te : TyI} {el : TypeId} {lo hi : Option Operand} (ht : mkTy P T = some t) (hk : t.kind = .slice el) (hte : mkTy P el = some te) (hx : e x = .d .nl) (hl : loIs e 0 lo) (hh : hiIs e 0 0 hi) :
    Does P dst (.slice T x lo hi none) ty e β (.d .nl) [] [] :=
  Does.of_run fun C γ _ ρ I w _ a hops o ho _ => by
    have q1 := (hops x (by simp [Op.operands])).2
    rw [hx] at q1
    have q2 : a.eval x = .slice none 0 0 := q1
    obtain ⟨k1, v1⟩ := lo_val (a := a) hl fun y hy => (hops y (by cases lo <;> simp_all [Op.operands])).2
    obtain ⟨k2, v2⟩ := hi_val (a := a) hh fun y hy => (hops y (by cases hi <;> simp_all [Op.operands])).2
    have hrun := run_slice (P := P) ht hk hte (ad := none) (c := 0) (nn := 0) v1 v2 (Nat.le_refl _) (Nat.le_refl _) w
    refine ⟨.slice none 0 0, ?_, trivial, rfl⟩
    simp only [execOp, ho, q2, Sem.run_bind, Option.map_none, hrun]
    rfl
theorem does_slice_str {t : TyI} {lo hi : Option Operand} {l h : Nat} {s : ByteArray} (ht : mkTy P T = some t) (hk : t.kind = .str) (hx : e x = .d (strD s)) (hl : loIs e l lo) (hh : hiIs e h s.size hi) (h1 : l ≤ h) (h2 : h ≤ s.size) :
    Does P dst (.slice T x lo hi none) ty e β (.d (strD (s.extract l h))) [] [] :=
  Does.of_run fun C γ _ ρ I w _ a hops o ho _ => by
    have q1 := (hops x (by simp [Op.operands])).2
    rw [hx] at q1
    have q1 := repA_sc q1
    obtain ⟨k1, v1⟩ := lo_val (a := a) hl fun y hy => (hops y (by cases lo <;> simp_all [Op.operands])).2
    obtain ⟨k2, v2⟩ := hi_val (a := a) hh fun y hy => (hops y (by cases hi <;> simp_all [Op.operands])).2
    obtain ⟨i, d, z, _, hu, _, _, _, _, _, hkd⟩ := mkTy_spec ht
    have hu2 : P.underlying T = some .string := by rw [hu, kind_str (hkd.symm.trans hk)]
    have b1 : ∀ c', (Instr.sliceBound (.int k2 (h : Int)) s.size c').run P w = .ok h w := fun c' => bound_run rfl h2 c' w
    have b2 : ∀ c', (Instr.sliceBound (.int k1 (l : Int)) h c').run P w = .ok l w := fun c' => bound_run rfl h1 c' w
    refine ⟨.string (s.extract l h), ?_, trivial, rfl, rfl⟩
    simp only [execOp, ho, q1, Sem.run_bind, Option.map_none]
    generalize lo.map a.eval = lo' at *
    generalize hi.map a.eval = hi' at *
    rcases v1 with rfl | ⟨rfl, rfl⟩ <;> rcases v2 with rfl | ⟨rfl, rfl⟩ <;> simp [Instr.sliceAt, Instr.slice, Instr.sliceBounds, Sem.run_bind, run_underlying hu2, b1, b2]
theorem does_index_str {t : TyI} {s : ByteArray} {i : Nat} {b : UInt8} (ht : mkTy P T = some t) (hk : t.kind = .str) (hx : e x = .d (strD s)) (hy : e y = .d (.sc (.int k n))) (hn : n = (i : Int)) (hb : s.data[i]? = some b) : Does P dst (.index T x y) ty e β (.d (u8D b)) [] [] :=
  Does.of_run fun C γ _ ρ I w _ a hops o ho _ => by
    have q1 := (hops x (by simp [Op.operands])).2
    have q2 := (hops y (by simp [Op.operands])).2
    rw [hx] at q1
    rw [hy] at q2
    have q1 := repA_sc q1
    have q2 := repA_sc q2
    subst hn
    obtain ⟨_, d, z, _, hu, _, _, _, _, _, hkd⟩ := mkTy_spec ht
    have hu2 : P.underlying T = some .string := by rw [hu, kind_str (hkd.symm.trans hk)]
    obtain ⟨hlt, hbe⟩ := Array.getElem?_eq_some_iff.1 hb
    have hsi : s[i]? = some b := by
      have hlt' : i < s.size := hlt
      rw [getElem?_pos s i hlt']
      exact congrArg some hbe
    refine ⟨.int .u8 b.toNat, ?_, trivial, rfl, rfl⟩
    simp [execOp, ho, q1, q2, Instr.index, asIntOf, Sem.run_bind, run_underlying hu2, hsi]
theorem part_run {te : TyI} {el : TypeId} (hte : mkTy P el = some te) {cs : Array Value} {off : Nat} (w : World) : (part el cs off).run P w = if te.row = true then .ok (.agg (cs.extract off (off + te.size))) w else (match cs[off]? with | some v => .ok v w | none => .halt (.stuck "part: no such cell") w) := by
  obtain ⟨i, d, z, _, hu, _, _, _, hrow, _⟩ := mkTy_spec hte
  unfold part
  rw [Sem.run_bind, run_isAgg hu, Result.andThen_ok, ← hrow]
  split
  · simp [Sem.run_bind, sizeOf_mkTy hte]
  · cases cs[off]? <;> simp
theorem does_field {t tf : TyI} {fs : List (Nat × Nat × Bool)} {f off size : Nat} {row : Bool} {cs : List D} {d : D} (ht : mkTy P T = some t) (hk : t.kind = .struct fs) (hf : fs[f]? = some (off, size, row)) (hrow : row = false) (hx : e x = .d (.ag cs)) (hd : cs[off]? = some d) : Does P dst (.field T x f) ty e β (.d d) [] [] :=
  Does.of_run fun C γ _ ρ I w _ a hops o ho _ => by
    have q1 := (hops x (by simp [Op.operands])).2
    rw [hx] at q1
    obtain ⟨us, q1, q2⟩ := q1
    obtain ⟨i, dd, z, _, hu, _, _, _, _, _, hkd⟩ := mkTy_spec ht
    obtain ⟨gs, rfl, rfl⟩ := kind_struct (hkd.symm.trans hk)
    obtain ⟨u, q3, q4, _⟩ := repC_get q2 hd
    rw [List.getElem?_map] at hf
    cases hg : gs.toList[f]? with
    | none => rw [hg] at hf; simp at hf
    | some fd =>
      rw [hg] at hf
      simp only [Option.map_some, Option.some.injEq, Prod.mk.injEq] at hf
      obtain ⟨rfl, rfl, hr⟩ := hf
      have hg2 : gs[f]? = some fd := by simpa using hg
      unfold rowT at hr
      rw [hrow] at hr
      cases hu3 : P.underlying fd.type with
      | none => rw [hu3] at hr; cases hr
      | some d3 =>
        have hisagg : (isAgg fd.type).run P w = .ok false w := by
          rw [run_isAgg hu3]
          rw [hu3] at hr
          simp only at hr
          rw [hr]
        have hu4 : us[fd.offset]? = some u := by simpa using q3
        refine ⟨u, ?_, trivial, q4⟩
        simp [execOp, ho, q1, Instr.field, Sem.run_bind, run_underlying hu, hg2, asAgg, part, hisagg, hu4]
end
end Go.Proofs.YtfkkamkhjbfjmaaDoor
