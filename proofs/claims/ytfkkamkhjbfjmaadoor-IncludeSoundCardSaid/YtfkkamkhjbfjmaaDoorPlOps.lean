/-
  The pure layer: what each operation does that turns no memory. No condition.
-/
import Derived.Test.YtfkkamkhjbfjmaaDoorPlBody
import Derived.WalkLawsBesides
namespace Go.Proofs.YtfkkamkhjbfjmaaDoor
set_option linter.unusedSimpArgs false
set_option linter.unusedVariables false
open Go.RowKit

inductive TyK where
  | bool
  | int (k : IntKind)
  | str
  | slice (e : TypeId)
  | struct (fs : List (Nat × Nat × Bool))
  | array (n : Nat) (e : TypeId) (esz : Nat) (erow : Bool)
  | other
structure TyI where
  size : Nat
  bytes : Nat
  row : Bool
  zero : List D
  kind : TyK
def rowT (P : Program) (T : TypeId) : Bool := match P.underlying T with
  | some d => d.isRow
  | none => true
def kindT (P : Program) : TypeDesc → TyK
  | .bool => .bool
  | .int k => .int k
  | .string => .str
  | .slice e => .slice e
  | .struct fs => .struct (fs.toList.map fun f => (f.offset, P.cellsOf f.type, rowT P f.type))
  | .array n e => .array n e (P.cellsOf e) (rowT P e)
  | _ => .other
def cellD : Value → D
  | .slice none 0 0 => .nl
  | v => .sc v
def mkTy (P : Program) (T : TypeId) : Option TyI := match P.info? T, P.underlying T with
  | some i, some d => match i.zero with
    | some z => if z.cells.all (·.oneCell') = true ∧ z.cells.size = i.size then some { size := i.size, bytes := i.bytes, row := d.isRow, zero := z.cells.toList.map cellD, kind := kindT P d } else none
    | none => none
  | _, _ => none
theorem mkTy_all {P : Program} {T : TypeId} {t : TyI} (h : mkTy P T = some t) : ∃ i d z, P.info? T = some i ∧ P.underlying T = some d ∧ i.zero = some z ∧ t.size = i.size ∧ t.bytes = i.bytes ∧ t.row = d.isRow ∧ t.zero = z.cells.toList.map cellD ∧ t.kind = kindT P d ∧ z.cells.all (·.oneCell') = true ∧ z.cells.size = i.size := by
  unfold mkTy at h
  split at h
  · rename_i i d hi hd
    split at h
    · rename_i z hz
      split at h
      · rename_i hc
        simp only [Option.some.injEq] at h
        subst h
        exact ⟨i, d, z, hi, hd, hz, rfl, rfl, rfl, rfl, rfl, hc.1, hc.2⟩
      · cases h
    · simp at h
  · simp at h
theorem mkTy_spec {P : Program} {T : TypeId} {t : TyI} (h : mkTy P T = some t) : ∃ i d z, P.info? T = some i ∧ P.underlying T = some d ∧ i.zero = some z ∧ t.size = i.size ∧ t.bytes = i.bytes ∧ t.row = d.isRow ∧ t.zero = z.cells.toList.map cellD ∧ t.kind = kindT P d := by
  obtain ⟨i, d, z, h1, h2, h3, h4, h5, h6, h7, h8, _⟩ := mkTy_all h
  exact ⟨i, d, z, h1, h2, h3, h4, h5, h6, h7, h8⟩
theorem kind_slice {P : Program} {d : TypeDesc} {e : TypeId} (h : kindT P d = .slice e) : d = .slice e := by cases d <;> simp_all [kindT]
theorem kind_int {P : Program} {d : TypeDesc} {k : IntKind} (h : kindT P d = .int k) : d = .int k := by cases d <;> simp_all [kindT]
theorem kind_bool {P : Program} {d : TypeDesc} (h : kindT P d = .bool) : d = .bool := by cases d <;> simp_all [kindT]
theorem kind_str {P : Program} {d : TypeDesc} (h : kindT P d = .str) : d = .string := by cases d <;> simp_all [kindT]
theorem kind_struct {P : Program} {d : TypeDesc} {fs : List (Nat × Nat × Bool)} (h : kindT P d = .struct fs) : ∃ gs, d = .struct gs ∧ fs = gs.toList.map fun f => (f.offset, P.cellsOf f.type, rowT P f.type) := by
  cases d <;> simp_all [kindT]
theorem kind_array {P : Program} {d : TypeDesc} {n : Nat} {e : TypeId} {esz : Nat} {er : Bool} (h : kindT P d = .array n e esz er) : d = .array n e ∧ esz = P.cellsOf e ∧ er = rowT P e := by
  cases d with
  | array n' e' =>
    simp only [kindT, TyK.array.injEq] at h
    obtain ⟨rfl, rfl, h3, h4⟩ := h
    exact ⟨rfl, h3.symm, h4.symm⟩
  | _ => simp [kindT] at h

section
variable {P : Program} {dst : Option Nat} {op : Op} {ty : TypeId} {e : Operand → A} {β : Bx} {v : A} {rd : List Nat}
theorem Does.of_run (h : ∀ (C : Ctx) (γ : Bx), Agreeing β γ rd → ∀ (ρ : Nat → Value) (I : Nat → Prop) (w : World), Mem C γ ρ I w → ∀ a : Act,
    (∀ x ∈ op.operands.toList, (e x).inB γ ∧ RepA ρ I w (e x) (a.eval x)) → ∀ o : Oper, o.op = op → o.type = ty → ∃ vv, (execOp a.eval o).run P w = .ok (.value vv) w ∧ v.inB γ ∧ RepA ρ I w v vv) : Does P dst op ty e β v [] rd := by
  intro C γ hag ρ I w hm a hx o ho hd ht K Q hK
  obtain ⟨vv, hr, h1, h2⟩ := h C γ (by simpa using hag) ρ I w hm a hx o ho ht
  unfold Oper.wp
  rw [hr, Oper.upon_value, hd]
  exact hK vv ρ I w (by simpa using hm) (Ext.refl _ _ _ _) (by simpa using h1) h2
theorem does_move {x : Operand} (hv : e x = v) : Does P dst (.move x) ty e β v [] [] :=
  Does.of_run fun C γ _ ρ I w _ a hx o ho _ => by
    have := hx x (by simp [Op.operands])
    exact ⟨a.eval x, by simp [execOp, ho], by rw [← hv]; exact this.1, by rw [← hv]; exact this.2⟩
theorem does_assign {x : Operand} (hv : e x = v) : Does P dst (.assign x) ty e β v [] [] :=
  Does.of_run fun C γ _ ρ I w _ a hx o ho _ => by
    have := hx x (by simp [Op.operands])
    exact ⟨a.eval x, by simp [execOp, ho], by rw [← hv]; exact this.1, by rw [← hv]; exact this.2⟩
theorem pick_val {ρ : Nat → Value} {I : Nat → Prop} {w : World} {x : Bool} {v' : A} {p u : Value} (hg : gdOk x v') (hp : stripA v' = .d (.sc p)) (hx : x = true) (hr : RepA ρ I w v' u) : u = p ∧ p.oneCell' = true := by
  cases v' with
  | gd y v' =>
    have := repA_gd_t hr (hg hx)
    have hp : v' = .d (.sc p) := hp
    rw [hp] at this
    exact this
  | d d0 =>
    have hp : A.d d0 = A.d (.sc p) := hp
    injection hp with hp
    subst hp
    exact hr
  | _ => cases hp
theorem does_pick {c x y : Operand} {b : Bool} {p q : Value} (hc : e c = .d (bD b)) (hp : stripA (e x) = .d (.sc p)) (hq : stripA (e y) = .d (.sc q)) (gp : gdOk b (e x)) (gq : gdOk (!b) (e y)) : Does P dst (.pick c x y) ty e β (.d (.sc (if b = true then p else q))) [] [] :=
  Does.of_run fun C γ _ ρ I w _ a hx o ho _ => by
    have h1 := (hx c (by simp [Op.operands])).2
    have h2 := (hx x (by simp [Op.operands])).2
    have h3 := (hx y (by simp [Op.operands])).2
    rw [hc] at h1
    have h1 := repA_sc h1
    cases b with
    | true =>
      obtain ⟨e1, e2⟩ := pick_val gp hp rfl h2
      exact ⟨a.eval x, by simp [execOp, ho, h1, asBool, Sem.run_bind], trivial, e1, e2⟩
    | false =>
      obtain ⟨e1, e2⟩ := pick_val gq hq rfl h3
      exact ⟨a.eval y, by simp [execOp, ho, h1, asBool, Sem.run_bind], trivial, e1, e2⟩
theorem does_and {c x y : Operand} {b p : Bool} (hc : e c = .d (bD b)) (hp : stripA (e x) = .d (bD p)) (hq : e y = .d (bD false)) (gp : gdOk b (e x)) : Does P dst (.pick c x y) ty e β (.d (bD (b && p))) [] [] := by
  have := does_pick (P := P) (dst := dst) (ty := ty) (β := β) hc hp (by rw [hq]; rfl) gp (by rw [hq]; trivial)
  have e1 : (if b = true then Value.bool p else Value.bool false) = .bool (b && p) := by cases b <;> rfl
  rwa [e1] at this
theorem does_or {c x y : Operand} {b p : Bool} (hc : e c = .d (bD b)) (hp : e x = .d (bD true)) (hq : stripA (e y) = .d (bD p)) (gq : gdOk (!b) (e y)) : Does P dst (.pick c x y) ty e β (.d (bD (b || p))) [] [] := by
  have := does_pick (P := P) (dst := dst) (ty := ty) (β := β) hc (by rw [hp]; rfl) hq (by rw [hp]; trivial) gq
  have e1 : (if b = true then Value.bool true else Value.bool p) = .bool (b || p) := by cases b <;> rfl
  rwa [e1] at this
theorem does_pickF {c x y : Operand} {b : Bool} (hc : e c = .d (bD b)) (hb : b = false) (hy : e y = v) : Does P dst (.pick c x y) ty e β v [] [] :=
  Does.of_run fun C γ _ ρ I w _ a hx o ho _ => by
    have h1 := (hx c (by simp [Op.operands])).2
    have h3 := hx y (by simp [Op.operands])
    rw [hc] at h1
    have h1 := repA_sc h1
    subst hb
    rw [hy] at h3
    exact ⟨a.eval y, by simp [execOp, ho, h1, asBool, Sem.run_bind], h3.1, h3.2⟩
theorem does_pickT {c x y : Operand} {b : Bool} (hc : e c = .d (bD b)) (hb : b = true) (hy : e x = v) : Does P dst (.pick c x y) ty e β v [] [] :=
  Does.of_run fun C γ _ ρ I w _ a hx o ho _ => by
    have h1 := (hx c (by simp [Op.operands])).2
    have h3 := hx x (by simp [Op.operands])
    rw [hc] at h1
    have h1 := repA_sc h1
    subst hb
    rw [hy] at h3
    exact ⟨a.eval x, by simp [execOp, ho, h1, asBool, Sem.run_bind], h3.1, h3.2⟩
def bitV (op : BinOp) (k : IntKind) (x y : Int) : Int := match op with
  | .and => k.wrap (BitVec.ofInt k.bits x &&& BitVec.ofInt k.bits y).toNat
  | .or => k.wrap (BitVec.ofInt k.bits x ||| BitVec.ofInt k.bits y).toNat
  | .xor => k.wrap (BitVec.ofInt k.bits x ^^^ BitVec.ofInt k.bits y).toNat
  | _ => k.wrap (BitVec.ofInt k.bits x &&& ~~~ (BitVec.ofInt k.bits y)).toNat
/-- Two whole numbers of a kind: a condition, the value. -/
def intV (op : BinOp) (k : IntKind) (x y : Int) : Prop × Value := match op with
  | .add => (True, .int k (k.wrap (x + y)))
  | .sub => (True, .int k (k.wrap (x - y)))
  | .mul => (True, .int k (k.wrap (x * y)))
  | .quo => (y ≠ 0, .int k (k.wrap (x.tdiv y)))
  | .rem => (y ≠ 0, .int k (x.tmod y))
  | .and => (True, .int k (bitV .and k x y))
  | .or => (True, .int k (bitV .or k x y))
  | .xor => (True, .int k (bitV .xor k x y))
  | .andNot => (True, .int k (bitV .andNot k x y))
  | .shl => (0 ≤ y, .int k (k.wrap (x * 2 ^ (min y.toNat k.bits))))
  | .shr => (0 ≤ y, .int k (x.fdiv (2 ^ (min y.toNat k.bits))))
  | .eql => (True, .bool (x == y))
  | .neq => (True, .bool (x != y))
  | .lss => (True, .bool (decide (x < y)))
  | .leq => (True, .bool (decide (x ≤ y)))
  | .gtr => (True, .bool (decide (x > y)))
  | .geq => (True, .bool (decide (x ≥ y)))
theorem one_intV (op : BinOp) (k : IntKind) (x y : Int) : (intV op k x y).2.oneCell' = true := by cases op <;> rfl
theorem does_int {bo : BinOp} {T T' : TypeId} {x y : Operand} {k : IntKind} {m n : Int} (hx : e x = .d (.sc (.int k m))) (hy : e y = .d (.sc (.int k n))) (hs : (intV bo k m n).1) : Does P dst (.binOp bo T x y T') ty e β (.d (.sc (intV bo k m n).2)) [] [] :=
  Does.of_run fun C γ _ ρ I w _ a hops o ho _ => by
    have h1 := (hops x (by simp [Op.operands])).2
    have h2 := (hops y (by simp [Op.operands])).2
    rw [hx] at h1
    rw [hy] at h2
    have h1 := repA_sc h1
    have h2 := repA_sc h2
    refine ⟨(intV bo k m n).2, ?_, trivial, rfl, one_intV _ _ _ _⟩
    unfold execOp
    simp only [ho, h1, h2]
    cases bo <;> first
      | (simp [eqGuard, binOp, Op.intArith, Op.intBits, Op.intCmp, intV, Sem.run_bind, bitV]; done)
      | (have hs : n ≠ 0 := hs; simp [eqGuard, binOp, Op.intDiv, intV, Sem.run_bind, hs]; done)
      | (have hs : 0 ≤ n := hs; simp [eqGuard, binOp, Op.shift, intV, Sem.run_bind, show ¬ n < 0 by omega]; done)
/-- A shift: the second number may be of another kind. -/
theorem does_shift {bo : BinOp} {T T' : TypeId} {x y : Operand} {k k' : IntKind} {m n : Int} (hx : e x = .d (.sc (.int k m))) (hy : e y = .d (.sc (.int k' n))) (hb : bo = .shl ∨ bo = .shr) (hs : 0 ≤ n) : Does P dst (.binOp bo T x y T') ty e β (.d (.sc (intV bo k m n).2)) [] [] :=
  Does.of_run fun C γ _ ρ I w _ a hops o ho _ => by
    have h1 := (hops x (by simp [Op.operands])).2
    have h2 := (hops y (by simp [Op.operands])).2
    rw [hx] at h1
    rw [hy] at h2
    have h1 := repA_sc h1
    have h2 := repA_sc h2
    refine ⟨(intV bo k m n).2, ?_, trivial, rfl, one_intV _ _ _ _⟩
    unfold execOp
    simp only [ho, h1, h2]
    rcases hb with rfl | rfl <;> simp [eqGuard, binOp, Op.shift, intV, Sem.run_bind, show ¬ n < 0 by omega]
theorem wrap64_of {n : Int} (h : -9223372036854775808 ≤ n) (h2 : n ≤ 9223372036854775807) : IntKind.i64.wrap n = n := by
  unfold IntKind.wrap
  simp only [IntKind.bits, IntKind.signed]
  simp
  split <;> omega
theorem does_add {T T' : TypeId} {x y : Operand} {m n : Int} (hx : e x = .d (iD m)) (hy : e y = .d (iD n)) (h : -9223372036854775808 ≤ m + n) (h2 : m + n ≤ 9223372036854775807) : Does P dst (.binOp .add T x y T') ty e β (.d (iD (m + n))) [] [] := by
  have := does_int (P := P) (dst := dst) (ty := ty) (β := β) (bo := .add) (T := T) (T' := T') hx hy trivial
  unfold intV at this
  simp only [wrap64_of h h2] at this
  exact this
theorem does_sub {T T' : TypeId} {x y : Operand} {m n : Int} (hx : e x = .d (iD m)) (hy : e y = .d (iD n)) (h : -9223372036854775808 ≤ m - n) (h2 : m - n ≤ 9223372036854775807) : Does P dst (.binOp .sub T x y T') ty e β (.d (iD (m - n))) [] [] := by
  have := does_int (P := P) (dst := dst) (ty := ty) (β := β) (bo := .sub) (T := T) (T' := T') hx hy trivial
  unfold intV at this
  simp only [wrap64_of h h2] at this
  exact this
theorem does_mul {T T' : TypeId} {x y : Operand} {m n : Int} (hx : e x = .d (iD m)) (hy : e y = .d (iD n)) (h : -9223372036854775808 ≤ m * n) (h2 : m * n ≤ 9223372036854775807) : Does P dst (.binOp .mul T x y T') ty e β (.d (iD (m * n))) [] [] := by
  have := does_int (P := P) (dst := dst) (ty := ty) (β := β) (bo := .mul) (T := T) (T' := T') hx hy trivial
  unfold intV at this
  simp only [wrap64_of h h2] at this
  exact this
/-- A quotient of numbers that are not negative. -/
theorem does_quo {T T' : TypeId} {x y : Operand} {m n : Nat} (hx : e x = .d (iD m)) (hy : e y = .d (iD n)) (h : 0 < n) (h2 : m ≤ 9223372036854775807) : Does P dst (.binOp .quo T x y T') ty e β (.d (iD ((m / n : Nat) : Int))) [] [] := by
  have := does_int (P := P) (dst := dst) (ty := ty) (β := β) (bo := .quo) (T := T) (T' := T') hx hy (show (n : Int) ≠ 0 by omega)
  unfold intV at this
  have h3 : m / n ≤ m := Nat.div_le_self _ _
  have h5 : IntKind.i64.wrap ((m / n : Nat) : Int) = ((m / n : Nat) : Int) := by
    generalize m / n = q at *
    exact wrap64_of (by omega) (by omega)
  have h4 : (m : Int).tdiv n = ((m / n : Nat) : Int) := by rw [Int.tdiv_eq_ediv_of_nonneg (by omega)]; simp
  simp only [h4, h5] at this
  exact this
theorem does_rem {T T' : TypeId} {x y : Operand} {m n : Nat} (hx : e x = .d (iD m)) (hy : e y = .d (iD n)) (h : 0 < n) : Does P dst (.binOp .rem T x y T') ty e β (.d (iD ((m % n : Nat) : Int))) [] [] := by
  have := does_int (P := P) (dst := dst) (ty := ty) (β := β) (bo := .rem) (T := T) (T' := T') hx hy (show (n : Int) ≠ 0 by omega)
  unfold intV at this
  have h4 : (m : Int).tmod n = ((m % n : Nat) : Int) := by rw [Int.tmod_eq_emod_of_nonneg (by omega)]; simp
  simp only [h4] at this
  exact this
def strV (op : BinOp) (x y : ByteArray) : Option Value := match op with
  | .eql => some (.bool (x.toList == y.toList))
  | .neq => some (.bool (!(x.toList == y.toList)))
  | .lss => some (.bool (Op.bytesLess x.toList y.toList))
  | .leq => some (.bool (Op.bytesLess x.toList y.toList || x.toList == y.toList))
  | .gtr => some (.bool (!(Op.bytesLess x.toList y.toList || x.toList == y.toList)))
  | .geq => some (.bool (!(Op.bytesLess x.toList y.toList)))
  | _ => none
theorem does_str {bo : BinOp} {T T' : TypeId} {x y : Operand} {m n : ByteArray} {b : Value} (hx : e x = .d (strD m)) (hy : e y = .d (strD n)) (hs : strV bo m n = some b) : Does P dst (.binOp bo T x y T') ty e β (.d (.sc b)) [] [] :=
  Does.of_run fun C γ _ ρ I w _ a hops o ho _ => by
    have h1 := (hops x (by simp [Op.operands])).2
    have h2 := (hops y (by simp [Op.operands])).2
    rw [hx] at h1
    rw [hy] at h2
    have h1 := repA_sc h1
    have h2 := repA_sc h2
    refine ⟨b, ?_, trivial, rfl, ?_⟩
    · unfold execOp
      simp only [ho, h1, h2]
      cases bo <;> simp [strV] at hs <;> subst hs <;> simp [eqGuard, binOp, Op.stringOp, Sem.run_bind]
    · cases bo <;> simp [strV] at hs <;> subst hs <;> rfl
theorem does_cat {T T' : TypeId} {x y : Operand} {m n : ByteArray} (hx : e x = .d (strD m)) (hy : e y = .d (strD n)) (hs : m.size + n.size ≤ 9223372036854775807) : Does P dst (.binOp .add T x y T') ty e β (.d (strD (m ++ n))) [] [] :=
  Does.of_run fun C γ _ ρ I w _ a hops o ho _ => by
    have h1 := (hops x (by simp [Op.operands])).2
    have h2 := (hops y (by simp [Op.operands])).2
    rw [hx] at h1
    rw [hy] at h2
    have h1 := repA_sc h1
    have h2 := repA_sc h2
    refine ⟨.string (m ++ n), ?_, trivial, rfl, rfl⟩
    unfold execOp
    simp only [ho, h1, h2]
    have hc : ¬ (((m.size + n.size : Nat) : Int) > IntKind.i64.max) := by
      simp only [IntKind.max, IntKind.signed, IntKind.bits]
      simp
      omega
    simp only [eqGuard, binOp, Op.stringOp, Sem.run_bind, if_neg hc]
    simp
theorem run_equal_bool {T : TypeId} (h : P.underlying T = some .bool) (x y : Bool) (w : World) : (Op.equal T (.bool x) (.bool y)).run P w = .ok (x == y) w := by
  unfold Op.equal Op.maxDepth Op.equalIn
  simp [Sem.run_bind, run_underlying h]
theorem does_beq {bo : BinOp} {T T' : TypeId} {t : TyI} {x y : Operand} {m n : Bool} (ht : mkTy P T = some t) (hk : t.kind = .bool) (hx : e x = .d (bD m)) (hy : e y = .d (bD n)) (hb : bo = .eql) : Does P dst (.binOp bo T x y T') ty e β (.d (bD (m == n))) [] [] :=
  Does.of_run fun C γ _ ρ I w _ a hops o ho _ => by
    obtain ⟨i, d, z, _, hd, _, _, _, _, _, hkd⟩ := mkTy_spec ht
    have hd2 : P.underlying T = some .bool := by rw [hd, kind_bool (hkd.symm.trans hk)]
    have h1 := (hops x (by simp [Op.operands])).2
    have h2 := (hops y (by simp [Op.operands])).2
    rw [hx] at h1
    rw [hy] at h2
    have h1 := repA_sc h1
    have h2 := repA_sc h2
    subst hb
    refine ⟨.bool (m == n), ?_, trivial, rfl, rfl⟩
    unfold execOp
    simp only [ho, h1, h2]
    simp [eqGuard, binOp, Sem.run_bind, run_equal_bool hd2]
theorem does_bne {bo : BinOp} {T T' : TypeId} {t : TyI} {x y : Operand} {m n : Bool} (ht : mkTy P T = some t) (hk : t.kind = .bool) (hx : e x = .d (bD m)) (hy : e y = .d (bD n)) (hb : bo = .neq) : Does P dst (.binOp bo T x y T') ty e β (.d (bD (m != n))) [] [] :=
  Does.of_run fun C γ _ ρ I w _ a hops o ho _ => by
    obtain ⟨i, d, z, _, hd, _, _, _, _, _, hkd⟩ := mkTy_spec ht
    have hd2 : P.underlying T = some .bool := by rw [hd, kind_bool (hkd.symm.trans hk)]
    have h1 := (hops x (by simp [Op.operands])).2
    have h2 := (hops y (by simp [Op.operands])).2
    rw [hx] at h1
    rw [hy] at h2
    have h1 := repA_sc h1
    have h2 := repA_sc h2
    subst hb
    refine ⟨.bool (m != n), ?_, trivial, rfl, rfl⟩
    unfold execOp
    simp only [ho, h1, h2]
    simp [eqGuard, binOp, Sem.run_bind, run_equal_bool hd2, bne]
theorem does_not {T : TypeId} {x : Operand} {b : Bool} (hx : e x = .d (bD b)) : Does P dst (.unOp .not T x) ty e β (.d (bD (!b))) [] [] :=
  Does.of_run fun C γ _ ρ I w _ a hops o ho _ => by
    have h1 := (hops x (by simp [Op.operands])).2
    rw [hx] at h1
    have h1 := repA_sc h1
    refine ⟨.bool (!b), ?_, trivial, rfl, rfl⟩
    simp [execOp, ho, h1, Op.unary, Sem.run_bind]
theorem does_neg {T : TypeId} {x : Operand} {k : IntKind} {n : Int} (hx : e x = .d (.sc (.int k n))) : Does P dst (.unOp .neg T x) ty e β (.d (.sc (.int k (k.wrap (0 - n))))) [] [] :=
  Does.of_run fun C γ _ ρ I w _ a hops o ho _ => by
    have h1 := (hops x (by simp [Op.operands])).2
    rw [hx] at h1
    have h1 := repA_sc h1
    refine ⟨.int k (k.wrap (0 - n)), ?_, trivial, rfl, rfl⟩
    simp [execOp, ho, h1, Op.unary, Op.intArith, Sem.run_bind]
theorem does_conv_int {S T : TypeId} {s t : TyI} {x : Operand} {k k' : IntKind} {n : Int} (hs : mkTy P S = some s) (ht : mkTy P T = some t) (hk : t.kind = .int k') (hx : e x = .d (.sc (.int k n))) : Does P dst (.convert S T x) ty e β (.d (.sc (.int k' (k'.wrap n)))) [] [] :=
  Does.of_run fun C γ _ ρ I w _ a hops o ho _ => by
    obtain ⟨i, d, z, _, hd, _, _, _, _, _, hkd⟩ := mkTy_spec ht
    obtain ⟨i', d', z', _, hd', _, _, _, _, _, hkd'⟩ := mkTy_spec hs
    have hd2 : P.underlying T = some (.int k') := by rw [hd, kind_int (hkd.symm.trans hk)]
    have h1 := (hops x (by simp [Op.operands])).2
    rw [hx] at h1
    have h1 := repA_sc h1
    refine ⟨.int k' (k'.wrap n), ?_, trivial, rfl, rfl⟩
    unfold execOp
    simp only [ho, h1]
    simp [convert, Sem.run_bind, run_underlying hd2, run_underlying hd', Conv.intToInt]
theorem does_conv_i64 {S T : TypeId} {s t : TyI} {x : Operand} {k : IntKind} {n : Int} (hs : mkTy P S = some s) (ht : mkTy P T = some t) (hk : t.kind = .int .i64) (hx : e x = .d (.sc (.int k n))) (h : -9223372036854775808 ≤ n) (h2 : n ≤ 9223372036854775807) : Does P dst (.convert S T x) ty e β (.d (iD n)) [] [] := by
  have := does_conv_int (P := P) (dst := dst) (ty := ty) (β := β) hs ht hk hx
  rwa [wrap64_of h h2] at this
theorem does_conv_str {S T : TypeId} {s t : TyI} {x : Operand} {n : ByteArray} (hs : mkTy P S = some s) (ht : mkTy P T = some t) (hk : t.kind = .str) (hx : e x = .d (strD n)) : Does P dst (.convert S T x) ty e β (.d (strD n)) [] [] :=
  Does.of_run fun C γ _ ρ I w _ a hops o ho _ => by
    obtain ⟨i, d, z, _, hd, _, _, _, _, _, hkd⟩ := mkTy_spec ht
    obtain ⟨i', d', z', _, hd', _, _, _, _, _, hkd'⟩ := mkTy_spec hs
    have hd2 : P.underlying T = some .string := by rw [hd, kind_str (hkd.symm.trans hk)]
    have h1 := (hops x (by simp [Op.operands])).2
    rw [hx] at h1
    have h1 := repA_sc h1
    refine ⟨.string n, ?_, trivial, rfl, rfl⟩
    unfold execOp
    simp only [ho, h1]
    simp [convert, Sem.run_bind, run_underlying hd2, run_underlying hd']
theorem repC_get {I : Nat → Prop} {w : World} {o : Bool} : ∀ {ds : List D} {l : List Value} {i : Nat} {d : D}, RepC I w o ds l → ds[i]? = some d → ∃ u, l[i]? = some u ∧ RepD I w d u ∧ (o = true → d.one = true)
  | d0 :: ds, _, 0, d, ⟨u, us, rfl, ho, hd, _⟩, h => by simp at h; subst h; exact ⟨u, rfl, hd, ho⟩
  | d0 :: ds, _, i + 1, d, ⟨u, us, rfl, ho, hd, hr⟩, h => by
    obtain ⟨x, h1, h2⟩ := repC_get hr (by simpa using h)
    exact ⟨x, by simpa using h1, h2⟩
theorem repC_len {I : Nat → Prop} {w : World} {o : Bool} : ∀ {ds : List D} {l : List Value}, RepC I w o ds l → l.length = ds.length
  | [], _, h => by cases h; rfl
  | d0 :: ds, _, ⟨u, us, rfl, ho, hd, hr⟩ => by simp [repC_len hr]
theorem does_extract {x : Operand} {vs : List D} {i : Nat} {d : D} (hx : e x = .d (.tu vs)) (hi : vs[i]? = some d) : Does P dst (.extract x i) ty e β (.d d) [] [] :=
  Does.of_run fun C γ _ ρ I w _ a hops o ho _ => by
    have h1 := (hops x (by simp [Op.operands])).2
    rw [hx] at h1
    obtain ⟨us, h1, h2⟩ := h1
    obtain ⟨u, h3, h4, _⟩ := repC_get h2 hi
    refine ⟨u, ?_, trivial, h4⟩
    have h3 : us[i]? = some u := by simpa using h3
    simp [execOp, ho, h1, Instr.extract, h3, Sem.run_bind]
end
end Go.Proofs.YtfkkamkhjbfjmaaDoor
