/-
  The pure layer: structs of plain cells held against each other; casts. No condition.
-/
import Derived.Test.YtfkkamkhjbfjmaaDoorPlText
import Derived.Laws.StructEq
namespace Go.Proofs.YtfkkamkhjbfjmaaDoor
set_option linter.unusedSimpArgs false
set_option linter.unusedVariables false
open Go.RowKit

theorem beq_cast (a b : Nat) : ((a : Int) == (b : Int)) = (a == b) := by
  rw [Bool.eq_iff_iff]; simp only [beq_iff_eq]; omega
theorem bne_cast (a b : Nat) : ((a : Int) != (b : Int)) = (a != b) := by unfold bne; rw [beq_cast]
theorem lt_cast (a b : Nat) : decide ((a : Int) < (b : Int)) = decide (a < b) := by
  rw [Bool.eq_iff_iff]; simp only [decide_eq_true_eq]; omega
theorem le_cast (a b : Nat) : decide ((a : Int) ≤ (b : Int)) = decide (a ≤ b) := by
  rw [Bool.eq_iff_iff]; simp only [decide_eq_true_eq]; omega
inductive Tag where
  | i | b | s
def tagsFrom (P : Program) : Nat → List Field → Option (List Tag)
  | _, [] => some []
  | k, f :: r => if f.name ≠ "_" ∧ f.offset = k then
      match P.underlying f.type, tagsFrom P (k + 1) r with
      | some (.int _), some l => some (.i :: l)
      | some .bool, some l => some (.b :: l)
      | some .string, some l => some (.s :: l)
      | _, _ => none
    else none
def tagsOf (P : Program) (T : TypeId) : Option (List Tag) := match P.underlying T with
  | some (.struct gs) => if P.stoodInHeld T = false ∧ P.eqGuardType P.depth T = false then tagsFrom P 0 gs.toList else none
  | _ => none
def eqOne : Tag → D → D → Option Bool
  | .i, .sc (.int k a), .sc (.int k' b) => if k = k' then some (a == b) else none
  | .b, .sc (.bool a), .sc (.bool b) => some (a == b)
  | .s, .sc (.string a), .sc (.string b) => some (a.toList == b.toList)
  | _, _, _ => none
def eqAll : List Tag → List D → List D → Option Bool
  | [], [], [] => some true
  | t :: ts, x :: xs, y :: ys => match eqOne t x y, eqAll ts xs ys with
    | some a, some b => some (a && b)
    | _, _ => none
  | _, _, _ => none
section
variable {P : Program} {fr : Nat} {dst : Option Nat} {ty : TypeId} {e : Operand → A} {β : Bx} {T T' : TypeId} {x y : Operand}
def TagOk (P : Program) (T : TypeId) : Tag → Prop
  | .i => ∃ k, P.underlying T = some (.int k)
  | .b => P.underlying T = some .bool
  | .s => P.underlying T = some .string
theorem eqOne_i {k k' : IntKind} {m n : Int} {r : Bool} (h : eqOne .i (.sc (.int k m)) (.sc (.int k' n)) = some r) : k = k' ∧ r = (m == n) := by
  have h : (if k = k' then some (m == n) else none) = some r := h
  by_cases hk : k = k'
  · rw [if_pos hk] at h; injection h with h; exact ⟨hk, h.symm⟩
  · rw [if_neg hk] at h; cases h
theorem eqOne_run {I : Nat → Prop} {w : World} {t : Tag} {x y : D} {u v : Value} {r : Bool} {T : TypeId} {d : Nat} (h : eqOne t x y = some r) (hx : RepD I w x u) (hy : RepD I w y v) (hT : TagOk P T t) : (Op.equalIn (d + 1) T u v).run P w = .ok r w := by
  cases x with
  | sc p =>
    cases y with
    | sc q =>
      obtain ⟨rfl, _⟩ := hx
      obtain ⟨rfl, _⟩ := hy
      cases t with
      | i =>
        cases u <;> cases v <;> first | (obtain ⟨rfl, rfl⟩ := eqOne_i h; obtain ⟨k', hk⟩ := hT; exact run_equalIn_int w d T _ k' _ _ hk) | cases h
      | b =>
        cases u <;> cases v <;> first | (injection h with h; subst h; exact run_equalIn_bool' w d T _ _ hT) | cases h
      | s =>
        cases u <;> cases v <;> first | (injection h with h; subst h; exact run_equalIn_string w d T _ _ hT) | cases h
    | _ => cases t <;> cases p <;> cases h
  | _ => cases t <;> cases h
theorem part_one {T : TypeId} {d : TypeDesc} (hu : P.underlying T = some d) (hd : d.isRow = false) {cs : Array Value} {k : Nat} {u : Value} (h : cs[k]? = some u) (w : World) : (part T cs k).run P w = .ok u w := by
  unfold part
  rw [Sem.run_bind, run_isAgg hu, hd]
  simp [h]
theorem eqAll_run {I : Nat → Prop} {w : World} {d : Nat} {us vs : Array Value} : ∀ (fs : List Field) (k : Nat) (ts : List Tag) (xs ys : List D) (b : Bool), tagsFrom P k fs = some ts → eqAll ts xs ys = some b → RepC I w true xs (us.toList.drop k) → RepC I w true ys (vs.toList.drop k) → (Op.eqFields (d + 1) us vs fs).run P w = .ok b w
  | [], k, ts, xs, ys, b, ht, he, hx, hy => by
    simp only [tagsFrom, Option.some.injEq] at ht
    subst ht
    cases xs <;> cases ys <;> simp [eqAll] at he
    subst he
    rfl
  | f :: fs, k, ts, xs, ys, b, ht, he, hx, hy => by
    unfold tagsFrom at ht
    split at ht
    · rename_i hf
      obtain ⟨hname, hoff⟩ := hf
      have key : ∀ (t : Tag) (l : List Tag), tagsFrom P (k + 1) fs = some l → TagOk P f.type t → eqAll (t :: l) xs ys = some b → (Op.eqFields (d + 1) us vs (f :: fs)).run P w = .ok b w := by
        intro t l hl hT he
        cases xs with
        | nil => simp [eqAll] at he
        | cons x xs =>
          cases ys with
          | nil => simp [eqAll] at he
          | cons y ys =>
            simp only [eqAll] at he
            split at he
            · rename_i a b' ha hb
              simp only [Option.some.injEq] at he
              subst he
              obtain ⟨u, us', hu, _, hxu, hxr⟩ := hx
              obtain ⟨v, vs', hv, _, hyv, hyr⟩ := hy
              have hu1 : us[k]? = some u := by
                have : (us.toList.drop k)[0]? = some u := by rw [hu]; rfl
                rw [List.getElem?_drop] at this
                simpa using this
              have hv1 : vs[k]? = some v := by
                have : (vs.toList.drop k)[0]? = some v := by rw [hv]; rfl
                rw [List.getElem?_drop] at this
                simpa using this
              have hu2 : us.toList.drop (k + 1) = us' := by
                have := congrArg (List.drop 1) hu
                rw [List.drop_drop] at this
                simpa using this
              have hv2 : vs.toList.drop (k + 1) = vs' := by
                have := congrArg (List.drop 1) hv
                rw [List.drop_drop] at this
                simpa using this
              have ih := eqAll_run (d := d) fs (k + 1) l xs ys b' hl hb (by rw [hu2]; exact hxr) (by rw [hv2]; exact hyr)
              have hd : ∃ dd, P.underlying f.type = some dd ∧ dd.isRow = false := by
                cases t with
                | i => obtain ⟨k', hk'⟩ := hT; exact ⟨_, hk', rfl⟩
                | b => exact ⟨_, hT, rfl⟩
                | s => exact ⟨_, hT, rfl⟩
              obtain ⟨dd, hd1, hd2⟩ := hd
              have h1 := eqOne_run (P := P) (w := w) (T := f.type) (d := d) ha hxu hyv hT
              unfold Op.eqFields
              rw [if_pos hname, hoff]
              simp only [Sem.run_bind, part_one hd1 hd2 hu1, part_one hd1 hd2 hv1, Result.andThen_ok, h1]
              cases a with
              | true => simpa using ih
              | false => simp
            · cases he
      split at ht
      · rename_i k' l hk hl
        simp only [Option.some.injEq] at ht
        subst ht
        exact key .i l hl ⟨k', hk⟩ he
      · rename_i l hk hl
        simp only [Option.some.injEq] at ht
        subst ht
        exact key .b l hl hk he
      · rename_i l hk hl
        simp only [Option.some.injEq] at ht
        subst ht
        exact key .s l hl hk he
      · cases ht
    · cases ht
theorem struct_eq_run {I : Nat → Prop} {w : World} {ts : List Tag} {xs ys : List D} {us vs : Array Value} {b : Bool} (ht : tagsOf P T = some ts) (he : eqAll ts xs ys = some b) (hx : RepC I w true xs us.toList) (hy : RepC I w true ys vs.toList) :
    (Op.equalIn 10000 T (.agg us) (.agg vs)).run P w = .ok b w ∧ P.eqGuardType P.depth T = false := by
  unfold tagsOf at ht
  split at ht
  · rename_i gs hu
    split at ht
    · rename_i hc
      have hf : P.fieldsOf T = gs := by unfold Program.fieldsOf; rw [hu]
      refine ⟨?_, hc.2⟩
      rw [run_equalIn_struct w 9999 T us vs (by rw [hf]; exact hu) hc.1, hf]
      exact eqAll_run (d := 9998) gs.toList 0 ts xs ys b ht he (by simpa using hx) (by simpa using hy)
    · cases ht
  · cases ht
theorem does_eqS {ts : List Tag} {xs ys : List D} {b : Bool} (hx : e x = .d (.ag xs)) (hy : e y = .d (.ag ys)) (ht : tagsOf P T = some ts) (he : eqAll ts xs ys = some b) : Does P dst (.binOp .eql T x y T') ty e β (.d (bD b)) [] [] :=
  Does.of_run fun C γ _ ρ I w _ a hops o ho _ => by
    have h1 := (hops x (by simp [Op.operands])).2
    have h2 := (hops y (by simp [Op.operands])).2
    rw [hx] at h1
    rw [hy] at h2
    obtain ⟨us, h1, r1⟩ := h1
    obtain ⟨vs, h2, r2⟩ := h2
    obtain ⟨q1, q2⟩ := struct_eq_run (P := P) (w := w) ht he r1 r2
    refine ⟨.bool b, ?_, trivial, rfl, rfl⟩
    simp only [execOp, ho, h1, h2, Sem.run_bind, run_eqGuard_agg w .eql T x y us vs q2, Result.andThen_ok, run_eql_struct, q1, Sem.run_pure]
theorem does_neS {ts : List Tag} {xs ys : List D} {b : Bool} (hx : e x = .d (.ag xs)) (hy : e y = .d (.ag ys)) (ht : tagsOf P T = some ts) (he : eqAll ts xs ys = some b) : Does P dst (.binOp .neq T x y T') ty e β (.d (bD (!b))) [] [] :=
  Does.of_run fun C γ _ ρ I w _ a hops o ho _ => by
    have h1 := (hops x (by simp [Op.operands])).2
    have h2 := (hops y (by simp [Op.operands])).2
    rw [hx] at h1
    rw [hy] at h2
    obtain ⟨us, h1, r1⟩ := h1
    obtain ⟨vs, h2, r2⟩ := h2
    obtain ⟨q1, q2⟩ := struct_eq_run (P := P) (w := w) ht he r1 r2
    refine ⟨.bool (!b), ?_, trivial, rfl, rfl⟩
    simp only [execOp, ho, h1, h2, Sem.run_bind, run_eqGuard_agg w .neq T x y us vs q2, Result.andThen_ok, run_neq_struct, q1, Sem.run_pure]
end
end Go.Proofs.YtfkkamkhjbfjmaaDoor
