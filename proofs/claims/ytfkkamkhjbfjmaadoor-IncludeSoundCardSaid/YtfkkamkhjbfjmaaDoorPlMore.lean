/-
  The pure layer: own rows, literals, appends, texts. No condition.
-/
import Derived.Test.YtfkkamkhjbfjmaaDoorPlTurn
namespace Go.Proofs.YtfkkamkhjbfjmaaDoor
set_option linter.unusedSimpArgs false
set_option linter.unusedVariables false
open Go.RowKit

theorem foldl_set (off : Nat) : ∀ (l : List Value) (j : Nat) (cs : List Value), off + j + l.length ≤ cs.length →
    ((l.zipIdx j).foldl (fun (cs : Array Value) (p : Value × Nat) => cs.setIfInBounds (off + p.2) p.1) cs.toArray) = (cs.take (off + j) ++ l ++ cs.drop (off + j + l.length)).toArray
  | [], j, cs, h => by simp
  | v :: l, j, cs, h => by
    have h' : off + j < cs.length := by simp only [List.length_cons] at h; omega
    have e : cs.toArray.setIfInBounds (off + j) v = (cs.set (off + j) v).toArray := by simp
    rw [List.zipIdx_cons, List.foldl_cons]
    simp only []
    rw [e, foldl_set off l (j + 1) _ (by simp only [List.length_cons, List.length_set] at h ⊢; omega)]
    have e1 : (cs.set (off + j) v).take (off + (j + 1)) = cs.take (off + j) ++ [v] := by
      rw [← Nat.add_assoc, List.take_add_one, List.getElem?_set_self h', List.take_set_of_le (Nat.le_refl _)]
      rfl
    have e2 : (cs.set (off + j) v).drop (off + (j + 1) + l.length) = cs.drop (off + j + (v :: l).length) := by
      rw [List.drop_set_of_lt (by omega), List.length_cons]
      congr 1
      omega
    rw [e1, e2]
    simp
theorem fill_step (place : Nat → Option (Nat × Nat)) (base : List Value) (i : Nat) (v : Value) (rest : List (Nat × Value)) (off size : Nat) (h : place i = some (off, size)) (hv : v.cells.size = size) (hb : off + size ≤ base.length) :
    Instr.fill place base.toArray ((i, v) :: rest) = Instr.fill place (putAt base off v.cells.toList).toArray rest := by
  have := foldl_set off v.cells.toList 0 base (by simp; omega)
  have e : (v.cells.zipIdx.foldl (fun (cs : Array Value) (p : Value × Nat) => cs.setIfInBounds (off + p.2) p.1) base.toArray) = (putAt base off v.cells.toList).toArray := by
    unfold putAt
    rw [← Array.foldl_toList, Array.toList_zipIdx, this]
    simp [hv]
  rw [Instr.fill, h]
  simp only []
  rw [if_neg (by simp [hv]; omega), e]
def Fills (place : Nat → Option (Nat × Nat)) : List A → List (Nat × A) → List A → Prop
  | cs, [], out => out = cs
  | cs, (i, v) :: r, out => ∃ off size, place i = some (off, size) ∧ v.cells.length = size ∧ off + size ≤ cs.length ∧ v.cells.all A.one = true ∧ Fills place (putAt cs off v.cells) r out
theorem cells_rep {ρ : Nat → Value} {I : Nat → Prop} {w : World} {v : A} {u : Value} (h : RepA ρ I w v u) (h1 : v.cells.all A.one = true) : RepAs ρ I w true v.cells u.cells.toList := by
  have hone : ∀ v : A, v.one = true → RepA ρ I w v u → RepAs ρ I w true [v] u.cells.toList := fun v hv hr => by
    have := repA_one hr hv
    have hcs : u.cells = #[u] := by cases u <;> first | rfl | cases this
    rw [hcs]
    exact ⟨u, [], rfl, fun _ => hv, hr, rfl⟩
  cases v with
  | d x =>
    cases x with
    | ag cs => obtain ⟨us, rfl, hr⟩ := h; exact repAs_of_C hr
    | tu vs => simp [A.cells, A.one, D.one] at h1
    | _ => exact hone _ rfl h
  | ag cs => obtain ⟨us, rfl, hr⟩ := h; exact hr
  | tu vs => simp [A.cells, A.one] at h1
  | gd x v => simp [A.cells, A.one] at h1
  | un => simp [A.cells, A.one] at h1
  | _ => exact hone _ rfl h
theorem fills_run {ρ : Nat → Value} {I : Nat → Prop} {w : World} {place : Nat → Option (Nat × Nat)} : ∀ {parts : List (Nat × A)} {vs : List (Nat × Value)} {cs out : List A} {us : List Value}, Fills place cs parts out → RepAs ρ I w true cs us →
    parts.length = vs.length → (∀ (k : Nat) (p : Nat × A) (q : Nat × Value), parts[k]? = some p → vs[k]? = some q → p.1 = q.1 ∧ RepA ρ I w p.2 q.2) → ∃ us', Instr.fill place us.toArray vs = some us' ∧ RepAs ρ I w true out us'.toList
  | [], vs, cs, out, us, h, hr, hl, hp => by
    have hv : vs = [] := List.eq_nil_of_length_eq_zero hl.symm
    subst hv
    have h : out = cs := h
    subst h
    exact ⟨us.toArray, rfl, hr⟩
  | (i, v) :: parts, [], cs, out, us, h, hr, hl, hp => by simp at hl
  | (i, v) :: parts, (i', u) :: vs, cs, out, us, ⟨off, size, h1, h2, h3, h4, h5⟩, hr, hl, hp => by
    obtain ⟨he, hru⟩ := hp 0 (i, v) (i', u) rfl rfl
    have he : i = i' := he
    have hru : RepA ρ I w v u := hru
    subst he
    have hcr := cells_rep hru h4
    have hlen := repAs_len hcr
    have hlen2 := repAs_len hr
    have h2 : v.cells.length = size := h2
    rw [fill_step place us i u vs off size h1 (by rw [← Array.length_toList, hlen]; exact h2) (by omega)]
    exact fills_run h5 (repAs_putAt hr hcr off) (by simpa using hl) (fun k p q hp' hq' => hp (k + 1) p q (by simpa using hp') (by simpa using hq'))
section
variable {P : Program} {fr : Nat} {dst : Option Nat} {ty : TypeId} {e : Operand → A} {β : Bx}
theorem insB_putAt {γ : Bx} {cs vs : List A} {off : Nat} (h : A.insB γ cs) (h2 : A.insB γ vs) : A.insB γ (putAt cs off vs) := A.insB_of fun z hz => by
  unfold putAt at hz
  simp only [List.mem_append] at hz
  rcases hz with (h' | h') | h'
  · exact A.insB_mem h z (List.mem_of_mem_take h')
  · exact A.insB_mem h2 z h'
  · exact A.insB_mem h z (List.mem_of_mem_drop h')
theorem cells_inB {γ : Bx} {v : A} (h : v.inB γ) : A.insB γ v.cells := by
  cases v with
  | d x => cases x <;> first | exact ⟨trivial, trivial⟩ | exact insB_map _
  | ag cs => exact h
  | _ => exact ⟨h, trivial⟩
theorem fills_inB {γ : Bx} {place : Nat → Option (Nat × Nat)} : ∀ {parts : List (Nat × A)} {cs out : List A}, Fills place cs parts out → A.insB γ cs → (∀ p ∈ parts, p.2.inB γ) → A.insB γ out
  | [], cs, out, h, hc, _ => by have h : out = cs := h; subst h; exact hc
  | (i, v) :: parts, cs, out, ⟨off, size, h1, h2, h3, h4, h5⟩, hc, hp => fills_inB h5 (insB_putAt hc (cells_inB (hp (i, v) (by simp)))) fun p hp' => hp p (by simp [hp'])
theorem build_parts {γ : Bx} {ρ : Nat → Value} {I : Nat → Prop} {w : World} {a : Act} {parts : Array (Nat × Operand)} (hops : ∀ x ∈ (parts.toList.map (·.2)), (e x).inB γ ∧ RepA ρ I w (e x) (a.eval x)) :
    ∀ (k : Nat) (p : Nat × A) (q : Nat × Value), (parts.toList.map fun p => (p.1, e p.2))[k]? = some p → (parts.toList.map fun p => (p.1, a.eval p.2))[k]? = some q → p.1 = q.1 ∧ RepA ρ I w p.2 q.2 := fun k p q hp hq => by
  rw [List.getElem?_map] at hp hq
  cases hk : parts.toList[k]? with
  | none => rw [hk] at hp; cases hp
  | some z =>
    rw [hk] at hp hq
    simp only [Option.map_some, Option.some.injEq] at hp hq
    subst hp hq
    exact ⟨rfl, (hops z.2 (List.mem_map.2 ⟨z, List.mem_of_getElem? hk, rfl⟩)).2⟩
theorem run_build_struct {T : TypeId} {t : TyI} {fs : List (Nat × Nat × Bool)} (ht : mkTy P T = some t) (hk : t.kind = .struct fs) (hfs : fs.all (fun f => f.2.1 != 0) = true) {z : Value} (hz : ∀ w, (zeroValue T).run P w = .ok z w) {vs : List (Nat × Value)} {us : Array Value}
    (hf : Instr.fill (fun i => (fs[i]?).map fun f => (f.1, f.2.1)) z.cells.toList.toArray vs = some us) (w : World) : (Instr.build T vs.toArray).run P w = .ok (.agg us) w := by
  obtain ⟨i, d, z', _, hd, _, _, _, _, _, hkd⟩ := mkTy_spec ht
  obtain ⟨gs, rfl, rfl⟩ := kind_struct (hkd.symm.trans hk)
  have hmap : ∀ (l : List Field), (l.all fun f => P.cellsOf f.type != 0) = true → ∀ w, ((l.mapM fun f => Prod.mk f.offset <$> sizeOf f.type : Sem (List (Nat × Nat)))).run P w = .ok (l.map fun f => (f.offset, P.cellsOf f.type)) w := by
    intro l
    induction l with
    | nil => intro _ w; simp
    | cons f l ih =>
      intro h w
      simp only [List.all_cons, Bool.and_eq_true, bne_iff_ne] at h
      have h1 : (Prod.mk f.offset <$> sizeOf f.type : Sem (Nat × Nat)).run P w = .ok (f.offset, P.cellsOf f.type) w := by
        rw [map_eq_pure_bind]
        simp only [Sem.run_bind, run_sizeOf h.1, Result.andThen_ok, Sem.run_pure]
      rw [List.mapM_cons]
      simp only [Sem.run_bind, h1, Result.andThen_ok, ih h.2, Sem.run_pure, List.map_cons]
  have hall : (gs.toList.all fun f => P.cellsOf f.type != 0) = true := by simpa [List.all_map, Function.comp_def] using hfs
  have hm2 : ((gs.mapM fun f => Prod.mk f.offset <$> sizeOf f.type : Sem (Array (Nat × Nat)))).run P w = .ok (gs.toList.map fun f => (f.offset, P.cellsOf f.type)).toArray w := by
    rw [← Array.toArray_toList (xs := gs), List.mapM_toArray, map_eq_pure_bind]
    simp only [Sem.run_bind, hmap _ hall, Result.andThen_ok, Sem.run_pure]
  have hplace : (fun i : Nat => (gs.toList.map fun f => (f.offset, P.cellsOf f.type)).toArray[i]?) = fun i => ((gs.toList.map fun f => (f.offset, P.cellsOf f.type, rowT P f.type))[i]?).map fun (f : Nat × Nat × Bool) => (f.1, f.2.1) := by
    funext i
    simp [List.getElem?_map]
    rfl
  simp only [Array.toArray_toList] at hf
  have hm3 : (gs.mapM fun f => do pure (f.offset, ← sizeOf f.type) : Sem (Array (Nat × Nat))) = (gs.mapM fun f => Prod.mk f.offset <$> sizeOf f.type) := by
    congr 1
  unfold Instr.build
  simp only [Sem.run_bind, hz, Result.andThen_ok, run_underlying hd]
  rw [hm3]
  simp only [Sem.run_bind, hm2, Result.andThen_ok]
  rw [hplace, hf]
  rfl
theorem does_build {T : TypeId} {t : TyI} {fs : List (Nat × Nat × Bool)} {parts : Array (Nat × Operand)} {out : List A} {ds : List D} (ht : mkTy P T = some t) (hk : t.kind = .struct fs) (hfs : fs.all (fun f => f.2.1 != 0) = true)
    (hf : Fills (fun i => (fs[i]?).map fun f => (f.1, f.2.1)) (t.zero.map .d) (parts.toList.map fun p => (p.1, e p.2)) out) (hout : allD out = some ds) : Does P dst (.build T parts) ty e β (.d (.ag ds)) [] [] :=
  Does.of_run fun C γ _ ρ I w _ a hops o ho _ => by
    obtain ⟨z, hz, hzr, _, _⟩ := mkTy_zero ht
    have hops' : ∀ x ∈ (parts.toList.map (·.2)), (e x).inB γ ∧ RepA ρ I w (e x) (a.eval x) := fun x hx => hops x (by simpa [Op.operands] using hx)
    obtain ⟨us, h1, h2⟩ := fills_run (ρ := ρ) hf (repAs_of_C (hzr I w)) (by simp) (build_parts hops')
    rw [allD_map hout] at h2
    refine ⟨.agg us, ?_, trivial, us, rfl, repC_of_As h2⟩
    have hrun := run_build_struct ht hk hfs hz h1 w
    have e1 : (parts.toList.map fun p => (p.1, a.eval p.2)).toArray = parts.map fun p => (p.1, a.eval p.2) := by
      apply Array.ext'
      simp
    rw [e1] at hrun
    simp only [execOp, ho, Sem.run_bind]
    rw [hrun]
    rfl
theorem does_build_own {T : TypeId} {t : TyI} {fs : List (Nat × Nat × Bool)} {parts : Array (Nat × Operand)} {out : List A} (ht : mkTy P T = some t) (hk : t.kind = .struct fs) (hfs : fs.all (fun f => f.2.1 != 0) = true)
    (hf : Fills (fun i => (fs[i]?).map fun f => (f.1, f.2.1)) (t.zero.map .d) (parts.toList.map fun p => (p.1, e p.2)) out) : Does P dst (.build T parts) ty e β (.ag out) [] [] :=
  Does.of_run fun C γ _ ρ I w _ a hops o ho _ => by
    obtain ⟨z, hz, hzr, _, _⟩ := mkTy_zero ht
    have hops' : ∀ x ∈ (parts.toList.map (·.2)), (e x).inB γ ∧ RepA ρ I w (e x) (a.eval x) := fun x hx => hops x (by simpa [Op.operands] using hx)
    obtain ⟨us, h1, h2⟩ := fills_run (ρ := ρ) hf (repAs_of_C (hzr I w)) (by simp) (build_parts hops')
    refine ⟨.agg us, ?_, fills_inB hf (insB_map _) (fun p hp => ?_), us, rfl, h2⟩
    · have hrun := run_build_struct ht hk hfs hz h1 w
      have e1 : (parts.toList.map fun p => (p.1, a.eval p.2)).toArray = parts.map fun p => (p.1, a.eval p.2) := by
        apply Array.ext'
        simp
      rw [e1] at hrun
      simp only [execOp, ho, Sem.run_bind]
      rw [hrun]
      rfl
    · obtain ⟨q, hq, rfl⟩ := List.mem_map.1 hp
      exact (hops' q.2 (List.mem_map.2 ⟨q, hq, rfl⟩)).1
end
end Go.Proofs.YtfkkamkhjbfjmaaDoor
