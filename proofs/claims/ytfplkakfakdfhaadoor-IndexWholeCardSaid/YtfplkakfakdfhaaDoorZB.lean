/-
  The pure layer: own rows, literals, appends, texts. No condition.
-/
import Derived.Test.YtfplkakfakdfhaaDoorZA
import Derived.Laws.StructEq
namespace Go.Proofs.YtfplkakfakdfhaaDoor
set_option linter.unusedSimpArgs false
set_option linter.unusedVariables false
open Go.RowKit

theorem foldl_set (off : Nat) : ∀ (l : List Value) (j : Nat) (cs : List Value), off + j + l.length ≤ cs.length →
    ((l.zipIdx j).foldl (fun (cs : Array Value) (p : Value × Nat) => cs.setIfInBounds (off + p.2) p.1) cs.toArray) = (cs.take (off + j) ++ l ++ cs.drop (off + j + l.length)).toArray
  | [], j, cs, h => by simp
  | v :: l, j, cs, h => by
    have h' : off + j < cs.length := by simp only [List.length_cons] at h; omega
    have e : cs.toArray.setIfInBounds (off + j) v = (cs.set (off + j) v).toArray := by simp
    rw [List.zipIdx_cons, List.foldl_cons]
    simp only []
    rw [e, foldl_set off l (j + 1) _ (by simp only [List.length_cons, List.length_set] at h ⊢; omega)]
    have e1 : (cs.set (off + j) v).take (off + (j + 1)) = cs.take (off + j) ++ [v] := by
      rw [← Nat.add_assoc, List.take_add_one, List.getElem?_set_self h', List.take_set_of_le (Nat.le_refl _)]
      rfl
    have e2 : (cs.set (off + j) v).drop (off + (j + 1) + l.length) = cs.drop (off + j + (v :: l).length) := by
      rw [List.drop_set_of_lt (by omega), List.length_cons]
      congr 1
      omega
    rw [e1, e2]
    simp
theorem fill_step (place : Nat → Option (Nat × Nat)) (base : List Value) (i : Nat) (v : Value) (rest : List (Nat × Value)) (off size : Nat) (h : place i = some (off, size)) (hv : v.cells.size = size) (hb : off + size ≤ base.length) :
    Instr.fill place base.toArray ((i, v) :: rest) = Instr.fill place (putAt base off v.cells.toList).toArray rest := by
  have := foldl_set off v.cells.toList 0 base (by simp; omega)
  have e : (v.cells.zipIdx.foldl (fun (cs : Array Value) (p : Value × Nat) => cs.setIfInBounds (off + p.2) p.1) base.toArray) = (putAt base off v.cells.toList).toArray := by
    unfold putAt
    rw [← Array.foldl_toList, Array.toList_zipIdx, this]
    simp [hv]
  rw [Instr.fill, h]
  simp only []
  rw [if_neg (by simp [hv]; omega), e]
def Fills (place : Nat → Option (Nat × Nat)) : List A → List (Nat × A) → List A → Prop
  | cs, [], out => out = cs
  | cs, (i, v) :: r, out => ∃ off size, place i = some (off, size) ∧ v.cells.length = size ∧ off + size ≤ cs.length ∧ v.cells.all A.one = true ∧ Fills place (putAt cs off v.cells) r out
theorem cells_rep {ρ : Nat → Value} {I : Nat → Prop} {w : World} {v : A} {u : Value} (h : RepA ρ I w v u) (h1 : v.cells.all A.one = true) : RepAs ρ I w true v.cells u.cells.toList := by
  have hone : ∀ v : A, v.one = true → RepA ρ I w v u → RepAs ρ I w true [v] u.cells.toList := fun v hv hr => by
    have := repA_one hr hv
    have hcs : u.cells = #[u] := by cases u <;> first | rfl | cases this
    rw [hcs]
    exact ⟨u, [], rfl, fun _ => hv, hr, rfl⟩
  cases v with
  | d x =>
    cases x with
    | ag cs => obtain ⟨us, rfl, hr⟩ := h; exact repAs_of_C hr
    | tu vs => simp [A.cells, A.one, D.one] at h1
    | _ => exact hone _ rfl h
  | ag cs => obtain ⟨us, rfl, hr⟩ := h; exact hr
  | tu vs => simp [A.cells, A.one] at h1
  | gd x v => simp [A.cells, A.one] at h1
  | un => simp [A.cells, A.one] at h1
  | _ => exact hone _ rfl h
theorem fills_run {ρ : Nat → Value} {I : Nat → Prop} {w : World} {place : Nat → Option (Nat × Nat)} : ∀ {parts : List (Nat × A)} {vs : List (Nat × Value)} {cs out : List A} {us : List Value}, Fills place cs parts out → RepAs ρ I w true cs us →
    parts.length = vs.length → (∀ (k : Nat) (p : Nat × A) (q : Nat × Value), parts[k]? = some p → vs[k]? = some q → p.1 = q.1 ∧ RepA ρ I w p.2 q.2) → ∃ us', Instr.fill place us.toArray vs = some us' ∧ RepAs ρ I w true out us'.toList
  | [], vs, cs, out, us, h, hr, hl, hp => by
    have hv : vs = [] := List.eq_nil_of_length_eq_zero hl.symm
    subst hv
    have h : out = cs := h
    subst h
    exact ⟨us.toArray, rfl, hr⟩
  | (i, v) :: parts, [], cs, out, us, h, hr, hl, hp => by simp at hl
  | (i, v) :: parts, (i', u) :: vs, cs, out, us, ⟨off, size, h1, h2, h3, h4, h5⟩, hr, hl, hp => by
    obtain ⟨he, hru⟩ := hp 0 (i, v) (i', u) rfl rfl
    have he : i = i' := he
    have hru : RepA ρ I w v u := hru
    subst he
    have hcr := cells_rep hru h4
    have hlen := repAs_len hcr
    have hlen2 := repAs_len hr
    have h2 : v.cells.length = size := h2
    rw [fill_step place us i u vs off size h1 (by rw [← Array.length_toList, hlen]; exact h2) (by omega)]
    exact fills_run h5 (repAs_putAt hr hcr off) (by simpa using hl) (fun k p q hp' hq' => hp (k + 1) p q (by simpa using hp') (by simpa using hq'))
section
variable {P : Program} {fr : Nat} {dst : Option Nat} {ty : TypeId} {e : Operand → A} {β : Bx}
theorem insB_putAt {γ : Bx} {cs vs : List A} {off : Nat} (h : A.insB γ cs) (h2 : A.insB γ vs) : A.insB γ (putAt cs off vs) := A.insB_of fun z hz => by
  unfold putAt at hz
  simp only [List.mem_append] at hz
  rcases hz with (h' | h') | h'
  · exact A.insB_mem h z (List.mem_of_mem_take h')
  · exact A.insB_mem h2 z h'
  · exact A.insB_mem h z (List.mem_of_mem_drop h')
theorem cells_inB {γ : Bx} {v : A} (h : v.inB γ) : A.insB γ v.cells := by
  cases v with
  | d x => cases x <;> first | exact ⟨trivial, trivial⟩ | exact insB_map _
  | ag cs => exact h
  | _ => exact ⟨h, trivial⟩
theorem fills_inB {γ : Bx} {place : Nat → Option (Nat × Nat)} : ∀ {parts : List (Nat × A)} {cs out : List A}, Fills place cs parts out → A.insB γ cs → (∀ p ∈ parts, p.2.inB γ) → A.insB γ out
  | [], cs, out, h, hc, _ => by have h : out = cs := h; subst h; exact hc
  | (i, v) :: parts, cs, out, ⟨off, size, h1, h2, h3, h4, h5⟩, hc, hp => fills_inB h5 (insB_putAt hc (cells_inB (hp (i, v) (by simp)))) fun p hp' => hp p (by simp [hp'])
theorem build_parts {γ : Bx} {ρ : Nat → Value} {I : Nat → Prop} {w : World} {a : Act} {parts : Array (Nat × Operand)} (hops : ∀ x ∈ (parts.toList.map (·.2)), (e x).inB γ ∧ RepA ρ I w (e x) (a.eval x)) :
    ∀ (k : Nat) (p : Nat × A) (q : Nat × Value), (parts.toList.map fun p => (p.1, e p.2))[k]? = some p → (parts.toList.map fun p => (p.1, a.eval p.2))[k]? = some q → p.1 = q.1 ∧ RepA ρ I w p.2 q.2 := fun k p q hp hq => by
  rw [List.getElem?_map] at hp hq
  cases hk : parts.toList[k]? with
  | none => rw [hk] at hp; cases hp
  | some z =>
    rw [hk] at hp hq
    simp only [Option.map_some, Option.some.injEq] at hp hq
    subst hp hq
    exact ⟨rfl, (hops z.2 (List.mem_map.2 ⟨z, List.mem_of_getElem? hk, rfl⟩)).2⟩
theorem run_build_struct {T : TypeId} {t : TyI} {fs : List (Nat × Nat × Bool)} (ht : mkTy P T = some t) (hk : t.kind = .struct fs) (hfs : fs.all (fun f => f.2.1 != 0) = true) {z : Value} (hz : ∀ w, (zeroValue T).run P w = .ok z w) {vs : List (Nat × Value)} {us : Array Value}
    (hf : Instr.fill (fun i => (fs[i]?).map fun f => (f.1, f.2.1)) z.cells.toList.toArray vs = some us) (w : World) : (Instr.build T vs.toArray).run P w = .ok (.agg us) w := by
  obtain ⟨i, d, z', _, hd, _, _, _, _, _, hkd⟩ := mkTy_spec ht
  obtain ⟨gs, rfl, rfl⟩ := kind_struct (hkd.symm.trans hk)
  have hmap : ∀ (l : List Field), (l.all fun f => P.cellsOf f.type != 0) = true → ∀ w, ((l.mapM fun f => Prod.mk f.offset <$> sizeOf f.type : Sem (List (Nat × Nat)))).run P w = .ok (l.map fun f => (f.offset, P.cellsOf f.type)) w := by
    intro l
    induction l with
    | nil => intro _ w; simp
    | cons f l ih =>
      intro h w
      simp only [List.all_cons, Bool.and_eq_true, bne_iff_ne] at h
      have h1 : (Prod.mk f.offset <$> sizeOf f.type : Sem (Nat × Nat)).run P w = .ok (f.offset, P.cellsOf f.type) w := by
        rw [map_eq_pure_bind]
        simp only [Sem.run_bind, run_sizeOf h.1, Result.andThen_ok, Sem.run_pure]
      rw [List.mapM_cons]
      simp only [Sem.run_bind, h1, Result.andThen_ok, ih h.2, Sem.run_pure, List.map_cons]
  have hall : (gs.toList.all fun f => P.cellsOf f.type != 0) = true := by simpa [List.all_map, Function.comp_def] using hfs
  have hm2 : ((gs.mapM fun f => Prod.mk f.offset <$> sizeOf f.type : Sem (Array (Nat × Nat)))).run P w = .ok (gs.toList.map fun f => (f.offset, P.cellsOf f.type)).toArray w := by
    rw [← Array.toArray_toList (xs := gs), List.mapM_toArray, map_eq_pure_bind]
    simp only [Sem.run_bind, hmap _ hall, Result.andThen_ok, Sem.run_pure]
  have hplace : (fun i : Nat => (gs.toList.map fun f => (f.offset, P.cellsOf f.type)).toArray[i]?) = fun i => ((gs.toList.map fun f => (f.offset, P.cellsOf f.type, rowT P f.type))[i]?).map fun (f : Nat × Nat × Bool) => (f.1, f.2.1) := by
    funext i
    simp [List.getElem?_map]
    rfl
  simp only [Array.toArray_toList] at hf
  have hm3 : (gs.mapM fun f => do pure (f.offset, ← sizeOf f.type) : Sem (Array (Nat × Nat))) = (gs.mapM fun f => Prod.mk f.offset <$> sizeOf f.type) := by
    congr 1
  unfold Instr.build
  simp only [Sem.run_bind, hz, Result.andThen_ok, run_underlying hd]
  rw [hm3]
  simp only [Sem.run_bind, hm2, Result.andThen_ok]
  rw [hplace, hf]
  rfl
theorem does_build {T : TypeId} {t : TyI} {fs : List (Nat × Nat × Bool)} {parts : Array (Nat × Operand)} {out : List A} {ds : List D} (ht : mkTy P T = some t) (hk : t.kind = .struct fs) (hfs : fs.all (fun f => f.2.1 != 0) = true)
    (hf : Fills (fun i => (fs[i]?).map fun f => (f.1, f.2.1)) (t.zero.map .d) (parts.toList.map fun p => (p.1, e p.2)) out) (hout : allD out = some ds) : Does P dst (.build T parts) ty e β (.d (.ag ds)) [] [] :=
  Does.of_run fun C γ _ ρ I w _ a hops o ho _ => by
    obtain ⟨z, hz, hzr, _, _⟩ := mkTy_zero ht
    have hops' : ∀ x ∈ (parts.toList.map (·.2)), (e x).inB γ ∧ RepA ρ I w (e x) (a.eval x) := fun x hx => hops x (by simpa [Op.operands] using hx)
    obtain ⟨us, h1, h2⟩ := fills_run (ρ := ρ) hf (repAs_of_C (hzr I w)) (by simp) (build_parts hops')
    rw [allD_map hout] at h2
    refine ⟨.agg us, ?_, trivial, us, rfl, repC_of_As h2⟩
    have hrun := run_build_struct ht hk hfs hz h1 w
    have e1 : (parts.toList.map fun p => (p.1, a.eval p.2)).toArray = parts.map fun p => (p.1, a.eval p.2) := by
      apply Array.ext'
      simp
    rw [e1] at hrun
    simp only [execOp, ho, Sem.run_bind]
    rw [hrun]
    rfl
theorem does_build_own {T : TypeId} {t : TyI} {fs : List (Nat × Nat × Bool)} {parts : Array (Nat × Operand)} {out : List A} (ht : mkTy P T = some t) (hk : t.kind = .struct fs) (hfs : fs.all (fun f => f.2.1 != 0) = true)
    (hf : Fills (fun i => (fs[i]?).map fun f => (f.1, f.2.1)) (t.zero.map .d) (parts.toList.map fun p => (p.1, e p.2)) out) : Does P dst (.build T parts) ty e β (.ag out) [] [] :=
  Does.of_run fun C γ _ ρ I w _ a hops o ho _ => by
    obtain ⟨z, hz, hzr, _, _⟩ := mkTy_zero ht
    have hops' : ∀ x ∈ (parts.toList.map (·.2)), (e x).inB γ ∧ RepA ρ I w (e x) (a.eval x) := fun x hx => hops x (by simpa [Op.operands] using hx)
    obtain ⟨us, h1, h2⟩ := fills_run (ρ := ρ) hf (repAs_of_C (hzr I w)) (by simp) (build_parts hops')
    refine ⟨.agg us, ?_, fills_inB hf (insB_map _) (fun p hp => ?_), us, rfl, h2⟩
    · have hrun := run_build_struct ht hk hfs hz h1 w
      have e1 : (parts.toList.map fun p => (p.1, a.eval p.2)).toArray = parts.map fun p => (p.1, a.eval p.2) := by
        apply Array.ext'
        simp
      rw [e1] at hrun
      simp only [execOp, ho, Sem.run_bind]
      rw [hrun]
      rfl
    · obtain ⟨q, hq, rfl⟩ := List.mem_map.1 hp
      exact (hops' q.2 (List.mem_map.2 ⟨q, hq, rfl⟩)).1
end
end Go.Proofs.YtfplkakfakdfhaaDoor


/-
  The pure layer: rows of the call's own: made, filled, appended to, written. No condition.
-/
namespace Go.Proofs.YtfplkakfakdfhaaDoor
set_option linter.unusedSimpArgs false
set_option linter.unusedVariables false
open Go.RowKit

theorem own_form {w : World} {base : Nat} {E : TypeId} {size : Nat} {v : Value} {n : Nat} {xs : List Value} (h : w.ownsRow base E size v n xs) : ∃ ad c, v = .slice ad n c ∧ n ≤ c ∧ (0 < n → ∃ g, ad = some ⟨g, 0, none⟩) := by
  rcases h.2 with ⟨rfl, rfl⟩ | ⟨g, cap, cur, rfl, _, _, hnc, _⟩
  · exact ⟨none, 0, rfl, Nat.le_refl _, fun h => by omega⟩
  · exact ⟨_, cap, rfl, hnc, fun _ => ⟨g, rfl⟩⟩
theorem blk_own {v : Value} {ad : Option Addr} {n c : Nat} (h : v = .slice ad n c) : blk v = v.ownBlock := by subst h; cases ad <;> rfl
section
variable {P : Program} {fr : Nat} {dst : Option Nat} {ty : TypeId} {e : Operand → A} {β : Bx}
theorem ow_rep {ρ : Nat → Value} {I : Nat → Prop} {w : World} {E : TypeId} {size n : Nat} {v : Value} {xs : List Value} (h : w.ownsRow 0 E size v n xs) (hr : ρ fr = v) : RepA ρ I w (.ow fr n) v := by
  obtain ⟨ad, c, h1, h2, h3⟩ := own_form h
  exact ⟨hr.symm, ad, c, h1, h2, h3⟩
theorem repR_replicate {I : Nat → Prop} {w : World} {sz : Nat} {ds : List D} {l : List Value} (h : RepC I w true ds l) (hs : ds.length = sz) : ∀ n, RepR I w sz (List.replicate n ds) (List.replicate n l).flatten
  | 0 => rfl
  | n + 1 => ⟨l, (List.replicate n l).flatten, by rw [List.replicate_succ, List.flatten_cons], hs, h, repR_replicate h hs n⟩
theorem madeCells_list (z : Array Value) (hz : 0 < z.size) : ∀ n, (madeCells z (n * z.size)).toList = (List.replicate n z.toList).flatten
  | 0 => by simp [madeCells]
  | n + 1 => by
    have ih := madeCells_list z hz n
    rw [List.replicate_succ', List.flatten_append, ← ih]
    apply List.ext_getElem?
    intro j
    have h1 : ∀ k, (madeCells z k).toList = (List.range k).map (fun i => z[i % z.size]!) := fun k => by simp [madeCells]
    rw [h1, h1, Nat.add_mul, Nat.one_mul, List.range_add, List.map_append, List.map_map]
    congr 2
    apply List.ext_getElem?
    intro i
    simp only [List.flatten_cons, List.flatten_nil, List.append_nil, List.getElem?_map, Function.comp_def]
    by_cases hi : i < z.size
    · rw [List.getElem?_range hi]
      have : (n * z.size + i) % z.size = i := by rw [Nat.mul_comm, Nat.mul_add_mod, Nat.mod_eq_of_lt hi]
      simp [Nat.mod_eq_of_lt hi, getElem!_pos z i hi, hi]
    · rw [List.getElem?_eq_none (by simpa using hi), List.getElem?_eq_none (by simpa using hi)]
      rfl
theorem does_make {T el : TypeId} {t te : TyI} {x y : Operand} {k k' : IntKind} {n : Nat} {m m' : Int} (ht : mkTy P T = some t) (hk : t.kind = .slice el) (hte : mkTy P el = some te) (hx : e x = .d (.sc (.int k m))) (hy : e y = .d (.sc (.int k' m'))) (hm1 : m = n) (hm2 : m' = n) (hs : 0 < te.size)
    (hb : te.bytes * n ≤ 281474976710656) (h63 : n ≤ 9223372036854775807) (hf : look fr β = none) : Does P (some fr) (.makeSlice T x y) ty e β (.ow fr n) [(fr, .row el te.size (List.replicate n te.zero))] [] := by
  intro C γ hag ρ I w hm a hops o ho hd hty K Q hK
  have hf2 : look fr γ = none := (hag fr (by simp)).trans hf
  have h1 := (hops x (by simp [Op.operands])).2
  have h2 := (hops y (by simp [Op.operands])).2
  rw [hx] at h1
  rw [hy] at h2
  have h1 := repA_sc h1
  have h2 := repA_sc h2
  subst hm1 hm2
  obtain ⟨i, d, z, _, hu, _, _, _, _, _, hkd⟩ := mkTy_spec ht
  have hu2 : P.underlying T = some (.slice el) := by rw [hu, kind_slice (hkd.symm.trans hk)]
  obtain ⟨i', d', z', hi', _, hz', hsz', hby', _, hzr', _, hone', hzs'⟩ := mkTy_all hte
  obtain ⟨w', hrun, hown, hgr⟩ := run_make_full (P := P) w 0 T el i' z' te.size hu2 hi' hz' hsz'.symm k k' n (by rw [← hby']; exact hb) (by unfold maxLen; omega) (Nat.zero_le _)
  have hzc : z'.cells.size = te.size := by rw [hzs', hsz']
  rw [← hzc, madeCells_list _ (by omega), hzc] at hown
  have hzrep : ∀ I w, RepC I w true te.zero z'.cells.toList := fun I w => by
    rw [hzr']; exact repC_cellD fun v hv => (Array.all_eq_true_iff_forall_mem.1 hone') v (by simpa using hv)
  have hzl : te.zero.length = te.size := by rw [hzr', List.length_map, Array.length_toList, hzc]
  obtain ⟨m1, m2⟩ := hm.new_box hf2 (v := .slice (some ⟨w.heap.size, 0, none⟩) n n) (b := .row el te.size (List.replicate n te.zero)) hgr (fun g hg => by
      simp only [blk, Option.some.injEq] at hg; subst hg
      obtain ⟨_, _⟩ := hown.lt w.heap.size rfl
      omega) (fun hx => ⟨_, by rw [upd_same, List.length_replicate]; exact hown, repR_replicate (hzrep _ _) hzl n⟩) trivial
  unfold Oper.wp
  have hrun : (execOp a.eval o).run P w = .ok (.value (.slice (some ⟨w.heap.size, 0, none⟩) n n)) w' := by
    simp [execOp, ho, h1, h2, Sem.run_bind, hrun]
  rw [hrun, Oper.upon_value, hd]
  exact hK _ _ I w' m1 m2 (by unfold A.inB dom; simp [look_append, look_cons]) (ow_rep hown (upd_same _ _ _))
/-- A slice literal: each element of data. -/
def cellsOfs : List A → Option (List (List D))
  | [] => some []
  | .d x :: r => match cellsOfs r with
    | some es => some (x.cells :: es)
    | none => none
  | _ :: _ => none
def rowsOk (sz : Nat) : List (List D) → Prop
  | [] => True
  | e :: es => e.length = sz ∧ e.all D.one = true ∧ rowsOk sz es
theorem cellsD_rep {I : Nat → Prop} {w : World} {d : D} {u : Value} (h : RepD I w d u) (h1 : d.cells.all D.one = true) : RepC I w true d.cells u.cells.toList := by
  have hone : ∀ v : D, v.one = true → RepD I w v u → RepC I w true [v] u.cells.toList := fun v hv hr => by
    have := repD_one hr hv
    have hcs : u.cells = #[u] := by cases u <;> first | rfl | cases this
    rw [hcs]
    exact ⟨u, [], rfl, fun _ => hv, hr, rfl⟩
  cases d with
  | ag cs => obtain ⟨us, rfl, hr⟩ := h; exact hr
  | tu vs => simp [D.cells, D.one] at h1
  | _ => exact hone _ rfl h
theorem fill_rows {I : Nat → Prop} {w : World} {sz : Nat} (hsz : 0 < sz) : ∀ {vs : List A} {es : List (List D)} {us : List Value} {ρ : Nat → Value} (k : Nat) (base : List Value), cellsOfs vs = some es → rowsOk sz es → vs.length = us.length → (∀ (j : Nat) v u, vs[j]? = some v → us[j]? = some u → RepA ρ I w v u) →
    k * sz + us.length * sz = base.length → ∃ xs, Instr.fill (fun i => some (i * sz, sz)) base.toArray ((us.zipIdx k).map fun p => (p.2, p.1)) = some (base.take (k * sz) ++ xs).toArray ∧ RepR I w sz es xs
  | [], es, us, ρ, k, base, h, hok, hl, hr, hb => by
    have hu : us = [] := List.eq_nil_of_length_eq_zero hl.symm
    subst hu
    simp only [cellsOfs, Option.some.injEq] at h
    subst h
    refine ⟨[], ?_, rfl⟩
    rw [List.append_nil, List.take_of_length_le (by simp at hb; omega)]
    rfl
  | v :: vs, es, [], ρ, k, base, h, hok, hl, hr, hb => by simp at hl
  | v :: vs, es, u :: us, ρ, k, base, h, hok, hl, hr, hb => by
    cases v with
    | d x =>
      simp only [cellsOfs] at h
      split at h
      · rename_i es' hes
        simp only [Option.some.injEq] at h
        subst h
        obtain ⟨o1, o2, o3⟩ := hok
        have hru : RepD I w x u := hr 0 (.d x) u rfl rfl
        have hcr := cellsD_rep hru o2
        have hlen := repC_len hcr
        have hk : (k + 1) * sz = k * sz + sz := by rw [Nat.add_mul, Nat.one_mul]
        have hk2 : (us.length + 1) * sz = us.length * sz + sz := by rw [Nat.add_mul, Nat.one_mul]
        have hb : k * sz + (us.length * sz + sz) = base.length := by rw [← hk2]; exact hb
        have o1 : x.cells.length = sz := o1
        rw [List.zipIdx_cons, List.map_cons, fill_step _ _ _ _ _ (k * sz) sz rfl (by rw [← Array.length_toList]; exact hlen.trans o1) (by omega)]
        obtain ⟨xs, h1, h2⟩ := fill_rows hsz (I := I) (w := w) (ρ := ρ) (k + 1) (putAt base (k * sz) u.cells.toList) hes o3 (by simpa using hl) (fun j v' u' hv hu => hr (j + 1) v' u' (by simpa using hv) (by simpa using hu)) (by rw [putAt_length (by omega)]; omega)
        refine ⟨u.cells.toList ++ xs, ?_, ⟨u.cells.toList, xs, rfl, o1, hcr, h2⟩⟩
        rw [h1]
        congr 2
        unfold putAt
        have e1 : (base.take (k * sz)).length = k * sz := by rw [List.length_take]; omega
        rw [hk, List.take_append, List.take_of_length_le (show (base.take (k * sz) ++ u.cells.toList).length ≤ k * sz + sz by rw [List.length_append, e1]; omega), show k * sz + sz - (base.take (k * sz) ++ u.cells.toList).length = 0 by rw [List.length_append, e1]; omega]
        simp
      · cases h
    | _ => cases h
theorem fill_rows_at {I : Nat → Prop} {w : World} {sz : Nat} (hsz : 0 < sz) {vs : List A} {es : List (List D)} {us : List Value} {ρ : Nat → Value} (base : List Value) (h : cellsOfs vs = some es) (hok : rowsOk sz es) (hl : vs.length = us.length) (hr : ∀ (j : Nat) v u, vs[j]? = some v → us[j]? = some u → RepA ρ I w v u)
    (hb : us.length * sz = base.length) : ∃ xs, Instr.fill (fun i => some (i * sz, sz)) base.toArray ((us.zipIdx 0).map fun p => (p.2, p.1)) = some xs.toArray ∧ RepR I w sz es xs := by
  obtain ⟨xs, h1, h2⟩ := fill_rows hsz (ρ := ρ) 0 base h hok hl hr (by simpa using hb)
  exact ⟨xs, by simpa using h1, h2⟩
theorem cellsOfs_len : ∀ {vs : List A} {es : List (List D)}, cellsOfs vs = some es → es.length = vs.length
  | [], es, h => by simp [cellsOfs] at h; subst h; rfl
  | .d x :: vs, es, h => by
    simp only [cellsOfs] at h
    split at h
    · rename_i es' hes; simp only [Option.some.injEq] at h; subst h; simp [cellsOfs_len hes]
    · cases h
  | .ag _ :: _, _, h => by cases h
  | .tu _ :: _, _, h => by cases h
  | .pe .. :: _, _, h => by cases h
  | .px .. :: _, _, h => by cases h
  | .pr .. :: _, _, h => by cases h
  | .ow .. :: _, _, h => by cases h
  | .fn .. :: _, _, h => by cases h
  | .gd .. :: _, _, h => by cases h
  | .un :: _, _, h => by cases h
theorem does_buildSlice {T el : TypeId} {t te : TyI} {len : Nat} {parts : Array (Nat × Operand)} {es : List (List D)} (ht : mkTy P T = some t) (hk : t.kind = .slice el) (hte : mkTy P el = some te) (hidx : parts.toList.map (·.1) = List.range len) (hes : cellsOfs (parts.toList.map fun p => e p.2) = some es)
    (hok : rowsOk te.size es) (hs : 0 < te.size) (hlen : len * te.size ≤ 16777216) (hf : look fr β = none) : Does P (some fr) (.buildSlice T len parts) ty e β (.ow fr len) [(fr, .row el te.size es)] [] := by
  intro C γ hag ρ I w hm a hops o ho hd hty K Q hK
  have hf2 : look fr γ = none := (hag fr (by simp)).trans hf
  have hops' : ∀ x ∈ (parts.toList.map (·.2)), (e x).inB γ ∧ RepA ρ I w (e x) (a.eval x) := fun x hx => hops x (by simpa [Op.operands] using hx)
  obtain ⟨i, d, z, _, hu, _, _, _, _, _, hkd⟩ := mkTy_spec ht
  have hu2 : P.underlying T = some (.slice el) := by rw [hu, kind_slice (hkd.symm.trans hk)]
  obtain ⟨zv, hz, _, hzs, _⟩ := mkTy_zero hte
  have hpl : parts.toList.length = len := by have := congrArg List.length hidx; simpa using this
  obtain ⟨xs, h1, h2⟩ := fill_rows_at hs (I := I) (w := w) (ρ := ρ) (us := parts.toList.map fun p => a.eval p.2) ((List.range (len * te.size)).map fun j => zv.cells[j % zv.cells.size]!) hes hok (by simp) (fun j v u hv hu => by
    rw [List.getElem?_map] at hv hu
    cases hj : parts.toList[j]? with
    | none => rw [hj] at hv; cases hv
    | some p =>
      rw [hj] at hv hu
      simp only [Option.map_some, Option.some.injEq] at hv hu
      subst hv hu
      exact (hops' p.2 (List.mem_map.2 ⟨p, List.mem_of_getElem? hj, rfl⟩)).2) (by rw [List.length_map, hpl, List.length_map, List.length_range])
  have hvs : ((parts.toList.map fun p => a.eval p.2).zipIdx 0).map (fun p => (p.2, p.1)) = parts.toList.map fun p => (p.1, a.eval p.2) := by
    apply List.ext_getElem?
    intro j
    have hj2 := congrArg (·[j]?) hidx
    simp only [List.getElem?_map] at hj2
    rw [List.getElem?_map, List.getElem?_zipIdx, List.getElem?_map, List.getElem?_map]
    cases hj : parts.toList[j]? with
    | none => rfl
    | some p =>
      have hjl : j < len := by rw [← hpl]; exact (List.getElem?_eq_some_iff.1 hj).1
      rw [hj, List.getElem?_range hjl] at hj2
      simp only [Option.map_some, Option.some.injEq] at hj2
      simp [hj2]
  rw [hvs] at h1
  have hxl : xs.length = len * te.size := by rw [repR_len h2, cellsOfs_len hes, List.length_map, hpl]
  have hesl : es.length = len := by rw [cellsOfs_len hes, List.length_map, hpl]
  have hgr := grownBy_alloc' w (.cells xs.toArray el)
  have hown : ({ w with heap := w.heap.push (.cells xs.toArray el) } : World).ownsRow 0 el te.size (.slice (some ⟨w.heap.size, 0, none⟩) len len) len xs :=
    ⟨hxl, .inr ⟨w.heap.size, len, xs.toArray, rfl, Nat.zero_le _, push_at w _, Nat.le_refl _, by
      unfold maxLen
      have : len ≤ len * te.size := Nat.le_mul_of_pos_right len hs
      omega, by simpa using hxl, by rw [← hxl]; simp⟩⟩
  obtain ⟨m1, m2⟩ := hm.new_box hf2 (v := .slice (some ⟨w.heap.size, 0, none⟩) len len) (b := .row el te.size es) hgr (fun g hg => by
      simp only [blk, Option.some.injEq] at hg; subst hg; simp) (fun hx => ⟨xs, by rw [upd_same, hesl]; exact hown, RepR.ext hx.toExtI _ _ _ h2⟩) trivial
  unfold Oper.wp
  have hfl : Instr.fill (fun i => some (i * te.size, te.size)) ((Array.range (len * te.size)).map fun j => zv.cells[j % zv.cells.size]!) (parts.toList.map fun p => (p.1, a.eval p.2)) = some xs.toArray := by
    have e1 : ((Array.range (len * te.size)).map fun j => zv.cells[j % zv.cells.size]!) = ((List.range (len * te.size)).map fun j => zv.cells[j % zv.cells.size]!).toArray := by
      apply Array.ext'; simp
    rw [e1]
    exact h1
  have hrun : (execOp a.eval o).run P w = .ok (.value (.slice (some ⟨w.heap.size, 0, none⟩) len len)) { w with heap := w.heap.push (.cells xs.toArray el) } := by
    simp only [execOp, ho, Instr.buildSlice, Sem.run_bind, run_underlying hu2, Result.andThen_ok, sizeOf_mkTy hte]
    have h24 : ¬ (len * te.size > 2 ^ 24) := by omega
    by_cases h0 : len * te.size = 0
    · have hl0 : len = 0 := by
        rcases Nat.mul_eq_zero.1 h0 with h | h
        · exact h
        · omega
      subst hl0
      have hp : parts = #[] := by
        have : parts.toList = [] := List.eq_nil_of_length_eq_zero hpl
        simpa using this
      subst hp
      have hx0 : xs = [] := List.eq_nil_of_length_eq_zero (by simpa using hxl)
      subst hx0
      have hr0 : Array.range 0 = #[] := rfl
      simp [Instr.fill, newRow, hr0]
    · simp [h24, h0, hz, hfl, newRow, Sem.run_bind]
  rw [hrun, Oper.upon_value, hd]
  exact hK _ _ I _ m1 m2 (by unfold A.inB dom; simp [look_append, look_cons]) (ow_rep hown (upd_same _ _ _))
end
end Go.Proofs.YtfplkakfakdfhaaDoor


/-
  The pure layer: append; stores into own rows; lengths, slices, fields, texts. No condition.
-/
namespace Go.Proofs.YtfplkakfakdfhaaDoor
set_option linter.unusedSimpArgs false
set_option linter.unusedVariables false
open Go.RowKit

section
variable {P : Program} {fr : Nat} {dst : Option Nat} {ty : TypeId} {e : Operand → A} {β : Bx}
theorem run_append_nil_src {w : World} (t ty el : TypeId) (i : TypeInfo) (size : Nat) (ht : P.underlying t = some (.slice el)) (hi : P.info? el = some i)
    (v : Value) (n : Nat) (xs : List Value) (hown : w.ownsRow 0 el size v n xs) (c : Nat) : (Builtin.append_ #[t, t] ty #[v, .slice none 0 c]).run P w = .ok v w := by
  rcases hown.2 with ⟨rfl, rfl⟩ | ⟨g, cap, cur, rfl, _, _, hnc, _⟩
  · simp [Builtin.append_, run_underlying ht, sizeOf, typeInfo, hi, Builtin.lenOf, Builtin.firstCells]
  · simp [Builtin.append_, run_underlying ht, sizeOf, typeInfo, hi, Builtin.lenOf, Builtin.firstCells, hnc, storeCells]
/-- The elements of what is appended. -/
def newsA (β : Bx) (sz : Nat) : A → Option (List (List D))
  | .d .nl => some []
  | .d (.sl sz' ns) => if sz' = sz then some ns else none
  | .ow id _ => match rowsOf β id with
    | some (sz', ns) => if sz' = sz then some ns else none
    | none => none
  | .ov id s k n => match rowsOf β id with
    | some (sz', ns) => if sz' = sz ∧ s = sz then some ((ns.drop k).take n) else none
    | none => none
  | _ => none
def idsA : A → List Nat
  | .ow id _ => [id]
  | .ov id _ _ _ => [id]
  | _ => []
theorem take_some {α : Type} {l : List α} {n j : Nat} {z : α} (h : (l.take n)[j]? = some z) : j < n ∧ l[j]? = some z := by
  rw [List.getElem?_take] at h
  split at h
  · exact ⟨by assumption, h⟩
  · cases h
theorem news_ok {C : Ctx} {γ : Bx} {ρ : Nat → Value} {I : Nat → Prop} {w : World} (hm : Mem C γ ρ I w) {v : A} {u : Value} {sz : Nat} {ns : List (List D)} (hag : ∀ id ∈ idsA v, look id γ = look id β) (h : newsA β sz v = some ns) (hr : RepA ρ I w v u) :
    ∃ ad c news, u = .slice ad ns.length c ∧ RepR I w sz ns news ∧ (0 < ns.length → ∃ g off, ad = some ⟨g, off, none⟩ ∧ ∀ (j : Nat) (z : Value), news[j]? = some z → w.cell? ⟨g, off + j, none⟩ = some z) := by
  cases v with
  | d x =>
    cases x with
    | nl =>
      simp only [newsA, Option.some.injEq] at h
      subst h
      exact ⟨none, 0, [], hr, rfl, fun h => by simp at h⟩
    | sl sz' es =>
      simp only [newsA] at h
      split at h
      · rename_i hsz
        simp only [Option.some.injEq] at h
        subst h hsz
        obtain ⟨ad, c, xs, h1, _, h2, h3⟩ := hr
        exact ⟨ad, c, xs, h1, h2, fun h0 => by obtain ⟨g, off, e1, _, e3⟩ := h3 h0; exact ⟨g, off, e1, e3⟩⟩
      · cases h
    | _ => cases h
  | ow id m =>
    simp only [newsA] at h
    split at h
    · rename_i sz' ns' hrows
      split at h
      · rename_i hsz
        simp only [Option.some.injEq] at h
        subst h hsz
        rw [← rowsOf_agree (hag id (by simp [idsA]))] at hrows
        obtain ⟨h1, ad, c, h2, h3, h4⟩ := hr
        rcases Nat.eq_zero_or_pos m with h0 | h0
        · subst h0
          have hns : ns' = [] := by
            unfold rowsOf at hrows
            split at hrows
            · rename_i hl
              injection hrows with hrows; injection hrows with e1 e2; subst e1 e2
              obtain ⟨xs, k1, k2⟩ := hm.box id _ hl
              obtain ⟨ad', c', k3, _⟩ := own_form k1
              rw [← h1, h2] at k3
              injection k3 with _ k3
              exact List.eq_nil_of_length_eq_zero k3.symm
            · rename_i hl
              injection hrows with hrows; injection hrows with e1 e2; subst e1 e2
              obtain ⟨ad', c', xs, k3, _⟩ := hm.box id _ hl
              rw [← h1, h2] at k3
              injection k3 with _ k3
              exact List.eq_nil_of_length_eq_zero k3.symm
            · cases hrows
          subst hns
          exact ⟨ad, c, [], h2, rfl, fun h => by simp at h⟩
        · obtain ⟨g, rfl⟩ := h4 h0
          obtain ⟨xs, k1, k2, k3⟩ := rows_cells hm hrows (h1.symm.trans h2) h0
          subst k2
          exact ⟨_, c, xs, h2, k1, fun _ => ⟨g, 0, rfl, fun j z hz => by rw [Nat.zero_add]; exact k3 j z hz⟩⟩
      · cases h
    · cases h
  | ov id s k m =>
    simp only [newsA] at h
    split at h
    · rename_i sz' ns' hrows
      split at h
      · rename_i hsz
        obtain ⟨rfl, rfl⟩ := hsz
        simp only [Option.some.injEq] at h
        subst h
        rw [← rowsOf_agree (hag id (by simp [idsA]))] at hrows
        obtain ⟨g, n, c, h1, h2, h3, c2, h4⟩ := hr
        obtain ⟨xs, k1, k2, k3⟩ := rows_cells hm hrows h1 (by omega)
        subst k2
        have hl : ((ns'.drop k).take m).length = m := by rw [List.length_take, List.length_drop]; omega
        refine ⟨_, c2, _, by rw [hl]; exact h4, repR_take m (repR_drop k k1), fun _ => ⟨g, k * s, rfl, fun j z hz => ?_⟩⟩
        obtain ⟨hj, hz⟩ := take_some hz
        rw [List.getElem?_drop] at hz
        exact k3 _ z hz
      · cases h
    · cases h
  | _ => cases h
theorem run_append_rows {w : World} {T el : TypeId} {i : TypeInfo} {z : Value} (tyr : TypeId) (ht : P.underlying T = some (.slice el)) (hi : P.info? el = some i) (hz : i.zero = some z) (hzs : z.cells.size = i.size) (hsz : 0 < i.size)
    {v : Value} {n : Nat} {xs : List Value} (hown : w.ownsRow 0 el i.size v n xs) {I : Nat → Prop} {ns : List (List D)} {ad : Option Addr} {c : Nat} {news : List Value} (hR : RepR I w i.size ns news)
    (hc : 0 < ns.length → ∃ g off, ad = some ⟨g, off, none⟩ ∧ ∀ (j : Nat) (z : Value), news[j]? = some z → w.cell? ⟨g, off + j, none⟩ = some z) (h63 : n + ns.length ≤ maxLen) (hb : (n + ns.length) * i.bytes ≤ 140737488355328) :
    ∃ v' w', (Builtin.append_ #[T, T] tyr #[v, .slice ad ns.length c]).run P w = .ok v' w' ∧ w'.ownsRow 0 el i.size v' (n + ns.length) (xs ++ news) ∧ w.grownBy w' v.ownBlock ∧ (v'.ownBlock = v.ownBlock ∨ v'.ownBlock = some w.heap.size) := by
  have hnl := repR_len hR
  rcases ad with _ | ad
  · have h0 : ns.length = 0 := by
      rcases Nat.eq_zero_or_pos ns.length with h | h
      · exact h
      · obtain ⟨g, off, h, _⟩ := hc h; cases h
    have hns : ns = [] := List.eq_nil_of_length_eq_zero h0
    subst hns
    cases hR
    exact ⟨v, w, run_append_nil_src T tyr el i i.size ht hi v n xs hown c, by simpa using hown, World.grownBy.refl w _, .inl rfl⟩
  · have hcells : ∀ j u, news[j]? = some u → w.cell? (ad.add j) = some u := by
      intro j u hu
      have hp : 0 < ns.length := by
        rcases Nat.eq_zero_or_pos ns.length with h | h
        · rw [h, Nat.zero_mul] at hnl
          have := List.eq_nil_of_length_eq_zero hnl
          subst this
          simp at hu
        · exact h
      obtain ⟨g, off, h, h2⟩ := hc hp
      injection h with h
      subst h
      rw [Addr.add_mid]
      exact h2 j u hu
    obtain ⟨v', w', hrun, h2, h3, _, h5⟩ := run_append_own_at (P := P) w 0 T tyr el i z i.size i.bytes ht hi hz rfl rfl hzs hsz v n xs hown ad ns.length c news hnl hcells (repR_one hR) h63 hb (Nat.zero_le _)
    exact ⟨v', w', hrun, h2, h3, h5⟩
theorem look_pair {fr id i : Nat} {b b' x : Box} (h : look i [(fr, b), (id, b')] = some x) : (i = fr ∧ x = b) ∨ (i ≠ fr ∧ i = id ∧ x = b') := by
  rw [look_cons] at h
  split at h
  · rename_i hk; injection h with h; exact .inl ⟨hk.symm, h.symm⟩
  · rename_i hk
    obtain ⟨h1, h2⟩ := look_one h
    exact .inr ⟨fun e => hk e.symm, h1, h2⟩
theorem look_pair_none {fr id i : Nat} {b b' : Box} (h : look i [(fr, b), (id, b')] = none) : i ≠ fr ∧ i ≠ id := by
  rw [look_cons] at h
  split at h
  · cases h
  · rename_i hk; exact ⟨fun e => hk e.symm, look_one_none h⟩
theorem Mem.append_box {C : Ctx} {γ : Bx} {ρ : Nat → Value} {I : Nat → Prop} {w w' : World} (hm : Mem C γ ρ I w) {fr id : Nat} (hf : look fr γ = none) {E : TypeId} {sz : Nat} {es ns : List (List D)} (hl : look id γ = some (.row E sz es)) {v' : Value} {xs : List Value}
    (hg : w.grownBy w' (ρ id).ownBlock) (hblk : v'.ownBlock = (ρ id).ownBlock ∨ v'.ownBlock = some w.heap.size) (hown : w'.ownsRow 0 E sz v' (es.length + ns.length) xs) (hR : RepR I w sz (es ++ ns) xs) :
    Mem C ([(fr, .row E sz (es ++ ns)), (id, .dead)] ++ γ) (updF ρ fr v') I w' ∧ Ext γ ρ I w (updF ρ fr v') I w' := by
  obtain ⟨xs0, k1, k2⟩ := hm.box id _ hl
  obtain ⟨ad, c, k3, _⟩ := own_form k1
  have hb0 : blk (ρ id) = (ρ id).ownBlock := blk_own k3
  obtain ⟨ad', c', k4, _⟩ := own_form hown
  have hb1 : blk v' = v'.ownBlock := blk_own k4
  have hne : id ≠ fr := fun e => by rw [e, hf] at hl; cases hl
  have hx : Ext γ ρ I w (updF ρ fr v') I w' := ⟨⟨fun _ h => h, fun g h => hg.block g (hm.imm g h) (fun e => by
    exact (hm.own id _ g hl (hb0.trans e.symm)).2.1 h)⟩, upd_dom hf ρ v'⟩
  have hlt : ∀ g, v'.ownBlock = some g → g < w'.heap.size := fun g h => (hown.lt g h).2
  refine ⟨hm.upd _ hx hg.os hg.tape hg.output hg.size (fun g h => Nat.lt_of_lt_of_le (hm.imm g h) hg.size) (fun g h => .inl h) (fun k => (ρ id).ownBlock = some k) (fun k hk hn => hg.block k hk (fun e => hn e.symm)) (fun k h => (hm.own id _ k hl (hb0.trans h)).2.2)
    (fun i b g hi hn hbk => ⟨fun e => ?_, (hm.own i b g hi hbk).2.1⟩) (fun i b h => ?_) (fun i j b b' g hi hj hl1 hl2 => ?_), hx⟩
  · exact (look_pair_none hn).2 (hm.inj i id b _ g hi hl hbk (hb0.trans e))
  · rcases look_pair h with ⟨rfl, rfl⟩ | ⟨h1, rfl, rfl⟩
    · refine ⟨⟨xs, by rw [upd_same, List.length_append]; exact hown, RepR.ext hx.toExtI _ _ _ hR⟩, trivial, fun g hbk => ?_⟩
      have hbk : blk _ = some g := hbk
      rw [upd_same, hb1] at hbk
      refine ⟨hlt g hbk, ?_, ?_, fun id2 b2 hl2 hn2 hbk2 => ?_⟩
      · rcases hblk with h | h
        · exact (hm.own id _ g hl (hb0.trans (h.symm.trans hbk))).2.1
        · intro hI
          rw [h] at hbk
          injection hbk with hbk
          have := hm.imm g hI
          omega
      · rcases hblk with h | h
        · exact (hm.own id _ g hl (hb0.trans (h.symm.trans hbk))).2.2
        · rw [h] at hbk
          injection hbk with hbk
          have := hm.size
          exact .inl (by omega)
      · rcases hblk with h | h
        · exact (look_pair_none hn2).2 (hm.inj id2 id b2 _ g hl2 hl hbk2 (hb0.trans (h.symm.trans hbk)))
        · have := (hm.own id2 b2 g hl2 hbk2).1
          rw [h] at hbk
          injection hbk with hbk
          omega
    · exact ⟨trivial, trivial, fun g h => by cases h⟩
  · rcases look_pair hi with ⟨e1, rfl⟩ | ⟨_, _, rfl⟩
    · rcases look_pair hj with ⟨e2, rfl⟩ | ⟨_, _, rfl⟩
      · rw [e1, e2]
      · cases hl2
    · cases hl1
theorem does_append_nil {T el : TypeId} {t te : TyI} {s x : Operand} {ns : List (List D)} (ht : mkTy P T = some t) (hk : t.kind = .slice el) (hte : mkTy P el = some te) (hs : e s = .d .nl) (hx : newsA β te.size (e x) = some ns) (hsz : 0 < te.size)
    (hb : ns.length * te.bytes ≤ 140737488355328) (h63 : ns.length ≤ 9223372036854775807) (hf : look fr β = none) :
    Does P (some fr) (.call { callee := .builtin .append, args := #[s, x], argTypes := #[T, T] }) ty e β (.ow fr ns.length) [(fr, .row el te.size ns)] (idsA (e x)) := by
  intro C γ hag ρ I w hm a hops o ho hd hty K Q hK
  have hf2 : look fr γ = none := (hag fr (by simp)).trans hf
  have h1 := (hops s (by simp [Op.operands, Call.operands])).2
  have h2 := (hops x (by simp [Op.operands, Call.operands])).2
  rw [hs] at h1
  have h1 : a.eval s = .slice none 0 0 := h1
  obtain ⟨ad, c, news, h3, h4, h5⟩ := news_ok hm (fun id hid => hag id (List.mem_append_left _ hid)) hx h2
  obtain ⟨i, d, z, _, hu, _, _, _, _, _, hkd⟩ := mkTy_spec ht
  have hu2 : P.underlying T = some (.slice el) := by rw [hu, kind_slice (hkd.symm.trans hk)]
  obtain ⟨i', d', z', hi', _, hz', hsz', hby', _, hzr', _, hone', hzs'⟩ := mkTy_all hte
  rw [hsz'] at h4 hsz
  have hown0 : w.ownsRow 0 el i'.size (.slice none 0 0) 0 [] := World.ownsRow_nil w 0 el i'.size
  obtain ⟨v', w', hrun, hown, hgr, hbl⟩ := run_append_rows (P := P) o.type hu2 hi' hz' hzs' hsz hown0 h4 h5 (by unfold maxLen; omega) (by rw [← hby']; simpa using hb) (c := c)
  rw [Nat.zero_add, List.nil_append, ← hsz'] at hown
  rw [← hsz'] at h4
  obtain ⟨ad', c', k4, _⟩ := own_form hown
  obtain ⟨m1, m2⟩ := hm.new_box hf2 (v := v') (b := .row el te.size ns) hgr (fun g hg => by
      rw [blk_own k4] at hg
      have := (hown.lt g hg).2
      rcases hbl with h | h
      · rw [h] at hg; cases hg
      · rw [h] at hg; injection hg with hg; omega) (fun hx => ⟨news, by rw [upd_same]; exact hown, RepR.ext hx.toExtI _ _ _ h4⟩) trivial
  unfold Oper.wp
  have hrun : (execOp a.eval o).run P w = .ok (.value v') w' := by
    simp [execOp, ho, resolve, invoke, builtin, Sem.run_bind, h1, h3, hrun]
  rw [hrun, Oper.upon_value, hd]
  exact hK _ _ I w' m1 m2 (by unfold A.inB dom; simp [look_append, look_cons]) (ow_rep hown (upd_same _ _ _))
theorem does_append_own {T el : TypeId} {t te : TyI} {s x : Operand} {id n : Nat} {es ns : List (List D)} (ht : mkTy P T = some t) (hk : t.kind = .slice el) (hte : mkTy P el = some te) (hs : e s = .ow id n) (hl : look id β = some (.row el te.size es)) (hx : newsA β te.size (e x) = some ns) (hsz : 0 < te.size)
    (hb : (es.length + ns.length) * te.bytes ≤ 140737488355328) (h63 : es.length + ns.length ≤ 9223372036854775807) (hf : look fr β = none) :
    Does P (some fr) (.call { callee := .builtin .append, args := #[s, x], argTypes := #[T, T] }) ty e β (.ow fr (es.length + ns.length)) [(fr, .row el te.size (es ++ ns)), (id, .dead)] (id :: idsA (e x)) := by
  intro C γ hag ρ I w hm a hops o ho hd hty K Q hK
  have hf2 : look fr γ = none := (hag fr (by simp)).trans hf
  have hl2 : look id γ = some (.row el te.size es) := (hag id (by simp)).trans hl
  have h1 := (hops s (by simp [Op.operands, Call.operands])).2
  have h2 := (hops x (by simp [Op.operands, Call.operands])).2
  rw [hs] at h1
  have h1 : a.eval s = ρ id := h1.1
  obtain ⟨ad, c, news, h3, h4, h5⟩ := news_ok hm (fun id hid => hag id (List.mem_append_left _ (List.mem_cons_of_mem _ hid))) hx h2
  obtain ⟨i, d, z, _, hu, _, _, _, _, _, hkd⟩ := mkTy_spec ht
  have hu2 : P.underlying T = some (.slice el) := by rw [hu, kind_slice (hkd.symm.trans hk)]
  obtain ⟨i', d', z', hi', _, hz', hsz', hby', _, hzr', _, hone', hzs'⟩ := mkTy_all hte
  obtain ⟨xs0, k1, k2⟩ := hm.box id _ hl2
  rw [hsz'] at h4 hsz k1
  obtain ⟨v', w', hrun, hown, hgr, hbl⟩ := run_append_rows (P := P) o.type hu2 hi' hz' hzs' hsz k1 h4 h5 (by unfold maxLen; omega) (by rw [← hby']; exact hb) (c := c)
  rw [← hsz'] at hown h4
  obtain ⟨m1, m2⟩ := hm.append_box hf2 hl2 hgr hbl hown (repR_append k2 h4)
  unfold Oper.wp
  have hrun : (execOp a.eval o).run P w = .ok (.value v') w' := by
    simp [execOp, ho, resolve, invoke, builtin, Sem.run_bind, h1, h3, hrun]
  rw [hrun, Oper.upon_value, hd]
  exact hK _ _ I w' m1 m2 (by unfold A.inB dom; simp [look_append, look_cons]) (ow_rep hown (upd_same _ _ _))

theorem repR_set {I : Nat → Prop} {w : World} {sz : Nat} {ds : List D} {us : List Value} (hc : RepC I w true ds us) (hlen : ds.length = sz) : ∀ {es : List (List D)} {l : List Value} (i : Nat), RepR I w sz es l → i < es.length → RepR I w sz (es.set i ds) (putAt l (i * sz) us)
  | [], l, i, h, hi => by simp at hi
  | e0 :: es, _, 0, ⟨vs, vs', rfl, h1, h2, h3⟩, _ => by
    have a1 := repC_len hc
    have a2 := repC_len h2
    refine ⟨us, vs', ?_, hlen, hc, h3⟩
    unfold putAt
    rw [Nat.zero_mul, Nat.zero_add, List.take_zero, List.nil_append, List.drop_append, List.drop_eq_nil_of_le (by omega), List.nil_append, show us.length - vs.length = 0 by omega, List.drop_zero]
  | e0 :: es, _, i + 1, ⟨vs, vs', rfl, h1, h2, h3⟩, hi => by
    have a2 := repC_len h2
    have ih := repR_set hc hlen i h3 (by simpa using hi)
    refine ⟨vs, _, ?_, h1, h2, ih⟩
    have e1 : (i + 1) * sz = vs.length + i * sz := by rw [Nat.add_mul, Nat.one_mul]; omega
    unfold putAt
    rw [e1, List.take_append, List.take_of_length_le (by omega), List.drop_append, List.drop_eq_nil_of_le (by omega), List.nil_append]
    rw [show vs.length + i * sz - vs.length = i * sz by omega, show vs.length + i * sz + us.length - vs.length = i * sz + us.length by omega]
    simp
theorem putAt_mid {α : Type} (l ds z us : List α) (b : Nat) (h : b + us.length ≤ ds.length) : putAt (l ++ (ds ++ z)) (l.length + b) us = l ++ (putAt ds b us ++ z) := by
  unfold putAt
  rw [List.take_append, List.take_of_length_le (Nat.le_add_right _ _), Nat.add_sub_cancel_left, List.take_append_of_le_length (by omega), Nat.add_assoc, List.drop_append, List.drop_eq_nil_of_le (Nat.le_add_right _ _), List.nil_append, Nat.add_sub_cancel_left, List.drop_append_of_le_length (by omega)]
  simp
theorem putAt_putAt {α : Type} {l ds : List α} {a b : Nat} {us : List α} (h : (l.drop a).take ds.length = ds) (ha : a + ds.length ≤ l.length) (hb : b + us.length ≤ ds.length) : putAt l (a + b) us = putAt l a (putAt ds b us) := by
  have hl : l = l.take a ++ (ds ++ l.drop (a + ds.length)) := by
    conv => lhs; rw [← List.take_append_drop a l]
    congr 1
    conv => lhs; rw [← List.take_append_drop ds.length (l.drop a), h]
    rw [List.drop_drop]
  have hta : (l.take a).length = a := by rw [List.length_take]; omega
  have e1 := putAt_mid (l.take a) ds (l.drop (a + ds.length)) us b hb
  rw [← hl, hta] at e1
  rw [e1]
  conv => rhs; unfold putAt
  have e2 : (putAt ds b us).length = ds.length := putAt_length hb
  unfold putAt at e2
  rw [e2]
  unfold putAt
  simp
/-- One cell, or several, of an element of an own row is written. -/
theorem does_store_own {T : TypeId} {t : TyI} {x y : Operand} {id sz i off : Nat} {E : TypeId} {es : List (List D)} {el : List D} {d : D} (ht : mkTy P T = some t) (hx : e x = .pr id sz i off) (hy : e y = .d d) (h1 : d.cells.all D.one = true) (hl : look id β = some (.row E sz es)) (he : es[i]? = some el) (hs : d.cells.length = t.size) (hoff : off + t.size ≤ el.length) :
    Does P dst (.store T x y) ty e β .un [(id, .row E sz (es.set i (putAt el off d.cells)))] [id] := by
  intro C γ hag ρ I w hm a hops o ho hd hty K Q hK
  have hl2 : look id γ = some (.row E sz es) := (hag id (by simp)).trans hl
  obtain ⟨hb, hp⟩ := hops x (by simp [Op.operands])
  obtain ⟨hvb, hv⟩ := hops y (by simp [Op.operands])
  rw [hx] at hp
  rw [hy] at hv
  obtain ⟨g, n, c, hρ, hin, hp⟩ := hp
  obtain ⟨xs, k1, k2⟩ := hm.box id _ hl2
  have hcv := cellsD_rep hv h1
  have hcl := repC_len hcv
  obtain ⟨us, q1, q2, q3, q4⟩ := repR_get k2 he
  have hn : n = es.length := by
    obtain ⟨ad, c', k3, _⟩ := own_form k1
    rw [hρ] at k3; injection k3
  rw [hρ] at k1
  rcases k1.2 with ⟨h', _⟩ | ⟨g', cap', cur, h', _, hg, hnc, hcm, hcs, htk⟩
  · cases h'
  injection h' with h' _ h''
  injection h' with h'
  injection h' with h'
  subst h' h''
  have hil : i < es.length := (List.getElem?_eq_some_iff.1 he).1
  have hisz : i * sz + sz ≤ es.length * sz := by have := Nat.mul_le_mul_right sz hil; rw [Nat.succ_mul] at this; exact this
  have hcap : es.length * sz ≤ c * sz := Nat.mul_le_mul_right sz hnc
  have hxl := repR_len k2
  have hfit : i * sz + off + (a.eval y).cells.toList.length ≤ cur.size := by omega
  have hthere : w.there g (i * sz + off) (a.eval y).cells.size := fun j hj => by
    refine ⟨?_, by simp [World.frozen?, hg]⟩
    rw [← Array.length_toList] at hj
    rw [cell_in hg, Array.getElem?_eq_getElem (by omega)]; rfl
  obtain ⟨ii, dd, z, hi, _, _, hsz, _⟩ := mkTy_spec ht
  have hone : (a.eval y).cells.all (·.oneCell') = true := Array.all_eq_true_iff_forall_mem.2 fun v hv' => repC_one hcv v (by simpa using hv')
  have hrun0 : (storeVar T ⟨g, i * sz + off, none⟩ (a.eval y)).run P w = .ok () (w.setCells g (i * sz + off) (a.eval y).cells.toList) := by
    have h0 := run_storeVar_mid (P := P) w g (i * sz + off) T (a.eval y).cells hthere (by rw [hi]; simp; rw [← Array.length_toList]; omega) hone
    have : storeVar T ⟨g, i * sz + off, none⟩ (a.eval y) = storeVar T ⟨g, i * sz + off, none⟩ (.agg (a.eval y).cells) := rfl
    rw [this]; exact h0
  have hgr := setCells_grown g (a.eval y).cells.toList (i * sz + off) w
  obtain ⟨us', e1, e2⟩ := setCells_at (g := g) (a.eval y).cells.toList (i * sz + off) w cur hg hfit
  have hR2 : RepR I w sz (es.set i (putAt el off d.cells)) (putAt xs (i * sz + off) (a.eval y).cells.toList) := by
    have hp2 := repR_set (repC_putAt q1 hcv off) (by rw [putAt_length (by omega)]; exact q2) i k2 hil
    rwa [putAt_putAt (by rw [q3]; exact q4) (by omega) (by omega)]
  have hmem := hm.set_box hl2 rfl (g := g) (by rw [hρ]; rfl) hgr (b := .row E sz (es.set i (putAt el off d.cells))) (fun hx => ⟨putAt xs (i * sz + off) (a.eval y).cells.toList, by
    rw [hρ, List.length_set, ← hn]
    refine ⟨by rw [putAt_length (by rw [hxl, hcl]; omega)]; rw [hn]; exact hxl, .inr ⟨g, c, us', rfl, Nat.zero_le _, e1, by omega, hcm, ?_, ?_⟩⟩
    · rw [← Array.length_toList, e2, putAt_length (by rw [Array.length_toList]; omega), Array.length_toList, hcs]
    · rw [e2, ← htk]
      rw [hn] at *
      unfold putAt
      have hcl2 : cur.toList.length = c * sz := by rw [Array.length_toList, hcs]
      have t1 : (cur.toList.take (es.length * sz)).take (i * sz + off) = cur.toList.take (i * sz + off) := by rw [List.take_take]; congr 1; omega
      have t2 : ((cur.toList.take (es.length * sz)).drop (i * sz + off + (a.eval y).cells.toList.length)) = (cur.toList.drop (i * sz + off + (a.eval y).cells.toList.length)).take (es.length * sz - (i * sz + off + (a.eval y).cells.toList.length)) := by rw [List.drop_take]
      rw [t1, t2]
      have l1 : (cur.toList.take (i * sz + off) ++ (a.eval y).cells.toList).length = i * sz + off + (a.eval y).cells.toList.length := by rw [List.length_append, List.length_take]; omega
      rw [List.take_append, List.take_of_length_le (show (cur.toList.take (i * sz + off) ++ (a.eval y).cells.toList).length ≤ es.length * sz by rw [l1]; omega), l1], RepR.ext hx.toExtI _ _ _ hR2⟩) trivial
  unfold Oper.wp
  have hrun : (execOp a.eval o).run P w = .ok .skip (w.setCells g (i * sz + off) (a.eval y).cells.toList) := by
    simp only [execOp, ho, hp, Instr.storeAt, Instr.sureAddr, Sem.run_bind, Sem.run_pure, Result.andThen_ok, hrun0]
  rw [hrun, Oper.upon_skip, hd]
  exact hK _ ρ I _ hmem.1 hmem.2 trivial trivial
end
end Go.Proofs.YtfplkakfakdfhaaDoor


/-
  The pure layer: a function's contract, calls, what a body hands back. No condition.
-/
namespace Go.Proofs.YtfplkakfakdfhaaDoor
set_option linter.unusedSimpArgs false
set_option linter.unusedVariables false
open Go.RowKit

def frz1 (β : Bx) : A → Option D
  | .d x => some x
  | .ow id _ => match rowsOf β id with
    | some (sz, es) => some (.sl sz es)
    | none => none
  | _ => none
def frz1U (β : Bx) : A → Bx
  | .ow id _ => match rowsOf β id with
    | some (sz, es) => [(id, .frz sz es)]
    | none => []
  | _ => []
def frz1s (β : Bx) : List A → Option (List D)
  | [] => some []
  | x :: r => match frz1 β x, frz1s β r with
    | some d, some ds => some (d :: ds)
    | _, _ => none
def frz1sU (β : Bx) : List A → Bx
  | [] => []
  | x :: r => frz1sU β r ++ frz1U β x
def frzV (β : Bx) : A → Option D
  | .ag cs => match frz1s β cs with
    | some ds => some (.ag ds)
    | none => none
  | v => frz1 β v
def frzVU (β : Bx) : A → Bx
  | .ag cs => frz1sU β cs
  | v => frz1U β v
def frzVs (β : Bx) : List A → Option (List D)
  | [] => some []
  | x :: r => match frzV β x, frzVs β r with
    | some d, some ds => some (d :: ds)
    | _, _ => none
def frzVsU (β : Bx) : List A → Bx
  | [] => []
  | x :: r => frzVsU β r ++ frzVU β x
def ids1 : A → List Nat
  | .ow id _ => [id]
  | _ => []
def idsV : A → List Nat
  | .ag cs => cs.flatMap ids1
  | v => ids1 v
theorem rowsOf_frz {γ : Bx} {id : Nat} {sz : Nat} {es : List (List D)} (h : rowsOf γ id = some (sz, es)) (i : Nat) : rowsOf ([(id, .frz sz es)] ++ γ) i = rowsOf γ i := by
  by_cases hi : i = id
  · subst hi
    rw [h]
    unfold rowsOf
    simp [look_append, look_cons]
  · unfold rowsOf
    have : look i ([(id, Box.frz sz es)] ++ γ) = look i γ := by
      rw [look_append, look_cons, if_neg (Ne.symm hi)]; rfl
    rw [this]
theorem Ext.trans {β γ : Bx} {ρ ρ' ρ2 : Nat → Value} {I I' I2 : Nat → Prop} {w w' w2 : World} (h : Ext β ρ I w ρ' I' w') (h2 : Ext γ ρ' I' w' ρ2 I2 w2) (hd : ∀ i, dom β i → dom γ i) : Ext β ρ I w ρ2 I2 w2 :=
  ⟨⟨fun g hg => h2.imm g (h.imm g hg), fun g hg => (h2.same g (h.imm g hg)).trans (h.same g hg)⟩, fun i hi => (h2.rho i (hd i hi)).trans (h.rho i hi)⟩
/-- Frozen or not: a row is read as data from now on. -/
theorem Mem.freeze_any {C : Ctx} {γ : Bx} {ρ : Nat → Value} {I : Nat → Prop} {w : World} (hm : Mem C γ ρ I w) {id sz : Nat} {es : List (List D)} (h : rowsOf γ id = some (sz, es)) :
    ∃ I', Mem C ([(id, .frz sz es)] ++ γ) ρ I' w ∧ Ext γ ρ I w ρ I' w ∧ RepD I' w (.sl sz es) (ρ id) := by
  have hr : ∀ {I'}, Mem C ([(id, .frz sz es)] ++ γ) ρ I' w → RepD I' w (.sl sz es) (ρ id) := fun hm' => hm'.box id (.frz sz es) (by simp [look_append, look_cons])
  unfold rowsOf at h
  split at h
  · rename_i hl
    injection h with h; injection h with e1 e2; subst e1 e2
    obtain ⟨I', h1, h2⟩ := hm.freeze hl
    exact ⟨I', h1, h2, hr h1⟩
  · rename_i sz0 es0 hl
    injection h with h; injection h with e1 e2; subst e1 e2
    have hm' : Mem C ([(id, .frz sz0 es0)] ++ γ) ρ I w := hm.congr fun i => by
      rw [look_append, look_cons]
      split
      · rename_i hi; subst hi; rw [hl]; rfl
      · rfl
    exact ⟨I, hm', Ext.refl _ _ _ _, hr hm'⟩
  · cases h
theorem freeze_one {C : Ctx} {γ : Bx} {ρ : Nat → Value} {I : Nat → Prop} {w : World} (hm : Mem C γ ρ I w) {v : A} {u : Value} {d : D} (hr : RepA ρ I w v u) (h : frz1 γ v = some d) :
    ∃ I', Mem C (frz1U γ v ++ γ) ρ I' w ∧ Ext γ ρ I w ρ I' w ∧ RepD I' w d u ∧ ((v.one = true) → d.one = true) ∧ ∀ i, rowsOf (frz1U γ v ++ γ) i = rowsOf γ i := by
  cases v with
  | d x =>
    simp only [frz1, Option.some.injEq] at h
    subst h
    exact ⟨I, by simpa [frz1U] using hm, Ext.refl _ _ _ _, hr, fun h => h, fun i => rfl⟩
  | ow id n =>
    simp only [frz1] at h
    split at h
    · rename_i sz es hro
      simp only [Option.some.injEq] at h
      subst h
      obtain ⟨I', h1, h2, h3⟩ := hm.freeze_any hro
      have e1 : frz1U γ (.ow id n) = [(id, .frz sz es)] := by simp [frz1U, hro]
      rw [e1]
      refine ⟨I', h1, h2, ?_, fun _ => rfl, rowsOf_frz hro⟩
      rw [hr.1]; exact h3
    · cases h
  | _ => cases h
theorem frz1_congr {γ δ : Bx} (h : ∀ i, rowsOf δ i = rowsOf γ i) (v : A) : frz1 δ v = frz1 γ v ∧ frz1U δ v = frz1U γ v := by
  cases v <;> simp [frz1, frz1U, h]
theorem frz1s_congr {γ δ : Bx} (h : ∀ i, rowsOf δ i = rowsOf γ i) : ∀ l : List A, frz1s δ l = frz1s γ l ∧ frz1sU δ l = frz1sU γ l
  | [] => ⟨rfl, rfl⟩
  | x :: r => by
    obtain ⟨h1, h2⟩ := frz1_congr h x
    obtain ⟨h3, h4⟩ := frz1s_congr h r
    simp only [frz1s, frz1sU, h1, h2, h3, h4, and_self]
theorem freeze_ones {C : Ctx} {ρ : Nat → Value} {w : World} {o : Bool} : ∀ (l : List A) (us : List Value) (ds : List D) (γ : Bx) (I : Nat → Prop), Mem C γ ρ I w → A.insB γ l → RepAs ρ I w o l us → frz1s γ l = some ds →
    ∃ I', Mem C (frz1sU γ l ++ γ) ρ I' w ∧ Ext γ ρ I w ρ I' w ∧ RepC I' w o ds us ∧ ∀ i, rowsOf (frz1sU γ l ++ γ) i = rowsOf γ i
  | [], us, ds, γ, I, hm, hb, hr, h => by
    simp only [frz1s, Option.some.injEq] at h
    subst h
    exact ⟨I, by simpa [frz1sU] using hm, Ext.refl _ _ _ _, hr, fun i => rfl⟩
  | v :: l, _, ds, γ, I, hm, hb, ⟨u, us, rfl, ho, hv, hr⟩, h => by
    simp only [frz1s] at h
    split at h
    · rename_i d ds' h1 h2
      simp only [Option.some.injEq] at h
      subst h
      obtain ⟨I1, m1, x1, r1, o1, c1⟩ := freeze_one hm hv h1
      have hd : ∀ i, dom γ i → dom (frz1U γ v ++ γ) i := fun i hi => dom_append hi
      obtain ⟨e1, e2⟩ := frz1s_congr c1 l
      obtain ⟨I2, m2, x2, r2, c2⟩ := freeze_ones l us ds' (frz1U γ v ++ γ) I1 m1 (A.insB_mono hd l hb.2) (RepAs.ext x1 o l us hb.2 hr) (by rw [e1]; exact h2)
      rw [e2, ← List.append_assoc] at m2 c2
      exact ⟨I2, m2, x1.trans x2 hd, ⟨u, us, rfl, fun h => o1 (ho h), RepD.ext x2.toExtI d u r1, r2⟩, fun i => (c2 i).trans (c1 i)⟩
    · cases h
theorem freeze_val {C : Ctx} {γ : Bx} {ρ : Nat → Value} {I : Nat → Prop} {w : World} (hm : Mem C γ ρ I w) {v : A} {u : Value} {d : D} (hb : v.inB γ) (hr : RepA ρ I w v u) (h : frzV γ v = some d) :
    ∃ I', Mem C (frzVU γ v ++ γ) ρ I' w ∧ Ext γ ρ I w ρ I' w ∧ RepD I' w d u ∧ ∀ i, rowsOf (frzVU γ v ++ γ) i = rowsOf γ i := by
  have hone : frz1 γ v = some d → ∃ I', Mem C (frz1U γ v ++ γ) ρ I' w ∧ Ext γ ρ I w ρ I' w ∧ RepD I' w d u ∧ ∀ i, rowsOf (frz1U γ v ++ γ) i = rowsOf γ i := fun h => by
    obtain ⟨I', h1, h2, h3, _, h5⟩ := freeze_one hm hr h
    exact ⟨I', h1, h2, h3, h5⟩
  cases v with
  | ag cs =>
    simp only [frzV] at h
    split at h
    · rename_i ds hds
      simp only [Option.some.injEq] at h
      subst h
      obtain ⟨us, rfl, hr⟩ := hr
      obtain ⟨I', h1, h2, h3, h4⟩ := freeze_ones cs _ ds γ I hm hb hr hds
      exact ⟨I', h1, h2, ⟨us, rfl, h3⟩, h4⟩
    · cases h
  | _ => exact hone h
theorem frzV_congr {γ δ : Bx} (h : ∀ i, rowsOf δ i = rowsOf γ i) (v : A) : frzV δ v = frzV γ v ∧ frzVU δ v = frzVU γ v := by
  have h0 := frz1_congr h v
  cases v with
  | ag cs => simp only [frzV, frzVU, (frz1s_congr h cs).1, (frz1s_congr h cs).2, and_self]
  | _ => exact h0
theorem frzVs_congr {γ δ : Bx} (h : ∀ i, rowsOf δ i = rowsOf γ i) : ∀ l : List A, frzVs δ l = frzVs γ l ∧ frzVsU δ l = frzVsU γ l
  | [] => ⟨rfl, rfl⟩
  | x :: r => by
    obtain ⟨h1, h2⟩ := frzV_congr h x
    obtain ⟨h3, h4⟩ := frzVs_congr h r
    simp only [frzVs, frzVsU, h1, h2, h3, h4, and_self]
theorem freeze_vals {C : Ctx} {ρ : Nat → Value} {w : World} : ∀ (l : List A) (us : List Value) (ds : List D) (γ : Bx) (I : Nat → Prop), Mem C γ ρ I w → A.insB γ l → RepAs ρ I w false l us → frzVs γ l = some ds →
    ∃ I', Mem C (frzVsU γ l ++ γ) ρ I' w ∧ Ext γ ρ I w ρ I' w ∧ RepC I' w false ds us ∧ ∀ i, rowsOf (frzVsU γ l ++ γ) i = rowsOf γ i
  | [], us, ds, γ, I, hm, hb, hr, h => by
    simp only [frzVs, Option.some.injEq] at h
    subst h
    exact ⟨I, by simpa [frzVsU] using hm, Ext.refl _ _ _ _, hr, fun i => rfl⟩
  | v :: l, _, ds, γ, I, hm, hb, ⟨u, us, rfl, ho, hv, hr⟩, h => by
    simp only [frzVs] at h
    split at h
    · rename_i d ds' h1 h2
      simp only [Option.some.injEq] at h
      subst h
      obtain ⟨I1, m1, x1, r1, c1⟩ := freeze_val hm hb.1 hv h1
      have hd : ∀ i, dom γ i → dom (frzVU γ v ++ γ) i := fun i hi => dom_append hi
      obtain ⟨e1, e2⟩ := frzVs_congr c1 l
      obtain ⟨I2, m2, x2, r2, c2⟩ := freeze_vals l us ds' (frzVU γ v ++ γ) I1 m1 (A.insB_mono hd l hb.2) (RepAs.ext x1 false l us hb.2 hr) (by rw [e1]; exact h2)
      rw [e2, ← List.append_assoc] at m2 c2
      exact ⟨I2, m2, x1.trans x2 hd, ⟨u, us, rfl, fun h => by (cases h), RepD.ext x2.toExtI d u r1, r2⟩, fun i => (c2 i).trans (c1 i)⟩
    · cases h

/-! ### contracts -/
def okBlocks (I : Nat → Prop) (w : World) : Prop := (∀ g, I g → g < w.heap.size) ∧ GlOk I w
def Enters (P : Program) (f : FuncId) : Prop := ∀ args w, (callFunc f args).run P w = .ok (.enter f args) w
/-- A call's contract: what comes in, what comes out; nothing that was there turns. -/
structure PC (P : Program) (f : FuncId) (ds : List D) (r : D) : Prop where
  enters : Enters P f
  calls : ∀ (I : Nat → Prop) (w : World) (vs : Array Value), okBlocks I w → RepC I w false ds vs.toList →
    Calls P f vs w fun e w' => ∃ v, e = .returned v ∧ RepD (fun g => (I g ∨ w.heap.size ≤ g) ∧ g < w'.heap.size) w' r v ∧ Below w.heap.size w w'
theorem enters_of {P : Program} {f : FuncId} {fn : Func} {c : Code} (hf : P.funcs[f]? = some fn) (hb : fn.body = some c) (hn : (fn.name == "runtime.NumGoroutine") = false) : Enters P f := by
  intro args w
  unfold callFunc
  simp [Sem.run_bind, hf, hb]
  have : ¬ fn.name = "runtime.NumGoroutine" := by simpa using hn
  simp [this]
mutual
theorem flat_rep {I I' : Nat → Prop} {w w' : World} : ∀ (d : D) (v : Value), d.flat = true → RepD I w d v → RepD I' w' d v
  | .sc _, _, _, h => h
  | .nl, _, _, h => h
  | .sl _ _, _, h, _ => by cases h
  | .ag cs, _, h, ⟨us, h1, h2⟩ => ⟨us, h1, flats_rep true cs _ h h2⟩
  | .tu cs, _, h, ⟨us, h1, h2⟩ => ⟨us, h1, flats_rep false cs _ h h2⟩
theorem flats_rep {I I' : Nat → Prop} {w w' : World} (o : Bool) : ∀ (ds : List D) (vs : List Value), D.flats ds = true → RepC I w o ds vs → RepC I' w' o ds vs
  | [], _, _, h => h
  | d :: ds, _, h, ⟨u, us, h1, h2, h3, h4⟩ => by
    simp only [D.flats, Bool.and_eq_true] at h
    exact ⟨u, us, h1, h2, flat_rep d u h.1 h3, flats_rep o ds us h.2 h4⟩
end
/-- Behind a call that turned nothing that was there. -/
theorem Mem.call {C : Ctx} {γ : Bx} {ρ : Nat → Value} {I : Nat → Prop} {w w' : World} (hm : Mem C γ ρ I w) (hb : Below w.heap.size w w') :
    Mem C γ ρ (fun g => (I g ∨ w.heap.size ≤ g) ∧ g < w'.heap.size) w' ∧ Ext γ ρ I w ρ (fun g => (I g ∨ w.heap.size ≤ g) ∧ g < w'.heap.size) w' := by
  have hx : Ext γ ρ I w ρ (fun g => (I g ∨ w.heap.size ≤ g) ∧ g < w'.heap.size) w' := ⟨⟨fun g hg => ⟨.inl hg, Nat.lt_of_lt_of_le (hm.imm g hg) hb.size⟩, fun g hg => hb.block g (hm.imm g hg)⟩, fun _ _ => rfl⟩
  refine ⟨?_, hx⟩
  have := hm.upd [] hx hb.os hb.tape hb.output hb.size (fun g h => h.2) (fun g h => by
    rcases h.1 with h | h
    · exact .inl h
    · exact .inr (.inl (Nat.le_trans hm.size h))) (fun _ => False) (fun k hk _ => hb.block k hk) (fun k h => h.elim) (fun id b g hl _ hg => ⟨fun h => h, fun h => by
      obtain ⟨h1, h2, _⟩ := hm.own id b g hl hg
      rcases h.1 with h | h
      · exact h2 h
      · omega⟩) (fun id b h => by cases h) (fun i j b b' g h => by cases h)
  simpa using this
section
variable {P : Program} {fr : Nat} {dst : Option Nat} {ty : TypeId} {e : Operand → A} {β : Bx}
theorem ops_rep {γ : Bx} {ρ : Nat → Value} {I : Nat → Prop} {w : World} {a : Act} : ∀ {l : List Operand}, (∀ x ∈ l, (e x).inB γ ∧ RepA ρ I w (e x) (a.eval x)) → A.insB γ (l.map e) ∧ RepAs ρ I w false (l.map e) (l.map a.eval)
  | [], _ => ⟨trivial, rfl⟩
  | x :: l, h => by
    obtain ⟨h1, h2⟩ := ops_rep fun y hy => h y (List.mem_cons_of_mem _ hy)
    obtain ⟨h3, h4⟩ := h x (by simp)
    exact ⟨⟨h3, h1⟩, _, _, rfl, fun h => by (cases h), h4, h2⟩
theorem frz_agree {γ : Bx} : ∀ {l : List A}, (∀ id ∈ l.flatMap idsV, look id γ = look id β) → frzVs γ l = frzVs β l ∧ frzVsU γ l = frzVsU β l := by
  have h1 : ∀ v : A, (∀ id ∈ ids1 v, look id γ = look id β) → frz1 γ v = frz1 β v ∧ frz1U γ v = frz1U β v := fun v h => by
    cases v with
    | ow id n => simp only [frz1, frz1U, rowsOf_agree (h id (by simp [ids1])), and_self]
    | _ => exact ⟨rfl, rfl⟩
  have h1s : ∀ l : List A, (∀ id ∈ l.flatMap ids1, look id γ = look id β) → frz1s γ l = frz1s β l ∧ frz1sU γ l = frz1sU β l := by
    intro l
    induction l with
    | nil => intro _; exact ⟨rfl, rfl⟩
    | cons v l ih =>
      intro h
      obtain ⟨a1, a2⟩ := h1 v fun id hi => h id (by simp [hi])
      obtain ⟨a3, a4⟩ := ih fun id hi => h id (by rw [List.flatMap_cons]; exact List.mem_append_right _ hi)
      simp only [frz1s, frz1sU, a1, a2, a3, a4, and_self]
  have hV : ∀ v : A, (∀ id ∈ idsV v, look id γ = look id β) → frzV γ v = frzV β v ∧ frzVU γ v = frzVU β v := fun v h => by
    have h0 := h1 v
    cases v with
    | ag cs =>
      obtain ⟨a1, a2⟩ := h1s cs h
      simp only [frzV, frzVU, a1, a2, and_self]
    | _ => exact h0 h
  intro l
  induction l with
  | nil => intro _; exact ⟨rfl, rfl⟩
  | cons v l ih =>
    intro h
    obtain ⟨a1, a2⟩ := hV v fun id hi => h id (by simp [hi])
    obtain ⟨a3, a4⟩ := ih fun id hi => h id (by rw [List.flatMap_cons]; exact List.mem_append_right _ hi)
    simp only [frzVs, frzVsU, a1, a2, a3, a4, and_self]
theorem run_call {f : FuncId} {c : Call} {x : Operand} {a : Act} {w : World} {fi ca : Array Value} (he : Enters P f) (hc : c.callee = .value x) (hx : a.eval x = .func (.func f) fi ca) (o : Oper) (ho : o.op = .call c) :
    (execOp a.eval o).run P w = .ok (.enter f (fi ++ c.args.map a.eval ++ ca)) w := by
  simp only [execOp, ho, resolve, hc, Sem.run_bind, hx, Deferred.ofValue, Sem.run_pure, Result.andThen_ok, invoke]
  exact he _ w
theorem call_args {γ : Bx} {ρ : Nat → Value} {I : Nat → Prop} {w : World} {a : Act} {x : Operand} {args : Array Operand} {ts : Array TypeId} {f : FuncId} {first captured : List A} (hx : e x = .fn (.func f) first captured)
    (hops : ∀ y ∈ (Op.call { callee := .value x, args := args, argTypes := ts }).operands.toList, (e y).inB γ ∧ RepA ρ I w (e y) (a.eval y)) :
    ∃ fi ca : Array Value, a.eval x = .func (.func f) fi ca ∧ A.insB γ (first ++ args.toList.map e ++ captured) ∧ RepAs ρ I w false (first ++ args.toList.map e ++ captured) (fi ++ args.map a.eval ++ ca).toList := by
  obtain ⟨hb, hr⟩ := hops x (by simp [Op.operands, Call.operands])
  rw [hx] at hb hr
  obtain ⟨us, vs, h1, h2, h3⟩ := hr
  obtain ⟨h4, h5⟩ := ops_rep (γ := γ) (ρ := ρ) (I := I) (w := w) (a := a) (e := e) (l := args.toList) fun y hy => hops y (by simp [Op.operands, Call.operands, Array.mem_toList_iff.1 hy])
  refine ⟨us, vs, h1, A.insB_of fun v hv => ?_, ?_⟩
  · simp only [List.mem_append] at hv
    rcases hv with (hv | hv) | hv
    · exact A.insB_mem hb.1 v hv
    · exact A.insB_mem h4 v hv
    · exact A.insB_mem hb.2 v hv
  · have := repAs_append (repAs_append h2 h5) h3
    simpa using this
theorem does_call_flat {x : Operand} {args : Array Operand} {ts : Array TypeId} {f : FuncId} {first captured : List A} {ds : List D} {r : D} (hx : e x = .fn (.func f) first captured) (hds : frzVs β (first ++ args.toList.map e ++ captured) = some ds) (hpc : PC P f ds r) (hfl : r.flat = true) :
    Does P dst (.call { callee := .value x, args := args, argTypes := ts }) ty e β (.d r) [] ((first ++ args.toList.map e ++ captured).flatMap idsV) := by
  intro C γ hag ρ I w hm a hops o ho hd hty K Q hK
  obtain ⟨fi, ca, h1, h2, h3⟩ := call_args hx hops
  obtain ⟨e1, e2⟩ := frz_agree (fun id hid => hag id (List.mem_append_left _ hid))
  obtain ⟨I', m1, x1, r1, _⟩ := freeze_vals _ _ ds γ I hm h2 h3 (e1.trans hds)
  unfold Oper.wp
  rw [run_call hpc.enters rfl h1 o ho, Oper.upon_enter]
  refine (hpc.calls I' w _ ⟨m1.imm, m1.gl⟩ r1).mono fun en w' ⟨v, he, hr, hb⟩ => ?_
  subst he
  have hm2 := hm.call hb
  simp only [hd]
  exact hK v ρ _ w' (by simpa using hm2.1) hm2.2 trivial (flat_rep r v hfl hr)
theorem does_call {x : Operand} {args : Array Operand} {ts : Array TypeId} {f : FuncId} {first captured : List A} {ds : List D} {r : D} (hx : e x = .fn (.func f) first captured) (hds : frzVs β (first ++ args.toList.map e ++ captured) = some ds) (hpc : PC P f ds r) :
    Does P dst (.call { callee := .value x, args := args, argTypes := ts }) ty e β (.d r) (frzVsU β (first ++ args.toList.map e ++ captured)) ((first ++ args.toList.map e ++ captured).flatMap idsV) := by
  intro C γ hag ρ I w hm a hops o ho hd hty K Q hK
  obtain ⟨fi, ca, h1, h2, h3⟩ := call_args hx hops
  obtain ⟨e1, e2⟩ := frz_agree (fun id hid => hag id (List.mem_append_left _ hid))
  obtain ⟨I', m1, x1, r1, _⟩ := freeze_vals _ _ ds γ I hm h2 h3 (e1.trans hds)
  unfold Oper.wp
  rw [run_call hpc.enters rfl h1 o ho, Oper.upon_enter]
  refine (hpc.calls I' w _ ⟨m1.imm, m1.gl⟩ r1).mono fun en w' ⟨v, he, hr, hb⟩ => ?_
  subst he
  have hm2 := m1.call hb
  rw [e2] at hm2
  simp only [hd]
  exact hK v ρ _ w' hm2.1 (x1.trans hm2.2 (fun i hi => dom_append hi)) trivial hr
/-- No argument is a slice of the call's own. -/
theorem does_call' {x : Operand} {args : Array Operand} {ts : Array TypeId} {f : FuncId} {first captured : List A} {ds : List D} {r : D} (hx : e x = .fn (.func f) first captured) (hds : frzVs β (first ++ args.toList.map e ++ captured) = some ds) (hu : frzVsU β (first ++ args.toList.map e ++ captured) = []) (hpc : PC P f ds r) :
    Does P dst (.call { callee := .value x, args := args, argTypes := ts }) ty e β (.d r) [] ((first ++ args.toList.map e ++ captured).flatMap idsV) := by
  have := does_call (P := P) (dst := dst) (ty := ty) (args := args) (ts := ts) hx hds hpc
  rwa [hu] at this
theorem PC.sub {f : FuncId} {ds ds' : List D} {r r' : D} (h : PC P f ds r) (hs : SubDs ds' ds) (hr : SubD r r') : PC P f ds' r' :=
  ⟨h.enters, fun I w vs hI hv => (h.calls I w vs hI (hs.rep hv)).mono fun e w' ⟨v, h1, h2, h3⟩ => ⟨v, h1, hr _ _ _ h2, h3⟩⟩
theorem PC.args {f : FuncId} {ds ds' : List D} {r : D} (h : PC P f ds r) (hs : SubDs ds' ds) : PC P f ds' r := h.sub hs (SubD.refl r)
/-- One box is frozen. -/
theorem does_call1 {x : Operand} {args : Array Operand} {ts : Array TypeId} {f : FuncId} {first captured : List A} {ds : List D} {r : D} {i : Nat} {b : Box} (hx : e x = .fn (.func f) first captured) (hds : frzVs β (first ++ args.toList.map e ++ captured) = some ds) (hu : frzVsU β (first ++ args.toList.map e ++ captured) = [(i, b)]) (hpc : PC P f ds r) :
    Does P dst (.call { callee := .value x, args := args, argTypes := ts }) ty e β (.d r) [(i, b)] ((first ++ args.toList.map e ++ captured).flatMap idsV) := by
  have := does_call (P := P) (dst := dst) (ty := ty) (args := args) (ts := ts) hx hds hpc
  rwa [hu] at this
end

/-! ### what a body hands back -/
def resV (P : Program) (s : St) : ResultVar → A → Prop
  | .tmp t, v => look t s.σ = some v
  | .cell t T, v => ∃ id off T0 cs ty, look t s.σ = some (.px id off) ∧ look id s.β = some (.var T0 cs) ∧ mkTy P T = some ty ∧
      ((ty.row = false ∧ cs[off]? = some v) ∨ (ty.row = true ∧ off + ty.size ≤ cs.length ∧ v = .ag ((cs.drop off).take ty.size)))
def resVs (P : Program) (s : St) : List ResultVar → List A → Prop
  | [], vs => vs = []
  | r :: rs, vs => ∃ v vs', vs = v :: vs' ∧ resV P s r v ∧ resVs P s rs vs'
def resD : List D → D
  | [d] => d
  | ds => .tu ds
def RetOk (P : Program) (rs : List ResultVar) (r : D) (s : St) : Prop := ∃ vs ds, resVs P s rs vs ∧ frzVs s.β vs = some ds ∧ SubD (resD ds) r
def retE (P : Program) (rs : List ResultVar) (r : D) : Exit → St → Prop
  | .normal, s => RetOk P rs r s
  | .ret, s => RetOk P rs r s
  | _, _ => False
def argS : Nat → List D → Sl
  | _, [] => []
  | i, d :: ds => (i, .d d) :: argS (i + 1) ds
def resRun (tmps : Array Value) : ResultVar → Sem Value
  | .tmp t => pure (tmps.getD t undef)
  | .cell a t => do loadVar t (← asAddr (tmps.getD a undef))
section
variable {P : Program}
theorem resV_run {C : Ctx} {s : St} {ρ : Nat → Value} {I : Nat → Prop} {w : World} {a : Act} (hm : Mem C s.β ρ I w) (hf : Fr C s.σ s.β ρ I w a) {r : ResultVar} {v : A} (h : resV P s r v) : ∃ u, (resRun a.tmps r).run P w = .ok u w ∧ v.inB s.β ∧ RepA ρ I w v u := by
  cases r with
  | tmp t =>
    obtain ⟨h1, h2, h3⟩ := hf.val t v h
    exact ⟨_, rfl, h2, h3⟩
  | cell t T =>
    obtain ⟨id, off, T0, cs, tyi, h1, h2, ht, h4⟩ := h
    obtain ⟨_, _, h3⟩ := hf.val t _ h1
    obtain ⟨g, hg, hp⟩ := h3
    obtain ⟨g', us, k1, k2, k3, k4⟩ := var_cell hm h2
    rw [hg] at k1
    injection k1 with k1; injection k1 with k1; injection k1 with k1
    subst k1
    rcases h4 with ⟨hr, hv⟩ | ⟨hr, hlen, rfl⟩
    · obtain ⟨u, hu, hrep, _⟩ := repAs_get k3 hv
      refine ⟨u, ?_, A.insB_mem k4 v (List.mem_of_getElem? hv), hrep⟩
      have hl := run_loadVar_one (P := P) ht hr (w := w) (p := ⟨g, off, none⟩) (u := u) (by rw [cell_in k2]; simpa using hu)
      simp [resRun, hp, asAddr, Sem.run_bind, hl]
    · have h5 := repAs_take tyi.size (repAs_drop off k3)
      have hus := repAs_len k3
      have hl := run_loadVar_row' (P := P) (w := w) (g := g) (o := off) (cs := (us.toList.drop off).take tyi.size) ht hr (by rw [List.length_take, List.length_drop]; omega) (fun j u hu => by
        rw [List.getElem?_take] at hu
        split at hu
        · rw [List.getElem?_drop] at hu
          rw [cell_in k2]
          simpa using hu
        · cases hu)
      refine ⟨_, ?_, A.insB_of fun z hz => A.insB_mem k4 z (List.mem_of_mem_drop (List.mem_of_mem_take hz)), _, rfl, h5⟩
      simp [resRun, hp, asAddr, Sem.run_bind, hl]
theorem resVs_run {C : Ctx} {s : St} {ρ : Nat → Value} {I : Nat → Prop} {w : World} {a : Act} (hm : Mem C s.β ρ I w) (hf : Fr C s.σ s.β ρ I w a) : ∀ {rs : List ResultVar} {vs : List A}, resVs P s rs vs → ∃ us, (rs.mapM (resRun a.tmps)).run P w = .ok us w ∧ A.insB s.β vs ∧ RepAs ρ I w false vs us
  | [], vs, h => by cases h; exact ⟨[], by simp, trivial, rfl⟩
  | r :: rs, _, ⟨v, vs, rfl, h1, h2⟩ => by
    obtain ⟨u, a1, a2, a3⟩ := resV_run hm hf h1
    obtain ⟨us, b1, b2, b3⟩ := resVs_run hm hf h2
    refine ⟨u :: us, ?_, ⟨a2, b2⟩, u, us, rfl, fun h => by (cases h), a3, b3⟩
    rw [List.mapM_cons]
    simp only [Sem.run_bind, a1, Result.andThen_ok, b1, Sem.run_pure]
theorem argS_look : ∀ {ds : List D} {k t : Nat} {v : A}, look t (argS k ds) = some v → ∃ i d, t = k + i ∧ ds[i]? = some d ∧ v = .d d
  | d :: ds, k, t, v, h => by
    rw [argS, look_cons] at h
    split at h
    · rename_i hk; injection h with h; exact ⟨0, d, by omega, rfl, h.symm⟩
    · obtain ⟨i, d', h1, h2, h3⟩ := argS_look h
      exact ⟨i + 1, d', by omega, by simpa using h2, h3⟩
/-- A function's contract, by its body's walk. -/
theorem pc_of_wp {f : FuncId} {fn : Func} {c : Code} {ds : List D} {r : D} {rs : List ResultVar} (hf : P.funcs[f]? = some fn) (hb : fn.body = some c) (hn : (fn.name == "runtime.NumGoroutine") = false) (hds : ds.length ≤ fn.ntmps)
    (hrs : fn.results = rs.toArray) (h : ∀ (C : Ctx) (a : Act) (w : World), C.K = (fun _ => false) → C.N = fn.ntmps → At C ⟨argS 0 ds, []⟩ a w → c.wp P (lift C (retE P rs r)) a w) : PC P f ds r := by
  refine ⟨enters_of hf hb hn, fun I w vs hI hr => ?_⟩
  refine calls_of_wp hf hb ?_
  have hvl := repC_len hr
  rw [Array.length_toList] at hvl
  let C : Ctx := { w0 := w, PB := fun _ => False, I0 := I, N := fn.ntmps, K := fun _ => false, args := fun _ => undef }
  have hat : At C ⟨argS 0 ds, []⟩ { tmps := vs ++ Array.replicate (fn.ntmps - vs.size) undef, defers := [] } w := by
    refine ⟨fun _ => undef, I, ⟨rfl, rfl, rfl, Nat.le_refl _, fun _ _ _ => rfl, hI.1, fun g hg => .inl hg, fun id b h => by (cases h), fun id b g h => by (cases h), fun i j b b' g h => by (cases h), fun id b h => by (cases h), hI.2⟩, rfl, ?_, fun t ht => (by cases ht), fun t v ht => ?_⟩
    · show (vs ++ Array.replicate (fn.ntmps - vs.size) undef).size = fn.ntmps
      simp; omega
    · obtain ⟨i, d, h1, h2, rfl⟩ := argS_look ht
      obtain ⟨u, h3, h4, _⟩ := repC_get hr h2
      have hlt : i < vs.size := by rw [← Array.length_toList]; exact (List.getElem?_eq_some_iff.1 h3).1
      rw [Nat.zero_add] at h1
      subst h1
      refine ⟨by show t < fn.ntmps; omega, trivial, ?_⟩
      have e1 : (vs ++ Array.replicate (fn.ntmps - vs.size) undef).getD t undef = u := by
        rw [Array.getD_eq_getD_getElem?, Array.getElem?_append_left hlt]
        have : vs[t]? = some u := by simpa using h3
        rw [this]; rfl
      show RepD I w d ((vs ++ Array.replicate (fn.ntmps - vs.size) undef).getD t undef)
      rw [e1]; exact h4
  have hfin : ∀ s a' w', RetOk P rs r s → At C s a' w' → a'.defers = [] ∧ ∃ v, (results fn a'.tmps).run P w' = .ok v w' ∧ (∃ v', Ending.returned v = .returned v' ∧ RepD (fun g => (I g ∨ w.heap.size ≤ g) ∧ g < w'.heap.size) w' r v' ∧ Below w.heap.size w w') := by
    rintro s a' w' ⟨vs', ds', h1, h2, hsub⟩ ⟨ρ, J, hm, hfr⟩
    obtain ⟨us, k1, k2, k3⟩ := resVs_run hm hfr h1
    obtain ⟨J', m1, x1, r1, _⟩ := freeze_vals _ _ ds' s.β J hm k2 k3 h2
    have hul := repC_len r1
    have hx : ExtI J' w' (fun g => (I g ∨ w.heap.size ≤ g) ∧ g < w'.heap.size) w' := ⟨fun g hg => ⟨by
      rcases m1.new g hg with h | h | h
      · exact .inl h
      · exact .inr h
      · exact h.elim, m1.imm g hg⟩, fun _ _ => rfl⟩
    have hbel : Below w.heap.size w w' := ⟨m1.os, m1.tape, m1.output, m1.size, fun k hk => m1.frame k hk (fun h => h)⟩
    refine ⟨hfr.defers, (if h : us.toArray.size = 1 then us.toArray[0] else .tuple us.toArray), ?_, _, rfl, ?_, hbel⟩
    · have hrm : ∀ fn' : Func, fn'.results = rs.toArray → results fn' a'.tmps = (do
          let vs ← rs.toArray.mapM (resRun a'.tmps)
          pure (if h : vs.size = 1 then vs[0] else .tuple vs)) := fun fn' h' => by
        unfold results
        rw [h']
        congr 1
      rw [hrm fn hrs, List.mapM_toArray]
      simp only [map_eq_pure_bind, bind_assoc, pure_bind, Sem.run_bind, k1, Result.andThen_ok, Sem.run_pure]
    · refine hsub _ _ _ ?_
      cases ds' with
      | nil =>
        cases r1
        refine ⟨#[], by rfl, rfl⟩
      | cons d ds1 =>
        obtain ⟨u, us1, rfl, _, hd, hrest⟩ := r1
        cases ds1 with
        | nil =>
          cases hrest
          exact RepD.ext hx d u hd
        | cons d2 ds2 =>
          have hl2 := repC_len hrest
          rw [dif_neg (by simp [hl2])]
          refine ⟨_, rfl, ?_⟩
          have := RepC.ext hx false (d :: d2 :: ds2) (u :: us1) ⟨u, us1, rfl, fun h => by (cases h), hd, hrest⟩
          simpa using this
  refine wp_mono (h C _ w rfl rfl hat) fun en a' w' hq => ?_
  obtain ⟨s, hq, ha⟩ := hq
  cases en with
  | normal => exact hfin s a' w' hq ha
  | ret => exact hfin s a' w' hq ha
  | _ => exact hq.elim
/-- A function's contract, by its body. -/
theorem pc_of_aw {f : FuncId} {fn : Func} {c : Code} {ds : List D} {r : D} {rs : List ResultVar} (hf : P.funcs[f]? = some fn) (hb : fn.body = some c) (hn : (fn.name == "runtime.NumGoroutine") = false) (hmx : P.follows .mixedOrders = true) (hok : codeOk (fun _ => false) fn.ntmps c = true) (hds : ds.length ≤ fn.ntmps)
    (hrs : fn.results = rs.toArray) (h : AW P c (retE P rs r) ⟨argS 0 ds, []⟩) : PC P f ds r :=
  pc_of_wp hf hb hn hds hrs fun C a w hK hN ha => aw_sound hmx c _ _ a w (by rw [hK, hN]; exact hok) h ha
end
end Go.Proofs.YtfplkakfakdfhaaDoor


/-
  The pure layer: the steps of a walk, one lemma a step. No condition.
-/
namespace Go.Proofs.YtfplkakfakdfhaaDoor
set_option linter.unusedSimpArgs false
set_option linter.unusedVariables false
open Go.RowKit

section
variable {P : Program} {all r : List Oper} {σ : Sl} {β : Bx} {K : Sl → Bx → Prop} {t : Nat} {op : Op} {ty : TypeId} {pos : String} {af : Array Edge} {v : A} {rd : List Nat} {i j : Nat} {b c : Box} {rs : List Rec}
theorem rp (hs : Does P (some t) op ty (ev σ) β v [] rd) (h : runP P all r ((t, v) :: σ) β K) : runP P all (⟨some t, op, ty, pos, af, none⟩ :: r) σ β K := ⟨v, [], rd, hs, h⟩
theorem rp1 (hs : Does P (some t) op ty (ev σ) β v [(i, b)] rd) (h : runP P all r ((t, v) :: σ) ((i, b) :: β) K) : runP P all (⟨some t, op, ty, pos, af, none⟩ :: r) σ β K := ⟨v, _, rd, hs, h⟩
theorem rp2 (hs : Does P (some t) op ty (ev σ) β v [(i, b), (j, c)] rd) (h : runP P all r ((t, v) :: σ) ((i, b) :: (j, c) :: β) K) : runP P all (⟨some t, op, ty, pos, af, none⟩ :: r) σ β K := ⟨v, _, rd, hs, h⟩
theorem rpN (hs : Does P none op ty (ev σ) β v [(i, b)] rd) (h : runP P all r σ ((i, b) :: β) K) : runP P all (⟨none, op, ty, pos, af, none⟩ :: r) σ β K := ⟨v, _, rd, hs, h⟩
theorem gval_t {x : Bool} (h : look t σ = some (.d (bD x))) : gval σ t true = some x := by unfold gval; rw [h]; rfl
theorem gval_f {x : Bool} (h : look t σ = some (.d (bD x))) : gval σ t false = some (!x) := by unfold gval; rw [h]; rfl
theorem gval_gt {x y : Bool} (h : look t σ = some (.gd y (.d (bD x)))) : gval σ t true = some (y && x) := by unfold gval; rw [h]; rfl
theorem gval_gf {x y : Bool} (h : look t σ = some (.gd y (.d (bD x)))) : gval σ t false = some (y && !x) := by unfold gval; rw [h]; rfl
theorem stepG {d : Nat} {g : Nat × Bool} {want x : Bool} (hg : guardT all ⟨some d, op, ty, pos, af, some g⟩ = some (some (t, want))) (hx : gval σ t want = some x) (hgt : gates x (ev σ) op.operands.toList) (hd : x = true → Does P (some d) op ty (fun y => stripA (ev σ y)) β v [] rd) :
    StepSem P all σ β ⟨some d, op, ty, pos, af, some g⟩ (.gd x v) [] rd := by
  unfold StepSem
  rw [hg]
  exact .inl ⟨x, v, fun _ => true, hx, hgt, rfl, rfl, hd⟩
/-- A guarded pick: only the condition's guard has to follow. -/
def isT (k : Nat) : Operand → Bool
  | .tmp n => n == k
  | _ => false
theorem gates_isT {x : Bool} {e : Operand → A} {k : Nat} (h : gdOk x (e (.tmp k))) : ∀ l : List Operand, gates x (selU (isT k) e) l
  | [] => trivial
  | y :: l => by
    refine ⟨?_, gates_isT h l⟩
    unfold selU
    cases hk : isT k y with
    | false => trivial
    | true =>
      cases y with
      | tmp n =>
        have : n = k := by simpa [isT] using hk
        subst this
        exact h
      | _ => cases hk
theorem stepGP {d k : Nat} {p q : Operand} {g : Nat × Bool} {want x : Bool} (hg : guardT all ⟨some d, .pick (.tmp k) p q, ty, pos, af, some g⟩ = some (some (t, want))) (hx : gval σ t want = some x) (hc : gdOk x (ev σ (.tmp k))) (hd : x = true → Does P (some d) (.pick (.tmp k) p q) ty (selA (isT k) (ev σ)) β v [] rd) :
    StepSem P all σ β ⟨some d, .pick (.tmp k) p q, ty, pos, af, some g⟩ (.gd x v) [] rd := by
  unfold StepSem
  rw [hg]
  exact .inl ⟨x, v, isT k, hx, gates_isT hc _, rfl, rfl, hd⟩
theorem rpGP {d k : Nat} {p q : Operand} {g : Nat × Bool} {want x : Bool} (hg : guardT all ⟨some d, .pick (.tmp k) p q, ty, pos, af, some g⟩ = some (some (t, want))) (hx : gval σ t want = some x) (hc : gdOk x (ev σ (.tmp k))) (hd : x = true → Does P (some d) (.pick (.tmp k) p q) ty (selA (isT k) (ev σ)) β v [] rd)
    (h : runP P all r ((d, .gd x v) :: σ) β K) : runP P all (⟨some d, .pick (.tmp k) p q, ty, pos, af, some g⟩ :: r) σ β K := ⟨.gd x v, [], rd, stepGP hg hx hc hd, h⟩
theorem drGP {d k : Nat} {p q : Operand} {g : Nat × Bool} {want x : Bool} (hg : guardT all ⟨some d, .pick (.tmp k) p q, ty, pos, af, some g⟩ = some (some (t, want))) (hx : gval σ t want = some x) (hc : gdOk x (ev σ (.tmp k))) (hd : x = true → Does P (some d) (.pick (.tmp k) p q) ty (selA (isT k) (ev σ)) β v [] rd)
    (h : runD P all r ((d, .gd x v) :: σ) β (mkRec all ⟨some d, .pick (.tmp k) p q, ty, pos, af, some g⟩ [] rd :: rs) K) : runD P all (⟨some d, .pick (.tmp k) p q, ty, pos, af, some g⟩ :: r) σ β rs K := ⟨.gd x v, [], rd, stepGP hg hx hc hd, h⟩
theorem rpG {d : Nat} {g : Nat × Bool} {want x : Bool} (hg : guardT all ⟨some d, op, ty, pos, af, some g⟩ = some (some (t, want))) (hx : gval σ t want = some x) (hgt : gates x (ev σ) op.operands.toList) (hd : x = true → Does P (some d) op ty (fun y => stripA (ev σ y)) β v [] rd)
    (h : runP P all r ((d, .gd x v) :: σ) β K) : runP P all (⟨some d, op, ty, pos, af, some g⟩ :: r) σ β K := ⟨.gd x v, [], rd, stepG hg hx hgt hd, h⟩
/-- The guard fails. -/
theorem stepGF {d : Nat} {g : Nat × Bool} {want x : Bool} (hg : guardT all ⟨some d, op, ty, pos, af, some g⟩ = some (some (t, want))) (hx : gval σ t want = some x) (hf : x = false) (hgt : gates x (ev σ) op.operands.toList) : StepSem P all σ β ⟨some d, op, ty, pos, af, some g⟩ (.gd x .un) [] [] :=
  stepG hg hx hgt fun h => by rw [hf] at h; cases h
theorem rpGF {d : Nat} {g : Nat × Bool} {want x : Bool} (hg : guardT all ⟨some d, op, ty, pos, af, some g⟩ = some (some (t, want))) (hx : gval σ t want = some x) (hf : x = false) (hgt : gates x (ev σ) op.operands.toList)
    (h : runP P all r ((d, .gd x .un) :: σ) β K) : runP P all (⟨some d, op, ty, pos, af, some g⟩ :: r) σ β K := ⟨.gd x .un, [], [], stepGF hg hx hf hgt, h⟩
theorem rp_nil (h : K σ β) : runP P all [] σ β K := h
theorem dr (hs : Does P (some t) op ty (ev σ) β v [] rd) (h : runD P all r ((t, v) :: σ) β (mkRec all ⟨some t, op, ty, pos, af, none⟩ [] rd :: rs) K) : runD P all (⟨some t, op, ty, pos, af, none⟩ :: r) σ β rs K := ⟨v, [], rd, hs, h⟩
theorem dr1 (hs : Does P (some t) op ty (ev σ) β v [(i, b)] rd) (h : runD P all r ((t, v) :: σ) ((i, b) :: β) (mkRec all ⟨some t, op, ty, pos, af, none⟩ [(i, b)] rd :: rs) K) : runD P all (⟨some t, op, ty, pos, af, none⟩ :: r) σ β rs K := ⟨v, _, rd, hs, h⟩
theorem dr2 (hs : Does P (some t) op ty (ev σ) β v [(i, b), (j, c)] rd) (h : runD P all r ((t, v) :: σ) ((i, b) :: (j, c) :: β) (mkRec all ⟨some t, op, ty, pos, af, none⟩ [(i, b), (j, c)] rd :: rs) K) : runD P all (⟨some t, op, ty, pos, af, none⟩ :: r) σ β rs K := ⟨v, _, rd, hs, h⟩
theorem drN (hs : Does P none op ty (ev σ) β v [(i, b)] rd) (h : runD P all r σ ((i, b) :: β) (mkRec all ⟨none, op, ty, pos, af, none⟩ [(i, b)] rd :: rs) K) : runD P all (⟨none, op, ty, pos, af, none⟩ :: r) σ β rs K := ⟨v, _, rd, hs, h⟩
theorem drG {d : Nat} {g : Nat × Bool} {want x : Bool} (hg : guardT all ⟨some d, op, ty, pos, af, some g⟩ = some (some (t, want))) (hx : gval σ t want = some x) (hgt : gates x (ev σ) op.operands.toList) (hd : x = true → Does P (some d) op ty (fun y => stripA (ev σ y)) β v [] rd)
    (h : runD P all r ((d, .gd x v) :: σ) β (mkRec all ⟨some d, op, ty, pos, af, some g⟩ [] rd :: rs) K) : runD P all (⟨some d, op, ty, pos, af, some g⟩ :: r) σ β rs K := ⟨.gd x v, [], rd, stepG hg hx hgt hd, h⟩
theorem drGF {d : Nat} {g : Nat × Bool} {want x : Bool} (hg : guardT all ⟨some d, op, ty, pos, af, some g⟩ = some (some (t, want))) (hx : gval σ t want = some x) (hf : x = false) (hgt : gates x (ev σ) op.operands.toList)
    (h : runD P all r ((d, .gd x .un) :: σ) β (mkRec all ⟨some d, op, ty, pos, af, some g⟩ [] [] :: rs) K) : runD P all (⟨some d, op, ty, pos, af, some g⟩ :: r) σ β rs K := ⟨.gd x .un, [], [], stepGF hg hx hf hgt, h⟩
theorem dr_nil (ho : okOrder rs.reverse = true) (h : K σ β) : runD P all [] σ β rs K := ⟨ho, h⟩
end
section
variable {P : Program} {Q : Exit → St → Prop} {s : St} {σ : Sl} {β : Bx} {a b : Code} {id : Nat} {l : List Oper} {K : St → Prop}
theorem aw_seq (h : AW P a (afterE (AW P b Q) Q) s) : AW P (.seq a b) Q s := h
theorem aw_reg (h : runP P l l σ β fun σ β => Q .normal ⟨σ, β⟩) : AW P (.region id l.toArray false) Q ⟨σ, β⟩ := .inl h
theorem aw_regD (h : runD P l l σ β [] fun σ β => Q .normal ⟨σ, β⟩) : AW P (.region id l.toArray true) Q ⟨σ, β⟩ := .inl (.inl h)
theorem aw_skip (h : Q .normal s) : AW P .skip Q s := h
theorem aw_ret (h : Q .ret s) : AW P .ret Q s := h
theorem aw_exit (h : Q (.exit id) s) : AW P (.exit id) Q s := h
theorem aw_block (h : AW P a (blockE id Q) s) : AW P (.block id a) Q s := h
theorem aw_cond {x : Bool} {c : Operand} (hx : ev σ c = .d (bD x)) (h1 : x = true → AW P a Q ⟨σ, β⟩) (h2 : x = false → AW P b Q ⟨σ, β⟩) : AW P (.cond c a b) Q ⟨σ, β⟩ := ⟨x, hx, h1, h2⟩
theorem aw_loop {c : Code} (I : Nat → St → Prop) (n : Nat) (s1 : St) (hf : Ent s s1) (hI : I n s1) (hr : ∀ n s1, I n s1 → AW P c (afterE (fun s2 => ∃ m s3, m < n ∧ Ent s2 s3 ∧ I m s3) Q) s1) : AW P (.loop c) Q s := ⟨I, ⟨n, s1, hf, hI⟩, hr⟩
theorem ks_nil {π : Nat → Nat} : keepS π σ [] := trivial
theorem ks_cons {π : Nat → Nat} {t : Nat} {u v : A} {τ : Sl} (h1 : look t σ = some u) (h2 : SubA u (v.ren π)) (h3 : keepS π σ τ) : keepS π σ ((t, v) :: τ) := ⟨⟨u, h1, h2⟩, h3⟩
theorem inB_ow {id n : Nat} (h : (look id β).isSome = true) : (A.ow id n).inB β := fun e => by rw [e] at h; cases h
theorem inB_px {id n : Nat} (h : (look id β).isSome = true) : (A.px id n).inB β := fun e => by rw [e] at h; cases h
theorem inB_pr {id sz k n : Nat} (h : (look id β).isSome = true) : (A.pr id sz k n).inB β := fun e => by rw [e] at h; cases h
theorem subA_ow {id n m : Nat} (h : n = m) : SubA (.ow id n) (.ow id m) := h ▸ SubA.refl _
theorem subA_i {n m : Int} (h : n = m) : SubA (.d (iD n)) (.d (iD m)) := h ▸ SubA.refl _
theorem kb_nil {π : Nat → Nat} : keepB π β [] := trivial
theorem kb_cons {π : Nat → Nat} {i : Nat} {b0 b : Box} {δ : Bx} (h1 : look (π i) β = some b0) (h2 : b0 = b.ren π) (h3 : keepB π β δ) : keepB π β ((i, b) :: δ) := ⟨h2 ▸ h1, h3⟩
theorem row_eq {E : TypeId} {sz : Nat} {es fs : List (List D)} (h : es = fs) : Box.row E sz es = Box.row E sz fs := by rw [h]
/-- A slot that holds nil holds an empty row of the call's own. -/
theorem ent_nil (t id : Nat) (E : TypeId) (sz : Nat) (h : look t σ = some (.d .nl)) (hf : look id β = none) : Ent ⟨σ, β⟩ ⟨(t, .ow id 0) :: σ, (id, .row E sz []) :: β⟩ := by
  rintro C a w ⟨ρ, I, hm, hfr⟩
  obtain ⟨h1, _, h3⟩ := hfr.val t _ h
  have h3 : a.tmps.getD t undef = .slice none 0 0 := h3
  obtain ⟨m1, m2⟩ := hm.new_box hf (v := .slice none 0 0) (b := .row E sz []) (w' := w) (World.grownBy.refl w none) (fun g hg => by cases hg) (fun hx => ⟨[], by rw [upd_same]; exact World.ownsRow_nil w 0 E sz, rfl⟩) trivial
  refine ⟨_, I, m1, hfr.defers, hfr.size, hfr.keep, fun k v hk => ?_⟩
  rw [look_cons] at hk
  split at hk
  · rename_i hkt
    subst hkt
    injection hk with hk
    subst hk
    exact ⟨h1, by unfold A.inB dom; simp [look_cons], by rw [h3, upd_same], none, 0, h3, Nat.le_refl _, fun h => absurd h (by simp)⟩
  · obtain ⟨k1, k2, k3⟩ := hfr.val k v hk
    exact ⟨k1, A.inB_mono (fun i hi => dom_append (γ := [(id, Box.row E sz [])]) hi) v k2, RepA.ext m2 v _ k2 k3⟩
theorem ae_norm (h : K s) : afterE K Q .normal s := h
theorem ae_ret (h : Q .ret s) : afterE K Q .ret s := h
theorem ae_exit (h : Q (.exit id) s) : afterE K Q (.exit id) s := h
theorem be_norm (h : Q .normal s) : blockE id Q .normal s := h
theorem be_ret (h : Q .ret s) : blockE id Q .ret s := h
theorem be_exit (h : Q .normal s) : blockE id Q (.exit id) s := by show (if id = id then Q .normal s else Q (.exit id) s); rw [if_pos rfl]; exact h
theorem be_other {i : Nat} (hne : (i == id) = false) (h : Q (.exit i) s) : blockE id Q (.exit i) s := by show (if i = id then Q .normal s else Q (.exit i) s); rw [if_neg (by simpa using hne)]; exact h
theorem re_ret {rs : List ResultVar} {d : D} (h : RetOk P rs d s) : retE P rs d .ret s := h
theorem ret_ok {rs : List ResultVar} {vs : List A} {ds : List D} {r : D} (h1 : resVs P s rs vs) (h2 : frzVs s.β vs = some ds) (h3 : SubD (resD ds) r) : RetOk P rs r s := ⟨vs, ds, h1, h2, h3⟩
theorem rv_nil : resVs P s [] [] := rfl
theorem rv_cons {r : ResultVar} {rs : List ResultVar} {v : A} {vs : List A} (h1 : resV P s r v) (h2 : resVs P s rs vs) : resVs P s (r :: rs) (v :: vs) := ⟨v, vs, rfl, h1, h2⟩
theorem rv_tmp {t : Nat} {v : A} (h : look t s.σ = some v) : resV P s (.tmp t) v := h
theorem rv_cell {t : Nat} {T : TypeId} {v : A} {i off : Nat} {T0 : TypeId} {cs : List A} {ty : TyI} (h1 : look t s.σ = some (.px i off)) (h2 : look i s.β = some (.var T0 cs)) (h3 : mkTy P T = some ty) (h4 : ty.row = false) (h5 : cs[off]? = some v) : resV P s (.cell t T) v := ⟨i, off, T0, cs, ty, h1, h2, h3, .inl ⟨h4, h5⟩⟩
theorem rv_row {t : Nat} {T : TypeId} {i off : Nat} {T0 : TypeId} {cs : List A} {ty : TyI} (h1 : look t s.σ = some (.px i off)) (h2 : look i s.β = some (.var T0 cs)) (h3 : mkTy P T = some ty) (h4 : ty.row = true) (h5 : off + ty.size ≤ cs.length) : resV P s (.cell t T) (.ag ((cs.drop off).take ty.size)) := ⟨i, off, T0, cs, ty, h1, h2, h3, .inr ⟨h4, h5, rfl⟩⟩
theorem forget_of (ren : List (Nat × Nat)) {σ' : Sl} {β' : Bx} (h1 : keepS (renOf ren) σ σ') (h2 : keepB (renOf ren) β β') (h3 : onceB (renOf ren) β' = true) (h4 : inBs β' σ') (h5 : inBb β' β') : Ent ⟨σ, β⟩ ⟨σ', β'⟩ := Ent.of_forget ren ⟨h1, h2, h3, h4, h5⟩
end
end Go.Proofs.YtfplkakfakdfhaaDoor


/-
  The pure layer: comparisons, lengths, slices, fields, texts, functions as values. No condition.
-/
namespace Go.Proofs.YtfplkakfakdfhaaDoor
set_option linter.unusedSimpArgs false
set_option linter.unusedVariables false
open Go.RowKit

section
variable {P : Program} {fr : Nat} {dst : Option Nat} {ty : TypeId} {e : Operand → A} {β : Bx}
variable {T T' : TypeId} {x y : Operand} {k : IntKind} {m n : Int}
theorem does_eq (hx : e x = .d (.sc (.int k m))) (hy : e y = .d (.sc (.int k n))) : Does P dst (.binOp .eql T x y T') ty e β (.d (bD (m == n))) [] [] := does_int hx hy trivial
theorem does_ne (hx : e x = .d (.sc (.int k m))) (hy : e y = .d (.sc (.int k n))) : Does P dst (.binOp .neq T x y T') ty e β (.d (bD (m != n))) [] [] := does_int hx hy trivial
theorem does_lt (hx : e x = .d (.sc (.int k m))) (hy : e y = .d (.sc (.int k n))) : Does P dst (.binOp .lss T x y T') ty e β (.d (bD (decide (m < n)))) [] [] := does_int hx hy trivial
theorem does_le (hx : e x = .d (.sc (.int k m))) (hy : e y = .d (.sc (.int k n))) : Does P dst (.binOp .leq T x y T') ty e β (.d (bD (decide (m ≤ n)))) [] [] := does_int hx hy trivial
theorem does_gt (hx : e x = .d (.sc (.int k m))) (hy : e y = .d (.sc (.int k n))) : Does P dst (.binOp .gtr T x y T') ty e β (.d (bD (decide (m > n)))) [] [] := does_int hx hy trivial
theorem does_ge (hx : e x = .d (.sc (.int k m))) (hy : e y = .d (.sc (.int k n))) : Does P dst (.binOp .geq T x y T') ty e β (.d (bD (decide (m ≥ n)))) [] [] := does_int hx hy trivial
theorem does_wadd (hx : e x = .d (.sc (.int k m))) (hy : e y = .d (.sc (.int k n))) : Does P dst (.binOp .add T x y T') ty e β (.d (.sc (.int k (k.wrap (m + n))))) [] [] := does_int hx hy trivial
theorem does_wrem (hx : e x = .d (.sc (.int k m))) (hy : e y = .d (.sc (.int k n))) (h : n ≠ 0) : Does P dst (.binOp .rem T x y T') ty e β (.d (.sc (.int k (m.tmod n)))) [] [] := does_int hx hy h
theorem does_band (hx : e x = .d (.sc (.int k m))) (hy : e y = .d (.sc (.int k n))) : Does P dst (.binOp .and T x y T') ty e β (.d (.sc (.int k (bitV .and k m n)))) [] [] := does_int hx hy trivial
theorem does_shl {k' : IntKind} (hx : e x = .d (.sc (.int k m))) (hy : e y = .d (.sc (.int k' n))) (h : 0 ≤ n) : Does P dst (.binOp .shl T x y T') ty e β (.d (.sc (.int k (k.wrap (m * 2 ^ (min n.toNat k.bits)))))) [] [] := does_shift hx hy (.inl rfl) h
theorem does_shr {k' : IntKind} (hx : e x = .d (.sc (.int k m))) (hy : e y = .d (.sc (.int k' n))) (h : 0 ≤ n) : Does P dst (.binOp .shr T x y T') ty e β (.d (.sc (.int k (m.fdiv (2 ^ (min n.toNat k.bits)))))) [] [] := does_shift hx hy (.inr rfl) h
theorem does_sub_to {z : Int} (hx : e x = .d (iD m)) (hy : e y = .d (iD n)) (hz : m - n = z) (h1 : -9223372036854775808 ≤ z) (h2 : z ≤ 9223372036854775807) : Does P dst (.binOp .sub T x y T') ty e β (.d (iD z)) [] [] := by
  subst hz; exact does_sub hx hy h1 h2
theorem does_add_to {z : Int} (hx : e x = .d (iD m)) (hy : e y = .d (iD n)) (hz : m + n = z) (h1 : -9223372036854775808 ≤ z) (h2 : z ≤ 9223372036854775807) : Does P dst (.binOp .add T x y T') ty e β (.d (iD z)) [] [] := by
  subst hz; exact does_add hx hy h1 h2
theorem does_int_to {bo : BinOp} {z : D} (hx : e x = .d (.sc (.int k m))) (hy : e y = .d (.sc (.int k n))) (hs : (intV bo k m n).1) (hz : D.sc (intV bo k m n).2 = z) : Does P dst (.binOp bo T x y T') ty e β (.d z) [] [] := by
  subst hz; exact does_int hx hy hs
theorem does_seq {p q : ByteArray} (hx : e x = .d (strD p)) (hy : e y = .d (strD q)) : Does P dst (.binOp .eql T x y T') ty e β (.d (bD (p.toList == q.toList))) [] [] := does_str hx hy rfl
theorem does_sne {p q : ByteArray} (hx : e x = .d (strD p)) (hy : e y = .d (strD q)) : Does P dst (.binOp .neq T x y T') ty e β (.d (bD (!(p.toList == q.toList)))) [] [] := does_str hx hy rfl
theorem does_slt {p q : ByteArray} (hx : e x = .d (strD p)) (hy : e y = .d (strD q)) : Does P dst (.binOp .lss T x y T') ty e β (.d (bD (Op.bytesLess p.toList q.toList))) [] [] := does_str hx hy rfl
theorem does_sle {p q : ByteArray} (hx : e x = .d (strD p)) (hy : e y = .d (strD q)) : Does P dst (.binOp .leq T x y T') ty e β (.d (bD (Op.bytesLess p.toList q.toList || p.toList == q.toList))) [] [] := does_str hx hy rfl
theorem does_sgt {p q : ByteArray} (hx : e x = .d (strD p)) (hy : e y = .d (strD q)) : Does P dst (.binOp .gtr T x y T') ty e β (.d (bD (!(Op.bytesLess p.toList q.toList || p.toList == q.toList)))) [] [] := does_str hx hy rfl
theorem putAt_whole {α : Type} {cs vs : List α} (h : vs.length = cs.length) : putAt cs 0 vs = vs := by
  unfold putAt
  rw [List.take_zero, List.nil_append, Nat.zero_add, h, List.drop_length, List.append_nil]
theorem does_store_whole {T0 : TypeId} {t : TyI} {id : Nat} {cs : List A} {vs : List D} (ht : mkTy P T = some t) (hx : e x = .px id 0) (hy : e y = .d (.ag vs)) (hl : look id β = some (.var T0 cs)) (hs : vs.length = t.size) (hlen : vs.length = cs.length) :
    Does P dst (.store T x y) ty e β .un [(id, .var T0 (vs.map .d))] [id] := by
  have := does_store_rowD (P := P) (dst := dst) (ty := ty) ht hx hy hs hl (by omega)
  rwa [putAt_whole (by simpa using hlen)] at this
theorem does_store_wholeA {T0 : TypeId} {t : TyI} {id : Nat} {cs vs : List A} (ht : mkTy P T = some t) (hx : e x = .px id 0) (hy : e y = .ag vs) (hl : look id β = some (.var T0 cs)) (hs : vs.length = t.size) (hlen : vs.length = cs.length) :
    Does P dst (.store T x y) ty e β .un [(id, .var T0 vs)] [id] := by
  have := does_store_row (P := P) (dst := dst) (ty := ty) ht hx hy hs hl (by omega)
  rwa [putAt_whole hlen] at this
theorem run_len_slice {t : TyI} {el : TypeId} (ht : mkTy P T = some t) (hk : t.kind = .slice el) (tyr : TypeId) (ad : Option Addr) (n c : Nat) (w : World) : (Builtin.len_ #[T] tyr #[.slice ad n c]).run P w = .ok (.int .i64 n) w := by
  obtain ⟨i, d, z, _, hu, _, _, _, _, _, hkd⟩ := mkTy_spec ht
  have hu2 : P.underlying T = some (.slice el) := by rw [hu, kind_slice (hkd.symm.trans hk)]
  simp [Builtin.len_, Sem.run_bind, run_underlying hu2, goInt]
theorem does_len_sl {t : TyI} {el : TypeId} {sz : Nat} {es : List (List D)} (ht : mkTy P T = some t) (hk : t.kind = .slice el) (hx : e x = .d (.sl sz es)) : Does P dst (.call { callee := .builtin .len, args := #[x], argTypes := #[T] }) ty e β (.d (iD es.length)) [] [] :=
  Does.of_run fun C γ _ ρ I w _ a hops o ho _ => by
    have h1 := (hops x (by simp [Op.operands, Call.operands])).2
    rw [hx] at h1
    obtain ⟨ad, c, xs, h1, _⟩ := h1
    exact ⟨_, by simp [execOp, ho, resolve, invoke, builtin, Sem.run_bind, h1, run_len_slice ht hk], trivial, rfl, rfl⟩
theorem does_len_map {t : TyI} {el : TypeId} {sz : Nat} {α : Type} {l : List α} {f : α → List D} (ht : mkTy P T = some t) (hk : t.kind = .slice el) (hx : e x = .d (.sl sz (l.map f))) : Does P dst (.call { callee := .builtin .len, args := #[x], argTypes := #[T] }) ty e β (.d (iD l.length)) [] [] := by
  have := does_len_sl (P := P) (dst := dst) (ty := ty) (β := β) ht hk hx
  rwa [List.length_map] at this
theorem does_len_nl {t : TyI} {el : TypeId} (ht : mkTy P T = some t) (hk : t.kind = .slice el) (hx : e x = .d .nl) : Does P dst (.call { callee := .builtin .len, args := #[x], argTypes := #[T] }) ty e β (.d (iD 0)) [] [] :=
  Does.of_run fun C γ _ ρ I w _ a hops o ho _ => by
    have h1 := (hops x (by simp [Op.operands, Call.operands])).2
    rw [hx] at h1
    have h1 : a.eval x = .slice none 0 0 := h1
    exact ⟨_, by simp [execOp, ho, resolve, invoke, builtin, Sem.run_bind, h1, run_len_slice ht hk], trivial, rfl, rfl⟩
theorem does_len_ow {t : TyI} {el : TypeId} {id n : Nat} (ht : mkTy P T = some t) (hk : t.kind = .slice el) (hx : e x = .ow id n) : Does P dst (.call { callee := .builtin .len, args := #[x], argTypes := #[T] }) ty e β (.d (iD n)) [] [] :=
  Does.of_run fun C γ _ ρ I w _ a hops o ho _ => by
    have h1 := (hops x (by simp [Op.operands, Call.operands])).2
    rw [hx] at h1
    obtain ⟨_, ad, c, h1, _⟩ := h1
    exact ⟨_, by simp [execOp, ho, resolve, invoke, builtin, Sem.run_bind, h1, run_len_slice ht hk], trivial, rfl, rfl⟩
theorem does_len_str {t : TyI} {s : ByteArray} (ht : mkTy P T = some t) (hk : t.kind = .str) (hx : e x = .d (strD s)) : Does P dst (.call { callee := .builtin .len, args := #[x], argTypes := #[T] }) ty e β (.d (iD s.size)) [] [] :=
  Does.of_run fun C γ _ ρ I w _ a hops o ho _ => by
    have h1 := (hops x (by simp [Op.operands, Call.operands])).2
    rw [hx] at h1
    have h1 := repA_sc h1
    obtain ⟨i, d, z, _, hu, _, _, _, _, _, hkd⟩ := mkTy_spec ht
    have hu2 : P.underlying T = some .string := by rw [hu, kind_str (hkd.symm.trans hk)]
    exact ⟨.int .i64 s.size, by simp [execOp, ho, resolve, invoke, builtin, Sem.run_bind, h1, Builtin.len_, run_underlying hu2, goInt], trivial, rfl, rfl⟩
theorem does_min {ts : Array TypeId} {a b : Int} (hx : e x = .d (iD a)) (hy : e y = .d (iD b)) : Does P dst (.call { callee := .builtin .min, args := #[x, y], argTypes := ts }) ty e β (.d (iD (if b < a then b else a))) [] [] :=
  Does.of_run fun C γ _ ρ I w _ ac hops o ho _ => by
    have h1 := (hops x (by simp [Op.operands, Call.operands])).2
    have h2 := (hops y (by simp [Op.operands, Call.operands])).2
    rw [hx] at h1
    rw [hy] at h2
    have h1 := repA_sc h1
    have h2 := repA_sc h2
    refine ⟨.int .i64 (if b < a then b else a), ?_, trivial, rfl, rfl⟩
    simp [execOp, ho, resolve, invoke, builtin, Sem.run_bind, h1, h2, Builtin.min_, Builtin.min2]
theorem does_makeFunc {f : Fn} {first captured : Array Operand} : Does P dst (.makeFunc f first captured) ty e β (.fn f (first.toList.map e) (captured.toList.map e)) [] [] :=
  Does.of_run fun C γ _ ρ I w _ a hops o ho _ => by
    obtain ⟨h1, h2⟩ := ops_rep (γ := γ) (ρ := ρ) (I := I) (w := w) (a := a) (e := e) (l := first.toList) fun y hy => hops y (by simp [Op.operands, Array.mem_toList_iff.1 hy])
    obtain ⟨h3, h4⟩ := ops_rep (γ := γ) (ρ := ρ) (I := I) (w := w) (a := a) (e := e) (l := captured.toList) fun y hy => hops y (by simp [Op.operands, Array.mem_toList_iff.1 hy])
    exact ⟨.func f (first.map a.eval) (captured.map a.eval), by simp [execOp, ho, Instr.makeFunc, Sem.run_bind], ⟨h1, h3⟩, _, _, rfl, by simpa using h2, by simpa using h4⟩
theorem bound_run {v : Value} {k : IntKind} {i : Nat} {y : Nat} (hv : v = .int k (i : Int)) (h : i ≤ y) (c : BoundsCode) (w : World) : (Instr.sliceBound v y c).run P w = .ok i w := by
  subst hv
  have : (0 : Int) ≤ i ∧ (i : Int) ≤ y := ⟨by omega, by omega⟩
  simp [Instr.sliceBound, Sem.run_bind, asIntOf, this, h]
theorem repD_sl {I : Nat → Prop} {w : World} {sz : Nat} {es : List (List D)} {ad : Option Addr} {n c : Nat} (h : RepD I w (.sl sz es) (.slice ad n c)) : n = es.length ∧ n ≤ c ∧ ∃ xs, RepR I w sz es xs ∧ (0 < n → ∃ g off, ad = some ⟨g, off, none⟩ ∧ I g ∧ ∀ (j : Nat) (u : Value), xs[j]? = some u → w.cell? ⟨g, off + j, none⟩ = some u) := by
  obtain ⟨ad', c', xs, h1, h2, h3, h4⟩ := h
  injection h1 with e1 e2 e3
  subst e1 e2 e3
  exact ⟨rfl, h2, xs, h3, h4⟩
/-- A part of a slice of data. -/
theorem slice_rep {I : Nat → Prop} {w : World} {sz : Nat} {es : List (List D)} {ad : Option Addr} {c l h : Nat} {n : Nat} (hr : RepD I w (.sl sz es) (.slice ad n c)) (h1 : l ≤ h) (h2 : h ≤ n) :
    RepD I w (.sl sz ((es.take h).drop l)) (.slice (if c = l then ad else ad.map (·.add (l * sz))) (h - l) (c - l)) := by
  obtain ⟨hn, hc, xs, hR, hg⟩ := repD_sl hr
  have hlen : ((es.take h).drop l).length = h - l := by rw [List.length_drop, List.length_take]; omega
  refine ⟨_, c - l, (xs.take (h * sz)).drop (l * sz), by rw [hlen], by rw [hlen]; omega, repR_drop l (repR_take h hR), fun h0 => ?_⟩
  rw [hlen] at h0
  obtain ⟨g, off, rfl, hI, hcell⟩ := hg (by omega)
  rw [if_neg (by omega)]
  refine ⟨g, off + l * sz, by simp [Addr.add_mid], hI, fun j u hu => ?_⟩
  rw [List.getElem?_drop, List.getElem?_take] at hu
  split at hu
  · have := hcell _ u hu
    rwa [Nat.add_assoc]
  · cases hu
theorem run_slice {t te : TyI} {el : TypeId} (ht : mkTy P T = some t) (hk : t.kind = .slice el) (hte : mkTy P el = some te) {ad : Option Addr} {c l h nn : Nat} {lo hi : Option Value} {k1 k2 : IntKind} (hlo : lo = some (.int k1 (l : Int)) ∨ (lo = none ∧ l = 0)) (hhi : hi = some (.int k2 (h : Int)) ∨ (hi = none ∧ h = nn))
    (h1 : l ≤ h) (h2 : h ≤ c) (w : World) : (Instr.sliceAt T (.slice ad nn c) lo hi none).run P w = .ok (.slice (if c = l then ad else ad.map (·.add (l * te.size))) (h - l) (c - l)) w := by
  obtain ⟨i, d, z, _, hu, _, _, _, _, _, hkd⟩ := mkTy_spec ht
  have hu2 : P.underlying T = some (.slice el) := by rw [hu, kind_slice (hkd.symm.trans hk)]
  have b1 : ∀ c', (Instr.sliceBound (.int k2 (h : Int)) c c').run P w = .ok h w := fun c' => bound_run rfl h2 c' w
  have b2 : ∀ c', (Instr.sliceBound (.int k1 (l : Int)) h c').run P w = .ok l w := fun c' => bound_run rfl h1 c' w
  rcases hlo with rfl | ⟨rfl, rfl⟩ <;> rcases hhi with rfl | ⟨rfl, rfl⟩ <;> simp [Instr.sliceAt, Instr.slice, Instr.sliceBounds, Sem.run_bind, run_underlying hu2, b1, b2, sizeOf_mkTy hte]
def loIs (e : Operand → A) (l : Nat) : Option Operand → Prop
  | none => l = 0
  | some x => ∃ k m, e x = .d (.sc (.int k m)) ∧ m = (l : Int)
def hiIs (e : Operand → A) (h n : Nat) : Option Operand → Prop
  | none => h = n
  | some x => ∃ k m, e x = .d (.sc (.int k m)) ∧ m = (h : Int)
theorem lo_val {ρ : Nat → Value} {I : Nat → Prop} {w : World} {a : Act} {l : Nat} {lo : Option Operand} (h : loIs e l lo) (hops : ∀ x ∈ lo.toList, RepA ρ I w (e x) (a.eval x)) : ∃ k1 : IntKind, lo.map a.eval = some (.int k1 (l : Int)) ∨ (lo.map a.eval = none ∧ l = 0) := by
  cases lo with
  | none => exact ⟨.i64, .inr ⟨rfl, h⟩⟩
  | some x =>
    obtain ⟨k, m, h1, rfl⟩ := h
    have := hops x (by simp)
    rw [h1] at this
    exact ⟨k, .inl (by rw [Option.map_some, repA_sc this])⟩
theorem hi_val {ρ : Nat → Value} {I : Nat → Prop} {w : World} {a : Act} {h n : Nat} {hi : Option Operand} (hh : hiIs e h n hi) (hops : ∀ x ∈ hi.toList, RepA ρ I w (e x) (a.eval x)) : ∃ k1 : IntKind, hi.map a.eval = some (.int k1 (h : Int)) ∨ (hi.map a.eval = none ∧ h = n) := by
  cases hi with
  | none => exact ⟨.i64, .inr ⟨rfl, hh⟩⟩
  | some x =>
    obtain ⟨k, m, h1, rfl⟩ := hh
    have := hops x (by simp)
    rw [h1] at this
    exact ⟨k, .inl (by rw [Option.map_some, repA_sc this])⟩
theorem does_slice {t te : TyI} {el : TypeId} {lo hi : Option Operand} {sz l h : Nat} {es : List (List D)} (ht : mkTy P T = some t) (hk : t.kind = .slice el) (hte : mkTy P el = some te) (hx : e x = .d (.sl sz es)) (hsz : te.size = sz) (hl : loIs e l lo) (hh : hiIs e h es.length hi) (h1 : l ≤ h) (h2 : h ≤ es.length) :
    Does P dst (.slice T x lo hi none) ty e β (.d (.sl sz ((es.take h).drop l))) [] [] :=
  Does.of_run fun C γ _ ρ I w _ a hops o ho _ => by
    have q1 := (hops x (by simp [Op.operands])).2
    rw [hx] at q1
    obtain ⟨ad, c, xs, q2, q3, q4, q5⟩ := q1
    obtain ⟨k1, v1⟩ := lo_val (a := a) hl fun y hy => (hops y (by cases lo <;> simp_all [Op.operands])).2
    obtain ⟨k2, v2⟩ := hi_val (a := a) hh fun y hy => (hops y (by cases hi <;> simp_all [Op.operands])).2
    have hrun := run_slice (P := P) ht hk hte (ad := ad) (c := c) (nn := es.length) v1 v2 h1 (by omega) w
    rw [hsz] at hrun
    refine ⟨_, ?_, trivial, slice_rep (n := es.length) ⟨ad, c, xs, rfl, q3, q4, q5⟩ h1 h2⟩
    simp only [execOp, ho, q2, Sem.run_bind, Option.map_none, hrun]
    rfl
theorem does_slice_str {t : TyI} {lo hi : Option Operand} {l h : Nat} {s : ByteArray} (ht : mkTy P T = some t) (hk : t.kind = .str) (hx : e x = .d (strD s)) (hl : loIs e l lo) (hh : hiIs e h s.size hi) (h1 : l ≤ h) (h2 : h ≤ s.size) :
    Does P dst (.slice T x lo hi none) ty e β (.d (strD (s.extract l h))) [] [] :=
  Does.of_run fun C γ _ ρ I w _ a hops o ho _ => by
    have q1 := (hops x (by simp [Op.operands])).2
    rw [hx] at q1
    have q1 := repA_sc q1
    obtain ⟨k1, v1⟩ := lo_val (a := a) hl fun y hy => (hops y (by cases lo <;> simp_all [Op.operands])).2
    obtain ⟨k2, v2⟩ := hi_val (a := a) hh fun y hy => (hops y (by cases hi <;> simp_all [Op.operands])).2
    obtain ⟨i, d, z, _, hu, _, _, _, _, _, hkd⟩ := mkTy_spec ht
    have hu2 : P.underlying T = some .string := by rw [hu, kind_str (hkd.symm.trans hk)]
    have b1 : ∀ c', (Instr.sliceBound (.int k2 (h : Int)) s.size c').run P w = .ok h w := fun c' => bound_run rfl h2 c' w
    have b2 : ∀ c', (Instr.sliceBound (.int k1 (l : Int)) h c').run P w = .ok l w := fun c' => bound_run rfl h1 c' w
    refine ⟨.string (s.extract l h), ?_, trivial, rfl, rfl⟩
    simp only [execOp, ho, q1, Sem.run_bind, Option.map_none]
    generalize lo.map a.eval = lo' at *
    generalize hi.map a.eval = hi' at *
    rcases v1 with rfl | ⟨rfl, rfl⟩ <;> rcases v2 with rfl | ⟨rfl, rfl⟩ <;> simp [Instr.sliceAt, Instr.slice, Instr.sliceBounds, Sem.run_bind, run_underlying hu2, b1, b2]
theorem does_index_str {t : TyI} {s : ByteArray} {i : Nat} {b : UInt8} (ht : mkTy P T = some t) (hk : t.kind = .str) (hx : e x = .d (strD s)) (hy : e y = .d (.sc (.int k n))) (hn : n = (i : Int)) (hb : s.data[i]? = some b) : Does P dst (.index T x y) ty e β (.d (u8D b)) [] [] :=
  Does.of_run fun C γ _ ρ I w _ a hops o ho _ => by
    have q1 := (hops x (by simp [Op.operands])).2
    have q2 := (hops y (by simp [Op.operands])).2
    rw [hx] at q1
    rw [hy] at q2
    have q1 := repA_sc q1
    have q2 := repA_sc q2
    subst hn
    obtain ⟨_, d, z, _, hu, _, _, _, _, _, hkd⟩ := mkTy_spec ht
    have hu2 : P.underlying T = some .string := by rw [hu, kind_str (hkd.symm.trans hk)]
    obtain ⟨hlt, hbe⟩ := Array.getElem?_eq_some_iff.1 hb
    have hsi : s[i]? = some b := by
      have hlt' : i < s.size := hlt
      rw [getElem?_pos s i hlt']
      exact congrArg some hbe
    refine ⟨.int .u8 b.toNat, ?_, trivial, rfl, rfl⟩
    simp [execOp, ho, q1, q2, Instr.index, asIntOf, Sem.run_bind, run_underlying hu2, hsi]
end
end Go.Proofs.YtfplkakfakdfhaaDoor


/-
  The pure layer: structs of plain cells held against each other; casts. No condition.
-/
namespace Go.Proofs.YtfplkakfakdfhaaDoor
set_option linter.unusedSimpArgs false
set_option linter.unusedVariables false
open Go.RowKit

inductive Tag where
  | i | b | s
def tagsFrom (P : Program) : Nat → List Field → Option (List Tag)
  | _, [] => some []
  | k, f :: r => if f.name ≠ "_" ∧ f.offset = k then
      match P.underlying f.type, tagsFrom P (k + 1) r with
      | some (.int _), some l => some (.i :: l)
      | some .bool, some l => some (.b :: l)
      | some .string, some l => some (.s :: l)
      | _, _ => none
    else none
def tagsOf (P : Program) (T : TypeId) : Option (List Tag) := match P.underlying T with
  | some (.struct gs) => if P.stoodInHeld T = false ∧ P.eqGuardType P.depth T = false then tagsFrom P 0 gs.toList else none
  | _ => none
section
variable {P : Program} {fr : Nat} {dst : Option Nat} {ty : TypeId} {e : Operand → A} {β : Bx} {T T' : TypeId} {x y : Operand}
end
end Go.Proofs.YtfplkakfakdfhaaDoor


/-
  The pure layer: contracts whose arguments are pointers to the caller's variables, or functions with captured ones. No condition.
-/
namespace Go.Proofs.YtfplkakfakdfhaaDoor
set_option linter.unusedSimpArgs false
set_option linter.unusedVariables false
open Go.RowKit

mutual
theorem RepA.unren {ρ : Nat → Value} {I : Nat → Prop} {w : World} (π : Nat → Nat) : ∀ (v : A) (x : Value), RepA (fun i => ρ (π i)) I w v x → RepA ρ I w (v.ren π) x
  | .d d, x, h => h
  | .ag cs, _, ⟨us, hx, hr⟩ => ⟨us, hx, RepAs.unren π true cs _ hr⟩
  | .tu cs, _, ⟨us, hx, hr⟩ => ⟨us, hx, RepAs.unren π false cs _ hr⟩
  | .pe sz es i off, _, h => h
  | .px id off, _, h => h
  | .pr id sz k off, _, h => h
  | .ow id n, _, h => h
  | .sx id n c, _, h => h
  | .ov id sz k n, _, h => h
  | .fs _ _, _, h => h
  | .fn f a b, _, ⟨us, vs, hx, h1, h2⟩ => ⟨us, vs, hx, RepAs.unren π false a _ h1, RepAs.unren π false b _ h2⟩
  | .gd x a, v, h => by
    unfold A.ren
    unfold RepA at h ⊢
    split at h
    · rename_i hx; rw [if_pos hx]; exact RepA.unren π a v h
    · rename_i hx; rw [if_neg hx]; exact h
  | .un, _, _ => trivial
theorem RepAs.unren {ρ : Nat → Value} {I : Nat → Prop} {w : World} (π : Nat → Nat) (o : Bool) : ∀ (ds : List A) (l : List Value), RepAs (fun i => ρ (π i)) I w o ds l → RepAs ρ I w o (A.rens π ds) l
  | [], _, h => h
  | d :: ds, _, ⟨u, us, hx, ho, hd, hr⟩ => ⟨u, us, hx, fun h => by rw [one_ren π d]; exact ho h, RepA.unren π d u hd, RepAs.unren π o ds us hr⟩
end
mutual
theorem A.inB_ren {β γ : Bx} {π : Nat → Nat} (h : ∀ i, dom β i → dom γ (π i)) : ∀ v : A, v.inB β → (v.ren π).inB γ
  | .d _, _ => trivial
  | .ag cs, hv => A.insB_ren h cs hv
  | .tu vs, hv => A.insB_ren h vs hv
  | .pe .., _ => trivial
  | .px _ _, hv => h _ hv
  | .pr _ _ _ _, hv => h _ hv
  | .ow _ _, hv => h _ hv
  | .sx _ _ _, hv => h _ hv
  | .ov _ _ _ _, hv => h _ hv
  | .fs .., _ => trivial
  | .fn _ a b, hv => ⟨A.insB_ren h a hv.1, A.insB_ren h b hv.2⟩
  | .gd x v, hv => fun hx => A.inB_ren h v (hv hx)
  | .un, _ => trivial
theorem A.insB_ren {β γ : Bx} {π : Nat → Nat} (h : ∀ i, dom β i → dom γ (π i)) : ∀ l : List A, A.insB β l → A.insB γ (A.rens π l)
  | [], _ => trivial
  | x :: r, hv => ⟨A.inB_ren h x hv.1, A.insB_ren h r hv.2⟩
end
theorem BoxRep.unren {ρ : Nat → Value} {I : Nat → Prop} {w : World} {π : Nat → Nat} {i : Nat} {b : Box} (h : BoxRep (fun i => ρ (π i)) I w i b) : BoxRep ρ I w (π i) (b.ren π) := by
  cases b with
  | var T cs => obtain ⟨g, us, h1, h2, h3⟩ := h; exact ⟨g, us, h1, h2, RepAs.unren π true cs _ h3⟩
  | row e sz es => exact h
  | frz sz es => exact h
  | itr s pos => exact h
  | rel j X => exact h
  | dead => trivial
  | res X => exact h
theorem has_unren {π : Nat → Nat} {b : Box} {w : World} {v : Value} {g : Nat} (h : (b.ren π).has w v g) : b.has w v g := by cases b <;> exact h
theorem not_dead {b : Box} {w : World} {v : Value} {g : Nat} (h : b.has w v g) : b ≠ .dead := by
  rintro rfl
  exact h

/-! ### arguments: data is frozen, pointers stay -/
def frzX (β : Bx) (v : A) : A := match frzV β v with
  | some d => .d d
  | none => v
def frzXU (β : Bx) (v : A) : Bx := match frzV β v with
  | some _ => frzVU β v
  | none => []
def frzXsU (β : Bx) : List A → Bx
  | [] => []
  | x :: r => frzXsU β r ++ frzXU β x
theorem frzX_congr {γ δ : Bx} (h : ∀ i, rowsOf δ i = rowsOf γ i) (v : A) : frzX δ v = frzX γ v ∧ frzXU δ v = frzXU γ v := by
  unfold frzX frzXU
  rw [(frzV_congr h v).1, (frzV_congr h v).2]
  exact ⟨rfl, rfl⟩
theorem frzXs_congr {γ δ : Bx} (h : ∀ i, rowsOf δ i = rowsOf γ i) : ∀ l : List A, l.map (frzX δ) = l.map (frzX γ) ∧ frzXsU δ l = frzXsU γ l
  | [] => ⟨rfl, rfl⟩
  | x :: r => by
    obtain ⟨h1, h2⟩ := frzX_congr h x
    obtain ⟨h3, h4⟩ := frzXs_congr h r
    simp only [List.map_cons, frzXsU, h1, h2, h3, h4, and_self]
theorem frz1U_dom {γ : Bx} : ∀ (a : A) {p : Nat × Box}, p ∈ frz1U γ a → look p.1 γ ≠ none := fun a p hp => by
  cases a with
  | ow id n =>
    simp only [frz1U] at hp
    split at hp
    · rename_i sz es hro
      simp only [List.mem_singleton] at hp
      subst hp
      unfold rowsOf at hro
      intro h0
      simp only at h0
      rw [h0] at hro
      cases hro
    · cases hp
  | _ => cases hp
theorem frz1sU_dom {γ : Bx} : ∀ (l : List A) {p : Nat × Box}, p ∈ frz1sU γ l → look p.1 γ ≠ none
  | [], p, hp => by cases hp
  | a :: l, p, hp => by
    rcases List.mem_append.1 hp with hp | hp
    · exact frz1sU_dom l hp
    · exact frz1U_dom a hp
theorem frzXU_dom {γ : Bx} (v : A) {p : Nat × Box} (hp : p ∈ frzXU γ v) : look p.1 γ ≠ none := by
  unfold frzXU at hp
  split at hp
  · unfold frzVU at hp
    split at hp
    · exact frz1sU_dom _ hp
    · exact frz1U_dom _ hp
  · cases hp
theorem freeze_valX {C : Ctx} {γ : Bx} {ρ : Nat → Value} {I : Nat → Prop} {w : World} (hm : Mem C γ ρ I w) {v : A} {u : Value} (hb : v.inB γ) (hr : RepA ρ I w v u) :
    ∃ I', Mem C (frzXU γ v ++ γ) ρ I' w ∧ Ext γ ρ I w ρ I' w ∧ (frzX γ v).inB γ ∧ RepA ρ I' w (frzX γ v) u ∧ ∀ i, rowsOf (frzXU γ v ++ γ) i = rowsOf γ i := by
  unfold frzX frzXU
  cases h : frzV γ v with
  | none => exact ⟨I, by simpa using hm, Ext.refl _ _ _ _, hb, hr, fun i => rfl⟩
  | some d =>
    obtain ⟨I', h1, h2, h3, h4⟩ := freeze_val hm hb hr h
    exact ⟨I', h1, h2, trivial, h3, h4⟩
theorem freeze_valsX {C : Ctx} {ρ : Nat → Value} {w : World} : ∀ (l : List A) (us : List Value) (γ : Bx) (I : Nat → Prop), Mem C γ ρ I w → A.insB γ l → RepAs ρ I w false l us →
    ∃ I', Mem C (frzXsU γ l ++ γ) ρ I' w ∧ Ext γ ρ I w ρ I' w ∧ A.insB γ (l.map (frzX γ)) ∧ RepAs ρ I' w false (l.map (frzX γ)) us ∧ ∀ i, rowsOf (frzXsU γ l ++ γ) i = rowsOf γ i
  | [], us, γ, I, hm, hb, hr => ⟨I, by simpa [frzXsU] using hm, Ext.refl _ _ _ _, trivial, hr, fun i => rfl⟩
  | v :: l, _, γ, I, hm, hb, ⟨u, us, rfl, ho, hv, hr⟩ => by
    obtain ⟨I1, m1, x1, b1, r1, c1⟩ := freeze_valX hm hb.1 hv
    have hd : ∀ i, dom γ i → dom (frzXU γ v ++ γ) i := fun i hi => dom_append hi
    obtain ⟨e1, e2⟩ := frzXs_congr c1 l
    obtain ⟨I2, m2, x2, b2, r2, c2⟩ := freeze_valsX l us (frzXU γ v ++ γ) I1 m1 (A.insB_mono hd l hb.2) (RepAs.ext x1 false l us hb.2 hr)
    have hd2 : ∀ i, dom (frzXU γ v ++ γ) i → dom γ i := fun i hi => by
      unfold dom at *
      rw [look_append] at hi
      intro h0
      rw [h0] at hi
      have : look i (frzXU γ v) ≠ none := by simpa using hi
      obtain ⟨b, hb'⟩ := Option.ne_none_iff_exists'.1 this
      exact frzXU_dom _ (look_mem hb') h0
    rw [e1] at b2 r2
    rw [e2, ← List.append_assoc] at m2 c2
    refine ⟨I2, m2, x1.trans x2 hd, ⟨b1, A.insB_mono hd2 _ b2⟩, ⟨u, us, rfl, fun h => by (cases h), RepA.ext (β := γ) ⟨x2.toExtI, fun _ _ => rfl⟩ _ u b1 r1, r2⟩, fun i => (c2 i).trans (c1 i)⟩
theorem frzX_agree {γ β : Bx} : ∀ {l : List A}, (∀ id ∈ l.flatMap idsV, look id γ = look id β) → l.map (frzX γ) = l.map (frzX β) ∧ frzXsU γ l = frzXsU β l
  | [], _ => ⟨rfl, rfl⟩
  | v :: l, h => by
    obtain ⟨a3, a4⟩ := frzX_agree (l := l) fun id hi => h id (by rw [List.flatMap_cons]; exact List.mem_append_right _ hi)
    have h1 : ∀ id ∈ [v].flatMap idsV, look id γ = look id β := fun id hi => h id (by rw [List.flatMap_cons]; exact List.mem_append_left _ (by simpa using hi))
    obtain ⟨b1, b2⟩ := frz_agree h1
    have e1 : frzV γ v = frzV β v := by
      simp only [frzVs] at b1
      cases h1 : frzV γ v <;> cases h2 : frzV β v <;> simp_all
    have e2 : frzVU γ v = frzVU β v := by simpa [frzVsU] using b2
    have e3 : frzX γ v = frzX β v := by unfold frzX; rw [e1]
    have e4 : frzXU γ v = frzXU β v := by unfold frzXU; rw [e1, e2]
    simp only [List.map_cons, frzXsU, e3, e4, a3, a4, and_self]

/-! ### the contract -/
def PBof (β : Bx) (ρ : Nat → Value) (w : World) (g : Nat) : Prop := ∃ id b, look id β = some b ∧ b.has w (ρ id) g
def ctxOf (β : Bx) (ρ : Nat → Value) (I : Nat → Prop) (w : World) : Ctx := { w0 := w, PB := PBof β ρ w, I0 := I, N := 0, K := fun _ => false, args := fun _ => undef }
/-- Variables V and rows R come in, V' and R' go out: the variables lie where they lay. -/
structure PX (P : Program) (f : FuncId) (al : List A) (V R : Bx) (r : D) (V' R' : Bx) : Prop where
  enters : Enters P f
  calls : ∀ (ρ : Nat → Value) (I : Nat → Prop) (w : World) (vs : Array Value), Mem (ctxOf (V ++ R) ρ I w) (V ++ R) ρ I w → A.insB (V ++ R) al → RepAs ρ I w false al vs.toList →
    Calls P f vs w fun e w' => ∃ v ρ' I', e = .returned v ∧ (∀ p ∈ V', ρ' p.1 = ρ p.1) ∧ Mem (ctxOf (V ++ R) ρ I w) (V' ++ R') ρ' I' w' ∧ RepD I' w' r v
theorem Mem.ctx {C C' : Ctx} {β : Bx} {ρ : Nat → Value} {I : Nat → Prop} {w : World} (h : Mem C β ρ I w) (h1 : C'.w0 = C.w0) (h2 : C'.PB = C.PB) (h3 : C'.I0 = C.I0) : Mem C' β ρ I w := by
  refine ⟨h1 ▸ h.os, h1 ▸ h.tape, h1 ▸ h.output, h1 ▸ h.size, ?_, h.imm, ?_, h.box, ?_, h.inj, h.clo, h.gl⟩
  · rw [h1, h2]; exact h.frame
  · rw [h1, h2, h3]; exact h.new
  · rw [h1, h2]; exact h.own
def keptS : Nat → List A → Sl
  | _, [] => []
  | i, .px id off :: r => (i, .px id off) :: keptS (i + 1) r
  | i, _ :: r => keptS (i + 1) r
def keptK (al : List A) (t : Nat) : Bool := match al[t]? with
  | some (.px _ _) => true
  | _ => false
def argA : Nat → List A → Sl
  | _, [] => []
  | i, a :: r => (i, a) :: argA (i + 1) r
def hasPx (id : Nat) (al : List A) : Bool := al.any fun a => match a with
  | .px i _ => i == id
  | _ => false
def RetX (P : Program) (rs : List ResultVar) (r : D) (al : List A) (V' R' : Bx) (s : St) : Prop := ∃ vs ds l, resVs P s rs vs ∧ frzVs s.β vs = some ds ∧ SubD (resD ds) r ∧ Forget l ⟨s.σ, frzVsU s.β vs ++ s.β⟩ ⟨keptS 0 al, V' ++ R'⟩
def retX (P : Program) (rs : List ResultVar) (r : D) (al : List A) (V' R' : Bx) : Exit → St → Prop
  | .normal, s => RetX P rs r al V' R' s
  | .ret, s => RetX P rs r al V' R' s
  | _, _ => False
theorem argA_look : ∀ {al : List A} {k t : Nat} {v : A}, look t (argA k al) = some v → ∃ i, t = k + i ∧ al[i]? = some v
  | d :: ds, k, t, v, h => by
    rw [argA, look_cons] at h
    split at h
    · rename_i hk; injection h with h; exact ⟨0, by omega, by rw [h]; rfl⟩
    · obtain ⟨i, h1, h2⟩ := argA_look h
      exact ⟨i + 1, by omega, by simpa using h2⟩
theorem keptS_look : ∀ {al : List A} {k i : Nat} {id off : Nat}, al[i]? = some (.px id off) → look (k + i) (keptS k al) = some (.px id off)
  | a :: al, k, 0, id, off, h => by
    injection h with h
    subst h
    simp [keptS, look_cons]
  | a :: al, k, i + 1, id, off, h => by
    have h : al[i]? = some (.px id off) := by simpa using h
    have ih := keptS_look (k := k + 1) h
    rw [show k + (i + 1) = k + 1 + i by omega]
    cases a with
    | px id2 off2 => rw [keptS, look_cons, if_neg (by omega)]; exact ih
    | _ => exact ih
theorem hasPx_get {id : Nat} : ∀ {al : List A}, hasPx id al = true → ∃ (i off : Nat), al[i]? = some (A.px id off)
  | a :: al, h => by
    simp only [hasPx, List.any_cons, Bool.or_eq_true] at h
    rcases h with h | h
    · cases a with
      | px i0 off =>
        have : i0 = id := by simpa using h
        subst this
        exact ⟨0, off, rfl⟩
      | _ => cases h
    · obtain ⟨i, off, h⟩ := hasPx_get (al := al) h
      exact ⟨i + 1, off, by simpa using h⟩
section
variable {P : Program}
theorem px_of_aw {f : FuncId} {fn : Func} {c : Code} {al : List A} {V R V' R' : Bx} {r : D} {rs : List ResultVar} (hf : P.funcs[f]? = some fn) (hb : fn.body = some c) (hn : (fn.name == "runtime.NumGoroutine") = false) (hmx : P.follows .mixedOrders = true) (hok : codeOk (keptK al) fn.ntmps c = true) (hds : al.length ≤ fn.ntmps)
    (hrs : fn.results = rs.toArray) (hV : V'.all (fun p => hasPx p.1 al) = true) (h : AW P c (retX P rs r al V' R') ⟨argA 0 al, V ++ R⟩) : PX P f al V R r V' R' := by
  refine ⟨enters_of hf hb hn, fun ρ I w vs hm hin hr => ?_⟩
  refine calls_of_wp hf hb ?_
  have hvl := repAs_len hr
  rw [Array.length_toList] at hvl
  have hget : ∀ {i : Nat} {v : A}, al[i]? = some v → ∃ u, vs[i]? = some u ∧ RepA ρ I w v u ∧ (vs ++ Array.replicate (fn.ntmps - vs.size) undef).getD i undef = u ∧ i < vs.size := fun {i v} hi => by
    obtain ⟨u, h3, h4, _⟩ := repAs_get hr hi
    have hlt : i < vs.size := by rw [← Array.length_toList]; exact (List.getElem?_eq_some_iff.1 h3).1
    have h5 : vs[i]? = some u := by simpa using h3
    refine ⟨u, h5, h4, ?_, hlt⟩
    rw [Array.getD_eq_getD_getElem?, Array.getElem?_append_left hlt, h5]; rfl
  let C : Ctx := { w0 := w, PB := PBof (V ++ R) ρ w, I0 := I, N := fn.ntmps, K := keptK al, args := fun t => (vs ++ Array.replicate (fn.ntmps - vs.size) undef).getD t undef }
  have hm' : Mem C (V ++ R) ρ I w := hm.ctx rfl rfl rfl
  have hat : At C ⟨argA 0 al, V ++ R⟩ { tmps := vs ++ Array.replicate (fn.ntmps - vs.size) undef, defers := [] } w := by
    refine ⟨ρ, I, hm', rfl, ?_, fun t _ => rfl, fun t v ht => ?_⟩
    · show (vs ++ Array.replicate (fn.ntmps - vs.size) undef).size = fn.ntmps
      simp; omega
    · obtain ⟨i, h1, h2⟩ := argA_look ht
      rw [Nat.zero_add] at h1
      subst h1
      obtain ⟨u, h3, h4, h5, h6⟩ := hget h2
      refine ⟨by show t < fn.ntmps; omega, A.insB_mem hin v (List.mem_of_getElem? h2), ?_⟩
      show RepA ρ I w v ((vs ++ Array.replicate (fn.ntmps - vs.size) undef).getD t undef)
      rw [h5]; exact h4
  have hfin : ∀ s a' w', RetX P rs r al V' R' s → At C s a' w' → a'.defers = [] ∧ ∃ v, (results fn a'.tmps).run P w' = .ok v w' ∧
      (∃ v' ρ' I', Ending.returned v = .returned v' ∧ (∀ p ∈ V', ρ' p.1 = ρ p.1) ∧ Mem (ctxOf (V ++ R) ρ I w) (V' ++ R') ρ' I' w' ∧ RepD I' w' r v') := by
    rintro s a' w' ⟨vs', ds', l, h1, h2, hsub, hfg⟩ ⟨ρ2, J, hm2, hfr⟩
    obtain ⟨us, k1, k2, k3⟩ := resVs_run hm2 hfr h1
    obtain ⟨J', m1, x1, r1, _⟩ := freeze_vals _ _ ds' s.β J hm2 k2 k3 h2
    have hul := repC_len r1
    have hfr1 : Fr C s.σ (frzVsU s.β vs' ++ s.β) ρ2 J' w' a' := ⟨hfr.defers, hfr.size, hfr.keep, fun t v ht => by
      obtain ⟨q1, q2, q3⟩ := hfr.val t v ht
      exact ⟨q1, A.inB_mono (fun i hi => dom_append hi) v q2, RepA.ext x1 v _ q2 q3⟩⟩
    have m2 := hfg.mem m1
    have f2 := hfg.fr hfr1
    refine ⟨hfr.defers, (if h : us.toArray.size = 1 then us.toArray[0] else .tuple us.toArray), ?_, _, _, J', rfl, fun p hp => ?_, m2.ctx rfl rfl rfl, ?_⟩
    · have hrm : ∀ fn' : Func, fn'.results = rs.toArray → results fn' a'.tmps = (do
          let vs ← rs.toArray.mapM (resRun a'.tmps)
          pure (if h : vs.size = 1 then vs[0] else .tuple vs)) := fun fn' h' => by
        unfold results
        rw [h']
        congr 1
      rw [hrm fn hrs, List.mapM_toArray]
      simp only [map_eq_pure_bind, bind_assoc, pure_bind, Sem.run_bind, k1, Result.andThen_ok, Sem.run_pure]
    · obtain ⟨i, off, hi⟩ := hasPx_get (List.all_eq_true.1 hV p hp)
      obtain ⟨_, _, g1, q1, q2⟩ := f2.val i (.px p.1 off) (by have := keptS_look (k := 0) hi; rwa [Nat.zero_add] at this)
      obtain ⟨u, _, ⟨g0, z1, z2⟩, z3, _⟩ := hget hi
      have hk := hfr.keep i (by show keptK al i = true; unfold keptK; rw [hi])
      have hk : a'.tmps.getD i undef = u := by rw [hk]; exact z3
      rw [hk, z2] at q2
      injection q2 with q2; injection q2 with q2; injection q2 with q2
      subst q2
      show ρ2 (renOf l p.1) = ρ p.1
      rw [z1]; exact q1
    · refine hsub _ _ _ ?_
      cases ds' with
      | nil =>
        cases r1
        refine ⟨#[], by rfl, rfl⟩
      | cons d ds1 =>
        obtain ⟨u, us1, rfl, _, hd, hrest⟩ := r1
        cases ds1 with
        | nil =>
          cases hrest
          exact hd
        | cons d2 ds2 =>
          have hl2 := repC_len hrest
          rw [dif_neg (by simp [hl2])]
          refine ⟨_, rfl, ?_⟩
          have : RepC J' w' false (d :: d2 :: ds2) (u :: us1) := ⟨u, us1, rfl, fun h => by (cases h), hd, hrest⟩
          simpa using this
  refine wp_mono (aw_sound hmx c _ _ _ w (C := C) hok h hat) fun en a' w' hq => ?_
  obtain ⟨s, hq, ha⟩ := hq
  cases en with
  | normal => exact hfin s a' w' hq ha
  | ret => exact hfin s a' w' hq ha
  | _ => exact hq.elim
end
/-! ### a call -/
def renB (π : Nat → Nat) (β : Bx) : Bx := β.map fun p => (π p.1, p.2.ren π)
def deadB (π : Nat → Nat) (β : Bx) : Bx := β.map fun p => (π p.1, .dead)
theorem look_renB {π : Nat → Nat} {β : Bx} (ho : onceB π β = true) {id : Nat} {b : Box} (h : look id (renB π β) = some b) : ∃ i b0, look i β = some b0 ∧ (i, b0) ∈ β ∧ π i = id ∧ b = b0.ren π := by
  obtain ⟨p, hp, he⟩ := List.mem_map.1 (look_mem h)
  injection he with h1 h2
  obtain ⟨b1, hb1⟩ := look_some_of (l := β) (t := p.1) (List.mem_map.2 ⟨p, hp, rfl⟩)
  have hmem := look_mem hb1
  refine ⟨p.1, b1, hb1, hmem, h1, ?_⟩
  have hu : ∀ {δ : Bx}, onceB π δ = true → ∀ {i : Nat} {b c : Box}, (i, b) ∈ δ → (i, c) ∈ δ → b = c := by
    intro δ
    induction δ with
    | nil => intro _ i b c hb; cases hb
    | cons q δ ih =>
      intro ho i b c hb hc
      obtain ⟨k, u⟩ := q
      simp only [onceB, Bool.and_eq_true] at ho
      have hn : ∀ p ∈ δ, π p.1 ≠ π k := fun p hp => by simpa using List.all_eq_true.1 ho.1 p hp
      rcases List.mem_cons.1 hb with hb1 | hb1 <;> rcases List.mem_cons.1 hc with hc1 | hc1
      · injection hb1 with _ e1; injection hc1 with _ e2; rw [e1, e2]
      · injection hb1 with e1 _; subst e1; exact absurd rfl (hn (i, c) hc1)
      · injection hc1 with e1 _; subst e1; exact absurd rfl (hn (i, b) hb1)
      · exact ih ho.2 hb1 hc1
  rw [← h2, hu ho (i := p.1) (b := p.2) (c := b1) hp hmem]
theorem look_renB_of {π : Nat → Nat} {β : Bx} {i : Nat} {b : Box} (h : look i β = some b) : ∃ b', look (π i) (renB π β) = some b' :=
  look_some_of (List.mem_map.2 ⟨(π i, b.ren π), List.mem_map.2 ⟨(i, b), look_mem h, rfl⟩, rfl⟩)
theorem look_deadB {π : Nat → Nat} {β : Bx} {id : Nat} {b : Box} (h : look id (deadB π β) = some b) : b = .dead ∧ ∃ p ∈ β, π p.1 = id := by
  obtain ⟨p, hp, he⟩ := List.mem_map.1 (look_mem h)
  injection he with h1 h2
  exact ⟨h2.symm, p, hp, h1⟩
section
variable {P : Program} {dst : Option Nat} {ty : TypeId} {e : Operand → A} {β : Bx}
theorem does_callX {x : Operand} {args : Array Operand} {ts : Array TypeId} {f : FuncId} {first captured : List A} {al : List A} {V R V' R' : Bx} {r : D} (ren ren' : List (Nat × Nat)) {ups : Bx} {rd : List Nat}
    (hx : e x = .fn (.func f) first captured) (hpc : PX P f al V R r V' R') (has : (first ++ args.toList.map e ++ captured).map (frzX β) = A.rens (renOf ren) al)
    (hb : keepB (renOf ren) (frzXsU β (first ++ args.toList.map e ++ captured) ++ β) (V ++ R)) (ho : onceB (renOf ren) (V ++ R) = true) (hin : inBb (V ++ R) (V ++ R)) (hia : A.insB (V ++ R) al)
    (hkeys : V'.map (·.1) = V.map (·.1)) (hvv : V'.all (fun p => renOf ren' p.1 == renOf ren p.1) = true) (hlv : V.all (fun p => p.2.opn) = true)
    (ho' : onceB (renOf ren') (V' ++ R') = true) (hfresh : R'.all (fun p => (look (renOf ren' p.1) (frzXsU β (first ++ args.toList.map e ++ captured) ++ β)).isNone) = true) (hin' : inBb (V' ++ R') (V' ++ R'))
    (hups : ups = renB (renOf ren') (V' ++ R') ++ deadB (renOf ren) R ++ frzXsU β (first ++ args.toList.map e ++ captured)) (hrd : rd = (V ++ R).map (fun p => renOf ren p.1) ++ (first ++ args.toList.map e ++ captured).flatMap idsV) :
    Does P dst (.call { callee := .value x, args := args, argTypes := ts }) ty e β (.d r) ups rd := by
  subst hups hrd
  generalize hL : first ++ args.toList.map e ++ captured = L at *
  intro C γ hag ρ I w hm a hops o hop hd hty K Q hK
  obtain ⟨fi, ca, h1, h2, h3⟩ := call_args hx hops
  rw [hL] at h2 h3
  obtain ⟨e1, e2⟩ := frzX_agree (fun id hid => hag id (List.mem_append_left _ (List.mem_append_right _ hid)))
  obtain ⟨I1, m1, x1, b1, r1, _⟩ := freeze_valsX _ _ γ I hm h2 h3
  rw [e1, has] at r1
  rw [e2] at m1
  generalize hU : frzXsU β L = U at *
  have hagU : ∀ id, look id γ = look id β → look id (U ++ γ) = look id (U ++ β) := fun id h => by rw [look_append, look_append, h]
  have hkb : ∀ {i : Nat} {b : Box}, look i (V ++ R) = some b → look (renOf ren i) (U ++ γ) = some (b.ren (renOf ren)) := fun {i b} hi => by
    rw [hagU _ (hag _ (List.mem_append_left _ (List.mem_append_left _ (List.mem_map.2 ⟨(i, b), look_mem hi, rfl⟩))))]
    exact keepB_look hb hi
  have hfr : ∀ p ∈ R', look (renOf ren' p.1) (U ++ γ) = none := fun p hp => by
    have h0 := List.all_eq_true.1 hfresh p hp
    have h0 : look (renOf ren' p.1) (U ++ β) = none := by simpa using h0
    have hmem : renOf ren' p.1 ∈ (renB (renOf ren') (V' ++ R') ++ deadB (renOf ren) R ++ U).map (·.1) := by
      rw [List.map_append, List.map_append]
      refine List.mem_append_left _ (List.mem_append_left _ ?_)
      exact List.mem_map.2 ⟨(renOf ren' p.1, p.2.ren (renOf ren')), List.mem_map.2 ⟨p, List.mem_append_right _ hp, rfl⟩, rfl⟩
    rw [hagU _ (hag _ (List.mem_append_right _ hmem))]
    exact h0
  have hmc : Mem (ctxOf (V ++ R) (fun i => ρ (renOf ren i)) I1 w) (V ++ R) (fun i => ρ (renOf ren i)) I1 w :=
    { os := rfl, tape := rfl, output := rfl, size := Nat.le_refl _, frame := fun _ _ _ => rfl, imm := m1.imm, new := fun g hg => .inl hg,
      box := fun i b hi => BoxRep.ren (m1.box _ _ (hkb hi)),
      own := fun i b g hi hg => by
        obtain ⟨q1, q2, _⟩ := m1.own _ _ g (hkb hi) (has_ren _ _ hg)
        exact ⟨q1, q2, .inr ⟨i, b, hi, hg⟩⟩,
      inj := fun i j b b' g hi hj hg hg' => onceB_inj ho (look_mem hi) (look_mem hj) (m1.inj _ _ _ _ g (hkb hi) (hkb hj) (has_ren _ _ hg) (has_ren _ _ hg')),
      clo := fun i b hi => inBb_look hin hi,
      gl := m1.gl }
  unfold Oper.wp
  rw [run_call hpc.enters rfl h1 o hop, Oper.upon_enter]
  have hre : RepAs (fun i => ρ (renOf ren i)) I1 w false al (fi ++ args.map a.eval ++ ca).toList := RepAs.ren (renOf ren) false al _ r1
  refine (hpc.calls _ I1 w _ hmc hia hre).mono fun en w' ⟨v, ρ', I', he, hρ, hm', hr'⟩ => ?_
  subst he
  let fresh : Nat → Prop := fun i => ∃ p ∈ R', renOf ren' p.1 = i
  have hdec : ∀ i, fresh i ∨ ¬ fresh i := fun i => Classical.em _
  -- where each box lies behind the call
  obtain ⟨ρ2, hρ2, hρ3⟩ : ∃ ρ2 : Nat → Value, (∀ p ∈ R', ρ2 (renOf ren' p.1) = ρ' p.1) ∧ ∀ i, ¬ fresh i → ρ2 i = ρ i := by
    classical
    refine ⟨fun i => if h : fresh i then ρ' h.choose.1 else ρ i, fun p hp => ?_, fun i hi => dif_neg hi⟩
    have hf : fresh (renOf ren' p.1) := ⟨p, hp, rfl⟩
    simp only [dif_pos hf]
    obtain ⟨hq1, hq2⟩ := hf.choose_spec
    exact congrArg ρ' (onceB_inj ho' (b := hf.choose.2) (b' := p.2) (List.mem_append_right _ hq1) (List.mem_append_right _ hp) hq2)
  have hvk : ∀ {i : Nat} {b : Box}, look i (V' ++ R') = some b → (i, b) ∈ V' ∨ (i, b) ∈ R' := fun {i b} h => List.mem_append.1 (look_mem h)
  have hvar : ∀ {i : Nat} {b : Box}, (i, b) ∈ V' → renOf ren' i = renOf ren i ∧ ∃ b0, look i (V ++ R) = some b0 ∧ b0.opn = true := fun {i b} h => by
    refine ⟨by simpa using List.all_eq_true.1 hvv _ h, ?_⟩
    have hm0 : i ∈ V.map (·.1) := by rw [← hkeys]; exact List.mem_map.2 ⟨_, h, rfl⟩
    obtain ⟨b0, hb0⟩ := look_some_of hm0
    refine ⟨b0, by rw [look_append, hb0]; rfl, List.all_eq_true.1 hlv _ (look_mem hb0)⟩
  have hnf : ∀ {i : Nat} {b : Box}, (i, b) ∈ V' → ¬ fresh (renOf ren i) := fun {i b} h hf => by
    obtain ⟨p, hp, hpe⟩ := hf
    obtain ⟨_, b0, hb0, _⟩ := hvar h
    have := hfr p hp
    rw [hpe, hkb hb0] at this
    cases this
  have hval : ∀ {i : Nat} {b : Box}, look i (V' ++ R') = some b → ρ2 (renOf ren' i) = ρ' i := fun {i b} h => by
    rcases hvk h with h | h
    · obtain ⟨q1, _⟩ := hvar h
      rw [q1, hρ3 _ (hnf h)]
      exact (hρ (i, b) h).symm
    · exact hρ2 (i, b) h
  let I2 : Nat → Prop := fun g => I1 g ∨ I' g
  have hPB : ∀ g, PBof (V ++ R) (fun i => ρ (renOf ren i)) w g → ∃ id b, look id (U ++ γ) = some b ∧ b.has w (ρ id) g ∧ g < w.heap.size ∧ ¬ I1 g ∧ (C.w0.heap.size ≤ g ∨ C.PB g) ∧ ∃ i b0, look i (V ++ R) = some b0 ∧ renOf ren i = id := fun g ⟨i, b, hi, hg⟩ => by
    obtain ⟨q1, q2, q3⟩ := m1.own _ _ g (hkb hi) (has_ren _ _ hg)
    exact ⟨_, _, hkb hi, has_ren _ _ hg, q1, q2, q3, i, b, hi, rfl⟩
  have hupsL : ∀ {i : Nat}, (∃ b, look i (V ++ R) = some b) → look (renOf ren i) (renB (renOf ren') (V' ++ R') ++ deadB (renOf ren) R) ≠ none := fun {i} ⟨b, hb⟩ => by
    rw [look_append] at hb
    rw [look_append]
    cases hv : look i V with
    | some b1 =>
      have hm0 : i ∈ V'.map (·.1) := by rw [hkeys]; exact List.mem_map.2 ⟨_, look_mem hv, rfl⟩
      obtain ⟨b2, hb2⟩ := look_some_of hm0
      obtain ⟨q1, _⟩ := hvar (look_mem hb2)
      obtain ⟨b3, hb3⟩ := look_renB_of (π := renOf ren') (β := V' ++ R') (i := i) (b := b2) (by rw [look_append, hb2]; rfl)
      rw [← q1, hb3]; simp
    | none =>
      rw [hv] at hb
      have hb : look i R = some b := by simpa using hb
      obtain ⟨b2, hb2⟩ := look_some_of (l := deadB (renOf ren) R) (t := renOf ren i) (List.mem_map.2 ⟨(renOf ren i, .dead), List.mem_map.2 ⟨(i, b), look_mem hb, rfl⟩, rfl⟩)
      rw [hb2]
      cases look (renOf ren i) (renB (renOf ren') (V' ++ R')) <;> simp
  have hx2 : Ext (U ++ γ) ρ I1 w ρ2 I2 w' := ⟨⟨fun g h => .inl h, fun g h => by
    refine hm'.frame g (m1.imm g h) fun hp => ?_
    obtain ⟨_, _, _, _, _, q, _⟩ := hPB g hp
    exact q h⟩, fun i hi => hρ3 i fun ⟨p, hp, hpe⟩ => hi (by rw [← hpe]; exact hfr p hp)⟩
  have hmono : ExtI I' w' I2 w' := ⟨fun g h => .inr h, fun _ _ => rfl⟩
  have hold0 : ∀ id b g, look id (U ++ γ) = some b → look id (renB (renOf ren') (V' ++ R') ++ deadB (renOf ren) R) = none → b.has w (ρ id) g → ¬ PBof (V ++ R) (fun i => ρ (renOf ren i)) w g := fun id b g h1 h2 h4 hp => by
    obtain ⟨id2, b2, q1, q2, _, _, _, i, b0, q4, q5⟩ := hPB g hp
    have := m1.inj id id2 b b2 g h1 q1 h4 q2
    rw [this, ← q5] at h2
    exact hupsL ⟨b0, q4⟩ h2
  have hlive : ∀ {i : Nat} {b : Box}, look i (V' ++ R') = some b → ∀ g, b.has w' (ρ2 (renOf ren' i)) g → g < w'.heap.size ∧ ¬ I2 g ∧ (C.w0.heap.size ≤ g ∨ C.PB g) ∧ (w.heap.size ≤ g ∨ PBof (V ++ R) (fun i => ρ (renOf ren i)) w g) := fun {i b} h g hg => by
    rw [hval h] at hg
    obtain ⟨q1, q2, q3⟩ := hm'.own i b g h hg
    refine ⟨q1, fun h0 => ?_, ?_, q3⟩
    · rcases h0 with h0 | h0
      · rcases q3 with q3 | q3
        · exact absurd (m1.imm g h0) (by have : w.heap.size ≤ g := q3; omega)
        · obtain ⟨_, _, _, _, _, q, _⟩ := hPB g q3
          exact q h0
      · exact q2 h0
    · rcases q3 with q3 | q3
      · exact .inl (Nat.le_trans m1.size q3)
      · obtain ⟨_, _, _, _, _, _, q, _⟩ := hPB g q3
        exact q
  have hmem := m1.upd (renB (renOf ren') (V' ++ R') ++ deadB (renOf ren) R) hx2 hm'.os hm'.tape hm'.output hm'.size
    (fun g h => by
      rcases h with h | h
      · exact Nat.lt_of_lt_of_le (m1.imm g h) hm'.size
      · exact hm'.imm g h)
    (fun g h => by
      rcases h with h | h
      · exact .inl h
      · rcases hm'.new g h with h | h | h
        · exact .inl h
        · exact .inr (.inl (Nat.le_trans m1.size h))
        · obtain ⟨_, _, _, _, _, _, q, _⟩ := hPB g h
          exact .inr q)
    (PBof (V ++ R) (fun i => ρ (renOf ren i)) w) (fun k hk hp => hm'.frame k hk hp) (fun k hk => by
      obtain ⟨_, _, _, _, _, _, q, _⟩ := hPB k hk
      exact q)
    (fun id b g h1 h2 h4 => by
      refine ⟨hold0 id b g h1 h2 h4, fun h => ?_⟩
      obtain ⟨q1, q2, _⟩ := m1.own id b g h1 h4
      rcases h with h | h
      · exact q2 h
      · rcases hm'.new g h with h | h | h
        · exact q2 h
        · exact absurd q1 (by have : w.heap.size ≤ g := h; omega)
        · exact hold0 id b g h1 h2 h4 h)
    (fun id b h => by
      rw [look_append] at h
      cases hv : look id (renB (renOf ren') (V' ++ R')) with
      | none =>
        rw [hv] at h
        obtain ⟨rfl, _⟩ := look_deadB (h : look id (deadB (renOf ren) R) = some b)
        exact ⟨trivial, trivial, fun g h => by cases h⟩
      | some b1 =>
        rw [hv] at h
        have h : b1 = b := by simpa using h
        subst h
        obtain ⟨i, b0, q1, q2, rfl, rfl⟩ := look_renB ho' hv
        refine ⟨?_, ?_, fun g hg => ?_⟩
        · have hb1 := hm'.box i b0 q1
          have hb2 : BoxRep (fun i => ρ2 (renOf ren' i)) I2 w' i b0 := by
            have hcl := hm'.clo i b0 q1
            cases b0 with
            | var T cs =>
              obtain ⟨g, us, z1, z2, z3⟩ := hb1
              refine ⟨g, us, (hval q1).trans z1, z2, RepAs.ext (β := V' ++ R') ⟨hmono, fun j hj => ?_⟩ true cs _ hcl z3⟩
              obtain ⟨bj, hbj⟩ := Option.ne_none_iff_exists'.1 hj
              exact hval hbj
            | row E sz es =>
              obtain ⟨xs, z1, z2⟩ := hb1
              have e0 := hval q1
              refine ⟨xs, ?_, RepR.ext hmono sz es xs z2⟩
              show w'.ownsRow 0 E sz (ρ2 (renOf ren' i)) es.length xs
              rw [e0]; exact z1
            | frz sz es =>
              show RepD I2 w' (.sl sz es) (ρ2 (renOf ren' i))
              rw [hval q1]; exact RepD.ext hmono _ _ hb1
            | itr s pos =>
              obtain ⟨g, z1, z2⟩ := hb1
              exact ⟨g, (hval q1).trans z1, z2⟩
            | res X =>
              obtain ⟨fs, z1⟩ := hb1
              exact ⟨fs, by show X.rep w' (ρ2 (renOf ren' i)) fs; rw [hval q1]; exact z1⟩
            | rel j X =>
              obtain ⟨bj, hbj⟩ := Option.ne_none_iff_exists'.1 hcl
              obtain ⟨fs, z1⟩ := hb1
              exact ⟨fs, by show X.rep w' (ρ2 (renOf ren' j)) (ρ2 (renOf ren' i)) fs; rw [hval q1, hval hbj]; exact z1⟩
            | dead => trivial
          exact BoxRep.unren hb2
        · have hd : ∀ j, dom (V' ++ R') j → dom ((renB (renOf ren') (V' ++ R') ++ deadB (renOf ren) R) ++ (U ++ γ)) (renOf ren' j) := fun j hj => by
            obtain ⟨bj, hbj⟩ := Option.ne_none_iff_exists'.1 hj
            obtain ⟨b3, hb3⟩ := look_renB_of (π := renOf ren') hbj
            unfold dom
            rw [look_append, look_append, hb3]; simp
          have hcl := hm'.clo i b0 q1
          cases b0 with
          | var T cs => exact A.insB_ren hd cs hcl
          | rel j X => exact hd j hcl
          | _ => trivial
        · obtain ⟨z1, z2, z3, z4⟩ := hlive q1 g (has_unren hg)
          refine ⟨z1, z2, z3, fun id2 b2 y1 y2 y4 => ?_⟩
          rcases z4 with z4 | z4
          · exact absurd (m1.own id2 b2 g y1 y4).1 (by omega)
          · exact hold0 id2 b2 g y1 y2 y4 z4)
    (fun i j b b' g h h' hg hg' => by
      have hsplit : ∀ {id : Nat} {b : Box}, look id (renB (renOf ren') (V' ++ R') ++ deadB (renOf ren) R) = some b → b ≠ .dead → look id (renB (renOf ren') (V' ++ R')) = some b := fun {id b} h hl => by
        rw [look_append] at h
        cases hv : look id (renB (renOf ren') (V' ++ R')) with
        | none =>
          rw [hv] at h
          obtain ⟨rfl, _⟩ := look_deadB (h : look id (deadB (renOf ren) R) = some b)
          exact absurd rfl hl
        | some b1 => rw [hv] at h; simpa using h
      obtain ⟨i0, b0, q1, _, rfl, rfl⟩ := look_renB ho' (hsplit h (not_dead hg))
      obtain ⟨j0, b0', q2, _, rfl, rfl⟩ := look_renB ho' (hsplit h' (not_dead hg'))
      rw [hval q1] at hg
      rw [hval q2] at hg'
      rw [hm'.inj i0 j0 b0 b0' g q1 q2 (has_unren hg) (has_unren hg')])
  rw [hd]
  rw [← List.append_assoc] at hmem
  exact hK v ρ2 I2 w' hmem (x1.trans hx2 (fun i hi => dom_append hi)) trivial (RepD.ext hmono r v hr')
end
section
variable {P : Program} {rs : List ResultVar} {r : D} {al : List A} {V' R' : Bx} {s : St}
theorem xe_norm (h : RetX P rs r al V' R' s) : retX P rs r al V' R' .normal s := h
theorem xe_ret (h : RetX P rs r al V' R' s) : retX P rs r al V' R' .ret s := h
theorem retx_ok {vs : List A} {ds : List D} {l : List (Nat × Nat)} (h1 : resVs P s rs vs) (h2 : frzVs s.β vs = some ds) (h3 : SubD (resD ds) r) (h4 : Forget l ⟨s.σ, frzVsU s.β vs ++ s.β⟩ ⟨keptS 0 al, V' ++ R'⟩) : RetX P rs r al V' R' s := ⟨vs, ds, l, h1, h2, h3, h4⟩
end
section
variable {P : Program} {all r : List Oper} {σ : Sl} {β δ ups : Bx} {K : Sl → Bx → Prop} {t : Nat} {op : Op} {ty : TypeId} {pos : String} {af : Array Edge} {v : A} {rd : List Nat} {rs : List Rec}
theorem rpL (hs : Does P (some t) op ty (ev σ) β v ups rd) (he : ups ++ β = δ) (h : runP P all r ((t, v) :: σ) δ K) : runP P all (⟨some t, op, ty, pos, af, none⟩ :: r) σ β K := ⟨v, _, rd, hs, he ▸ h⟩
theorem drL (hs : Does P (some t) op ty (ev σ) β v ups rd) (he : ups ++ β = δ) (h : runD P all r ((t, v) :: σ) δ (mkRec all ⟨some t, op, ty, pos, af, none⟩ ups rd :: rs) K) : runD P all (⟨some t, op, ty, pos, af, none⟩ :: r) σ β rs K := ⟨v, _, rd, hs, he ▸ h⟩
end
theorem lapp_nil (β : Bx) : [] ++ β = β := rfl
theorem lapp_1 (a : Nat × Box) (β : Bx) : [a] ++ β = a :: β := rfl
theorem lapp_2 (a b : Nat × Box) (β : Bx) : [a, b] ++ β = a :: b :: β := rfl
theorem lapp_3 (a b c : Nat × Box) (β : Bx) : [a, b, c] ++ β = a :: b :: c :: β := rfl
section
variable {P : Program} {dst : Option Nat} {ty : TypeId} {e : Operand → A} {β : Bx}
theorem does_makeFunc_l {f : Fn} {first captured : Array Operand} {vs ws : List A} (h1 : first.toList.map e = vs) (h2 : captured.toList.map e = ws) : Does P dst (.makeFunc f first captured) ty e β (.fn f vs ws) [] [] := by
  rw [← h1, ← h2]; exact does_makeFunc
theorem evs_nil {l : List Operand} (h : l = []) : l.map e = [] := by rw [h]; rfl
theorem evs_cons {x : Operand} {l m : List Operand} {v : A} {vs : List A} (hl : l = x :: m) (h : e x = v) (t : m.map e = vs) : l.map e = v :: vs := by rw [hl, ← h, ← t]; rfl
theorem does_quo_to {T T' : TypeId} {x y : Operand} {m n k : Nat} (hx : e x = .d (iD m)) (hy : e y = .d (iD n)) (hk : m / n = k) (h : 0 < n) (h2 : m ≤ 9223372036854775807) : Does P dst (.binOp .quo T x y T') ty e β (.d (iD k)) [] [] := by
  rw [← hk]; exact does_quo hx hy h h2
theorem does_rem_to {T T' : TypeId} {x y : Operand} {m n k : Nat} {z : Int} (hx : e x = .d (iD z)) (hz : z = m) (hy : e y = .d (iD n)) (hk : m % n = k) (h : 0 < n) : Does P dst (.binOp .rem T x y T') ty e β (.d (iD k)) [] [] := by
  subst hz; rw [← hk]; exact does_rem hx hy h
end
theorem rens_d (π : Nat → Nat) : ∀ ds : List D, A.rens π (ds.map A.d) = ds.map A.d
  | [] => rfl
  | d :: ds => by simp only [List.map_cons, A.rens, A.ren, rens_d π ds]
theorem kb_d {π : Nat → Nat} {β : Bx} {i : Nat} {T : TypeId} {ds : List D} (h : look (π i) β = some (.var T (ds.map A.d))) : look (π i) β = some (Box.ren π (.var T (ds.map A.d))) := by
  rw [h]; simp only [Box.ren, rens_d]
section
variable {P : Program} {dst : Option Nat} {ty : TypeId} {e : Operand → A} {β : Bx} {T T0 : TypeId} {x y : Operand}
theorem allD_of : ∀ ds : List D, allD (ds.map A.d) = some ds
  | [] => rfl
  | d :: ds => by simp only [List.map_cons, allD, allD_of ds]
end
theorem rv_rowd {P : Program} {s : St} {t : Nat} {T : TypeId} {i : Nat} {T0 : TypeId} {ds : List D} {ty : TyI} (h1 : look t s.σ = some (.px i 0)) (h2 : look i s.β = some (.var T0 (ds.map A.d))) (h3 : mkTy P T = some ty) (h4 : ty.row = true) (h5 : ds.length = ty.size) : resV P s (.cell t T) (.ag (ds.map A.d)) := by
  have h := rv_row (P := P) h1 h2 h3 h4 (by simp [h5])
  rwa [List.drop_zero, List.take_of_length_le (by simp [h5])] at h
theorem frz1s_map (β : Bx) : ∀ ds : List D, frz1s β (ds.map A.d) = some ds
  | [] => rfl
  | d :: ds => by simp only [List.map_cons, frz1s, frz1, frz1s_map β ds]
theorem frzV_map (β : Bx) (ds : List D) : frzV β (.ag (ds.map A.d)) = some (.ag ds) := by simp only [frzV, frz1s_map]
theorem frzVs_one {β : Bx} {v : A} {d : D} (h : frzV β v = some d) : frzVs β [v] = some [d] := by simp only [frzVs, h]
theorem frzVs_cons {β : Bx} {v : A} {vs : List A} {d : D} {ds : List D} (h : frzV β v = some d) (h2 : frzVs β vs = some ds) : frzVs β (v :: vs) = some (d :: ds) := by simp only [frzVs, h, h2]
theorem does_zeroS {P : Program} {dst : Option Nat} {ty : TypeId} {e : Operand → A} {β : Bx} {T : TypeId} {t : TyI} {fs : List (Nat × Nat × Bool)} (ht : mkTy P T = some t) (hk : t.kind = .struct fs) (hfs : fs.all (fun f => f.2.1 != 0) = true) : Does P dst (.build T #[]) ty e β (.d (.ag t.zero)) [] [] :=
  does_build (parts := #[]) (out := t.zero.map A.d) ht hk hfs rfl (allD_of _)
section
variable {P : Program} {all r : List Oper} {σ : Sl} {β δ ups : Bx} {K : Sl → Bx → Prop} {t : Nat} {op : Op} {ty : TypeId} {pos : String} {af : Array Edge} {v : A} {rd : List Nat} {rs : List Rec}
/-- The guard holds: as if there were none. -/
theorem stepGT {dst : Option Nat} {g : Nat × Bool} {want x : Bool} (hg : guardT all ⟨dst, op, ty, pos, af, some g⟩ = some (some (t, want))) (hx : gval σ t want = some x) (ht : x = true) (hgt : gates true (ev σ) op.operands.toList) (hd : Does P dst op ty (fun y => stripA (ev σ y)) β v ups rd) :
    StepSem P all σ β ⟨dst, op, ty, pos, af, some g⟩ v ups rd := by
  unfold StepSem
  rw [hg]
  subst ht
  exact .inr ⟨fun _ => true, hx, hgt, hd⟩
theorem rpGT {d : Nat} {g : Nat × Bool} {want x : Bool} (hg : guardT all ⟨some d, op, ty, pos, af, some g⟩ = some (some (t, want))) (hx : gval σ t want = some x) (ht : x = true) (hgt : gates true (ev σ) op.operands.toList) (hd : Does P (some d) op ty (fun y => stripA (ev σ y)) β v ups rd)
    (he : ups ++ β = δ) (h : runP P all r ((d, v) :: σ) δ K) : runP P all (⟨some d, op, ty, pos, af, some g⟩ :: r) σ β K := ⟨v, ups, rd, stepGT hg hx ht hgt hd, he ▸ h⟩
theorem drGT {d : Nat} {g : Nat × Bool} {want x : Bool} (hg : guardT all ⟨some d, op, ty, pos, af, some g⟩ = some (some (t, want))) (hx : gval σ t want = some x) (ht : x = true) (hgt : gates true (ev σ) op.operands.toList) (hd : Does P (some d) op ty (fun y => stripA (ev σ y)) β v ups rd)
    (he : ups ++ β = δ) (h : runD P all r ((d, v) :: σ) δ (mkRec all ⟨some d, op, ty, pos, af, some g⟩ ups rd :: rs) K) : runD P all (⟨some d, op, ty, pos, af, some g⟩ :: r) σ β rs K := ⟨v, ups, rd, stepGT hg hx ht hgt hd, he ▸ h⟩
theorem rpGTN {g : Nat × Bool} {want x : Bool} (hg : guardT all ⟨none, op, ty, pos, af, some g⟩ = some (some (t, want))) (hx : gval σ t want = some x) (ht : x = true) (hgt : gates true (ev σ) op.operands.toList) (hd : Does P none op ty (fun y => stripA (ev σ y)) β v ups rd)
    (he : ups ++ β = δ) (h : runP P all r σ δ K) : runP P all (⟨none, op, ty, pos, af, some g⟩ :: r) σ β K := ⟨v, ups, rd, stepGT hg hx ht hgt hd, he ▸ h⟩
theorem drGTN {g : Nat × Bool} {want x : Bool} (hg : guardT all ⟨none, op, ty, pos, af, some g⟩ = some (some (t, want))) (hx : gval σ t want = some x) (ht : x = true) (hgt : gates true (ev σ) op.operands.toList) (hd : Does P none op ty (fun y => stripA (ev σ y)) β v ups rd)
    (he : ups ++ β = δ) (h : runD P all r σ δ (mkRec all ⟨none, op, ty, pos, af, some g⟩ ups rd :: rs) K) : runD P all (⟨none, op, ty, pos, af, some g⟩ :: r) σ β rs K := ⟨v, ups, rd, stepGT hg hx ht hgt hd, he ▸ h⟩
end
end Go.Proofs.YtfplkakfakdfhaaDoor

