/-
  The pure layer: the operations that turn memory. No condition.
-/
import Derived.Test.YtfkkamkhjbfjmaaDoorPlStore
import Derived.Laws.BytesArg
import Derived.Laws.BytesString
import Derived.Laws.MakeOwn
namespace Go.Proofs.YtfkkamkhjbfjmaaDoor
set_option linter.unusedSimpArgs false
set_option linter.unusedVariables false
open Go.RowKit

theorem cellD_rep {I : Nat → Prop} {w : World} {v : Value} (h : v.oneCell' = true) : RepD I w (cellD v) v := by
  unfold cellD
  split
  · rfl
  · exact ⟨rfl, h⟩
theorem cellD_one (v : Value) : (cellD v).one = true := by unfold cellD; split <;> rfl
theorem repC_cellD {I : Nat → Prop} {w : World} : ∀ {l : List Value}, (∀ v ∈ l, v.oneCell' = true) → RepC I w true (l.map cellD) l
  | [], _ => rfl
  | v :: l, h => ⟨v, l, rfl, fun _ => cellD_one v, cellD_rep (h v (by simp)), repC_cellD fun u hu => h u (by simp [hu])⟩
theorem mkTy_zero {P : Program} {T : TypeId} {t : TyI} (h : mkTy P T = some t) : ∃ z, (∀ w, (zeroValue T).run P w = .ok z w) ∧ (∀ I w, RepC I w true t.zero z.cells.toList) ∧ z.cells.size = t.size ∧ t.zero.length = t.size := by
  obtain ⟨i, d, z, hi, _, hz, hs, _, _, h7, _, h9, h10⟩ := mkTy_all h
  refine ⟨z, fun w => by simp [zeroValue, typeInfo, hi, hz, Sem.run_bind], fun I w => ?_, by rw [h10, hs], by rw [h7, List.length_map, Array.length_toList, h10, hs]⟩
  rw [h7]
  exact repC_cellD fun v hv => (Array.all_eq_true_iff_forall_mem.1 h9) v (by simpa using hv)
theorem grownBy_alloc' (w : World) (o : Obj) : w.grownBy { w with heap := w.heap.push o } none := World.grownBy_alloc w o none
theorem push_at (w : World) (o : Obj) : ({ w with heap := w.heap.push o } : World).heap[w.heap.size]? = some o := by simp
section
variable {P : Program} {fr : Nat} {dst : Option Nat} {ty : TypeId} {e : Operand → A} {β : Bx}
theorem insB_map {γ : Bx} : ∀ l : List D, A.insB γ (l.map .d)
  | [] => trivial
  | _ :: l => ⟨trivial, insB_map l⟩
theorem does_alloc {T : TypeId} {t : TyI} (ht : mkTy P T = some t) (hf : look fr β = none) : Does P (some fr) (.alloc T) ty e β (.px fr 0) [(fr, .var T (t.zero.map .d))] [] := by
  intro C γ hag ρ I w hm a hx o ho hd hty K Q hK
  obtain ⟨z, hz, hr, _, _⟩ := mkTy_zero ht
  have hf2 : look fr γ = none := (hag fr (by simp)).trans hf
  obtain ⟨h1, h2⟩ := hm.new_box hf2 (v := .pointer (some ⟨w.heap.size, 0, none⟩)) (b := .var T (t.zero.map .d)) (grownBy_alloc' w (.cells z.cells T)) (fun g hg => by
      simp only [blk, Option.some.injEq] at hg; subst hg; simp) (fun hx => ⟨w.heap.size, z.cells, by rw [upd_same], push_at w _, repAs_of_C (hr _ _)⟩) (insB_map _)
  unfold Oper.wp
  have hrun : (execOp a.eval o).run P w = .ok (.value (.pointer (some ⟨w.heap.size, 0, none⟩))) { w with heap := w.heap.push (.cells z.cells T) } := by
    simp [execOp, ho, Instr.alloc, Sem.run_bind, hz, newVar, newRow]
  rw [hrun, Oper.upon_value, hd]
  exact hK _ _ I _ h1 h2 (by unfold A.inB dom; simp [look_append, look_cons]) ⟨w.heap.size, by rw [upd_same], rfl⟩
theorem does_box {T : TypeId} {x : Operand} {vs : List A} (hx : e x = .ag vs) (hf : look fr β = none) : Does P (some fr) (.box T x) ty e β (.px fr 0) [(fr, .var T vs)] [] := by
  intro C γ hag ρ I w hm a hops o ho hd hty K Q hK
  have hf2 : look fr γ = none := (hag fr (by simp)).trans hf
  obtain ⟨hb, hv⟩ := hops x (by simp [Op.operands])
  rw [hx] at hb hv
  obtain ⟨us, hu, hr⟩ := hv
  obtain ⟨h1, h2⟩ := hm.new_box hf2 (v := .pointer (some ⟨w.heap.size, 0, none⟩)) (b := .var T vs) (grownBy_alloc' w (.cells us T)) (fun g hg => by
      simp only [blk, Option.some.injEq] at hg; subst hg; simp) (fun hx => ⟨w.heap.size, us, by rw [upd_same], push_at w _, RepAs.ext hx true vs _ hb hr⟩) (A.insB_mono (fun i hi => dom_append hi) _ hb)
  unfold Oper.wp
  have hrun : (execOp a.eval o).run P w = .ok (.value (.pointer (some ⟨w.heap.size, 0, none⟩))) { w with heap := w.heap.push (.cells us T) } := by
    simp [execOp, ho, hu, Instr.box, Sem.run_bind, newVar, newRow, Value.cells]
  rw [hrun, Oper.upon_value, hd]
  exact hK _ _ I _ h1 h2 (by unfold A.inB dom; simp [look_append, look_cons]) ⟨w.heap.size, by rw [upd_same], rfl⟩
theorem does_box_one {T : TypeId} {x : Operand} {v : A} (hx : e x = v) (hv1 : v.one = true) (hf : look fr β = none) : Does P (some fr) (.box T x) ty e β (.px fr 0) [(fr, .var T [v])] [] := by
  intro C γ hag ρ I w hm a hops o ho hd hty K Q hK
  have hf2 : look fr γ = none := (hag fr (by simp)).trans hf
  obtain ⟨hb, hv⟩ := hops x (by simp [Op.operands])
  rw [hx] at hb hv
  have h1c := repA_one hv hv1
  have hcs : (a.eval x).cells = #[a.eval x] := by
    generalize a.eval x = u at h1c
    cases u <;> first | rfl | cases h1c
  obtain ⟨h1, h2⟩ := hm.new_box hf2 (v := .pointer (some ⟨w.heap.size, 0, none⟩)) (b := .var T [v]) (grownBy_alloc' w (.cells #[a.eval x] T)) (fun g hg => by
      simp only [blk, Option.some.injEq] at hg; subst hg; simp) (fun hx => ⟨w.heap.size, #[a.eval x], by rw [upd_same], push_at w _, ⟨_, [], rfl, fun _ => hv1, RepA.ext hx v _ hb hv, rfl⟩⟩) ⟨A.inB_mono (fun i hi => dom_append hi) _ hb, trivial⟩
  unfold Oper.wp
  have hrun : (execOp a.eval o).run P w = .ok (.value (.pointer (some ⟨w.heap.size, 0, none⟩))) { w with heap := w.heap.push (.cells #[a.eval x] T) } := by
    simp [execOp, ho, Instr.box, Sem.run_bind, newVar, newRow, hcs]
  rw [hrun, Oper.upon_value, hd]
  exact hK _ _ I _ h1 h2 (by unfold A.inB dom; simp [look_append, look_cons]) ⟨w.heap.size, by rw [upd_same], rfl⟩
theorem does_box_ag {T : TypeId} {x : Operand} {vs : List D} (hx : e x = .d (.ag vs)) (hf : look fr β = none) : Does P (some fr) (.box T x) ty e β (.px fr 0) [(fr, .var T (vs.map .d))] [] := by
  intro C γ hag ρ I w hm a hops o ho hd hty K Q hK
  have hf2 : look fr γ = none := (hag fr (by simp)).trans hf
  obtain ⟨hb, hv⟩ := hops x (by simp [Op.operands])
  rw [hx] at hb hv
  obtain ⟨us, hu, hr⟩ := hv
  obtain ⟨h1, h2⟩ := hm.new_box hf2 (v := .pointer (some ⟨w.heap.size, 0, none⟩)) (b := .var T (vs.map .d)) (grownBy_alloc' w (.cells us T)) (fun g hg => by
      simp only [blk, Option.some.injEq] at hg; subst hg; simp) (fun hx => ⟨w.heap.size, us, by rw [upd_same], push_at w _, repAs_of_C (RepC.ext hx.toExtI true vs _ hr)⟩) (insB_map _)
  unfold Oper.wp
  have hrun : (execOp a.eval o).run P w = .ok (.value (.pointer (some ⟨w.heap.size, 0, none⟩))) { w with heap := w.heap.push (.cells us T) } := by
    simp [execOp, ho, hu, Instr.box, Sem.run_bind, newVar, newRow, Value.cells]
  rw [hrun, Oper.upon_value, hd]
  exact hK _ _ I _ h1 h2 (by unfold A.inB dom; simp [look_append, look_cons]) ⟨w.heap.size, by rw [upd_same], rfl⟩
def A.cells : A → List A
  | .d (.ag ds) => ds.map .d
  | .ag cs => cs
  | v => [v]
def putAt {α : Type} (cs : List α) (off : Nat) (vs : List α) : List α := cs.take off ++ vs ++ cs.drop (off + vs.length)
theorem setCell_grown (w : World) (p : Addr) (u : Value) : w.grownBy (w.setCell p u) (some p.block) :=
  ⟨rfl, rfl, rfl, by simp [World.setCell], fun k hk hne => Below.heap_setCell w p u k (fun e => hne (by rw [e]))⟩
theorem setCell_at {w : World} {g : Nat} {us : Array Value} {T : TypeId} {fz : Nat × Nat} (h : w.heap[g]? = some (.cells us T fz)) (i : Nat) (u : Value) : (w.setCell ⟨g, i, none⟩ u).heap[g]? = some (.cells (us.setIfInBounds i u) T fz) := by
  simp [World.setCell, Array.getElem?_modify, h]
theorem repAs_set {ρ : Nat → Value} {I : Nat → Prop} {w : World} {o : Bool} {v : A} {u : Value} (hv : RepA ρ I w v u) (h1 : o = true → v.one = true) : ∀ {ds : List A} {l : List Value} (i : Nat), RepAs ρ I w o ds l → RepAs ρ I w o (ds.set i v) (l.set i u)
  | [], _, i, h => by cases h; rfl
  | d0 :: ds, _, 0, ⟨u0, us, rfl, ho, hd, hr⟩ => ⟨u, us, rfl, h1, hv, hr⟩
  | d0 :: ds, _, i + 1, ⟨u0, us, rfl, ho, hd, hr⟩ => ⟨u0, us.set i u, rfl, ho, hd, repAs_set hv h1 i hr⟩
theorem repC_set {I : Nat → Prop} {w : World} {o : Bool} {v : D} {u : Value} (hv : RepD I w v u) (h1 : o = true → v.one = true) : ∀ {ds : List D} {l : List Value} (i : Nat), RepC I w o ds l → RepC I w o (ds.set i v) (l.set i u)
  | [], _, i, h => by cases h; rfl
  | d0 :: ds, _, 0, ⟨u0, us, rfl, ho, hd, hr⟩ => ⟨u, us, rfl, h1, hv, hr⟩
  | d0 :: ds, _, i + 1, ⟨u0, us, rfl, ho, hd, hr⟩ => ⟨u0, us.set i u, rfl, ho, hd, repC_set hv h1 i hr⟩
theorem run_storeVar_one {T : TypeId} {t : TyI} (ht : mkTy P T = some t) (hs : t.size = 1) {w : World} {p : Addr} {u v : Value} (hc : w.cell? p = some u) (hfz : w.frozen? p = false) (h1 : v.oneCell' = true) : (storeVar T p v).run P w = .ok () (w.setCell p v) := by
  have hcs : v.cells = #[v] := by cases v <;> first | rfl | cases h1
  simp [storeVar, Sem.run_bind, sizeOf_mkTy ht, hcs, hs, storeCells, Addr.add, run_store P _ _ _ _ h1, hc, hfz]
theorem dom_ups {γ : Bx} {id : Nat} {b : Box} (h : dom γ id) : dom ([(id, b)] ++ γ) id := dom_append h
/-- One cell of a variable is written. -/
theorem does_store {T T0 : TypeId} {t : TyI} {x y : Operand} {id off : Nat} {cs : List A} {v : A} (ht : mkTy P T = some t) (hs : t.size = 1) (hx : e x = .px id off) (hy : e y = v) (h1 : v.one = true) (hl : look id β = some (.var T0 cs)) (hoff : off < cs.length) :
    Does P dst (.store T x y) ty e β .un [(id, .var T0 (cs.set off v))] [id] := by
  intro C γ hag ρ I w hm a hops o ho hd hty K Q hK
  have hl2 : look id γ = some (.var T0 cs) := (hag id (by simp)).trans hl
  obtain ⟨hb, hp⟩ := hops x (by simp [Op.operands])
  obtain ⟨hvb, hv⟩ := hops y (by simp [Op.operands])
  rw [hx] at hp
  rw [hy] at hv hvb
  obtain ⟨g, hg, hp⟩ := hp
  obtain ⟨g', us, k1, k2, k3, k4⟩ := var_cell hm hl2
  rw [hg] at k1
  injection k1 with k1; injection k1 with k1; injection k1 with k1
  subst k1
  have hlen := repAs_len k3
  have hin : off < us.size := by rw [← Array.length_toList]; omega
  have hcell : w.cell? ⟨g, off, none⟩ = some us[off] := by rw [cell_in k2, Array.getElem?_eq_getElem hin]
  have hfz : w.frozen? ⟨g, off, none⟩ = false := by simp [World.frozen?, k2]
  have hv1 : (a.eval y).oneCell' = true := repA_one hv h1
  have hgr := setCell_grown w ⟨g, off, none⟩ (a.eval y)
  have hmem := hm.set_box hl2 rfl (g := g) (by rw [hg]; rfl) hgr (b := .var T0 (cs.set off v)) (fun hx => ⟨g, us.setIfInBounds off (a.eval y), hg, setCell_at k2 _ _, by
    have := repAs_set (RepA.ext hx v _ hvb hv) (fun _ => h1) off (RepAs.ext hx true cs _ k4 k3)
    simpa using this⟩) (by
      have : A.insB γ (cs.set off v) := A.insB_of fun z hz => by
        rcases List.mem_or_eq_of_mem_set hz with h | h
        · exact A.insB_mem k4 z h
        · rw [h]; exact hvb
      exact A.insB_mono (fun i hi => dom_append hi) _ this)
  unfold Oper.wp
  have hrun : (execOp a.eval o).run P w = .ok .skip (w.setCell ⟨g, off, none⟩ (a.eval y)) := by
    simp [execOp, ho, hp, Instr.storeAt, Instr.sureAddr, Sem.run_bind, run_storeVar_one ht hs hcell hfz hv1]
  rw [hrun, Oper.upon_skip, hd]
  exact hK _ ρ I _ hmem.1 hmem.2 trivial trivial
theorem setCells_grown (b : Nat) : ∀ (vs : List Value) (o : Nat) (w : World), w.grownBy (w.setCells b o vs) (some b)
  | [], o, w => World.grownBy.refl w _
  | v :: r, o, w => by
    rw [World.setCells]
    have h1 := setCell_grown w ⟨b, o, none⟩ v
    have h2 := setCells_grown b r (o + 1) (w.setCell ⟨b, o, none⟩ v)
    exact ⟨h2.os.trans h1.os, h2.tape.trans h1.tape, h2.output.trans h1.output, Nat.le_trans h1.size h2.size, fun k hk hne => (h2.block k (Nat.lt_of_lt_of_le hk h1.size) hne).trans (h1.block k hk hne)⟩
theorem setCells_at {g : Nat} {T : TypeId} {fz : Nat × Nat} : ∀ (vs : List Value) (o : Nat) (w : World) (us : Array Value), w.heap[g]? = some (.cells us T fz) → o + vs.length ≤ us.size →
    ∃ us', (w.setCells g o vs).heap[g]? = some (.cells us' T fz) ∧ us'.toList = putAt us.toList o vs
  | [], o, w, us, h, hl => ⟨us, h, by simp [putAt]⟩
  | v :: r, o, w, us, h, hl => by
    rw [World.setCells]
    simp only [List.length_cons] at hl
    obtain ⟨us', h1, h2⟩ := setCells_at r (o + 1) (w.setCell ⟨g, o, none⟩ v) _ (setCell_at h o v) (by simp; omega)
    refine ⟨us', h1, ?_⟩
    rw [h2, Array.toList_setIfInBounds]
    unfold putAt
    have hlt : o < us.toList.length := by rw [Array.length_toList]; omega
    have hmin : (us.toList.take o).length = o := by rw [List.length_take]; omega
    rw [List.length_cons, List.drop_set_of_lt (by omega), List.take_set, List.take_succ_eq_append_getElem hlt, List.set_append_right _ _ (by omega), hmin, Nat.sub_self]
    simp [show o + 1 + r.length = o + (r.length + 1) by omega]
theorem repAs_putAt {ρ : Nat → Value} {I : Nat → Prop} {w : World} {o : Bool} {ds vs : List A} {l m : List Value} (h : RepAs ρ I w o ds l) (hv : RepAs ρ I w o vs m) (off : Nat) : RepAs ρ I w o (putAt ds off vs) (putAt l off m) := by
  unfold putAt
  rw [repAs_len hv]
  exact repAs_append (repAs_append (repAs_take _ h) hv) (repAs_drop _ h)
theorem repC_putAt {I : Nat → Prop} {w : World} {o : Bool} {ds vs : List D} {l m : List Value} (h : RepC I w o ds l) (hv : RepC I w o vs m) (off : Nat) : RepC I w o (putAt ds off vs) (putAt l off m) := by
  unfold putAt
  rw [repC_len hv]
  exact repC_append (repC_append (repC_take _ h) hv) (repC_drop _ h)
theorem putAt_length {α : Type} {cs vs : List α} {off : Nat} (h : off + vs.length ≤ cs.length) : (putAt cs off vs).length = cs.length := by
  unfold putAt; simp; omega
/-- A struct, or an array, is written into a variable. -/
theorem does_store_row {T T0 : TypeId} {t : TyI} {x y : Operand} {id off : Nat} {cs vs : List A} (ht : mkTy P T = some t) (hx : e x = .px id off) (hy : e y = .ag vs) (hs : vs.length = t.size) (hl : look id β = some (.var T0 cs)) (hoff : off + vs.length ≤ cs.length) :
    Does P dst (.store T x y) ty e β .un [(id, .var T0 (putAt cs off vs))] [id] := by
  intro C γ hag ρ I w hm a hops o ho hd hty K Q hK
  have hl2 : look id γ = some (.var T0 cs) := (hag id (by simp)).trans hl
  obtain ⟨hb, hp⟩ := hops x (by simp [Op.operands])
  obtain ⟨hvb, hv⟩ := hops y (by simp [Op.operands])
  rw [hx] at hp
  rw [hy] at hv hvb
  obtain ⟨g, hg, hp⟩ := hp
  obtain ⟨ws, hw, hv⟩ := hv
  obtain ⟨g', us, k1, k2, k3, k4⟩ := var_cell hm hl2
  rw [hg] at k1
  injection k1 with k1; injection k1 with k1; injection k1 with k1
  subst k1
  have hlen := repAs_len k3
  have hlen2 := repAs_len hv
  rw [Array.length_toList] at hlen hlen2
  have hthere : w.there g off ws.size := fun j hj => by
    refine ⟨?_, by simp [World.frozen?, k2]⟩
    rw [cell_in k2, Array.getElem?_eq_getElem (by omega)]; rfl
  obtain ⟨i, d, z, hi, _, _, hsz, _⟩ := mkTy_spec ht
  have hone : ws.all (·.oneCell') = true := Array.all_eq_true_iff_forall_mem.2 fun v hv' => repAs_one hv v (by simpa using hv')
  have hrun0 := run_storeAt_mid (P := P) w g off T ws hthere (by rw [hi]; simp; omega) hone
  have hgr := setCells_grown g ws.toList off w
  obtain ⟨us', e1, e2⟩ := setCells_at (g := g) ws.toList off w us k2 (by rw [Array.length_toList]; omega)
  have hmem := hm.set_box hl2 rfl (g := g) (by rw [hg]; rfl) hgr (b := .var T0 (putAt cs off vs)) (fun hx => ⟨g, us', hg, e1, by
    rw [e2]; exact repAs_putAt (RepAs.ext hx true cs _ k4 k3) (RepAs.ext hx true vs _ hvb hv) off⟩) (by
      have : A.insB γ (putAt cs off vs) := A.insB_of fun z hz => by
        unfold putAt at hz
        simp only [List.mem_append] at hz
        rcases hz with (h | h) | h
        · exact A.insB_mem k4 z (List.mem_of_mem_take h)
        · exact A.insB_mem hvb z h
        · exact A.insB_mem k4 z (List.mem_of_mem_drop h)
      exact A.insB_mono (fun i hi => dom_append hi) _ this)
  unfold Oper.wp
  have hrun : (execOp a.eval o).run P w = .ok .skip (w.setCells g off ws.toList) := by
    simp only [execOp, ho, hp, hw, Sem.run_bind, hrun0]
    rfl
  rw [hrun, Oper.upon_skip, hd]
  exact hK _ ρ I _ hmem.1 hmem.2 trivial trivial
theorem does_store_rowD {T T0 : TypeId} {t : TyI} {x y : Operand} {id off : Nat} {cs : List A} {vs : List D} (ht : mkTy P T = some t) (hx : e x = .px id off) (hy : e y = .d (.ag vs)) (hs : vs.length = t.size) (hl : look id β = some (.var T0 cs)) (hoff : off + vs.length ≤ cs.length) :
    Does P dst (.store T x y) ty e β .un [(id, .var T0 (putAt cs off (vs.map .d)))] [id] := by
  intro C γ hag ρ I w hm a hops o ho hd hty K Q hK
  have hy2 : ∀ u, RepA ρ I w (.d (.ag vs)) u → RepA ρ I w (.ag (vs.map .d)) u := fun u ⟨us, h1, h2⟩ => ⟨us, h1, repAs_of_C h2⟩
  refine does_store_row (P := P) (dst := dst) (ty := ty) (β := β) (e := fun z => if z matches .tmp _ then (if e z matches .d (.ag _) then .ag (A.cells (e z)) else e z) else (if e z matches .d (.ag _) then .ag (A.cells (e z)) else e z)) (x := x) (y := y) (cs := cs) (vs := vs.map .d) ht (by simp [hx]) (by simp [hy, A.cells]) (by simpa using hs) hl (by simpa using hoff) C γ hag ρ I w hm a (fun z hz => ?_) o ho hd hty K Q hK
  have hz := hops z hz
  simp only [ite_self]
  cases he : e z with
  | d d0 =>
    rw [he] at hz
    cases d0 with
    | ag cs0 => exact ⟨insB_map cs0, by obtain ⟨us, h1, h2⟩ := hz.2; exact ⟨us, h1, repAs_of_C h2⟩⟩
    | _ => exact hz
  | _ => rw [he] at hz; exact hz
end
end Go.Proofs.YtfkkamkhjbfjmaaDoor
