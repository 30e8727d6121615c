/-
  The pure layer: rows of the call's own: made, filled, appended to, written. No condition.
-/
import Derived.Test.YtfkkamkhjbfjmaaDoorPlMore
namespace Go.Proofs.YtfkkamkhjbfjmaaDoor
set_option linter.unusedSimpArgs false
set_option linter.unusedVariables false
open Go.RowKit

theorem own_form {w : World} {base : Nat} {E : TypeId} {size : Nat} {v : Value} {n : Nat} {xs : List Value} (h : w.ownsRow base E size v n xs) : ∃ ad c, v = .slice ad n c ∧ n ≤ c ∧ (0 < n → ∃ g, ad = some ⟨g, 0, none⟩) := by
  rcases h.2 with ⟨rfl, rfl⟩ | ⟨g, cap, cur, rfl, _, _, hnc, _⟩
  · exact ⟨none, 0, rfl, Nat.le_refl _, fun h => by omega⟩
  · exact ⟨_, cap, rfl, hnc, fun _ => ⟨g, rfl⟩⟩
theorem blk_own {v : Value} {ad : Option Addr} {n c : Nat} (h : v = .slice ad n c) : blk v = v.ownBlock := by subst h; cases ad <;> rfl
section
variable {P : Program} {fr : Nat} {dst : Option Nat} {ty : TypeId} {e : Operand → A} {β : Bx}
theorem ow_rep {ρ : Nat → Value} {I : Nat → Prop} {w : World} {E : TypeId} {size n : Nat} {v : Value} {xs : List Value} (h : w.ownsRow 0 E size v n xs) (hr : ρ fr = v) : RepA ρ I w (.ow fr n) v := by
  obtain ⟨ad, c, h1, h2, h3⟩ := own_form h
  exact ⟨hr.symm, ad, c, h1, h2, h3⟩
theorem repR_replicate {I : Nat → Prop} {w : World} {sz : Nat} {ds : List D} {l : List Value} (h : RepC I w true ds l) (hs : ds.length = sz) : ∀ n, RepR I w sz (List.replicate n ds) (List.replicate n l).flatten
  | 0 => rfl
  | n + 1 => ⟨l, (List.replicate n l).flatten, by rw [List.replicate_succ, List.flatten_cons], hs, h, repR_replicate h hs n⟩
theorem madeCells_list (z : Array Value) (hz : 0 < z.size) : ∀ n, (madeCells z (n * z.size)).toList = (List.replicate n z.toList).flatten
  | 0 => by simp [madeCells]
  | n + 1 => by
    have ih := madeCells_list z hz n
    rw [List.replicate_succ', List.flatten_append, ← ih]
    apply List.ext_getElem?
    intro j
    have h1 : ∀ k, (madeCells z k).toList = (List.range k).map (fun i => z[i % z.size]!) := fun k => by simp [madeCells]
    rw [h1, h1, Nat.add_mul, Nat.one_mul, List.range_add, List.map_append, List.map_map]
    congr 2
    apply List.ext_getElem?
    intro i
    simp only [List.flatten_cons, List.flatten_nil, List.append_nil, List.getElem?_map, Function.comp_def]
    by_cases hi : i < z.size
    · rw [List.getElem?_range hi]
      have : (n * z.size + i) % z.size = i := by rw [Nat.mul_comm, Nat.mul_add_mod, Nat.mod_eq_of_lt hi]
      simp [Nat.mod_eq_of_lt hi, getElem!_pos z i hi, hi]
    · rw [List.getElem?_eq_none (by simpa using hi), List.getElem?_eq_none (by simpa using hi)]
      rfl
theorem does_make {T el : TypeId} {t te : TyI} {x y : Operand} {k k' : IntKind} {n : Nat} {m m' : Int} (ht : mkTy P T = some t) (hk : t.kind = .slice el) (hte : mkTy P el = some te) (hx : e x = .d (.sc (.int k m))) (hy : e y = .d (.sc (.int k' m'))) (hm1 : m = n) (hm2 : m' = n) (hs : 0 < te.size)
    (hb : te.bytes * n ≤ 281474976710656) (h63 : n ≤ 9223372036854775807) (hf : look fr β = none) : Does P (some fr) (.makeSlice T x y) ty e β (.ow fr n) [(fr, .row el te.size (List.replicate n te.zero))] [] := by
  intro C γ hag ρ I w hm a hops o ho hd hty K Q hK
  have hf2 : look fr γ = none := (hag fr (by simp)).trans hf
  have h1 := (hops x (by simp [Op.operands])).2
  have h2 := (hops y (by simp [Op.operands])).2
  rw [hx] at h1
  rw [hy] at h2
  have h1 := repA_sc h1
  have h2 := repA_sc h2
  subst hm1 hm2
  obtain ⟨i, d, z, _, hu, _, _, _, _, _, hkd⟩ := mkTy_spec ht
  have hu2 : P.underlying T = some (.slice el) := by rw [hu, kind_slice (hkd.symm.trans hk)]
  obtain ⟨i', d', z', hi', _, hz', hsz', hby', _, hzr', _, hone', hzs'⟩ := mkTy_all hte
  obtain ⟨w', hrun, hown, hgr⟩ := run_make_full (P := P) w 0 T el i' z' te.size hu2 hi' hz' hsz'.symm k k' n (by rw [← hby']; exact hb) (by unfold maxLen; omega) (Nat.zero_le _)
  have hzc : z'.cells.size = te.size := by rw [hzs', hsz']
  rw [← hzc, madeCells_list _ (by omega), hzc] at hown
  have hzrep : ∀ I w, RepC I w true te.zero z'.cells.toList := fun I w => by
    rw [hzr']; exact repC_cellD fun v hv => (Array.all_eq_true_iff_forall_mem.1 hone') v (by simpa using hv)
  have hzl : te.zero.length = te.size := by rw [hzr', List.length_map, Array.length_toList, hzc]
  obtain ⟨m1, m2⟩ := hm.new_box hf2 (v := .slice (some ⟨w.heap.size, 0, none⟩) n n) (b := .row el te.size (List.replicate n te.zero)) hgr (fun g hg => by
      simp only [blk, Option.some.injEq] at hg; subst hg
      obtain ⟨_, _⟩ := hown.lt w.heap.size rfl
      omega) (fun hx => ⟨_, by rw [upd_same, List.length_replicate]; exact hown, repR_replicate (hzrep _ _) hzl n⟩) trivial
  unfold Oper.wp
  have hrun : (execOp a.eval o).run P w = .ok (.value (.slice (some ⟨w.heap.size, 0, none⟩) n n)) w' := by
    simp [execOp, ho, h1, h2, Sem.run_bind, hrun]
  rw [hrun, Oper.upon_value, hd]
  exact hK _ _ I w' m1 m2 (by unfold A.inB dom; simp [look_append, look_cons]) (ow_rep hown (upd_same _ _ _))
theorem does_make_cap {T el : TypeId} {t te : TyI} {x y : Operand} {k k' : IntKind} {n : Nat} {m m' : Int} (ht : mkTy P T = some t) (hk : t.kind = .slice el) (hte : mkTy P el = some te) (hx : e x = .d (.sc (.int k m))) (hy : e y = .d (.sc (.int k' m'))) (hm1 : m = 0) (hm2 : m' = n)
    (hb : te.bytes * n ≤ 281474976710656) (h63 : n ≤ 9223372036854775807) (hf : look fr β = none) : Does P (some fr) (.makeSlice T x y) ty e β (.ow fr 0) [(fr, .row el te.size [])] [] := by
  intro C γ hag ρ I w hm a hops o ho hd hty K Q hK
  have hf2 : look fr γ = none := (hag fr (by simp)).trans hf
  have h1 := (hops x (by simp [Op.operands])).2
  have h2 := (hops y (by simp [Op.operands])).2
  rw [hx] at h1
  rw [hy] at h2
  have h1 := repA_sc h1
  have h2 := repA_sc h2
  subst hm1 hm2
  obtain ⟨i, d, z, _, hu, _, _, _, _, _, hkd⟩ := mkTy_spec ht
  have hu2 : P.underlying T = some (.slice el) := by rw [hu, kind_slice (hkd.symm.trans hk)]
  obtain ⟨i', d', z', hi', _, hz', hsz', hby', _, hzr', _, hone', hzs'⟩ := mkTy_all hte
  obtain ⟨w', hrun, hown, hgr⟩ := run_make_own (P := P) w 0 T el i' z' te.size hu2 hi' hz' hsz'.symm k k' n (by rw [← hby']; exact hb) (by unfold maxLen; omega) (Nat.zero_le _)
  obtain ⟨m1, m2⟩ := hm.new_box hf2 (v := .slice (some ⟨w.heap.size, 0, none⟩) 0 n) (b := .row el te.size []) hgr (fun g hg => by
      simp only [blk, Option.some.injEq] at hg; subst hg
      obtain ⟨_, _⟩ := hown.lt w.heap.size rfl
      omega) (fun hx => ⟨[], by rw [upd_same]; exact hown, rfl⟩) trivial
  unfold Oper.wp
  have hrun : (execOp a.eval o).run P w = .ok (.value (.slice (some ⟨w.heap.size, 0, none⟩) 0 n)) w' := by
    simp [execOp, ho, h1, h2, Sem.run_bind, hrun]
  rw [hrun, Oper.upon_value, hd]
  exact hK _ _ I w' m1 m2 (by unfold A.inB dom; simp [look_append, look_cons]) (ow_rep hown (upd_same _ _ _))
/-- A slice literal: each element of data. -/
def cellsOfs : List A → Option (List (List D))
  | [] => some []
  | .d x :: r => match cellsOfs r with
    | some es => some (x.cells :: es)
    | none => none
  | _ :: _ => none
def rowsOk (sz : Nat) : List (List D) → Prop
  | [] => True
  | e :: es => e.length = sz ∧ e.all D.one = true ∧ rowsOk sz es
theorem cellsD_rep {I : Nat → Prop} {w : World} {d : D} {u : Value} (h : RepD I w d u) (h1 : d.cells.all D.one = true) : RepC I w true d.cells u.cells.toList := by
  have hone : ∀ v : D, v.one = true → RepD I w v u → RepC I w true [v] u.cells.toList := fun v hv hr => by
    have := repD_one hr hv
    have hcs : u.cells = #[u] := by cases u <;> first | rfl | cases this
    rw [hcs]
    exact ⟨u, [], rfl, fun _ => hv, hr, rfl⟩
  cases d with
  | ag cs => obtain ⟨us, rfl, hr⟩ := h; exact hr
  | tu vs => simp [D.cells, D.one] at h1
  | _ => exact hone _ rfl h
theorem fill_rows {I : Nat → Prop} {w : World} {sz : Nat} (hsz : 0 < sz) : ∀ {vs : List A} {es : List (List D)} {us : List Value} {ρ : Nat → Value} (k : Nat) (base : List Value), cellsOfs vs = some es → rowsOk sz es → vs.length = us.length → (∀ (j : Nat) v u, vs[j]? = some v → us[j]? = some u → RepA ρ I w v u) →
    k * sz + us.length * sz = base.length → ∃ xs, Instr.fill (fun i => some (i * sz, sz)) base.toArray ((us.zipIdx k).map fun p => (p.2, p.1)) = some (base.take (k * sz) ++ xs).toArray ∧ RepR I w sz es xs
  | [], es, us, ρ, k, base, h, hok, hl, hr, hb => by
    have hu : us = [] := List.eq_nil_of_length_eq_zero hl.symm
    subst hu
    simp only [cellsOfs, Option.some.injEq] at h
    subst h
    refine ⟨[], ?_, rfl⟩
    rw [List.append_nil, List.take_of_length_le (by simp at hb; omega)]
    rfl
  | v :: vs, es, [], ρ, k, base, h, hok, hl, hr, hb => by simp at hl
  | v :: vs, es, u :: us, ρ, k, base, h, hok, hl, hr, hb => by
    cases v with
    | d x =>
      simp only [cellsOfs] at h
      split at h
      · rename_i es' hes
        simp only [Option.some.injEq] at h
        subst h
        obtain ⟨o1, o2, o3⟩ := hok
        have hru : RepD I w x u := hr 0 (.d x) u rfl rfl
        have hcr := cellsD_rep hru o2
        have hlen := repC_len hcr
        have hk : (k + 1) * sz = k * sz + sz := by rw [Nat.add_mul, Nat.one_mul]
        have hk2 : (us.length + 1) * sz = us.length * sz + sz := by rw [Nat.add_mul, Nat.one_mul]
        have hb : k * sz + (us.length * sz + sz) = base.length := by rw [← hk2]; exact hb
        have o1 : x.cells.length = sz := o1
        rw [List.zipIdx_cons, List.map_cons, fill_step _ _ _ _ _ (k * sz) sz rfl (by rw [← Array.length_toList]; exact hlen.trans o1) (by omega)]
        obtain ⟨xs, h1, h2⟩ := fill_rows hsz (I := I) (w := w) (ρ := ρ) (k + 1) (putAt base (k * sz) u.cells.toList) hes o3 (by simpa using hl) (fun j v' u' hv hu => hr (j + 1) v' u' (by simpa using hv) (by simpa using hu)) (by rw [putAt_length (by omega)]; omega)
        refine ⟨u.cells.toList ++ xs, ?_, ⟨u.cells.toList, xs, rfl, o1, hcr, h2⟩⟩
        rw [h1]
        congr 2
        unfold putAt
        have e1 : (base.take (k * sz)).length = k * sz := by rw [List.length_take]; omega
        rw [hk, List.take_append, List.take_of_length_le (show (base.take (k * sz) ++ u.cells.toList).length ≤ k * sz + sz by rw [List.length_append, e1]; omega), show k * sz + sz - (base.take (k * sz) ++ u.cells.toList).length = 0 by rw [List.length_append, e1]; omega]
        simp
      · cases h
    | _ => cases h
theorem fill_rows_at {I : Nat → Prop} {w : World} {sz : Nat} (hsz : 0 < sz) {vs : List A} {es : List (List D)} {us : List Value} {ρ : Nat → Value} (base : List Value) (h : cellsOfs vs = some es) (hok : rowsOk sz es) (hl : vs.length = us.length) (hr : ∀ (j : Nat) v u, vs[j]? = some v → us[j]? = some u → RepA ρ I w v u)
    (hb : us.length * sz = base.length) : ∃ xs, Instr.fill (fun i => some (i * sz, sz)) base.toArray ((us.zipIdx 0).map fun p => (p.2, p.1)) = some xs.toArray ∧ RepR I w sz es xs := by
  obtain ⟨xs, h1, h2⟩ := fill_rows hsz (ρ := ρ) 0 base h hok hl hr (by simpa using hb)
  exact ⟨xs, by simpa using h1, h2⟩
theorem cellsOfs_len : ∀ {vs : List A} {es : List (List D)}, cellsOfs vs = some es → es.length = vs.length
  | [], es, h => by simp [cellsOfs] at h; subst h; rfl
  | .d x :: vs, es, h => by
    simp only [cellsOfs] at h
    split at h
    · rename_i es' hes; simp only [Option.some.injEq] at h; subst h; simp [cellsOfs_len hes]
    · cases h
  | .ag _ :: _, _, h => by cases h
  | .tu _ :: _, _, h => by cases h
  | .pe .. :: _, _, h => by cases h
  | .px .. :: _, _, h => by cases h
  | .pr .. :: _, _, h => by cases h
  | .ow .. :: _, _, h => by cases h
  | .fn .. :: _, _, h => by cases h
  | .gd .. :: _, _, h => by cases h
  | .un :: _, _, h => by cases h
theorem does_buildSlice {T el : TypeId} {t te : TyI} {len : Nat} {parts : Array (Nat × Operand)} {es : List (List D)} (ht : mkTy P T = some t) (hk : t.kind = .slice el) (hte : mkTy P el = some te) (hidx : parts.toList.map (·.1) = List.range len) (hes : cellsOfs (parts.toList.map fun p => e p.2) = some es)
    (hok : rowsOk te.size es) (hs : 0 < te.size) (hlen : len * te.size ≤ 16777216) (hf : look fr β = none) : Does P (some fr) (.buildSlice T len parts) ty e β (.ow fr len) [(fr, .row el te.size es)] [] := by
  intro C γ hag ρ I w hm a hops o ho hd hty K Q hK
  have hf2 : look fr γ = none := (hag fr (by simp)).trans hf
  have hops' : ∀ x ∈ (parts.toList.map (·.2)), (e x).inB γ ∧ RepA ρ I w (e x) (a.eval x) := fun x hx => hops x (by simpa [Op.operands] using hx)
  obtain ⟨i, d, z, _, hu, _, _, _, _, _, hkd⟩ := mkTy_spec ht
  have hu2 : P.underlying T = some (.slice el) := by rw [hu, kind_slice (hkd.symm.trans hk)]
  obtain ⟨zv, hz, _, hzs, _⟩ := mkTy_zero hte
  have hpl : parts.toList.length = len := by have := congrArg List.length hidx; simpa using this
  obtain ⟨xs, h1, h2⟩ := fill_rows_at hs (I := I) (w := w) (ρ := ρ) (us := parts.toList.map fun p => a.eval p.2) ((List.range (len * te.size)).map fun j => zv.cells[j % zv.cells.size]!) hes hok (by simp) (fun j v u hv hu => by
    rw [List.getElem?_map] at hv hu
    cases hj : parts.toList[j]? with
    | none => rw [hj] at hv; cases hv
    | some p =>
      rw [hj] at hv hu
      simp only [Option.map_some, Option.some.injEq] at hv hu
      subst hv hu
      exact (hops' p.2 (List.mem_map.2 ⟨p, List.mem_of_getElem? hj, rfl⟩)).2) (by rw [List.length_map, hpl, List.length_map, List.length_range])
  have hvs : ((parts.toList.map fun p => a.eval p.2).zipIdx 0).map (fun p => (p.2, p.1)) = parts.toList.map fun p => (p.1, a.eval p.2) := by
    apply List.ext_getElem?
    intro j
    have hj2 := congrArg (·[j]?) hidx
    simp only [List.getElem?_map] at hj2
    rw [List.getElem?_map, List.getElem?_zipIdx, List.getElem?_map, List.getElem?_map]
    cases hj : parts.toList[j]? with
    | none => rfl
    | some p =>
      have hjl : j < len := by rw [← hpl]; exact (List.getElem?_eq_some_iff.1 hj).1
      rw [hj, List.getElem?_range hjl] at hj2
      simp only [Option.map_some, Option.some.injEq] at hj2
      simp [hj2]
  rw [hvs] at h1
  have hxl : xs.length = len * te.size := by rw [repR_len h2, cellsOfs_len hes, List.length_map, hpl]
  have hesl : es.length = len := by rw [cellsOfs_len hes, List.length_map, hpl]
  have hgr := grownBy_alloc' w (.cells xs.toArray el)
  have hown : ({ w with heap := w.heap.push (.cells xs.toArray el) } : World).ownsRow 0 el te.size (.slice (some ⟨w.heap.size, 0, none⟩) len len) len xs :=
    ⟨hxl, .inr ⟨w.heap.size, len, xs.toArray, rfl, Nat.zero_le _, push_at w _, Nat.le_refl _, by
      unfold maxLen
      have : len ≤ len * te.size := Nat.le_mul_of_pos_right len hs
      omega, by simpa using hxl, by rw [← hxl]; simp⟩⟩
  obtain ⟨m1, m2⟩ := hm.new_box hf2 (v := .slice (some ⟨w.heap.size, 0, none⟩) len len) (b := .row el te.size es) hgr (fun g hg => by
      simp only [blk, Option.some.injEq] at hg; subst hg; simp) (fun hx => ⟨xs, by rw [upd_same, hesl]; exact hown, RepR.ext hx.toExtI _ _ _ h2⟩) trivial
  unfold Oper.wp
  have hfl : Instr.fill (fun i => some (i * te.size, te.size)) ((Array.range (len * te.size)).map fun j => zv.cells[j % zv.cells.size]!) (parts.toList.map fun p => (p.1, a.eval p.2)) = some xs.toArray := by
    have e1 : ((Array.range (len * te.size)).map fun j => zv.cells[j % zv.cells.size]!) = ((List.range (len * te.size)).map fun j => zv.cells[j % zv.cells.size]!).toArray := by
      apply Array.ext'; simp
    rw [e1]
    exact h1
  have hrun : (execOp a.eval o).run P w = .ok (.value (.slice (some ⟨w.heap.size, 0, none⟩) len len)) { w with heap := w.heap.push (.cells xs.toArray el) } := by
    simp only [execOp, ho, Instr.buildSlice, Sem.run_bind, run_underlying hu2, Result.andThen_ok, sizeOf_mkTy hte]
    have h24 : ¬ (len * te.size > 2 ^ 24) := by omega
    by_cases h0 : len * te.size = 0
    · have hl0 : len = 0 := by
        rcases Nat.mul_eq_zero.1 h0 with h | h
        · exact h
        · omega
      subst hl0
      have hp : parts = #[] := by
        have : parts.toList = [] := List.eq_nil_of_length_eq_zero hpl
        simpa using this
      subst hp
      have hx0 : xs = [] := List.eq_nil_of_length_eq_zero (by simpa using hxl)
      subst hx0
      have hr0 : Array.range 0 = #[] := rfl
      simp [Instr.fill, newRow, hr0]
    · simp [h24, h0, hz, hfl, newRow, Sem.run_bind]
  rw [hrun, Oper.upon_value, hd]
  exact hK _ _ I _ m1 m2 (by unfold A.inB dom; simp [look_append, look_cons]) (ow_rep hown (upd_same _ _ _))
end
end Go.Proofs.YtfkkamkhjbfjmaaDoor
