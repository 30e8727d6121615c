/-
  The laid tables of the library's functions that package lex calls, read as the tables of the walks; the start of the calls meets them. No condition.
-/
import Derived.Test.YtlpnnnmdkglkcaaDoorZLexK
import Derived.Test.YtlpnnnmdkglkcaaDoorZLexH
import Derived.Test.YtlpnnnmdkglkcaaDoorTie
import Derived.OpenShut
import Derived.LaidMore
import Derived.Lay
import Derived.Handed
import Derived.Stop.Joined
namespace Go.Proofs.YtlpnnnmdkglkcaaDoor
set_option linter.unusedSimpArgs false
set_option linter.unusedVariables false
set_option maxRecDepth 100000
open Go.ChangeShapes Go.WideShapes Go.ChangeAt Go.RowKit

abbrev laidL : List (String × DataW Unit) := [("math/bits.deBruijn32tab", Rows.laid_math_bits_deBruijn32tab), ("math/bits.deBruijn64tab", Rows.laid_math_bits_deBruijn64tab), ("internal/strconv.uint64pow10", Rows.laid_internal_strconv_uint64pow10), ("unicode/utf8.acceptRanges", Rows.laid_unicode_utf8_acceptRanges), ("unicode/utf8.first", Rows.laid_unicode_utf8_first)]
theorem door_met (os : Os) (args : Array Value) : laidMetH Tryd.prog laidL ((World.laidAll Tryd.prog os laidL).forCall (fun _ _ => 0) ⟨#[], args, []⟩).memory := by
  rw [MakeChecks.laidMetH_plain _ _ _ (by kernel_rfl)]
  exact laidMet_laidAll args (by kernel_rfl) (by kernel_rfl)
theorem u8extra : U8Extra Tryd.prog laysValid_ren := { n3 := by kernel_rfl, n4 := by kernel_rfl, y3 := by kernel_rfl, y4 := by kernel_rfl, c5 := by kernel_rfl, c119 := by kernel_rfl, c138 := by kernel_rfl }
theorem var_reads {P : Program} {W : World} {name : String} {k : IntKind} {zs : List Int} {g : Nat} {t e : TypeId} {n : Nat} {d : DataW Unit}
    (hg : P.globalNamed name = some g) (hty : (P.globals[g]?).map (·.type) = some t) (ht : P.underlying t = some (.array n e)) (he : P.underlying e = some (.int k)) (hce : P.cellsOf e = 1) (hct : P.cellsOf t = n) (hd : d = Lib.tabData k zs)
    (h : Lib.VarReads P W name d) : ∃ t o, W.heap[g]? = some (.cells (zs.map fun z => Value.int k z).toArray t o) := by
  subst hd
  obtain ⟨g', t', cs, fuel, p, hg', ht', hvar, htr⟩ := h
  obtain rfl := Option.some.inj (hg.symm.trans hg')
  obtain rfl := Option.some.inj (hty.symm.trans ht')
  have hcs := Lib.cells_of_tab ht he hce hct htr
  unfold World.var? at hvar
  rw [hg] at hvar
  simp only [Option.bind_some] at hvar
  split at hvar
  · rename_i cs' t o hh
    injection hvar with hvar
    subst hvar
    refine ⟨t, o, ?_⟩
    rw [hh, ← hcs]
  · cases hvar
theorem heap_cell {W : World} {g : Nat} {cs : Array Value} {t : TypeId} {o : Nat × Nat} (h : W.heap[g]? = some (.cells cs t o)) (j : Nat) : W.cell? ⟨g, j, none⟩ = cs[j]? := by
  simp [World.cell?, h]
theorem tabs_of_laid {W : World} (h : laidMetH Tryd.prog laidL W) : Lib.Utf8Tabs gFirst gAcc W ∧ (∃ t o, W.heap[6]? = some (.cells (gn6.map fun n => Value.int .u8 (n : Nat)).toArray t o)) ∧ ∃ t o, W.heap[3]? = some (.cells (gn3.map fun n => Value.int .u64 (n : Nat)).toArray t o) := by
  rw [MakeChecks.laidMetH_plain _ _ _ (by kernel_rfl)] at h
  have e1 : Rows.laid_unicode_utf8_first = Lib.firstData := by kernel_rfl
  have e2 : (Rows.laid_unicode_utf8_acceptRanges : DataW Unit) = Lib.acceptData := by kernel_rfl
  refine ⟨utf8Tabs_of_readsT (U8Types.of196 laysValid) u8extra (e1 ▸ Lib.laidMet.reads h (by simp [laidL])) (e2 ▸ Lib.laidMet.reads h (by simp [laidL])), ?_, ?_⟩
  · have h6 := var_reads (P := Tryd.prog) (W := W) (k := .u8) (zs := gn6.map fun n : Nat => (n : Int)) (g := 6) (t := 170) (e := 5) (n := 64) (by kernel_rfl) (by kernel_rfl) (by kernel_rfl) (by kernel_rfl) (by kernel_rfl) (by kernel_rfl) (by kernel_rfl) (Lib.laidMet.reads h (n := "math/bits.deBruijn64tab") (List.mem_cons_of_mem _ List.mem_cons_self))
    rwa [List.map_map] at h6
  · have h6 := var_reads (P := Tryd.prog) (W := W) (k := .u64) (zs := gn3.map fun n : Nat => (n : Int)) (g := 3) (t := 159) (e := 30) (n := 20) (by kernel_rfl) (by kernel_rfl) (by kernel_rfl) (by kernel_rfl) (by kernel_rfl) (by kernel_rfl) (by kernel_rfl) (Lib.laidMet.reads h (n := "internal/strconv.uint64pow10") (List.mem_cons_of_mem _ (List.mem_cons_of_mem _ List.mem_cons_self)))
    rwa [List.map_map] at h6
theorem repC_sc (I : Nat → Prop) (w : World) : ∀ l : List Value, (∀ v ∈ l, v.oneCell' = true) → RepC I w true (l.map D.sc) l
  | [], _ => rfl
  | v :: l, h => ⟨v, l, rfl, fun _ => rfl, ⟨rfl, h v (by simp)⟩, repC_sc I w l fun u hu => h u (by simp [hu])⟩
theorem gl_one {W : World} {g : Nat} {l : List Value} (h1 : ∀ v ∈ l, v.oneCell' = true) (h0 : 0 < l.length) (hc : ∀ j v, l[j]? = some v → W.cell? ⟨g, j, none⟩ = some v) : g < W.heap.size ∧ ∃ xs, RepR (fun g => g < W.heap.size) W (l.map D.sc).length [l.map D.sc] xs ∧ ∀ (j : Nat) (u : Value), xs[j]? = some u → W.cell? ⟨g, j, none⟩ = some u := by
  refine ⟨?_, l, ⟨l, [], (List.append_nil _).symm, rfl, repC_sc _ _ _ h1, rfl⟩, hc⟩
  obtain ⟨v, hv⟩ : ∃ v, l[0]? = some v := ⟨_, List.getElem?_eq_getElem h0⟩
  have := hc 0 v hv
  unfold World.cell? at this
  rcases Nat.lt_or_ge g W.heap.size with h1 | h1
  · exact h1
  · rw [Array.getElem?_eq_none h1] at this
    cases this
theorem acc_at {n : Nat} : ∀ {j : Nat} {v : Value}, ((List.range n).flatMap fun i => [Value.int .u8 (Lib.accLo i), Value.int .u8 (Lib.accHi i)])[j]? = some v → ∃ i, i < n ∧ ((j = 2 * i ∧ v = .int .u8 (Lib.accLo i)) ∨ (j = 2 * i + 1 ∧ v = .int .u8 (Lib.accHi i))) := by
  induction n with
  | zero => intro j v h; simp at h
  | succ n ih =>
    intro j v h
    have hl : ((List.range n).flatMap fun i => [Value.int .u8 (Lib.accLo i), Value.int .u8 (Lib.accHi i)]).length = 2 * n := by
      clear ih h
      induction n with
      | zero => rfl
      | succ n ih => rw [List.range_succ, List.flatMap_append, List.length_append, ih]; simp; omega
    rw [List.range_succ, List.flatMap_append] at h
    by_cases hj : j < 2 * n
    · rw [List.getElem?_append_left (by omega)] at h
      obtain ⟨i, h1, h2⟩ := ih h
      exact ⟨i, by omega, h2⟩
    · rw [List.getElem?_append_right (by omega), hl] at h
      refine ⟨n, by omega, ?_⟩
      rcases (by omega : j = 2 * n ∨ j = 2 * n + 1 ∨ 2 * n + 2 ≤ j) with rfl | rfl | hj2
      · rw [Nat.sub_self] at h
        exact .inl ⟨rfl, by simpa using h.symm⟩
      · rw [show 2 * n + 1 - 2 * n = 1 by omega] at h
        exact .inr ⟨rfl, by simpa using h.symm⟩
      · rw [List.getElem?_eq_none (by simp; omega)] at h
        cases h
theorem heap_lt {W : World} {g : Nat} {o : Obj} (h : W.heap[g]? = some o) : g < W.heap.size := (Array.getElem?_eq_some_iff.1 h).1
theorem gs_db6 : Gs 6 = some ((gn6.map fun n => Value.int .u8 (n : Nat)).map D.sc) := by kernel_rfl
theorem gl_of_laid {W : World} (hs : W.ShapedOpen Tryd.prog) (h : laidMetH Tryd.prog laidL W) : GlOk (fun g => g < W.heap.size) W := by
  obtain ⟨⟨t1, t2⟩, ⟨t, o, t3⟩, t', o', t4⟩ := tabs_of_laid h
  refine ⟨?_, fun g hg => ?_, fun p hp => ?_⟩
  · intro g cs hg
    by_cases h1 : g = gFirst
    · subst h1
      rw [gs_first] at hg
      injection hg with hg
      subst hg
      refine gl_one (fun v hv => ?_) (by decide) (fun j v hv => ?_)
      · unfold firstV at hv
        obtain ⟨c, _, rfl⟩ := List.mem_map.1 hv
        rfl
      · unfold firstV at hv
        rw [List.getElem?_map] at hv
        obtain ⟨c, hc, rfl⟩ := Option.map_eq_some_iff.1 hv
        obtain ⟨hj, e⟩ := List.getElem?_eq_some_iff.1 hc
        rw [List.length_range] at hj
        rw [List.getElem_range] at e
        subst e
        exact t1 j hj
    · by_cases h2 : g = gAcc
      · subst h2
        rw [gs_acc] at hg
        injection hg with hg
        subst hg
        refine gl_one (fun v hv => ?_) (by decide) (fun j v hv => ?_)
        · obtain ⟨j, hj⟩ := List.getElem?_of_mem hv
          obtain ⟨i, _, (⟨_, rfl⟩ | ⟨_, rfl⟩)⟩ := acc_at hj <;> rfl
        · obtain ⟨i, hi, (⟨rfl, rfl⟩ | ⟨rfl, rfl⟩)⟩ := acc_at hv
          · exact (t2 i hi).1
          · exact (t2 i hi).2
      · by_cases h3 : g = 6
        · subst h3
          rw [gs_db6] at hg
          injection hg with hg
          subst hg
          refine gl_one (fun v hv => ?_) (by decide) (fun j v hv => ?_)
          · obtain ⟨c, _, rfl⟩ := List.mem_map.1 hv
            rfl
          · rw [heap_cell t3]
            simpa using hv
        · exfalso
          have hk : look g GsL = none := by
            unfold GsL
            rw [look_cons]
            split
            · rename_i e
              exact absurd e.symm h1
            · rw [look_cons]
              split
              · rename_i e
                exact absurd e.symm h2
              · rw [look_cons]
                split
                · rename_i e
                  exact absurd e.symm h3
                · rfl
          unfold Gs at hg
          rw [hk] at hg
          cases hg
  · obtain rfl : g = 4 := List.mem_singleton.1 hg
    obtain ⟨m, hm⟩ := laysReplaceAll.s1_3 W hs
    have hm : W.cell? ⟨4, 0, none⟩ = some (.int .i64 m) := hm
    refine ⟨?_, m, hm⟩
    unfold World.cell? at hm
    rcases Nat.lt_or_ge 4 W.heap.size with h1 | h1
    · exact h1
    · rw [Array.getElem?_eq_none h1] at hm
      cases hm
  · obtain rfl := List.mem_singleton.1 hp
    exact ⟨heap_lt t4, t', o', t4⟩
/-- As returnsInHanded_of_change_and, where the contract needs the shape of the world, too. -/
theorem returnsInHanded_open {H : Type} {enc : TypeId × Value → H} {a : Assume} {C : Checked} {os : Os} {f : FuncId} {fn : Func} {s : ChangeSpec} {conds : List PathCond} {apart fresh handsOn again : Bool} {X : World → Array Value → Prop}
    (hX : ∀ (w w' : World) (args : Array Value), w.heap = w'.heap → X w args → X w' args)
    (own : ownKnob C.prog.godebug = none) (started : os.Started) (noInit : C.prog.inits.idxOf? f = none) (hfn : C.prog.funcs[f]? = some fn)
    (witness : ∃ (w : World) (tape : Tape) (i : Input), w.os = os ∧ (w.forCall tape i).Shaped C.prog ∧ i.vars = [] ∧ Input.okWide C.prog (w.forCall tape i) .any w.heap.size f i ∧
      ((s.pre enc C.prog fn conds apart (w.forCall tape i).memory i.args ∧ X (w.forCall tape i).memory i.args) ∧ sizedMet enc C.prog fn (OpenSpec.ofChange s) apart (w.forCall tape i).memory i.args) ∧ a.holds C.prog (lone (Frame.enter C.prog f i.args .normal) [] (w.forCall tape i)))
    (contract : ∀ (W : World) (base : Nat) (args : Array Value) (ds gs : List (DataW H)) (before : List MemPlace), W.ShapedOpen C.prog →
      (∀ (j : Nat) t v, fn.params[j]? = some t → args[j]? = some v → Value.okWide C.prog W .any base t v) →
      DataW.Whole enc C.prog fn.params.toList s.vars apart W args.toList ds gs before →
      conds.all (PathCond.test C.prog ⟨fn.params.toList, ds, s.plain.varTypes C.prog, gs⟩) = true →
      (DataW.weightsEach C.prog (fn.params.toList ++ s.plain.varTypes C.prog) (ds ++ gs)).all (· ≤ reachBytes) = true → X W args →
      a.holds C.prog (lone (Frame.enter C.prog f args .normal) [] W) →
      Calls C.prog f args W fun e W' => ∃ v, e = .returned v ∧ s.post enc C.prog fn apart fresh handsOn again W args v W') :
    ReturnsInHanded a C os f .any (fun w args => (s.pre enc C.prog fn conds apart w args ∧ X w args) ∧ sizedMet enc C.prog fn (OpenSpec.ofChange s) apart w args) (s.post enc C.prog fn apart fresh handsOn again) := by
  refine returnsInHanded_of_calls own started noInit witness ?_
  intro w tape i _ hsh _ hok hpre hholds
  obtain ⟨_, _, _, fn', hfn', _, _, _, _, hval⟩ := hok
  have e : fn' = fn := Option.some.inj (hfn'.symm.trans hfn)
  subst e
  obtain ⟨⟨⟨ds, gs, before, hw, hc⟩, hx⟩, hz⟩ := hpre
  have hw' := DataW.Whole.of_heap (w' := w.forCall tape i) (by rfl) hw
  refine (contract (w.forCall tape i) w.heap.size i.args ds gs before hsh hval hw' hc (hz.weights hw) (hX _ _ _ (by rfl) hx) hholds).mono fun e W' ⟨v, he, hp⟩ => ?_
  subst he
  exact ChangeSpec.post_blind hp
end Go.Proofs.YtlpnnnmdkglkcaaDoor

