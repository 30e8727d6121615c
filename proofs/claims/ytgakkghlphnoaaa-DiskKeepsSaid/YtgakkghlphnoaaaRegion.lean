/-
  A region that draws its order, by an invariant: each operation leaves in its slot a value of which a stable fact holds, whenever its own predecessors have run. No condition on the program.
-/
import Derived.Test.YtgakkghlphnoaaaMem
import Derived.RegionTactic
namespace Go.Proofs.Ytgakkghlphnoaaa
set_option linter.unusedSimpArgs false
set_option linter.unusedVariables false
open Go.RowKit

def dstOf (R : Array Oper) (i : Nat) : Option Nat := (R[i]?).bind (·.dst)
/-- What lies in the slot of operation i. -/
def slotOf (R : Array Oper) (a : Act) (i : Nat) : Value := match dstOf R i with | some d => a.tmps.getD d undef | none => undef
def okDsts (R : Array Oper) (n : Nat) : Bool := (List.range R.size).all fun i => match dstOf R i with
  | none => true
  | some d => decide (d < n) && (List.range R.size).all fun j => j == i || dstOf R j != some d
def okEdges (R : Array Oper) : Bool := (List.range R.size).all fun i => match R[i]? with
  | none => true
  | some o => o.after.all fun e => !Region.binds .any e || decide (e.on < i)
structure Agree (R : Array Oper) (a0 a : Act) : Prop where
  defers : a.defers = a0.defers
  size : a.tmps.size = a0.tmps.size
  same : ∀ t, (∀ i, dstOf R i ≠ some t) → a.tmps[t]? = a0.tmps[t]?
theorem Agree.refl (R : Array Oper) (a : Act) : Agree R a a := ⟨rfl, rfl, fun _ _ => rfl⟩
/-- A slot that the region does not write. -/
theorem Agree.eval {R : Array Oper} {a0 a : Act} (h : Agree R a0 a) (t : Nat) (ht : ((List.range R.size).all fun i => dstOf R i != some t) = true) : a.tmps.getD t undef = a0.tmps.getD t undef := by
  rw [Array.getD_eq_getD_getElem?, Array.getD_eq_getD_getElem?, h.same t ?_]
  intro i hi
  by_cases hlt : i < R.size
  · have := List.all_eq_true.1 ht i (List.mem_range.2 hlt)
    simp [hi] at this
  · unfold dstOf at hi
    rw [Array.getElem?_eq_none (by omega)] at hi
    cases hi
theorem okDsts_spec {R : Array Oper} {n : Nat} (h : okDsts R n = true) {i d : Nat} (hi : dstOf R i = some d) : d < n ∧ ∀ j, dstOf R j = some d → j = i := by
  have hlt : ∀ k d, dstOf R k = some d → k < R.size := fun k d hk => by
    rcases Nat.lt_or_ge k R.size with h' | h'
    · exact h'
    · unfold dstOf at hk
      rw [Array.getElem?_eq_none h'] at hk
      cases hk
  have h1 := List.all_eq_true.1 h i (List.mem_range.2 (hlt i d hi))
  rw [hi] at h1
  simp only [Bool.and_eq_true, decide_eq_true_eq] at h1
  refine ⟨h1.1, fun j hj => ?_⟩
  have h2 := List.all_eq_true.1 h1.2 j (List.mem_range.2 (hlt j d hj))
  rw [hj] at h2
  simpa using h2
theorem slot_put {R : Array Oper} {n : Nat} (h : okDsts R n = true) {a : Act} (hn : a.tmps.size = n) {i : Nat} {o : Oper} (ho : R[i]? = some o) (v : Value) (j : Nat) (hd : o.dst ≠ none ∨ j ≠ i) :
    slotOf R (a.put o.dst v) j = if j = i then v else slotOf R a j := by
  have hdi : dstOf R i = o.dst := by unfold dstOf; rw [ho]; rfl
  unfold slotOf
  cases hdst : o.dst with
  | none =>
    rcases hd with hd | hd
    · exact absurd hdst hd
    · rw [if_neg hd]; rfl
  | some d =>
    have hs := okDsts_spec h (hdi.trans hdst)
    show (match dstOf R j with | some d' => (a.tmps.setIfInBounds d v).getD d' undef | none => undef) = _
    by_cases hji : j = i
    · subst hji
      rw [hdi, hdst, if_pos rfl]
      simp [Array.getD_eq_getD_getElem?, hn, hs.1]
    · rw [if_neg hji]
      cases hdj : dstOf R j with
      | none => rfl
      | some d' =>
        have hne : d ≠ d' := fun e => hji (hs.2 j (by rw [hdj, e]))
        simp [Array.getD_eq_getD_getElem?, Array.getElem?_setIfInBounds_ne hne]
theorem Agree.put {R : Array Oper} {a0 a : Act} (h : Agree R a0 a) {i : Nat} {o : Oper} (ho : R[i]? = some o) (v : Value) : Agree R a0 (a.put o.dst v) := by
  have hdi : dstOf R i = o.dst := by unfold dstOf; rw [ho]; rfl
  cases hdst : o.dst with
  | none => exact h
  | some d =>
    refine ⟨h.defers, by simpa [Act.put] using h.size, fun t ht => ?_⟩
    have hne : d ≠ t := fun e => ht i (by rw [hdi, hdst, e])
    show (a.tmps.setIfInBounds d v)[t]? = _
    rw [Array.getElem?_setIfInBounds_ne hne]
    exact h.same t ht

section
variable {P : Program} {R : Array Oper} {Q : Exit → Act → World → Prop}
theorem inv_any (I : World → Prop) (V : Nat → Value → World → Prop) (a0 : Act) (hd : okDsts R a0.tmps.size = true) (he : okEdges R = true)
    (hstab : ∀ i v w w', V i v w → Below w.heap.size w w' → V i v w')
    (hstep : ∀ i o, R[i]? = some o → ∀ a w, I w → Agree R a0 a → (∀ e, e ∈ o.after → Region.binds .any e = true → V e.on (slotOf R a e.on) w) →
      ∀ K : Act → World → Prop, (∀ v w', I w' → Below w.heap.size w w' → V i (if o.dst = none then undef else v) w' → K (a.put o.dst v) w') → wpOp P R Q i K a w)
    (hend : ∀ a w, I w → Agree R a0 a → (∀ i, i < R.size → V i (slotOf R a i) w) → Q .normal a w) :
    ∀ (fuel : Nat) (listed : Array Bool) (a : Act) (w : World), listed.size = R.size → (listed.toList.filter (!·)).length = fuel → Agree R a0 a → I w →
      (∀ i, i < R.size → listed.getD i false = true → V i (slotOf R a i) w) → wpAny P .any R Q fuel listed a w := by
  have hready : ∀ listed : Array Bool, listed.size = R.size → Region.ready .any R listed = [] → ∀ i, i < R.size → listed.getD i false = true := by
    intro listed hs hr i
    induction i using Nat.strongRecOn with
    | _ i ih =>
      intro hi
      rcases hb : listed.getD i false with _ | _
      · exfalso
        have hmem : i ∈ Region.ready .any R listed := by
          unfold Region.ready
          rw [List.mem_filter]
          refine ⟨List.mem_range.2 hi, ?_⟩
          have e1 : listed.getD i true = false := by
            rw [Array.getD_eq_getD_getElem?] at hb ⊢
            rw [Array.getElem?_eq_getElem (by omega)] at hb ⊢
            simpa using hb
          have h1 := List.all_eq_true.1 he i (List.mem_range.2 hi)
          rw [Array.getElem?_eq_getElem hi] at h1 ⊢
          simp only [e1, Bool.not_false, Bool.true_and, Option.map_some, Option.getD_some]
          simp only [] at h1
          rw [Array.all_eq_true_iff_forall_mem] at h1 ⊢
          intro e hem
          have h2 := h1 e hem
          simp only [Bool.or_eq_true, decide_eq_true_eq] at h2 ⊢
          rcases h2 with h2 | h2
          · exact .inl h2
          · exact .inr (ih e.on h2 (by omega))
        rw [hr] at hmem
        cases hmem
      · rfl
  intro fuel
  induction fuel with
  | zero =>
    intro listed a w hs hc hag hI hV
    have hall : ∀ i, i < R.size → listed.getD i false = true := by
      intro i hi
      have hnil := List.eq_nil_of_length_eq_zero hc
      rw [List.filter_eq_nil_iff] at hnil
      have := hnil (listed[i]'(by omega)) (by simp)
      rw [Array.getD_eq_getD_getElem?, Array.getElem?_eq_getElem (by omega)]
      simpa using this
    refine ⟨?_, hend a w hI hag fun i hi => hV i hi (hall i hi)⟩
    unfold Region.ready
    rw [List.filter_eq_nil_iff]
    intro i hi
    have := hall i (List.mem_range.1 hi)
    have e1 : listed.getD i true = true := by
      have hi' := List.mem_range.1 hi
      rw [Array.getD_eq_getD_getElem?] at this ⊢
      rw [Array.getElem?_eq_getElem (by omega)] at this ⊢
      simpa using this
    simp [e1]
  | succ fuel ih =>
    intro listed a w hs hc hag hI hV
    refine ⟨fun hr => hend a w hI hag fun i hi => hV i hi (hready listed hs hr i hi), fun i hi => ?_⟩
    have hi2 := hi
    unfold Region.ready at hi2
    rw [List.mem_filter] at hi2
    obtain ⟨hir, hcond⟩ := hi2
    have hir := List.mem_range.1 hir
    rw [Array.getElem?_eq_getElem hir] at hcond
    simp only [Bool.and_eq_true, Bool.not_eq_true', Option.map_some, Option.getD_some] at hcond
    obtain ⟨hun, hafter⟩ := hcond
    rw [Array.all_eq_true_iff_forall_mem] at hafter
    refine hstep i R[i] (Array.getElem?_eq_getElem hir) a w hI hag (fun e hem hb => ?_) _ (fun v w' hI' hbel hVi => ?_)
    · have h1 := hafter e hem
      simp only [hb, Bool.not_true, Bool.false_or] at h1
      have hlt : e.on < R.size := by
        rcases Nat.lt_or_ge e.on R.size with h' | h'
        · exact h'
        · rw [Array.getD_eq_getD_getElem?, Array.getElem?_eq_none (by omega)] at h1
          cases h1
      exact hV e.on hlt h1
    · have hil : i < listed.size := by omega
      have hunl : listed[i] = false := by
        rw [Array.getD_eq_getD_getElem?, Array.getElem?_eq_getElem hil] at hun
        simpa using hun
      refine ih _ _ _ (by simpa using hs) ?_ (hag.put (Array.getElem?_eq_getElem hir) v) hI' (fun j hj hjl => ?_)
      · have hset : (listed.setIfInBounds i true).toList = listed.toList.set i true := by simp
        rw [hset]
        have hgen : ∀ (l : List Bool) (k : Nat) (hk : k < l.length), l[k] = false → ((l.set k true).filter (!·)).length + 1 = (l.filter (!·)).length := by
          intro l
          induction l with
          | nil => intro k hk; simp at hk
          | cons b l ihl =>
            intro k hk hlk
            cases k with
            | zero =>
              simp only [List.getElem_cons_zero] at hlk
              subst hlk
              simp
            | succ k =>
              have := ihl k (by simpa using hk) (by simpa using hlk)
              cases b <;> simp [List.set_cons_succ] <;> omega
        have := hgen listed.toList i (by simpa using hil) (by simpa using hunl)
        omega
      · by_cases hji : j = i
        · subst hji
          by_cases hdn : R[j].dst = none
          · rw [if_pos hdn] at hVi
            have e : slotOf R (a.put R[j].dst v) j = undef := by
              unfold slotOf dstOf
              rw [Array.getElem?_eq_getElem hir]
              simp [hdn]
            rw [e]; exact hVi
          · rw [if_neg hdn] at hVi
            rw [slot_put hd hag.size (Array.getElem?_eq_getElem hir) v j (.inl hdn), if_pos rfl]
            exact hVi
        · have hjl2 : listed.getD j false = true := by
            rw [Array.getD_eq_getD_getElem?] at hjl ⊢
            rwa [Array.getElem?_setIfInBounds_ne (Ne.symm hji)] at hjl
          rw [slot_put hd hag.size (Array.getElem?_eq_getElem hir) v j (.inr hji), if_neg hji]
          exact hstab j _ w w' (hV j hj hjl2) hbel
/-- A region that draws its order, by an invariant. -/
theorem region_inv {id : Nat} {a0 : Act} {w : World} (hm : P.follows .mixedOrders = true) (I : World → Prop) (V : Nat → Value → World → Prop) (hd : okDsts R a0.tmps.size = true) (he : okEdges R = true) (hI : I w.drew)
    (hstab : ∀ i v w w', V i v w → Below w.heap.size w w' → V i v w')
    (hstep : ∀ i o, R[i]? = some o → ∀ a w, I w → Agree R a0 a → (∀ e, e ∈ o.after → Region.binds .any e = true → V e.on (slotOf R a e.on) w) →
      ∀ K : Act → World → Prop, (∀ v w', I w' → Below w.heap.size w w' → V i (if o.dst = none then undef else v) w' → K (a.put o.dst v) w') → wpOp P R Q i K a w)
    (hend : ∀ a w, I w → Agree R a0 a → (∀ i, i < R.size → V i (slotOf R a i) w) → Q .normal a w) : (Code.region id R true).wp P Q a0 w := by
  refine wp_region_any hm ?_
  refine inv_any I V a0 hd he hstab hstep hend R.size _ a0 _ (by simp) (by simp) (Agree.refl _ _) hI (fun i hi h => ?_)
  rw [Array.getD_eq_getD_getElem?] at h
  simp [hi] at h
end

/-- The obligation of operation i. -/
def StepOf (P : Program) (R : Array Oper) (Q : Exit → Act → World → Prop) (I : World → Prop) (V : Nat → Value → World → Prop) (a0 : Act) (i : Nat) (o : Oper) : Prop :=
  ∀ a w, I w → Agree R a0 a → (∀ e, e ∈ o.after → Region.binds .any e = true → V e.on (slotOf R a e.on) w) →
    ∀ K : Act → World → Prop, (∀ v w', I w' → Below w.heap.size w w' → V i (if o.dst = none then undef else v) w' → K (a.put o.dst v) w') →
      if Region.wanted o (yielded R a.tmps) = true then Oper.wp P o a w K Q else K (a.put o.dst undef) w
theorem slot_yielded {R : Array Oper} {a : Act} {j : Nat} {b : Bool} (h : slotOf R a j = .bool b) : yielded R a.tmps j = some b := by
  unfold slotOf dstOf at h
  unfold yielded
  cases hj : (R[j]?).bind (·.dst) with
  | none => rw [hj] at h; cases h
  | some d =>
    rw [hj] at h
    simp only [Array.getD_eq_getD_getElem?] at h
    simp only [Option.bind_some]
    cases ht : a.tmps[d]? with
    | none => rw [ht] at h; cases h
    | some v => rw [ht] at h; simp only [Option.getD_some] at h; rw [h]
section
variable {P : Program} {R : Array Oper} {Q : Exit → Act → World → Prop} {I : World → Prop} {V : Nat → Value → World → Prop} {a0 : Act} {i : Nat} {o : Oper}
theorem step_plain (hg : o.guard = none) (h : ∀ a w, I w → Agree R a0 a → (∀ e, e ∈ o.after → Region.binds .any e = true → V e.on (slotOf R a e.on) w) →
    ∀ K : Act → World → Prop, (∀ v w', I w' → Below w.heap.size w w' → V i (if o.dst = none then undef else v) w' → K (a.put o.dst v) w') → Oper.wp P o a w K Q) : StepOf P R Q I V a0 i o := by
  intro a w hI hag hd K hK
  rw [if_pos (by simp [Region.wanted, hg])]
  exact h a w hI hag hd K hK
theorem step_yes {j : Nat} {b : Bool} (hg : o.guard = some (j, b)) (he : o.after.any (fun e => Region.binds .any e && e.on == j) = true) (hj : ∀ v w, V j v w → v = .bool b)
    (h : ∀ a w, I w → Agree R a0 a → (∀ e, e ∈ o.after → Region.binds .any e = true → V e.on (slotOf R a e.on) w) →
    ∀ K : Act → World → Prop, (∀ v w', I w' → Below w.heap.size w w' → V i (if o.dst = none then undef else v) w' → K (a.put o.dst v) w') → Oper.wp P o a w K Q) : StepOf P R Q I V a0 i o := by
  intro a w hI hag hd K hK
  obtain ⟨e, hem, hb⟩ := Array.any_eq_true'.1 he
  simp only [Bool.and_eq_true, beq_iff_eq] at hb
  have hv := hj _ _ (hb.2 ▸ hd e hem hb.1)
  rw [if_pos (by simp [Region.wanted, hg, slot_yielded hv])]
  exact h a w hI hag hd K hK
theorem step_no {j : Nat} {b : Bool} (hg : o.guard = some (j, b)) (he : o.after.any (fun e => Region.binds .any e && e.on == j) = true) (hj : ∀ v w, V j v w → v = .bool (!b))
    (h : ∀ w, I w → V i undef w) : StepOf P R Q I V a0 i o := by
  intro a w hI hag hd K hK
  obtain ⟨e, hem, hb⟩ := Array.any_eq_true'.1 he
  simp only [Bool.and_eq_true, beq_iff_eq] at hb
  have hv := hj _ _ (hb.2 ▸ hd e hem hb.1)
  rw [if_neg (by simp [Region.wanted, hg, slot_yielded hv])]
  exact hK undef w hI (Below.refl _ _) (by rw [ite_self]; exact h w hI)
end
inductive AllSteps (S : Nat → Oper → Prop) : Nat → List Oper → Prop where
  | nil {k : Nat} : AllSteps S k []
  | cons {k : Nat} {o : Oper} {l : List Oper} (h : S k o) (t : AllSteps S (k + 1) l) : AllSteps S k (o :: l)
theorem AllSteps.get {S : Nat → Oper → Prop} : ∀ {k : Nat} {l : List Oper}, AllSteps S k l → ∀ {i : Nat} {o : Oper}, l[i]? = some o → S (k + i) o
  | _, _, .nil, _, _, h => by simp at h
  | k, _, .cons h t, 0, _, e => by simp at e; subst e; exact h
  | k, _, .cons h t, i + 1, _, e => by
    have := AllSteps.get t (i := i) (by simpa using e)
    rwa [show k + 1 + i = k + (i + 1) by omega] at this
def Stable (p : Value → World → Prop) : Prop := ∀ v w w', p v w → Below w.heap.size w w' → p v w'
/-- The value is just c. -/
def Is (c : Value) : Value → World → Prop := fun v _ => v = c
theorem stable_is (c : Value) : Stable (Is c) := fun _ _ _ h _ => h
/-- A new slice of one byte. -/
def OneB (u : Int) : Value → World → Prop := fun v w => ∃ g, v = .slice (some ⟨g, 0, none⟩) 1 1 ∧ g < w.heap.size ∧ w.cell? ⟨g, 0, none⟩ = some (.int .u8 u)
theorem stable_oneB (u : Int) : Stable (OneB u) := fun _ _ _ ⟨g, h1, h2, h3⟩ hb => ⟨g, h1, Nat.lt_of_lt_of_le h2 hb.size, (hb.cell (p := ⟨g, 0, none⟩) h2).trans h3⟩
def tabV (T : List (Value → World → Prop)) (i : Nat) : Value → World → Prop := T.getD i (fun _ _ => True)
theorem stable_tab {T : List (Value → World → Prop)} (h : ∀ p ∈ T, Stable p) (i : Nat) : Stable (tabV T i) := by
  unfold tabV
  rw [List.getD_eq_getElem?_getD]
  rcases hi : T[i]? with _ | p
  · exact fun _ _ _ _ _ => trivial
  · exact h p (List.mem_of_getElem? hi)
theorem region_tab {P : Program} {Q : Exit → Act → World → Prop} {id : Nat} {a0 : Act} {w : World} {l : List Oper} (hm : P.follows .mixedOrders = true) (I : World → Prop) (T : List (Value → World → Prop))
    (hd : okDsts l.toArray a0.tmps.size = true) (he : okEdges l.toArray = true) (hI : I w.drew) (hstab : ∀ p ∈ T, Stable p) (hsteps : AllSteps (StepOf P l.toArray Q I (tabV T) a0) 0 l)
    (hend : ∀ a w, I w → Agree l.toArray a0 a → (∀ i, i < l.length → tabV T i (slotOf l.toArray a i) w) → Q .normal a w) : (Code.region id l.toArray true).wp P Q a0 w := by
  refine region_inv hm I (tabV T) hd he hI (fun i => stable_tab hstab i) (fun i o ho a w hI hag hdep K hK => ?_) (fun a w hI hag h => hend a w hI hag (fun i hi => h i (by simpa using hi)))
  have h1 := hsteps.get (i := i) (o := o) (by simpa using ho)
  rw [Nat.zero_add] at h1
  have h2 := h1 a w hI hag hdep K hK
  unfold wpOp
  rw [ho]
  simp only
  split
  · rename_i hw; rw [if_pos hw] at h2; exact .inl h2
  · rename_i hw; rw [if_neg hw] at h2; exact h2
end Go.Proofs.Ytgakkghlphnoaaa
