/-
  A region that draws its order and stores once into a block that was there: by an invariant. No condition on the program.
-/
import Derived.Test.YtgakkghlphnoaaaRegion
import Derived.Test.YtgakkghlphnoaaaApp
namespace Go.Proofs.Ytgakkghlphnoaaa
set_option linter.unusedSimpArgs false
set_option linter.unusedVariables false
open Go.RowKit

section
variable {P : Program} {R : Array Oper} {Q : Exit → Act → World → Prop}
theorem inv_anyS (St : Nat → World → World → Prop) (I : World → Prop) (V : Nat → Value → World → Prop) (a0 : Act) (hd : okDsts R a0.tmps.size = true) (he : okEdges R = true)
    (hstab : ∀ i j v w w', i ≠ j → V i v w → St j w w' → V i v w')
    (hstep : ∀ i o, R[i]? = some o → ∀ a w, I w → Agree R a0 a → (∀ e, e ∈ o.after → Region.binds .any e = true → V e.on (slotOf R a e.on) w) →
      ∀ K : Act → World → Prop, (∀ v w', I w' → St i w w' → V i (if o.dst = none then undef else v) w' → K (a.put o.dst v) w') → wpOp P R Q i K a w)
    (hend : ∀ a w, I w → Agree R a0 a → (∀ i, i < R.size → V i (slotOf R a i) w) → Q .normal a w) :
    ∀ (fuel : Nat) (listed : Array Bool) (a : Act) (w : World), listed.size = R.size → (listed.toList.filter (!·)).length = fuel → Agree R a0 a → I w →
      (∀ i, i < R.size → listed.getD i false = true → V i (slotOf R a i) w) → wpAny P .any R Q fuel listed a w := by
  have hready : ∀ listed : Array Bool, listed.size = R.size → Region.ready .any R listed = [] → ∀ i, i < R.size → listed.getD i false = true := by
    intro listed hs hr i
    induction i using Nat.strongRecOn with
    | _ i ih =>
      intro hi
      rcases hb : listed.getD i false with _ | _
      · exfalso
        have hmem : i ∈ Region.ready .any R listed := by
          unfold Region.ready
          rw [List.mem_filter]
          refine ⟨List.mem_range.2 hi, ?_⟩
          have e1 : listed.getD i true = false := by
            rw [Array.getD_eq_getD_getElem?] at hb ⊢
            rw [Array.getElem?_eq_getElem (by omega)] at hb ⊢
            simpa using hb
          have h1 := List.all_eq_true.1 he i (List.mem_range.2 hi)
          rw [Array.getElem?_eq_getElem hi] at h1 ⊢
          simp only [e1, Bool.not_false, Bool.true_and, Option.map_some, Option.getD_some]
          simp only [] at h1
          rw [Array.all_eq_true_iff_forall_mem] at h1 ⊢
          intro e hem
          have h2 := h1 e hem
          simp only [Bool.or_eq_true, decide_eq_true_eq] at h2 ⊢
          rcases h2 with h2 | h2
          · exact .inl h2
          · exact .inr (ih e.on h2 (by omega))
        rw [hr] at hmem
        cases hmem
      · rfl
  intro fuel
  induction fuel with
  | zero =>
    intro listed a w hs hc hag hI hV
    have hall : ∀ i, i < R.size → listed.getD i false = true := by
      intro i hi
      have hnil := List.eq_nil_of_length_eq_zero hc
      rw [List.filter_eq_nil_iff] at hnil
      have := hnil (listed[i]'(by omega)) (by simp)
      rw [Array.getD_eq_getD_getElem?, Array.getElem?_eq_getElem (by omega)]
      simpa using this
    refine ⟨?_, hend a w hI hag fun i hi => hV i hi (hall i hi)⟩
    unfold Region.ready
    rw [List.filter_eq_nil_iff]
    intro i hi
    have := hall i (List.mem_range.1 hi)
    have e1 : listed.getD i true = true := by
      have hi' := List.mem_range.1 hi
      rw [Array.getD_eq_getD_getElem?] at this ⊢
      rw [Array.getElem?_eq_getElem (by omega)] at this ⊢
      simpa using this
    simp [e1]
  | succ fuel ih =>
    intro listed a w hs hc hag hI hV
    refine ⟨fun hr => hend a w hI hag fun i hi => hV i hi (hready listed hs hr i hi), fun i hi => ?_⟩
    have hi2 := hi
    unfold Region.ready at hi2
    rw [List.mem_filter] at hi2
    obtain ⟨hir, hcond⟩ := hi2
    have hir := List.mem_range.1 hir
    rw [Array.getElem?_eq_getElem hir] at hcond
    simp only [Bool.and_eq_true, Bool.not_eq_true', Option.map_some, Option.getD_some] at hcond
    obtain ⟨hun, hafter⟩ := hcond
    rw [Array.all_eq_true_iff_forall_mem] at hafter
    refine hstep i R[i] (Array.getElem?_eq_getElem hir) a w hI hag (fun e hem hb => ?_) _ (fun v w' hI' hbel hVi => ?_)
    · have h1 := hafter e hem
      simp only [hb, Bool.not_true, Bool.false_or] at h1
      have hlt : e.on < R.size := by
        rcases Nat.lt_or_ge e.on R.size with h' | h'
        · exact h'
        · rw [Array.getD_eq_getD_getElem?, Array.getElem?_eq_none (by omega)] at h1
          cases h1
      exact hV e.on hlt h1
    · have hil : i < listed.size := by omega
      have hunl : listed[i] = false := by
        rw [Array.getD_eq_getD_getElem?, Array.getElem?_eq_getElem hil] at hun
        simpa using hun
      refine ih _ _ _ (by simpa using hs) ?_ (hag.put (Array.getElem?_eq_getElem hir) v) hI' (fun j hj hjl => ?_)
      · have hset : (listed.setIfInBounds i true).toList = listed.toList.set i true := by simp
        rw [hset]
        have hgen : ∀ (l : List Bool) (k : Nat) (hk : k < l.length), l[k] = false → ((l.set k true).filter (!·)).length + 1 = (l.filter (!·)).length := by
          intro l
          induction l with
          | nil => intro k hk; simp at hk
          | cons b l ihl =>
            intro k hk hlk
            cases k with
            | zero =>
              simp only [List.getElem_cons_zero] at hlk
              subst hlk
              simp
            | succ k =>
              have := ihl k (by simpa using hk) (by simpa using hlk)
              cases b <;> simp [List.set_cons_succ] <;> omega
        have := hgen listed.toList i (by simpa using hil) (by simpa using hunl)
        omega
      · by_cases hji : j = i
        · subst hji
          by_cases hdn : R[j].dst = none
          · rw [if_pos hdn] at hVi
            have e : slotOf R (a.put R[j].dst v) j = undef := by
              unfold slotOf dstOf
              rw [Array.getElem?_eq_getElem hir]
              simp [hdn]
            rw [e]; exact hVi
          · rw [if_neg hdn] at hVi
            rw [slot_put hd hag.size (Array.getElem?_eq_getElem hir) v j (.inl hdn), if_pos rfl]
            exact hVi
        · have hjl2 : listed.getD j false = true := by
            rw [Array.getD_eq_getD_getElem?] at hjl ⊢
            rwa [Array.getElem?_setIfInBounds_ne (Ne.symm hji)] at hjl
          rw [slot_put hd hag.size (Array.getElem?_eq_getElem hir) v j (.inr hji), if_neg hji]
          exact hstab j i _ w w' hji (hV j hj hjl2) hbel
theorem region_invS {id : Nat} {a0 : Act} {w : World} (St : Nat → World → World → Prop) (hm : P.follows .mixedOrders = true) (I : World → Prop) (V : Nat → Value → World → Prop) (hd : okDsts R a0.tmps.size = true) (he : okEdges R = true) (hI : I w.drew)
    (hstab : ∀ i j v w w', i ≠ j → V i v w → St j w w' → V i v w')
    (hstep : ∀ i o, R[i]? = some o → ∀ a w, I w → Agree R a0 a → (∀ e, e ∈ o.after → Region.binds .any e = true → V e.on (slotOf R a e.on) w) →
      ∀ K : Act → World → Prop, (∀ v w', I w' → St i w w' → V i (if o.dst = none then undef else v) w' → K (a.put o.dst v) w') → wpOp P R Q i K a w)
    (hend : ∀ a w, I w → Agree R a0 a → (∀ i, i < R.size → V i (slotOf R a i) w) → Q .normal a w) : (Code.region id R true).wp P Q a0 w := by
  refine wp_region_any hm ?_
  refine inv_anyS St I V a0 hd he hstab hstep hend R.size _ a0 _ (by simp) (by simp) (Agree.refl _ _) hI (fun i hi h => ?_)
  rw [Array.getD_eq_getD_getElem?] at h
  simp [hi] at h
end
/-- The relation of a step: all but number k change nothing that was there; number k may write block g. -/
def StK (k g : Nat) (j : Nat) (w w' : World) : Prop := if j = k then w.grownBy w' (some g) else Below w.heap.size w w'
def StepOfS (P : Program) (R : Array Oper) (Q : Exit → Act → World → Prop) (St : Nat → World → World → Prop) (I : World → Prop) (V : Nat → Value → World → Prop) (a0 : Act) (i : Nat) (o : Oper) : Prop :=
  ∀ a w, I w → Agree R a0 a → (∀ e, e ∈ o.after → Region.binds .any e = true → V e.on (slotOf R a e.on) w) →
    ∀ K : Act → World → Prop, (∀ v w', I w' → St i w w' → V i (if o.dst = none then undef else v) w' → K (a.put o.dst v) w') → Oper.wp P o a w K Q
def StableG (g : Nat) (p : Value → World → Prop) : Prop := ∀ v w w', p v w → w.grownBy w' (some g) → p v w'
/-- A region of plain operations that draws its order, of which number k (with the fact p) writes block g. -/
theorem region_tabS {P : Program} {Q : Exit → Act → World → Prop} {id : Nat} {a0 : Act} {w : World} {l : List Oper} (k g : Nat) (hm : P.follows .mixedOrders = true) (I : World → Prop) (T : List (Value → World → Prop))
    (hd : okDsts l.toArray a0.tmps.size = true) (he : okEdges l.toArray = true) (hgd : l.all (fun o => o.guard == none) = true) (hI : I w.drew) (hstab : ∀ p ∈ T, Stable p) (hstabG : ∀ i, i ≠ k → StableG g (tabV T i)) (hsteps : AllSteps (StepOfS P l.toArray Q (StK k g) I (tabV T) a0) 0 l)
    (hend : ∀ a w, I w → Agree l.toArray a0 a → (∀ i, i < l.length → tabV T i (slotOf l.toArray a i) w) → Q .normal a w) : (Code.region id l.toArray true).wp P Q a0 w := by
  refine region_invS (StK k g) hm I (tabV T) hd he hI (fun i j v w w' hij hv hst => ?_) (fun i o ho a w hI hag hdep K hK => ?_) (fun a w hI hag h => hend a w hI hag (fun i hi => h i (by simpa using hi)))
  · unfold StK at hst
    split at hst
    · rename_i hjk
      exact hstabG i (by omega) v w w' hv hst
    · exact stable_tab hstab i v w w' hv hst
  · have h1 := hsteps.get (i := i) (o := o) (by simpa using ho)
    rw [Nat.zero_add] at h1
    have h2 := h1 a w hI hag hdep K hK
    have hg : o.guard = none := by
      have := List.all_eq_true.1 hgd o (List.mem_of_getElem? (by simpa using ho))
      simpa using this
    unfold wpOp
    rw [ho]
    simp only
    rw [if_pos (by simp [Region.wanted, hg])]
    exact .inl h2
theorem stableG_tab {g k : Nat} {T : List (Value → World → Prop)} (h : ∀ i (hi : i < T.length), i ≠ k → StableG g T[i]) : ∀ i, i ≠ k → StableG g (tabV T i) := by
  intro i hik
  unfold tabV
  rw [List.getD_eq_getElem?_getD]
  rcases Nat.lt_or_ge i T.length with hi | hi
  · rw [List.getElem?_eq_getElem hi]; exact h i hi hik
  · rw [List.getElem?_eq_none hi]; exact fun _ _ _ _ _ => trivial
/-- The value is a slice of the call's own. -/
def Own (base : Nat) (e : TypeId) (size n : Nat) (xs : List Value) : Value → World → Prop := fun v w => w.ownsRow base e size v n xs
theorem stable_own (base : Nat) (e : TypeId) (size n : Nat) (xs : List Value) : Stable (Own base e size n xs) := fun _ _ _ h hb => own_call h hb
theorem stableG_own {base g : Nat} (e : TypeId) (size n : Nat) (xs : List Value) (hg : g < base) : StableG g (Own base e size n xs) := fun v w w' h hb => h.kept hb (by
  cases ho : v.ownBlock with
  | none => exact .inl rfl
  | some q => exact .inr fun e => by injection e with e; have := own_lt h q ho; omega)
theorem stableG_is (g : Nat) (c : Value) : StableG g (Is c) := fun _ _ _ h _ => h
end Go.Proofs.Ytgakkghlphnoaaa
