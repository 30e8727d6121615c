/-
  A region that draws its order and stores once into a block that it reads before: by an invariant that knows whether the store has run. No condition on the program.
-/
import Derived.Test.YtgakkghlphnoaaaRegionS
namespace Go.Proofs.Ytgakkghlphnoaaa
set_option linter.unusedSimpArgs false
set_option linter.unusedVariables false
open Go.RowKit

/-- Has operation i an edge that binds from operation k? -/
def direct (R : Array Oper) (k i : Nat) : Bool := match R[k]? with
  | some o => o.after.any fun e => Region.binds .any e && e.on == i
  | none => false
section
variable {P : Program} {R : Array Oper} {Q : Exit → Act → World → Prop}
theorem inv_anyK (k : Nat) (St : Nat → World → World → Prop) (I : Bool → World → Prop) (V : Nat → Value → World → Prop) (a0 : Act) (hd : okDsts R a0.tmps.size = true) (he : okEdges R = true)
    (hstab : ∀ i j v w w', i ≠ j → V i v w → St j w w' → V i v w')
    (hstep : ∀ i o, R[i]? = some o → ∀ a w b, (b = true → i ≠ k ∧ direct R k i = false) → I b w → Agree R a0 a → (∀ e, e ∈ o.after → Region.binds .any e = true → V e.on (slotOf R a e.on) w) →
      ∀ K : Act → World → Prop, (∀ v w', I (b || i == k) w' → St i w w' → V i (if o.dst = none then undef else v) w' → K (a.put o.dst v) w') → wpOp P R Q i K a w)
    (hkR : k < R.size) (hend : ∀ a w, I true w → Agree R a0 a → (∀ i, i < R.size → V i (slotOf R a i) w) → Q .normal a w) :
    ∀ (fuel : Nat) (listed : Array Bool) (a : Act) (w : World), listed.size = R.size → (listed.toList.filter (!·)).length = fuel → Agree R a0 a → I (listed.getD k false) w → (listed.getD k false = true → ∀ i, direct R k i = true → listed.getD i false = true) →
      (∀ i, i < R.size → listed.getD i false = true → V i (slotOf R a i) w) → wpAny P .any R Q fuel listed a w := by
  have hready : ∀ listed : Array Bool, listed.size = R.size → Region.ready .any R listed = [] → ∀ i, i < R.size → listed.getD i false = true := by
    intro listed hs hr i
    induction i using Nat.strongRecOn with
    | _ i ih =>
      intro hi
      rcases hb : listed.getD i false with _ | _
      · exfalso
        have hmem : i ∈ Region.ready .any R listed := by
          unfold Region.ready
          rw [List.mem_filter]
          refine ⟨List.mem_range.2 hi, ?_⟩
          have e1 : listed.getD i true = false := by
            rw [Array.getD_eq_getD_getElem?] at hb ⊢
            rw [Array.getElem?_eq_getElem (by omega)] at hb ⊢
            simpa using hb
          have h1 := List.all_eq_true.1 he i (List.mem_range.2 hi)
          rw [Array.getElem?_eq_getElem hi] at h1 ⊢
          simp only [e1, Bool.not_false, Bool.true_and, Option.map_some, Option.getD_some]
          simp only [] at h1
          rw [Array.all_eq_true_iff_forall_mem] at h1 ⊢
          intro e hem
          have h2 := h1 e hem
          simp only [Bool.or_eq_true, decide_eq_true_eq] at h2 ⊢
          rcases h2 with h2 | h2
          · exact .inl h2
          · exact .inr (ih e.on h2 (by omega))
        rw [hr] at hmem
        cases hmem
      · rfl
  intro fuel
  induction fuel with
  | zero =>
    intro listed a w hs hc hag hI hKd hV
    have hall : ∀ i, i < R.size → listed.getD i false = true := by
      intro i hi
      have hnil := List.eq_nil_of_length_eq_zero hc
      rw [List.filter_eq_nil_iff] at hnil
      have := hnil (listed[i]'(by omega)) (by simp)
      rw [Array.getD_eq_getD_getElem?, Array.getElem?_eq_getElem (by omega)]
      simpa using this
    refine ⟨?_, hend a w (hall k hkR ▸ hI) hag fun i hi => hV i hi (hall i hi)⟩
    unfold Region.ready
    rw [List.filter_eq_nil_iff]
    intro i hi
    have := hall i (List.mem_range.1 hi)
    have e1 : listed.getD i true = true := by
      have hi' := List.mem_range.1 hi
      rw [Array.getD_eq_getD_getElem?] at this ⊢
      rw [Array.getElem?_eq_getElem (by omega)] at this ⊢
      simpa using this
    simp [e1]
  | succ fuel ih =>
    intro listed a w hs hc hag hI hKd hV
    refine ⟨fun hr => hend a w (hready listed hs hr k hkR ▸ hI) hag fun i hi => hV i hi (hready listed hs hr i hi), fun i hi => ?_⟩
    have hi2 := hi
    unfold Region.ready at hi2
    rw [List.mem_filter] at hi2
    obtain ⟨hir, hcond⟩ := hi2
    have hir := List.mem_range.1 hir
    rw [Array.getElem?_eq_getElem hir] at hcond
    simp only [Bool.and_eq_true, Bool.not_eq_true', Option.map_some, Option.getD_some] at hcond
    obtain ⟨hun, hafter⟩ := hcond
    rw [Array.all_eq_true_iff_forall_mem] at hafter
    have hunF : listed.getD i false = false := by
      rw [Array.getD_eq_getD_getElem?] at hun ⊢
      rw [Array.getElem?_eq_getElem (by omega)] at hun ⊢
      simpa using hun
    refine hstep i R[i] (Array.getElem?_eq_getElem hir) a w (listed.getD k false) (fun hb => ⟨fun e => ?_, ?_⟩) hI hag (fun e hem hb => ?_) _ (fun v w' hI' hbel hVi => ?_)
    · rw [e, hb] at hunF
      cases hunF
    · cases hdir : direct R k i with
      | false => rfl
      | true => rw [hKd hb i hdir] at hunF; cases hunF
    · have h1 := hafter e hem
      simp only [hb, Bool.not_true, Bool.false_or] at h1
      have hlt : e.on < R.size := by
        rcases Nat.lt_or_ge e.on R.size with h' | h'
        · exact h'
        · rw [Array.getD_eq_getD_getElem?, Array.getElem?_eq_none (by omega)] at h1
          cases h1
      exact hV e.on hlt h1
    · have hil : i < listed.size := by omega
      have hunl : listed[i] = false := by
        rw [Array.getD_eq_getD_getElem?, Array.getElem?_eq_getElem hil] at hun
        simpa using hun
      have hsetk : ∀ j, (listed.setIfInBounds i true).getD j false = (listed.getD j false || j == i) := by
        intro j
        rw [Array.getD_eq_getD_getElem?, Array.getD_eq_getD_getElem?]
        by_cases hji : j = i
        · subst hji
          rw [Array.getElem?_setIfInBounds_self, if_pos hil]
          simp
        · rw [Array.getElem?_setIfInBounds_ne (Ne.symm hji)]
          simp [hji]
      refine ih _ _ _ (by simpa using hs) ?_ (hag.put (Array.getElem?_eq_getElem hir) v) (by rw [hsetk, BEq.comm (a := k)]; exact hI') (fun hk1 j hdj => ?_) (fun j hj hjl => ?_)
      · have hset : (listed.setIfInBounds i true).toList = listed.toList.set i true := by simp
        rw [hset]
        have hgen : ∀ (l : List Bool) (k : Nat) (hk : k < l.length), l[k] = false → ((l.set k true).filter (!·)).length + 1 = (l.filter (!·)).length := by
          intro l
          induction l with
          | nil => intro k hk; simp at hk
          | cons b l ihl =>
            intro k hk hlk
            cases k with
            | zero =>
              simp only [List.getElem_cons_zero] at hlk
              subst hlk
              simp
            | succ k =>
              have := ihl k (by simpa using hk) (by simpa using hlk)
              cases b <;> simp [List.set_cons_succ] <;> omega
        have := hgen listed.toList i (by simpa using hil) (by simpa using hunl)
        omega
      · rw [hsetk]
        rw [hsetk] at hk1
        simp only [Bool.or_eq_true, beq_iff_eq] at hk1 ⊢
        rcases hk1 with hk1 | hk1
        · exact .inl (hKd hk1 j hdj)
        · subst hk1
          unfold direct at hdj
          rw [Array.getElem?_eq_getElem hir] at hdj
          simp only [Array.any_eq_true', Bool.and_eq_true, beq_iff_eq] at hdj
          obtain ⟨e, hem, hb, hj⟩ := hdj
          have h1 := hafter e hem
          simp only [hb, Bool.not_true, Bool.false_or] at h1
          rw [hj] at h1
          exact .inl h1
      · by_cases hji : j = i
        · subst hji
          by_cases hdn : R[j].dst = none
          · rw [if_pos hdn] at hVi
            have e : slotOf R (a.put R[j].dst v) j = undef := by
              unfold slotOf dstOf
              rw [Array.getElem?_eq_getElem hir]
              simp [hdn]
            rw [e]; exact hVi
          · rw [if_neg hdn] at hVi
            rw [slot_put hd hag.size (Array.getElem?_eq_getElem hir) v j (.inl hdn), if_pos rfl]
            exact hVi
        · have hjl2 : listed.getD j false = true := by
            rw [Array.getD_eq_getD_getElem?] at hjl ⊢
            rwa [Array.getElem?_setIfInBounds_ne (Ne.symm hji)] at hjl
          rw [slot_put hd hag.size (Array.getElem?_eq_getElem hir) v j (.inr hji), if_neg hji]
          exact hstab j i _ w w' hji (hV j hj hjl2) hbel
theorem region_invK {id : Nat} {a0 : Act} {w : World} (k : Nat) (St : Nat → World → World → Prop) (hm : P.follows .mixedOrders = true) (I : Bool → World → Prop) (V : Nat → Value → World → Prop) (hd : okDsts R a0.tmps.size = true) (he : okEdges R = true) (hI : I false w.drew)
    (hstab : ∀ i j v w w', i ≠ j → V i v w → St j w w' → V i v w')
    (hstep : ∀ i o, R[i]? = some o → ∀ a w b, (b = true → i ≠ k ∧ direct R k i = false) → I b w → Agree R a0 a → (∀ e, e ∈ o.after → Region.binds .any e = true → V e.on (slotOf R a e.on) w) →
      ∀ K : Act → World → Prop, (∀ v w', I (b || i == k) w' → St i w w' → V i (if o.dst = none then undef else v) w' → K (a.put o.dst v) w') → wpOp P R Q i K a w)
    (hkR : k < R.size) (hend : ∀ a w, I true w → Agree R a0 a → (∀ i, i < R.size → V i (slotOf R a i) w) → Q .normal a w) : (Code.region id R true).wp P Q a0 w := by
  refine wp_region_any hm ?_
  have h0 : ∀ i, (Array.replicate R.size false).getD i false = false := by
    intro i
    rw [Array.getD_eq_getD_getElem?]
    by_cases hi : i < R.size
    · simp [hi]
    · simp [hi]
  refine inv_anyK k St I V a0 hd he hstab hstep hkR hend R.size _ a0 _ (by simp) (by simp) (Agree.refl _ _) (by rw [h0]; exact hI) (fun h => by rw [h0] at h; cases h) (fun i hi h => by rw [h0] at h; cases h)
end
def StepOfK (P : Program) (R : Array Oper) (Q : Exit → Act → World → Prop) (k : Nat) (St : Nat → World → World → Prop) (I : Bool → World → Prop) (V : Nat → Value → World → Prop) (a0 : Act) (i : Nat) (o : Oper) : Prop :=
  ∀ a w b, (b = true → i ≠ k ∧ direct R k i = false) → I b w → Agree R a0 a → (∀ e, e ∈ o.after → Region.binds .any e = true → V e.on (slotOf R a e.on) w) →
    ∀ K : Act → World → Prop, (∀ v w', I (b || i == k) w' → St i w w' → V i (if o.dst = none then undef else v) w' → K (a.put o.dst v) w') → Oper.wp P o a w K Q
theorem region_tabK {P : Program} {Q : Exit → Act → World → Prop} {id : Nat} {a0 : Act} {w : World} {l : List Oper} (k g : Nat) (hm : P.follows .mixedOrders = true) (I : Bool → World → Prop) (T : List (Value → World → Prop))
    (hd : okDsts l.toArray a0.tmps.size = true) (he : okEdges l.toArray = true) (hgd : l.all (fun o => o.guard == none) = true) (hkl : k < l.length) (hI : I false w.drew) (hstab : ∀ p ∈ T, Stable p) (hstabG : ∀ i, i ≠ k → StableG g (tabV T i)) (hsteps : AllSteps (StepOfK P l.toArray Q k (StK k g) I (tabV T) a0) 0 l)
    (hend : ∀ a w, I true w → Agree l.toArray a0 a → (∀ i, i < l.length → tabV T i (slotOf l.toArray a i) w) → Q .normal a w) : (Code.region id l.toArray true).wp P Q a0 w := by
  refine region_invK k (StK k g) hm I (tabV T) hd he hI (fun i j v w w' hij hv hst => ?_) (fun i o ho a w b hb hI hag hdep K hK => ?_) (by simpa using hkl) (fun a w hI hag h => hend a w hI hag (fun i hi => h i (by simpa using hi)))
  · unfold StK at hst
    split at hst
    · rename_i hjk
      exact hstabG i (by omega) v w w' hv hst
    · exact stable_tab hstab i v w w' hv hst
  · have h1 := hsteps.get (i := i) (o := o) (by simpa using ho)
    rw [Nat.zero_add] at h1
    have h2 := h1 a w b hb hI hag hdep K hK
    have hg : o.guard = none := by
      have := List.all_eq_true.1 hgd o (List.mem_of_getElem? (by simpa using ho))
      simpa using this
    unfold wpOp
    rw [ho]
    simp only
    rw [if_pos (by simp [Region.wanted, hg])]
    exact .inl h2
end Go.Proofs.Ytgakkghlphnoaaa
