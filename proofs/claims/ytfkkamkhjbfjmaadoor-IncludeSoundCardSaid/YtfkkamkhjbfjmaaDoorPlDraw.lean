/-
  The pure layer: a region that draws its order does what it does in the order of its text, if its operations that are not held in order stay out of one another's way. No condition on the program.
-/
import Derived.Test.YtfkkamkhjbfjmaaDoorPlRun
namespace Go.Proofs.YtfkkamkhjbfjmaaDoor
set_option linter.unusedSimpArgs false
set_option linter.unusedVariables false
open Go.RowKit

def lst (listed : Array Bool) (i : Nat) : Bool := listed.getD i false
theorem lst_set {listed : Array Bool} {i : Nat} (hi : i < listed.size) (k : Nat) : lst (listed.setIfInBounds i true) k = (lst listed k || k == i) := by
  unfold lst
  rw [Array.getD_eq_getD_getElem?, Array.getD_eq_getD_getElem?]
  by_cases h : k = i
  · subst h; simp [hi]
  · rw [Array.getElem?_setIfInBounds_ne (Ne.symm h)]; simp [h]
theorem mem_ready {R : Array Oper} {listed : Array Bool} (hs : listed.size = R.size) {i : Nat} (h : i ∈ Region.ready .any R listed) :
    ∃ o, R[i]? = some o ∧ lst listed i = false ∧ ∀ e ∈ o.after, Region.binds .any e = true → lst listed e.on = true := by
  unfold Region.ready at h
  rw [List.mem_filter] at h
  obtain ⟨hir, hcond⟩ := h
  have hir := List.mem_range.1 hir
  rw [Array.getElem?_eq_getElem hir] at hcond
  simp only [Bool.and_eq_true, Bool.not_eq_true', Option.map_some, Option.getD_some] at hcond
  obtain ⟨hun, hafter⟩ := hcond
  rw [Array.all_eq_true_iff_forall_mem] at hafter
  refine ⟨R[i], Array.getElem?_eq_getElem hir, ?_, fun e hem hb => ?_⟩
  · unfold lst
    rw [Array.getD_eq_getD_getElem?] at hun ⊢
    rw [Array.getElem?_eq_getElem (by omega)] at hun ⊢
    exact hun
  · have h1 := hafter e hem
    simp only [hb, Bool.not_true, Bool.false_or] at h1
    exact h1
theorem ready_all {R : Array Oper} {listed : Array Bool} (hs : listed.size = R.size) (he : ∀ i o, R[i]? = some o → ∀ e ∈ o.after, Region.binds .any e = true → e.on < i) (hr : Region.ready .any R listed = []) : ∀ i, i < R.size → lst listed i = true := by
  intro i
  induction i using Nat.strongRecOn with
  | _ i ih =>
    intro hi
    rcases hb : lst listed i with _ | _
    · exfalso
      have hmem : i ∈ Region.ready .any R listed := by
        unfold Region.ready
        rw [List.mem_filter]
        refine ⟨List.mem_range.2 hi, ?_⟩
        have e1 : listed.getD i true = false := by
          unfold lst at hb
          rw [Array.getD_eq_getD_getElem?] at hb ⊢
          rw [Array.getElem?_eq_getElem (by omega)] at hb ⊢
          simpa using hb
        rw [Array.getElem?_eq_getElem hi]
        simp only [e1, Bool.not_false, Bool.true_and, Option.map_some, Option.getD_some]
        rw [Array.all_eq_true_iff_forall_mem]
        intro e hem
        rcases hbd : Region.binds .any e with _ | _
        · rfl
        · have h2 := he i _ (Array.getElem?_eq_getElem hi) e hem hbd
          simp only [Bool.not_true, Bool.false_or]
          exact ih e.on h2 (by omega)
      rw [hr] at hmem
      cases hmem
    · rfl
theorem any_inv {P : Program} {R : Array Oper} {Q : Exit → Act → World → Prop} (J : Array Bool → Act → World → Prop) (he : ∀ i o, R[i]? = some o → ∀ e ∈ o.after, Region.binds .any e = true → e.on < i)
    (hstep : ∀ listed i o a w, listed.size = R.size → R[i]? = some o → lst listed i = false → (∀ e ∈ o.after, Region.binds .any e = true → lst listed e.on = true) → J listed a w →
      ∀ K : Act → World → Prop, (∀ a' w', J (listed.setIfInBounds i true) a' w' → K a' w') → if Region.wanted o (yielded R a.tmps) = true then Oper.wp P o a w K Q else K (a.put o.dst undef) w)
    (hend : ∀ listed a w, listed.size = R.size → (∀ i, i < R.size → lst listed i = true) → J listed a w → Q .normal a w) :
    ∀ (fuel : Nat) (listed : Array Bool) (a : Act) (w : World), listed.size = R.size → (listed.toList.filter (!·)).length = fuel → J listed a w → wpAny P .any R Q fuel listed a w := by
  intro fuel
  induction fuel with
  | zero =>
    intro listed a w hs hc hJ
    have hall : ∀ i, i < R.size → lst listed i = true := by
      intro i hi
      have hnil := List.eq_nil_of_length_eq_zero hc
      rw [List.filter_eq_nil_iff] at hnil
      have := hnil (listed[i]'(by omega)) (by simp)
      unfold lst
      rw [Array.getD_eq_getD_getElem?, Array.getElem?_eq_getElem (by omega)]
      simpa using this
    refine ⟨?_, hend listed a w hs hall hJ⟩
    rw [List.eq_nil_iff_forall_not_mem]
    intro i hi
    obtain ⟨o, ho, hun, _⟩ := mem_ready hs hi
    have hlt : i < R.size := by
      rcases Nat.lt_or_ge i R.size with h | h
      · exact h
      · rw [Array.getElem?_eq_none h] at ho; cases ho
    rw [hall i hlt] at hun
    cases hun
  | succ fuel ih =>
    intro listed a w hs hc hJ
    refine ⟨fun hr => hend listed a w hs (ready_all hs he hr) hJ, fun i hi => ?_⟩
    obtain ⟨o, ho, hun, hafter⟩ := mem_ready hs hi
    have hlt : i < R.size := by
      rcases Nat.lt_or_ge i R.size with h | h
      · exact h
      · rw [Array.getElem?_eq_none h] at ho; cases ho
    have h1 := hstep listed i o a w hs ho hun hafter hJ (wpAny P .any R Q fuel (listed.setIfInBounds i true)) (fun a' w' hJ' => ?_)
    · unfold wpOp
      rw [ho]
      simp only
      split
      · rename_i hw; rw [if_pos hw] at h1; exact .inl h1
      · rename_i hw; rw [if_neg hw] at h1; exact h1
    · refine ih _ _ _ (by simpa using hs) ?_ hJ'
      have hil : i < listed.size := by omega
      have hunl : listed[i] = false := by
        unfold lst at hun
        rw [Array.getD_eq_getD_getElem?, Array.getElem?_eq_getElem hil] at hun
        simpa using hun
      have hset : (listed.setIfInBounds i true).toList = listed.toList.set i true := by simp
      rw [hset]
      have hgen : ∀ (l : List Bool) (k : Nat) (hk : k < l.length), l[k] = false → ((l.set k true).filter (!·)).length + 1 = (l.filter (!·)).length := by
        intro l
        induction l with
        | nil => intro k hk; simp at hk
        | cons b l ihl =>
          intro k hk hlk
          cases k with
          | zero =>
            simp only [List.getElem_cons_zero] at hlk
            subst hlk
            simp
          | succ k =>
            have := ihl k (by simpa using hk) (by simpa using hlk)
            cases b <;> simp [List.set_cons_succ] <;> omega
      have := hgen listed.toList i (by simpa using hil) (by simpa using hunl)
      omega

theorem okOrder_spec {rs : List Rec} (h : okOrder rs = true) {j : Nat} {b : Rec} (hb : rs[j]? = some b) :
    (∀ i ∈ b.after, i < j) ∧ ∃ aj, (ancs rs [])[j]? = some aj ∧ ∀ i a, i < j → rs[i]? = some a → i ∈ aj ∨ apart a b = true := by
  have hlt : j < rs.length := (List.getElem?_eq_some_iff.1 hb).1
  have h1 := List.all_eq_true.1 h j (List.mem_range.2 hlt)
  rw [hb] at h1
  cases ha : (ancs rs [])[j]? with
  | none => rw [ha] at h1; simp at h1
  | some aj =>
    rw [ha] at h1
    simp only [Bool.and_eq_true] at h1
    refine ⟨fun i hi => by simpa using List.all_eq_true.1 h1.1 i hi, aj, rfl, fun i a hij hia => ?_⟩
    have h2 := List.all_eq_true.1 h1.2 i (List.mem_range.2 hij)
    rw [hia] at h2
    simp only [Bool.or_eq_true] at h2
    rcases h2 with h2 | h2
    · obtain ⟨k, hk, he⟩ := List.any_eq_true.1 h2
      have := beq_iff_eq.1 he
      subst this
      exact .inl hk
    · exact .inr h2
theorem apart_spec {a b : Rec} (h : apart a b = true) : (∀ t, a.dst = some t → t ∉ b.ins) ∧ (∀ t, b.dst = some t → t ∉ a.ins) ∧ (∀ t, a.dst = some t → b.dst ≠ some t) ∧ (∀ x ∈ a.wr, x ∉ b.rd) ∧ (∀ x ∈ a.wr, x ∉ b.wr) ∧ (∀ x ∈ a.rd, x ∉ b.wr) := by
  have hm : ∀ l m, (!meets l m) = true → ∀ x ∈ l, x ∉ m := fun l m h x hx hy => by
    rw [meets_iff.2 ⟨x, hx, hy⟩] at h
    cases h
  unfold apart at h
  simp only [Bool.and_eq_true] at h
  obtain ⟨⟨⟨⟨⟨h1, h2⟩, h3⟩, h4⟩, h5⟩, h6⟩ := h
  refine ⟨fun t ht => hm _ _ h1 t (by simp [ht]), fun t ht => hm _ _ h2 t (by simp [ht]), fun t ht hb => hm _ _ h3 t (by simp [ht]) (by simp [hb]), hm _ _ h4, hm _ _ h5, hm _ _ h6⟩

theorem runD_sound {P : Program} (hmx : P.follows .mixedOrders = true) {all : List Oper} {C : Ctx} {Q : Exit → Act → World → Prop} {K : Sl → Bx → Prop} (hQ : ∀ σ β ρ I w a, K σ β → Mem C β ρ I w → Fr C σ β ρ I w a → Q .normal a w)
    {id : Nat} {σ : Sl} {β : Bx} {ρ : Nat → Value} {I : Nat → Prop} {w : World} {a : Act} (hd : dstsOk C.K C.N all = true) (h : runD P all all σ β [] K) (hm : Mem C β ρ I w) (hf : Fr C σ β ρ I w a) : (Code.region id all.toArray true).wp P Q a w := by
  obtain ⟨its, hits, htr, hord, hK⟩ := runD_items all σ β [] 0 h
  simp only [List.reverse_nil, List.nil_append] at hord
  have hget : ∀ i o, all.toArray[i]? = some o → ∃ it : Item, its[i]? = some it ∧ it.o = o := fun i o ho => by
    rw [List.getElem?_toArray, ← hits, List.getElem?_map] at ho
    cases hi : its[i]? with
    | none => rw [hi] at ho; simp at ho
    | some it => rw [hi] at ho; simp only [Option.map_some, Option.some.injEq] at ho; exact ⟨it, hi, ho⟩
  have hnote : ∀ i it, its[i]? = some it → (its.map (Item.note all))[i]? = some (Item.note all it) := fun i it hi => by rw [List.getElem?_map, hi]; rfl
  have hlen : its.length = all.toArray.size := by rw [← hits]; simp
  have hafter : ∀ (it : Item) (e : Edge), e ∈ it.o.after → Region.binds .any e = true → e.on ∈ (Item.note all it).after := fun it e he hb => by
    unfold Item.note mkRec
    simp only [List.mem_map, List.mem_filter]
    exact ⟨e, ⟨by simpa using he, hb⟩, rfl⟩
  have hafter2 : ∀ (it : Item) k, k ∈ (Item.note all it).after → ∃ e ∈ it.o.after, Region.binds .any e = true ∧ e.on = k := fun it k hk => by
    unfold Item.note mkRec at hk
    simp only [List.mem_map, List.mem_filter] at hk
    obtain ⟨e, ⟨he, hb⟩, rfl⟩ := hk
    exact ⟨e, by simpa using he, hb, rfl⟩
  refine wp_region_any hmx ?_
  refine any_inv (fun listed a' w' => (∀ i it, its[i]? = some it → lst listed i = true → ∀ k ∈ (Item.note all it).after, lst listed k = true) ∧
      ∃ ρ' I', Mem C (stateOf (lst listed) its 0 σ β).2 ρ' I' w' ∧ Fr C (stateOf (lst listed) its 0 σ β).1 (stateOf (lst listed) its 0 σ β).2 ρ' I' w' a') ?_ ?_ ?_ _ _ a _ (by simp) (by simp) ?_
  · intro i o ho e he hb
    obtain ⟨it, hi, rfl⟩ := hget i o ho
    exact (okOrder_spec hord (hnote i it hi)).1 _ (hafter it e he hb)
  · rintro listed j o a' w' hs ho hun haf ⟨hclo, ρ', I', hm', hf'⟩ K' hK'
    obtain ⟨it, hit, rfl⟩ := hget j o ho
    have hjl : j < listed.size := by rw [hs, ← hlen]; exact (List.getElem?_eq_some_iff.1 hit).1
    have hset : lst (listed.setIfInBounds j true) = fun i => lst listed i || i == j := funext fun k => lst_set hjl k
    -- what has run is closed, with j and without
    have hclo2 : ∀ i it', its[i]? = some it' → (lst listed i || i == j) = true → ∀ k ∈ (Item.note all it').after, (lst listed k || k == j) = true := by
      intro i it' hi hS k hk
      simp only [Bool.or_eq_true, beq_iff_eq] at hS ⊢
      rcases hS with hS | rfl
      · exact .inl (hclo i it' hi hS k hk)
      · rw [hit] at hi
        injection hi with hi
        subst hi
        obtain ⟨e, he, hb, rfl⟩ := hafter2 it k hk
        exact .inl (haf e he hb)
    obtain ⟨hlt, aj, haj, hpair⟩ := okOrder_spec hord (hnote j it hit)
    have hanc : ∀ x ∈ aj, (lst listed x || x == j) = true := fun x hx => by
      refine ancs_closed (fun i => (lst listed i || i == j) = true) (its.map (Item.note all)) [] (fun k l hk => by simp at hk) (fun m (r : Rec) hm hS x hx => ?_) j aj haj (by simp) x hx
      rw [List.getElem?_map] at hm
      cases hi : its[m]? with
      | none => rw [hi] at hm; simp at hm
      | some it' =>
        rw [hi] at hm
        simp only [Option.map_some, Option.some.injEq] at hm
        subst hm
        exact hclo2 m it' hi (by simpa using hS) x hx
    have hbefore : ∀ i it', i < j → its[i]? = some it' → lst listed i = false → apart (Item.note all it') (Item.note all it) = true := fun i it' hij hi hno => by
      rcases hpair i _ hij (hnote i it' hi) with h1 | h1
      · have := hanc i h1
        rw [hno] at this
        simp only [Bool.false_or, beq_iff_eq] at this
        omega
      · exact h1
    have hbehind : ∀ i it', j < i → its[i]? = some it' → lst listed i = true → apart (Item.note all it) (Item.note all it') = true := fun i it' hij hi hyes => by
      obtain ⟨_, ai, hai, hp⟩ := okOrder_spec hord (hnote i it' hi)
      rcases hp j _ hij (hnote j it hit) with h1 | h1
      · exfalso
        have := ancs_closed (fun i => lst listed i = true) (its.map (Item.note all)) [] (fun k l hk => by simp at hk) (fun m r hm hS x hx => by
          rw [List.getElem?_map] at hm
          cases hi : its[m]? with
          | none => rw [hi] at hm; simp at hm
          | some it' =>
            rw [hi] at hm
            simp only [Option.map_some, Option.some.injEq] at hm
            subst hm
            exact hclo m it' hi (by simpa using hS) x hx) i ai hai hyes j h1
        rw [hun] at this
        cases this
      · exact h1
    have hstep := tr_get its 0 σ β htr j it hit
    rw [Nat.zero_add] at hstep
    have hslot : ∀ t ∈ insOf all it.o, look t (stateOf (lst listed) its 0 σ β).1 = look t (stateOf (fun i => decide (i < j)) its 0 σ β).1 := fun t ht => by
      refine state_slot t _ _ its 0 σ σ β β (fun i it' hi hdst => ?_) rfl
      rw [Nat.zero_add]
      rcases Nat.lt_trichotomy i j with hij | rfl | hij
      · rw [decide_eq_true hij]
        rcases hb : lst listed i with _ | _
        · exact absurd ht ((apart_spec (hbefore i it' hij hi hb)).1 t hdst)
        · rfl
      · rw [hun]; simp
      · rw [decide_eq_false (by omega)]
        rcases hb : lst listed i with _ | _
        · rfl
        · exact absurd ht ((apart_spec (hbehind i it' hij hi hb)).2.1 t hdst)
    have hbox : Agreeing (stateOf (fun i => decide (i < j)) its 0 σ β).2 (stateOf (lst listed) its 0 σ β).2 (it.rd ++ it.ups.map (·.1)) := fun x hx => by
      refine state_box x _ _ its 0 σ σ β β (fun i it' hi hw => ?_) rfl
      rw [Nat.zero_add]
      rcases Nat.lt_trichotomy i j with hij | rfl | hij
      · rw [decide_eq_true hij]
        rcases hb : lst listed i with _ | _
        · have := apart_spec (hbefore i it' hij hi hb)
          rcases List.mem_append.1 hx with hx | hx
          · exact absurd hx (this.2.2.2.1 x hw)
          · exact absurd hx (this.2.2.2.2.1 x hw)
        · rfl
      · rw [hun]; simp
      · rw [decide_eq_false (by omega)]
        rcases hb : lst listed i with _ | _
        · rfl
        · have := apart_spec (hbehind i it' hij hi hb)
          rcases List.mem_append.1 hx with hx | hx
          · exact absurd hw (this.2.2.2.2.2 x hx)
          · exact absurd hw (this.2.2.2.2.1 x hx)
    refine step_ok hstep hbox hslot hm' hf' K' Q fun vv ρ2 I2 w2 h1 h2 h3 h4 => hK' _ _ ?_
    have hdN : ∀ t, it.o.dst = some t → C.K t = false ∧ t < C.N := fun t ht => by
      have hmem : it.o ∈ all := by rw [← hits]; exact List.mem_map.2 ⟨it, List.mem_of_getElem? hit, rfl⟩
      have := List.all_eq_true.1 hd it.o hmem
      rw [ht] at this
      simpa using this
    have hfr := hf'.put h2 hdN h3 h4
    have eσ : ∀ t, look t (stateOf (fun i => lst listed i || i == j) its 0 σ β).1 = look t (putS it.o.dst it.v (stateOf (lst listed) its 0 σ β).1) := fun t =>
      state_add_slot (lst listed) j t it hun its 0 σ β j hit (by omega) fun i it' hij hi hd1 hd2 => by
        rw [Nat.zero_add]
        rcases hb : lst listed i with _ | _
        · rfl
        · exact absurd hd1 ((apart_spec (hbehind i it' hij hi hb)).2.2.1 t hd2)
    have eβ : ∀ x, look x (stateOf (fun i => lst listed i || i == j) its 0 σ β).2 = look x (it.ups ++ (stateOf (lst listed) its 0 σ β).2) := fun x =>
      state_add_box (lst listed) j x it hun its 0 σ β j hit (by omega) fun i it' hij hi hd1 hd2 => by
        rw [Nat.zero_add]
        rcases hb : lst listed i with _ | _
        · rfl
        · exact absurd hd1 ((apart_spec (hbehind i it' hij hi hb)).2.2.2.2.1 x hd2)
    show (∀ i it', its[i]? = some it' → lst (listed.setIfInBounds j true) i = true → ∀ k ∈ (Item.note all it').after, lst (listed.setIfInBounds j true) k = true) ∧ _
    rw [hset]
    refine ⟨hclo2, ρ2, I2, h1.congr eβ, hfr.defers, hfr.size, hfr.keep, fun t v ht => ?_⟩
    rw [eσ t] at ht
    obtain ⟨k1, k2, k3⟩ := hfr.val t v ht
    exact ⟨k1, A.inB_mono (fun i hi => by unfold dom at *; rw [eβ i]; exact hi) v k2, k3⟩
  · rintro listed a' w' hs hall ⟨_, ρ', I', hm', hf'⟩
    have e : stateOf (lst listed) its 0 σ β = stateOf (fun _ => true) its 0 σ β := stateOf_congr its 0 σ β fun i hi => by
      rw [Nat.zero_add]
      exact hall i (by omega)
    rw [e] at hm' hf'
    exact hQ _ _ ρ' I' w' a' hK hm' hf'
  · have e : stateOf (lst (Array.replicate all.toArray.size false)) its 0 σ β = (σ, β) := stateOf_none _ _ _ _ _ fun i _ => by
      unfold lst
      rw [Array.getD_eq_getD_getElem?, Array.getElem?_replicate]
      split <;> rfl
    rw [e]
    refine ⟨fun i it _ h => ?_, ρ, I, hm.drewN _, hf.defers, hf.size, hf.keep, fun t v ht => ?_⟩
    · exfalso
      unfold lst at h
      rw [Array.getD_eq_getD_getElem?, Array.getElem?_replicate] at h
      split at h <;> simp at h
    · obtain ⟨k1, k2, k3⟩ := hf.val t v ht
      exact ⟨k1, k2, RepA.ext (β := β) (ρ := ρ) (I := I) (w := w) (w' := { w with drawn := w.drawn + 1 }) ⟨⟨fun _ h => h, fun _ _ => rfl⟩, fun _ _ => rfl⟩ v _ k2 k3⟩
end Go.Proofs.YtfkkamkhjbfjmaaDoor
