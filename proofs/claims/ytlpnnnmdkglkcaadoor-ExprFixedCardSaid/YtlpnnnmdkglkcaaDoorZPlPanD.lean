/-
  The pure layer: a region that draws its order, of which one operation panics, that waits for one other. No condition.
-/
import Derived.Test.YtlpnnnmdkglkcaaDoorZPlPan
set_option linter.unusedSimpArgs false
set_option linter.unusedVariables false
namespace Go.Proofs.YtlpnnnmdkglkcaaDoor
open Go.RowKit

def edgesBack (l : List Oper) : Bool := (List.range l.length).all fun i => match l[i]? with
  | some o => o.after.toList.all fun e => !(Region.binds .any e) || decide (e.on < i)
  | none => true
def waits (o : Oper) (ks : List Nat) : Bool := o.after.toList.any fun e => Region.binds .any e && ks.any (· == e.on)
theorem waits_get {o : Oper} {ks : List Nat} (h : waits o ks = true) : ∃ e ∈ o.after, Region.binds .any e = true ∧ e.on ∈ ks := by
  obtain ⟨e, he, h⟩ := List.any_eq_true.1 h
  rw [Bool.and_eq_true] at h
  obtain ⟨k, hk, h2⟩ := List.any_eq_true.1 h.2
  have h2 : k = e.on := by simpa using h2
  subst h2
  exact ⟨e, by simpa using he, h.1, hk⟩
def dropS (l : List Nat) (σ : Sl) : Sl := σ.filter fun p => !(l.any (· == p.1))
theorem qEy {l : List Nat} {t : Nat} {v : A} : ∀ {σ : Sl}, look t (dropS l σ) = some v → look t σ = some v
  | [], h => by cases h
  | (k, u) :: σ, h => by
    unfold dropS at h
    rw [List.filter_cons] at h
    rw [qAU]
    split at h
    · rw [qAU] at h
      split at h
      · rename_i hk; rw [if_pos hk]; exact h
      · rename_i hk; rw [if_neg hk]; exact qEy h
    · rename_i hkl
      split
      · rename_i hk
        subst hk
        exfalso
        have h0 : ∀ σ : Sl, look k (σ.filter fun p => !(l.any (· == p.1))) = none := fun σ => by
          refine qDv fun hm => ?_
          obtain ⟨p, hp, rfl⟩ := List.mem_map.1 hm
          exact hkl (List.mem_filter.1 hp).2
        rw [h0] at h
        cases h
      · exact qEy h
theorem At.dropS {C : Ctx} {σ : Sl} {β : Bx} {a : Act} {w : World} (h : At C ⟨σ, β⟩ a w) (l : List Nat) : At C ⟨dropS l σ, β⟩ a w := by
  obtain ⟨ρ, I, hm, hf⟩ := h
  exact ⟨ρ, I, hm, hf.defers, hf.size, hf.keep, fun t v ht => hf.val t v (qEy ht)⟩
section
variable {P : Program}
theorem aw_panD' {id k f tf : Nat} {l : List Oper} {ok of : Oper} {v : A} {rd rd' dep : List Nat} {Q : Exit → St → Prop} {σ : Sl} {β ups : Bx} {chain : List PanicEntry} (hmx : P.follows .mixedOrders = true) (he : edgesBack l = true)
    (hf : l[f]? = some of) (hft : of.dst = some tf) (hfs : qBS P l σ β of v [] rd) (hfk : f ≠ k) (hfd : f ∉ dep) (hk : l[k]? = some ok) (hkg : ok.guard = none) (hkw : waits ok [f] = true)
    (hp : Pans P ok.op ok.type (ev ((tf, v) :: σ)) β chain ups rd') (hq : Q (.panic chain) ⟨[], []⟩)
    (hfree : ∀ i o, l[i]? = some o → i = k ∨ i = f ∨ (waits o (k :: dep) = true) ∨ (i ≠ k ∧ i ≠ f ∧ i ∉ dep ∧ ∃ u rd, qBS P l σ β o u [] rd ∧ tf ∉ qEt l o ∧ ∀ t, o.dst = some t → t ≠ tf ∧ look t σ = none)) :
    AW P (.region id l.toArray true) Q ⟨σ, β⟩ := by
  refine .inr fun C a w hc ha => ?_
  have hd : qDt C.K C.N l = true := hc
  have hdN : ∀ i (o : Oper), l[i]? = some o → ∀ t, o.dst = some t → C.K t = false ∧ t < C.N := fun i o ho t ht => by
    have := List.all_eq_true.1 hd o (List.mem_of_getElem? ho)
    rw [ht] at this
    simpa using this
  refine wp_region_any hmx ?_
  refine any_inv (fun listed a' w' => lst listed k = false ∧ (∀ d ∈ dep, lst listed d = false) ∧ At C ⟨if lst listed f = true then (tf, v) :: σ else σ, β⟩ a' w') ?_ ?_ ?_ _ _ a _ (by simp) (by simp) ?_
  · intro i o ho e hem hb
    rw [List.getElem?_toArray] at ho
    have h1 := List.all_eq_true.1 he i (List.mem_range.2 (List.getElem?_eq_some_iff.1 ho).1)
    rw [ho] at h1
    have h2 := List.all_eq_true.1 h1 e (by simpa using hem)
    rw [hb] at h2
    simpa using h2
  · rintro listed j o a' w' hs ho hun haf ⟨hlk, hld, hat⟩ K' hK'
    rw [List.getElem?_toArray] at ho
    have hjl : j < listed.size := by rw [hs]; simpa using (List.getElem?_eq_some_iff.1 ho).1
    have hset : ∀ i, lst (listed.setIfInBounds j true) i = (lst listed i || i == j) := lst_set hjl
    rcases hfree j o ho with rfl | rfl | hw | ⟨hjk, hjf, hjd, u, rd2, hst, hin, hdst⟩
    · rw [hk] at ho
      injection ho with ho
      subst ho
      obtain ⟨e, hem, hb, hon⟩ := waits_get hkw
      have hon : e.on = f := by simpa using hon
      have hlf := haf e hem hb
      rw [hon] at hlf
      rw [if_pos hlf] at hat
      obtain ⟨ρ, I, hm, hfr⟩ := hat
      rw [if_pos (by simp [Region.wanted, hkg])]
      refine hp C β (fun _ _ => rfl) ρ I w' hm a' (fun x _ => hfr.ev hm x) _ rfl rfl K' (lift C Q) fun ρ' I' w2 m1 x1 => ⟨_, hq, ?_⟩
      exact ⟨ρ', I', m1.none, hfr.defers, hfr.size, hfr.keep, fun t v ht => by cases ht⟩
    · rw [hf] at ho
      injection ho with ho
      subst ho
      rw [hun] at hat
      simp only [Bool.false_eq_true, if_false] at hat
      obtain ⟨ρ, I, hm, hfr⟩ := hat
      refine qEB hfs (fun _ _ => rfl) (fun _ _ => rfl) hm hfr K' _ fun vv ρ' I' w2 h1 h2 h3 h4 => hK' _ _ ⟨?_, fun d hdd => ?_, ?_⟩
      · rw [hset, hlk]; simp [Ne.symm hfk]
      · rw [hset, hld d hdd]
        have : d ≠ j := fun h => hfd (h ▸ hdd)
        simp [this]
      · rw [hset]
        simp only [beq_self_eq_true, Bool.or_true, if_true]
        have h5 := hfr.put h2 (hdN _ _ hf) h3 h4
        rw [hft] at h5
        rw [hft]
        exact ⟨ρ', I', by simpa using h1, by simpa [putS] using h5⟩
    · exfalso
      obtain ⟨e, hem, hb, hon⟩ := waits_get hw
      have hle := haf e hem hb
      rcases List.mem_cons.1 hon with h | h
      · rw [h, hlk] at hle; cases hle
      · rw [hld _ h] at hle; cases hle
    · obtain ⟨ρ, I, hm, hfr⟩ := hat
      have hτ : ∀ t, t ≠ tf → look t (if lst listed f = true then (tf, v) :: σ else σ) = look t σ := fun t ht => by
        split
        · rw [qAU, if_neg (Ne.symm ht)]
        · rfl
      refine qEB hst (fun _ _ => rfl) (fun t ht => hτ t fun h => hin (h ▸ ht)) hm hfr K' _ fun vv ρ' I' w2 h1 h2 h3 h4 => hK' _ _ ⟨?_, fun d hdd => ?_, ?_⟩
      · rw [hset, hlk]; simp [Ne.symm hjk]
      · rw [hset, hld d hdd]
        have : d ≠ j := fun h => hjd (h ▸ hdd)
        simp [this]
      · rw [hset, show (f == j) = false by simp [Ne.symm hjf], Bool.or_false]
        have h5 := hfr.put h2 (hdN j o ho) h3 h4
        refine ⟨ρ', I', by simpa using h1, h5.defers, h5.size, h5.keep, fun t x hx => h5.val t x ?_⟩
        rw [qCz]
        by_cases hdt : o.dst = some t
        · exfalso
          obtain ⟨q1, q2⟩ := hdst t hdt
          rw [hτ t q1, q2] at hx
          cases hx
        · rw [if_neg hdt]; exact hx
  · rintro listed a' w' hs hall ⟨hlk, _⟩
    exfalso
    have hkl : k < l.length := (List.getElem?_eq_some_iff.1 hk).1
    rw [hall k (by simpa using hkl)] at hlk
    cases hlk
  · have e0 : ∀ i, lst (Array.replicate l.toArray.size false) i = false := fun i => by
      unfold lst
      rw [Array.getD_eq_getD_getElem?, Array.getElem?_replicate]
      split <;> rfl
    refine ⟨e0 k, fun d _ => e0 d, ?_⟩
    rw [e0 f]
    simp only [Bool.false_eq_true, if_false]
    obtain ⟨ρ, I, hm, hf'⟩ := ha
    refine ⟨ρ, I, hm.drewN _, hf'.defers, hf'.size, hf'.keep, fun t v ht => ?_⟩
    obtain ⟨k1, k2, k3⟩ := hf'.val t v ht
    exact ⟨k1, k2, RepA.ext (β := β) (ρ := ρ) (I := I) (w := w) (w' := { w with drawn := w.drawn + 1 }) ⟨⟨fun _ h => h, fun _ _ => rfl⟩, fun _ _ => rfl⟩ v _ k2 k3⟩
theorem aw_panD {id k f tf : Nat} {l : List Oper} {ok of : Oper} {v : A} {rd rd' dep : List Nat} (drop : List Nat) {Q : Exit → St → Prop} {σ : Sl} {β ups : Bx} {chain : List PanicEntry} (hmx : P.follows .mixedOrders = true) (he : edgesBack l = true)
    (hf : l[f]? = some of) (hft : of.dst = some tf) (hfs : qBS P l (dropS drop σ) β of v [] rd) (hfk : f ≠ k) (hfd : f ∉ dep) (hk : l[k]? = some ok) (hkg : ok.guard = none) (hkw : waits ok [f] = true)
    (hp : Pans P ok.op ok.type (ev ((tf, v) :: dropS drop σ)) β chain ups rd') (hq : Q (.panic chain) ⟨[], []⟩)
    (hfree : ∀ i o, l[i]? = some o → i = k ∨ i = f ∨ (waits o (k :: dep) = true) ∨ (i ≠ k ∧ i ≠ f ∧ i ∉ dep ∧ ∃ u rd, qBS P l (dropS drop σ) β o u [] rd ∧ tf ∉ qEt l o ∧ ∀ t, o.dst = some t → t ≠ tf ∧ look t (dropS drop σ) = none)) :
    AW P (.region id l.toArray true) Q ⟨σ, β⟩ := by
  rcases aw_panD' (id := id) (Q := Q) hmx he hf hft hfs hfk hfd hk hkg hkw hp hq hfree with h | h
  · exact .inr fun C a w hc ha => qBy hmx _ _ _ a w hc (.inl h) (ha.dropS drop)
  · exact .inr fun C a w hc ha => h C a w hc (ha.dropS drop)
theorem panFree {l : List Oper} {σ : Sl} {β : Bx} {t : Nat} {op : Op} {ty : TypeId} {pos : String} {af : Array Edge} {i k f tf : Nat} {dep : List Nat} {u : A} {rd : List Nat} (hs : Does P (some t) op ty (ev σ) β u [] rd) (h1 : i ≠ k) (h2 : i ≠ f) (h3 : i ∉ dep) (h4 : tf ∉ qEt l ⟨some t, op, ty, pos, af, none⟩) (h5 : t ≠ tf) (h6 : look t σ = none) :
    i = k ∨ i = f ∨ (waits ⟨some t, op, ty, pos, af, none⟩ (k :: dep) = true) ∨ (i ≠ k ∧ i ≠ f ∧ i ∉ dep ∧ ∃ u rd, qBS P l σ β ⟨some t, op, ty, pos, af, none⟩ u [] rd ∧ tf ∉ qEt l ⟨some t, op, ty, pos, af, none⟩ ∧ ∀ t', (some t : Option Nat) = some t' → t' ≠ tf ∧ look t' σ = none) :=
  .inr (.inr (.inr ⟨h1, h2, h3, u, rd, hs, h4, fun t' ht => by injection ht with ht; subst ht; exact ⟨h5, h6⟩⟩))
end
end Go.Proofs.YtlpnnnmdkglkcaaDoor

