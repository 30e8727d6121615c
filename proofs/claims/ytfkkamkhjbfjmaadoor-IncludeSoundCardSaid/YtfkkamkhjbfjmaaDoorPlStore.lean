/-
  The pure layer: how memory turns: new boxes, stores, appends, frozen rows. No condition.
-/
import Derived.Test.YtfkkamkhjbfjmaaDoorPlMem
namespace Go.Proofs.YtfkkamkhjbfjmaaDoor
set_option linter.unusedSimpArgs false
set_option linter.unusedVariables false
open Go.RowKit

theorem ownsRow_same {w w' : World} {base : Nat} {e : TypeId} {size n : Nat} {v : Value} {xs : List Value} (h : w.ownsRow base e size v n xs) (hs : ∀ g, blk v = some g → w'.heap[g]? = w.heap[g]?) : w'.ownsRow base e size v n xs := by
  refine ⟨h.1, ?_⟩
  rcases h.2 with h0 | ⟨g, cap, cur, rfl, h2, h3, h4⟩
  · exact .inl h0
  · exact .inr ⟨g, cap, cur, rfl, h2, (hs g rfl).trans h3, h4⟩
theorem BoxRep.ext {γ : Bx} {ρ ρ' : Nat → Value} {I I' : Nat → Prop} {w w' : World} {id : Nat} {b : Box} (h : BoxRep ρ I w id b) (hx : Ext γ ρ I w ρ' I' w') (hid : dom γ id) (hc : b.inB γ)
    (hs : b.live = true → ∀ g, blk (ρ id) = some g → w'.heap[g]? = w.heap[g]?) : BoxRep ρ' I' w' id b := by
  cases b with
  | var T cs =>
    obtain ⟨g, us, h1, h2, h3⟩ := h
    exact ⟨g, us, (hx.rho id hid).trans h1, (hs rfl g (by rw [h1]; rfl)).trans h2, RepAs.ext hx true cs _ hc h3⟩
  | row E sz es =>
    obtain ⟨xs, h1, h2⟩ := h
    refine ⟨xs, ?_, RepR.ext hx.toExtI sz es xs h2⟩
    rw [hx.rho id hid]
    exact ownsRow_same h1 (hs rfl)
  | frz sz es =>
    show RepD I' w' (.sl sz es) (ρ' id)
    rw [hx.rho id hid]
    exact RepD.ext hx.toExtI _ _ h
  | dead => trivial
theorem Mem.upd {C : Ctx} {γ : Bx} {ρ : Nat → Value} {I : Nat → Prop} {w : World} (hm : Mem C γ ρ I w) (ups : Bx) {ρ' : Nat → Value} {I' : Nat → Prop} {w' : World} (hx : Ext γ ρ I w ρ' I' w')
    (hos : w'.os = w.os) (hta : w'.tape = w.tape) (hou : w'.output = w.output) (hsz : w.heap.size ≤ w'.heap.size) (himm : ∀ g, I' g → g < w'.heap.size) (hnew : ∀ g, I' g → I g ∨ C.w0.heap.size ≤ g ∨ C.PB g)
    (touched : Nat → Prop) (hsame : ∀ k, k < w.heap.size → ¬ touched k → w'.heap[k]? = w.heap[k]?) (htouch : ∀ k, touched k → C.w0.heap.size ≤ k ∨ C.PB k)
    (hold : ∀ id b g, look id γ = some b → look id ups = none → b.live = true → blk (ρ id) = some g → ¬ touched g ∧ ¬ I' g)
    (hups : ∀ id b, look id ups = some b → BoxRep ρ' I' w' id b ∧ b.inB (ups ++ γ) ∧ (b.live = true → ∀ g, blk (ρ' id) = some g → g < w'.heap.size ∧ ¬ I' g ∧ (C.w0.heap.size ≤ g ∨ C.PB g) ∧
      (∀ id2 b2, look id2 γ = some b2 → look id2 ups = none → b2.live = true → blk (ρ id2) ≠ some g)))
    (hinj : ∀ i j b b' g, look i ups = some b → look j ups = some b' → b.live = true → b'.live = true → blk (ρ' i) = some g → blk (ρ' j) = some g → i = j) : Mem C (ups ++ γ) ρ' I' w' := by
  have hcase : ∀ id b, look id (ups ++ γ) = some b → look id ups = some b ∨ (look id ups = none ∧ look id γ = some b) := fun id b h => by
    rw [look_append] at h
    cases hu : look id ups with
    | none => rw [hu] at h; exact .inr ⟨rfl, h⟩
    | some b' => rw [hu] at h; exact .inl h
  have hdom : ∀ id b, look id γ = some b → dom γ id := fun id b h => by unfold dom; rw [h]; simp
  refine ⟨hos.trans hm.os, hta.trans hm.tape, hou.trans hm.output, Nat.le_trans hm.size hsz, fun k hk hp => ?_, himm, fun g hg => ?_, fun id b hb => ?_, fun id b g hb hl hg => ?_, fun i j b b' g hb hb' hl hl' hg hg' => ?_, fun id b hb => ?_, hm.gl.ext hx.toExtI⟩
  · rw [hsame k (Nat.lt_of_lt_of_le hk hm.size) (fun ht => ?_)]
    · exact hm.frame k hk hp
    · rcases htouch k ht with h | h
      · omega
      · exact hp h
  · rcases hnew g hg with h | h
    · exact hm.new g h
    · exact .inr h
  · rcases hcase id b hb with h | ⟨h0, h⟩
    · exact (hups id b h).1
    · refine BoxRep.ext (hm.box id b h) hx (hdom id b h) (hm.clo id b h) fun hl g hg => ?_
      exact hsame g (hm.own id b g h hl hg).1 (hold id b g h h0 hl hg).1
  · rcases hcase id b hb with h | ⟨h0, h⟩
    · obtain ⟨h1, h2, h3, _⟩ := (hups id b h).2.2 hl g hg
      exact ⟨h1, h2, h3⟩
    · rw [hx.rho id (hdom id b h)] at hg
      obtain ⟨h1, h2, h3⟩ := hm.own id b g h hl hg
      exact ⟨Nat.lt_of_lt_of_le h1 hsz, (hold id b g h h0 hl hg).2, h3⟩
  · rcases hcase i b hb with h | ⟨h0, h⟩ <;> rcases hcase j b' hb' with h' | ⟨h0', h'⟩
    · exact hinj i j b b' g h h' hl hl' hg hg'
    · rw [hx.rho j (hdom j b' h')] at hg'
      exact absurd hg' (((hups i b h).2.2 hl g hg).2.2.2 j b' h' h0' hl')
    · rw [hx.rho i (hdom i b h)] at hg
      exact absurd hg (((hups j b' h').2.2 hl' g hg').2.2.2 i b h h0 hl)
    · rw [hx.rho i (hdom i b h)] at hg
      rw [hx.rho j (hdom j b' h')] at hg'
      exact hm.inj i j b b' g h h' hl hl' hg hg'
  · rcases hcase id b hb with h | ⟨h0, h⟩
    · exact (hups id b h).2.1
    · exact Box.inB_mono (fun i hi => dom_append hi) b (hm.clo id b h)
def updF (ρ : Nat → Value) (id : Nat) (v : Value) (i : Nat) : Value := if i = id then v else ρ i
theorem upd_same (ρ : Nat → Value) (id : Nat) (v : Value) : updF ρ id v id = v := by simp [updF]
theorem upd_other (ρ : Nat → Value) (id : Nat) (v : Value) {i : Nat} (h : i ≠ id) : updF ρ id v i = ρ i := by simp [updF, h]
theorem upd_dom {γ : Bx} {fr : Nat} (hf : look fr γ = none) (ρ : Nat → Value) (v : Value) : ∀ id, dom γ id → updF ρ fr v id = ρ id := fun id hd => upd_other ρ fr v (fun h => hd (h ▸ hf))
theorem look_one {id i : Nat} {b b' : Box} (h : look i [(id, b)] = some b') : i = id ∧ b' = b := by
  rw [look_cons] at h
  split at h
  · rename_i hk; exact ⟨hk.symm, by injection h with h; exact h.symm⟩
  · cases h
theorem look_one_none {id i : Nat} {b : Box} (h : look i [(id, b)] = none) : i ≠ id := by
  rw [look_cons] at h
  split at h
  · cases h
  · rename_i hk; exact fun e => hk e.symm
/-- A new box. -/
theorem Mem.new_box {C : Ctx} {γ : Bx} {ρ : Nat → Value} {I : Nat → Prop} {w w' : World} (hm : Mem C γ ρ I w) {fr : Nat} (hf : look fr γ = none) {v : Value} {b : Box} (hg : w.grownBy w' none)
    (hv : ∀ g, blk v = some g → w.heap.size ≤ g ∧ g < w'.heap.size) (hr : Ext γ ρ I w (updF ρ fr v) I w' → BoxRep (updF ρ fr v) I w' fr b) (hb : b.inB ([(fr, b)] ++ γ)) :
    Mem C ([(fr, b)] ++ γ) (updF ρ fr v) I w' ∧ Ext γ ρ I w (updF ρ fr v) I w' := by
  have hx : Ext γ ρ I w (updF ρ fr v) I w' := ⟨⟨fun _ h => h, fun g h => hg.block g (hm.imm g h) (by simp)⟩, upd_dom hf ρ v⟩
  refine ⟨hm.upd _ hx hg.os hg.tape hg.output hg.size (fun g h => Nat.lt_of_lt_of_le (hm.imm g h) hg.size) (fun g h => .inl h) (fun _ => False) (fun k hk _ => hg.block k hk (by simp)) (fun k h => h.elim) (fun id b' g hl _ hlv hbk => ⟨fun h => h, (hm.own id b' g hl hlv hbk).2.1⟩)
    (fun id b' h => ?_) (fun i j b' b'' g hi hj _ _ _ _ => by rw [(look_one hi).1, (look_one hj).1]), hx⟩
  obtain ⟨rfl, rfl⟩ := look_one h
  refine ⟨hr hx, hb, fun hlv g hbk => ?_⟩
  rw [upd_same] at hbk
  obtain ⟨h1, h2⟩ := hv g hbk
  refine ⟨h2, fun hI => ?_, .inl (Nat.le_trans hm.size h1), fun id2 b2 hl2 _ hlv2 hbk2 => ?_⟩
  · have := hm.imm g hI; omega
  · have := (hm.own id2 b2 g hl2 hlv2 hbk2).1; omega
/-- A box turned in place. -/
theorem Mem.set_box {C : Ctx} {γ : Bx} {ρ : Nat → Value} {I : Nat → Prop} {w w' : World} (hm : Mem C γ ρ I w) {id : Nat} {b0 b : Box} (hl : look id γ = some b0) (hlv : b0.live = true) {g : Nat} (hbk : blk (ρ id) = some g) (hg : w.grownBy w' (some g))
    (hr : Ext γ ρ I w ρ I w' → BoxRep ρ I w' id b) (hb : b.inB ([(id, b)] ++ γ)) : Mem C ([(id, b)] ++ γ) ρ I w' ∧ Ext γ ρ I w ρ I w' := by
  obtain ⟨o1, o2, o3⟩ := hm.own id b0 g hl hlv hbk
  have hx : Ext γ ρ I w ρ I w' := ⟨⟨fun _ h => h, fun k h => hg.block k (hm.imm k h) (fun e => by injection e with e; subst e; exact o2 h)⟩, fun _ _ => rfl⟩
  refine ⟨hm.upd _ hx hg.os hg.tape hg.output hg.size (fun k h => Nat.lt_of_lt_of_le (hm.imm k h) hg.size) (fun k h => .inl h) (fun k => k = g) (fun k hk hn => hg.block k hk (fun e => by injection e with e; exact hn e)) (fun k h => by subst h; exact o3)
    (fun i b' k hi hn hlv' hbk' => ⟨fun e => ?_, (hm.own i b' k hi hlv' hbk').2.1⟩) (fun i b' h => ?_) (fun i j b' b'' k hi hj _ _ _ _ => by rw [(look_one hi).1, (look_one hj).1]), hx⟩
  · subst e
    exact look_one_none hn (hm.inj i id b' b0 k hi hl hlv' hlv hbk' hbk)
  · obtain ⟨rfl, rfl⟩ := look_one h
    refine ⟨hr hx, hb, fun _ k hk => ?_⟩
    rw [hbk] at hk
    injection hk with hk
    subst hk
    exact ⟨Nat.lt_of_lt_of_le o1 hg.size, o2, o3, fun id2 b2 hl2 hn2 hlv2 hbk2 => look_one_none hn2 (hm.inj id2 i b2 b0 g hl2 hl hlv2 hlv hbk2 hbk)⟩
/-- A row of the call's own is frozen. -/
theorem row_repD {C : Ctx} {γ : Bx} {ρ : Nat → Value} {I : Nat → Prop} {w : World} (hm : Mem C γ ρ I w) {id : Nat} {E : TypeId} {sz : Nat} {es : List (List D)} (hl : look id γ = some (.row E sz es)) (J : Nat → Prop) (hJ : ∀ g, I g → J g) (hJ2 : ∀ g, blk (ρ id) = some g → J g) :
    RepD J w (.sl sz es) (ρ id) := by
  obtain ⟨xs, h1, h2⟩ := hm.box id _ hl
  have h3 : RepR J w sz es xs := RepR.ext ⟨hJ, fun _ _ => rfl⟩ sz es xs h2
  rcases h1.2 with ⟨hv, hn⟩ | ⟨g, cap, cur, hv, _, hh, hnc, hcm, hcs, htk⟩
  · exact ⟨none, 0, xs, by rw [hv, hn], by omega, h3, fun h => by omega⟩
  · refine ⟨some ⟨g, 0, none⟩, cap, xs, hv, hnc, h3, fun _ => ⟨g, 0, rfl, hJ2 g (by rw [hv]; rfl), fun j u hu => ?_⟩⟩
    have := h1.cells (g := g) (by rw [hv]; rfl) j u hu
    rwa [Addr.add_mid] at this
theorem Mem.freeze {C : Ctx} {γ : Bx} {ρ : Nat → Value} {I : Nat → Prop} {w : World} (hm : Mem C γ ρ I w) {id : Nat} {E : TypeId} {sz : Nat} {es : List (List D)} (hl : look id γ = some (.row E sz es)) :
    ∃ I', Mem C ([(id, .frz sz es)] ++ γ) ρ I' w ∧ Ext γ ρ I w ρ I' w := by
  have hx : Ext γ ρ I w ρ (fun g => I g ∨ blk (ρ id) = some g) w := ⟨⟨fun _ h => .inl h, fun _ _ => rfl⟩, fun _ _ => rfl⟩
  refine ⟨_, hm.upd _ hx rfl rfl rfl (Nat.le_refl _) (fun g h => ?_) (fun g h => ?_) (fun _ => False) (fun k hk _ => rfl) (fun k h => h.elim) (fun i b' k hi hn hlv' hbk' => ⟨fun h => h, fun h => ?_⟩) (fun i b' h => ?_)
    (fun i j b' b'' k hi hj _ _ _ _ => by rw [(look_one hi).1, (look_one hj).1]), hx⟩
  · rcases h with h | h
    · exact hm.imm g h
    · exact (hm.own id _ g hl rfl h).1
  · rcases h with h | h
    · exact .inl h
    · exact .inr (hm.own id _ g hl rfl h).2.2
  · rcases h with h | h
    · exact (hm.own i b' k hi hlv' hbk').2.1 h
    · exact look_one_none hn (hm.inj i id b' _ k hi hl hlv' rfl hbk' h)
  · obtain ⟨rfl, rfl⟩ := look_one h
    exact ⟨row_repD hm hl _ (fun g h => .inl h) (fun g h => .inr h), trivial, fun h => by cases h⟩
end Go.Proofs.YtfkkamkhjbfjmaaDoor
