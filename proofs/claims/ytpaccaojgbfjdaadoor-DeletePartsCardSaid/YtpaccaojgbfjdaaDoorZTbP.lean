/-
  Tables into which rows are put. No program in sight.
-/
import Derived.Test.YtpaccaojgbfjdaaDoorZTb5
import Derived.Test.YtpaccaojgbfjdaaDoorZTbR
set_option linter.unusedSimpArgs false
set_option linter.unusedVariables false
namespace Go.Proofs.YtpaccaojgbfjdaaDoor

theorem twiceB_not {d : List Ce} {r : List Vl} (h : ¬ qDL d r = true) {c : Ce} (hc : c ∈ d) (hf : c.full = true) : keyN c.row ≠ keyN r := by
  intro e
  apply h
  unfold qDL
  rw [List.any_eq_true]
  exact ⟨c, hc, by rw [hf, e]; simp⟩
theorem DrOk.put {cols : List Cl} {d : List Ce} {n : Nat} {r : List Vl} (h : DrOk cols d) (hr : FitR r cols) (hn : ¬ qDL d r = true) : DrOk cols (d.set n ⟨true, r⟩) := by
  refine ⟨by rw [List.length_set, h.len], fun c hc => ?_, ?_⟩
  · rcases List.mem_or_eq_of_mem_set hc with hc | rfl
    · exact h.ok c hc
    · exact ⟨fun _ => hr, fun h => (by cases h)⟩
  · rw [List.pairwise_iff_getElem]
    intro i j hi hj hij
    rw [List.length_set] at hi hj
    rw [List.getElem_set, List.getElem_set]
    have hp := List.pairwise_iff_getElem.1 h.keys i j hi hj hij
    split
    · split
      · omega
      · intro _ hf e
        exact twiceB_not hn (List.getElem_mem hj) hf e.symm
    · split
      · intro hf _ e
        exact twiceB_not hn (List.getElem_mem hi) hf e
      · exact hp
theorem TbOk.put {t : Tb} {i n : Nat} {r : List Vl} (h : TbOk t) (hr : FitR r t.cols) (hi : i < 2) (hn : ¬ qDL (drF t.a t.b i) r = true) : TbOk (t.put i n r) := by
  rcases (by omega : i = 0 ∨ i = 1) with rfl | rfl
  · exact ⟨h.name, h.cols, h.key, h.a.put hr hn, h.b⟩
  · exact ⟨h.name, h.cols, h.key, h.a, h.b.put hr hn⟩
theorem Tb.put_cols (t : Tb) (i n : Nat) (r : List Vl) : (t.put i n r).cols = t.cols := by unfold Tb.put; split <;> rfl
def qDl (t : Tb) (K : Int) : Prop := ∀ c, c ∈ t.a ∨ c ∈ t.b → c.full = true → keyN c.row < K
theorem qDl.mono {t : Tb} {K L : Int} (h : qDl t K) (hl : K ≤ L) : qDl t L := fun c hc hf => by have := h c hc hf; omega
theorem qDl.not {t : Tb} {K : Int} (h : qDl t K) {r : List Vl} (hr : K ≤ keyN r) (i : Nat) : ¬ qDL (drF t.a t.b i) r = true := by
  intro ht
  unfold qDL at ht
  rw [List.any_eq_true] at ht
  obtain ⟨c, hc, hp⟩ := ht
  simp only [Bool.and_eq_true, decide_eq_true_eq] at hp
  have := h c (by unfold drF at hc; split at hc; exact .inl hc; exact .inr hc) hp.1
  omega
theorem qDl.put {t : Tb} {K : Int} (h : qDl t K) {r : List Vl} (hr : keyN r < K) (i n : Nat) : qDl (t.put i n r) K := by
  intro c hc hf
  unfold Tb.put at hc
  split at hc
  · rcases hc with hc | hc
    · rcases List.mem_or_eq_of_mem_set hc with hc | rfl
      · exact h c (.inl hc) hf
      · exact hr
    · exact h c (.inr hc) hf
  · rcases hc with hc | hc
    · exact h c (.inl hc) hf
    · rcases List.mem_or_eq_of_mem_set hc with hc | rfl
      · exact h c (.inr hc) hf
      · exact hr
def tbN (n : ByteArray) (cols : List Cl) : Tb := ⟨n, cols, [⟨false, []⟩, ⟨false, []⟩, ⟨false, []⟩, ⟨false, []⟩], [⟨false, []⟩, ⟨false, []⟩, ⟨false, []⟩, ⟨false, []⟩]⟩
theorem tbN_ok {n : ByteArray} {cols : List Cl} (hn : qDj n) (hc : ColsOk cols) (hk : ∃ n l, cols = ⟨n, 2, false⟩ :: l) : TbOk (tbN n cols) := by
  have hd : DrOk cols [⟨false, []⟩, ⟨false, []⟩, ⟨false, []⟩, ⟨false, []⟩] := by
    refine ⟨rfl, fun c hc => ?_, ?_⟩
    · have : c = ⟨false, []⟩ := by simpa using hc
      subst this
      exact ⟨fun h => (by cases h), fun _ => rfl⟩
    · simp
  exact ⟨hn, hc, hk, hd, hd⟩
theorem tbN_keys (n : ByteArray) (cols : List Cl) (K : Int) : qDl (tbN n cols) K := by
  intro c hc hf
  have : c = ⟨false, []⟩ := by
    unfold tbN at hc
    simpa using hc
  subst this
  cases hf
abbrev tbNl (n : ByteArray) (cols : List Cl) : List D := [bD true, strD n, qAY cols, bD false, .nl, bD false, .nl, bD false, .nl, bD false, .nl, bD false, .nl, bD false, .nl, bD false, .nl, bD false, .nl]
theorem tbN_sub (n : ByteArray) (cols : List Cl) : qBC (tbNl n cols) (tbN n cols).cs := by
  have s : ∀ {l m : List D}, qBC l m → qBC (bD false :: .nl :: l) (bD false :: qBz [] :: m) := fun h => qBC.cons (SubD.refl _) id (qBC.cons (SubD.nil 4) (fun _ => rfl) h)
  exact qBC.cons (SubD.refl _) id (qBC.cons (SubD.refl _) id (qBC.cons (SubD.refl _) id (s (s (s (s (s (s (s (s qBC.nil))))))))))
theorem insert_pc (t : Tb) (h : TbOk t) (i : Nat) (hi : i < 2) (r : List Vl) (hr : FitR r t.cols) : PC Tryd.prog 12 [.ag t.cs, iD i, qBz r] (insD t i r) := by
  rcases (by omega : i = 0 ∨ i = 1) with rfl | rfl
  · exact insert0_pc t h r hr
  · exact insert1_pc t h r hr
theorem insert_sub {t : Tb} {cs : List D} (hs : qBC cs t.cs) (h : TbOk t) (i : Nat) (hi : i < 2) (r : List Vl) (hr : FitR r t.cols) : PC Tryd.prog 12 [.ag cs, iD i, qBz r] (insD t i r) :=
  (insert_pc t h i hi r hr).args (qBC.cons (SubD.ag hs) id (qBC.refl _))
end Go.Proofs.YtpaccaojgbfjdaaDoor

