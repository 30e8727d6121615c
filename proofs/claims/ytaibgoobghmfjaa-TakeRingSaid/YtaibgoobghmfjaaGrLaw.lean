/-
  Rights: the plain laws of giving and taking. No program in sight; no condition.
-/
import Derived.Test.YtaibgoobghmfjaaGive
namespace Go.Proofs.Ytaibgoobghmfjaa
set_option linter.unusedSimpArgs false
set_option linter.unusedVariables false

theorem before_iff (g h : Gr) : g.before h = true ↔ g.obj < h.obj ∨ (g.obj = h.obj ∧ (g.rgt < h.rgt ∨ (g.rgt = h.rgt ∧ (g.frm < h.frm ∨ (g.frm = h.frm ∧ g.to < h.to))))) := by
  unfold Gr.before
  split
  · simp; omega
  · split
    · simp; omega
    · split
      · simp; omega
      · simp; omega
theorem sameP_iff (g h : Gr) : sameP g h = true ↔ g.obj = h.obj ∧ g.rgt = h.rgt ∧ g.frm = h.frm ∧ g.to = h.to := by
  simp [sameP, and_assoc]
theorem before_trans {a b c : Gr} (h : a.before b = true) (h2 : b.before c = true) : a.before c = true := by
  rw [before_iff] at *; omega
theorem before_irr {a b : Gr} (h : a.before b = true) : sameP a b = false := by
  rw [before_iff] at h
  rw [Bool.eq_false_iff, ne_eq, sameP_iff]; omega
theorem before_irr' {a b : Gr} (h : a.before b = true) : sameP b a = false := by
  rw [before_iff] at h
  rw [Bool.eq_false_iff, ne_eq, sameP_iff]; omega
theorem before_total {a b : Gr} (h : sameP b a = false) (h2 : a.before b = false) : b.before a = true := by
  rw [Bool.eq_false_iff, ne_eq, sameP_iff] at h
  rw [Bool.eq_false_iff, ne_eq, before_iff] at h2
  rw [before_iff]; omega
theorem before_same {a b c : Gr} (h : sameP a b = true) : (b.before c = a.before c) ∧ (c.before b = c.before a) := by
  rw [sameP_iff] at h
  constructor <;> rw [Bool.eq_iff_iff, before_iff, before_iff] <;> omega
abbrev Ord (l : List Gr) : Prop := l.Pairwise fun a b => a.before b = true
theorem GoodL.ord {l : List Gr} (h : GoodL l) : Ord l := by
  have key : ∀ l : List Gr, (∀ (i : Nat) (g h : Gr), l[i]? = some g → l[i + 1]? = some h → g.before h = true) → Ord l := by
    intro l
    induction l with
    | nil => intro _; exact List.Pairwise.nil
    | cons a t ih =>
      intro h
      have ht := ih fun i g h' h1 h2 => h (i + 1) g h' (by simpa using h1) (by simpa using h2)
      refine List.Pairwise.cons ?_ ht
      cases t with
      | nil => intro b hb; cases hb
      | cons b t =>
        have hab := h 0 a b rfl rfl
        intro c hc
        rcases List.mem_cons.1 hc with rfl | hc
        · exact hab
        · exact before_trans hab (List.rel_of_pairwise_cons ht hc)
  exact key l h.sorted
theorem sorted_of_ord {l : List Gr} (h : Ord l) : ∀ (i : Nat) (g h : Gr), l[i]? = some g → l[i + 1]? = some h → g.before h = true := by
  intro i g h' h1 h2
  obtain ⟨l1, e1⟩ := List.getElem?_eq_some_iff.1 h1
  obtain ⟨l2, e2⟩ := List.getElem?_eq_some_iff.1 h2
  have := List.pairwise_iff_getElem.1 h i (i + 1) l1 l2 (by omega)
  rwa [e1, e2] at this
/-- The new grant in its place. -/
def ins (g : Gr) : List Gr → List Gr
  | [] => [g]
  | h :: t => if sameP h g = true then { g with opt := g.opt || h.opt } :: t else if g.before h = true then g :: h :: t else h :: ins g t
def fin_ (st : List Gr × Bool × Gr) : List Gr := if st.2.1 = true then st.1 else st.1 ++ [st.2.2]
theorem put_in (y : Gr) : ∀ (t : List Gr) (out : List Gr), (∀ x ∈ t, y.before x = true) → t.foldl putStep (out, true, y) = (out ++ t, true, y)
  | [], out, h => by simp
  | x :: t, out, h => by
    have h1 : putStep (out, true, y) x = (out ++ [x], true, y) := by
      simp only [putStep, before_irr' (h x (by simp)), Bool.false_eq_true, if_false, Bool.not_true, Bool.false_and]
    rw [List.foldl_cons, h1, put_in y t _ fun z hz => h z (by simp [hz])]
    simp
theorem put_ins : ∀ (l : List Gr) (g : Gr) (out : List Gr), Ord l → fin_ (l.foldl putStep (out, false, g)) = out ++ ins g l
  | [], g, out, h => rfl
  | h :: t, g, out, ho => by
    have ht := List.Pairwise.of_cons ho
    have hh : ∀ x ∈ t, h.before x = true := fun x hx => List.rel_of_pairwise_cons ho hx
    rw [List.foldl_cons]
    unfold ins
    by_cases hs : sameP h g = true
    · have h1 : putStep (out, false, g) h = (out, false, { g with opt := g.opt || h.opt }) := by simp only [putStep, hs, if_true]
      rw [h1, if_pos hs, put_ins t _ out ht]
      congr 1
      cases t with
      | nil => rfl
      | cons x t =>
        have hb : ({ g with opt := g.opt || h.opt } : Gr).before x = true := by
          have := (before_same hs (c := x)).1
          show g.before x = true
          rw [this]; exact hh x (by simp)
        unfold ins
        rw [if_neg (by rw [before_irr' hb]; simp), if_pos hb]
    · have hs' : sameP h g = false := by simpa using hs
      rw [if_neg hs]
      by_cases hb : g.before h = true
      · have h1 : putStep (out, false, g) h = (out ++ [g] ++ [h], true, g) := by simp only [putStep, hs', Bool.false_eq_true, if_false, hb, Bool.not_false, Bool.and_self, if_true]
        rw [h1, if_pos hb, put_in g t _ fun x hx => before_trans hb (hh x hx)]
        simp [fin_]
      · have hb' : g.before h = false := by simpa using hb
        have h1 : putStep (out, false, g) h = (out ++ [h], false, g) := by simp only [putStep, hs', Bool.false_eq_true, if_false, hb', Bool.and_false]
        rw [h1, if_neg hb, put_ins t g _ ht]
        simp
theorem putL_ins {l : List Gr} (h : Ord l) (g : Gr) : putL l g = ins g l := by
  have := put_ins l g [] h
  rw [List.nil_append] at this
  exact this
theorem ins_len (g : Gr) : ∀ l : List Gr, (ins g l).length ≤ l.length + 1
  | [] => by simp [ins]
  | h :: t => by
    unfold ins
    split
    · simp
    · split
      · simp
      · have := ins_len g t
        simp only [List.length_cons]; omega
theorem ins_mem {g x : Gr} : ∀ {l : List Gr}, x ∈ ins g l → x ∈ l ∨ sameP x g = true
  | [], h => by
    simp only [ins, List.mem_singleton] at h
    subst h
    exact .inr ((sameP_iff _ _).2 ⟨rfl, rfl, rfl, rfl⟩)
  | h :: t, hx => by
    unfold ins at hx
    split at hx
    · rcases List.mem_cons.1 hx with rfl | hx
      · exact .inr ((sameP_iff _ _).2 ⟨rfl, rfl, rfl, rfl⟩)
      · exact .inl (by simp [hx])
    · split at hx
      · rcases List.mem_cons.1 hx with rfl | hx
        · exact .inr ((sameP_iff _ _).2 ⟨rfl, rfl, rfl, rfl⟩)
        · exact .inl hx
      · rcases List.mem_cons.1 hx with rfl | hx
        · exact .inl (by simp)
        · rcases ins_mem hx with h1 | h1
          · exact .inl (by simp [h1])
          · exact .inr h1
/-- Each of the old ones is there, or one in its place that may do more. -/
theorem ins_old {g x : Gr} : ∀ {l : List Gr}, x ∈ l → ∃ y ∈ ins g l, sameP y x = true ∧ (x.opt = true → y.opt = true)
  | h :: t, hx => by
    have self : ∀ z : Gr, sameP z z = true := fun z => (sameP_iff _ _).2 ⟨rfl, rfl, rfl, rfl⟩
    unfold ins
    split
    · rename_i hs
      rcases List.mem_cons.1 hx with rfl | hx
      · refine ⟨{ g with opt := g.opt || x.opt }, List.mem_cons_self, ?_, fun h => by simp [h]⟩
        rw [sameP_iff] at hs ⊢
        exact ⟨hs.1.symm, hs.2.1.symm, hs.2.2.1.symm, hs.2.2.2.symm⟩
      · exact ⟨x, by simp [hx], self x, id⟩
    · split
      · exact ⟨x, by rw [List.mem_cons]; exact .inr hx, self x, id⟩
      · rcases List.mem_cons.1 hx with rfl | hx
        · exact ⟨x, by simp, self x, id⟩
        · obtain ⟨y, h1, h2⟩ := ins_old (g := g) hx
          exact ⟨y, by simp [h1], h2⟩
theorem ins_new (g : Gr) : ∀ l : List Gr, ∃ y ∈ ins g l, sameP y g = true ∧ (g.opt = true → y.opt = true)
  | [] => ⟨g, by simp [ins], (sameP_iff _ _).2 ⟨rfl, rfl, rfl, rfl⟩, id⟩
  | h :: t => by
    unfold ins
    split
    · exact ⟨{ g with opt := g.opt || h.opt }, List.mem_cons_self, (sameP_iff _ _).2 ⟨rfl, rfl, rfl, rfl⟩, fun h => by simp [h]⟩
    · split
      · exact ⟨g, by simp, (sameP_iff _ _).2 ⟨rfl, rfl, rfl, rfl⟩, id⟩
      · obtain ⟨y, h1, h2⟩ := ins_new g t
        exact ⟨y, by simp [h1], h2⟩
theorem ins_ord (g : Gr) : ∀ {l : List Gr}, Ord l → Ord (ins g l)
  | [], _ => by simp [ins]
  | h :: t, ho => by
    have ht := List.Pairwise.of_cons ho
    have hh : ∀ x ∈ t, h.before x = true := fun x hx => List.rel_of_pairwise_cons ho hx
    unfold ins
    split
    · rename_i hs
      refine List.Pairwise.cons (fun x hx => ?_) ht
      have := (before_same hs (c := x)).1
      show g.before x = true
      rw [this]; exact hh x hx
    · rename_i hs
      split
      · rename_i hb
        refine List.Pairwise.cons (fun x hx => ?_) ho
        rcases List.mem_cons.1 hx with rfl | hx
        · exact hb
        · exact before_trans hb (hh x hx)
      · rename_i hb
        have hhg : h.before g = true := before_total (by simpa using hs) (by simpa using hb)
        refine List.Pairwise.cons (fun x hx => ?_) (ins_ord g ht)
        rcases ins_mem hx with h1 | h1
        · exact hh x h1
        · have h2 : sameP g x = true := by rw [sameP_iff] at h1 ⊢; exact ⟨h1.1.symm, h1.2.1.symm, h1.2.2.1.symm, h1.2.2.2.symm⟩
          have := (before_same h2 (c := h)).2
          rw [this]; exact hhg
theorem stands_mono {l m : List Gr} (hm : ∀ h ∈ l, ∃ y ∈ m, sameP y h = true ∧ (h.opt = true → y.opt = true)) : ∀ g, Stands l g → ∀ x : Gr, x.frm = g.frm → x.obj = g.obj → x.rgt = g.rgt → Stands m x := by
  intro g hs
  induction hs with
  | own g h => intro x h1 h2 h3; exact .own x (by rw [h1, h2]; exact h)
  | by_ g h hmem hs hh ih =>
    intro x h1 h2 h3
    obtain ⟨y, hy, hsm, hop⟩ := hm h hmem
    rw [sameP_iff] at hsm
    obtain ⟨s1, s2, s3, s4⟩ := hsm
    simp only [Gr.holds, Bool.and_eq_true, beq_iff_eq] at hh
    obtain ⟨⟨⟨t1, t2⟩, t3⟩, t4⟩ := hh
    refine .by_ x y hy (ih y s3 s1 s2) ?_
    simp only [Gr.holds, Bool.and_eq_true, beq_iff_eq]
    exact ⟨⟨⟨hop t1, by rw [s4, t2, h1]⟩, by rw [s1, t3, h2]⟩, by rw [s2, t4, h3]⟩
theorem giveR_good {l : List Gr} (hl : GoodL l) {g : Gr} (hg : g.ok) (h96 : l.length < 96) (h0 : (giveR l g).2 = 0) : GoodL (giveR l g).1 ∧ (giveR l g).1 = ins g l ∧ g.form = true ∧ mayL l g.frm g.obj g.rgt = true := by
  unfold giveR at h0 ⊢
  split at h0
  · cases h0
  · split at h0
    · cases h0
    · rename_i hf hm
      have hf : g.form = true := by simpa using hf
      have hm : mayL l g.frm g.obj g.rgt = true := by simpa using hm
      rw [if_neg (by simp [hf]), if_neg (by simp [hm])]
      show GoodL (putL l g) ∧ putL l g = ins g l ∧ _
      rw [putL_ins hl.ord g]
      refine ⟨⟨by have := ins_len g l; omega, fun x hx => ?_, sorted_of_ord (ins_ord g hl.ord), fun x hx => ?_⟩, rfl, hf, hm⟩
      · rcases ins_mem hx with h | h
        · exact hl.ok x h
        · rw [sameP_iff] at h
          obtain ⟨s1, s2, s3, s4⟩ := h
          refine ⟨⟨by rw [s3]; exact hg.frm, by rw [s4]; exact hg.to, by rw [s1]; exact hg.obj, by rw [s2]; exact hg.rgt⟩, ?_⟩
          unfold Gr.form at hf ⊢
          rw [s1, s3, s4]; exact hf
      · have hmono := stands_mono (l := l) (m := ins g l) fun h hh => ins_old hh
        rcases ins_mem hx with h | h
        · exact hmono x (hl.held x h) x rfl rfl rfl
        · rw [sameP_iff] at h
          obtain ⟨s1, s2, s3, s4⟩ := h
          simp only [mayL, Bool.or_eq_true, decide_eq_true_eq, List.any_eq_true] at hm
          rcases hm with hm | ⟨h, hh, hmm⟩
          · exact .own x (by rw [s3, s1]; exact hm.symm)
          · simp only [mayG, Bool.and_eq_true, beq_iff_eq] at hmm
            obtain ⟨⟨⟨t1, t2⟩, t3⟩, t4⟩ := hmm
            refine hmono x (.by_ x h hh (hl.held h hh) ?_) x rfl rfl rfl
            simp only [Gr.holds, Bool.and_eq_true, beq_iff_eq]
            exact ⟨⟨⟨t4, by rw [t1, s3]⟩, by rw [t2, s1]⟩, by rw [t3, s2]⟩
theorem mem_heldL {l : List Gr} {g : Gr} : g ∈ heldL l ↔ g ∈ l ∧ Stands l g := by
  unfold heldL; rw [List.mem_filter, standsB_iff]
theorem mem_delL {l : List Gr} {g x : Gr} : x ∈ delL l g ↔ x ∈ l ∧ sameP x g = false := by
  unfold delL; rw [List.mem_filter]; simp
theorem stands_sub {l m : List Gr} (hsub : ∀ x ∈ l, x ∈ m) {g : Gr} (hs : Stands l g) : Stands m g := by
  induction hs with
  | own g h => exact .own g h
  | by_ g h hm hs hh ih => exact .by_ g h (hsub h hm) ih hh
theorem held_held {l : List Gr} {g : Gr} (hs : Stands l g) : Stands (heldL l) g := by
  induction hs with
  | own g h => exact .own g h
  | by_ g h hm hs hh ih => exact .by_ g h (mem_heldL.2 ⟨hm, hs⟩) ih hh
theorem heldL_good {l : List Gr} (h1 : l.length ≤ 96) (h2 : ∀ g ∈ l, g.ok ∧ g.form = true) (h3 : Ord l) : GoodL (heldL l) :=
  ⟨by have := List.length_filter_le (standsB l) l; unfold heldL; omega, fun g hg => h2 g (mem_heldL.1 hg).1, sorted_of_ord (List.Pairwise.filter _ h3), fun g hg => held_held (mem_heldL.1 hg).2⟩
theorem delL_good {l : List Gr} (hl : GoodL l) (g : Gr) : GoodL (heldL (delL l g)) :=
  heldL_good (by have := delL_len l g; have := hl.len; omega) (fun x hx => hl.ok x (mem_delL.1 hx).1) (List.Pairwise.filter _ hl.ord)
theorem takeR_good {l : List Gr} (hl : GoodL l) {g : Gr} (h0 : (takeR l g).2 = 0) : GoodL (takeR l g).1 ∧ (takeR l g).1 = heldL (delL l g) := by
  unfold takeR at h0 ⊢
  split at h0
  · cases h0
  · split at h0
    · cases h0
    · rename_i h1 h2
      rw [if_neg h1, if_neg h2]
      exact ⟨delL_good hl g, rfl⟩
theorem heldL_mono {l m : List Gr} (hsub : ∀ x ∈ l, x ∈ m) {x : Gr} (hx : x ∈ heldL l) : x ∈ heldL m := mem_heldL.2 ⟨hsub x (mem_heldL.1 hx).1, stands_sub hsub (mem_heldL.1 hx).2⟩
theorem held_del (m : List Gr) (b : Gr) : heldL (delL (heldL m) b) = heldL (delL m b) := by
  have key : ∀ g, Stands (delL (heldL m) b) g ↔ Stands (delL m b) g := by
    intro g
    constructor
    · exact stands_sub fun x hx => mem_delL.2 ⟨(mem_heldL.1 (mem_delL.1 hx).1).1, (mem_delL.1 hx).2⟩
    · intro hs
      induction hs with
      | own g h => exact .own g h
      | by_ g h hm hs hh ih =>
        refine .by_ g h (mem_delL.2 ⟨mem_heldL.2 ⟨(mem_delL.1 hm).1, ?_⟩, (mem_delL.1 hm).2⟩) ih hh
        exact stands_sub (fun x hx => (mem_delL.1 hx).1) hs
  have key2 : standsB (delL (heldL m) b) = standsB (delL m b) := by
    funext x
    rw [Bool.eq_iff_iff, standsB_iff, standsB_iff]
    exact key x
  have key3 : ∀ x, standsB (delL m b) x = true → standsB m x = true := by
    intro x h1
    rw [standsB_iff] at h1 ⊢
    exact stands_sub (fun x hx => (mem_delL.1 hx).1) h1
  show List.filter (standsB (delL (heldL m) b)) (delL (heldL m) b) = List.filter (standsB (delL m b)) (delL m b)
  rw [key2]
  generalize standsB (delL m b) = p at *
  unfold heldL delL
  generalize standsB m = q at *
  rw [List.filter_filter, List.filter_filter, List.filter_filter]
  apply List.filter_congr
  intro x hx
  have := key3 x
  cases h1 : p x with
  | false => simp
  | true => rw [this h1]; simp
theorem del_del (m : List Gr) (a b : Gr) : delL (delL m a) b = delL (delL m b) a := by
  unfold delL
  rw [List.filter_filter, List.filter_filter]
  apply List.filter_congr
  intro x hx
  rw [Bool.and_comm]
/-- Taking twice: in any order. -/
theorem take_swap (m : List Gr) (a b : Gr) : heldL (delL (heldL (delL m a)) b) = heldL (delL (heldL (delL m b)) a) := by
  rw [held_del, held_del, del_del]
theorem del_same {l : List Gr} {g : Gr} (h : ∀ x ∈ l, sameP x g = false) : delL l g = l := by
  unfold delL
  rw [List.filter_eq_self]
  intro x hx; rw [h x hx]; rfl
theorem del_ins (g : Gr) : ∀ {l : List Gr}, (∀ x ∈ l, sameP x g = false) → delL (ins g l) g = l
  | [], _ => by
    have : sameP g g = true := (sameP_iff _ _).2 ⟨rfl, rfl, rfl, rfl⟩
    simp [ins, delL, this]
  | h :: t, hs => by
    have self : sameP g g = true := (sameP_iff _ _).2 ⟨rfl, rfl, rfl, rfl⟩
    have hh := hs h (by simp)
    have ht := del_ins g (l := t) fun x hx => hs x (by simp [hx])
    have hd := del_same hs
    unfold ins
    rw [if_neg (by rw [hh]; simp)]
    split
    · have : delL (g :: h :: t) g = delL (h :: t) g := by simp [delL, self]
      rw [this, hd]
    · have : delL (h :: ins g t) g = h :: delL (ins g t) g := by simp [delL, hh]
      rw [this, ht]
theorem del_less {l : List Gr} {g : Gr} (h : g ∈ l) : (delL l g).length < l.length := by
  have self : sameP g g = true := (sameP_iff _ _).2 ⟨rfl, rfl, rfl, rfl⟩
  unfold delL
  exact List.length_filter_lt_length_iff_exists.2 ⟨g, h, by simp [self]⟩
theorem heldL_len (l : List Gr) : (heldL l).length ≤ l.length := List.length_filter_le _ _
end Go.Proofs.Ytaibgoobghmfjaa
