/-
  The pure layer: pointers held against nil. No condition.
-/
import Derived.Test.YtfplkakfakdfhaaDoorZM11
import Derived.Test.YtfplkakfakdfhaaDoorZM1
namespace Go.Proofs.YtfplkakfakdfhaaDoor
set_option linter.unusedSimpArgs false
set_option linter.unusedVariables false
open Go.RowKit

section
variable {P : Program} {dst : Option Nat} {ty : TypeId} {e : Operand → A} {β : Bx} {T T' : TypeId} {x y : Operand} {E : TypeId}
theorem eq_pn {w : World} {p : Addr} (hT : P.underlying T = some (.pointer E)) : (Op.equal T (.pointer (some p)) (.pointer none)).run P w = .ok false w := by
  have h : ∀ d : Nat, (Op.equalIn (d + 1) T (.pointer (some p)) (.pointer none)).run P w = .ok false w := fun d => by simp [Op.equalIn, run_underlying hT]
  exact h 9999
theorem eq_nn {w : World} (hT : P.underlying T = some (.pointer E)) : (Op.equal T (.pointer none) (.pointer none)).run P w = .ok true w := by
  have h : ∀ d : Nat, (Op.equalIn (d + 1) T (.pointer none) (.pointer none)).run P w = .ok true w := fun d => by simp [Op.equalIn, run_underlying hT]
  exact h 9999
theorem does_eq_px {id off : Nat} (hT : P.underlying T = some (.pointer E)) (hx : e x = .px id off) (hy : e y = .d (.sc (.pointer none))) : Does P dst (.binOp .eql T x y T') ty e β (.d (bD false)) [] [] :=
  Does.of_run fun C γ _ ρ I w _ a hops o ho _ => by
    have h1 := (hops x (by simp [Op.operands])).2
    have h2 := (hops y (by simp [Op.operands])).2
    rw [hx] at h1
    rw [hy] at h2
    obtain ⟨g, _, h1⟩ := h1
    have h2 := repA_sc h2
    refine ⟨.bool false, ?_, trivial, rfl, rfl⟩
    unfold execOp
    simp only [ho, h1, h2]
    have h9 := eq_pn (w := w) (p := ⟨g, off, none⟩) hT
    simp [eqGuard, binOp, Sem.run_bind, h9]
theorem does_ne_px {id off : Nat} (hT : P.underlying T = some (.pointer E)) (hx : e x = .px id off) (hy : e y = .d (.sc (.pointer none))) : Does P dst (.binOp .neq T x y T') ty e β (.d (bD true)) [] [] :=
  Does.of_run fun C γ _ ρ I w _ a hops o ho _ => by
    have h1 := (hops x (by simp [Op.operands])).2
    have h2 := (hops y (by simp [Op.operands])).2
    rw [hx] at h1
    rw [hy] at h2
    obtain ⟨g, _, h1⟩ := h1
    have h2 := repA_sc h2
    refine ⟨.bool true, ?_, trivial, rfl, rfl⟩
    unfold execOp
    simp only [ho, h1, h2]
    have h9 := eq_pn (w := w) (p := ⟨g, off, none⟩) hT
    simp [eqGuard, binOp, Sem.run_bind, h9]
theorem does_eq_nn (hT : P.underlying T = some (.pointer E)) (hx : e x = .d (.sc (.pointer none))) (hy : e y = .d (.sc (.pointer none))) : Does P dst (.binOp .eql T x y T') ty e β (.d (bD true)) [] [] :=
  Does.of_run fun C γ _ ρ I w _ a hops o ho _ => by
    have h1 := (hops x (by simp [Op.operands])).2
    have h2 := (hops y (by simp [Op.operands])).2
    rw [hx] at h1
    rw [hy] at h2
    have h1 := repA_sc h1
    have h2 := repA_sc h2
    refine ⟨.bool true, ?_, trivial, rfl, rfl⟩
    unfold execOp
    simp only [ho, h1, h2]
    have h9 := eq_nn (w := w) hT
    simp [eqGuard, binOp, Sem.run_bind, h9]
theorem does_ne_nn (hT : P.underlying T = some (.pointer E)) (hx : e x = .d (.sc (.pointer none))) (hy : e y = .d (.sc (.pointer none))) : Does P dst (.binOp .neq T x y T') ty e β (.d (bD false)) [] [] :=
  Does.of_run fun C γ _ ρ I w _ a hops o ho _ => by
    have h1 := (hops x (by simp [Op.operands])).2
    have h2 := (hops y (by simp [Op.operands])).2
    rw [hx] at h1
    rw [hy] at h2
    have h1 := repA_sc h1
    have h2 := repA_sc h2
    refine ⟨.bool false, ?_, trivial, rfl, rfl⟩
    unfold execOp
    simp only [ho, h1, h2]
    have h9 := eq_nn (w := w) hT
    simp [eqGuard, binOp, Sem.run_bind, h9]
end
end Go.Proofs.YtfplkakfakdfhaaDoor

namespace Go.Proofs.YtfplkakfakdfhaaDoor
theorem ptrNode : Tryd.prog.underlying 76 = some (.pointer 94) := by kernel_rfl
end Go.Proofs.YtfplkakfakdfhaaDoor


/-
  Trees of keys, as plain functions. No condition.
-/
namespace Go.Proofs.YtfplkakfakdfhaaDoor
set_option linter.unusedSimpArgs false
set_option linter.unusedVariables false

/-- A node that has become too large is cut in two. -/
def splitN : List ByteArray → List Int → List Tn → Tn × Option (ByteArray × Int × Tn)
  | [a, b, c, d], [x, y, z, w], [] => (.node [a, b] [x, y] [], some (c, z, .node [d] [w] []))
  | [a, b, c, d], [x, y, z, w], [p, q, r, s, t] => (.node [a, b] [x, y] [p, q, r], some (c, z, .node [d] [w] [s, t]))
  | ks, vs, ts => (.node ks vs ts, none)
def Tn.kids : Tn → List Tn
  | .node _ _ ts => ts
def noTn : Tn := .node [] [] []
def putH (key : ByteArray) (val : Int) : Nat → Tn → Tn × Option (ByteArray × Int × Tn)
  | h, .node ks vs ts =>
    if (seekF key ks).2 = true then (.node ks (vs.set (seekF key ks).1 val) ts, none)
    else match h with
      | 0 => splitN (insL ks (seekF key ks).1 key) (insL vs (seekF key ks).1 val) []
      | h + 1 => match putH key val h (ts.getD (seekF key ks).1 noTn) with
        | (t', none) => (.node ks vs (ts.set (seekF key ks).1 t'), none)
        | (t', some (m, v, r)) => splitN (insL ks (seekF key ks).1 m) (insL vs (seekF key ks).1 v) (insL (ts.set (seekF key ks).1 t') ((seekF key ks).1 + 1) r)
/-- The shape of a tree whose leaves are all equally deep. -/
def Sh : Nat → Tn → Prop
  | 0, .node ks vs ts => vs.length = ks.length ∧ 1 ≤ ks.length ∧ ks.length ≤ 3 ∧ ts = []
  | h + 1, .node ks vs ts => vs.length = ks.length ∧ 1 ≤ ks.length ∧ ks.length ≤ 3 ∧ ts.length = ks.length + 1 ∧ ∀ t ∈ ts, Sh h t
theorem seekF_le (key : ByteArray) : ∀ l : List ByteArray, (seekF key l).1 ≤ l.length
  | [] => Nat.le_refl _
  | k :: r => by
    unfold seekF
    split
    · exact Nat.zero_le _
    · have := seekF_le key r
      simp only [List.length_cons]
      omega
theorem seekF_lt (key : ByteArray) : ∀ l : List ByteArray, (seekF key l).2 = true → (seekF key l).1 < l.length
  | [], h => by cases h
  | k :: r, h => by
    unfold seekF at h ⊢
    split
    · simp
    · rename_i hc
      rw [if_neg hc] at h
      have := seekF_lt key r h
      simp only [List.length_cons]
      omega
theorem insL_len {α : Type} (l : List α) (i : Nat) (x : α) (h : i ≤ l.length) : (insL l i x).length = l.length + 1 := by
  unfold insL
  rw [List.length_append, List.length_cons, List.length_take, List.length_drop]
  omega
theorem four {α : Type} {l : List α} (h : l.length = 4) : ∃ a b c d, l = [a, b, c, d] := by
  match l, h with
  | [a, b, c, d], _ => exact ⟨a, b, c, d, rfl⟩
theorem five {α : Type} {l : List α} (h : l.length = 5) : ∃ a b c d e, l = [a, b, c, d, e] := by
  match l, h with
  | [a, b, c, d, e], _ => exact ⟨a, b, c, d, e, rfl⟩
theorem splitN_few {ks : List ByteArray} {vs : List Int} {ts : List Tn} (h : ks.length ≠ 4) : splitN ks vs ts = (.node ks vs ts, none) := by
  unfold splitN
  split
  · exact absurd rfl h
  · exact absurd rfl h
  · rfl
end Go.Proofs.YtfplkakfakdfhaaDoor


/-
  What a tree holds, in order. No condition.
-/
namespace Go.Proofs.YtfplkakfakdfhaaDoor
set_option linter.unusedSimpArgs false
set_option linter.unusedVariables false

def weave {α : Type} : List α → List (List α) → List α
  | [], [] => []
  | [], l :: _ => l
  | p :: ps, [] => p :: weave ps []
  | p :: ps, l :: ls => l ++ p :: weave ps ls
mutual
def items : Tn → List (ByteArray × Int)
  | .node ks vs ts => weave (ks.zip vs) (itemsF ts)
def itemsF : List Tn → List (List (ByteArray × Int))
  | [] => []
  | t :: ts => items t :: itemsF ts
end
theorem itemsF_map : ∀ ts : List Tn, itemsF ts = ts.map items
  | [] => by rw [itemsF]; rfl
  | t :: ts => by rw [itemsF, itemsF_map ts]; rfl
theorem itemsF_len (ts : List Tn) : (itemsF ts).length = ts.length := by rw [itemsF_map, List.length_map]
theorem weave_leaf {α : Type} : ∀ ps : List α, weave ps [] = ps
  | [] => rfl
  | p :: ps => by unfold weave; rw [weave_leaf ps]
abbrev foldS {S : Type} (f : S → ByteArray → Int → S) (s : S) (l : List (ByteArray × Int)) : S := l.foldl (fun s p => f s p.1 p.2) s
/-- What is left behind k keys: at a node with kids. -/
theorem weave_step {ks : List ByteArray} {vs : List Int} {ts : List Tn} {k : Nat} {key : ByteArray} {v : Int} {t : Tn} (hk : ks[k]? = some key) (hv : vs[k]? = some v) (ht : ts[k]? = some t) :
    weave ((ks.zip vs).drop k) ((itemsF ts).drop k) = items t ++ (key, v) :: weave ((ks.zip vs).drop (k + 1)) ((itemsF ts).drop (k + 1)) := by
  have h1 : (ks.zip vs)[k]? = some (key, v) := by rw [List.getElem?_zip_eq_some]; exact ⟨hk, hv⟩
  have h2 : (itemsF ts)[k]? = some (items t) := by rw [itemsF_map, List.getElem?_map, ht]; rfl
  obtain ⟨a1, a2⟩ := List.getElem?_eq_some_iff.1 h1
  obtain ⟨b1, b2⟩ := List.getElem?_eq_some_iff.1 h2
  rw [List.drop_eq_getElem_cons a1, List.drop_eq_getElem_cons b1, a2, b2]
  rfl
theorem weave_end {ks : List ByteArray} {vs : List Int} {ts : List Tn} {t : Tn} (hv : vs.length = ks.length) (hl : ts.length = ks.length + 1) (ht : ts[ks.length]? = some t) :
    weave ((ks.zip vs).drop ks.length) ((itemsF ts).drop ks.length) = items t := by
  have h2 : (itemsF ts)[ks.length]? = some (items t) := by rw [itemsF_map, List.getElem?_map, ht]; rfl
  obtain ⟨b1, b2⟩ := List.getElem?_eq_some_iff.1 h2
  rw [List.drop_eq_nil_of_le (by rw [List.length_zip]; omega), List.drop_eq_getElem_cons b1, b2]
  rfl
theorem leaf_step {ks : List ByteArray} {vs : List Int} {k : Nat} {key : ByteArray} {v : Int} (hk : ks[k]? = some key) (hv : vs[k]? = some v) :
    (ks.zip vs).drop k = (key, v) :: (ks.zip vs).drop (k + 1) := by
  have h1 : (ks.zip vs)[k]? = some (key, v) := by rw [List.getElem?_zip_eq_some]; exact ⟨hk, hv⟩
  obtain ⟨a1, a2⟩ := List.getElem?_eq_some_iff.1 h1
  rw [List.drop_eq_getElem_cons a1, a2]
theorem leaf_end {ks : List ByteArray} {vs : List Int} (hv : vs.length = ks.length) : (ks.zip vs).drop ks.length = [] := List.drop_eq_nil_of_le (by rw [List.length_zip]; omega)
theorem inv_fold {S : Type} {f : S → ByteArray → Int → S} {Inv : S → List (ByteArray × Int) → Prop} (hs : ∀ s k v r, Inv s ((k, v) :: r) → Inv (f s k v) r) : ∀ (l r : List (ByteArray × Int)) (s : S), Inv s (l ++ r) → Inv (foldS f s l) r
  | [], _, _, h => h
  | (k, v) :: l, r, s, h => inv_fold hs l r (f s k v) (hs s k v _ h)
end Go.Proofs.YtfplkakfakdfhaaDoor


/-
  Keys in order, as plain laws. No condition.
-/
namespace Go.Proofs.YtfplkakfakdfhaaDoor
set_option linter.unusedSimpArgs false
set_option linter.unusedVariables false

abbrev Pairs := List (ByteArray × Int)
theorem kb_irr : ∀ x : List UInt8, Op.bytesLess x x = false
  | [] => rfl
  | a :: x => by simp [Op.bytesLess, kb_irr x]
theorem kb_tri : ∀ x y : List UInt8, Op.bytesLess x y = false → Op.bytesLess y x = false → x = y
  | [], [], _, _ => rfl
  | [], b :: y, h, _ => by simp [Op.bytesLess] at h
  | a :: x, [], _, h => by simp [Op.bytesLess] at h
  | a :: x, b :: y, h1, h2 => by
    simp only [Op.bytesLess, Bool.or_eq_false_iff, decide_eq_false_iff_not, Bool.and_eq_false_iff, beq_eq_false_iff_ne] at h1 h2
    have hab : a = b := by
      apply UInt8.toNat_inj.1
      have e1 := h1.1
      have e2 := h2.1
      rw [UInt8.lt_iff_toNat_lt] at e1 e2
      omega
    subst hab
    rw [kb_tri x y (by rcases h1.2 with h | h; exact absurd rfl h; exact h) (by rcases h2.2 with h | h; exact absurd rfl h; exact h)]
theorem kb_trans : ∀ x y z : List UInt8, Op.bytesLess x y = true → Op.bytesLess y z = true → Op.bytesLess x z = true
  | _, [], _, h, _ => by simp [Op.bytesLess] at h
  | _, b :: y, [], _, h => by simp [Op.bytesLess] at h
  | [], b :: y, c :: z, _, _ => rfl
  | a :: x, b :: y, c :: z, h1, h2 => by
    simp only [Op.bytesLess, Bool.or_eq_true, decide_eq_true_eq, Bool.and_eq_true, beq_iff_eq] at h1 h2 ⊢
    rcases h1 with h1 | ⟨rfl, h1⟩
    · rcases h2 with h2 | ⟨rfl, h2⟩
      · left
        rw [UInt8.lt_iff_toNat_lt] at *
        omega
      · exact .inl h1
    · rcases h2 with h2 | ⟨rfl, h2⟩
      · exact .inl h2
      · exact .inr ⟨rfl, kb_trans x y z h1 h2⟩
theorem key_eq {x y : ByteArray} (h : x.toList = y.toList) : x = y := by
  rw [ByteArray.toList_eq, ByteArray.toList_eq] at h
  exact ByteArray.ext (Array.toList_inj.1 h)
theorem lt_irr (x : ByteArray) : ltB x x = false := kb_irr _
theorem lt_trans {x y z : ByteArray} (h1 : ltB x y = true) (h2 : ltB y z = true) : ltB x z = true := kb_trans _ _ _ h1 h2
theorem lt_asym {x y : ByteArray} (h : ltB x y = true) : ltB y x = false := by
  cases h2 : ltB y x with
  | false => rfl
  | true => have := lt_trans h h2; rw [lt_irr] at this; cases this
theorem lt_ne {x y : ByteArray} (h : ltB x y = true) : x ≠ y := fun e => by rw [e, lt_irr] at h; cases h
/-- Less, the same, or more. -/
theorem cmp_cases (x y : ByteArray) : (ltB x y = true ∧ cmpB x y = -1) ∨ (x = y ∧ cmpB x y = 0) ∨ (ltB y x = true ∧ cmpB x y = 1) := by
  cases h : ltB x y with
  | true => exact .inl ⟨rfl, by unfold cmpB; rw [if_pos h]⟩
  | false =>
    right
    by_cases he : x.toList = y.toList
    · exact .inl ⟨key_eq he, by unfold cmpB; rw [if_neg (by rw [h]; decide), if_neg (by rw [h, he]; simp)]⟩
    · refine .inr ⟨?_, by unfold cmpB; rw [if_neg (by rw [h]; decide), if_pos (by rw [h]; simp [he])]⟩
      cases h2 : ltB y x with
      | true => rfl
      | false => exact absurd (kb_tri _ _ h h2) he
theorem cmp_of_lt {x y : ByteArray} (h : ltB x y = true) : cmpB x y = -1 := by unfold cmpB; rw [if_pos h]
theorem cmp_self (x : ByteArray) : cmpB x x = 0 := by
  rcases cmp_cases x x with ⟨h, _⟩ | ⟨_, h⟩ | ⟨h, _⟩
  · rw [lt_irr] at h; cases h
  · exact h
  · rw [lt_irr] at h; cases h
theorem cmp_of_gt {x y : ByteArray} (h : ltB y x = true) : cmpB x y = 1 := by
  rcases cmp_cases x y with ⟨h2, _⟩ | ⟨rfl, _⟩ | ⟨_, h2⟩
  · rw [lt_asym h2] at h; cases h
  · rw [lt_irr] at h; cases h
  · exact h2
abbrev Asc (l : List (ByteArray × Int)) : Prop := l.Pairwise fun p q => ltB p.1 q.1 = true
def putL (key : ByteArray) (val : Int) : List (ByteArray × Int) → List (ByteArray × Int)
  | [] => [(key, val)]
  | (k, v) :: r => if cmpB key k < 0 then (key, val) :: (k, v) :: r else if cmpB key k = 0 then (k, val) :: r else (k, v) :: putL key val r
def lookL (key : ByteArray) : List (ByteArray × Int) → Option Int
  | [] => none
  | (k, v) :: r => if cmpB key k = 0 then some v else lookL key r
theorem putL_after {key : ByteArray} {val : Int} : ∀ {l r : List (ByteArray × Int)}, (∀ p ∈ l, ltB p.1 key = true) → putL key val (l ++ r) = l ++ putL key val r
  | [], _, _ => rfl
  | (k, v) :: l, r, h => by
    have h1 := cmp_of_gt (h (k, v) (by simp))
    rw [List.cons_append, putL, h1, if_neg (by decide), if_neg (by decide), putL_after fun p hp => h p (by simp [hp]), List.cons_append]
theorem putL_before {key : ByteArray} {val : Int} {k : ByteArray} {v : Int} (hk : ltB key k = true) : ∀ {l r : List (ByteArray × Int)}, putL key val (l ++ (k, v) :: r) = putL key val l ++ (k, v) :: r
  | [], r => by
    show putL key val ((k, v) :: r) = (key, val) :: (k, v) :: r
    rw [putL, cmp_of_lt hk, if_pos (by decide)]
  | (k2, v2) :: l, r => by
    rw [List.cons_append, putL, putL]
    split
    · rfl
    · split
      · rfl
      · rw [putL_before hk]; rfl
theorem putL_here {key : ByteArray} {val v : Int} {l r : List (ByteArray × Int)} (h : ∀ p ∈ l, ltB p.1 key = true) : putL key val (l ++ (key, v) :: r) = l ++ (key, val) :: r := by
  rw [putL_after h, putL, cmp_self, if_neg (by decide), if_pos rfl]
theorem putL_end {key : ByteArray} {val : Int} {l : List (ByteArray × Int)} (h : ∀ p ∈ l, ltB p.1 key = true) : putL key val l = l ++ [(key, val)] := by
  have := putL_after (val := val) (r := []) h
  rw [List.append_nil] at this
  exact this
theorem lookL_after {key : ByteArray} : ∀ {l r : List (ByteArray × Int)}, (∀ p ∈ l, p.1 ≠ key) → lookL key (l ++ r) = lookL key r
  | [], _, _ => rfl
  | (k, v) :: l, r, h => by
    rw [List.cons_append, lookL, if_neg, lookL_after fun p hp => h p (by simp [hp])]
    intro h0
    rcases cmp_cases key k with ⟨_, h2⟩ | ⟨h2, _⟩ | ⟨_, h2⟩
    · rw [h2] at h0; cases h0
    · exact h (k, v) (by simp) h2.symm
    · rw [h2] at h0; cases h0
theorem lookL_none {key : ByteArray} {l : List (ByteArray × Int)} (h : ∀ p ∈ l, p.1 ≠ key) : lookL key l = none := by
  have := lookL_after (r := []) h
  rw [List.append_nil] at this
  exact this
theorem lookL_before {key : ByteArray} : ∀ {l r : List (ByteArray × Int)}, (∀ p ∈ r, p.1 ≠ key) → lookL key (l ++ r) = lookL key l
  | [], r, h => lookL_none h
  | (k, v) :: l, r, h => by rw [List.cons_append, lookL, lookL, lookL_before h]
theorem lookL_some {key : ByteArray} {v : Int} : ∀ {l : List (ByteArray × Int)}, lookL key l = some v → (key, v) ∈ l
  | [], h => by cases h
  | (k, w) :: l, h => by
    rw [lookL] at h
    rcases cmp_cases key k with ⟨_, h2⟩ | ⟨rfl, h2⟩ | ⟨_, h2⟩
    · rw [h2, if_neg (by decide)] at h; exact List.mem_cons_of_mem _ (lookL_some h)
    · rw [h2, if_pos rfl] at h; injection h with h; rw [h]; exact List.mem_cons_self
    · rw [h2, if_neg (by decide)] at h; exact List.mem_cons_of_mem _ (lookL_some h)
theorem lookL_no {key : ByteArray} : ∀ {l : List (ByteArray × Int)}, lookL key l = none → ∀ p ∈ l, p.1 ≠ key
  | [], _, p, hp => by cases hp
  | (k, w) :: l, h, p, hp => by
    rw [lookL] at h
    split at h
    · cases h
    · rename_i h0
      rcases List.mem_cons.1 hp with rfl | hp
      · intro e
        have e : k = key := e
        rw [e, cmp_self] at h0
        exact h0 rfl
      · exact lookL_no h p hp
theorem putL_mem {key : ByteArray} {val : Int} : ∀ {l : List (ByteArray × Int)} {p : ByteArray × Int}, p ∈ putL key val l → p = (key, val) ∨ p ∈ l
  | [], p, h => .inl (List.mem_singleton.1 h)
  | (k, v) :: l, p, h => by
    rw [putL] at h
    split at h
    · rcases List.mem_cons.1 h with h | h
      · exact .inl h
      · exact .inr h
    · rename_i h0
      split at h
      · rename_i h1
        rcases List.mem_cons.1 h with h | h
        · left
          rcases cmp_cases key k with ⟨_, h2⟩ | ⟨rfl, h2⟩ | ⟨_, h2⟩
          · rw [h2] at h1; cases h1
          · exact h
          · rw [h2] at h1; cases h1
        · exact .inr (List.mem_cons_of_mem _ h)
      · rcases List.mem_cons.1 h with rfl | h
        · exact .inr List.mem_cons_self
        · rcases putL_mem h with h | h
          · exact .inl h
          · exact .inr (List.mem_cons_of_mem _ h)
theorem putL_asc {key : ByteArray} {val : Int} : ∀ {l : List (ByteArray × Int)}, Asc l → Asc (putL key val l)
  | [], _ => List.pairwise_singleton _ _
  | (k, v) :: l, h => by
    obtain ⟨h1, h2⟩ := List.pairwise_cons.1 h
    rw [putL]
    rcases cmp_cases key k with ⟨h3, h4⟩ | ⟨rfl, h4⟩ | ⟨h3, h4⟩
    · rw [h4, if_pos (by decide)]
      refine List.pairwise_cons.2 ⟨fun q hq => ?_, h⟩
      rcases List.mem_cons.1 hq with rfl | hq
      · exact h3
      · exact lt_trans h3 (h1 q hq)
    · rw [h4, if_neg (by decide), if_pos rfl]
      exact List.pairwise_cons.2 ⟨h1, h2⟩
    · rw [h4, if_neg (by decide), if_neg (by decide)]
      refine List.pairwise_cons.2 ⟨fun q hq => ?_, putL_asc h2⟩
      rcases putL_mem hq with rfl | hq
      · exact h3
      · exact h1 q hq
theorem putL_look {key : ByteArray} {val : Int} {l : List (ByteArray × Int)} : lookL key (putL key val l) = some val := by
  induction l with
  | nil => rw [putL, lookL, cmp_self, if_pos rfl]
  | cons p l ih =>
    obtain ⟨k, v⟩ := p
    rw [putL]
    split
    · rw [lookL, cmp_self, if_pos rfl]
    · split
      · rename_i h; rw [lookL, if_pos h]
      · rename_i h; rw [lookL, if_neg h, ih]
theorem putL_len {key : ByteArray} {val : Int} : ∀ {l : List (ByteArray × Int)}, Asc l → (putL key val l).length = if (lookL key l).isSome then l.length else l.length + 1
  | [], _ => rfl
  | (k, v) :: l, h => by
    obtain ⟨h1, h2⟩ := List.pairwise_cons.1 h
    rw [putL, lookL]
    rcases cmp_cases key k with ⟨h3, h4⟩ | ⟨rfl, h4⟩ | ⟨h3, h4⟩
    · rw [h4, if_pos (by decide), if_neg (by decide : ¬ (-1 : Int) = 0), lookL_none (fun p hp e => ?_)]
      · rfl
      · have := lt_trans h3 (h1 p hp)
        rw [e, lt_irr] at this
        cases this
    · rw [h4, if_neg (by decide), if_pos rfl, if_pos rfl]; rfl
    · rw [h4, if_neg (by decide), if_neg (by decide), if_neg (by decide : ¬ (1 : Int) = 0), List.length_cons, List.length_cons, putL_len h2]
      split <;> rfl
end Go.Proofs.YtfplkakfakdfhaaDoor


/-
  Where a key stands among pairs. No condition.
-/
namespace Go.Proofs.YtfplkakfakdfhaaDoor
set_option linter.unusedSimpArgs false
set_option linter.unusedVariables false

def cutL (key : ByteArray) (l : Pairs) : Pairs := l.filter fun p => !(p.1.toList == key.toList)
/-- Where a key is, or should be. -/
def atL (key : ByteArray) : Pairs → Nat
  | [] => 0
  | (k, _) :: r => if ltB k key = true then atL key r + 1 else 0
theorem atL_le (key : ByteArray) : ∀ l : Pairs, atL key l ≤ l.length
  | [] => Nat.le_refl _
  | (k, v) :: r => by
    have := atL_le key r
    rw [atL, List.length_cons]
    split <;> omega
theorem atL_lt {key : ByteArray} : ∀ {l : Pairs} {j : Nat}, j < atL key l → ∃ p, l[j]? = some p ∧ ltB p.1 key = true
  | [], j, h => by rw [atL] at h; omega
  | (k, v) :: r, j, h => by
    rw [atL] at h
    split at h
    · rename_i hk
      cases j with
      | zero => exact ⟨(k, v), rfl, hk⟩
      | succ j => exact atL_lt (l := r) (by omega)
    · omega
theorem atL_at {key : ByteArray} : ∀ {l : Pairs} {p : ByteArray × Int}, l[atL key l]? = some p → ltB p.1 key = false
  | [], p, h => by simp at h
  | (k, v) :: r, p, h => by
    rw [atL] at h
    split at h
    · exact atL_at (l := r) h
    · rename_i hk
      simp only [List.getElem?_cons_zero, Option.some.injEq] at h
      subst h
      simpa using hk
theorem at_all {key : ByteArray} {val : Int} : ∀ {l : Pairs}, Asc l →
    (∀ v, l[atL key l]? = some (key, v) → lookL key l = some v ∧ putL key val l = l.take (atL key l) ++ (key, val) :: l.drop (atL key l + 1) ∧ cutL key l = l.take (atL key l) ++ l.drop (atL key l + 1)) ∧
    ((∀ p, l[atL key l]? = some p → p.1 ≠ key) → lookL key l = none ∧ putL key val l = l.take (atL key l) ++ (key, val) :: l.drop (atL key l))
  | [], h => ⟨fun v hv => (by simp at hv), fun _ => ⟨rfl, rfl⟩⟩
  | (k, v) :: r, h => by
    obtain ⟨h1, h2⟩ := List.pairwise_cons.1 h
    have hne : ∀ {a b : ByteArray}, ltB a b = true → (a.toList == b.toList) = false := fun h => by
      rw [beq_eq_false_iff_ne]; exact fun e => lt_ne h (key_eq e)
    rcases cmp_cases key k with ⟨h3, h4⟩ | ⟨rfl, h4⟩ | ⟨h3, h4⟩
    · have e0 : atL key ((k, v) :: r) = 0 := by rw [atL, if_neg (by rw [lt_asym h3]; decide)]
      rw [e0]
      refine ⟨fun v2 hv => ?_, fun _ => ⟨?_, ?_⟩⟩
      · simp only [List.getElem?_cons_zero, Option.some.injEq, Prod.mk.injEq] at hv
        exact absurd hv.1.symm (lt_ne h3)
      · refine lookL_none fun p hp e => ?_
        rcases List.mem_cons.1 hp with rfl | hp
        · exact lt_ne h3 e.symm
        · exact lt_ne (lt_trans h3 (h1 p hp)) e.symm
      · rw [putL, h4, if_pos (by decide)]; rfl
    · have e0 : atL key ((key, v) :: r) = 0 := by rw [atL, if_neg (by rw [lt_irr]; decide)]
      rw [e0]
      refine ⟨fun v2 hv => ?_, fun hp => absurd rfl (hp (key, v) rfl)⟩
      simp only [List.getElem?_cons_zero, Option.some.injEq, Prod.mk.injEq] at hv
      obtain ⟨_, rfl⟩ := hv
      refine ⟨by rw [lookL, h4, if_pos rfl], by rw [putL, h4, if_neg (by decide), if_pos rfl]; rfl, ?_⟩
      unfold cutL
      rw [List.filter_cons, if_neg (by simp)]
      show r.filter _ = [] ++ r
      rw [List.nil_append, List.filter_eq_self]
      intro p hp
      have := hne (h1 p hp)
      have h5 : (p.1.toList == key.toList) = false := by rw [beq_eq_false_iff_ne] at this ⊢; exact fun e => this e.symm
      rw [h5]; rfl
    · have e0 : atL key ((k, v) :: r) = atL key r + 1 := by rw [atL, if_pos h3]
      obtain ⟨i1, i2⟩ := at_all (key := key) (val := val) h2
      have eL : lookL key ((k, v) :: r) = lookL key r := by rw [lookL, h4, if_neg (by decide)]
      have eP : putL key val ((k, v) :: r) = (k, v) :: putL key val r := by rw [putL, h4, if_neg (by decide), if_neg (by decide)]
      have eC : cutL key ((k, v) :: r) = (k, v) :: cutL key r := by
        unfold cutL
        rw [List.filter_cons, if_pos (by simp [hne h3])]
      rw [e0, eL, eP, eC]
      refine ⟨fun v2 hv => ?_, fun hp => ?_⟩
      · obtain ⟨j1, j2, j3⟩ := i1 v2 (by simpa using hv)
        refine ⟨j1, by rw [j2]; rfl, by rw [j3]; rfl⟩
      · obtain ⟨j1, j2⟩ := i2 (fun p h => hp p (by simpa using h))
        exact ⟨j1, by rw [j2]; rfl⟩
end Go.Proofs.YtfplkakfakdfhaaDoor


/-
  put: a key that is there; a leaf. No condition but the shape.
-/
namespace Go.Proofs.YtfplkakfakdfhaaDoor
set_option linter.unusedSimpArgs false
set_option linter.unusedVariables false
open Go.RowKit

def outA : Option (ByteArray × Int × Tn) → A
  | none => .tu [.d (strD ByteArray.empty), .d (iD 0), .d (.sc (.pointer none))]
  | some (m, v, r) => .tu [.d (strD m), .d (iD v), .px 2000 0]
def outB : Option (ByteArray × Int × Tn) → Bx
  | none => []
  | some (m, v, r) => [(2000, .res (treeR TQ r))]
abbrev PutPG (key : ByteArray) (val : Int) (t : Tn) (o : Tn × Option (ByteArray × Int × Tn)) : Prop :=
  PG Tryd.prog 40 [.px 1000 0, .d (strD key), .d (iD val)] [(1000, .res (treeR TQ t))] [] (outA o.2) [(1000, .res (treeR TQ o.1))] (outB o.2)
theorem put_there (key : ByteArray) (val : Int) (ks : List ByteArray) (vs : List Int) (ts : List Tn) (hlen : vs.length = ks.length) (hks : ks.length ≤ 3) (hb : (seekF key ks).2 = true) : PutPG key val (.node ks vs ts) (.node ks (vs.set (seekF key ks).1 val) ts, none) := by
  have s1 := seek_pc ks key (by omega)
  have hlt := seekF_lt key ks hb
  rw [hb] at s1
  generalize (seekF key ks).1 = i at *
  obtain ⟨v0, hv0⟩ : ∃ v, vs[i]? = some v := ⟨_, List.getElem?_eq_getElem (by omega)⟩
  show PG _ _ _ _ _ (.tu [.d (strD ByteArray.empty), .d (iD 0), .d (.sc (.pointer none))]) _ []
  refine pg_of_aw Tryd.func40 rfl (by kernel_rfl) mixed (by kernel_rfl) (by rw [Tryd.ntmps40]; exact Nat.le_of_ble_eq_true rfl) Tryd.results40 rfl ?_
  repeat (with_reducible apply aw_seq)
  refine aw_exR1 mixed (fun C a w h => ent_open (Q := TQ) 1000 1001 1002 1003 rfl rfl rfl rfl (by decide) (by decide) (by decide) h) ?_
  repeat (first | (refine aw_after (id := 3) mixed ?_; (with_reducible apply aw_reg)) | (with_reducible first | apply aw_seq | apply aw_reg | apply rp_nil | apply ae_norm) | ((with_reducible apply rp); first | ((with_reducible apply does_call_flat); exact rfl; exact rfl; exact (s1); exact rfl) | ((with_reducible apply does_move); (conv => lhs; whnf)) | ((with_reducible apply does_assign); (conv => lhs; whnf)) | ((with_reducible apply does_fieldAddr); exact tyOk rfl; exact rfl; exact rfl; decide; exact rfl) | ((with_reducible apply does_load_var); exact tyOk rfl; exact rfl; exact rfl; exact rfl; exact rfl) | ((with_reducible apply does_index_own); exact tyOk rfl; exact rfl; exact tyOk rfl; exact rfl; exact rfl; exact rfl; omega) | ((with_reducible apply does_extract); exact rfl; exact rfl) | ((with_reducible apply does_nilCheck); exact rfl)) | ((with_reducible apply rpN); ((with_reducible apply does_store_own); exact tyOk rfl; exact rfl; exact rfl; exact rfl; exact rfl; exact map_get (by assumption); exact rfl; exact Nat.le_of_ble_eq_true rfl)) | ((with_reducible apply aw_cond); exact rfl; rotate_left; (focus (intro hd; (cases hd; done))); (intro hd; clear hd)))
  have hset : (vs.map intE).set i [iD val] = (vs.set i val).map intE := List.map_set.symm
  refine after1 (fun C a w h => ent_shut (Q := TQ) (ks := ks) (vs := vs.set i val) (ts := ts) 1000 1001 1002 1003 rfl rfl (by rw [← hset]; rfl) rfl (by decide) h) ?_
  repeat (first | (with_reducible first | apply ae_norm | apply aw_ret | apply ae_ret | apply xg_ret))
  (with_reducible apply retg_ok (l := [])); (focus (repeat' (first | (with_reducible apply rv_nil) | (with_reducible apply rv_cons) | ((with_reducible apply rv_tmp); exact rfl)))); rotate_left; refine ⟨(by repeat' (first | exact ks_nil | (refine ks_cons rfl (by exact SubA.refl _) ?_))), (by repeat' (first | exact trivial | exact rfl | refine And.intro ?_ ?_)), rfl, (by repeat' (first | exact trivial | exact inB_px rfl | refine And.intro ?_ ?_)), (by repeat' (first | exact trivial | exact inB_px rfl | refine And.intro ?_ ?_))⟩; refine SubA.of_eq ?_
  rfl
theorem put_leaf_few (key : ByteArray) (val : Int) (ks : List ByteArray) (vs : List Int) (hlen : vs.length = ks.length) (hks : ks.length < 3) (hb : (seekF key ks).2 = false) : PutPG key val (.node ks vs []) (.node (insL ks (seekF key ks).1 key) (insL vs (seekF key ks).1 val) [], none) := by
  have s1 := seek_pc ks key (by omega)
  have hle := seekF_le key ks
  rw [hb] at s1
  generalize (seekF key ks).1 = i at *
  have c1 := insS_pco ks i key hle (by omega)
  have c2 := insI_pco vs i val (by omega) (by omega)
  have l1 := insL_len ks i key hle
  have l2 := insL_len vs i val (by omega)
  generalize insL ks i key = ks2 at *
  generalize insL vs i val = vs2 at *
  have hfew : decide (((ks2.map strE).length : Int) ≤ 3) = true := decide_eq_true (by rw [List.length_map]; omega)
  show PG _ _ _ _ _ (.tu [.d (strD ByteArray.empty), .d (iD 0), .d (.sc (.pointer none))]) _ []
  refine pg_of_aw Tryd.func40 rfl (by kernel_rfl) mixed (by kernel_rfl) (by rw [Tryd.ntmps40]; exact Nat.le_of_ble_eq_true rfl) Tryd.results40 rfl ?_
  repeat (with_reducible apply aw_seq)
  refine aw_exR1 mixed (fun C a w h => ent_open (Q := TQ) 1000 1001 1002 1003 rfl rfl rfl rfl (by decide) (by decide) (by decide) h) ?_
  repeat (first | (refine aw_after (id := 9) mixed ?_; (with_reducible apply aw_reg)) | (with_reducible first | apply aw_seq | apply aw_reg | apply rp_nil | apply ae_norm | apply aw_regD | apply aw_skip) | ((with_reducible apply dr_nil); (first | kernel_rfl | exact rfl)) | ((with_reducible first | apply rp | apply dr); first | ((with_reducible apply does_call_flat); exact rfl; exact rfl; exact (s1); exact rfl) | ((with_reducible apply does_move); (conv => lhs; whnf)) | ((with_reducible apply does_assign); (conv => lhs; whnf)) | ((with_reducible apply does_fieldAddr); exact tyOk rfl; exact rfl; exact rfl; decide; exact rfl) | ((with_reducible apply does_load_var); exact tyOk rfl; exact rfl; exact rfl; exact rfl; exact rfl) | ((with_reducible apply does_eq); exact rfl; exact rfl) | ((with_reducible apply does_le); exact rfl; exact rfl) | ((with_reducible apply does_extract); exact rfl; exact rfl) | ((with_reducible apply does_len_ow); exact tyOk rfl; exact rfl; exact rfl) | ((with_reducible apply does_nilCheck); exact rfl)) | ((with_reducible apply dr2); first | ((with_reducible apply does_callO1); exact rfl; exact rfl; exact rfl; exact (c1); (first | exact rfl | (simp; done) | (simp; omega)); exact rfl; decide; (conv => lhs; whnf)) | ((with_reducible apply does_callO1); exact rfl; exact rfl; exact rfl; exact (c2); (first | exact rfl | (simp; done) | (simp; omega)); exact rfl; decide; (conv => lhs; whnf))) | ((with_reducible apply drN); ((with_reducible apply does_store); exact tyOk rfl; exact rfl; exact rfl; (conv => lhs; whnf); exact rfl; exact rfl; exact Nat.le_of_ble_eq_true rfl)) | ((with_reducible apply aw_cond); exact rfl; (focus (intro hd; (cases hd; done))); (intro hd; clear hd)) | ((with_reducible apply aw_cond); exact rfl; rotate_left; (focus (intro hd; (cases hd; done))); (intro hd; clear hd)))
  refine after1 (fun C a w h => ent_shut (Q := TQ) (ks := ks2) (vs := vs2) (ts := []) 1000 46 53 1003 rfl rfl rfl rfl (by decide) h) ?_
  repeat (first | (with_reducible apply ae_norm))
  refine aw_cond rfl (fun _ => ?_) (fun hd => absurd (hfew.symm.trans hd) (by decide))
  repeat (first | (with_reducible first | apply aw_ret | apply ae_ret | apply xg_ret))
  (with_reducible apply retg_ok (l := [])); (focus (repeat' (first | (with_reducible apply rv_nil) | (with_reducible apply rv_cons) | ((with_reducible apply rv_tmp); exact rfl)))); rotate_left; refine ⟨(by repeat' (first | exact ks_nil | (refine ks_cons rfl (by exact SubA.refl _) ?_))), (by repeat' (first | exact trivial | exact rfl | refine And.intro ?_ ?_)), rfl, (by repeat' (first | exact trivial | exact inB_px rfl | refine And.intro ?_ ?_)), (by repeat' (first | exact trivial | exact inB_px rfl | refine And.intro ?_ ?_))⟩; refine SubA.of_eq ?_
  rfl
set_option maxHeartbeats 4000000 in
theorem put_leaf_cut (key : ByteArray) (val : Int) (ks : List ByteArray) (vs : List Int) (hlen : vs.length = ks.length) (hks : ks.length = 3) (hb : (seekF key ks).2 = false) : PutPG key val (.node ks vs []) (splitN (insL ks (seekF key ks).1 key) (insL vs (seekF key ks).1 val) []) := by
  have s1 := seek_pc ks key (by omega)
  have hle := seekF_le key ks
  rw [hb] at s1
  generalize (seekF key ks).1 = i at *
  have c1 := insS_pco ks i key hle (by omega)
  have c2 := insI_pco vs i val (by omega) (by omega)
  have l1 := insL_len ks i key hle
  have l2 := insL_len vs i val (by omega)
  generalize insL ks i key = ks2 at *
  generalize insL vs i val = vs2 at *
  obtain ⟨a, b, c, d, rfl⟩ := four (l1.trans (by omega))
  obtain ⟨x, y, z, u, rfl⟩ := four (l2.trans (by omega))
  have e1 : [a, b, c, d].map strE = [strE a, strE b, strE c, strE d] := rfl
  have e2 : [x, y, z, u].map intE = [intE x, intE y, intE z, intE u] := rfl
  rw [e1] at c1
  rw [e2] at c2
  clear l1 l2 e1 e2
  show PG _ _ _ _ _ (.tu [.d (strD c), .d (iD z), .px 2000 0]) [(1000, .res (treeR TQ (.node [a, b] [x, y] [])))] [(2000, .res (treeR TQ (.node [d] [u] [])))]
  refine pg_of_aw Tryd.func40 rfl (by kernel_rfl) mixed (by kernel_rfl) (by rw [Tryd.ntmps40]; exact Nat.le_of_ble_eq_true rfl) Tryd.results40 rfl ?_
  repeat (with_reducible apply aw_seq)
  refine aw_exR1 mixed (fun C a w h => ent_open (Q := TQ) 1000 1001 1002 1003 rfl rfl rfl rfl (by decide) (by decide) (by decide) h) ?_
  repeat (first | (refine aw_after (id := 14) mixed ?_; (with_reducible apply aw_reg)) | (with_reducible first | apply aw_seq | apply aw_reg | apply rp_nil | apply ae_norm | apply aw_regD | apply aw_skip) | ((with_reducible apply dr_nil); (first | kernel_rfl | exact rfl)) | ((with_reducible first | apply rp | apply dr); first | ((with_reducible apply does_call_flat); exact rfl; exact rfl; exact (s1); exact rfl) | (exact does_quo_to (m := 4) (n := 2) (k := 2) rfl rfl rfl (by decide) (by decide)) | (exact does_slice_ov (k := 3) (m := 1) (tyOk rfl) rfl (tyOk rfl) rfl rfl rfl rfl (by decide) rfl) | (exact (by (with_reducible apply does_build_own (out := [.ow 139 _, .ow 148 _, .d .nl])); exact tyOk rfl; exact rfl; exact rfl; (focus repeat' (first | exact rfl | refine ⟨_, _, rfl, rfl, Nat.le_of_ble_eq_true rfl, rfl, ?_⟩)))) | ((with_reducible apply does_move); (conv => lhs; whnf)) | ((with_reducible apply does_assign); (conv => lhs; whnf)) | ((with_reducible apply does_fieldAddr); exact tyOk rfl; exact rfl; exact rfl; decide; exact rfl) | ((with_reducible apply does_load_var); exact tyOk rfl; exact rfl; exact rfl; exact rfl; exact rfl) | ((with_reducible apply does_load_own); exact tyOk rfl; exact rfl; exact rfl; exact rfl; exact rfl; exact rfl) | ((with_reducible apply does_index_own); exact tyOk rfl; exact rfl; exact tyOk rfl; exact rfl; exact rfl; exact rfl; (simp only [List.length_map, List.length_append, List.length_cons, List.length_nil] at *; omega)) | ((with_reducible apply does_eq); exact rfl; exact rfl) | ((with_reducible apply does_le); exact rfl; exact rfl) | ((with_reducible apply does_gt); exact rfl; exact rfl) | ((with_reducible apply does_add); exact rfl; exact rfl; omega; omega) | ((with_reducible apply does_extract); exact rfl; exact rfl) | ((with_reducible apply does_len_ow); exact tyOk rfl; exact rfl; exact rfl) | ((with_reducible apply does_nilCheck); exact rfl)) | ((with_reducible apply dr1); first | ((with_reducible apply does_box); exact rfl; exact rfl) | ((with_reducible apply does_buildSlice); exact tyOk rfl; exact rfl; exact tyOk rfl; exact rfl; exact rfl; (focus repeat' (first | exact trivial | refine And.intro rfl (And.intro rfl ?_))); decide; decide; exact rfl)) | ((with_reducible apply dr2); first | ((with_reducible apply does_callO1); exact rfl; exact rfl; exact rfl; exact (c1); (first | exact rfl | (simp; done) | (simp; omega)); exact rfl; decide; (conv => lhs; whnf)) | ((with_reducible apply does_callO1); exact rfl; exact rfl; exact rfl; exact (c2); (first | exact rfl | (simp; done) | (simp; omega)); exact rfl; decide; (conv => lhs; whnf)) | (exact does_slice_own (h := 2) (tyOk rfl) rfl (tyOk rfl) rfl rfl rfl ⟨_, _, rfl, rfl⟩ (Nat.le_of_ble_eq_true rfl) rfl rfl) | (exact does_append_own (tyOk rfl) rfl (tyOk rfl) rfl rfl rfl (by decide) (Nat.le_of_ble_eq_true rfl) (Nat.le_of_ble_eq_true rfl) rfl)) | ((with_reducible apply drN); ((with_reducible apply does_store); exact tyOk rfl; exact rfl; exact rfl; (conv => lhs; whnf); exact rfl; exact rfl; exact Nat.le_of_ble_eq_true rfl)) | ((with_reducible apply aw_cond); exact rfl; (focus (intro hd; (cases hd; done))); (intro hd; clear hd)) | ((with_reducible apply aw_cond); exact rfl; rotate_left; (focus (intro hd; (cases hd; done))); (intro hd; clear hd)))
  refine after1 (fun C ac w h => ent_shut (Q := TQ) (ks := [a, b]) (vs := [x, y]) (ts := []) 1000 158 164 1003 rfl rfl rfl rfl (by decide) (ent_shut (Q := TQ) (ks := [d]) (vs := [u]) (ts := []) 150 139 148 2001 rfl rfl rfl rfl (by decide) (ent_knil (Q := TQ) 150 2001 rfl rfl h))) ?_
  refine aw_cond rfl (fun hd => absurd hd (by decide)) (fun _ => ?_)
  repeat (first | (with_reducible first | apply ae_norm | apply aw_ret | apply xg_ret | apply aw_skip))
  (with_reducible apply retg_ok (l := [(2000, 150)])); (focus (repeat' (first | (with_reducible apply rv_nil) | (with_reducible apply rv_cons) | ((with_reducible apply rv_tmp); exact rfl)))); rotate_left; refine ⟨(by repeat' (first | exact ks_nil | (refine ks_cons rfl (by exact SubA.refl _) ?_))), (by repeat' (first | exact trivial | exact rfl | refine And.intro ?_ ?_)), rfl, (by repeat' (first | exact trivial | exact inB_px rfl | refine And.intro ?_ ?_)), (by repeat' (first | exact trivial | exact inB_px rfl | refine And.intro ?_ ?_))⟩; refine SubA.of_eq ?_
  rfl
end Go.Proofs.YtfplkakfakdfhaaDoor

