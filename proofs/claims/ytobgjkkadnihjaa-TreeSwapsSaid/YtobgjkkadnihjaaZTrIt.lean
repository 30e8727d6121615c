/-
  What a tree holds, in order. No condition.
-/
import Derived.Test.YtobgjkkadnihjaaZTrF
namespace Go.Proofs.Ytobgjkkadnihjaa
set_option linter.unusedSimpArgs false
set_option linter.unusedVariables false

def weave {α : Type} : List α → List (List α) → List α
  | [], [] => []
  | [], l :: _ => l
  | p :: ps, [] => p :: weave ps []
  | p :: ps, l :: ls => l ++ p :: weave ps ls
mutual
def items : Tn → List (ByteArray × Int)
  | .node ks vs ts => weave (ks.zip vs) (itemsF ts)
def itemsF : List Tn → List (List (ByteArray × Int))
  | [] => []
  | t :: ts => items t :: itemsF ts
end
theorem itemsF_map : ∀ ts : List Tn, itemsF ts = ts.map items
  | [] => by rw [itemsF]; rfl
  | t :: ts => by rw [itemsF, itemsF_map ts]; rfl
theorem itemsF_len (ts : List Tn) : (itemsF ts).length = ts.length := by rw [itemsF_map, List.length_map]
theorem weave_leaf {α : Type} : ∀ ps : List α, weave ps [] = ps
  | [] => rfl
  | p :: ps => by unfold weave; rw [weave_leaf ps]
abbrev foldS {S : Type} (f : S → ByteArray → Int → S) (s : S) (l : List (ByteArray × Int)) : S := l.foldl (fun s p => f s p.1 p.2) s
/-- What is left behind k keys: at a node with kids. -/
theorem weave_step {ks : List ByteArray} {vs : List Int} {ts : List Tn} {k : Nat} {key : ByteArray} {v : Int} {t : Tn} (hk : ks[k]? = some key) (hv : vs[k]? = some v) (ht : ts[k]? = some t) :
    weave ((ks.zip vs).drop k) ((itemsF ts).drop k) = items t ++ (key, v) :: weave ((ks.zip vs).drop (k + 1)) ((itemsF ts).drop (k + 1)) := by
  have h1 : (ks.zip vs)[k]? = some (key, v) := by rw [List.getElem?_zip_eq_some]; exact ⟨hk, hv⟩
  have h2 : (itemsF ts)[k]? = some (items t) := by rw [itemsF_map, List.getElem?_map, ht]; rfl
  obtain ⟨a1, a2⟩ := List.getElem?_eq_some_iff.1 h1
  obtain ⟨b1, b2⟩ := List.getElem?_eq_some_iff.1 h2
  rw [List.drop_eq_getElem_cons a1, List.drop_eq_getElem_cons b1, a2, b2]
  rfl
theorem weave_end {ks : List ByteArray} {vs : List Int} {ts : List Tn} {t : Tn} (hv : vs.length = ks.length) (hl : ts.length = ks.length + 1) (ht : ts[ks.length]? = some t) :
    weave ((ks.zip vs).drop ks.length) ((itemsF ts).drop ks.length) = items t := by
  have h2 : (itemsF ts)[ks.length]? = some (items t) := by rw [itemsF_map, List.getElem?_map, ht]; rfl
  obtain ⟨b1, b2⟩ := List.getElem?_eq_some_iff.1 h2
  rw [List.drop_eq_nil_of_le (by rw [List.length_zip]; omega), List.drop_eq_getElem_cons b1, b2]
  rfl
theorem leaf_step {ks : List ByteArray} {vs : List Int} {k : Nat} {key : ByteArray} {v : Int} (hk : ks[k]? = some key) (hv : vs[k]? = some v) :
    (ks.zip vs).drop k = (key, v) :: (ks.zip vs).drop (k + 1) := by
  have h1 : (ks.zip vs)[k]? = some (key, v) := by rw [List.getElem?_zip_eq_some]; exact ⟨hk, hv⟩
  obtain ⟨a1, a2⟩ := List.getElem?_eq_some_iff.1 h1
  rw [List.drop_eq_getElem_cons a1, a2]
theorem leaf_end {ks : List ByteArray} {vs : List Int} (hv : vs.length = ks.length) : (ks.zip vs).drop ks.length = [] := List.drop_eq_nil_of_le (by rw [List.length_zip]; omega)
theorem inv_fold {S : Type} {f : S → ByteArray → Int → S} {Inv : S → List (ByteArray × Int) → Prop} (hs : ∀ s k v r, Inv s ((k, v) :: r) → Inv (f s k v) r) : ∀ (l r : List (ByteArray × Int)) (s : S), Inv s (l ++ r) → Inv (foldS f s l) r
  | [], _, _, h => h
  | (k, v) :: l, r, s, h => inv_fold hs l r (f s k v) (hs s k v _ h)
end Go.Proofs.Ytobgjkkadnihjaa

