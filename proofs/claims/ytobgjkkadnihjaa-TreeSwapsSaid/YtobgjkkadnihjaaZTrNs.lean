/-
  Laid nodes that are in order, as a plain fact. No condition.
-/
import Derived.Test.YtobgjkkadnihjaaZTrPl
namespace Go.Proofs.Ytobgjkkadnihjaa
set_option linter.unusedSimpArgs false
set_option linter.unusedVariables false

structure NsOk (ns : List Nd) (dep : List Nat) (h : Nat) : Prop where
  few : ns.length ≤ 100
  keys : ∀ n ∈ ns, ∀ k ∈ n.ks, k.size ≤ 60
  total : (ns.map fun n => n.ks.length).sum ≤ 100
  shape : ∀ n ∈ ns, 1 ≤ n.ks.length ∧ n.ks.length ≤ 3 ∧ n.vs.length = n.ks.length ∧ (n.kids.length = 0 ∨ n.kids.length = n.ks.length + 1)
  kid : ∀ (i : Nat) (n : Nd), ns[i]? = some n → ∀ k ∈ n.kids, i < k ∧ k < ns.length ∧ dep.getD k 0 = dep.getD i 0 + 1
  once : (ns.flatMap (·.kids)).Nodup
  each : ∀ k, 0 < k → k < ns.length → k ∈ ns.flatMap (·.kids)
  root : dep.getD 0 0 = 0
  deep : ∀ j, dep.getD j 0 ≤ 1000
  leaf : ∀ (i : Nat) (n : Nd), ns[i]? = some n → n.kids = [] → dep.getD i 0 = h
/-- How deep the nodes are that were met. -/
def seenE (n : Nat) (dep : List Nat) (vis : List Nat) : List (List D) := (List.range n).map fun j => natE (if j ∈ vis then dep.getD j 0 else 0)
theorem seenE_len (n : Nat) (dep vis : List Nat) : (seenE n dep vis).length = n := by unfold seenE; simp
theorem seenE_get {n : Nat} {dep vis : List Nat} {j : Nat} (h : j < n) : (seenE n dep vis)[j]? = some [iD ((if j ∈ vis then dep.getD j 0 else 0 : Nat) : Int)] := by
  unfold seenE
  rw [List.getElem?_map, List.getElem?_range h]
  rfl
theorem seenE_set {n : Nat} {dep vis : List Nat} {k : Nat} (h : k < n) : (seenE n dep vis).set k [iD (dep.getD k 0 : Nat)] = seenE n dep (vis ++ [k]) := by
  apply List.ext_getElem?
  intro j
  by_cases hj : j < n
  · rw [List.getElem?_set, seenE_get hj, seenE_len]
    by_cases hk : k = j
    · subst hk
      simp [h, seenE_get h]
    · rw [if_neg hk, seenE_get hj]
      have : j ≠ k := fun e => hk e.symm
      simp [this]
  · rw [List.getElem?_eq_none (by rw [List.length_set, seenE_len]; omega), List.getElem?_eq_none (by rw [seenE_len]; omega)]
theorem seenE_nil (n : Nat) (dep : List Nat) : seenE n dep [] = List.replicate n [iD 0] := by
  unfold seenE
  rw [List.eq_replicate_iff]
  refine ⟨by simp, fun b hb => ?_⟩
  obtain ⟨j, _, rfl⟩ := List.mem_map.1 hb
  simp [natE]
theorem seenE_all {ns : List Nd} {dep : List Nat} {h : Nat} (ho : NsOk ns dep h) : ∀ j, j < ns.length → (if j ∈ ns.flatMap (·.kids) then dep.getD j 0 else 0) = dep.getD j 0 := fun j hj => by
  split
  · rfl
  · rename_i hn
    by_cases h0 : j = 0
    · subst h0; exact ho.root.symm
    · exact absurd (ho.each j (by omega) hj) hn
theorem vis_dep {ns : List Nd} {dep : List Nat} {h : Nat} (ho : NsOk ns dep h) (i : Nat) (hi : i < ns.length) : (if i ∈ (ns.take i).flatMap (·.kids) then dep.getD i 0 else 0) = dep.getD i 0 := by
  split
  · rfl
  · rename_i hn
    by_cases h0 : i = 0
    · subst h0; exact ho.root.symm
    · obtain ⟨n, hm, hk⟩ := List.mem_flatMap.1 (ho.each i (by omega) hi)
      obtain ⟨p, hp⟩ := List.getElem?_of_mem hm
      obtain ⟨h1, h2, _⟩ := ho.kid p n hp i hk
      refine absurd (List.mem_flatMap.2 ⟨n, ?_, hk⟩) hn
      exact List.mem_of_getElem? (i := p) (by rw [List.getElem?_take_of_lt h1]; exact hp)
/-- A kid that comes next was not met before. -/
theorem vis_new {ns : List Nd} {dep : List Nat} {h : Nat} (ho : NsOk ns dep h) {i c k : Nat} {n : Nd} (hi : ns[i]? = some n) (hc : n.kids[c]? = some k) : k ∉ (ns.take i).flatMap (·.kids) ++ n.kids.take c := by
  have hn := ho.once
  obtain ⟨hlt, he⟩ := List.getElem?_eq_some_iff.1 hi
  have e1 : ns = ns.take i ++ n :: ns.drop (i + 1) := by rw [← he, List.getElem_cons_drop, List.take_append_drop]
  obtain ⟨hlc, hec⟩ := List.getElem?_eq_some_iff.1 hc
  have e2 : n.kids = n.kids.take c ++ k :: n.kids.drop (c + 1) := by rw [← hec, List.getElem_cons_drop, List.take_append_drop]
  rw [e1, List.flatMap_append, List.flatMap_cons] at hn
  have hn2 : ((ns.take i).flatMap (·.kids) ++ n.kids.take c ++ (k :: (n.kids.drop (c + 1) ++ (ns.drop (i + 1)).flatMap (·.kids)))).Nodup := by
    have : (ns.take i).flatMap (·.kids) ++ n.kids.take c ++ (k :: (n.kids.drop (c + 1) ++ (ns.drop (i + 1)).flatMap (·.kids))) = (ns.take i).flatMap (·.kids) ++ (n.kids ++ (ns.drop (i + 1)).flatMap (·.kids)) := by
      conv => rhs; rw [e2]
      simp
    rw [this]; exact hn
  intro hm
  exact (List.nodup_append.1 hn2).2.2 k hm k (by simp) rfl
theorem take_flat {ns : List Nd} {i : Nat} {n : Nd} (hi : ns[i]? = some n) : (ns.take (i + 1)).flatMap (·.kids) = (ns.take i).flatMap (·.kids) ++ n.kids := by
  rw [List.take_add_one, hi, List.flatMap_append]
  simp
theorem sum_take_le {ns : List Nd} (f : Nd → Nat) : ∀ (l : List Nd) (i : Nat), ((l.take i).map f).sum ≤ (l.map f).sum
  | [], i => by simp
  | a :: l, 0 => by simp
  | a :: l, i + 1 => by
    have := sum_take_le (ns := ns) f l i
    simp only [List.take_succ_cons, List.map_cons, List.sum_cons]
    omega
end Go.Proofs.Ytobgjkkadnihjaa

