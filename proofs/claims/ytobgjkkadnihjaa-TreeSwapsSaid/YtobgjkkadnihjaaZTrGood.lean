/-
  Trees that are in order: Check, Find, Put, Cut, List. No condition but the order, and few keys.
-/
import Derived.Test.YtobgjkkadnihjaaZTrLaw
import Derived.Test.YtobgjkkadnihjaaZTrLaw2
import Derived.Test.YtobgjkkadnihjaaZTrCut
namespace Go.Proofs.Ytobgjkkadnihjaa
set_option linter.unusedSimpArgs false
set_option linter.unusedVariables false

theorem weave_len {α : Type} : ∀ (ps : List α) (ls : List (List α)), ls.length ≤ ps.length + 1 → (weave ps ls).length = ps.length + (ls.map List.length).sum
  | [], [], _ => rfl
  | [], [l], _ => by show l.length = 0 + (l.length + 0); omega
  | p :: ps, [], _ => by rw [weave_leaf]; rfl
  | p :: ps, l :: ls, h => by
    have ih := weave_len ps ls (by simpa using h)
    show (l ++ p :: weave ps ls).length = _
    rw [List.length_append, List.length_cons, ih, List.map_cons, List.sum_cons, List.length_cons]
    omega
theorem weave_mem1 {α : Type} {x : α} : ∀ {ps : List α} {ls : List (List α)}, x ∈ ps → x ∈ weave ps ls
  | p :: ps, [], h => by rw [weave_leaf]; exact h
  | p :: ps, l :: ls, h => by
    show x ∈ l ++ p :: weave ps ls
    rcases List.mem_cons.1 h with rfl | h
    · simp
    · exact List.mem_append_right _ (List.mem_cons_of_mem _ (weave_mem1 h))
theorem weave_mem2 {α : Type} {x : α} {l : List α} : ∀ {ps : List α} {ls : List (List α)}, ls.length ≤ ps.length + 1 → l ∈ ls → x ∈ l → x ∈ weave ps ls
  | [], [l'], _, h, hx => by rw [List.mem_singleton.1 h] at hx; exact hx
  | p :: ps, l' :: ls, hl, h, hx => by
    show x ∈ l' ++ p :: weave ps ls
    rcases List.mem_cons.1 h with rfl | h
    · exact List.mem_append_left _ hx
    · exact List.mem_append_right _ (List.mem_cons_of_mem _ (weave_mem2 (by simpa using hl) h hx))
theorem zip_mem {k : ByteArray} : ∀ {ks : List ByteArray} {vs : List Int}, vs.length = ks.length → k ∈ ks → ∃ v, (k, v) ∈ ks.zip vs
  | a :: ks, v :: vs, hv, h => by
    rcases List.mem_cons.1 h with rfl | h
    · exact ⟨v, by simp⟩
    · obtain ⟨w, hw⟩ := zip_mem (by simpa using hv) h
      exact ⟨w, List.mem_cons_of_mem _ hw⟩
theorem keys_lay : ∀ (h : Nat) (t : Tn), Sh h t → ∀ (a : Nat), ∀ n ∈ layN a t, ∀ k ∈ n.ks, ∃ v, (k, v) ∈ items t
  | 0, .node ks vs ts, hs, a, n, hn, k, hk => by
    obtain ⟨h1, h2, h3, rfl⟩ := hs
    rw [layN, layF] at hn
    rw [List.mem_singleton.1 hn] at hk
    obtain ⟨v, hv⟩ := zip_mem h1 hk
    exact ⟨v, by rw [items]; exact weave_mem1 hv⟩
  | h + 1, .node ks vs ts, hs, a, n, hn, k, hk => by
    obtain ⟨h1, h2, h3, h4, h5⟩ := hs
    rw [layN] at hn
    rw [items]
    rcases List.mem_cons.1 hn with rfl | hn
    · obtain ⟨v, hv⟩ := zip_mem h1 hk
      exact ⟨v, weave_mem1 hv⟩
    · obtain ⟨t, ht, b, hb⟩ := mem_layF hn
      obtain ⟨v, hv⟩ := keys_lay h t (h5 t ht) b n hb k hk
      refine ⟨v, weave_mem2 (l := items t) ?_ ?_ hv⟩
      · rw [itemsF_len, List.length_zip]; omega
      · rw [itemsF_map]; exact List.mem_map_of_mem ht
theorem totalF {h : Nat} (ih : ∀ t : Tn, Sh h t → ∀ a : Nat, ((layN a t).map fun n => n.ks.length).sum = (items t).length) : ∀ (ts : List Tn), (∀ t ∈ ts, Sh h t) → ∀ a : Nat, ((layF a ts).2.map fun n => n.ks.length).sum = ((itemsF ts).map List.length).sum
  | [], _, a => by rw [layF, itemsF]; rfl
  | t :: ts, hs, a => by
    rw [layF, itemsF, List.map_append, List.sum_append, List.map_cons, List.sum_cons, ih t (hs t (by simp)), totalF ih ts fun t ht => hs t (by simp [ht])]
theorem total_lay : ∀ (h : Nat) (t : Tn), Sh h t → ∀ a : Nat, ((layN a t).map fun n => n.ks.length).sum = (items t).length
  | 0, .node ks vs ts, hs, a => by
    obtain ⟨h1, h2, h3, rfl⟩ := hs
    rw [layN, layF, items, itemsF, weave_leaf, List.length_zip]
    simp
    omega
  | h + 1, .node ks vs ts, hs, a => by
    obtain ⟨h1, h2, h3, h4, h5⟩ := hs
    rw [layN, items, weave_len _ _ (by rw [itemsF_len, List.length_zip]; omega), List.map_cons, List.sum_cons, totalF (total_lay h) ts h5, List.length_zip]
    simp only
    omega
theorem sum_ge {α : Type} (f : α → Nat) : ∀ (l : List α), (∀ n ∈ l, 1 ≤ f n) → l.length ≤ (l.map f).sum
  | [], _ => Nat.le_refl _
  | a :: l, h => by
    have h1 := h a (by simp)
    have h2 := sum_ge f l fun n hn => h n (by simp [hn])
    rw [List.length_cons, List.map_cons, List.sum_cons]
    omega
theorem lay_few (h : Nat) (t : Tn) (hs : Sh h t) (a : Nat) : (layN a t).length ≤ (items t).length := by
  rw [← total_lay h t hs a]
  exact sum_ge _ _ fun n hn => (shape_lay h t hs a n hn).1
theorem lay_ok (h : Nat) (t : Tn) (hs : Sh h t) (hk : ∀ p ∈ items t, p.1.size ≤ 60) (hl : (items t).length ≤ 100) : NsOk (layN 0 t) (depN 0 t) h := by
  have hfew := lay_few h t hs 0
  have hhigh := high_lay h t hs 0
  have hperm := once_lay t 0
  refine ⟨by omega, fun n hn k hk2 => ?_, by rw [total_lay h t hs]; exact hl, shape_lay h t hs 0, fun i n hi k hk2 => ?_, hperm.nodup_iff.2 List.nodup_range', fun k h0 hk2 => hperm.mem_iff.2 ?_, ?_, fun j => ?_, fun i n hi hn => ?_⟩
  · obtain ⟨v, hv⟩ := keys_lay h t hs 0 n hn k hk2
    exact hk _ hv
  · obtain ⟨z1, z2, z3⟩ := kid_lay t 0 0 i n hi k hk2
    exact ⟨by omega, by omega, z3⟩
  · rw [List.mem_range'_1]; omega
  · cases t; rw [depN]; rfl
  · have := deep_lay h t hs 0 j; omega
  · have := leaf_lay h t hs 0 0 i n hi hn; omega
theorem rise_asc : ∀ (l : Pairs) (first : Bool) (last : ByteArray), Asc l → (first = true ∨ ∀ p ∈ l, ltB last p.1 = true) → (foldS (fun s k _ => rise s k) (true, first, last) l).1 = true
  | [], _, _, _, _ => rfl
  | (k, v) :: l, first, last, h, h2 => by
    obtain ⟨h3, h4⟩ := List.pairwise_cons.1 h
    have e : rise (true, first, last) k = (true, false, k) := by
      unfold rise
      have : (first || ltB last k) = true := by
        rcases h2 with h2 | h2
        · rw [h2]; rfl
        · rw [h2 (k, v) (by simp)]; simp
      simp [this]
    show (foldS (fun s k _ => rise s k) (rise (true, first, last) k) l).1 = true
    rw [e]
    exact rise_asc l false k h4 (.inr h3)
structure Good (o : Option (Nat × Tn)) : Prop where
  sh : ShO o
  asc : Asc (itemsO o)
  keys : ∀ p ∈ itemsO o, p.1.size ≤ 60
  few : (itemsO o).length ≤ 100
abbrev treeO (o : Option (Nat × Tn)) : D := treeD (nodesO o)
theorem lies_0 (t : Tn) : Lies (layN 0 t) 0 t := by
  have := lies_lay t [] []
  simpa using this
theorem check_good {o : Option (Nat × Tn)} (g : Good o) : PC Try.prog 11 [treeO o] (iD 0) := by
  rcases o with _ | ⟨h, t⟩
  · exact check_nil
  · exact check_pc (layN 0 t) (depN 0 t) h t (lay_ok h t g.sh g.keys g.few) g.sh (lies_0 t) (rise_asc _ _ _ g.asc (.inl rfl))
theorem find_good {o : Option (Nat × Tn)} (g : Good o) (key : ByteArray) : PC Try.prog 10 [treeO o, strD key] (resF (lookL key (itemsO o))) := by
  rcases o with _ | ⟨h, t⟩
  · exact find_nil key
  · have := find_pc key (layN 0 t) h t (check_good g) g.sh (lies_0 t)
    rw [find_items key h t g.sh g.asc] at this
    exact this
theorem layO_few {o : Option (Nat × Tn)} (hs : ShO o) : (nodesO o).length ≤ (itemsO o).length := by
  rcases o with _ | ⟨h, t⟩
  · exact Nat.le_refl _
  · exact lay_few h t hs 0
theorem good_put {o : Option (Nat × Tn)} (g : Good o) {key : ByteArray} (val : Int) (hk : key.size ≤ 60) (hroom : (lookL key (itemsO o)).isSome = true ∨ (itemsO o).length < 100) : Good (growO key val o) := by
  have hi := growO_items key val o g.sh g.asc
  refine ⟨growO_sh key val o g.sh, by rw [hi]; exact putL_asc g.asc, fun p hp => ?_, ?_⟩
  · rw [hi] at hp
    rcases putL_mem hp with rfl | hp
    · exact hk
    · exact g.keys p hp
  · rw [hi, putL_len g.asc]
    have := g.few
    rcases hroom with h | h
    · rw [if_pos h]; exact this
    · split <;> omega
theorem put_good {o : Option (Nat × Tn)} (g : Good o) {key : ByteArray} (val : Int) (hk : key.size ≤ 60) (hroom : (lookL key (itemsO o)).isSome = true ∨ (itemsO o).length < 100) :
    PC Try.prog 9 [treeO o, strD key, iD val] (.tu [treeO (growO key val o), iD 0]) := by
  have g2 := good_put g val hk hroom
  have h2 := layO_few g2.sh
  have h3 := g2.few
  rcases o with _ | ⟨h, t⟩
  · exact put_nil key val hk
  · refine put_ok key val (layN 0 t) h t hk (check_good g) g.sh (lies_0 t) g.few ?_ (by omega)
    rw [find_items key h t g.sh g.asc]
    show (∃ v, lookL key (itemsO (some (h, t))) = some v) ∨ _
    rcases hl : lookL key (itemsO (some (h, t))) with _ | v
    · rw [hl] at hroom
      rcases hroom with h | h
      · cases h
      · exact .inr ⟨hl, h⟩
    · exact .inl ⟨v, rfl⟩
theorem full_good {o : Option (Nat × Tn)} (g : Good o) {key : ByteArray} (val : Int) (hk : key.size ≤ 60) (hno : lookL key (itemsO o) = none) (hl : (itemsO o).length = 100) :
    PC Try.prog 9 [treeO o, strD key, iD val] (.tu [treeD [], iD 9]) := by
  rcases o with _ | ⟨h, t⟩
  · cases hl
  · exact put_full key val (layN 0 t) h t hk (check_good g) g.sh (lies_0 t) hl (by rw [find_items key h t g.sh g.asc]; exact hno)
def cutO (key : ByteArray) : Option (Nat × Tn) → Option (Nat × Tn)
  | none => none
  | some (_, t) => foldS (fun s k v => cutS key s k v) none (items t)
def cutL (key : ByteArray) (l : Pairs) : Pairs := l.filter fun p => !(p.1.toList == key.toList)
theorem cut_fold (key : ByteArray) : ∀ (l : Pairs) (s : Option (Nat × Tn)), ShO s → Asc (itemsO s) → Asc l → (∀ p ∈ itemsO s, ∀ q ∈ l, ltB p.1 q.1 = true) → ShO (foldS (fun s k v => cutS key s k v) s l) ∧ itemsO (foldS (fun s k v => cutS key s k v) s l) = itemsO s ++ cutL key l
  | [], s, h1, _, _, _ => ⟨h1, (List.append_nil _).symm⟩
  | (k, v) :: l, s, h1, h2, h3, h4 => by
    obtain ⟨a1, a2⟩ := List.pairwise_cons.1 h3
    show ShO (foldS (fun s k v => cutS key s k v) (cutS key s k v) l) ∧ itemsO (foldS (fun s k v => cutS key s k v) (cutS key s k v) l) = _
    unfold cutS cutL
    rw [List.filter_cons]
    by_cases he : (k.toList == key.toList) = true
    · rw [if_pos he, if_neg (by simp [he])]
      exact cut_fold key l s h1 h2 a2 fun p hp q hq => h4 p hp q (List.mem_cons_of_mem _ hq)
    · have hall : ∀ p ∈ itemsO s, ltB p.1 k = true := fun p hp => h4 p hp (k, v) (by simp)
      have hi : itemsO (growO k v s) = itemsO s ++ [(k, v)] := by rw [growO_items k v s h1 h2, putL_end hall]
      rw [if_neg he, if_pos (by simpa using he)]
      obtain ⟨q1, q2⟩ := cut_fold key l (growO k v s) (growO_sh k v s h1) (by rw [growO_items k v s h1 h2]; exact putL_asc h2) a2 (fun p hp q hq => by
        rw [hi] at hp
        rcases List.mem_append.1 hp with hp | hp
        · exact h4 p hp q (List.mem_cons_of_mem _ hq)
        · rw [List.mem_singleton.1 hp]; exact a1 q hq)
      refine ⟨q1, ?_⟩
      have q2 : itemsO (foldS (fun s k v => cutS key s k v) (growO k v s) l) = itemsO (growO k v s) ++ cutL key l := q2
      show itemsO (foldS (fun s k v => cutS key s k v) (growO k v s) l) = _
      rw [q2, hi, List.append_assoc]
      rfl
theorem cutO_items {o : Option (Nat × Tn)} (g : Good o) (key : ByteArray) : ShO (cutO key o) ∧ itemsO (cutO key o) = cutL key (itemsO o) := by
  rcases o with _ | ⟨h, t⟩
  · exact ⟨trivial, rfl⟩
  · obtain ⟨h1, h2⟩ := cut_fold key (items t) none trivial List.Pairwise.nil g.asc fun p hp => by cases hp
    exact ⟨h1, by rw [show itemsO (cutO key (some (h, t))) = _ from h2]; rfl⟩
theorem good_cut {o : Option (Nat × Tn)} (g : Good o) (key : ByteArray) : Good (cutO key o) := by
  obtain ⟨h1, h2⟩ := cutO_items g key
  refine ⟨h1, ?_, fun p hp => ?_, ?_⟩
  · rw [h2]; exact g.asc.filter _
  · rw [h2] at hp; exact g.keys p (List.mem_filter.1 hp).1
  · rw [h2]; exact Nat.le_trans (List.length_filter_le _ _) g.few
theorem cut_good {o : Option (Nat × Tn)} (g : Good o) {key : ByteArray} {v : Int} (hl : lookL key (itemsO o) = some v) : PC Try.prog 16 [treeO o, strD key] (.tu [treeO (cutO key o), iD 0]) := by
  have g2 := good_cut g key
  have h2 := layO_few g2.sh
  have h3 := g2.few
  have f1 := find_good g key
  rw [hl] at f1
  rcases o with _ | ⟨h, t⟩
  · cases hl
  · exact cut_ok key v (layN 0 t) h t f1 g.sh (lies_0 t) (by show (nodesO (cutO key (some (h, t)))).length ≤ _; omega)
theorem cut_miss {o : Option (Nat × Tn)} (g : Good o) {key : ByteArray} (hl : lookL key (itemsO o) = none) : PC Try.prog 16 [treeO o, strD key] (.tu [treeD [], iD 5]) := by
  have f1 := find_good g key
  rw [hl] at f1
  exact cut_none_of key (nodesO o) f1
def spanL (fr to : ByteArray) (l : Pairs) : Pairs := l.filter fun p => leB fr p.1 && leB p.1 to
def pairsD (l : Pairs) : D := .sl 2 (l.map pairE)
theorem list_fold (fr to : ByteArray) : ∀ (l : Pairs) (s : List (List D)), foldS (fun s k v => listS fr to s k v) s l = s ++ (spanL fr to l).map pairE
  | [], s => (List.append_nil _).symm
  | (k, v) :: l, s => by
    show foldS (fun s k v => listS fr to s k v) (listS fr to s k v) l = _
    rw [list_fold fr to l]
    unfold listS spanL
    rw [List.filter_cons]
    by_cases h : (leB fr k && leB k to) = true
    · rw [if_pos h, if_pos h, List.append_assoc]; rfl
    · rw [if_neg h, if_neg h]
theorem list_good {o : Option (Nat × Tn)} (g : Good o) (fr to : ByteArray) : PC Try.prog 14 [treeO o, strD fr, strD to] (.tu [pairsD (spanL fr to (itemsO o)), iD 0]) := by
  rcases o with _ | ⟨h, t⟩
  · exact list_nil fr to
  · have hf := g.few
    have := list_ok fr to (layN 0 t) h t (check_good g) g.sh (lies_0 t) (Nat.le_trans hf (by omega))
    rw [list_fold] at this
    exact this
theorem good_nil : Good none := ⟨trivial, List.Pairwise.nil, fun _ h => (by cases h), Nat.zero_le _⟩
end Go.Proofs.Ytobgjkkadnihjaa

