/-
  What a tree holds behind put. No condition but the shape and the order.
-/
import Derived.Test.YtobgjkkadnihjaaZTrKey
import Derived.Test.YtobgjkkadnihjaaZTrFnd
import Derived.Test.YtobgjkkadnihjaaZTrCl2
namespace Go.Proofs.Ytobgjkkadnihjaa
set_option linter.unusedSimpArgs false
set_option linter.unusedVariables false

abbrev Pairs := List (ByteArray × Int)
theorem weave_put (key : ByteArray) (val : Int) : ∀ (ks : List ByteArray) (vs : List Int) (ls : List Pairs), vs.length = ks.length → ls.length = ks.length + 1 → Asc (weave (ks.zip vs) ls) →
    ((seekF key ks).2 = true → putL key val (weave (ks.zip vs) ls) = weave (ks.zip (vs.set (seekF key ks).1 val)) ls ∧ lookL key (weave (ks.zip vs) ls) = some (vs.getD (seekF key ks).1 0)) ∧
    ((seekF key ks).2 = false → putL key val (weave (ks.zip vs) ls) = weave (ks.zip vs) (ls.set (seekF key ks).1 (putL key val (ls.getD (seekF key ks).1 []))) ∧ lookL key (weave (ks.zip vs) ls) = lookL key (ls.getD (seekF key ks).1 []) ∧ Asc (ls.getD (seekF key ks).1 []))
  | [], vs, [l], hv, hl, h => ⟨fun hb => by simp [seekF] at hb, fun _ => ⟨rfl, rfl, h⟩⟩
  | k :: ks, v :: vs, l :: ls, hv, hl, h => by
    have hw : weave ((k :: ks).zip (v :: vs)) (l :: ls) = l ++ (k, v) :: weave (ks.zip vs) ls := rfl
    rw [hw] at h ⊢
    obtain ⟨a1, a2, a3⟩ := List.pairwise_append.1 h
    obtain ⟨a4, a5⟩ := List.pairwise_cons.1 a2
    have hlk : ∀ p ∈ l, ltB p.1 k = true := fun p hp => a3 p hp (k, v) (by simp)
    rcases cmp_cases key k with ⟨h1, h2⟩ | ⟨rfl, h2⟩ | ⟨h1, h2⟩
    · have hs : seekF key (k :: ks) = (0, false) := by rw [seekF, h2, if_pos (by decide)]; rfl
      rw [hs]
      refine ⟨fun hb => (by cases hb), fun _ => ⟨putL_before h1, ?_, a1⟩⟩
      refine lookL_before fun p hp e => ?_
      rcases List.mem_cons.1 hp with rfl | hp
      · exact lt_ne h1 e.symm
      · exact lt_ne (lt_trans h1 (a4 p hp)) e.symm
    · have hs : seekF key (key :: ks) = (0, true) := by rw [seekF, h2, if_pos (by decide)]; rfl
      rw [hs]
      refine ⟨fun _ => ⟨putL_here hlk, ?_⟩, fun hb => (by cases hb)⟩
      rw [lookL_after fun p hp => lt_ne (hlk p hp), lookL, h2, if_pos rfl]
      rfl
    · have hs : seekF key (k :: ks) = ((seekF key ks).1 + 1, (seekF key ks).2) := by rw [seekF, h2, if_neg (by decide)]
      obtain ⟨i1, i2⟩ := weave_put key val ks vs ls (by simpa using hv) (by simpa using hl) a5
      have hl2 : ∀ p ∈ l, ltB p.1 key = true := fun p hp => lt_trans (hlk p hp) h1
      have e1 : putL key val (l ++ (k, v) :: weave (ks.zip vs) ls) = l ++ (k, v) :: putL key val (weave (ks.zip vs) ls) := by
        rw [putL_after hl2, putL, h2, if_neg (by decide), if_neg (by decide)]
      have e2 : lookL key (l ++ (k, v) :: weave (ks.zip vs) ls) = lookL key (weave (ks.zip vs) ls) := by
        rw [lookL_after fun p hp => lt_ne (hl2 p hp), lookL, h2, if_neg (by decide)]
      rw [hs, e1, e2]
      refine ⟨fun hb => ?_, fun hb => ?_⟩
      · obtain ⟨j1, j2⟩ := i1 hb
        rw [j1, j2]
        exact ⟨rfl, rfl⟩
      · obtain ⟨j1, j2, j3⟩ := i2 hb
        rw [j1, j2]
        exact ⟨rfl, rfl, j3⟩
theorem leaf_put (key : ByteArray) (val : Int) : ∀ (ks : List ByteArray) (vs : List Int), vs.length = ks.length → Asc (ks.zip vs) →
    ((seekF key ks).2 = true → putL key val (ks.zip vs) = ks.zip (vs.set (seekF key ks).1 val) ∧ lookL key (ks.zip vs) = some (vs.getD (seekF key ks).1 0)) ∧
    ((seekF key ks).2 = false → putL key val (ks.zip vs) = (insL ks (seekF key ks).1 key).zip (insL vs (seekF key ks).1 val) ∧ lookL key (ks.zip vs) = none)
  | [], [], hv, h => ⟨fun hb => by simp [seekF] at hb, fun _ => ⟨rfl, rfl⟩⟩
  | k :: ks, v :: vs, hv, h => by
    have hw : (k :: ks).zip (v :: vs) = (k, v) :: ks.zip vs := rfl
    rw [hw] at h ⊢
    obtain ⟨a4, a5⟩ := List.pairwise_cons.1 h
    rcases cmp_cases key k with ⟨h1, h2⟩ | ⟨rfl, h2⟩ | ⟨h1, h2⟩
    · have hs : seekF key (k :: ks) = (0, false) := by rw [seekF, h2, if_pos (by decide)]; rfl
      rw [hs]
      refine ⟨fun hb => (by cases hb), fun _ => ⟨by rw [putL, h2, if_pos (by decide)]; rfl, ?_⟩⟩
      refine lookL_none fun p hp e => ?_
      rcases List.mem_cons.1 hp with rfl | hp
      · exact lt_ne h1 e.symm
      · exact lt_ne (lt_trans h1 (a4 p hp)) e.symm
    · have hs : seekF key (key :: ks) = (0, true) := by rw [seekF, h2, if_pos (by decide)]; rfl
      rw [hs]
      refine ⟨fun _ => ⟨by rw [putL, h2, if_neg (by decide), if_pos rfl]; rfl, ?_⟩, fun hb => (by cases hb)⟩
      rw [lookL, h2, if_pos rfl]
      rfl
    · have hs : seekF key (k :: ks) = ((seekF key ks).1 + 1, (seekF key ks).2) := by rw [seekF, h2, if_neg (by decide)]
      obtain ⟨i1, i2⟩ := leaf_put key val ks vs (by simpa using hv) a5
      rw [hs, putL, lookL, h2, if_neg (by decide), if_neg (by decide), if_neg (by decide)]
      refine ⟨fun hb => ?_, fun hb => ?_⟩
      · obtain ⟨j1, j2⟩ := i1 hb
        rw [j1, j2]
        exact ⟨rfl, rfl⟩
      · obtain ⟨j1, j2⟩ := i2 hb
        rw [j1, j2]
        exact ⟨rfl, rfl⟩
theorem weave_ins (m : ByteArray) (v : Int) (l1 l2 : Pairs) : ∀ (i : Nat) (ks : List ByteArray) (vs : List Int) (ls : List Pairs), i ≤ ks.length → vs.length = ks.length → ls.length = ks.length + 1 →
    weave ((insL ks i m).zip (insL vs i v)) (insL (ls.set i l1) (i + 1) l2) = weave (ks.zip vs) (ls.set i (l1 ++ (m, v) :: l2))
  | 0, [], [], [l], _, _, _ => rfl
  | 0, k :: ks, w :: vs, l :: ls, _, _, _ => by
    show l1 ++ (m, v) :: (l2 ++ (k, w) :: weave (ks.zip vs) ls) = (l1 ++ (m, v) :: l2) ++ (k, w) :: weave (ks.zip vs) ls
    simp
  | i + 1, k :: ks, w :: vs, l :: ls, h1, h2, h3 => by
    have ih := weave_ins m v l1 l2 i ks vs ls (by simpa using h1) (by simpa using h2) (by simpa using h3)
    show l ++ (k, w) :: weave ((insL ks i m).zip (insL vs i v)) (insL (ls.set i l1) (i + 1) l2) = l ++ (k, w) :: weave (ks.zip vs) (ls.set i (l1 ++ (m, v) :: l2))
    rw [ih]
def joined : Tn × Option (ByteArray × Int × Tn) → Pairs
  | (t, none) => items t
  | (t, some (m, v, r)) => items t ++ (m, v) :: items r
theorem split_items (ks : List ByteArray) (vs : List Int) (ts : List Tn) : joined (splitN ks vs ts) = items (.node ks vs ts) := by
  unfold splitN
  split
  · simp [joined, items, itemsF, weave]
  · simp [joined, items, itemsF, weave]
  · rfl
theorem itemsF_set (ts : List Tn) (i : Nat) (t : Tn) : itemsF (ts.set i t) = (itemsF ts).set i (items t) := by rw [itemsF_map, itemsF_map, List.map_set]
theorem itemsF_ins (ts : List Tn) (i : Nat) (t : Tn) : itemsF (insL ts i t) = insL (itemsF ts) i (items t) := by rw [itemsF_map, itemsF_map, insL_map]; rfl
theorem itemsF_getD {ts : List Tn} {i : Nat} (h : i < ts.length) : (itemsF ts).getD i [] = items (ts.getD i noTn) := by
  rw [itemsF_map, List.getD_eq_getElem?_getD, List.getElem?_map, List.getElem?_eq_getElem h, List.getD_eq_getElem?_getD, List.getElem?_eq_getElem h]
  rfl
theorem putH_items (key : ByteArray) (val : Int) : ∀ (h : Nat) (t : Tn), Sh h t → Asc (items t) → joined (putH key val h t) = putL key val (items t)
  | 0, .node ks vs ts, hs, ha => by
    obtain ⟨h1, h2, h3, rfl⟩ := hs
    rw [items, itemsF, weave_leaf] at ha ⊢
    obtain ⟨i1, i2⟩ := leaf_put key val ks vs h1 ha
    unfold putH
    split
    · rename_i hb
      rw [(i1 hb).1]
      show items _ = _
      rw [items, itemsF, weave_leaf]
    · rename_i hb
      have hb2 : (seekF key ks).2 = false := by simpa using hb
      rw [(i2 hb2).1]
      show joined (splitN _ _ _) = _
      rw [split_items, items, itemsF, weave_leaf]
  | h + 1, .node ks vs ts, hs, ha => by
    obtain ⟨h1, h2, h3, h4, h5⟩ := hs
    rw [items] at ha ⊢
    obtain ⟨i1, i2⟩ := weave_put key val ks vs (itemsF ts) h1 (by rw [itemsF_len]; exact h4) ha
    have hle := seekF_le key ks
    unfold putH
    split
    · rename_i hb
      rw [(i1 hb).1]
      show items _ = _
      rw [items]
    · rename_i hb
      have hb2 : (seekF key ks).2 = false := by simpa using hb
      obtain ⟨j1, _, j3⟩ := i2 hb2
      rw [j1]
      rw [itemsF_getD (by omega)] at j3 ⊢
      have hmem : ts.getD (seekF key ks).1 noTn ∈ ts := by
        rw [List.getD_eq_getElem?_getD, List.getElem?_eq_getElem (by omega), Option.getD_some]
        exact List.getElem_mem _
      have ih := putH_items key val h _ (h5 _ hmem) j3
      rw [← ih]
      dsimp only
      rcases ho : putH key val h (ts.getD (seekF key ks).1 noTn) with ⟨t1, o⟩
      rcases o with _ | ⟨m, v, r⟩
      · show items _ = weave _ ((itemsF ts).set _ (items t1))
        rw [items, itemsF_set]
      · show joined (splitN _ _ _) = weave _ ((itemsF ts).set _ (items t1 ++ (m, v) :: items r))
        rw [split_items, items, itemsF_ins, itemsF_set]
        exact weave_ins m v _ _ _ ks vs (itemsF ts) hle h1 (by rw [itemsF_len]; exact h4)
theorem find_items (key : ByteArray) : ∀ (h : Nat) (t : Tn), Sh h t → Asc (items t) → findH key h t = lookL key (items t)
  | 0, .node ks vs ts, hs, ha => by
    obtain ⟨h1, h2, h3, rfl⟩ := hs
    rw [items, itemsF, weave_leaf] at ha ⊢
    obtain ⟨i1, i2⟩ := leaf_put key 0 ks vs h1 ha
    unfold findH
    split
    · rename_i hb; rw [(i1 hb).2]
    · rename_i hb; rw [(i2 (by simpa using hb)).2]
  | h + 1, .node ks vs ts, hs, ha => by
    obtain ⟨h1, h2, h3, h4, h5⟩ := hs
    rw [items] at ha ⊢
    obtain ⟨i1, i2⟩ := weave_put key 0 ks vs (itemsF ts) h1 (by rw [itemsF_len]; exact h4) ha
    have hle := seekF_le key ks
    unfold findH
    split
    · rename_i hb; rw [(i1 hb).2]
    · rename_i hb
      obtain ⟨_, j2, j3⟩ := i2 (by simpa using hb)
      rw [j2]
      rw [itemsF_getD (by omega)] at j3 ⊢
      have hmem : ts.getD (seekF key ks).1 noTn ∈ ts := by
        rw [List.getD_eq_getElem?_getD, List.getElem?_eq_getElem (by omega), Option.getD_some]
        exact List.getElem_mem _
      exact find_items key h _ (h5 _ hmem) j3
def itemsO : Option (Nat × Tn) → Pairs
  | none => []
  | some (_, t) => items t
theorem growO_items (key : ByteArray) (val : Int) (o : Option (Nat × Tn)) (hs : ShO o) (ha : Asc (itemsO o)) : itemsO (growO key val o) = putL key val (itemsO o) := by
  rcases o with _ | ⟨h, t⟩
  · rfl
  · have := putH_items key val h t hs ha
    show _ = putL key val (items t)
    rw [← this]
    unfold growO
    rcases ho : putH key val h t with ⟨t1, q⟩
    rcases q with _ | ⟨m, v, r⟩
    · simp only [ho]; rfl
    · simp only [ho]
      show items _ = _
      simp [joined, items, itemsF, weave]
end Go.Proofs.Ytobgjkkadnihjaa

