/-
  What a tree holds behind put. No condition but the shape and the order.
-/
import Derived.Test.YtfplkakfakdfhaaDoorZM12
import Derived.Test.YtfplkakfakdfhaaDoorZM17
import Derived.Test.YtfplkakfakdfhaaDoorZM15
namespace Go.Proofs.YtfplkakfakdfhaaDoor
set_option linter.unusedSimpArgs false
set_option linter.unusedVariables false

theorem weave_put (key : ByteArray) (val : Int) : ∀ (ks : List ByteArray) (vs : List Int) (ls : List Pairs), vs.length = ks.length → ls.length = ks.length + 1 → Asc (weave (ks.zip vs) ls) →
    ((seekF key ks).2 = true → putL key val (weave (ks.zip vs) ls) = weave (ks.zip (vs.set (seekF key ks).1 val)) ls ∧ lookL key (weave (ks.zip vs) ls) = some (vs.getD (seekF key ks).1 0)) ∧
    ((seekF key ks).2 = false → putL key val (weave (ks.zip vs) ls) = weave (ks.zip vs) (ls.set (seekF key ks).1 (putL key val (ls.getD (seekF key ks).1 []))) ∧ lookL key (weave (ks.zip vs) ls) = lookL key (ls.getD (seekF key ks).1 []) ∧ Asc (ls.getD (seekF key ks).1 []))
  | [], vs, [l], hv, hl, h => ⟨fun hb => by simp [seekF] at hb, fun _ => ⟨rfl, rfl, h⟩⟩
  | k :: ks, v :: vs, l :: ls, hv, hl, h => by
    have hw : weave ((k :: ks).zip (v :: vs)) (l :: ls) = l ++ (k, v) :: weave (ks.zip vs) ls := rfl
    rw [hw] at h ⊢
    obtain ⟨a1, a2, a3⟩ := List.pairwise_append.1 h
    obtain ⟨a4, a5⟩ := List.pairwise_cons.1 a2
    have hlk : ∀ p ∈ l, ltB p.1 k = true := fun p hp => a3 p hp (k, v) (by simp)
    rcases cmp_cases key k with ⟨h1, h2⟩ | ⟨rfl, h2⟩ | ⟨h1, h2⟩
    · have hs : seekF key (k :: ks) = (0, false) := by rw [seekF, h2, if_pos (by decide)]; rfl
      rw [hs]
      refine ⟨fun hb => (by cases hb), fun _ => ⟨putL_before h1, ?_, a1⟩⟩
      refine lookL_before fun p hp e => ?_
      rcases List.mem_cons.1 hp with rfl | hp
      · exact lt_ne h1 e.symm
      · exact lt_ne (lt_trans h1 (a4 p hp)) e.symm
    · have hs : seekF key (key :: ks) = (0, true) := by rw [seekF, h2, if_pos (by decide)]; rfl
      rw [hs]
      refine ⟨fun _ => ⟨putL_here hlk, ?_⟩, fun hb => (by cases hb)⟩
      rw [lookL_after fun p hp => lt_ne (hlk p hp), lookL, h2, if_pos rfl]
      rfl
    · have hs : seekF key (k :: ks) = ((seekF key ks).1 + 1, (seekF key ks).2) := by rw [seekF, h2, if_neg (by decide)]
      obtain ⟨i1, i2⟩ := weave_put key val ks vs ls (by simpa using hv) (by simpa using hl) a5
      have hl2 : ∀ p ∈ l, ltB p.1 key = true := fun p hp => lt_trans (hlk p hp) h1
      have e1 : putL key val (l ++ (k, v) :: weave (ks.zip vs) ls) = l ++ (k, v) :: putL key val (weave (ks.zip vs) ls) := by
        rw [putL_after hl2, putL, h2, if_neg (by decide), if_neg (by decide)]
      have e2 : lookL key (l ++ (k, v) :: weave (ks.zip vs) ls) = lookL key (weave (ks.zip vs) ls) := by
        rw [lookL_after fun p hp => lt_ne (hl2 p hp), lookL, h2, if_neg (by decide)]
      rw [hs, e1, e2]
      refine ⟨fun hb => ?_, fun hb => ?_⟩
      · obtain ⟨j1, j2⟩ := i1 hb
        rw [j1, j2]
        exact ⟨rfl, rfl⟩
      · obtain ⟨j1, j2, j3⟩ := i2 hb
        rw [j1, j2]
        exact ⟨rfl, rfl, j3⟩
theorem leaf_put (key : ByteArray) (val : Int) : ∀ (ks : List ByteArray) (vs : List Int), vs.length = ks.length → Asc (ks.zip vs) →
    ((seekF key ks).2 = true → putL key val (ks.zip vs) = ks.zip (vs.set (seekF key ks).1 val) ∧ lookL key (ks.zip vs) = some (vs.getD (seekF key ks).1 0)) ∧
    ((seekF key ks).2 = false → putL key val (ks.zip vs) = (insL ks (seekF key ks).1 key).zip (insL vs (seekF key ks).1 val) ∧ lookL key (ks.zip vs) = none)
  | [], [], hv, h => ⟨fun hb => by simp [seekF] at hb, fun _ => ⟨rfl, rfl⟩⟩
  | k :: ks, v :: vs, hv, h => by
    have hw : (k :: ks).zip (v :: vs) = (k, v) :: ks.zip vs := rfl
    rw [hw] at h ⊢
    obtain ⟨a4, a5⟩ := List.pairwise_cons.1 h
    rcases cmp_cases key k with ⟨h1, h2⟩ | ⟨rfl, h2⟩ | ⟨h1, h2⟩
    · have hs : seekF key (k :: ks) = (0, false) := by rw [seekF, h2, if_pos (by decide)]; rfl
      rw [hs]
      refine ⟨fun hb => (by cases hb), fun _ => ⟨by rw [putL, h2, if_pos (by decide)]; rfl, ?_⟩⟩
      refine lookL_none fun p hp e => ?_
      rcases List.mem_cons.1 hp with rfl | hp
      · exact lt_ne h1 e.symm
      · exact lt_ne (lt_trans h1 (a4 p hp)) e.symm
    · have hs : seekF key (key :: ks) = (0, true) := by rw [seekF, h2, if_pos (by decide)]; rfl
      rw [hs]
      refine ⟨fun _ => ⟨by rw [putL, h2, if_neg (by decide), if_pos rfl]; rfl, ?_⟩, fun hb => (by cases hb)⟩
      rw [lookL, h2, if_pos rfl]
      rfl
    · have hs : seekF key (k :: ks) = ((seekF key ks).1 + 1, (seekF key ks).2) := by rw [seekF, h2, if_neg (by decide)]
      obtain ⟨i1, i2⟩ := leaf_put key val ks vs (by simpa using hv) a5
      rw [hs, putL, lookL, h2, if_neg (by decide), if_neg (by decide), if_neg (by decide)]
      refine ⟨fun hb => ?_, fun hb => ?_⟩
      · obtain ⟨j1, j2⟩ := i1 hb
        rw [j1, j2]
        exact ⟨rfl, rfl⟩
      · obtain ⟨j1, j2⟩ := i2 hb
        rw [j1, j2]
        exact ⟨rfl, rfl⟩
theorem weave_ins (m : ByteArray) (v : Int) (l1 l2 : Pairs) : ∀ (i : Nat) (ks : List ByteArray) (vs : List Int) (ls : List Pairs), i ≤ ks.length → vs.length = ks.length → ls.length = ks.length + 1 →
    weave ((insL ks i m).zip (insL vs i v)) (insL (ls.set i l1) (i + 1) l2) = weave (ks.zip vs) (ls.set i (l1 ++ (m, v) :: l2))
  | 0, [], [], [l], _, _, _ => rfl
  | 0, k :: ks, w :: vs, l :: ls, _, _, _ => by
    show l1 ++ (m, v) :: (l2 ++ (k, w) :: weave (ks.zip vs) ls) = (l1 ++ (m, v) :: l2) ++ (k, w) :: weave (ks.zip vs) ls
    simp
  | i + 1, k :: ks, w :: vs, l :: ls, h1, h2, h3 => by
    have ih := weave_ins m v l1 l2 i ks vs ls (by simpa using h1) (by simpa using h2) (by simpa using h3)
    show l ++ (k, w) :: weave ((insL ks i m).zip (insL vs i v)) (insL (ls.set i l1) (i + 1) l2) = l ++ (k, w) :: weave (ks.zip vs) (ls.set i (l1 ++ (m, v) :: l2))
    rw [ih]
def joined : Tn × Option (ByteArray × Int × Tn) → Pairs
  | (t, none) => items t
  | (t, some (m, v, r)) => items t ++ (m, v) :: items r
theorem split_items (ks : List ByteArray) (vs : List Int) (ts : List Tn) : joined (splitN ks vs ts) = items (.node ks vs ts) := by
  unfold splitN
  split
  · simp [joined, items, itemsF, weave]
  · simp [joined, items, itemsF, weave]
  · rfl
theorem itemsF_set (ts : List Tn) (i : Nat) (t : Tn) : itemsF (ts.set i t) = (itemsF ts).set i (items t) := by rw [itemsF_map, itemsF_map, List.map_set]
theorem itemsF_ins (ts : List Tn) (i : Nat) (t : Tn) : itemsF (insL ts i t) = insL (itemsF ts) i (items t) := by rw [itemsF_map, itemsF_map, insL_map]; rfl
theorem itemsF_getD {ts : List Tn} {i : Nat} (h : i < ts.length) : (itemsF ts).getD i [] = items (ts.getD i noTn) := by
  rw [itemsF_map, List.getD_eq_getElem?_getD, List.getElem?_map, List.getElem?_eq_getElem h, List.getD_eq_getElem?_getD, List.getElem?_eq_getElem h]
  rfl
theorem putH_items (key : ByteArray) (val : Int) : ∀ (h : Nat) (t : Tn), Sh h t → Asc (items t) → joined (putH key val h t) = putL key val (items t)
  | 0, .node ks vs ts, hs, ha => by
    obtain ⟨h1, h2, h3, rfl⟩ := hs
    rw [items, itemsF, weave_leaf] at ha ⊢
    obtain ⟨i1, i2⟩ := leaf_put key val ks vs h1 ha
    unfold putH
    split
    · rename_i hb
      rw [(i1 hb).1]
      show items _ = _
      rw [items, itemsF, weave_leaf]
    · rename_i hb
      have hb2 : (seekF key ks).2 = false := by simpa using hb
      rw [(i2 hb2).1]
      show joined (splitN _ _ _) = _
      rw [split_items, items, itemsF, weave_leaf]
  | h + 1, .node ks vs ts, hs, ha => by
    obtain ⟨h1, h2, h3, h4, h5⟩ := hs
    rw [items] at ha ⊢
    obtain ⟨i1, i2⟩ := weave_put key val ks vs (itemsF ts) h1 (by rw [itemsF_len]; exact h4) ha
    have hle := seekF_le key ks
    unfold putH
    split
    · rename_i hb
      rw [(i1 hb).1]
      show items _ = _
      rw [items]
    · rename_i hb
      have hb2 : (seekF key ks).2 = false := by simpa using hb
      obtain ⟨j1, _, j3⟩ := i2 hb2
      rw [j1]
      rw [itemsF_getD (by omega)] at j3 ⊢
      have hmem : ts.getD (seekF key ks).1 noTn ∈ ts := by
        rw [List.getD_eq_getElem?_getD, List.getElem?_eq_getElem (by omega), Option.getD_some]
        exact List.getElem_mem _
      have ih := putH_items key val h _ (h5 _ hmem) j3
      rw [← ih]
      dsimp only
      rcases ho : putH key val h (ts.getD (seekF key ks).1 noTn) with ⟨t1, o⟩
      rcases o with _ | ⟨m, v, r⟩
      · show items _ = weave _ ((itemsF ts).set _ (items t1))
        rw [items, itemsF_set]
      · show joined (splitN _ _ _) = weave _ ((itemsF ts).set _ (items t1 ++ (m, v) :: items r))
        rw [split_items, items, itemsF_ins, itemsF_set]
        exact weave_ins m v _ _ _ ks vs (itemsF ts) hle h1 (by rw [itemsF_len]; exact h4)
theorem find_items (key : ByteArray) : ∀ (h : Nat) (t : Tn), Sh h t → Asc (items t) → findH key h t = lookL key (items t)
  | 0, .node ks vs ts, hs, ha => by
    obtain ⟨h1, h2, h3, rfl⟩ := hs
    rw [items, itemsF, weave_leaf] at ha ⊢
    obtain ⟨i1, i2⟩ := leaf_put key 0 ks vs h1 ha
    unfold findH
    split
    · rename_i hb; rw [(i1 hb).2]
    · rename_i hb; rw [(i2 (by simpa using hb)).2]
  | h + 1, .node ks vs ts, hs, ha => by
    obtain ⟨h1, h2, h3, h4, h5⟩ := hs
    rw [items] at ha ⊢
    obtain ⟨i1, i2⟩ := weave_put key 0 ks vs (itemsF ts) h1 (by rw [itemsF_len]; exact h4) ha
    have hle := seekF_le key ks
    unfold findH
    split
    · rename_i hb; rw [(i1 hb).2]
    · rename_i hb
      obtain ⟨_, j2, j3⟩ := i2 (by simpa using hb)
      rw [j2]
      rw [itemsF_getD (by omega)] at j3 ⊢
      have hmem : ts.getD (seekF key ks).1 noTn ∈ ts := by
        rw [List.getD_eq_getElem?_getD, List.getElem?_eq_getElem (by omega), Option.getD_some]
        exact List.getElem_mem _
      exact find_items key h _ (h5 _ hmem) j3
def itemsO : Option (Nat × Tn) → Pairs
  | none => []
  | some (_, t) => items t
theorem growO_items (key : ByteArray) (val : Int) (o : Option (Nat × Tn)) (hs : ShO o) (ha : Asc (itemsO o)) : itemsO (growO key val o) = putL key val (itemsO o) := by
  rcases o with _ | ⟨h, t⟩
  · rfl
  · have := putH_items key val h t hs ha
    show _ = putL key val (items t)
    rw [← this]
    unfold growO
    rcases ho : putH key val h t with ⟨t1, q⟩
    rcases q with _ | ⟨m, v, r⟩
    · simp only [ho]; rfl
    · simp only [ho]
      show items _ = _
      simp [joined, items, itemsF, weave]
end Go.Proofs.YtfplkakfakdfhaaDoor


/-
  each: with the closure of one caller. No condition but the shape.
-/
namespace Go.Proofs.YtfplkakfakdfhaaDoor
set_option linter.unusedSimpArgs false
set_option linter.unusedVariables false
open Go.RowKit

abbrev EachPX_l (fr tq : ByteArray) (s0 : List (List D)) (t : Tn) (s9 : List (List D)) : Prop :=
  PX Tryd.prog 25 [.px 1000 0, .fn (.func 31) [] [.px 1001 0, .px 1002 0, .px 1003 0]] [(1000, .res (treeR TQ t)), (1001, .var 9 [.d (strD fr)]), (1002, .var 9 [.d (strD tq)]), (1003, .var 57 [.ow 2000 (s0).length])] [(2000, .row 61 2 (s0))] (.tu []) [(1000, .res (treeR TQ t)), (1001, .var 9 [.d (strD fr)]), (1002, .var 9 [.d (strD tq)]), (1003, .var 57 [.ow 2000 (s9).length])] [(2000, .row 61 2 (s9))]
theorem each_l_leaf (fr tq : ByteArray) (s0 s9 : List (List D)) (ks : List ByteArray) (vs : List Int) (hks : ks.length ≤ 3) (hvs : vs.length = ks.length) (hI : (fun (s : List (List D)) (l : List (ByteArray × Int)) => s.length + l.length ≤ 100000) s0 (ks.zip vs)) (hF : foldS (fun (s : List (List D)) (k : ByteArray) (v : Int) => listS fr tq s k v) s0 (ks.zip vs) = s9) : EachPX_l fr tq s0 (.node ks vs []) s9 := by
  unfold EachPX_l
  have hstep : ∀ s k v r, (fun (s : List (List D)) (l : List (ByteArray × Int)) => s.length + l.length ≤ 100000) s ((k, v) :: r) → (fun (s : List (List D)) (l : List (ByteArray × Int)) => s.length + l.length ≤ 100000) ((fun (s : List (List D)) (k : ByteArray) (v : Int) => listS fr tq s k v) s k v) r := fun s k v r h => listS_len fr tq s k v r h
  refine pxf_of_aw Tryd.func25 rfl (by kernel_rfl) mixed (by kernel_rfl) (by rw [Tryd.ntmps25]; exact Nat.le_of_ble_eq_true rfl) Tryd.results25 rfl ?_
  repeat (with_reducible apply aw_seq)
  repeat (first | (refine aw_exR1 (id := 1) mixed (fun C ac w h => ent_open (Q := TQ) 1000 3001 3002 3003 rfl rfl rfl rfl (by decide) (by decide) (by decide) h) ?_; (with_reducible apply aw_reg)) | (with_reducible first | apply aw_reg | apply rp_nil | apply ae_norm | apply aw_block) | ((with_reducible apply rp); first | (exact does_eq_px ptrNode rfl rfl) | ((with_reducible apply does_move); (conv => lhs; whnf)) | ((with_reducible apply does_fieldAddr); exact tyOk rfl; exact rfl; exact rfl; decide; exact rfl) | ((with_reducible apply does_load_var); exact tyOk rfl; exact rfl; exact rfl; exact rfl; exact rfl) | ((with_reducible apply does_len_ow); exact tyOk rfl; exact rfl; exact rfl) | ((with_reducible apply does_nilCheck); exact rfl)) | ((with_reducible apply aw_cond); exact rfl; (focus (intro hd; (cases hd; done))); (intro hd; clear hd)))
  refine aw_loop (fun n s => ∃ k st, k ≤ ks.length ∧ n = ks.length - k ∧ foldS (fun (s : List (List D)) (k : ByteArray) (v : Int) => listS fr tq s k v) st ((ks.zip vs).drop k) = s9 ∧ (fun (s : List (List D)) (l : List (ByteArray × Int)) => s.length + l.length ≤ 100000) st ((ks.zip vs).drop k) ∧
      s = ⟨[(0, .px 1000 0), (1, .fn (.func 31) [] [.px 1001 0, .px 1002 0, .px 1003 0]), (11, .ow 3001 ks.length), (12, .d (iD ks.length)), (13, .d (iD k))], [(1000, .var TQ.T [.ow 3001 ks.length, .ow 3002 vs.length, .ow 3003 ([] : List Tn).length]), (3001, .row TQ.K 1 (ks.map strE)), (3002, .row TQ.V 1 (vs.map intE)), (3003, .res (kidsR TQ [])), (1001, .var 9 [.d (strD fr)]), (1002, .var 9 [.d (strD tq)]), (1003, .var 57 [.ow 2000 (st).length]), (2000, .row 61 2 (st))]⟩) _ _ ?_ ⟨0, s0, by omega, rfl, hF, hI, rfl⟩ ?_
  · refine forget_of [] (by repeat' (first | exact ks_nil | (refine ks_cons rfl (by exact SubA.refl _) ?_))) (by repeat' (first | exact trivial | exact rfl | refine And.intro ?_ ?_)) rfl (by repeat' (first | exact trivial | exact inB_ow rfl | exact inB_px rfl | refine And.intro ?_ ?_)) (by repeat' (first | exact trivial | exact inB_ow rfl | exact inB_px rfl | refine And.intro ?_ ?_))
  · rintro n s1 ⟨k, st, hk, rfl, hf, hi, rfl⟩
    repeat (first | (with_reducible first | apply aw_seq | apply aw_reg | apply rp_nil | apply ae_norm) | ((with_reducible apply rp); ((with_reducible apply does_lt); exact rfl; exact rfl)))
    refine aw_cond rfl (fun hd => ?_) (fun hd => ?_)
    · have hlt : k < ks.length := by simpa using hd
      obtain ⟨key, hg⟩ : ∃ g, ks[k]? = some g := ⟨_, List.getElem?_eq_getElem hlt⟩
      obtain ⟨v, hv⟩ : ∃ g, vs[k]? = some g := ⟨_, List.getElem?_eq_getElem (by omega)⟩
      rw [leaf_step hg hv] at hf
      try rw [leaf_step hg hv] at hi
      have c1 := list_px key fr tq v st (by have : _ + _ ≤ _ := hi; omega)
      repeat (first | (with_reducible first | apply aw_seq | apply aw_reg | apply rp_nil | apply ae_norm | apply aw_block | apply be_norm | apply aw_skip) | ((with_reducible apply rp); first | ((with_reducible apply does_move); (conv => lhs; whnf)) | ((with_reducible apply does_assign); (conv => lhs; whnf)) | ((with_reducible apply does_fieldAddr); exact tyOk rfl; exact rfl; exact rfl; decide; exact rfl) | ((with_reducible apply does_load_var); exact tyOk rfl; exact rfl; exact rfl; exact rfl; exact rfl) | ((with_reducible apply does_load_own); exact tyOk rfl; exact rfl; exact rfl; exact rfl; exact map_get (by assumption); exact rfl) | ((with_reducible apply does_index_own); exact tyOk rfl; exact rfl; exact tyOk rfl; exact rfl; exact rfl; exact rfl; omega) | ((with_reducible apply does_gt); exact rfl; exact rfl) | ((with_reducible apply does_add); exact rfl; exact rfl; omega; omega) | ((with_reducible apply does_len_ow); exact tyOk rfl; exact rfl; exact rfl) | ((with_reducible apply does_nilCheck); exact rfl)) | ((with_reducible apply rpL); (refine does_callX [] [(2000, 42)] (ups := [(1001, .var 9 [.d (strD fr)]), (1002, .var 9 [.d (strD tq)]), (1003, .var 57 [.ow 42 (listS fr tq st key v).length]), (42, .row 61 2 (listS fr tq st key v)), (2000, .dead)]) rfl (c1) rfl ?_ rfl ?_ ?_ rfl rfl rfl rfl rfl ?_ rfl rfl; (focus repeat' (first | exact trivial | exact rfl | refine And.intro ?_ ?_)); (focus repeat' (first | exact trivial | exact inB_ow rfl | exact inB_px rfl | refine And.intro ?_ ?_)); (focus repeat' (first | exact trivial | exact inB_ow rfl | exact inB_px rfl | refine And.intro ?_ ?_)); (focus repeat' (first | exact trivial | exact inB_ow rfl | exact inB_px rfl | refine And.intro ?_ ?_))); exact lapp_nil _) | ((with_reducible apply aw_cond); exact rfl; (focus (intro hd; (cases hd; done))); (intro hd; clear hd)))
      refine ⟨ks.length - (k + 1), _, by omega, ?_, k + 1, listS fr tq st key v, by omega, rfl, hf, hstep st key v ((ks.zip vs).drop (k + 1)) hi, rfl⟩
      refine forget_of [(2000, 42)] (by repeat' (first | exact ks_nil | (refine ks_cons rfl (by exact SubA.refl _) ?_))) (by repeat' (first | exact trivial | exact rfl | refine And.intro ?_ ?_)) rfl (by repeat' (first | exact trivial | exact inB_ow rfl | exact inB_px rfl | refine And.intro ?_ ?_)) (by repeat' (first | exact trivial | exact inB_ow rfl | exact inB_px rfl | refine And.intro ?_ ?_))
    · have hkl : k = ks.length := by simp at hd; omega
      subst hkl
      rw [leaf_end hvs] at hf
      have hf : st = s9 := hf
      subst hf
      repeat (first | (refine aw_after (id := 8) mixed ?_; (with_reducible apply aw_reg)) | (with_reducible apply rp_nil) | ((with_reducible apply rp); first | ((with_reducible apply does_move); (conv => lhs; whnf)) | ((with_reducible apply does_fieldAddr); exact tyOk rfl; exact rfl; exact rfl; decide; exact rfl) | ((with_reducible apply does_load_var); exact tyOk rfl; exact rfl; exact rfl; exact rfl; exact rfl) | ((with_reducible apply does_gt); exact rfl; exact rfl) | ((with_reducible apply does_len_ow); exact tyOk rfl; exact rfl; exact rfl) | ((with_reducible apply does_nilCheck); exact rfl)))
      refine after1 (fun C ac w h => ent_shut (Q := TQ) (ks := ks) (vs := vs) (ts := []) 1000 3001 3002 3003 rfl rfl rfl rfl (by decide) h) ?_
      repeat (first | (with_reducible first | apply ae_norm | apply xf_norm | apply aw_skip) | ((with_reducible apply aw_cond); exact rfl; (focus (intro hd; (cases hd; done))); (intro hd; clear hd)))
      (with_reducible apply retxf_ok (l := [])); (focus (repeat' (with_reducible apply rv_nil))); exact rfl; exact SubD.refl _; refine ⟨(by repeat' (first | exact ks_nil | (refine ks_cons rfl (by exact SubA.refl _) ?_))), (by repeat' (first | exact trivial | exact rfl | refine And.intro ?_ ?_)), rfl, (by repeat' (first | exact trivial | exact inB_ow rfl | exact inB_px rfl | refine And.intro ?_ ?_)), (by repeat' (first | exact trivial | exact inB_ow rfl | exact inB_px rfl | refine And.intro ?_ ?_))⟩
theorem each_l_node (fr tq : ByteArray) (s0 s9 : List (List D)) (ks : List ByteArray) (vs : List Int) (ts : List Tn) (hks : ks.length ≤ 3) (hvs : vs.length = ks.length) (hts : ts.length = ks.length + 1) (hI : (fun (s : List (List D)) (l : List (ByteArray × Int)) => s.length + l.length ≤ 100000) s0 (weave (ks.zip vs) (itemsF ts))) (hF : foldS (fun (s : List (List D)) (k : ByteArray) (v : Int) => listS fr tq s k v) s0 (weave (ks.zip vs) (itemsF ts)) = s9) (ih : ∀ (j : Nat) (t : Tn), ts[j]? = some t → ∀ s, (fun (s : List (List D)) (l : List (ByteArray × Int)) => s.length + l.length ≤ 100000) s (items t) → EachPX_l fr tq s t (foldS (fun (s : List (List D)) (k : ByteArray) (v : Int) => listS fr tq s k v) s (items t))) : EachPX_l fr tq s0 (.node ks vs ts) s9 := by
  unfold EachPX_l
  have hstep : ∀ s k v r, (fun (s : List (List D)) (l : List (ByteArray × Int)) => s.length + l.length ≤ 100000) s ((k, v) :: r) → (fun (s : List (List D)) (l : List (ByteArray × Int)) => s.length + l.length ≤ 100000) ((fun (s : List (List D)) (k : ByteArray) (v : Int) => listS fr tq s k v) s k v) r := fun s k v r h => listS_len fr tq s k v r h
  refine pxf_of_aw Tryd.func25 rfl (by kernel_rfl) mixed (by kernel_rfl) (by rw [Tryd.ntmps25]; exact Nat.le_of_ble_eq_true rfl) Tryd.results25 rfl ?_
  repeat (with_reducible apply aw_seq)
  repeat (first | (refine aw_exR1 (id := 1) mixed (fun C ac w h => ent_open (Q := TQ) 1000 3001 3002 3003 rfl rfl rfl rfl (by decide) (by decide) (by decide) h) ?_; (with_reducible apply aw_reg)) | (with_reducible first | apply aw_reg | apply rp_nil | apply ae_norm | apply aw_block) | ((with_reducible apply rp); first | (exact does_eq_px ptrNode rfl rfl) | ((with_reducible apply does_move); (conv => lhs; whnf)) | ((with_reducible apply does_fieldAddr); exact tyOk rfl; exact rfl; exact rfl; decide; exact rfl) | ((with_reducible apply does_load_var); exact tyOk rfl; exact rfl; exact rfl; exact rfl; exact rfl) | ((with_reducible apply does_len_ow); exact tyOk rfl; exact rfl; exact rfl) | ((with_reducible apply does_nilCheck); exact rfl)) | ((with_reducible apply aw_cond); exact rfl; (focus (intro hd; (cases hd; done))); (intro hd; clear hd)))
  refine aw_loop (fun n s => ∃ k st, k ≤ ks.length ∧ n = ks.length - k ∧ foldS (fun (s : List (List D)) (k : ByteArray) (v : Int) => listS fr tq s k v) st (weave ((ks.zip vs).drop k) ((itemsF ts).drop k)) = s9 ∧ (fun (s : List (List D)) (l : List (ByteArray × Int)) => s.length + l.length ≤ 100000) st (weave ((ks.zip vs).drop k) ((itemsF ts).drop k)) ∧
      s = ⟨[(0, .px 1000 0), (1, .fn (.func 31) [] [.px 1001 0, .px 1002 0, .px 1003 0]), (11, .ow 3001 ks.length), (12, .d (iD ks.length)), (13, .d (iD k))], [(1000, .var TQ.T [.ow 3001 ks.length, .ow 3002 vs.length, .ow 3003 (ts : List Tn).length]), (3001, .row TQ.K 1 (ks.map strE)), (3002, .row TQ.V 1 (vs.map intE)), (3003, .res (kidsR TQ ts)), (1001, .var 9 [.d (strD fr)]), (1002, .var 9 [.d (strD tq)]), (1003, .var 57 [.ow 2000 (st).length]), (2000, .row 61 2 (st))]⟩) _ _ ?_ ⟨0, s0, by omega, rfl, hF, hI, rfl⟩ ?_
  · refine forget_of [] (by repeat' (first | exact ks_nil | (refine ks_cons rfl (by exact SubA.refl _) ?_))) (by repeat' (first | exact trivial | exact rfl | refine And.intro ?_ ?_)) rfl (by repeat' (first | exact trivial | exact inB_ow rfl | exact inB_px rfl | refine And.intro ?_ ?_)) (by repeat' (first | exact trivial | exact inB_ow rfl | exact inB_px rfl | refine And.intro ?_ ?_))
  · rintro n s1 ⟨k, st, hk, rfl, hf, hi, rfl⟩
    repeat (first | (with_reducible first | apply aw_seq | apply aw_reg | apply rp_nil | apply ae_norm) | ((with_reducible apply rp); ((with_reducible apply does_lt); exact rfl; exact rfl)))
    refine aw_cond rfl (fun hd => ?_) (fun hd => ?_)
    · have hlt : k < ks.length := by simpa using hd
      obtain ⟨key, hg⟩ : ∃ g, ks[k]? = some g := ⟨_, List.getElem?_eq_getElem hlt⟩
      obtain ⟨v, hv⟩ : ∃ g, vs[k]? = some g := ⟨_, List.getElem?_eq_getElem (by omega)⟩
      obtain ⟨l1, t0, l2, hts2, hl1⟩ := split_at (show k < ts.length by omega)
      have ht0 : ts[k]? = some t0 := by rw [hts2, ← hl1]; simp
      rw [weave_step hg hv ht0] at hf
      try rw [weave_step hg hv ht0] at hi
      have hpos : decide ((ts.length : Int) > 0) = true := decide_eq_true (by omega)
      have c0 := ih k t0 ht0 st (by have : _ + _ ≤ _ := hi; rw [List.length_append] at this; show _ + _ ≤ _; omega)
      have hi1 := inv_fold (f := (fun (s : List (List D)) (k : ByteArray) (v : Int) => listS fr tq s k v)) (Inv := (fun (s : List (List D)) (l : List (ByteArray × Int)) => s.length + l.length ≤ 100000)) hstep (items t0) ((key, v) :: weave ((ks.zip vs).drop (k + 1)) ((itemsF ts).drop (k + 1))) st hi
      have hf1 := hf
      unfold foldS at hf1
      rw [List.foldl_append] at hf1
      generalize hst1 : foldS (fun (s : List (List D)) (k : ByteArray) (v : Int) => listS fr tq s k v) st (items t0) = st1 at *
      have hst1 : List.foldl _ st (items t0) = st1 := hst1
      rw [hst1] at hf1
      unfold EachPX_l at c0
      repeat (first | (refine aw_after (id := 5) mixed ?_; (with_reducible apply aw_reg)) | (with_reducible first | apply aw_seq | apply aw_reg | apply rp_nil | apply ae_norm | apply aw_block | apply aw_skip) | ((with_reducible apply rp); first | ((with_reducible apply does_move); (conv => lhs; whnf)) | ((with_reducible apply does_assign); (conv => lhs; whnf)) | ((with_reducible apply does_fieldAddr); exact tyOk rfl; exact rfl; exact rfl; decide; exact rfl) | ((with_reducible apply does_load_var); exact tyOk rfl; exact rfl; exact rfl; exact rfl; exact rfl) | ((with_reducible apply does_load_own); exact tyOk rfl; exact rfl; exact rfl; exact rfl; exact map_get (by assumption); exact rfl) | ((with_reducible apply does_index_own); exact tyOk rfl; exact rfl; exact tyOk rfl; exact rfl; exact rfl; exact rfl; omega) | ((with_reducible apply does_gt); exact rfl; exact rfl) | ((with_reducible apply does_len_ow); exact tyOk rfl; exact rfl; exact rfl) | ((with_reducible apply does_nilCheck); exact rfl)) | ((with_reducible apply rp2); (exact does_load_kid (Q := TQ) (l1 := l1) (l2 := l2) (t0 := t0) (tyOk rfl) rfl rfl (by rw [← hts2]; exact rfl) hl1 rfl)) | ((with_reducible apply rpL); (refine does_callX [(1000, 30)] [(1000, 30), (2000, 32)] (ups := [(30, .res (treeR TQ t0)), (1001, .var 9 [.d (strD fr)]), (1002, .var 9 [.d (strD tq)]), (1003, .var 57 [.ow 32 (st1).length]), (32, .row 61 2 (st1)), (2000, .dead)]) rfl (c0) rfl ?_ rfl ?_ ?_ rfl rfl rfl rfl rfl ?_ rfl rfl; (focus repeat' (first | exact trivial | exact rfl | refine And.intro ?_ ?_)); (focus repeat' (first | exact trivial | exact inB_ow rfl | exact inB_px rfl | refine And.intro ?_ ?_)); (focus repeat' (first | exact trivial | exact inB_ow rfl | exact inB_px rfl | refine And.intro ?_ ?_)); (focus repeat' (first | exact trivial | exact inB_ow rfl | exact inB_px rfl | refine And.intro ?_ ?_))); exact lapp_nil _) | ((with_reducible apply aw_cond); exact rfl; rotate_left; (focus (intro hd; (exact absurd (hd.symm.trans (by assumption : _ = true)) (by decide)))); (intro hd; clear hd)))
      refine after1 (fun C ac w h => ent_kback (Q := TQ) 3003 30 rfl rfl h) ?_
      rw [← hts2]
      have c1 := list_px key fr tq v st1 (by have : _ + _ ≤ _ := hi1; omega)
      repeat (first | (with_reducible first | apply aw_reg | apply rp_nil | apply ae_norm | apply be_norm) | ((with_reducible apply rp); first | ((with_reducible apply does_move); (conv => lhs; whnf)) | ((with_reducible apply does_fieldAddr); exact tyOk rfl; exact rfl; exact rfl; decide; exact rfl) | ((with_reducible apply does_load_var); exact tyOk rfl; exact rfl; exact rfl; exact rfl; exact rfl) | ((with_reducible apply does_load_own); exact tyOk rfl; exact rfl; exact rfl; exact rfl; exact map_get (by assumption); exact rfl) | ((with_reducible apply does_index_own); exact tyOk rfl; exact rfl; exact tyOk rfl; exact rfl; exact rfl; exact rfl; omega) | ((with_reducible apply does_add); exact rfl; exact rfl; omega; omega) | ((with_reducible apply does_nilCheck); exact rfl)) | ((with_reducible apply rpL); (refine does_callX [(2000, 32)] [(2000, 42)] (ups := [(1001, .var 9 [.d (strD fr)]), (1002, .var 9 [.d (strD tq)]), (1003, .var 57 [.ow 42 (listS fr tq st1 key v).length]), (42, .row 61 2 (listS fr tq st1 key v)), (32, .dead)]) rfl (c1) rfl ?_ rfl ?_ ?_ rfl rfl rfl rfl rfl ?_ rfl rfl; (focus repeat' (first | exact trivial | exact rfl | refine And.intro ?_ ?_)); (focus repeat' (first | exact trivial | exact inB_ow rfl | exact inB_px rfl | refine And.intro ?_ ?_)); (focus repeat' (first | exact trivial | exact inB_ow rfl | exact inB_px rfl | refine And.intro ?_ ?_)); (focus repeat' (first | exact trivial | exact inB_ow rfl | exact inB_px rfl | refine And.intro ?_ ?_))); exact lapp_nil _))
      refine ⟨ks.length - (k + 1), _, by omega, ?_, k + 1, listS fr tq st1 key v, by omega, rfl, hf1, hstep st1 key v (weave ((ks.zip vs).drop (k + 1)) ((itemsF ts).drop (k + 1))) hi1, rfl⟩
      refine forget_of [(2000, 42)] (by repeat' (first | exact ks_nil | (refine ks_cons rfl (by exact SubA.refl _) ?_))) (by repeat' (first | exact trivial | exact rfl | refine And.intro ?_ ?_)) rfl (by repeat' (first | exact trivial | exact inB_ow rfl | exact inB_px rfl | refine And.intro ?_ ?_)) (by repeat' (first | exact trivial | exact inB_ow rfl | exact inB_px rfl | refine And.intro ?_ ?_))
    · have hkl : k = ks.length := by simp at hd; omega
      subst hkl
      obtain ⟨l1, t0, l2, hts2, hl1⟩ := split_at (show ks.length < ts.length by omega)
      have ht0 : ts[ks.length]? = some t0 := by rw [hts2, ← hl1]; simp
      rw [weave_end hvs hts ht0] at hf
      try rw [weave_end hvs hts ht0] at hi
      have hpos : decide ((ts.length : Int) > 0) = true := decide_eq_true (by omega)
      have hltk : ks.length < ts.length := by omega
      have c0 := ih ks.length t0 ht0 st hi
      have hf : foldS _ st (items t0) = s9 := hf
      rw [hf] at c0
      unfold EachPX_l at c0
      repeat (first | (refine aw_after (id := 9) mixed ?_; (with_reducible apply aw_regD)) | (with_reducible first | apply aw_seq | apply aw_reg | apply rp_nil | apply ae_norm | apply aw_exit | apply ae_exit | apply be_exit) | ((with_reducible apply dr_nil); (first | kernel_rfl | exact rfl)) | ((with_reducible first | apply rp | apply dr); first | ((with_reducible apply does_move); (conv => lhs; whnf)) | ((with_reducible apply does_fieldAddr); exact tyOk rfl; exact rfl; exact rfl; decide; exact rfl) | ((with_reducible apply does_load_var); exact tyOk rfl; exact rfl; exact rfl; exact rfl; exact rfl) | ((with_reducible apply does_index_own); exact tyOk rfl; exact rfl; exact tyOk rfl; exact rfl; exact rfl; exact rfl; omega) | ((with_reducible apply does_gt); exact rfl; exact rfl) | ((with_reducible apply does_len_ow); exact tyOk rfl; exact rfl; exact rfl) | ((with_reducible apply does_nilCheck); exact rfl)) | ((with_reducible apply dr2); (exact does_load_kid (Q := TQ) (l1 := l1) (l2 := l2) (t0 := t0) (tyOk rfl) rfl rfl (by rw [← hts2]; exact rfl) hl1 rfl)) | ((with_reducible apply drL); (refine does_callX [(1000, 60)] [(1000, 60), (2000, 62)] (ups := [(60, .res (treeR TQ t0)), (1001, .var 9 [.d (strD fr)]), (1002, .var 9 [.d (strD tq)]), (1003, .var 57 [.ow 62 (s9).length]), (62, .row 61 2 (s9)), (2000, .dead)]) rfl (c0) rfl ?_ rfl ?_ ?_ rfl rfl rfl rfl rfl ?_ rfl rfl; (focus repeat' (first | exact trivial | exact rfl | refine And.intro ?_ ?_)); (focus repeat' (first | exact trivial | exact inB_ow rfl | exact inB_px rfl | refine And.intro ?_ ?_)); (focus repeat' (first | exact trivial | exact inB_ow rfl | exact inB_px rfl | refine And.intro ?_ ?_)); (focus repeat' (first | exact trivial | exact inB_ow rfl | exact inB_px rfl | refine And.intro ?_ ?_))); exact lapp_nil _) | ((with_reducible apply aw_cond); exact rfl; rotate_left; (focus (intro hd; (exact absurd (hd.symm.trans (by assumption : _ = true)) (by decide)))); (intro hd; clear hd)))
      refine after1 (fun C ac w h => ent_shut (Q := TQ) (ks := ks) (vs := vs) (ts := ts) 1000 3001 3002 3003 rfl rfl rfl (by rw [hts2]; rfl) (by decide) (ent_kback (Q := TQ) 3003 60 rfl rfl h)) ?_
      repeat (first | (with_reducible apply xf_norm))
      (with_reducible apply retxf_ok (l := [(2000, 62)])); (focus (repeat' (with_reducible apply rv_nil))); exact rfl; exact SubD.refl _; refine ⟨(by repeat' (first | exact ks_nil | (refine ks_cons rfl (by exact SubA.refl _) ?_))), (by repeat' (first | exact trivial | exact rfl | refine And.intro ?_ ?_)), rfl, (by repeat' (first | exact trivial | exact inB_ow rfl | exact inB_px rfl | refine And.intro ?_ ?_)), (by repeat' (first | exact trivial | exact inB_ow rfl | exact inB_px rfl | refine And.intro ?_ ?_))⟩
theorem each_l_nil (fr tq : ByteArray) (s0 : List (List D)) : PX Tryd.prog 25 [.d (.sc (.pointer none)), .fn (.func 31) [] [.px 1001 0, .px 1002 0, .px 1003 0]] [(1001, .var 9 [.d (strD fr)]), (1002, .var 9 [.d (strD tq)]), (1003, .var 57 [.ow 2000 (s0).length])] [(2000, .row 61 2 (s0))] (.tu []) [(1001, .var 9 [.d (strD fr)]), (1002, .var 9 [.d (strD tq)]), (1003, .var 57 [.ow 2000 (s0).length])] [(2000, .row 61 2 (s0))] := by
  refine pxf_of_aw Tryd.func25 rfl (by kernel_rfl) mixed (by kernel_rfl) (by rw [Tryd.ntmps25]; exact Nat.le_of_ble_eq_true rfl) Tryd.results25 rfl ?_
  repeat (with_reducible apply aw_seq)
  repeat (first | (with_reducible first | apply aw_reg | apply rp_nil | apply ae_norm | apply aw_ret | apply ae_ret | apply xf_ret) | ((with_reducible apply rp); first | (exact does_eq_nn ptrNode rfl rfl) | ((with_reducible apply does_move); (conv => lhs; whnf))) | ((with_reducible apply aw_cond); exact rfl; rotate_left; (focus (intro hd; (cases hd; done))); (intro hd; clear hd)))
  (with_reducible apply retxf_ok (l := [])); (focus (repeat' (with_reducible apply rv_nil))); exact rfl; exact SubD.refl _; refine ⟨(by repeat' (first | exact ks_nil | (refine ks_cons rfl (by exact SubA.refl _) ?_))), (by repeat' (first | exact trivial | exact rfl | refine And.intro ?_ ?_)), rfl, (by repeat' (first | exact trivial | exact inB_ow rfl | exact inB_px rfl | refine And.intro ?_ ?_)), (by repeat' (first | exact trivial | exact inB_ow rfl | exact inB_px rfl | refine And.intro ?_ ?_))⟩
theorem each_l (fr tq : ByteArray) : ∀ (h : Nat) (t : Tn), Sh h t → ∀ s, (fun (s : List (List D)) (l : List (ByteArray × Int)) => s.length + l.length ≤ 100000) s (items t) → EachPX_l fr tq s t (foldS (fun (s : List (List D)) (k : ByteArray) (v : Int) => listS fr tq s k v) s (items t))
  | 0, .node ks vs ts, hs, s, hI => by
    obtain ⟨h1, h2, h3, rfl⟩ := hs
    try rw [items, itemsF, weave_leaf] at hI
    rw [items, itemsF, weave_leaf]
    exact each_l_leaf fr tq s _ ks vs h3 h1 hI rfl
  | h + 1, .node ks vs ts, hs, s, hI => by
    obtain ⟨h1, h2, h3, h4, h5⟩ := hs
    try rw [items] at hI
    rw [items]
    exact each_l_node fr tq s _ ks vs ts h3 h1 h4 hI rfl fun j t ht => each_l fr tq h t (h5 t (List.mem_of_getElem? ht))
end Go.Proofs.YtfplkakfakdfhaaDoor

