/-
  A cover has the root of all; no other cover has it; how much it has. Plain laws.
-/
import Derived.Test.YtagbajdjpfafoaaDoorZCovB
namespace Go.Proofs.YtagbajdjpfafoaaDoor
set_option linter.unusedSimpArgs false
set_option linter.unusedVariables false

theorem upF_takeN (m : Int) : ∀ (n : Nat) (l : List (List UInt8)), 2 * n ≤ l.length → upF m (l.take (2 * n)) = (upF m l).take n ∧ upF m (l.drop (2 * n)) = (upF m l).drop n
  | 0, l, _ => by simp [upF]
  | n + 1, a :: b :: r, h => by
    obtain ⟨h1, h2⟩ := upF_takeN m n r (by simp at h; omega)
    have e : 2 * (n + 1) = 2 * n + 1 + 1 := by omega
    rw [e]
    refine ⟨?_, ?_⟩
    · show dig m 2 [a, b] :: upF m (r.take (2 * n)) = dig m 2 [a, b] :: (upF m r).take n
      rw [h1]
    · exact h2
  | n + 1, [_], h => by simp at h; omega
  | n + 1, [], h => by simp at h
theorem rootR_split (m : Int) : ∀ (j : Nat) (r : List (List UInt8)), r.length = 2 ^ (j + 1) → rootR m (j + 1) r = dig m 2 [rootR m j (r.take (2 ^ j)), rootR m j (r.drop (2 ^ j))]
  | 0, [a, b], _ => rfl
  | 0, [], h => by simp at h
  | 0, [_], h => by simp at h
  | 0, _ :: _ :: _ :: _, h => by simp at h
  | j + 1, r, h => by
    have hp : 2 ^ (j + 1) = 2 * 2 ^ j := by rw [Nat.pow_succ]; omega
    have hp2 : 2 ^ (j + 1 + 1) = 2 * 2 ^ (j + 1) := by rw [Nat.pow_succ]; omega
    have hul := upF_len m (2 ^ (j + 1)) r (by omega)
    have ih := rootR_split m j (upF m r) hul
    obtain ⟨u1, u2⟩ := upF_takeN m (2 ^ j) r (by omega)
    show rootR m (j + 1) (upF m r) = dig m 2 [rootR m j (upF m (r.take (2 ^ (j + 1)))), rootR m j (upF m (r.drop (2 ^ (j + 1))))]
    rw [ih, hp, u1, u2]
theorem rootR_wt (m : Int) : ∀ (j : Nat) (r : List (List UInt8)), r.length = 2 ^ j → (rootR m j r).length + 42 ≤ wt r
  | 0, [a], _ => by
    show a.length + 42 ≤ (42 + a.length) + 0
    omega
  | 0, [], h => by simp at h
  | 0, _ :: _ :: _, h => by simp at h
  | j + 1, r, h => by
    have hp : 2 ^ (j + 1) = 2 * 2 ^ j := by rw [Nat.pow_succ]; omega
    have h1 := rootR_wt m j (upF m r) (upF_len m _ r (by omega))
    have h2 := upF_wt m r
    show (rootR m j (upF m r)).length + 42 ≤ wt r
    omega
theorem logS_two {j : Nat} (h : 2 ^ j ≤ 16) : logS (2 ^ j) = j := by
  rcases two_le_four h with rfl | rfl | rfl | rfl | rfl <;> rfl
theorem leavesF_len (m : Int) (l : List Sl3) : (leavesF m l).length = l.length := by unfold leavesF; rw [List.length_map]
theorem rootSF_two (m : Int) {j : Nat} {l : List Sl3} (h : l.length = 2 ^ j) (hj : 2 ^ j ≤ 16) : rootSF m l = rootR m j (leavesF m l) := by
  unfold rootSF; rw [h, logS_two hj]
theorem rootSF_split (m : Int) {j : Nat} {l : List Sl3} (h : l.length = 2 ^ (j + 1)) (hj : 2 ^ (j + 1) ≤ 16) : rootSF m l = dig m 2 [rootSF m (l.take (2 ^ j)), rootSF m (l.drop (2 ^ j))] := by
  have hp : 2 ^ (j + 1) = 2 * 2 ^ j := by rw [Nat.pow_succ]; omega
  rw [rootSF_two m h hj, rootR_split m j _ (by rw [leavesF_len]; exact h), rootSF_two m (j := j) (l := l.take (2 ^ j)) (by rw [List.length_take]; omega) (by omega), rootSF_two m (j := j) (l := l.drop (2 ^ j)) (by rw [List.length_drop]; omega) (by omega)]
  unfold leavesF
  rw [List.map_take, List.map_drop]
theorem rootSF_len (m : Int) {j : Nat} {l : List Sl3} (h : l.length = 2 ^ j) (hj : 2 ^ j ≤ 16) (hok : ∀ s ∈ l, s.ok) : (rootSF m l).length + 42 ≤ l.length * 533 := by
  have h1 := rootR_wt m j (leavesF m l) (by rw [leavesF_len]; exact h)
  have h2 := leaves_wt m hok
  rw [rootSF_two m h hj]
  omega
/-- The slots that are opened. -/
def selB : List Sl3 → List Bool → List Sl3
  | s :: l, b :: o => if b = true then s :: selB l o else selB l o
  | _, _ => []
def cntB (o : List Bool) : Nat := (o.filter id).length
theorem selB_none : ∀ (l : List Sl3) (o : List Bool), anyB o = false → selB l o = []
  | [], _, _ => by cases ‹List Bool› <;> rfl
  | _ :: _, [], _ => rfl
  | s :: l, b :: o, h => by
    unfold anyB at h
    simp only [List.any_cons, id_eq, Bool.or_eq_false_iff] at h
    unfold selB
    rw [if_neg (by rw [h.1]; decide)]
    exact selB_none l o h.2
theorem selB_append : ∀ (l l' : List Sl3) (o o' : List Bool), l.length = o.length → selB (l ++ l') (o ++ o') = selB l o ++ selB l' o'
  | [], l', [], o', _ => rfl
  | s :: l, l', b :: o, o', h => by
    have ih := selB_append l l' o o' (by simpa using h)
    show (if b = true then s :: selB (l ++ l') (o ++ o') else selB (l ++ l') (o ++ o')) = (if b = true then s :: selB l o else selB l o) ++ selB l' o'
    rw [ih]
    split <;> rfl
  | [], _, _ :: _, _, h => by simp at h
  | _ :: _, _, [], _, h => by simp at h
theorem selB_len : ∀ (l : List Sl3) (o : List Bool), l.length = o.length → (selB l o).length = cntB o
  | [], [], _ => rfl
  | s :: l, b :: o, h => by
    have ih := selB_len l o (by simpa using h)
    cases b with
    | true => show (selB l o).length + 1 = cntB (true :: o); rw [ih]; rfl
    | false => exact ih
  | [], _ :: _, h => by simp at h
  | _ :: _, [], h => by simp at h
theorem selB_get : ∀ (l : List Sl3) (o : List Bool) (i : Nat) (s : Sl3), o[i]? = some true → l[i]? = some s → (selB l o)[cntB (o.take i)]? = some s
  | x :: l, b :: o, 0, s, h1, h2 => by
    have h1 : some b = some true := h1
    injection h1 with h1
    subst h1
    exact h2
  | x :: l, b :: o, i + 1, s, h1, h2 => by
    have ih := selB_get l o i s (by simpa using h1) (by simpa using h2)
    cases b with
    | true => exact ih
    | false => exact ih
  | [], _, i, s, _, h2 => by simp at h2
  | _ :: _, [], i, s, h1, _ => by simp at h1
theorem cntB_take {o : List Bool} {i : Nat} {b : Bool} (h : o[i]? = some b) : cntB (o.take (i + 1)) = cntB (o.take i) + (if b = true then 1 else 0) := by
  have e : o.take (i + 1) = o.take i ++ [b] := by rw [List.take_add_one, h]; rfl
  unfold cntB
  rw [e, List.filter_append, List.length_append]
  cases b <;> rfl
theorem selB_one {l : List Sl3} {o : List Bool} (hl : l.length = 1) (ho : o.length = 1) (h : anyB o = true) : selB l o = l := by
  match l, o, hl, ho with
  | [s], [b], _, _ =>
    have hb : b = true := by unfold anyB at h; simpa using h
    subst hb; rfl
theorem selB_halves {l : List Sl3} {o : List Bool} (k : Nat) (h : o.length = l.length) : selB l o = selB (l.take k) (o.take k) ++ selB (l.drop k) (o.drop k) := by
  rw [← selB_append _ _ _ _ (by rw [List.length_take, List.length_take, h]), List.take_append_drop, List.take_append_drop]
theorem covF_sel (m : Int) : ∀ (j : Nat) (l : List Sl3) (o : List Bool), l.length = 2 ^ j → o.length = 2 ^ j → (covF m j l o).1 = selB l o
  | 0, l, o, h, ho => by
    cases hany : anyB o with
    | false => rw [covF_none m 0 l o hany, selB_none l o hany]
    | true => unfold covF; rw [if_pos hany, selB_one h ho hany]
  | j + 1, l, o, h, ho => by
    have hp : 2 ^ (j + 1) = 2 * 2 ^ j := by rw [Nat.pow_succ]; omega
    cases hany : anyB o with
    | false => rw [covF_none m (j + 1) l o hany, selB_none l o hany]
    | true =>
      unfold covF
      rw [if_pos hany, covF_sel m j _ _ (by rw [List.length_take]; omega) (by rw [List.length_take]; omega), covF_sel m j _ _ (by rw [List.length_drop]; omega) (by rw [List.length_drop]; omega), ← selB_halves (2 ^ j) (by omega)]
theorem nodeF_ok (m : Int) {a b : List UInt8} (h : 10 + a.length + b.length ≤ 16777216) : nodeF m a b = (dig m 2 [a, b], 0) := by unfold nodeF; rw [if_pos h]
/-- A cover builds the root; what is more is left. -/
theorem bld_right (m : Int) : ∀ (j : Nat) (l : List Sl3) (o : List Bool) (P : List Sl3) (R : List (List UInt8)), l.length = 2 ^ j → o.length = 2 ^ j → 2 ^ j ≤ 16 → (∀ s ∈ l, s.ok) →
    bldF m j o ((covF m j l o).1 ++ P) ((covF m j l o).2 ++ R) = ((rootSF m l, true), (P, R))
  | 0, l, o, P, R, h, ho, hj, hok => by
    cases hany : anyB o with
    | false => rw [covF_none m 0 l o hany, bldF_none m 0 o _ _ hany]; rfl
    | true =>
      match l, h with
      | [s], _ =>
        unfold covF bldF
        rw [if_pos hany, if_pos hany]
        rfl
  | j + 1, l, o, P, R, h, ho, hj, hok => by
    have hp : 2 ^ (j + 1) = 2 * 2 ^ j := by rw [Nat.pow_succ]; omega
    cases hany : anyB o with
    | false => rw [covF_none m (j + 1) l o hany, bldF_none m (j + 1) o _ _ hany]; rfl
    | true =>
      have o1 : ∀ s ∈ l.take (2 ^ j), s.ok := fun s hs => hok s (List.mem_of_mem_take hs)
      have o2 : ∀ s ∈ l.drop (2 ^ j), s.ok := fun s hs => hok s (List.mem_of_mem_drop hs)
      have k1 : (l.take (2 ^ j)).length = 2 ^ j := by rw [List.length_take]; omega
      have k2 : (l.drop (2 ^ j)).length = 2 ^ j := by rw [List.length_drop]; omega
      have i2 := bld_right m j (l.drop (2 ^ j)) (o.drop (2 ^ j)) P R k2 (by rw [List.length_drop]; omega) (by omega) o2
      have i1 := bld_right m j (l.take (2 ^ j)) (o.take (2 ^ j)) ((covF m j (l.drop (2 ^ j)) (o.drop (2 ^ j))).1 ++ P) ((covF m j (l.drop (2 ^ j)) (o.drop (2 ^ j))).2 ++ R) k1 (by rw [List.length_take]; omega) (by omega) o1
      have r1 := rootSF_len m k1 (by omega) o1
      have r2 := rootSF_len m k2 (by omega) o2
      have hc : covF m (j + 1) l o = ((covF m j (l.take (2 ^ j)) (o.take (2 ^ j))).1 ++ (covF m j (l.drop (2 ^ j)) (o.drop (2 ^ j))).1, (covF m j (l.take (2 ^ j)) (o.take (2 ^ j))).2 ++ (covF m j (l.drop (2 ^ j)) (o.drop (2 ^ j))).2) := by
        conv => lhs; unfold covF
        rw [if_pos hany]
      rw [hc]
      dsimp only
      rw [List.append_assoc, List.append_assoc]
      unfold bldF
      rw [if_pos hany, i1]
      dsimp only
      rw [if_pos rfl, i2]
      unfold pairB
      dsimp only
      rw [if_pos rfl, nodeF_ok m (by omega), rootSF_split m h hj]
      rfl
theorem node_inj' {a b c d : List UInt8} (hc : (nodeF 2 a b).2 = 0) (h : (nodeF 2 a b).1 = dig 2 2 [c, d]) (h1 : c.length < 4294967296) (h2 : d.length < 4294967296) : a = c ∧ b = d := by
  unfold nodeF at hc h
  split at hc
  · rename_i hs
    rw [if_pos hs] at h
    have h : frameB 2 [a, b] = frameB 2 [c, d] := h
    have e := (frameB_inj (by simp) (by simp) (small2 (by omega) (by omega)) (small2 h1 h2) h).2
    simp only [List.cons.injEq, and_true] at e
    exact e
  · cases hc
/-- What builds the root of slots has those of them that are opened. -/
theorem bld_sound : ∀ (j : Nat) (l : List Sl3) (o : List Bool) (P : List Sl3) (R : List (List UInt8)), l.length = 2 ^ j → o.length = 2 ^ j → 2 ^ j ≤ 16 → (∀ s ∈ l, s.ok) → (∀ s ∈ P, s.ok) → (bldF 2 j o P R).1.2 = true → (bldF 2 j o P R).1.1 = rootSF 2 l →
    P = selB l o ++ (bldF 2 j o P R).2.1
  | 0, l, o, P, R, h, ho, hj, hok, hP, hb, hr => by
    cases hany : anyB o with
    | false =>
      rw [bldF_none 2 0 o P R hany, selB_none l o hany]
      cases R <;> rfl
    | true =>
      have e : bldF 2 0 o P R = openF 2 R P := by unfold bldF; rw [if_pos hany]
      rw [e] at hb hr ⊢
      rw [selB_one h ho hany]
      cases P with
      | nil => cases hb
      | cons s P =>
        match l, h with
        | [t], _ =>
          have hr : leafS 2 s = leafS 2 t := hr
          rw [leafS_inj (hP s (by simp)) (hok t (by simp)) hr]
          rfl
  | j + 1, l, o, P, R, h, ho, hj, hok, hP, hb, hr => by
    have hp : 2 ^ (j + 1) = 2 * 2 ^ j := by rw [Nat.pow_succ]; omega
    cases hany : anyB o with
    | false =>
      rw [bldF_none 2 (j + 1) o P R hany, selB_none l o hany]
      cases R <;> rfl
    | true =>
      have o1 : ∀ s ∈ l.take (2 ^ j), s.ok := fun s hs => hok s (List.mem_of_mem_take hs)
      have o2 : ∀ s ∈ l.drop (2 ^ j), s.ok := fun s hs => hok s (List.mem_of_mem_drop hs)
      have k1 : (l.take (2 ^ j)).length = 2 ^ j := by rw [List.length_take]; omega
      have k2 : (l.drop (2 ^ j)).length = 2 ^ j := by rw [List.length_drop]; omega
      have b1 := bldF_sub 2 j (o.take (2 ^ j)) P R
      have i1 := bld_sound j (l.take (2 ^ j)) (o.take (2 ^ j)) P R k1 (by rw [List.length_take]; omega) (by omega) o1 hP
      have i2 := bld_sound j (l.drop (2 ^ j)) (o.drop (2 ^ j)) (bldF 2 j (o.take (2 ^ j)) P R).2.1 (bldF 2 j (o.take (2 ^ j)) P R).2.2 k2 (by rw [List.length_drop]; omega) (by omega) o2 (fun s hs => hP s (b1.1 s hs))
      have r1 := rootSF_len 2 k1 (by omega) o1
      have r2 := rootSF_len 2 k2 (by omega) o2
      have e : bldF 2 (j + 1) o P R = (if (bldF 2 j (o.take (2 ^ j)) P R).1.2 = true then pairB 2 (bldF 2 j (o.take (2 ^ j)) P R) (bldF 2 j (o.drop (2 ^ j)) (bldF 2 j (o.take (2 ^ j)) P R).2.1 (bldF 2 j (o.take (2 ^ j)) P R).2.2) else (([], false), (bldF 2 j (o.take (2 ^ j)) P R).2)) := by
        conv => lhs; unfold bldF
        rw [if_pos hany]
      rw [e] at hb hr ⊢
      rw [rootSF_split 2 h hj] at hr
      rw [selB_halves (2 ^ j) (by omega)]
      generalize bldF 2 j (o.take (2 ^ j)) P R = x at *
      generalize bldF 2 j (o.drop (2 ^ j)) x.2.1 x.2.2 = y at *
      split at hb
      · rename_i hx
        rw [if_pos hx] at hr ⊢
        unfold pairB at hb hr ⊢
        split at hb
        · rename_i hy
          rw [if_pos hy] at hr ⊢
          have hc : (nodeF 2 x.1.1 y.1.1).2 = 0 := by simpa using hb
          have hq := node_inj' hc hr (by omega) (by omega)
          have e1 := i1 hx hq.1
          have e2 := i2 hy hq.2
          rw [List.append_assoc, ← e2]
          exact e1
        · cases hb
      · cases hb
end Go.Proofs.YtagbajdjpfafoaaDoor
