/-
  The closures as steps. No condition but the shape.
-/
import Derived.Test.YtobgjkkadnihjaaZTrCl
import Derived.Test.YtobgjkkadnihjaaZTrIt
namespace Go.Proofs.Ytobgjkkadnihjaa
set_option linter.unusedSimpArgs false
set_option linter.unusedVariables false
open Go.RowKit

def listS (fr to : ByteArray) (s : List (List D)) (k : ByteArray) (v : Int) : List (List D) := if (leB fr k && leB k to) = true then s ++ [pairE (k, v)] else s
theorem listS_len (fr to : ByteArray) (s : List (List D)) (k : ByteArray) (v : Int) (r : List (ByteArray × Int)) (h : s.length + ((k, v) :: r).length ≤ 100000) : (listS fr to s k v).length + r.length ≤ 100000 := by
  unfold listS
  rw [List.length_cons] at h
  split
  · rw [List.length_append, List.length_singleton]; omega
  · omega
theorem list_px (k fr to : ByteArray) (v : Int) (s : List (List D)) (hl : s.length ≤ 100000) : PX Try.prog 25 [.d (strD k), .d (iD v), .px 1001 0, .px 1002 0, .px 1003 0] [(1001, .var 9 [.d (strD fr)]), (1002, .var 9 [.d (strD to)]), (1003, .var 36 [.ow 2000 s.length])] [(2000, .row 50 2 s)] (.tu [])
    [(1001, .var 9 [.d (strD fr)]), (1002, .var 9 [.d (strD to)]), (1003, .var 36 [.ow 2000 (listS fr to s k v).length])] [(2000, .row 50 2 (listS fr to s k v))] := by
  by_cases h : (leB fr k && leB k to) = true
  · have := list_in k fr to v s h hl
    unfold listS
    rw [if_pos h]
    exact this
  · have h2 : (leB fr k && leB k to) = false := by simpa using h
    have := list_out k fr to v s h2
    unfold listS
    rw [if_neg h]
    exact this
def cutS (ck : ByteArray) (s : Option (Nat × Tn)) (k : ByteArray) (v : Int) : Option (Nat × Tn) := if (k.toList == ck.toList) = true then s else growO k v s
theorem cut_px (k ck : ByteArray) (v : Int) (s : Option (Nat × Tn)) (hs : ShO s) : PX Try.prog 26 [.d (strD k), .d (iD v), .px 1001 0, .px 1002 0] [(1001, .var 9 [.d (strD ck)]), (1002, leftB s)] [] (.tu []) [(1001, .var 9 [.d (strD ck)]), (1002, leftB (cutS ck s k v))] [] := by
  by_cases h : (k.toList == ck.toList) = true
  · have := cut_same k ck v s h
    unfold cutS
    rw [if_pos h]
    exact this
  · have h2 : (k.toList == ck.toList) = false := by simpa using h
    have := cut_other k ck v s h2 hs
    unfold cutS
    rw [if_neg h]
    exact this
theorem splitN_sh (h : Nat) (ks : List ByteArray) (vs : List Int) (ts : List Tn) (h1 : vs.length = ks.length) (h2 : 1 ≤ ks.length) (h3 : ks.length ≤ 4) (h4 : (h = 0 ∧ ts = []) ∨ ∃ g, h = g + 1 ∧ ts.length = ks.length + 1 ∧ ∀ t ∈ ts, Sh g t) :
    Sh h (splitN ks vs ts).1 ∧ ∀ m v r, (splitN ks vs ts).2 = some (m, v, r) → Sh h r := by
  by_cases h5 : ks.length = 4
  · obtain ⟨a, b, c, d, rfl⟩ := four h5
    obtain ⟨x, y, z, u, rfl⟩ := four (h1.trans h5)
    rcases h4 with ⟨rfl, rfl⟩ | ⟨g, rfl, h6, h7⟩
    · refine ⟨⟨rfl, Nat.le_of_ble_eq_true rfl, Nat.le_of_ble_eq_true rfl, rfl⟩, fun m v r he => ?_⟩
      simp only [splitN, Option.some.injEq, Prod.mk.injEq] at he
      obtain ⟨_, _, rfl⟩ := he
      exact ⟨rfl, Nat.le_of_ble_eq_true rfl, Nat.le_of_ble_eq_true rfl, rfl⟩
    · obtain ⟨p, q, r0, s, t, rfl⟩ := five h6
      refine ⟨⟨rfl, Nat.le_of_ble_eq_true rfl, Nat.le_of_ble_eq_true rfl, rfl, fun t0 ht => h7 t0 ?_⟩, fun m v r he => ?_⟩
      · simp only [List.mem_cons, List.not_mem_nil, or_false] at ht ⊢
        rcases ht with rfl | rfl | rfl <;> simp
      · simp only [splitN, Option.some.injEq, Prod.mk.injEq] at he
        obtain ⟨_, _, rfl⟩ := he
        refine ⟨rfl, Nat.le_of_ble_eq_true rfl, Nat.le_of_ble_eq_true rfl, rfl, fun t0 ht => h7 t0 ?_⟩
        simp only [List.mem_cons, List.not_mem_nil, or_false] at ht ⊢
        rcases ht with rfl | rfl <;> simp
  · rw [splitN_few h5]
    refine ⟨?_, fun m v r he => by cases he⟩
    rcases h4 with ⟨rfl, rfl⟩ | ⟨g, rfl, h6, h7⟩
    · exact ⟨h1, h2, by omega, rfl⟩
    · exact ⟨h1, h2, by omega, h6, h7⟩
theorem putH_sh (key : ByteArray) (val : Int) : ∀ (h : Nat) (t : Tn), Sh h t → Sh h (putH key val h t).1 ∧ ∀ m v r, (putH key val h t).2 = some (m, v, r) → Sh h r
  | 0, .node ks vs ts, hs => by
    obtain ⟨h1, h2, h3, rfl⟩ := hs
    unfold putH
    split
    · exact ⟨⟨by rw [List.length_set]; exact h1, h2, h3, rfl⟩, fun _ _ _ he => by cases he⟩
    · have e1 := insL_len ks (seekF key ks).1 key (seekF_le key ks)
      have e2 := insL_len vs (seekF key ks).1 val (by rw [h1]; exact seekF_le key ks)
      exact splitN_sh 0 _ _ _ (by omega) (by omega) (by omega) (.inl ⟨rfl, rfl⟩)
  | h + 1, .node ks vs ts, hs => by
    obtain ⟨h1, h2, h3, h4, h5⟩ := hs
    have hle := seekF_le key ks
    unfold putH
    split
    · exact ⟨⟨by rw [List.length_set]; exact h1, h2, h3, h4, h5⟩, fun _ _ _ he => by cases he⟩
    · have hmem : ts.getD (seekF key ks).1 noTn ∈ ts := by
        rw [List.getD_eq_getElem?_getD, List.getElem?_eq_getElem (by omega), Option.getD_some]
        exact List.getElem_mem _
      obtain ⟨i1, i2⟩ := putH_sh key val h _ (h5 _ hmem)
      have hset : ∀ t1, Sh h t1 → ∀ t ∈ ts.set (seekF key ks).1 t1, Sh h t := fun t1 ht t hm => by
        rcases List.mem_or_eq_of_mem_set hm with hm | rfl
        · exact h5 t hm
        · exact ht
      dsimp only
      rcases ho : putH key val h (ts.getD (seekF key ks).1 noTn) with ⟨t1, o⟩
      rw [ho] at i1 i2
      rcases o with _ | ⟨m, v, r⟩
      · exact ⟨⟨h1, h2, h3, by rw [List.length_set]; exact h4, hset t1 i1⟩, fun _ _ _ he => by cases he⟩
      · have e1 := insL_len ks (seekF key ks).1 m hle
        have e2 := insL_len vs (seekF key ks).1 v (by omega)
        have e3 := insL_len (ts.set (seekF key ks).1 t1) ((seekF key ks).1 + 1) r (by rw [List.length_set]; omega)
        rw [List.length_set] at e3
        refine splitN_sh (h + 1) _ _ _ (by omega) (by omega) (by omega) (.inr ⟨h, rfl, by omega, fun t ht => ?_⟩)
        unfold insL at ht
        rcases List.mem_append.1 ht with ht | ht
        · exact hset t1 i1 t (List.mem_of_mem_take ht)
        · rcases List.mem_cons.1 ht with rfl | ht
          · exact i2 m v _ rfl
          · exact hset t1 i1 t (List.mem_of_mem_drop ht)
theorem growO_sh (k : ByteArray) (v : Int) (s : Option (Nat × Tn)) (h : ShO s) : ShO (growO k v s) := by
  rcases s with _ | ⟨n, t⟩
  · exact ⟨rfl, Nat.le_of_ble_eq_true rfl, Nat.le_of_ble_eq_true rfl, rfl⟩
  · obtain ⟨i1, i2⟩ := putH_sh k v n t h
    unfold growO
    rcases ho : putH k v n t with ⟨t1, o⟩
    rw [ho] at i1 i2
    rcases o with _ | ⟨m, v2, r⟩
    · simp only [ho]; exact i1
    · simp only [ho]
      refine ⟨rfl, Nat.le_of_ble_eq_true rfl, Nat.le_of_ble_eq_true rfl, rfl, fun t ht => ?_⟩
      simp only [List.mem_cons, List.not_mem_nil, or_false] at ht
      rcases ht with rfl | rfl
      · exact i1
      · exact i2 m v2 _ rfl
theorem cutS_sh (ck : ByteArray) (s : Option (Nat × Tn)) (k : ByteArray) (v : Int) (h : ShO s) : ShO (cutS ck s k v) := by
  unfold cutS
  split
  · exact h
  · exact growO_sh k v s h
end Go.Proofs.Ytobgjkkadnihjaa

