/-
  The wire's plain laws, and the walks of wireTells and WireBack: they return true. The argument's slice is read below new memory.
-/
import Derived.Test.YtgakkghlphnoaaaFeed
namespace Go.Proofs.Ytgakkghlphnoaaa
set_option linter.unusedSimpArgs false
set_option linter.unusedVariables false
open Go.RowKit

theorem be2_app (x y : List UInt8) (h : 2 ≤ x.length) : be2 (x ++ y) = be2 x := by
  obtain ⟨a, b, x', rfl⟩ := cons2 x h
  rfl
theorem be2_pack (t X : List UInt8) (h : t.length ≤ 300) : be2 (packT t ++ X) = t.length := by
  have e : packT t ++ X = byteOf ((t.length / 256 : Nat) : Int) :: byteOf (t.length : Int) :: (t ++ X) := by simp [packT]
  rw [e]
  simp only [be2, List.getD_cons_zero, List.getD_cons_succ, byteOf_nat]
  omega
theorem feed_pack (ts : List (List UInt8)) (h : ∀ t ∈ ts, t.length ≤ 300) : feedL (packL ts) = some (ts, []) := by
  induction ts with
  | nil => rfl
  | cons t ts ih =>
    have ht := h t List.mem_cons_self
    have e : packL (t :: ts) = packT t ++ packL ts := rfl
    have hl : (packT t ++ packL ts).length = 2 + t.length + (packL ts).length := by rw [List.length_append, packT_len]
    rw [feedL_eq, e, be2_pack t _ ht, if_neg (by omega), if_neg (by omega), if_neg (by omega)]
    have d1 : (packT t ++ packL ts).drop (2 + t.length) = packL ts := by
      rw [List.drop_append_of_le_length (by rw [packT_len]; exact Nat.le_refl _), List.drop_of_length_le (by rw [packT_len]; exact Nat.le_refl _), List.nil_append]
    have d2 : ((packT t ++ packL ts).drop 2).take t.length = t := by
      have : (packT t ++ packL ts).drop 2 = t ++ packL ts := rfl
      rw [this]; simp
    rw [d1, d2, ih (fun x hx => h x (List.mem_cons_of_mem _ hx))]
    rfl
theorem feed_app (x y : List UInt8) : (feedL x = none → feedL (x ++ y) = none) ∧ ∀ ts r, feedL x = some (ts, r) → r.length ≤ 301 ∧ feedL (x ++ y) = (feedL (r ++ y)).map (fun z => (ts ++ z.1, z.2)) := by
  generalize hn : x.length = n
  induction n using Nat.strongRecOn generalizing x with
  | _ n ih =>
    have hid : ∀ o : Option (List (List UInt8) × List UInt8), o.map (fun z => ([] ++ z.1, z.2)) = o := by intro o; cases o <;> simp
    by_cases c1 : x.length < 2
    · have e : feedL x = some ([], x) := by rw [feedL_eq, if_pos c1]
      refine ⟨fun h => (by rw [e] at h; cases h), fun ts r h => ?_⟩
      rw [e] at h
      simp only [Option.some.injEq, Prod.mk.injEq] at h
      obtain ⟨rfl, rfl⟩ := h
      exact ⟨by omega, (hid _).symm⟩
    have hb := be2_app x y (by omega)
    have hl : (x ++ y).length = x.length + y.length := List.length_append
    by_cases c2 : 300 < be2 x
    · have e : feedL x = none := by rw [feedL_eq, if_neg c1, if_pos c2]
      refine ⟨fun _ => by rw [feedL_eq, hb, if_neg (by omega), if_pos c2], fun ts r h => (by rw [e] at h; cases h)⟩
    by_cases c3 : x.length < 2 + be2 x
    · have e : feedL x = some ([], x) := by rw [feedL_eq, if_neg c1, if_neg c2, if_pos c3]
      refine ⟨fun h => (by rw [e] at h; cases h), fun ts r h => ?_⟩
      rw [e] at h
      simp only [Option.some.injEq, Prod.mk.injEq] at h
      obtain ⟨rfl, rfl⟩ := h
      exact ⟨by omega, (hid _).symm⟩
    have e : feedL x = (feedL (x.drop (2 + be2 x))).map fun z => ((x.drop 2).take (be2 x) :: z.1, z.2) := by rw [feedL_eq, if_neg c1, if_neg c2, if_neg c3]
    have e2 : feedL (x ++ y) = (feedL (x.drop (2 + be2 x) ++ y)).map fun z => ((x.drop 2).take (be2 x) :: z.1, z.2) := by
      rw [feedL_eq, hb, if_neg (by omega), if_neg c2, if_neg (by omega), List.drop_append_of_le_length (by omega), List.drop_append_of_le_length (by omega), List.take_append_of_le_length (by rw [List.length_drop]; omega)]
    obtain ⟨i1, i2⟩ := ih (x.drop (2 + be2 x)).length (by rw [List.length_drop]; omega) (x.drop (2 + be2 x)) rfl
    constructor
    · intro h
      rw [e] at h
      rw [e2, i1 (by cases hh : feedL (x.drop (2 + be2 x)) with
        | none => rfl
        | some v => rw [hh] at h; cases h)]
      rfl
    · intro ts r h
      rw [e] at h
      cases hh : feedL (x.drop (2 + be2 x)) with
      | none => rw [hh] at h; cases h
      | some v =>
        obtain ⟨us, s⟩ := v
        rw [hh] at h
        simp only [Option.map_some, Option.some.injEq, Prod.mk.injEq] at h
        obtain ⟨rfl, rfl⟩ := h
        obtain ⟨j1, j2⟩ := i2 us s hh
        refine ⟨j1, ?_⟩
        rw [e2, j2, Option.map_map]
        congr 1

theorem feed_some {r : List UInt8} {w w' : World} {e : Ending} {ts : List (List UInt8)} {rest : List UInt8} (h : FeedPost r w e w') (hp : feedL r = some (ts, rest)) :
    ∃ A c A2 c2, e = .returned (.tuple #[.slice A ts.length c, .slice A2 rest.length c2, .int .i64 0]) ∧ RdS w' w'.heap.size A ts ∧ RdB w' w'.heap.size A2 rest ∧ ts.length ≤ c ∧ c ≤ maxLen ∧ rest.length ≤ c2 ∧ c2 ≤ maxLen ∧ Below w.heap.size w w' := by
  obtain ⟨hb, ⟨h1, _⟩ | ⟨ts', rest', A, c, A2, c2, h1, h2, h3, h4, h5, h6, h7, h8⟩⟩ := h
  · rw [hp] at h1; cases h1
  · rw [hp] at h1
    simp only [Option.some.injEq, Prod.mk.injEq] at h1
    obtain ⟨rfl, rfl⟩ := h1
    exact ⟨A, c, A2, c2, h2, Reads.of_own h3, Reads.of_own h4, h5, h6, h7, h8, hb⟩

theorem wireTells_any (w : World) : Calls Try.prog 27 #[] w fun e w' => e = .returned (.bool true) ∧ Below w.heap.size w w' := by
  have hone : RdS (w.alloc (.cells #[.string ⟨#[120]⟩] 9)) (w.heap.size + 1) (some ⟨w.heap.size, 0, none⟩) [[120]] := reads_one w _ _ _ rfl
  have hfp := feed_pack [[120]] (by simp)
  have hpl : (packL [[120]]).length = 3 := rfl
  have HFP := Lib.hid hfp
  clear hfp
  generalize hX : packL [[120]] = X at *
  have HX := Lib.hid hX
  clear hX
  go_enter Try.func27, Try.ntmps27
  go_wp2_with fail
  refine (pack_any (some ⟨w.heap.size, 0, none⟩) [[120]] 1 _ _ hone (by simp) (by simp) (by simp)).mono ?_; rintro e w1 ⟨A1, c1, rfl, rd1, k1, m1, b1⟩
  rw [HX.out] at rd1 k1
  have hb1 : Below w.heap.size w w1 := ((Below.refl _ _).alloc (Nat.le_refl _) _).trans (b1.mono (by simp))
  rw [HX.out]
  go_wp2_with fail
  rw [← hpl]
  refine (feed_any none [] 0 w1.heap.size A1 X c1 w1.heap.size w1 Reads.none_ (Nat.le_refl _) (by simp) rd1 (Nat.le_refl _) (by simp; omega)).mono ?_; intro e w2 h2
  obtain ⟨A2, c2, A3, c3, rfl, rd2, rd3, k2, m2, k3, m3, b2⟩ := feed_some h2 (by rw [List.nil_append]; exact HFP.out)
  clear h2
  go_wp2_with fail
  go_ret
  exact ⟨rfl, bstep hb1 b2⟩

theorem wireBack_walk (A0 : Option Addr) (l0 : List Raw) (c0 : Nat) (w : World) (r0 : RdR w w.heap.size A0 l0) (k0 : l0.length ≤ c0) (m0 : c0 * 40 ≤ 140737488351232) (o0 : ∀ r ∈ l0, r.ok) :
    Calls Try.prog 9 #[.slice A0 l0.length c0] w fun e w' => e = .returned (.bool true) ∧ Below w.heap.size w w' := by
  have h10 : (textsT l0).length ≤ 10 := by simp [textsT]; omega
  have h50 : ∀ t ∈ textsT l0, t.length ≤ 50 := by
    intro t ht
    unfold textsT at ht
    obtain ⟨r, _, rfl⟩ := List.mem_map.1 ht
    exact textT_le r
  go_enter Try.func9, Try.ntmps9
  go_wp2_with fail
  refine (textsOf_any A0 l0 c0 w.heap.size w r0 (Nat.le_refl _) k0 o0).mono ?_; rintro e w1 ⟨A1, c1, rfl, rd1, k1, m1, b1⟩
  generalize textsT l0 = ts at *
  have h300 : ∀ t ∈ ts, t.length ≤ 300 := fun t ht => by have := h50 t ht; omega
  have hfp := feed_pack ts h300
  have hlen := packL_le ts 50 h50
  have HFP := Lib.hid hfp
  have H300 := Lib.hid h300
  clear hfp h50 h300
  go_wp2_with fail
  refine (pack_any A1 ts c1 w1.heap.size w1 rd1 (Nat.le_refl _) (by omega) H300.out).mono ?_; rintro e w2 ⟨A2, c2, rfl, rd2, k2, m2, b2⟩
  generalize packL ts = X at *
  go_wp2_with fail
  refine (feed_any none [] 0 w2.heap.size A2 X c2 w2.heap.size w2 Reads.none_ (Nat.le_refl _) (by simp) rd2 (Nat.le_refl _) (by simp; omega)).mono ?_; intro e w3 h3
  obtain ⟨A3, c3, A4, c4, rfl, rd3, rd4, k3, m3, k4, m4, b3⟩ := feed_some h3 (by rw [List.nil_append]; exact HFP.out)
  clear h3
  go_wp2_with fail
  refine (wireTells_any w3).mono ?_; rintro e w4 ⟨rfl, b4⟩
  go_wp2_with fail
  refine (sameTexts_any A1 A3 ts ts c1 c3 w1.heap.size w3.heap.size w4 (((rd1.call b2 (Nat.le_refl _)).call b3 b2.size).call b4 (Nat.le_trans b2.size b3.size)) (rd3.call b4 (Nat.le_refl _)) (Nat.le_trans b2.size (Nat.le_trans b3.size b4.size)) b4.size (by omega) (by omega)).mono ?_; rintro e w5 ⟨rfl, b5⟩
  have hqq : (ts == ts) = true := by simp
  go_wp2_with fail
  go_ret
  exact ⟨ret_bool (by first | rfl | simp), bstep (bstep (bstep (bstep b1 b2) b3) b4) b5⟩
end Go.Proofs.Ytgakkghlphnoaaa
