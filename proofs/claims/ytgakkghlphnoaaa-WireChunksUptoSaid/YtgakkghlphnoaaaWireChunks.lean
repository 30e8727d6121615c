/-
  The walk of WireChunks: it returns true. Condition: the bytes are at most 1048576 (with their spare places).
-/
import Derived.Test.YtgakkghlphnoaaaWireBack
namespace Go.Proofs.Ytgakkghlphnoaaa
set_option linter.unusedSimpArgs false
set_option linter.unusedVariables false
open Go.RowKit

theorem head_run (A : Option Addr) (n c k : Nat) (hk : k ≤ c) (W : World) : (Instr.slice 22 (.slice A n c) none (some (.int .i64 (k : Int))) none).run Try.prog W = .ok (.slice A k c) W := by
  have hu := Try.underlying22
  simp [go_sem]
  intro h
  omega
theorem feed_own {r : List UInt8} {w w' : World} {e : Ending} {ts : List (List UInt8)} {rest : List UInt8} (h : FeedPost r w e w') (hp : feedL r = some (ts, rest)) :
    ∃ A c A2 c2, e = .returned (.tuple #[.slice A ts.length c, .slice A2 rest.length c2, .int .i64 0]) ∧ w'.ownsRow w.heap.size 9 1 (.slice A ts.length c) ts.length (SC ts) ∧ w'.ownsRow w.heap.size 5 1 (.slice A2 rest.length c2) rest.length (rest.map B8) ∧ ts.length ≤ c ∧ c ≤ maxLen ∧ rest.length ≤ c2 ∧ c2 ≤ maxLen ∧ Below w.heap.size w w' := by
  obtain ⟨hb, ⟨h1, _⟩ | ⟨ts', rest', A, c, A2, c2, h1, h2, h3, h4, h5, h6, h7, h8⟩⟩ := h
  · rw [hp] at h1; cases h1
  · rw [hp] at h1
    simp only [Option.some.injEq, Prod.mk.injEq] at h1
    obtain ⟨rfl, rfl⟩ := h1
    exact ⟨A, c, A2, c2, h2, h3, h4, h5, h6, h7, h8, hb⟩
theorem feed_none {r : List UInt8} {w w' : World} {e : Ending} (h : FeedPost r w e w') (hp : feedL r = none) :
    e = .returned (.tuple #[.slice none 0 0, .slice none 0 0, .int .i64 1]) ∧ Below w.heap.size w w' := by
  obtain ⟨hb, ⟨h1, h2⟩ | ⟨ts', rest', A, c, A2, c2, h1, _⟩⟩ := h
  · exact ⟨h2, hb⟩
  · rw [hp] at h1; cases h1
theorem feed_count (r : List UInt8) : ∀ ts rest, feedL r = some (ts, rest) → ts.length ≤ r.length := by
  generalize hn : r.length = n
  induction n using Nat.strongRecOn generalizing r with
  | _ n ih =>
    intro ts rest h
    rw [feedL_eq] at h
    by_cases c1 : r.length < 2
    · rw [if_pos c1] at h; simp only [Option.some.injEq, Prod.mk.injEq] at h; obtain ⟨rfl, _⟩ := h; simp
    rw [if_neg c1] at h
    by_cases c2 : 300 < be2 r
    · rw [if_pos c2] at h; cases h
    rw [if_neg c2] at h
    by_cases c3 : r.length < 2 + be2 r
    · rw [if_pos c3] at h; simp only [Option.some.injEq, Prod.mk.injEq] at h; obtain ⟨rfl, _⟩ := h; simp
    rw [if_neg c3] at h
    cases hh : feedL (r.drop (2 + be2 r)) with
    | none => rw [hh] at h; cases h
    | some v =>
      rw [hh] at h
      simp only [Option.map_some, Option.some.injEq, Prod.mk.injEq] at h
      obtain ⟨rfl, _⟩ := h
      have := ih (r.drop (2 + be2 r)).length (by rw [List.length_drop]; omega) (r.drop (2 + be2 r)) rfl v.1 v.2 hh
      rw [List.length_drop] at this
      simp only [List.length_cons]
      omega

theorem feed_at (A : Option Addr) (h : List UInt8) (c B : Nat) (A' : Option Addr) (b : List UInt8) (n : Nat) (hn : b.length = n) (c' B' : Nat) (w : World) (hr : RdB w B A h) (hB : B ≤ w.heap.size) (hh : h.length ≤ 301) (hr' : RdB w B' A' b) (hB' : B' ≤ w.heap.size) (hsz : h.length + b.length ≤ 2097152) :
    Calls Try.prog 26 #[.slice A h.length c, .slice A' n c'] w (FeedPost (h ++ b) w) := by
  subst hn
  exact feed_any A h c B A' b c' B' w hr hB hh hr' hB' hsz

theorem same_at (A A' : Option Addr) (ls ms : List (List UInt8)) (n m : Nat) (hn : ls.length = n) (hm' : ms.length = m) (c c' B B' : Nat) (w : World) (hr : RdS w B A ls) (hr' : RdS w B' A' ms) (hB : B ≤ w.heap.size) (hB' : B' ≤ w.heap.size) (hl : n ≤ 100000000) (hm : m ≤ 100000000) :
    Calls Try.prog 28 #[.slice A n c, .slice A' m c'] w fun e w' => e = .returned (.bool (ls == ms)) ∧ Below w.heap.size w w' := by
  subst hn hm'
  exact sameTexts_any A A' ls ms c c' B B' w hr hr' hB hB' hl hm
theorem one_SC (l : List (List UInt8)) : ∀ u ∈ SC l, u.oneCell' = true := by
  intro u hu
  obtain ⟨b, _, rfl⟩ := List.mem_map.1 hu
  rfl

set_option maxHeartbeats 2000000 in
theorem wireChunks_walk (A0 : Option Addr) (l0 : List UInt8) (c0 : Nat) (a1 : Int) (w : World) (r0 : RdB w w.heap.size A0 l0) (k0 : l0.length ≤ c0) (m0 : c0 ≤ 1048576) (_w1 : I64 a1) :
    Calls Try.prog 10 #[.slice A0 l0.length c0, .int .i64 a1] w fun e w' => e = .returned (.bool true) ∧ Below w.heap.size w w' := by
  have hx := emod_in a1 ((l0.length : Int) + 1) (by omega)
  have hmx : c0 ≤ maxLen := by simp only [maxLen]; omega
  go_enter Try.func10, Try.ntmps10
  go_wp2_with fail
  refine (picked_any _ _ _ (by omega) (by omega)).mono ?_; rintro e w' ⟨rfl, rfl⟩
  generalize hk : a1 % ((l0.length : Int) + 1) = kk at *
  obtain ⟨k, rfl⟩ := Int.eq_ofNat_of_zero_le hx.1
  clear hk
  have hkl : k ≤ l0.length := by omega
  have hkc : k ≤ c0 := by omega
  have rt := r0.take hkl
  obtain ⟨Ad, cd, hdr, rd, ld, md⟩ := tail_rd r0 k hkl k0 hmx
  have hhd := head_run A0 l0.length c0 k hkc
  have hla : (l0.take k).length = k := by rw [List.length_take]; omega
  have hlb : (l0.drop k).length ≤ l0.length := drop_len_le _ _
  have hap := feed_app (l0.take k) (l0.drop k)
  rw [List.take_append_drop] at hap
  have hlc : (l0.take k).length + (l0.drop k).length = l0.length := by rw [List.length_take, List.length_drop]; omega
  generalize hX : l0.take k = X at *
  generalize hY : l0.drop k = Y at *
  have hcnt := feed_count l0
  have hcX := feed_count X
  have HAP := Lib.hid hap
  have HLA := Lib.hid hla
  have HLC := Lib.hid hlc
  have HCN := Lib.hid hcnt
  have HCX := Lib.hid hcX
  have hXl : X.length ≤ 1048576 := by omega
  clear hap hla hX hY hlc hcnt hcX
  go_wp2_with fail
  refine (feed_any none [] 0 w.heap.size A0 l0 c0 w.heap.size w Reads.none_ (Nat.le_refl _) (by simp) r0 (Nat.le_refl _) (by simp; omega)).mono ?_; intro e w1 h1
  rw [List.nil_append] at h1
  cases hFX : feedL X with
  | none =>
    have hall := HAP.out.1 hFX
    obtain ⟨rfl, b1⟩ := feed_none h1 hall
    clear h1 hall
    have HFX := Lib.hid hFX
    clear hFX
    go_wp2_with fail
    refine (feed_at none [] 0 w1.heap.size A0 X k HLA.out c0 w.heap.size w1 Reads.none_ (Nat.le_refl _) (by simp) (rt.below b1) b1.size (by simp; omega)).mono ?_; intro e w2 h2
    rw [List.nil_append] at h2
    obtain ⟨rfl, b2⟩ := feed_none h2 HFX.out
    clear h2
    go_wp2_with fail
    refine (feed_any none [] 0 w2.heap.size Ad Y cd w.heap.size w2 Reads.none_ (Nat.le_refl _) (by simp) ((rd.below b1).below (b2.mono b1.size)) (Nat.le_trans b1.size b2.size) (by simp; omega)).mono ?_; intro e w3 h3
    obtain ⟨b3, ⟨_, rfl⟩ | ⟨us, s, A3, c3, A4, c4, _, rfl, _, _, _, _, _, _⟩⟩ := h3
    · go_wp2_with fail
      refine (wireTells_any w3).mono ?_; rintro e w4 ⟨rfl, b4⟩
      go_wp2_with fail
      go_ret
      exact ⟨ret_bool (by first | rfl | simp), bstep (bstep (bstep b1 b2) b3) b4⟩
    · go_wp2_with fail
      refine (wireTells_any w3).mono ?_; rintro e w4 ⟨rfl, b4⟩
      go_wp2_with fail
      go_ret
      exact ⟨ret_bool (by first | rfl | simp), bstep (bstep (bstep b1 b2) b3) b4⟩
  | some tr =>
    obtain ⟨ts, r⟩ := tr
    obtain ⟨hr301, hall⟩ := HAP.out.2 ts r hFX
    have hts := HCX.out ts r hFX
    have HFX := Lib.hid hFX
    have HALL := Lib.hid hall
    clear hFX hall
    cases hFY : feedL (r ++ Y) with
    | none =>
      obtain ⟨rfl, b1⟩ := feed_none h1 (by rw [HALL.out, hFY]; rfl)
      clear h1
      have HFY := Lib.hid hFY
      clear hFY
      go_wp2_with fail
      refine (feed_at none [] 0 w1.heap.size A0 X k HLA.out c0 w.heap.size w1 Reads.none_ (Nat.le_refl _) (by simp) (rt.below b1) b1.size (by simp; omega)).mono ?_; intro e w2 h2
      rw [List.nil_append] at h2
      obtain ⟨A1, c1, A2, c2, rfl, o1, o2, k1, m1, k2, m2, b2⟩ := feed_own h2 HFX.out
      clear h2
      go_wp2_with fail
      refine (feed_any A2 r c2 w2.heap.size Ad Y cd w.heap.size w2 (Reads.of_own o2) (Nat.le_refl _) hr301 ((rd.below b1).below (b2.mono b1.size)) (Nat.le_trans b1.size b2.size) (by omega)).mono ?_; intro e w3 h3
      obtain ⟨rfl, b3⟩ := feed_none h3 HFY.out
      clear h3
      go_wp2_with fail
      refine (wireTells_any w3).mono ?_; rintro e w4 ⟨rfl, b4⟩
      go_wp2_with fail
      go_ret
      exact ⟨ret_bool (by first | rfl | simp), bstep (bstep (bstep b1 b2) b3) b4⟩
    | some us =>
      obtain ⟨us, s⟩ := us
      have hfull : feedL l0 = some (ts ++ us, s) := by rw [HALL.out, hFY]; rfl
      have hcount := HCN.out _ _ hfull
      obtain ⟨A5, c5, A6, c6, rfl, o5, o6, k5, m5, k6, m6, b1⟩ := feed_own h1 hfull
      clear h1
      have HFY := Lib.hid hFY
      have HFL := Lib.hid hfull
      clear hFY hfull
      have hlen : (ts ++ us).length = ts.length + us.length := List.length_append
      have HLN := Lib.hid hlen
      have hsm : ts.length + us.length ≤ 1048576 := by omega
      clear hlen
      go_wp2_with fail
      refine (feed_at none [] 0 w1.heap.size A0 X k HLA.out c0 w.heap.size w1 Reads.none_ (Nat.le_refl _) (by simp) (rt.below b1) b1.size (by simp; omega)).mono ?_; intro e w2 h2
      rw [List.nil_append] at h2
      obtain ⟨A1, c1, A2, c2, rfl, o1, o2, k1, m1, k2, m2, b2⟩ := feed_own h2 HFX.out
      clear h2
      go_wp2_with fail
      refine (feed_any A2 r c2 w2.heap.size Ad Y cd w.heap.size w2 (Reads.of_own o2) (Nat.le_refl _) hr301 ((rd.below b1).below (b2.mono b1.size)) (Nat.le_trans b1.size b2.size) (by omega)).mono ?_; intro e w3 h3
      obtain ⟨A7, c7, A8, c8, rfl, o7, o8, k7, m7, k8, m8, b3⟩ := feed_own h3 HFY.out
      clear h3
      go_wp2_with fail
      refine (wireTells_any w3).mono ?_; rintro e w4 ⟨rfl, b4⟩
      have hb24 : Below w1.heap.size w1 w4 := bstep (bstep b2 b3) b4
      have o1' := own_call (own_call o1 b3) b4
      have ru : Reads w4 w3.heap.size 1 A7 us.length (SC us) := (Reads.of_own o7).call b4 (Nat.le_refl _)
      have o1lt := o1.lt
      go_wp2_with (at_builtin; refine app_own_if 45 9 _ 1 16 (.tmp 62) (.tmp 63) rfl rfl Try.underlying45 info_string rfl (by decide) (w0 := w1) (v := .slice A1 ts.length c1) rfl (n := ts.length) (xs := SC ts) o1' hb24 rfl (m := us.length) (news := SC us) ru (one_SC us) (by omega) (by simp [maxLen]; omega) ?_; intro A9 c9 w5 hown9 hk9 hm9 hbel9 hg9 ho9)
      have e9 : SC ts ++ SC us = SC (ts ++ us) := by simp [SC]
      rw [e9] at hown9
      have rs9 : RdS w5 w5.heap.size A9 (ts ++ us) := by
        have h := Reads.of_own hown9
        unfold RdS
        rwa [HLN.out]
      have hrow : ∀ g, (Value.slice A1 ts.length c1).ownBlock = some g → w1.heap.size ≤ g ∧ g < w2.heap.size := o1lt
      have rs5 : RdS w5 w1.heap.size A5 (ts ++ us) := (RdS.below (show RdS w1 w1.heap.size A5 (ts ++ us) from Reads.of_own o5) hbel9)
      have rh6 : RdB w5 w1.heap.size A6 s := RdB.below (show RdB w1 w1.heap.size A6 s from Reads.of_own o6) hbel9
      have o8' : w5.ownsRow w2.heap.size 5 1 (.slice A8 s.length c8) s.length (s.map B8) := (own_call o8 b4).kept hg9 (by
        cases hob : (Value.slice A8 s.length c8).ownBlock with
        | none => exact .inl rfl
        | some g =>
          refine .inr fun e => ?_
          have h1 := (o8.lt g hob).1
          have h2 := (hrow g e.symm).2
          omega)
      have hs15 : w1.heap.size ≤ w5.heap.size := hbel9.size
      clear hg9 ho9 hown9 o1 o2 o5 o6 o7 o8 o1' ru hrow o1lt
      refine (same_at A5 A9 (ts ++ us) (ts ++ us) _ _ HLN.out HLN.out c5 c9 w1.heap.size w5.heap.size w5 rs5 rs9 hs15 (Nat.le_refl _) (by omega) (by omega)).mono ?_; rintro e w6 ⟨rfl, b6⟩
      have hqq : (ts ++ us == ts ++ us) = true := by simp
      have s1 := conv_str (c := c6) (rh6.call b6 hs15) rfl
      have s2 := conv_str (c := c8) (RdB.call (show RdB w5 w5.heap.size A8 s from Reads.of_own o8') b6 (Nat.le_refl _)) rfl
      go_wp2_with fail
      go_ret
      exact ⟨ret_bool (by first | rfl | simp), bstep b1 (bstep hbel9 b6)⟩
end Go.Proofs.Ytgakkghlphnoaaa
