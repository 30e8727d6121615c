/-
  The walks of FrameBack and FrameFixed: they return true. The arguments' slices are read below new memory.
-/
import Derived.Test.YtgakkghlphnoaaaFrameLaw
namespace Go.Proofs.Ytgakkghlphnoaaa
set_option linter.unusedSimpArgs false
set_option linter.unusedVariables false
open Go.RowKit

theorem parse_back {b : List UInt8} {w w' : World} {e : Ending} {t : Int} {ps : List (List UInt8)} (h : ParsePost b w e w') (hp : parseL b = .ok (t, ps)) :
    ∃ A' c', e = .returned (.tuple #[.int .i64 t, .slice A' ps.length c', .int .i64 0]) ∧ RdL w' w'.heap.size A' ps ∧ ps.length ≤ c' ∧ c' ≤ maxLen ∧ Below w.heap.size w w' := by
  obtain ⟨hb, ⟨x, h1, _, _⟩ | ⟨t', ps', A', c', h1, h2, h3, h4, h5⟩⟩ := h
  · rw [hp] at h1; cases h1
  · rw [hp] at h1
    simp only [Except.ok.injEq, Prod.mk.injEq] at h1
    obtain ⟨rfl, rfl⟩ := h1
    exact ⟨A', c', h2, h3, h4, h5, hb⟩

theorem frameBack_walk (a0 : Int) (A1 : Option Addr) (l1 : List Raw) (c1 : Nat) (w : World) (_w0 : I64 a0) (r1 : RdR w w.heap.size A1 l1) (k1 : l1.length ≤ c1) (m1 : c1 * 40 ≤ 140737488351232) (o1 : ∀ r ∈ l1, r.ok) :
    Calls Try.prog 12 #[.int .i64 a0, .slice A1 l1.length c1] w fun e w' => e = .returned (.bool true) ∧ Below w.heap.size w w' := by
  have hx := emod_in a0 9 (by omega)
  have hsh := fun t => frame_short t l1
  go_enter Try.func12, Try.ntmps12
  go_wp2_with fail
  refine (picked_any _ _ _ (by omega) (by omega)).mono ?_; rintro e w' ⟨rfl, rfl⟩
  generalize a0 % 9 = x at *
  obtain ⟨hx1, hx2⟩ := hx
  go_wp2_with fail
  refine (partsOf_any A1 l1 c1 w.heap.size w r1 (Nat.le_refl _) k1 o1).mono ?_; rintro e w1 ⟨A2, c2, rfl, rd2, k2, m2, b1⟩
  generalize partsL l1 = ps at *
  obtain ⟨hs, hn8⟩ := hsh (1 + x)
  clear hsh
  have hpar := parse_frame (1 + x) ps (by omega) (by omega) hn8 (by omega)
  have HPAR := Lib.hid hpar
  clear hpar
  go_wp2_with fail
  refine (Frame_ok (1 + x) A2 ps c2 _ w1 (by omega) (by omega) rd2 (Nat.le_refl _) k2 hn8 (by omega)).mono ?_; rintro e w2 ⟨A3, c3, rfl, own3, k3, m3, b2⟩
  have rd3 : RdB w2 w2.heap.size A3 (frameL (1 + x) ps) := Reads.of_own own3
  generalize hF : frameL (1 + x) ps = F at *
  clear hF
  go_wp2_with fail
  refine (parse_any A3 F c3 _ w2 rd3 (Nat.le_refl _) k3 m3 (by omega)).mono ?_; intro e w3 h3
  obtain ⟨A4, c4, rfl, rd4, k4, m4, b3⟩ := parse_back h3 HPAR.out
  clear h3
  go_wp2_with fail
  refine (sameLists_any A2 A4 ps ps c2 c4 w1.heap.size w3.heap.size w3 ((rd2.call b2 (Nat.le_refl _)).call b3 b2.size) rd4 (Nat.le_trans b2.size b3.size) (Nat.le_refl _) (by omega) (by omega)).mono ?_; rintro e w4 ⟨rfl, b4⟩
  have hqq : (ps == ps) = true := by simp
  go_wp2_with fail
  go_ret
  exact ⟨ret_bool (by first | rfl | simp), bstep (bstep (bstep b1 b2) b3) b4⟩

theorem frameFixed_walk (A0 : Option Addr) (l0 : List UInt8) (c0 : Nat) (w : World) (r0 : RdB w w.heap.size A0 l0) (k0 : l0.length ≤ c0) (m0 : c0 ≤ 140737488351232) :
    Calls Try.prog 13 #[.slice A0 l0.length c0] w fun e w' => e = .returned (.bool true) ∧ Below w.heap.size w w' := by
  have hone : (frameL 1 []).length = 2 := rfl
  go_enter Try.func13, Try.ntmps13
  go_wp2_with fail
  refine (Frame_ok 1 none [] 0 w.heap.size w (by omega) (by omega) RdL.none_ (Nat.le_refl _) (by simp) (by simp) (by simp [frameL])).mono ?_; rintro e w1 ⟨A1, c1, rfl, own1, k1, m1, b1⟩
  rw [hone] at *
  clear own1 hone
  go_wp2_with fail
  refine (parse_any A0 l0 c0 w.heap.size w1 (r0.below b1) b1.size k0 (by simp [maxLen]; omega) (by omega)).mono ?_; intro e w2 h2
  obtain ⟨b2, ⟨x, hp, hx, rfl⟩ | ⟨t, ps, A2, c2, hp, rfl, rd2, k2, m2⟩⟩ := h2
  · have hxx : (x != 0) = true := by simpa using hx
    clear hp hx
    go_wp2_with fail
    go_ret
    exact ⟨ret_bool (by first | rfl | simp), bstep b1 b2⟩
  · obtain ⟨h1, h2, h3, h4, h5⟩ := parse_inv l0 t ps hp
    clear hp
    go_wp2_with fail
    refine (Frame_ok t A2 ps c2 _ w2 h1 h2 rd2 (Nat.le_refl _) k2 h3 (by rw [h4]; exact h5)).mono ?_; rintro e w3 ⟨A3, c3, rfl, own3, k3, m3, b3⟩
    rw [h4] at *
    have rd3 : RdB w3 w3.heap.size A3 l0 := Reads.of_own own3
    have rdb : RdB w3 w.heap.size A0 l0 := ((r0.below b1).below (b2.mono b1.size)).below (b3.mono (Nat.le_trans b1.size b2.size))
    clear own3 h4
    have s1 := conv_str (c := c0) rdb rfl
    have s2 := conv_str (c := c3) rd3 rfl
    go_wp2_with fail
    go_ret
    exact ⟨ret_bool (by first | rfl | simp), bstep (bstep b1 b2) b3⟩

theorem frameApart_walk (a0 : Int) (A1 : Option Addr) (l1 : List Raw) (c1 : Nat) (a2 : Int) (A3 : Option Addr) (l3 : List Raw) (c3 : Nat) (w : World) (_w0 : I64 a0) (r1 : RdR w w.heap.size A1 l1) (k1 : l1.length ≤ c1) (m1 : c1 * 40 ≤ 140737488351232) (o1 : ∀ r ∈ l1, r.ok)
    (_w2 : I64 a2) (r3 : RdR w w.heap.size A3 l3) (k3 : l3.length ≤ c3) (m3 : c3 * 40 ≤ 140737488351232) (o3 : ∀ r ∈ l3, r.ok) :
    Calls Try.prog 8 #[.int .i64 a0, .slice A1 l1.length c1, .int .i64 a2, .slice A3 l3.length c3] w fun e w' => e = .returned (.bool true) ∧ Below w.heap.size w w' := by
  have hx := emod_in a0 9 (by omega)
  have hy := emod_in a2 9 (by omega)
  have hsh := fun t => frame_short t l1
  have hsh3 := fun t => frame_short t l3
  go_enter Try.func8, Try.ntmps8
  go_wp2_with fail
  refine (picked_any _ _ _ (by omega) (by omega)).mono ?_; rintro e w' ⟨rfl, rfl⟩
  generalize a0 % 9 = x at *
  obtain ⟨hx1, hx2⟩ := hx
  go_wp2_with fail
  refine (picked_any _ _ _ (by omega) (by omega)).mono ?_; rintro e w' ⟨rfl, rfl⟩
  generalize a2 % 9 = y at *
  obtain ⟨hy1, hy2⟩ := hy
  go_wp2_with fail
  refine (partsOf_any A1 l1 c1 w.heap.size w r1 (Nat.le_refl _) k1 o1).mono ?_; rintro e w1 ⟨A4, c4, rfl, rd4, k4, m4, b1⟩
  go_wp2_with fail
  refine (partsOf_any A3 l3 c3 w.heap.size w1 (r3.below b1) b1.size k3 o3).mono ?_; rintro e w2 ⟨A5, c5, rfl, rd5, k5, m5, b2⟩
  generalize partsL l1 = ps at *
  generalize partsL l3 = qs at *
  obtain ⟨hs, hn8⟩ := hsh (1 + x)
  obtain ⟨hs3, hn83⟩ := hsh3 (1 + y)
  clear hsh hsh3
  have hap := frame_apart (1 + x) (1 + y) ps qs (by omega) (by omega) (by omega) (by omega) hn8 hn83 (by omega) (by omega)
  have hf2 : 2 ≤ (frameL (1 + x) ps).length := by rw [frameL_len]; omega
  have hf3 : 2 ≤ (frameL (1 + y) qs).length := by rw [frameL_len]; omega
  have HAP := Lib.hid hap
  clear hap
  go_wp2_with fail
  refine (Frame_ok (1 + x) A4 ps c4 _ w2 (by omega) (by omega) (rd4.call b2 (Nat.le_refl _)) b2.size k4 hn8 (by omega)).mono ?_; rintro e w3 ⟨A6, c6, rfl, own6, k6, m6, b3⟩
  have rd6 : RdB w3 w3.heap.size A6 (frameL (1 + x) ps) := Reads.of_own own6
  go_wp2_with fail
  refine (Frame_ok (1 + y) A5 qs c5 _ w3 (by omega) (by omega) (rd5.call b3 (Nat.le_refl _)) b3.size k5 hn83 (by omega)).mono ?_; rintro e w4 ⟨A7, c7, rfl, own7, k7, m7, b4⟩
  have rd7 : RdB w4 w4.heap.size A7 (frameL (1 + y) qs) := Reads.of_own own7
  have rd6' := rd6.call b4 (Nat.le_refl _)
  clear own6 own7 rd6
  generalize hF : frameL (1 + x) ps = F at *
  generalize hG : frameL (1 + y) qs = G at *
  clear hF hG
  obtain ⟨n, hn⟩ : ∃ n : Nat, n = min F.length G.length := ⟨_, rfl⟩
  obtain ⟨i1, i2⟩ := HAP.out n hn
  have hmin : ∀ w' : World, (Builtin.min_ #[3, 3] 3 #[.int .i64 (F.length : Int), .int .i64 (G.length : Int)]).run Try.prog w' = .ok (.int .i64 (n : Int)) w' :=
    fun w' => by rw [run_min_int2]; congr 2; split <;> omega
  have n1 : n ≤ F.length := by omega
  have n2 : n ≤ G.length := by omega
  have n3 : n ≤ c6 := by omega
  have n4 : n ≤ c7 := by omega
  have n5 : (n : Int) ≤ (c6 : Int) := by omega
  have n6 : (n : Int) ≤ (c7 : Int) := by omega
  have n7 : (0 : Int) ≤ (n : Int) := by omega
  have t6 := rd6'.take n1
  have t7 := rd7.take n2
  have hla : (F.take n).length = n := by rw [List.length_take]; omega
  have hlb : (G.take n).length = n := by rw [List.length_take]; omega
  clear hn HAP
  by_cases hxy : x = y
  · subst hxy
    simp only [true_and] at i1 i2
    have f1 : (F == G) = (ps == qs) := by rw [Bool.eq_iff_iff]; simp [i2]
    have f2 : (F.take n == G.take n) = (ps == qs) := by rw [Bool.eq_iff_iff]; simp [i1]
    go_wp2_with fail
    refine (sameLists_any A4 A5 ps qs c4 c5 _ _ w4 (((rd4.call b2 (Nat.le_refl _)).call b3 b2.size).call b4 (Nat.le_trans b2.size b3.size)) ((rd5.call b3 (Nat.le_refl _)).call b4 b3.size) (Nat.le_trans b2.size (Nat.le_trans b3.size b4.size)) (Nat.le_trans b3.size b4.size) (by omega) (by omega)).mono ?_; rintro e w5 ⟨rfl, b5⟩
    have s1 := conv_str_drewN (c := c6) (rd6'.call b5 b4.size) rfl
    have s2 := conv_str_drewN (c := c7) (rd7.call b5 (Nat.le_refl _)) rfl
    have s3 := conv_str_drewN (c := c6) (t6.call b5 b4.size) hla
    have s4 := conv_str_drewN (c := c7) (t7.call b5 (Nat.le_refl _)) hlb
    have e1 := Str_list F
    have e2 := Str_list G
    have e3 := Str_list (F.take n)
    have e4 := Str_list (G.take n)
    generalize F.take n = F' at *
    generalize G.take n = G' at *
    generalize (ps == qs) = S at *
    clear i1 i2 hla hlb
    go_wp2_with fail
    go_quiet (fail)
    go_wp2_with fail
    go_ret
    exact ⟨ret_bool (by first | rfl | simp), below_drewN (bstep (bstep (bstep (bstep b1 b2) b3) b4) b5) _⟩
  · have hne : ((1 + x) == (1 + y)) = false := by simp; omega
    have hxy' : ¬ (1 + x = 1 + y) := by omega
    simp only [hxy', false_and, iff_false] at i1 i2
    have f1 : (F == G) = false := by simpa using i2
    have f2 : (F.take n == G.take n) = false := by simpa using i1
    have s1 := conv_str_drewN (c := c6) rd6' rfl
    have s2 := conv_str_drewN (c := c7) rd7 rfl
    have s3 := conv_str_drewN (c := c6) t6 hla
    have s4 := conv_str_drewN (c := c7) t7 hlb
    have e1 := Str_list F
    have e2 := Str_list G
    have e3 := Str_list (F.take n)
    have e4 := Str_list (G.take n)
    generalize F.take n = F' at *
    generalize G.take n = G' at *
    clear i1 i2 hla hlb hxy hxy'
    go_wp2_with fail
    go_quiet (fail)
    go_wp2_with fail
    go_ret
    exact ⟨ret_bool (by first | rfl | simp), below_drewN (bstep (bstep (bstep b1 b2) b3) b4) _⟩
end Go.Proofs.Ytgakkghlphnoaaa
