/-
  What wire.Feed answers. Conditions: at most 301 bytes are held, and all bytes together are at most two millions.
-/
import Derived.Test.YtgakkghlphnoaaaWire
namespace Go.Proofs.Ytgakkghlphnoaaa
set_option linter.unusedSimpArgs false
set_option linter.unusedVariables false
open Go.RowKit

def FeedPost (r : List UInt8) (w : World) (e : Ending) (w' : World) : Prop :=
  Below w.heap.size w w' ∧ ((feedL r = none ∧ e = .returned (.tuple #[.slice none 0 0, .slice none 0 0, .int .i64 1])) ∨
    ∃ ts rest A c A2 c2, feedL r = some (ts, rest) ∧ e = .returned (.tuple #[.slice A ts.length c, .slice A2 rest.length c2, .int .i64 0]) ∧ w'.ownsRow w.heap.size 9 1 (.slice A ts.length c) ts.length (SC ts) ∧ w'.ownsRow w.heap.size 5 1 (.slice A2 rest.length c2) rest.length (rest.map B8) ∧ ts.length ≤ c ∧ c ≤ maxLen ∧ rest.length ≤ c2 ∧ c2 ≤ maxLen)

theorem RONE (W : World) (k : Nat) (t : List UInt8) : Reads ((W.alloc (.cells #[.string (Str t)] 9)).drewN k) (W.heap.size + 1) 1 (some ⟨W.heap.size, 0, none⟩) 1 [.string (Str t)] := (reads_one W _ _ _ rfl).drewN k
set_option maxHeartbeats 4000000 in
theorem feed_any (A : Option Addr) (h : List UInt8) (c B : Nat) (A' : Option Addr) (b : List UInt8) (c' B' : Nat) (w : World) (hr : RdB w B A h) (hB : B ≤ w.heap.size) (hh : h.length ≤ 301) (hr' : RdB w B' A' b) (hB' : B' ≤ w.heap.size) (hsz : h.length + b.length ≤ 2097152) :
    Calls Try.prog 26 #[.slice A h.length c, .slice A' b.length c'] w (FeedPost (h ++ b) w) := by
  go_enter Try.func26, Try.ntmps26
  go_wp2_with (first
    | (at_builtin; refine app_own 22 5 _ 1 1 (.tmp 13) (.tmp 14) rfl rfl Try.underlying22 info_u8 rfl (by decide) (w0 := w) (v := .slice (some ⟨w.heap.size, 0, none⟩) 0 0) rfl (n := 0) (xs := []) (own_none _ _ _ _ _ (by simp) (by simp)) ((Below.refl _ _).alloc (Nat.le_refl _) _) rfl (m := h.length) (B := B) (news := h.map B8) (Reads.alloc hr hB _) (one_B8 h) (by omega) (by simp [maxLen]; omega) ?_; intro A3 c3 w3 hown3 hk3 hm3 hbel3 hg3 ho3; rw [Nat.zero_add, List.nil_append] at hown3)
    | (at_builtin; refine app_own 22 5 _ 1 1 (.tmp 15) (.tmp 16) rfl rfl Try.underlying22 info_u8 rfl (by decide) (w0 := w) (v := .slice A3 h.length c3) rfl (n := h.length) hown3 hbel3 rfl (m := b.length) (B := B') (news := b.map B8) (hr'.below (hbel3.mono hB')) (one_B8 b) (by omega) (by simp [maxLen]; omega) ?_; intro A4 c4 w1 hown1 hk1 hm1 hbel1 hg1 ho1))
  have hall : (h ++ b).length = h.length + b.length := by simp
  have hrd1 : RdB w1 w1.heap.size A4 (h ++ b) := by
    have hx := Reads.of_own hown1
    rw [← List.map_append] at hx
    unfold RdB
    rwa [hall]
  rw [← hall] at hk1
  have hlen : (h ++ b).length ≤ 2097152 := by omega
  have HALL := Lib.hid hall
  have hsz1 := hbel1.size
  clear hown1 hg1 ho1 hown3 hg3 ho3 hall hr hr'
  generalize hL : h ++ b = L at *
  have HL := Lib.hid hL
  clear hL
  have hlen2 : h.length + b.length = L.length := HALL.out.symm
  have hfin0 : feedL L = (feedL L).map (fun x => ([] ++ x.1, x.2)) := by cases feedL L <;> simp
  have HF0 := Lib.hid hfin0
  have HL2 := Lib.hid hlen2
  clear hfin0 hlen2
  rw [HL2.out]
  go_wp2_with fail
  go_loopw [7, 8] (fun s v wr => ∃ r ts A' c' A3 c3, s = .slice A' (r : List UInt8).length c' ∧ v = .slice A3 (ts : List (List UInt8)).length c3 ∧ RdB w1 w1.heap.size A' r ∧ r.length ≤ c' ∧ c' ≤ maxLen ∧
    wr.ownsRow w1.heap.size 9 1 (.slice A3 ts.length c3) ts.length (SC ts) ∧ ts.length ≤ c3 ∧ c3 ≤ maxLen ∧ Below w1.heap.size w1 wr ∧ feedL L = (feedL r).map (fun x => (ts ++ x.1, x.2)) ∧ ts.length + r.length ≤ L.length) (fun s _ _ => lenV s)
  case atStart => exact ⟨L, [], A4, c4, none, 0, rfl, rfl, hrd1, hk1, hm1, World.ownsRow_nil _ _ _ _, by simp, by simp [maxLen], Below.refl _ _, HF0.out, by simp⟩
  case round =>
    clear hk1 hm1 hrd1
    obtain ⟨r, ts, A', c', A3, c3, rfl, rfl, hrd, hrc, hcm, hown, htc, htm, hbel, hfd, hln⟩ := hrel
    have hfe := feedL_eq r
    have HFD := Lib.hid hfd
    have HFE := Lib.hid hfe
    clear hfd hfe
    by_cases d1 : r.length < 2
    · have hfin : feedL L = some (ts, r) := by rw [HFD.out, HFE.out, if_pos d1]; simp
      have HF := Lib.hid hfin
      clear hfin
      go_wp2_with (at_builtin; refine app_own 22 5 _ 1 1 (.tmp 51) (.tmp 52) rfl rfl Try.underlying22 info_u8 rfl (by decide) (w0 := wr) (v := .slice (some ⟨wr.heap.size, 0, none⟩) 0 0) rfl (n := 0) (xs := []) (own_none _ _ _ _ _ (by simp) (by simp)) (by first | exact ((Below.refl _ _).alloc (Nat.le_refl _) _) | exact below_drewN ((Below.refl _ _).alloc (Nat.le_refl _) _) _ | exact ((below_drewN (Below.refl _ _) _).alloc (Nat.le_refl _) _)) rfl (m := r.length) (B := w1.heap.size) (news := r.map B8) (by first | exact hrd.below (hbel.alloc hbel.size _) | exact hrd.below (below_drewN (hbel.alloc hbel.size _) _) | exact hrd.below ((below_drewN hbel _).alloc hbel.size _)) (one_B8 r) (by omega) (by simp [maxLen]; omega) ?_; intro A9 c9 w9 hown9 hk9 hm9 hbel9 hg9 ho9; rw [Nat.zero_add] at hown9 hk9; rw [List.nil_append] at hown9)
      go_ret3
      have hrs := own_mono (own_call hown hbel9) hsz1
      exact ⟨hbel1.trans ((hbel.trans (hbel9.mono hbel.size)).mono hsz1), .inr ⟨ts, r, A3, c3, A9, c9, HF.out, rfl, hrs, own_mono hown9 (Nat.le_trans hsz1 hbel.size), htc, htm, hk9, hm9⟩⟩
    · obtain ⟨bb, oo, x0, x1, rfl, hb, z0, z1, y0, y1, hbe, hb4⟩ := two_bytes (hrd.below hbel) (by omega)
      have hos := or_two _ _ y0 y1
      rw [← hbe] at hos
      have HBE := Lib.hid hbe
      clear hbe
      have i0 : (0 : Int) < (r.length : Int) := by omega
      have i1 : (1 : Int) < (r.length : Int) := by omega
      generalize hq : be2 r = q at *
      have HQ := Lib.hid hq
      clear hq
      go_wp2_with fail
      go_quiet (fail)
      clear hos z0 z1
      by_cases d2 : 300 < q
      · have hfin : feedL L = none := by rw [HFD.out, HFE.out, if_neg d1, if_pos d2]; rfl
        have HF := Lib.hid hfin
        clear hfin
        go_wp2_with fail
        go_ret3
        exact ⟨hbel1.trans ((below_drewN hbel _).mono hsz1), .inl ⟨HF.out, rfl⟩⟩
      · by_cases d3 : r.length < 2 + q
        · have hfin : feedL L = some (ts, r) := by rw [HFD.out, HFE.out, if_neg d1, if_neg d2, if_pos d3]; simp
          have HF := Lib.hid hfin
          clear hfin
          go_wp2_with (at_builtin; refine app_own 22 5 _ 1 1 (.tmp 51) (.tmp 52) rfl rfl Try.underlying22 info_u8 rfl (by decide) (w0 := wr) (v := .slice (some ⟨wr.heap.size, 0, none⟩) 0 0) rfl (n := 0) (xs := []) (own_none _ _ _ _ _ (by simp) (by simp)) (by first | exact ((Below.refl _ _).alloc (Nat.le_refl _) _) | exact below_drewN ((Below.refl _ _).alloc (Nat.le_refl _) _) _ | exact ((below_drewN (Below.refl _ _) _).alloc (Nat.le_refl _) _)) rfl (m := r.length) (B := w1.heap.size) (news := r.map B8) (by first | exact hrd.below (hbel.alloc hbel.size _) | exact hrd.below (below_drewN (hbel.alloc hbel.size _) _) | exact hrd.below ((below_drewN hbel _).alloc hbel.size _)) (one_B8 r) (by omega) (by simp [maxLen]; omega) ?_; intro A9 c9 w9 hown9 hk9 hm9 hbel9 hg9 ho9; rw [Nat.zero_add] at hown9 hk9; rw [List.nil_append] at hown9)
          go_ret3
          have hrs := own_mono (own_call hown hbel9) hsz1
          exact ⟨hbel1.trans ((hbel.trans (hbel9.mono hbel.size)).mono hsz1), .inr ⟨ts, r, A3, c3, A9, c9, HF.out, rfl, hrs, own_mono hown9 (Nat.le_trans hsz1 hbel.size), htc, htm, hk9, hm9⟩⟩
        · obtain ⟨A5, c5, hm5, r5⟩ := mid_rd hrd 2 (2 + q) (by omega) (by omega) hrc
          obtain ⟨A6, c6, ht6, r6, l6, m6⟩ := tail_rd hrd (2 + q) (by omega) hrc hcm
          have e2 : 2 + q - 2 = q := by omega
          rw [e2] at r5 hm5
          have hmid : ∀ W : World, (Instr.slice 22 (.slice (some ⟨bb, oo, none⟩) r.length c') (some (.int .i64 2)) (some (.int .i64 (2 + (q : Int)))) none).run Try.prog W = .ok (.slice A5 q c5) W := hm5
          have htl : ∀ W : World, (Instr.slice 22 (.slice (some ⟨bb, oo, none⟩) r.length c') (some (.int .i64 (2 + (q : Int)))) none none).run Try.prog W = .ok (.slice A6 (r.drop (2 + q)).length c6) W := ht6
          clear hm5 ht6 e2
          have hql : ((r.drop 2).take q).length = q := by rw [List.length_take, List.length_drop]; omega
          have hdl : (r.drop (2 + q)).length + 2 ≤ r.length := by rw [List.length_drop]; omega
          have hnext : feedL r = (feedL (r.drop (2 + q))).map (fun x => ((r.drop 2).take q :: x.1, x.2)) := by rw [HFE.out, if_neg d1, if_neg d2, if_neg d3]
          have HN := Lib.hid hnext
          clear hnext
          generalize (r.drop 2).take q = P at *
          generalize r.drop (2 + q) = R at *
          have s1 := fun k => conv_str_drewN (c := c5) (r5.below hbel) hql k
          have HQL := Lib.hid hql
          clear hql
          go_wp2_with (at_builtin; refine app_own 45 9 _ 1 16 (.tmp 38) (.tmp 44) rfl rfl Try.underlying45 info_string rfl (by decide) (w0 := w1) (v := .slice A3 ts.length c3) rfl (n := ts.length) (xs := SC ts) (by first | exact (hown.alloc _) | exact (own_call hown (below_drewN ((Below.refl _ _).alloc (Nat.le_refl _) _) _)) | exact (own_call hown ((below_drewN (Below.refl _ _) _).alloc (Nat.le_refl _) _))) (by first | exact (hbel.alloc hbel.size _) | exact below_drewN (hbel.alloc hbel.size _) _ | exact ((below_drewN hbel _).alloc hbel.size _)) rfl (m := 1) (news := [.string (Str P)]) (RONE _ _ _) (by intro u hu; simp at hu; subst hu; rfl) (by omega) (by simp [maxLen]; omega) ?_; intro A8 c8 w8 hown8 hk8 hm8 hbel8 hg8 ho8)
          go_roundw
          case rel =>
            have hl1 : (ts ++ [P]).length = ts.length + 1 := by simp
            refine ⟨R, ts ++ [P], A6, c6, A8, c8, rfl, by rw [hl1], r6, l6, m6, by rw [hl1, SC_snoc]; exact hown8, by rw [hl1]; exact hk8, hm8, hbel8, ?_, by rw [hl1]; omega⟩
            rw [HFD.out, HN.out, Option.map_map]
            congr 1
            funext x
            simp
          case measure => simp [lenV]; omega
end Go.Proofs.Ytgakkghlphnoaaa
