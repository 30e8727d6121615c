/-
  What 'written' answers: a disk of the call's own. Condition: the list reads well.
-/
import Derived.Test.YtgakkghlphnoaaaDiskSync
import Derived.Test.YtgakkghlphnoaaaRegionK
namespace Go.Proofs.Ytgakkghlphnoaaa
set_option linter.unusedSimpArgs false
set_option linter.unusedVariables false
open Go.RowKit

/-- A disk of so many sectors, and at most so many puts. -/
structure DiskL.fit (d : DiskL) (n k : Nat) : Prop where
  len : d.lasts.length = n
  few : d.writes.length ≤ k

theorem Agree.frame {R : Array Oper} {a0 a : Act} (h : Agree R a0 a) (ds : List Nat) (hds : ((List.range R.size).all fun i => match dstOf R i with | none => true | some d => ds.contains d) = true) :
    a = ⟨ds.foldl (fun b d => b.setIfInBounds d (a.tmps.getD d undef)) a0.tmps, a0.defers⟩ := by
  have hw : ∀ t, (∃ i, dstOf R i = some t) → t ∈ ds := by
    rintro t ⟨i, hi⟩
    have hlt : i < R.size := by
      rcases Nat.lt_or_ge i R.size with h' | h'
      · exact h'
      · unfold dstOf at hi
        rw [Array.getElem?_eq_none h'] at hi
        cases hi
    have := List.all_eq_true.1 hds i (List.mem_range.2 hlt)
    rw [hi] at this
    simpa using this
  have hfold : ∀ (ds : List Nat) (b : Array Value), b.size = a.tmps.size → (ds.foldl (fun b d => b.setIfInBounds d (a.tmps.getD d undef)) b).size = a.tmps.size ∧
      ∀ t, (ds.foldl (fun b d => b.setIfInBounds d (a.tmps.getD d undef)) b)[t]? = if t ∈ ds then a.tmps[t]? else b[t]? := by
    intro ds
    induction ds with
    | nil => intro b hb; exact ⟨hb, fun t => by simp⟩
    | cons d ds ih =>
      intro b hb
      rw [List.foldl_cons]
      obtain ⟨h1, h2⟩ := ih (b.setIfInBounds d (a.tmps.getD d undef)) (by simpa using hb)
      refine ⟨h1, fun t => ?_⟩
      rw [h2 t]
      by_cases htd : t ∈ ds
      · simp [htd]
      · rw [if_neg htd]
        by_cases hd : t = d
        · subst hd
          rw [if_pos (by simp), Array.getElem?_setIfInBounds_self]
          by_cases hlt : t < b.size
          · rw [if_pos hlt, Array.getD_eq_getD_getElem?, Array.getElem?_eq_getElem (by omega)]
            rfl
          · rw [if_neg hlt, Array.getElem?_eq_none (by omega)]
        · rw [if_neg (by simp [hd, htd]), Array.getElem?_setIfInBounds_ne (Ne.symm hd)]
  obtain ⟨tm, df⟩ := a
  have hdf : df = a0.defers := h.defers
  subst hdf
  congr 1
  apply Array.ext_getElem?
  intro t
  rw [(hfold ds a0.tmps h.size.symm).2 t]
  by_cases ht : t ∈ ds
  · rw [if_pos ht]
  · rw [if_neg ht]
    exact h.same t (fun i hi => ht (hw t ⟨i, hi⟩))

/-- What holds of the world while a sector is written. -/
structure WrI (w : World) (gd gr Wb : Nat) (dv rv : Array Value) (d : DiskL) (B1 : Option Addr) (d1 : Nat) (B2 : Option Addr) (d2 : Nat) (b : Bool) (W : World) : Prop where
  below : Below w.heap.size w W
  size : Wb ≤ W.heap.size
  raw : Blk W gr 79 rv
  res : Blk W w.heap.size 57 #[.slice none 0 0, .slice none 0 0]
  disk : b = false → Blk W gd 57 dv
  rd : b = false → RdD W Wb d B1 d1 B2 d2
theorem WrI.step {w : World} {gd gr Wb : Nat} {dv rv : Array Value} {d : DiskL} {B1 B2 : Option Addr} {d1 d2 : Nat} {b : Bool} {W W' : World} (h : WrI w gd gr Wb dv rv d B1 d1 B2 d2 b W) (hb : Below W.heap.size W W') : WrI w gd gr Wb dv rv d B1 d1 B2 d2 b W' :=
  ⟨h.below.trans (hb.mono h.below.size), Nat.le_trans h.size hb.size, h.raw.call hb, h.res.call hb, fun e => (h.disk e).call hb, fun e => (h.rd e).below (hb.mono h.size)⟩
theorem WrI.keep {w : World} {gd gr Wb : Nat} {dv rv : Array Value} {d : DiskL} {B1 B2 : Option Addr} {d1 d2 : Nat} {b : Bool} {W : World} {i k : Nat} (hi : i ≠ k) (h : WrI w gd gr Wb dv rv d B1 d1 B2 d2 b W) : WrI w gd gr Wb dv rv d B1 d1 B2 d2 (b || i == k) W := by
  have e : (i == k) = false := by simp [hi]
  rw [e, Bool.or_false]
  exact h
def GotDisk (Wb n k : Nat) (mk : Value → Value) : Value → World → Prop := fun v W => ∃ d A c A' c', v = mk (.agg #[.slice A n c, .slice A' d.writes.length c']) ∧ DiskL.fit d n k ∧ OwnD W Wb d A c A' c'
theorem stable_got (Wb n k : Nat) (mk : Value → Value) : Stable (GotDisk Wb n k mk) := fun _ _ _ ⟨d, A, c, A', c', h1, h2, h3⟩ hb => ⟨d, A, c, A', c', h1, h2, h3.call hb⟩
theorem stableG_got {Wb g : Nat} (n k : Nat) (mk : Value → Value) (hg : g < Wb) : StableG g (GotDisk Wb n k mk) := fun _ _ _ ⟨d, A, c, A', c', h1, h2, h3⟩ hb => ⟨d, A, c, A', c', h1, h2, h3.grown hb hg⟩
def PutDisk (gd Wb n k : Nat) : Value → World → Prop := fun _ W => ∃ d A c A' c', Blk W gd 57 #[.slice A n c, .slice A' d.writes.length c'] ∧ DiskL.fit d n k ∧ OwnD W Wb d A c A' c'
theorem stable_put (gd Wb n k : Nat) : Stable (PutDisk gd Wb n k) := fun _ _ _ ⟨d, A, c, A', c', h1, h2, h3⟩ hb => ⟨d, A, c, A', c', h1.call hb, h2, h3.call hb⟩
theorem sec_two (x : Int) : (#[.int .u8 (x % 256), .int .u8 1, .int .u8 0, .int .u8 0, .int .u8 0, .int .u8 0, .int .u8 0, .int .u8 0, .int .u8 0, .int .u8 0, .int .u8 0, .int .u8 0, .int .u8 0, .int .u8 0, .int .u8 0, .int .u8 0, .int .u8 0, .int .u8 0, .int .u8 0, .int .u8 0, .int .u8 0, .int .u8 0, .int .u8 0, .int .u8 0, .int .u8 0, .int .u8 0, .int .u8 0, .int .u8 0, .int .u8 0, .int .u8 0, .int .u8 0, .int .u8 0] : Array Value) = secV (UInt8.ofNat (x % 256).toNat :: 1 :: List.replicate 30 0) := by
  have h1 : ((UInt8.ofNat (x % 256).toNat).toNat : Int) = x % 256 := by
    have : (UInt8.ofNat (x % 256).toNat).toNat = (x % 256).toNat % 256 := by simp
    omega
  simp [secV, B8, List.replicate, h1]
  omega

set_option maxHeartbeats 4000000 in
theorem written_any (A : Option Addr) (l : List Raw) (c B n : Nat) (w : World) (hr : RdR w B A l) (hB : B ≤ w.heap.size) (hl : l.length ≤ c) (hok : ∀ r ∈ l, r.ok) (hn0 : 0 < n) (hn1 : n ≤ 400) :
    Calls Try.prog 29 #[.slice A l.length c, .int .i64 (n : Int)] w fun e w' => ∃ d A1 c1 A2 c2, e = .returned (.tuple #[.agg #[.slice A1 n c1, .slice A2 d.writes.length c2], .bool true]) ∧ d.fit n 30 ∧ OwnD w' w.heap.size d A1 c1 A2 c2 ∧ Below w.heap.size w w' := by
  go_enter Try.func29, Try.ntmps29
  go_wp2_with fail
  refine (new_any n _ hn0 hn1).mono ?_; rintro e w1 ⟨A1, c1, A2, c2, rfl, o1, b1⟩
  have hbel1 : Below w.heap.size w w1 := ((Below.refl w.heap.size w).alloc (Nat.le_refl _) _).trans (b1.mono (by simp))
  have hsz1 : w.heap.size + 1 ≤ w1.heap.size := by have := b1.size; simpa using this
  obtain ⟨hr1⟩ : Nonempty (Blk w1 w.heap.size 57 #[.slice none 0 0, .slice none 0 0]) := ⟨by simpa using ((Blk.new w _ _).call b1)⟩
  clear b1
  generalize hE : (⟨List.replicate n (List.replicate 32 0), []⟩ : DiskL) = E at *
  have hfit : E.fit n 0 := ⟨by rw [← hE]; simp, by rw [← hE]; simp⟩
  clear hE
  simp only [hfit.len] at *
  go_wp2_with fail
  refine (some_any A l.length c 30 _ hl (by omega)).mono ?_; rintro e w' ⟨rfl, rfl⟩
  obtain ⟨m, hm⟩ : ∃ m : Nat, m = min l.length 30 := ⟨_, rfl⟩
  rw [← hm]
  have m1 : m ≤ l.length := by omega
  have m2 : m ≤ 30 := by omega
  clear hm
  go_wp2_with fail
  go_loopw [7, 8, 21] (fun e7 b8 i wr => ∃ k d A1 c1 A2 c2, k ≤ m ∧ i = .int .i64 (k : Nat) ∧ e7 = .int .i64 0 ∧ b8 = .bool true ∧ DiskL.fit d n k ∧ OwnD wr (w.heap.size + 1) d A1 c1 A2 c2 ∧ Blk wr w1.heap.size 57 #[.slice A1 n c1, .slice A2 d.writes.length c2] ∧ Blk wr w.heap.size 57 #[.slice none 0 0, .slice none 0 0] ∧ Below w.heap.size w wr ∧ w1.heap.size + 1 ≤ wr.heap.size) (fun _ _ i _ => m - (intOf i).toNat)
  case atStart => exact ⟨0, E, A1, c1, A2, c2, by omega, rfl, rfl, rfl, hfit, (OwnD.mono o1 (by simp)).call ((Below.refl _ _).alloc (Nat.le_refl _) _), Blk.new _ _ _, hr1.alloc _, hbel1.alloc hbel1.size _, by simp⟩
  case round =>
    clear o1 hr1 hfit
    obtain ⟨k, d, B1, d1, B2, d2, hk, rfl, rfl, rfl, hfit, ho, hgd, hres, hbel, hsz⟩ := hrel
    by_cases hlt : k < m
    · obtain ⟨b, off, rfl, hb, q0, q1, q2, q3⟩ := (hr.below (hbel.mono hB)).row (k := k) (by omega)
      have hrok := hok _ (List.getElem_mem (l := l) (n := k) (by omega))
      generalize l[k] = r at *
      have hgd2 := hgd.alloc (.cells #[.int .i64 r.kind, .int .i64 r.a, .int .i64 r.b, .string r.text] 79)
      have hc0 := hgd2.cell 0
      have hc1 := hgd2.cell 1
      simp only [List.getElem?_toArray, List.getElem?_cons_zero, List.getElem?_cons_succ] at hc0 hc1
      go_wp2_with fail
      refine (picked_any _ _ _ (by omega) (by omega)).mono ?_; rintro e w' ⟨rfl, rfl⟩
      by_cases hkd : r.kind % 5 = 0
      · have hq : (r.kind % 5 == 0) = true := by simp [hkd]
        go_wp2_with fail
        have hal : Below wr.heap.size wr (wr.alloc (.cells #[.int .i64 r.kind, .int .i64 r.a, .int .i64 r.b, .string r.text] 79)) := (Below.refl _ _).alloc (Nat.le_refl _) _
        refine (sync_any d B1 d1 B2 d2 wr.heap.size n d.writes.length _ (ho.rd.below hal) (by simp) hfit.len rfl).mono ?_; rintro e w3 ⟨C1, e1, C2, e2, rfl, o3, b3⟩
        have hfl : (fallL (fun _ => true) d.lasts d.writes d.writes.length).length = n := by rw [fallL_len, hfit.len]
        generalize hG : (⟨fallL (fun _ => true) d.lasts d.writes d.writes.length, []⟩ : DiskL) = G at *
        have hfG : DiskL.fit G n (k + 1) := ⟨by rw [← hG]; exact hfl, by rw [← hG]; simp⟩
        clear hG hfl
        simp only [hfG.len]
        have hgd3 := hgd2.call b3
        have hres3 := (hres.alloc _).call b3
        have hbel3 : Below w.heap.size w w3 := (hbel.alloc hbel.size _).trans (b3.mono (by have := hbel.size; simp; omega))
        have hsz3 : wr.heap.size + 1 ≤ w3.heap.size := by have := b3.size; simpa using this
        go_wp2_with ((with_reducible show wpList _ _ _ (⟨none, .store _ (.tmp 6) _, _, _, _, _⟩ :: _) _ _); go_loud (refine step_set (o := ⟨none, _, _, _, _, _⟩) 57 (.tmp 6) (.tmp 34) 2 #[.slice C1 n e1, .slice C2 G.writes.length e2] _ w1.heap.size rfl rfl rfl rfl rfl hgd3 (by kernel_rfl) rfl rfl (by simp [Value.oneCell']) ?_; intro w4 hgd4 hg4 hsz4))
        go_roundw
        case rel => exact ⟨k + 1, G, C1, e1, C2, e2, by omega, by go_num, rfl, rfl, hfG, (o3.grown hg4 (by simp; omega)).mono (by have := hbel.size; simp; omega), hgd4, hres3.grown hg4 (by intro e; injection e with e; omega), hbel3.grown hg4 hbel3.size (fun q hq => by injection hq with hq; omega), by omega⟩
        case measure => simp [intOf]; omega
      · have hq : (r.kind % 5 == 0) = false := by simp [hkd]
        obtain ⟨ia, hia⟩ := Int.eq_ofNat_of_zero_le (emod_in r.a n (by omega)).1
        have hia2 : ia < n := by have := (emod_in r.a n (by omega)).2; omega
        have HIA := Lib.hid hia
        clear hia
        have HS := Lib.hid (sec_two r.b)
        generalize hs0 : (UInt8.ofNat (r.b % 256).toNat :: 1 :: List.replicate 30 (0 : UInt8)) = s0 at HS
        have hs1 : s0.length = 32 := by rw [← hs0]; simp
        clear hs0
        have hal : Below wr.heap.size wr (wr.alloc (.cells #[.int .i64 r.kind, .int .i64 r.a, .int .i64 r.b, .string r.text] 79)) := (Below.refl _ _).alloc (Nat.le_refl _) _
        have hI0 : WrI w w1.heap.size wr.heap.size (wr.heap.size + 1) #[.slice B1 n d1, .slice B2 d.writes.length d2] #[.int .i64 r.kind, .int .i64 r.a, .int .i64 r.b, .string r.text] d B1 d1 B2 d2 false (wr.alloc (.cells #[.int .i64 r.kind, .int .i64 r.a, .int .i64 r.b, .string r.text] 79)).drew :=
          ⟨(hbel.alloc hbel.size _).drew, by simp, (Blk.new _ _ _).drew, (hres.alloc _).drew, fun _ => hgd2.drew, fun _ => ((ho.rd.below hal).more (by omega)).below (Below.refl _ _).drew⟩
        have hgr : w1.heap.size < wr.heap.size + 1 := by omega
        have hkk : k < 60 := by omega
        clear hc0 hc1
        go_wp2_with fail
        refine region_tabK 13 w1.heap.size (by kernel_rfl) (WrI w w1.heap.size wr.heap.size (wr.heap.size + 1) #[.slice B1 n d1, .slice B2 d.writes.length d2] #[.int .i64 r.kind, .int .i64 r.a, .int .i64 r.b, .string r.text] d B1 d1 B2 d2)
          [Is (.agg #[.slice B1 n d1, .slice B2 d.writes.length d2]), Is (.pointer (some ⟨wr.heap.size, 1, none⟩)), Is (.int .i64 r.a), Is (.int .i64 (n : Int)), Is (.int .i64 (ia : Int)), Is (.pointer (some ⟨wr.heap.size, 2, none⟩)), Is (.int .i64 r.b), Is (.int .u8 (r.b % 256)), Is (.agg (secV s0)), GotDisk (wr.heap.size + 1) n (k + 1) (fun v => .tuple #[v, .int .i64 0]), GotDisk (wr.heap.size + 1) n (k + 1) (fun v => .tuple #[v, .int .i64 0]), GotDisk (wr.heap.size + 1) n (k + 1) (fun v => v), Is (.int .i64 0), PutDisk w1.heap.size (wr.heap.size + 1) n (k + 1), Is (.int .i64 0)]
          (by kernel_rfl) (by kernel_rfl) (by kernel_rfl) (by simp) hI0 ?hst ?hstG ?steps ?hend
        case hst =>
          repeat (first | exact List.forall_mem_nil _ | refine List.forall_mem_cons.2 ⟨by first | exact stable_is _ | exact stable_got _ _ _ _ | exact stable_put _ _ _ _, ?_⟩)
        case hstG =>
          refine stableG_tab (fun i hi hne => ?_)
          rcases i with _ | _ | _ | _ | _ | _ | _ | _ | _ | _ | _ | _ | _ | _ | _ | i
          all_goals first | exact stableG_is _ _ | exact stableG_got (Wb := wr.heap.size + 1) n (k + 1) (fun v => .tuple #[v, .int .i64 0]) hgr | exact stableG_got (Wb := wr.heap.size + 1) n (k + 1) (fun v => v) hgr | exact absurd rfl hne | exact absurd hi (by simp)
        case steps =>
          refine .cons (fun a W bb hb hI hag hd K hK => ?_) ?_
          · have d6 := hag.eval 6 (by kernel_rfl)
            have hbb : bb = false := by cases bb with | false => rfl | true => exact absurd (hb rfl).2 (by decide +kernel)
            have hx := hI.disk hbb
            have hc0 := hx.cell 0
            have hc1 := hx.cell 1
            simp only [List.getElem?_toArray, List.getElem?_cons_zero, List.getElem?_cons_succ] at hc0 hc1
            clear hag hd hb
            go_simp
            exact hK _ _ (hI.keep (by decide)) (stk_below (by decide) (Below.refl _ _)) rfl
          refine .cons (fun a W bb hb hI hag hd K hK => ?_) ?_
          · have d10 := hag.eval 10 (by kernel_rfl)
            clear hag hd hb
            go_simp
            exact hK _ _ (hI.keep (by decide)) (stk_below (by decide) (Below.refl _ _)) rfl
          refine .cons (fun a W bb hb hI hag hd K hK => ?_) ?_
          · have d38 : a.tmps.getD 38 undef = _ := hd ⟨1, .data⟩ (by simp) rfl
            have hc1 := hI.raw.cell 1
            simp only [List.getElem?_toArray, List.getElem?_cons_zero, List.getElem?_cons_succ] at hc1
            clear hag hd hb
            go_simp
            exact hK _ _ (hI.keep (by decide)) (stk_below (by decide) (Below.refl _ _)) rfl
          refine .cons (fun a W bb hb hI hag hd K hK => ?_) ?_
          · have d1' := hag.eval 1 (by kernel_rfl)
            clear hag hd hb
            go_simp
            exact hK _ _ (hI.keep (by decide)) (stk_below (by decide) (Below.refl _ _)) rfl
          refine .cons (fun a W bb hb hI hag hd K hK => ?_) ?_
          · have d39 : a.tmps.getD 39 undef = _ := hd ⟨2, .data⟩ (by simp) rfl
            have d40 : a.tmps.getD 40 undef = _ := hd ⟨3, .data⟩ (by simp) rfl
            clear hag hd hb
            go_simp
            refine (picked_any _ _ _ (by omega) (by omega)).mono ?_; rintro e w' ⟨rfl, rfl⟩
            rw [HIA.out]
            exact hK _ _ (hI.keep (by decide)) (stk_below (by decide) (Below.refl _ _)) rfl
          refine .cons (fun a W bb hb hI hag hd K hK => ?_) ?_
          · have d10 := hag.eval 10 (by kernel_rfl)
            clear hag hd hb
            go_simp
            exact hK _ _ (hI.keep (by decide)) (stk_below (by decide) (Below.refl _ _)) rfl
          refine .cons (fun a W bb hb hI hag hd K hK => ?_) ?_
          · have d42 : a.tmps.getD 42 undef = _ := hd ⟨5, .data⟩ (by simp) rfl
            have hc1 := hI.raw.cell 2
            simp only [List.getElem?_toArray, List.getElem?_cons_zero, List.getElem?_cons_succ] at hc1
            clear hag hd hb
            go_simp
            exact hK _ _ (hI.keep (by decide)) (stk_below (by decide) (Below.refl _ _)) rfl
          refine .cons (fun a W bb hb hI hag hd K hK => ?_) ?_
          · have d43 : a.tmps.getD 43 undef = _ := hd ⟨6, .data⟩ (by simp) rfl
            clear hag hd hb
            go_simp
            exact hK _ _ (hI.keep (by decide)) (stk_below (by decide) (Below.refl _ _)) rfl
          refine .cons (fun a W bb hb hI hag hd K hK => ?_) ?_
          · have d44 : a.tmps.getD 44 undef = .int .u8 (r.b % 256) := hd ⟨7, .data⟩ (by simp) rfl
            rw [Array.getD_eq_getD_getElem?] at d44
            clear hag hd hb
            go_simp
            exact hK _ _ (hI.keep (by decide)) (stk_below (by decide) (Below.refl _ _)) (congrArg Value.agg HS.out)
          refine .cons (fun a W bb hb hI hag hd K hK => ?_) ?_
          · have d37 : a.tmps.getD 37 undef = _ := hd ⟨0, .data⟩ (by simp) rfl
            have d41 : a.tmps.getD 41 undef = _ := hd ⟨4, .data⟩ (by simp) rfl
            have d45 : a.tmps.getD 45 undef = _ := hd ⟨8, .data⟩ (by simp) rfl
            have hbb : bb = false := by cases bb with | false => rfl | true => exact absurd (hb rfl).2 (by decide +kernel)
            have hx := hI.rd hbb
            clear hag hd hb
            go_simp
            refine (write_any d B1 d1 B2 d2 (wr.heap.size + 1) n d.writes.length ia s0 W hx hI.size hfit.len rfl hia2 hs1 (by have := hfit.few; omega)).mono ?_; rintro e w' ⟨C1, e1, C2, e2, rfl, o3, b3⟩
            have hlen : d.lasts.length = n := hfit.len
            refine hK _ _ ((hI.step b3).keep (by decide)) (stk_below (by decide) b3) ⟨⟨d.lasts, d.writes ++ [⟨ia, s0⟩]⟩, C1, e1, C2, e2, by rw [← hlen]; rfl, ⟨hlen, by simp; exact hfit.few⟩, o3.mono hI.size⟩
          refine .cons (fun a W bb hb hI hag hd K hK => ?_) ?_
          · obtain ⟨G, C1, e1, C2, e2, d46, hf, hO⟩ : GotDisk (wr.heap.size + 1) n (k + 1) (fun v => .tuple #[v, .int .i64 0]) (a.tmps.getD 46 undef) W := hd ⟨9, .data⟩ (by simp) rfl
            clear hag hd hb
            go_simp
            exact hK _ _ (hI.keep (by decide)) (stk_below (by decide) (Below.refl _ _)) ⟨G, C1, e1, C2, e2, rfl, hf, hO⟩
          refine .cons (fun a W bb hb hI hag hd K hK => ?_) ?_
          · obtain ⟨G, C1, e1, C2, e2, d36, hf, hO⟩ : GotDisk (wr.heap.size + 1) n (k + 1) (fun v => .tuple #[v, .int .i64 0]) (a.tmps.getD 36 undef) W := hd ⟨10, .data⟩ (by simp) rfl
            clear hag hd hb
            go_simp
            exact hK _ _ (hI.keep (by decide)) (stk_below (by decide) (Below.refl _ _)) ⟨G, C1, e1, C2, e2, rfl, hf, hO⟩
          refine .cons (fun a W bb hb hI hag hd K hK => ?_) ?_
          · obtain ⟨G, C1, e1, C2, e2, d36, hf, hO⟩ : GotDisk (wr.heap.size + 1) n (k + 1) (fun v => .tuple #[v, .int .i64 0]) (a.tmps.getD 36 undef) W := hd ⟨10, .data⟩ (by simp) rfl
            clear hag hd hb
            go_simp
            exact hK _ _ (hI.keep (by decide)) (stk_below (by decide) (Below.refl _ _)) rfl
          refine .cons (fun a W bb hb hI hag hd K hK => ?_) ?_
          · have d6 := hag.eval 6 (by kernel_rfl)
            obtain ⟨G, C1, e1, C2, e2, d47, hf, hO⟩ : GotDisk (wr.heap.size + 1) n (k + 1) (fun v => v) (a.tmps.getD 47 undef) W := hd ⟨11, .data⟩ (by simp) rfl
            have hbb : bb = false := by cases bb with | false => rfl | true => exact absurd rfl (hb rfl).1
            have hx := hI.disk hbb
            clear hag hd hb
            refine wp_store_row 57 (.tmp 6) (.tmp 47) rfl w1.heap.size #[.slice C1 n e1, .slice C2 G.writes.length e2] d6 d47 57 _ hx (by kernel_rfl) rfl (by simp [Value.oneCell']) ?_
            obtain ⟨f1, f2, f3⟩ := set_row_facts hx #[.slice C1 n e1, .slice C2 G.writes.length e2]
            obtain ⟨i1, i2, i3, i4, _, _⟩ := hI
            refine hK _ _ ⟨i1.grown f2 i1.size (fun q hq => by injection hq with hq; have := hbel1.size; omega), by rw [f3]; exact i2, i3.grown f2 (by intro e; injection e with e; omega), i4.grown f2 (by intro e; injection e with e; omega), fun e => by simp at e, fun e => by simp at e⟩ (stk_grown f2) ?_
            exact ⟨G, C1, e1, C2, e2, f1, hf, hO.grown f2 hgr⟩
          refine .cons (fun a W bb hb hI hag hd K hK => ?_) ?_
          · have d48 : a.tmps.getD 48 undef = _ := hd ⟨12, .data⟩ (by simp) rfl
            clear hag hd hb
            go_simp
            exact hK _ _ (hI.keep (by decide)) (stk_below (by decide) (Below.refl _ _)) rfl
          exact .nil
        case hend =>
          intro a W hI hag hV
          have d7 : a.tmps.getD 7 undef = .int .i64 0 := hV 14 (by simp)
          obtain ⟨G, C1, e1, C2, e2, hgd4, hfG, hO⟩ : PutDisk w1.heap.size (wr.heap.size + 1) n (k + 1) undef W := hV 13 (by simp)
          obtain ⟨i1, i2, i3, i4, _, _⟩ := hI
          have hfr := hag.frame [37, 38, 39, 40, 41, 42, 43, 44, 45, 46, 36, 47, 48, 7] (by kernel_rfl)
          clear hV hag
          rw [List.foldl_cons] at hfr
          simp only [List.foldl_cons, List.foldl_nil, d7, List.setIfInBounds_toArray, List.set_cons_succ, List.set_cons_zero] at hfr
          clear d7
          generalize a.tmps.getD 37 undef = x37, a.tmps.getD 38 undef = x38, a.tmps.getD 39 undef = x39, a.tmps.getD 40 undef = x40, a.tmps.getD 41 undef = x41, a.tmps.getD 42 undef = x42, a.tmps.getD 43 undef = x43, a.tmps.getD 44 undef = x44, a.tmps.getD 45 undef = x45, a.tmps.getD 46 undef = x46, a.tmps.getD 36 undef = x36, a.tmps.getD 47 undef = x47, a.tmps.getD 48 undef = x48 at hfr
          subst hfr
          go_wp2_with fail
          go_roundw
          case rel => exact ⟨k + 1, G, C1, e1, C2, e2, by omega, by go_num, rfl, rfl, hfG, hO.mono (by have := hbel.size; omega), hgd4, i4, i1, by omega⟩
          case measure => simp [intOf]; omega
    · obtain rfl : k = m := by omega
      have hc0 := hgd.cell 0
      have hc1 := hgd.cell 1
      simp only [List.getElem?_toArray, List.getElem?_cons_zero, List.getElem?_cons_succ] at hc0 hc1
      go_wp2_with ((with_reducible show wpList _ _ _ (⟨none, .store _ (.tmp 4) _, _, _, _, _⟩ :: _) _ _); go_loud (refine step_set (o := ⟨none, _, _, _, _, _⟩) 57 (.tmp 4) (.tmp 55) 2 #[.slice B1 n d1, .slice B2 d.writes.length d2] _ w.heap.size rfl rfl rfl rfl rfl hres (by kernel_rfl) rfl rfl (by simp [Value.oneCell']) ?_; intro w7 hd7 hg7 hsz7))
      (try simp only [Exit.inBlock, Exit.then])
      refine bodyPost_ret (v := .tuple #[.agg #[.slice B1 n d1, .slice B2 d.writes.length d2], .bool true]) ?_ rfl ?_
      · rw [results_cell_tmp rfl]
        simp [asAddr, Result.andThen, loadVar_blk hd7 Try.underlying57 rfl (by kernel_rfl) rfl]
      · exact ⟨d, B1, d1, B2, d2, rfl, ⟨hfit.len, by have := hfit.few; omega⟩, (ho.grown hg7 (by omega)).mono (by omega), hbel.grown hg7 hbel.size (fun q hq => by injection hq with hq; omega)⟩
end Go.Proofs.Ytgakkghlphnoaaa
