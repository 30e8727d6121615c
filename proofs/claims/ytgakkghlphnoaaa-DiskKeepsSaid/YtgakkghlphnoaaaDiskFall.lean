/-
  The disk: fall, Sync, Crash. Condition: a disk that reads well.
-/
import Derived.Test.YtgakkghlphnoaaaStorePut
namespace Go.Proofs.Ytgakkghlphnoaaa
set_option linter.unusedSimpArgs false
set_option linter.unusedVariables false
open Go.RowKit

/-- What 'fall' leaves of the sectors, as far as k writes are done. -/
def fallL (f : Nat → Bool) (ls : List (List UInt8)) (ws : List PutL) : Nat → List (List UInt8)
  | 0 => ls
  | k + 1 => if f k then (match ws[k]? with | some p => (fallL f ls ws k).set p.at_ p.data | none => fallL f ls ws k) else fallL f ls ws k
theorem fallL_len (f : Nat → Bool) (ls : List (List UInt8)) (ws : List PutL) (k : Nat) : (fallL f ls ws k).length = ls.length := by
  induction k with
  | zero => rfl
  | succ k ih =>
    unfold fallL
    split
    · split
      · rw [List.length_set, ih]
      · exact ih
    · exact ih
theorem fallL_sec (f : Nat → Bool) (ls : List (List UInt8)) (ws : List PutL) (h : ∀ s ∈ ls, s.length = 32) (h' : ∀ p ∈ ws, p.data.length = 32) (k : Nat) : ∀ s ∈ fallL f ls ws k, s.length = 32 := by
  induction k with
  | zero => exact h
  | succ k ih =>
    unfold fallL
    split
    · split
      · rename_i p hp
        intro s hs
        rcases List.mem_or_eq_of_mem_set hs with hs | rfl
        · exact ih s hs
        · exact h' p (List.mem_of_getElem? hp)
      · exact ih
    · exact ih

set_option maxHeartbeats 4000000 in
theorem fall_any (f : Nat → Bool) (id : Nat) (caps : Array Value) (d : DiskL) (A : Option Addr) (c : Nat) (A' : Option Addr) (c' B n m : Nat) (w : World) (h : RdD w B d A c A' c') (hB : B ≤ w.heap.size) (hn : d.lasts.length = n) (hm : d.writes.length = m)
    (hE : ∀ (args : Array Value) (W : World), (callFunc id args).run Try.prog W = .ok (.enter id args) W)
    (hF : ∀ (k : Nat) (W : World), Below w.heap.size w W → k < 60 → Calls Try.prog id (#[.int .i64 (k : Int)] ++ caps) W fun e w' => e = .returned (.bool (f k)) ∧ W = w') :
    Calls Try.prog 41 #[.agg #[.slice A n c, .slice A' m c'], .func (.func id) #[] caps] w (GivesDisk w ⟨fallL f d.lasts d.writes m, []⟩) := by
  have h1 := h.ok.pos
  have h2 := h.ok.most
  have h3 := h.ok.few
  rw [hn] at h1 h2
  rw [hm] at h3
  have HN := Lib.hid hn
  have HM := Lib.hid hm
  have HF := Lib.hid hF
  clear hn hm hF
  go_enter Try.func41, Try.ntmps41
  go_wp2_with fail
  refine (check_any d A c A' c' B n m _ (h.below (((Below.refl w.heap.size w).alloc (Nat.le_refl _) _).alloc (by simp) _ |>.mono hB)) (by simp; omega) HN.out HM.out).mono ?_; rintro e w1 ⟨rfl, b1⟩
  have hbel1 : Below w.heap.size w w1 := (((Below.refl w.heap.size w).alloc (Nat.le_refl _) _).alloc (by simp) _).trans (b1.mono (by simp; omega))
  have hsz1 : w.heap.size + 2 ≤ w1.heap.size := by have := b1.size; simpa using this
  obtain ⟨hd1⟩ : Nonempty (Blk w1 w.heap.size 57 #[.slice A n c, .slice A' m c']) := ⟨((Blk.new w _ _).alloc _).call b1⟩
  obtain ⟨hr1⟩ : Nonempty (Blk w1 (w.heap.size + 1) 57 #[.slice none 0 0, .slice none 0 0]) := ⟨by simpa using ((Blk.new (w.alloc _) _ _).call b1)⟩
  clear b1
  have hc0 := hd1.cell 0
  simp only [List.getElem?_toArray, List.getElem?_cons_zero, List.getElem?_cons_succ] at hc0
  have hc0' : (w1.alloc (.cells #[] 60)).cell? ⟨w.heap.size, 0, none⟩ = some (.slice A n c) := by rw [World.cell?_alloc_lt _ _ _ (by show w.heap.size < _; omega)]; exact hc0
  have ho1 := own_none w1 w1.heap.size 60 32 w1.heap.size (Nat.le_refl _) rfl
  have rl := h.lasts
  rw [HN.out] at rl
  go_wp2_with (at_builtin; refine app_own 54 60 _ 32 32 (.tmp 16) (.tmp 18) rfl rfl Try.underlying54 info_secs (by decide) (by decide) (w0 := w1) (v := .slice (some ⟨w1.heap.size, 0, none⟩) 0 0) rfl (n := 0) (xs := []) ho1 ((Below.refl _ _).alloc (Nat.le_refl _) _) rfl (m := n) (rl.below ((hbel1.mono hB).alloc (by have := hbel1.size; omega) _)) (SecC_one _) (by omega) (by simp [maxLen]; omega) ?_; intro A9 c9 w3 o9 hk9 hm9 hbel9 hg9 ho9; rw [Nat.zero_add] at o9 hk9; simp only [List.nil_append, Nat.zero_add] at o9; have hd3 := hd1.below hbel9 (by omega); have hr3 := hr1.below hbel9 (by omega); have hs9 := hbel9.size; have hc1' : (w3.alloc (.cells #[.slice A9 n c9, .slice none 0 0] 57)).cell? ⟨w.heap.size, 1, none⟩ = some (.slice A' m c') := (by rw [World.cell?_alloc_lt _ _ _ (by show w.heap.size < _; omega)]; exact hd3.cell 1))
  obtain ⟨g, cap, hv, hg1, hg2⟩ := o9.form (by omega)
  injection hv with hv1 hv2 hv3
  subst hv1 hv3
  clear hg9 ho9 ho1 hd1 hd3 hr1 hc0 hc0' rl
  go_loopw [24] (fun i wr => ∃ k, k ≤ m ∧ i = .int .i64 (k : Nat) ∧ Below w.heap.size w wr ∧ w3.heap.size + 1 ≤ wr.heap.size ∧ Blk wr (w.heap.size + 1) 57 #[.slice none 0 0, .slice none 0 0] ∧ Blk wr w3.heap.size 57 #[.slice (some ⟨g, 0, none⟩) n c9, .slice none 0 0] ∧ wr.ownsRow w1.heap.size 60 32 (.slice (some ⟨g, 0, none⟩) n c9) n (SecC (fallL f d.lasts d.writes k))) (fun i _ => m - (intOf i).toNat)
  case atStart => exact ⟨0, by omega, rfl, (hbel1.trans (hbel9.mono hbel1.size)).alloc (by omega) _, by simp, hr3.alloc _, Blk.new _ _ _, o9.alloc _⟩
  case round =>
    obtain ⟨k, hk, rfl, hbel, hsz, hr, h7, ho⟩ := hrel
    by_cases hlt : k < m
    · have hkm : k < d.writes.length := by rw [HM.out]; exact hlt
      have hpk : d.writes[k]? = some d.writes[k] := List.getElem?_eq_getElem hkm
      have hp := (h.below (hbel.mono hB)).put hkm
      have hat := h.ok.put d.writes[k] (List.getElem_mem _)
      generalize d.writes[k] = p at *
      clear hkm
      obtain ⟨b2, off2, rfl, hb2, hr2⟩ := hp
      obtain ⟨hp1, hp2⟩ := hat
      rw [HN.out] at hp2
      have hcl : p.cells.length = 33 := by simp [PutL.cells, hp1]
      have hcn : p.cells.toArray.size = 33 := by simp [PutL.cells, hp1]
      have HCN := Lib.hid hcn
      have HCL := Lib.hid hcl
      have HP := Lib.hid hp1
      have HPK := Lib.hid hpk
      have hcall := HF.out k
      have hnext : fallL f d.lasts d.writes (k + 1) = if f k then (fallL f d.lasts d.writes k).set p.at_ p.data else fallL f d.lasts d.writes k := by
        rw [fallL, hpk]
      have HNX := Lib.hid hnext
      clear hcl hcn hp1 hpk hnext
      cases hfk : f k with
      | false =>
        rw [hfk] at hcall
        have HFK := Lib.hid hfk
        clear hfk
        go_wp2_with (first | ((with_reducible show wpList _ _ _ (⟨some 28, _, _, _, _, _⟩ :: _) _ _); refine wpList_load_mid (op := ⟨some 28, _, _, _, _, _⟩) rfl 73 (.tmp 27) rfl b2 (off2 + k * 33) rfl p.cells _ hr2 Try.underlying73 rfl (by rw [HCL.out]; kernel_rfl) ?_) | ((with_reducible show wpList _ _ _ (⟨none, .store _ (.tmp 9) _, _, _, _, _⟩ :: _) _ _); refine step_set (o := ⟨none, _, _, _, _, _⟩) 73 (.tmp 9) (.tmp 28) 33 p.cells.toArray _ wr.heap.size rfl rfl rfl rfl rfl (Blk.new wr _ _) (by kernel_rfl) rfl HCN.out (all_oneCell_toArray p.one) ?_; intro w4 hb4 hg4 hsz4))
        simp only [World.alloc, Array.size_push] at hsz4
        have hbel4 : Below w.heap.size w w4 := (hbel.alloc hbel.size _).grown hg4 (by have := hbel.size; simp; omega) (fun q hq => by injection hq with hq; have := hbel.size; omega)
        have hr4 := (hr.alloc _).grown hg4 (by intro e; injection e with e; omega)
        have h74 := (h7.alloc _).grown hg4 (by intro e; injection e with e; omega)
        have ho4 := (ho.alloc _).kept hg4 (.inr (by intro e; have e2 : some g = some wr.heap.size := e; injection e2 with e2; have := (ho.lt g rfl).2; omega))
        refine (hcall w4 hbel4 (by omega)).mono ?_; rintro e w5 ⟨rfl, rfl⟩
        go_wp2_with fail
        go_roundw
        case rel =>
          refine ⟨k + 1, by omega, by go_num, hbel4, by omega, hr4, h74, ?_⟩
          rw [HNX.out, HFK.out]
          exact ho4
        case measure => simp [intOf]; omega
      | true =>
        rw [hfk] at hcall
        have HFK := Lib.hid hfk
        clear hfk
        go_wp2_with (first | ((with_reducible show wpList _ _ _ (⟨some 28, _, _, _, _, _⟩ :: _) _ _); refine wpList_load_mid (op := ⟨some 28, _, _, _, _, _⟩) rfl 73 (.tmp 27) rfl b2 (off2 + k * 33) rfl p.cells _ hr2 Try.underlying73 rfl (by rw [HCL.out]; kernel_rfl) ?_) | ((with_reducible show wpList _ _ _ (⟨none, .store _ (.tmp 9) _, _, _, _, _⟩ :: _) _ _); refine step_set (o := ⟨none, _, _, _, _, _⟩) 73 (.tmp 9) (.tmp 28) 33 p.cells.toArray _ wr.heap.size rfl rfl rfl rfl rfl (Blk.new wr _ _) (by kernel_rfl) rfl HCN.out (all_oneCell_toArray p.one) ?_; intro w4 hb4 hg4 hsz4))
        simp only [World.alloc, Array.size_push] at hsz4
        have hbel4 : Below w.heap.size w w4 := (hbel.alloc hbel.size _).grown hg4 (by have := hbel.size; simp; omega) (fun q hq => by injection hq with hq; have := hbel.size; omega)
        have hr4 := (hr.alloc _).grown hg4 (by intro e; injection e with e; omega)
        have h74 := (h7.alloc _).grown hg4 (by intro e; injection e with e; omega)
        have ho4 := (ho.alloc _).kept hg4 (.inr (by intro e; have e2 : some g = some wr.heap.size := e; injection e2 with e2; have := (ho.lt g rfl).2; omega))
        refine (hcall w4 hbel4 (by omega)).mono ?_; rintro e w5 ⟨rfl, rfl⟩
        have hq0 := h74.cell 0
        have hq1 := hb4.cell 0
        have hq2 : p.cells[0]? = some (.int .i64 (p.at_ : Int)) := rfl
        simp only [List.getElem?_toArray, List.getElem?_cons_zero] at hq0
        rw [List.getElem?_toArray, hq2] at hq1
        have hrd : w4.rangeAt wr.heap.size 1 (p.data.map B8) := by
          have := World.rangeAt_of_block hb4 1 32
          have e : (p.cells.toArray.extract 1 (1 + 32)).toList = p.data.map B8 := by
            simp only [PutL.cells, List.extract_toArray]
            simp [HP.out]
            exact List.take_of_length_le (by simp [HP.out])
          rwa [e] at this
        have hfl : (fallL f d.lasts d.writes k).length = n := by rw [fallL_len, HN.out]
        have hsec := fallL_sec f d.lasts d.writes h.ok.sec (fun p hp => (h.ok.put p hp).1) k
        have hdec : decide ((n : Int) ≤ (p.at_ : Int)) = false := by simp; omega
        have HFL := Lib.hid hfl
        clear hfl
        go_wp2_with (first | ((with_reducible show wpList _ _ _ (⟨some 37, _, _, _, _, _⟩ :: _) _ _); refine wpList_load_mid (op := ⟨some 37, _, _, _, _, _⟩) rfl 60 (.tmp 36) rfl wr.heap.size 1 rfl (p.data.map B8) _ hrd Try.underlying60 rfl (by rw [size_sec]; simp [HP.out]) ?_) | ((with_reducible show wpList _ _ _ [⟨none, .store _ (.tmp 38) _, _, _, _, _⟩] _ _); go_loud (refine step_put (fun s : List UInt8 => s.map B8) (o := ⟨none, _, _, _, _, _⟩) 60 60 (.tmp 38) (.tmp 37) 32 w1.heap.size g n c9 p.at_ (fallL f d.lasts d.writes k) p.data rfl rfl rfl rfl rfl ho4 (by rw [HFL.out]; exact hp2) HFL.out (fun z hz => by simp [hsec z hz]) (by simp [HP.out]) (fun v hv => by obtain ⟨q, _, rfl⟩ := List.mem_map.1 hv; rfl) size_sec ?_; intro w6 ho6 hg6 hsz6)))
        go_roundw
        case rel =>
          refine ⟨k + 1, by omega, by go_num, hbel4.grown hg6 hbel4.size (fun q hq => by injection hq with hq; have := hbel1.size; omega), by omega, hr4.grown hg6 (by intro e; injection e with e; omega), h74.grown hg6 (by intro e; injection e with e; omega), ?_⟩
          rw [HNX.out, HFK.out]
          exact ho6
        case measure => simp [intOf]; omega
    · obtain rfl : k = m := by omega
      go_wp2_with (first | ((with_reducible show wpList _ _ _ (⟨some 40, _, _, _, _, _⟩ :: _) _ _); refine step_get (o := ⟨some 40, _, _, _, _, _⟩) 57 (.tmp 7) 2 _ #[.slice (some ⟨g, 0, none⟩) n c9, .slice none 0 0] w3.heap.size rfl rfl rfl h7 Try.underlying57 rfl (by kernel_rfl) rfl ?_) | ((with_reducible show wpList _ _ _ (⟨none, .store _ (.tmp 4) _, _, _, _, _⟩ :: _) _ _); refine step_set (o := ⟨none, _, _, _, _, _⟩) 57 (.tmp 4) (.tmp 40) 2 #[.slice (some ⟨g, 0, none⟩) n c9, .slice none 0 0] _ (w.heap.size + 1) rfl rfl rfl rfl rfl hr (by kernel_rfl) rfl rfl (by simp [Value.oneCell']) ?_; intro w7 hd7 hg7 hsz7))
      (try simp only [Exit.inBlock, Exit.then])
      refine bodyPost_ret (v := .tuple #[.agg #[.slice (some ⟨g, 0, none⟩) n c9, .slice none 0 0], .int .i64 0]) ?_ rfl ?_
      · rw [results_cell_tmp rfl]
        simp [asAddr, Result.andThen, loadVar_blk hd7 Try.underlying57 rfl (by kernel_rfl) rfl]
      · have hfl : (fallL f d.lasts d.writes k).length = n := by rw [fallL_len, HN.out]
        have hsec := fallL_sec f d.lasts d.writes h.ok.sec (fun p hp => (h.ok.put p hp).1) k
        have p6 := stableG_own 60 32 n (SecC (fallL f d.lasts d.writes k)) (show w.heap.size + 1 < w1.heap.size by omega) _ _ w7 ho hg7
        refine ⟨some ⟨g, 0, none⟩, c9, none, 0, by simp [hfl], ⟨?_, World.ownsRow_nil _ _ _ _, ⟨hsec, by simp, by rw [hfl]; exact h1, by rw [hfl]; exact h2, by simp⟩, by rw [hfl]; exact hk9, hm9, by simp, by simp [maxLen]⟩, hbel.grown hg7 hbel.size (fun q hq => by injection hq with hq; omega)⟩
        rw [← hfl] at p6
        exact own_mono p6 (by omega)
end Go.Proofs.Ytgakkghlphnoaaa
