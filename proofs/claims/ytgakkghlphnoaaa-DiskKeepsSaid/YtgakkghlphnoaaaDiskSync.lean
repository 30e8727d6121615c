/-
  The disk: New, Sync, Crash. Condition: a disk that reads well.
-/
import Derived.Test.YtgakkghlphnoaaaDiskFall
namespace Go.Proofs.Ytgakkghlphnoaaa
set_option linter.unusedSimpArgs false
set_option linter.unusedVariables false
open Go.RowKit

theorem sync1_any (k : Int) (w : World) : Calls Try.prog 43 #[.int .i64 k] w fun e w' => e = .returned (.bool true) ∧ w = w' := by
  go_enter Try.func43, Try.ntmps43
  go_wp2_with fail
  go_ret
  exact ⟨rfl, rfl⟩
theorem enter_sync1 (args : Array Value) (W : World) : (callFunc 43 args).run Try.prog W = .ok (.enter 43 args) W := by
  simp [go_sem]
theorem enter_crash1 (args : Array Value) (W : World) : (callFunc 42 args).run Try.prog W = .ok (.enter 42 args) W := by
  simp [go_sem]
theorem SecC_zero (n : Nat) : SecC (List.replicate n (List.replicate 32 0)) = List.replicate (n * 32) (Value.int .u8 0) := by
  unfold SecC
  rw [List.flatMap_replicate, List.map_replicate, List.flatten_replicate_replicate]
  rfl
theorem made_const (v : Value) (r N : Nat) (hr : 0 < r) : madeCells (List.replicate r v).toArray N = (List.replicate N v).toArray := by
  apply Array.ext
  · simp [madeCells]
  · intro i h1 h2
    have hm := Nat.mod_lt i hr
    simp [madeCells, hm]
theorem made_secs (n : Nat) : madeCells (List.replicate 32 (Value.int .u8 0)).toArray (n * 32) = (SecC (List.replicate n (List.replicate 32 0))).toArray := by
  rw [SecC_zero]
  exact made_const _ 32 _ (by omega)
theorem make_secs (n : Nat) (hn : n ≤ 400) (w : World) : (Instr.makeSlice 54 (.int .i64 (n : Int)) (.int .i64 (n : Int))).run Try.prog w = .ok (.slice (some ⟨w.heap.size, 0, none⟩) n n) (w.alloc (.cells (SecC (List.replicate n (List.replicate 32 0))).toArray 60)) := by
  obtain ⟨i0, hi, hz0, hz1, hz2⟩ := info_parts info_secs
  have hr := run_make (P := Try.prog) w 54 60 i0 _ Try.underlying54 hi hz0 .i64 .i64 n n (by omega) (by omega) (by rw [hz2]; omega) (by omega)
  simp only [Int.toNat_natCast, hz1, Value.cells] at hr
  rw [made_secs] at hr
  exact hr
theorem new_any (n : Nat) (w : World) (h0 : 0 < n) (h1 : n ≤ 400) : Calls Try.prog 38 #[.int .i64 (n : Int)] w (GivesDisk w ⟨List.replicate n (List.replicate 32 0), []⟩) := by
  have hmk := make_secs n h1
  have hlen : (SecC (List.replicate n (List.replicate 32 0))).toArray.size = n * 32 := by rw [SecC_zero]; simp
  have HL := Lib.hid hlen
  clear hlen
  generalize hX : (SecC (List.replicate n (List.replicate 32 0))).toArray = X at *
  have HX := Lib.hid hX
  clear hX
  go_enter Try.func38, Try.ntmps38
  go_wp2_with ((with_reducible show wpList _ _ _ (⟨none, .store _ (.tmp 2) _, _, _, _, _⟩ :: _) _ _); go_loud (refine step_set (o := ⟨none, _, _, _, _, _⟩) 57 (.tmp 2) (.tmp 13) 2 #[.slice (some ⟨w.heap.size + 1, 0, none⟩) n n, .slice none 0 0] _ w.heap.size rfl rfl rfl rfl rfl ((Blk.new w _ _).alloc _) (by kernel_rfl) rfl rfl (by simp [Value.oneCell']) ?_; intro w7 hd7 hg7 hsz7))
  (try simp only [Exit.inBlock, Exit.then])
  refine bodyPost_ret (v := .tuple #[.agg #[.slice (some ⟨w.heap.size + 1, 0, none⟩) n n, .slice none 0 0], .int .i64 0]) ?_ rfl ?_
  · rw [results_cell_tmp rfl]
    simp [asAddr, Result.andThen, loadVar_blk hd7 Try.underlying57 rfl (by kernel_rfl) rfl]
  · have o1 := own_cells (w.alloc (.cells #[.slice none 0 0, .slice none 0 0] 57)) (w.heap.size + 1) 60 32 n X (w.heap.size + 1) (Nat.le_refl _) (by simp) HL.out (by simp [maxLen]; omega)
    have p6 := stableG_own 60 32 n X.toList (show w.heap.size < w.heap.size + 1 by omega) _ _ w7 o1 hg7
    have e : X.toList = SecC (List.replicate n (List.replicate 32 0)) := by rw [← HX.out]
    rw [e] at p6
    have hl : (List.replicate n (List.replicate 32 (0 : UInt8))).length = n := by simp
    refine ⟨some ⟨w.heap.size + 1, 0, none⟩, n, none, 0, by simp, ⟨?_, World.ownsRow_nil _ _ _ _, ⟨fun s hs => by rw [List.eq_of_mem_replicate hs]; simp, by simp, by simpa using h0, by simpa using h1, by simp⟩, by simp, by simp [maxLen]; omega, by simp, by simp [maxLen]⟩, (((Below.refl _ _).alloc (Nat.le_refl _) _).alloc (by simp) _).grown hg7 (by simp; omega) (fun q hq => by injection hq with hq; omega)⟩
    have p7 := own_mono p6 (show w.heap.size ≤ w.heap.size + 1 by omega)
    simpa using p7
theorem sync_any (d : DiskL) (A : Option Addr) (c : Nat) (A' : Option Addr) (c' B n m : Nat) (w : World) (h : RdD w B d A c A' c') (hB : B ≤ w.heap.size) (hn : d.lasts.length = n) (hm : d.writes.length = m) :
    Calls Try.prog 34 #[.agg #[.slice A n c, .slice A' m c']] w (GivesDisk w ⟨fallL (fun _ => true) d.lasts d.writes m, []⟩) := by
  have HN := Lib.hid hn
  have HM := Lib.hid hm
  clear hn hm
  go_enter Try.func34, Try.ntmps34
  go_wp2_with fail
  refine (fall_any (fun _ => true) 43 #[] d A c A' c' B n m _ (h.below (((Below.refl w.heap.size w).alloc (Nat.le_refl _) _).alloc (by simp) _ |>.mono hB)) (by simp; omega) HN.out HM.out enter_sync1 (fun k W _ _ => sync1_any k W)).mono ?_; rintro e w1 ⟨A1, c1, A2, c2, rfl, r1, b1⟩
  have hbel1 : Below w.heap.size w w1 := (((Below.refl w.heap.size w).alloc (Nat.le_refl _) _).alloc (by simp) _).trans (b1.mono (by simp; omega))
  have hsz1 : w.heap.size + 2 ≤ w1.heap.size := by have := b1.size; simpa using this
  obtain ⟨hr1⟩ : Nonempty (Blk w1 (w.heap.size + 1) 57 #[.slice none 0 0, .slice none 0 0]) := ⟨by simpa using ((Blk.new (w.alloc _) _ _).call b1)⟩
  clear b1
  generalize hE : (⟨fallL (fun _ => true) d.lasts d.writes m, []⟩ : DiskL) = E at *
  have HE := Lib.hid hE
  clear hE
  go_wp2_with ((with_reducible show wpList _ _ _ (⟨none, .store _ (.tmp 2) _, _, _, _, _⟩ :: _) _ _); go_loud (refine step_set (o := ⟨none, _, _, _, _, _⟩) 57 (.tmp 2) (.tmp 6) 2 #[.slice A1 E.lasts.length c1, .slice A2 E.writes.length c2] _ (w.heap.size + 1) rfl rfl rfl rfl rfl hr1 (by kernel_rfl) rfl rfl (by simp [Value.oneCell']) ?_; intro w7 hd7 hg7 hsz7))
  (try simp only [Exit.inBlock, Exit.then])
  refine bodyPost_ret (v := .tuple #[.agg #[.slice A1 E.lasts.length c1, .slice A2 E.writes.length c2], .int .i64 0]) ?_ rfl ?_
  · rw [results_cell_tmp rfl]
    simp [asAddr, Result.andThen, loadVar_blk hd7 Try.underlying57 rfl (by kernel_rfl) rfl]
  · rw [HE.out]
    exact ⟨A1, c1, A2, c2, rfl, (r1.grown hg7 (by simp)).mono (by simp; omega), hbel1.grown hg7 hbel1.size (fun q hq => by injection hq with hq; omega)⟩
end Go.Proofs.Ytgakkghlphnoaaa
