/-
  The disk: Crash. Condition: a disk that reads well.
-/
import Derived.Test.YtgakkghlphnoaaaDiskSync
namespace Go.Proofs.Ytgakkghlphnoaaa
set_option linter.unusedSimpArgs false
set_option linter.unusedVariables false
open Go.RowKit

theorem crash1_any (k : Nat) (keep : Int) (g : Nat) (w : World) (hc : w.cell? ⟨g, 0, none⟩ = some (.int .i64 keep)) (hk : k < 60) :
    Calls Try.prog 42 #[.int .i64 (k : Int), .pointer (some ⟨g, 0, none⟩)] w fun e w' => e = .returned (.bool (bits .and .i64 (keep / 2 ^ k) 1 == 1)) ∧ w = w' := by
  go_enter Try.func42, Try.ntmps42
  go_wp2_with fail
  go_ret
  exact ⟨rfl, rfl⟩
theorem crash_any (d : DiskL) (A : Option Addr) (c : Nat) (A' : Option Addr) (c' B n m : Nat) (keep : Int) (w : World) (h : RdD w B d A c A' c') (hB : B ≤ w.heap.size) (hn : d.lasts.length = n) (hm : d.writes.length = m) :
    ∃ f : Nat → Bool, Calls Try.prog 33 #[.agg #[.slice A n c, .slice A' m c'], .int .i64 keep] w (GivesDisk w ⟨fallL f d.lasts d.writes m, []⟩) := by
  refine ⟨fun k => bits .and .i64 (keep / 2 ^ k) 1 == 1, ?_⟩
  have HN := Lib.hid hn
  have HM := Lib.hid hm
  clear hn hm
  go_enter Try.func33, Try.ntmps33
  go_wp2_with fail
  have hal : Below w.heap.size w (((w.alloc (.cells #[.slice A n c, .slice A' m c'] 57)).alloc (.cells #[.int .i64 keep] 3)).alloc (.cells #[.slice none 0 0, .slice none 0 0] 57)) := (((Below.refl w.heap.size w).alloc (Nat.le_refl _) _).alloc (by simp) _).alloc (by simp; omega) _
  have hb1 : Blk (((w.alloc (.cells #[.slice A n c, .slice A' m c'] 57)).alloc (.cells #[.int .i64 keep] 3)).alloc (.cells #[.slice none 0 0, .slice none 0 0] 57)) (w.heap.size + 1) 3 #[.int .i64 keep] := by
    simpa using (Blk.new (w.alloc (.cells #[.slice A n c, .slice A' m c'] 57)) 3 #[.int .i64 keep]).alloc (.cells #[.slice none 0 0, .slice none 0 0] 57)
  refine (fall_any (fun k => bits .and .i64 (keep / 2 ^ k) 1 == 1) 42 #[.pointer (some ⟨w.heap.size + 1, 0, none⟩)] d A c A' c' B n m _ (h.below (hal.mono hB)) (by simp; omega) HN.out HM.out enter_crash1 (fun k W hW hk => by
    have hc := (hb1.call hW).cell 0
    simp only [List.getElem?_toArray, List.getElem?_cons_zero] at hc
    simpa using crash1_any k keep (w.heap.size + 1) W hc hk)).mono ?_; rintro e w1 ⟨A1, c1, A2, c2, rfl, r1, b1⟩
  have hbel1 : Below w.heap.size w w1 := hal.trans (b1.mono (by simp; omega))
  have hsz1 : w.heap.size + 3 ≤ w1.heap.size := by have := b1.size; simpa using this
  obtain ⟨hr1⟩ : Nonempty (Blk w1 (w.heap.size + 2) 57 #[.slice none 0 0, .slice none 0 0]) := ⟨by simpa using ((Blk.new ((w.alloc _).alloc _) _ _).call b1)⟩
  clear b1 hal hb1
  generalize hE : (⟨fallL (fun k => bits .and .i64 (keep / 2 ^ k) 1 == 1) d.lasts d.writes m, []⟩ : DiskL) = E at *
  have HE := Lib.hid hE
  clear hE
  go_wp2_with ((with_reducible show wpList _ _ _ (⟨none, .store _ (.tmp 4) _, _, _, _, _⟩ :: _) _ _); go_loud (refine step_set (o := ⟨none, _, _, _, _, _⟩) 57 (.tmp 4) (.tmp 9) 2 #[.slice A1 E.lasts.length c1, .slice A2 E.writes.length c2] _ (w.heap.size + 2) rfl rfl rfl rfl rfl hr1 (by kernel_rfl) rfl rfl (by simp [Value.oneCell']) ?_; intro w7 hd7 hg7 hsz7))
  (try simp only [Exit.inBlock, Exit.then])
  refine bodyPost_ret (v := .tuple #[.agg #[.slice A1 E.lasts.length c1, .slice A2 E.writes.length c2], .int .i64 0]) ?_ rfl ?_
  · rw [results_cell_tmp rfl]
    simp [asAddr, Result.andThen, loadVar_blk hd7 Try.underlying57 rfl (by kernel_rfl) rfl]
  · rw [HE.out]
    exact ⟨A1, c1, A2, c2, rfl, (r1.grown hg7 (by simp)).mono (by simp; omega), hbel1.grown hg7 hbel1.size (fun q hq => by injection hq with hq; omega)⟩
end Go.Proofs.Ytgakkghlphnoaaa
