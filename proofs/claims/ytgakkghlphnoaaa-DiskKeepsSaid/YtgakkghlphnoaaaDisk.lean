/-
  The disk: how a disk reads in memory; Check, Read. Condition: a disk that reads well.
-/
import Derived.Test.YtgakkghlphnoaaaCells
import Derived.Test.YtgakkghlphnoaaaParts
namespace Go.Proofs.Ytgakkghlphnoaaa
set_option linter.unusedSimpArgs false
set_option linter.unusedVariables false
open Go.RowKit

/-- A put: where, and what. -/
structure PutL where
  at_ : Nat
  data : List UInt8
def PutL.cells (p : PutL) : List Value := .int .i64 (p.at_ : Int) :: p.data.map B8
def SecC (ls : List (List UInt8)) : List Value := ls.flatMap (·.map B8)
def PutC (ws : List PutL) : List Value := ws.flatMap PutL.cells
/-- A disk that may be: sectors of 32 bytes, puts within it. -/
structure DiskL where
  lasts : List (List UInt8)
  writes : List PutL
structure DiskL.ok (d : DiskL) : Prop where
  sec : ∀ s ∈ d.lasts, s.length = 32
  put : ∀ p ∈ d.writes, p.data.length = 32 ∧ p.at_ < d.lasts.length
  pos : 0 < d.lasts.length
  most : d.lasts.length ≤ 400
  few : d.writes.length ≤ 60

theorem flat_len {α : Type} (f : α → List Value) (k : Nat) : ∀ (l : List α), (∀ x ∈ l, (f x).length = k) → (l.flatMap f).length = l.length * k
  | [], _ => by simp
  | x :: l, h => by
    rw [List.flatMap_cons, List.length_append, flat_len f k l (fun y hy => h y (by simp [hy])), h x (by simp), List.length_cons, Nat.add_mul]
    omega
theorem flat_part {α : Type} (f : α → List Value) (k : Nat) : ∀ (l : List α) (i : Nat) (hi : i < l.length), (∀ x ∈ l, (f x).length = k) → ((l.flatMap f).drop (i * k)).take k = f l[i]
  | [], i, hi, _ => absurd hi (by simp)
  | x :: l, 0, hi, h => by
    have := h x (by simp)
    simp [List.flatMap_cons, ← this]
  | x :: l, i + 1, hi, h => by
    have h0 := h x (by simp)
    have := flat_part f k l i (by simpa using hi) (fun y hy => h y (by simp [hy]))
    have e : (i + 1) * k = i * k + (f x).length := by rw [h0, Nat.add_mul, Nat.one_mul]
    rw [List.flatMap_cons, e, List.drop_append, List.drop_eq_nil_of_le (by omega), List.nil_append, Nat.add_sub_cancel]
    exact this

structure RdD (w : World) (B : Nat) (d : DiskL) (A : Option Addr) (c : Nat) (A' : Option Addr) (c' : Nat) : Prop where
  lasts : Reads w B 32 A d.lasts.length (SecC d.lasts)
  writes : Reads w B 33 A' d.writes.length (PutC d.writes)
  ok : d.ok
  cap : d.lasts.length ≤ c
  max : c ≤ maxLen
  cap' : d.writes.length ≤ c'
  max' : c' ≤ maxLen
section
variable {w w' : World} {B B' : Nat} {d : DiskL} {A A' : Option Addr} {c c' : Nat}
theorem RdD.below (h : RdD w B d A c A' c') (hb : Below B w w') : RdD w' B d A c A' c' := ⟨h.lasts.below hb, h.writes.below hb, h.ok, h.cap, h.max, h.cap', h.max'⟩
theorem RdD.more (h : RdD w B d A c A' c') (hb : B ≤ B') : RdD w B' d A c A' c' := ⟨h.lasts.more hb, h.writes.more hb, h.ok, h.cap, h.max, h.cap', h.max'⟩
theorem RdD.call (h : RdD w B d A c A' c') (hb : Below w.heap.size w w') (hB : B ≤ w.heap.size) : RdD w' B d A c A' c' := h.below (hb.mono hB)
theorem PutL.one (p : PutL) : ∀ v ∈ p.cells, v.oneCell' = true := by
  intro v hv
  simp only [PutL.cells, List.mem_cons, List.mem_map] at hv
  rcases hv with rfl | ⟨b, _, rfl⟩ <;> rfl
theorem RdD.put (h : RdD w B d A c A' c') {k : Nat} (hk : k < d.writes.length) : ∃ b off, A' = some ⟨b, off, none⟩ ∧ b < B ∧ w.rangeAt b (off + k * 33) (d.writes[k]).cells := by
  obtain ⟨b, off, e, hb, hr⟩ := range_of_reads h.writes hk (by omega)
  refine ⟨b, off, e, hb, ?_⟩
  rw [PutC, flat_part PutL.cells 33 d.writes k hk (fun p hp => by simp [PutL.cells, (h.ok.put p hp).1])] at hr
  exact hr
theorem RdD.sec (h : RdD w B d A c A' c') {k : Nat} (hk : k < d.lasts.length) : ∃ b off, A = some ⟨b, off, none⟩ ∧ b < B ∧ w.rangeAt b (off + k * 32) ((d.lasts[k]).map B8) := by
  obtain ⟨b, off, e, hb, hr⟩ := range_of_reads h.lasts hk (by omega)
  refine ⟨b, off, e, hb, ?_⟩
  rw [SecC, flat_part (fun s : List UInt8 => s.map B8) 32 d.lasts k hk (fun p hp => by simp [h.ok.sec p hp])] at hr
  exact hr
end
theorem info_put : (Try.prog.info? 73).map (fun i => (i.zero, i.size)) = some (some (.agg (.int .i64 0 :: List.replicate 32 (Value.int .u8 0)).toArray), 33) := by kernel_rfl
theorem info_sec : (Try.prog.info? 60).map (fun i => (i.zero, i.size)) = some (some (.agg (List.replicate 32 (Value.int .u8 0)).toArray), 32) := by kernel_rfl

set_option maxHeartbeats 1000000 in
theorem check_any (d : DiskL) (A : Option Addr) (c : Nat) (A' : Option Addr) (c' B n m : Nat) (w : World) (h : RdD w B d A c A' c') (hB : B ≤ w.heap.size) (hn : d.lasts.length = n) (hm : d.writes.length = m) :
    Calls Try.prog 39 #[.agg #[.slice A n c, .slice A' m c']] w fun e w' => e = .returned (.int .i64 0) ∧ Below w.heap.size w w' := by
  have h1 := h.ok.pos
  have h2 := h.ok.most
  have h3 := h.ok.few
  rw [hn] at h1 h2
  rw [hm] at h3
  have HN := Lib.hid hn
  have HM := Lib.hid hm
  clear hn hm
  go_enter Try.func39, Try.ntmps39
  go_wp2_with fail
  go_loopw [24] (fun i wr => ∃ k, k ≤ m ∧ i = .int .i64 (k : Nat) ∧ Below w.heap.size w wr ∧ w.heap.size + 1 ≤ wr.heap.size ∧ wr.cell? ⟨w.heap.size, 0, none⟩ = some (.slice A n c)) (fun i _ => m - (intOf i).toNat)
  case atStart => exact ⟨0, by omega, rfl, (Below.refl _ _).alloc (Nat.le_refl _) _, by simp, by simp⟩
  case round =>
    obtain ⟨k, hk, rfl, hbel, hsz, hcell⟩ := hrel
    by_cases hlt : k < m
    · have hkm : k < d.writes.length := by rw [HM.out]; exact hlt
      have hp := (h.below (hbel.mono hB)).put hkm
      have hat := h.ok.put d.writes[k] (List.getElem_mem _)
      generalize d.writes[k] = p at *
      clear hkm
      obtain ⟨b, off, rfl, hb, hr⟩ := hp
      obtain ⟨hp1, hp2⟩ := hat
      rw [HN.out] at hp2
      have hcl : p.cells.length = 33 := by simp [PutL.cells, hp1]
      have hcn : p.cells.toArray.size = 33 := by simp [PutL.cells, hp1]
      have HCN := Lib.hid hcn
      have HCL := Lib.hid hcl
      clear hcl hcn
      have hc0 : p.cells[0]? = some (.int .i64 (p.at_ : Int)) := rfl
      have hcell2 : (wr.alloc (.cells p.cells.toArray 73)).cell? ⟨w.heap.size, 0, none⟩ = some (.slice A n c) := by rw [World.cell?_alloc_lt _ _ _ (by show w.heap.size < _; omega)]; exact hcell
      have hlt0 : decide ((p.at_ : Int) < 0) = false := by simp
      go_wp2_with (first | (with_reducible show wpList _ _ _ (⟨some 27, _, _, _, _, _⟩ :: _) _ _; refine wpList_load_mid (op := ⟨some 27, _, _, _, _, _⟩) rfl 73 (.tmp 26) rfl b (off + k * 33) rfl p.cells _ hr Try.underlying73 rfl (by rw [HCL.out]; kernel_rfl) ?_) | (with_reducible show wpList _ _ _ (⟨some 4, _, _, _, _, _⟩ :: _) _ _; (refine step_var (o1 := ⟨some 4, _, _, _, _, _⟩) 73 4 (.tmp 27) 33 _ p.cells.toArray rfl rfl rfl rfl rfl rfl info_put (by decide) (fun _ => rfl) (fun _ => rfl) HCN.out (all_oneCell_toArray p.one) ?_)))
      go_roundw
      case rel => exact ⟨k + 1, by omega, by go_num, hbel.alloc hbel.size _, by first | (simp; done) | (simp; omega), hcell2⟩
      case measure => simp [intOf]; omega
    · obtain rfl : k = m := by omega
      go_wp2_with fail
      go_ret
      exact ⟨rfl, hbel⟩

/-- What Read answers. -/
def readL (l : List PutL) (i : Nat) (b : List UInt8) : List UInt8 := l.foldl (fun b p => if p.at_ = i then p.data else b) b
theorem readL_len (l : List PutL) (i : Nat) (b : List UInt8) (hb : b.length = 32) (h : ∀ p ∈ l, p.data.length = 32) : (readL l i b).length = 32 := by
  induction l generalizing b with
  | nil => exact hb
  | cons p l ih =>
    unfold readL
    rw [List.foldl_cons]
    refine ih _ ?_ (fun q hq => h q (by simp [hq]))
    split
    · exact h p (by simp)
    · exact hb
theorem readL_next (l : List PutL) (i k : Nat) (b : List UInt8) (hk : k < l.length) : readL (l.take (k + 1)) i b = if (l[k]).at_ = i then (l[k]).data else readL (l.take k) i b := by
  unfold readL
  rw [List.take_add_one, List.getElem?_eq_getElem hk, Option.toList_some, List.foldl_append]
  rfl
def secV (s : List UInt8) : Array Value := (s.map B8).toArray
theorem secV_size {s : List UInt8} (h : s.length = 32) : (secV s).size = 32 := by simp [secV, h]
theorem secV_one (s : List UInt8) : (secV s).all (·.oneCell') = true := all_oneCell_toArray (by
  intro v hv
  obtain ⟨b, _, rfl⟩ := List.mem_map.1 hv
  rfl)
theorem size_sec : (Try.prog.info? 60).map (·.size) = some 32 := (zero_of_info info_sec).2

set_option maxHeartbeats 2000000 in
theorem read_any (d : DiskL) (A : Option Addr) (c : Nat) (A' : Option Addr) (c' B n m i : Nat) (w : World) (h : RdD w B d A c A' c') (hB : B ≤ w.heap.size) (hn : d.lasts.length = n) (hm : d.writes.length = m) (hi : i < d.lasts.length) :
    Calls Try.prog 31 #[.agg #[.slice A n c, .slice A' m c'], .int .i64 (i : Int)] w fun e w' => e = .returned (.tuple #[.agg (secV (readL d.writes i d.lasts[i])), .int .i64 0]) ∧ Below w.heap.size w w' := by
  have h1 := h.ok.pos
  have h2 := h.ok.most
  have h3 := h.ok.few
  have hs0 := h.ok.sec d.lasts[i] (List.getElem_mem _)
  have hsec : ∀ w', Below w.heap.size w w' → _ := fun w' hb => (h.below (hb.mono hB)).sec hi
  have hin : i < n := by omega
  generalize d.lasts[i] = s0 at *
  rw [hn] at h1 h2
  rw [hm] at h3
  have hrl : ∀ k, (readL (d.writes.take k) i s0).length = 32 := fun k => readL_len _ _ _ hs0 (fun p hp => (h.ok.put p (List.mem_of_mem_take hp)).1)
  have HN := Lib.hid hn
  have HM := Lib.hid hm
  have HS := Lib.hid hs0
  have HR := Lib.hid hrl
  clear hn hm hi hs0 hrl
  go_enter Try.func31, Try.ntmps31
  go_wp2_with fail
  refine (check_any d A c A' c' B n m _ (h.below (((Below.refl w.heap.size w).alloc (Nat.le_refl _) _).alloc (by simp) _ |>.mono hB)) (by simp; omega) HN.out HM.out).mono ?_; rintro e w1 ⟨rfl, b1⟩
  have hbel1 : Below w.heap.size w w1 := (((Below.refl w.heap.size w).alloc (Nat.le_refl _) _).alloc (by simp) _).trans (b1.mono (by simp; omega))
  have hsz1 : w.heap.size + 2 ≤ w1.heap.size := by have := b1.size; simpa using this
  obtain ⟨zs, hzs, hz1⟩ : ∃ zs : Array Value, zs.size = 32 ∧ Blk w1 (w.heap.size + 1) 60 zs := ⟨_, rfl, by simpa using (Blk.new _ _ _).call b1⟩
  obtain ⟨hd1⟩ : Nonempty (Blk w1 w.heap.size 57 #[.slice A n c, .slice A' m c']) := ⟨((Blk.new w _ _).alloc _).call b1⟩
  clear b1
  have hc0 := hd1.cell 0
  have hc1 := hd1.cell 1
  simp only [List.getElem?_toArray, List.getElem?_cons_zero, List.getElem?_cons_succ] at hc0 hc1
  obtain ⟨b, off, rfl, hb, hr⟩ := hsec w1 hbel1
  clear hsec
  have hc1' : (w1.alloc (.cells (secV s0) 60)).cell? ⟨w.heap.size, 1, none⟩ = some (.slice A' m c') := by rw [World.cell?_alloc_lt _ _ _ (by show w.heap.size < _; omega)]; exact hc1
  go_wp2_with (first | (with_reducible show wpList _ _ _ (⟨some 30, _, _, _, _, _⟩ :: _) _ _; refine wpList_load_mid (op := ⟨some 30, _, _, _, _, _⟩) rfl 60 (.tmp 29) rfl b (off + i * 32) rfl (s0.map B8) _ hr Try.underlying60 rfl (by rw [size_sec]; simp [HS.out]) ?_) | (with_reducible show wpList _ _ _ (⟨some 7, _, _, _, _, _⟩ :: _) _ _; refine step_var (o1 := ⟨some 7, _, _, _, _, _⟩) 60 7 (.tmp 30) 32 _ (secV s0) rfl rfl rfl rfl rfl rfl info_sec (by decide) (fun _ => rfl) (fun _ => rfl) (secV_size HS.out) (secV_one s0) ?_))
  go_loopw [34] (fun i34 wr => ∃ k, k ≤ m ∧ i34 = .int .i64 (k : Nat) ∧ Below w.heap.size w wr ∧ w1.heap.size + 1 ≤ wr.heap.size ∧ Blk wr (w.heap.size + 1) 60 zs ∧ Blk wr w1.heap.size 60 (secV (readL (d.writes.take k) i s0))) (fun i _ => m - (intOf i).toNat)
  case atStart => exact ⟨0, by omega, rfl, hbel1.alloc hbel1.size _, by simp, hz1.alloc _, Blk.new _ _ _⟩
  case round =>
    obtain ⟨k, hk, rfl, hbel, hsz, hz, hbk⟩ := hrel
    by_cases hlt : k < m
    · have hkm : k < d.writes.length := by rw [HM.out]; exact hlt
      have hnx := readL_next d.writes i k s0 hkm
      have hp := (h.below (hbel.mono hB)).put hkm
      have hat := h.ok.put d.writes[k] (List.getElem_mem _)
      generalize d.writes[k] = p at *
      clear hkm
      obtain ⟨b2, off2, rfl, hb2, hr2⟩ := hp
      obtain ⟨hp1, hp2⟩ := hat
      have hcl : p.cells.length = 33 := by simp [PutL.cells, hp1]
      have hcn : p.cells.toArray.size = 33 := by simp [PutL.cells, hp1]
      have HCN := Lib.hid hcn
      have HCL := Lib.hid hcl
      have HP := Lib.hid hp1
      have HNX := Lib.hid hnx
      have hq0 : p.cells[0]? = some (.int .i64 (p.at_ : Int)) := rfl
      have hrd : (wr.alloc (.cells p.cells.toArray 73)).rangeAt wr.heap.size 1 (p.data.map B8) := by
        have := World.rangeAt_of_block (Blk.new wr 73 p.cells.toArray) 1 32
        have e : (p.cells.toArray.extract 1 (1 + 32)).toList = p.data.map B8 := by
          simp only [PutL.cells, List.extract_toArray]
          simp [hp1]
          exact List.take_of_length_le (by simp [hp1])
        rwa [e] at this
      clear hcl hcn hp1 hnx
      by_cases hpi : p.at_ = i
      · have hq : ((p.at_ : Int) == (i : Int)) = true := by simp [hpi]
        go_wp2_with (first | (with_reducible show wpList _ _ _ (⟨some 37, _, _, _, _, _⟩ :: _) _ _; refine wpList_load_mid (op := ⟨some 37, _, _, _, _, _⟩) rfl 73 (.tmp 36) rfl b2 (off2 + k * 33) rfl p.cells _ hr2 Try.underlying73 rfl (by rw [HCL.out]; kernel_rfl) ?_) | (with_reducible show wpList _ _ _ (⟨some 9, _, _, _, _, _⟩ :: _) _ _; (refine step_var (o1 := ⟨some 9, _, _, _, _, _⟩) 73 9 (.tmp 37) 33 _ p.cells.toArray rfl rfl rfl rfl rfl rfl info_put (by decide) (fun _ => rfl) (fun _ => rfl) HCN.out (all_oneCell_toArray p.one) ?_)) | (with_reducible show wpList _ _ _ (⟨some 43, _, _, _, _, _⟩ :: _) _ _; refine wpList_load_mid (op := ⟨some 43, _, _, _, _, _⟩) rfl 60 (.tmp 42) rfl wr.heap.size 1 rfl (p.data.map B8) _ hrd Try.underlying60 rfl (by rw [size_sec]; simp [HP.out]) ?_) | (with_reducible show wpList _ _ _ [⟨none, .store _ (.tmp 7) _, _, _, _, _⟩] _ _; refine step_set (o := ⟨none, _, _, _, _, _⟩) 60 (.tmp 7) (.tmp 43) 32 (secV p.data) _ w1.heap.size rfl rfl rfl rfl rfl (hbk.alloc _) size_sec (secV_size (HR.out k)) (secV_size HP.out) (secV_one _) ?_; intro w3 hb3 hg3 hsz3))
        refine ⟨⟨k + 1, by omega, by go_num, (hbel.alloc hbel.size _).grown hg3 (by simp; have := hbel.size; omega) (fun g hg => by injection hg with hg; omega), by rw [hsz3]; simp; omega, (hz.alloc _).grown hg3 (by intro e; injection e with e; omega), ?_⟩, by simp [intOf]; omega⟩
        rw [HNX.out, if_pos hpi]
        exact hb3
      · have hq : ((p.at_ : Int) == (i : Int)) = false := by simp; omega
        go_wp2_with (first | (with_reducible show wpList _ _ _ (⟨some 37, _, _, _, _, _⟩ :: _) _ _; refine wpList_load_mid (op := ⟨some 37, _, _, _, _, _⟩) rfl 73 (.tmp 36) rfl b2 (off2 + k * 33) rfl p.cells _ hr2 Try.underlying73 rfl (by rw [HCL.out]; kernel_rfl) ?_) | (with_reducible show wpList _ _ _ (⟨some 9, _, _, _, _, _⟩ :: _) _ _; (refine step_var (o1 := ⟨some 9, _, _, _, _, _⟩) 73 9 (.tmp 37) 33 _ p.cells.toArray rfl rfl rfl rfl rfl rfl info_put (by decide) (fun _ => rfl) (fun _ => rfl) HCN.out (all_oneCell_toArray p.one) ?_)))
        refine ⟨⟨k + 1, by omega, by go_num, hbel.alloc hbel.size _, by simp; omega, hz.alloc _, ?_⟩, by simp [intOf]; omega⟩
        rw [HNX.out, if_neg hpi]
        exact hbk.alloc _
    · obtain rfl : k = m := by omega
      have htk : d.writes.take k = d.writes := List.take_of_length_le (by rw [HM.out]; exact Nat.le_refl _)
      rw [htk] at hbk
      have hrl := HR.out k
      rw [htk] at hrl
      obtain ⟨res, hres⟩ : ∃ r, r = readL d.writes i s0 := ⟨_, rfl⟩
      rw [← hres] at hbk hrl
      have HRL := Lib.hid hrl
      have HRS := Lib.hid hres
      clear hres
      clear hrl htk
      go_wp2_with (first | (with_reducible show wpList _ _ _ (⟨some 45, _, _, _, _, _⟩ :: _) _ _; refine step_get (o := ⟨some 45, _, _, _, _, _⟩) 60 (.tmp 7) 32 _ (secV res) w1.heap.size rfl rfl rfl hbk Try.underlying60 rfl size_sec (secV_size HRL.out) ?_) | (with_reducible show wpList _ _ _ (⟨none, .store _ (.tmp 4) _, _, _, _, _⟩ :: _) _ _; refine step_set (o := ⟨none, _, _, _, _, _⟩) 60 (.tmp 4) (.tmp 45) 32 (secV res) _ (w.heap.size + 1) rfl rfl rfl rfl rfl hz size_sec hzs (secV_size HRL.out) (secV_one _) ?_; intro w3 hb3 hg3 hsz3))
      (try simp only [Exit.inBlock, Exit.then])
      refine bodyPost_ret (v := .tuple #[.agg (secV res), .int .i64 0]) ?_ rfl ⟨by rw [HRS.out], hbel.grown hg3 hbel.size (fun g hg => by injection hg with hg; omega)⟩
      rw [results_cell_tmp rfl]
      simp [asAddr, Result.andThen, loadVar_blk hb3 Try.underlying60 rfl size_sec (secV_size HRL.out)]
end Go.Proofs.Ytgakkghlphnoaaa
