/-
  The library's functions that the shelf has, found in this program. No condition.
-/
import Derived.Shelf.Unicode.ValidAny
import Derived.Test.YtfplkakfakdfhaaDoorProg
import Derived.Test.YtfplkakfakdfhaaDoorZB
import Derived.Lib.LaidU8T
import Derived.Test.YtfplkakfakdfhaaDoorTie
import Derived.OpenShut
import Derived.LaidMore
import Derived.Lay
import Derived.Stop.Joined
namespace Go.Proofs.YtfplkakfakdfhaaDoor
def laysValid_ren : Go.Shelf.Ren := ⟨fun | 196 => 47 | 259 => 58 | n => n, fun | 9 => 9 | 4 => 4 | 3 => 3 | 5 => 5 | 12 => 12 | 119 => 115 | 0 => 0 | 46 => 84 | 139 => 118 | 138 => 117 | 53 => 28 | n => n, fun | 3 => 0 | 4 => 1 | n => n⟩
theorem laysValid : Go.Proofs.Lays.n196 Tryd.prog laysValid_ren := {
  mixed := by kernel_rfl
  f196 := Tryd.func47.trans (congrArg some (by kernel_rfl))
  f259 := Tryd.func58.trans (congrArg some (by kernel_rfl))
  t0 := Tryd.underlying0
  a0 := Tryd.isAgg0
  z0 := Tryd.sizeOf0
  v0 := Tryd.zeroValue0
  t3 := Tryd.underlying3
  a3 := Tryd.isAgg3
  z3 := Tryd.sizeOf3
  v3 := Tryd.zeroValue3
  t4 := Tryd.underlying4
  a4 := Tryd.isAgg4
  z4 := Tryd.sizeOf4
  v4 := Tryd.zeroValue4
  t5 := Tryd.underlying5
  a5 := Tryd.isAgg5
  z5 := Tryd.sizeOf5
  v5 := Tryd.zeroValue5
  t9 := Tryd.underlying9
  a9 := Tryd.isAgg9
  z9 := Tryd.sizeOf9
  v9 := Tryd.zeroValue9
  t12 := Tryd.underlying12
  a12 := Tryd.isAgg12
  z12 := Tryd.sizeOf12
  v12 := Tryd.zeroValue12
  t46 := Tryd.underlying84
  a46 := Tryd.isAgg84
  z46 := Tryd.sizeOf84
  v46 := Tryd.zeroValue84
  t53 := Tryd.underlying28
  a53 := Tryd.isAgg28
  z53 := Tryd.sizeOf28
  v53 := Tryd.zeroValue28
  t119 := Tryd.underlying115
  a119 := Tryd.isAgg115
  z119 := Tryd.sizeOf115
  t138 := Tryd.underlying117
  a138 := Tryd.isAgg117
  z138 := Tryd.sizeOf117
  v138 := Tryd.zeroValue117
  t139 := Tryd.underlying118
  a139 := Tryd.isAgg118
  z139 := Tryd.sizeOf118
  v139 := Tryd.zeroValue118
  g3 := by kernel_rfl
  g4 := by kernel_rfl }

end Go.Proofs.YtfplkakfakdfhaaDoor


/-
  unicode/utf8.ValidString as a contract; the laid tables of unicode/utf8 read as the tables of the walks. No condition but the size.
-/
namespace Go.Proofs.YtfplkakfakdfhaaDoor
set_option linter.unusedSimpArgs false
set_option linter.unusedVariables false
open Go.RowKit

theorem repC_sc_eq {I : Nat → Prop} {w : World} {o : Bool} : ∀ {l us : List Value}, RepC I w o (l.map D.sc) us → us = l
  | [], _, h => h
  | v :: l, _, ⟨u, us, rfl, _, hd, hr⟩ => by rw [repC_sc_eq hr, hd.1]
theorem gl_cell {I : Nat → Prop} {w : World} (h : GlOk I w) {g : Nat} {l : List Value} (hg : Gs g = some (l.map D.sc)) {j : Nat} {v : Value} (hv : l[j]? = some v) : w.cell? ⟨g, j, none⟩ = some v := by
  obtain ⟨_, xs, ⟨us, us', rfl, _, hc, hr⟩, hcell⟩ := h.1 g _ hg
  have hr : us' = [] := hr
  rw [repC_sc_eq hc, hr, List.append_nil] at hcell
  exact hcell j v hv
abbrev gFirst : Nat := laysValid_ren.g 3
abbrev gAcc : Nat := laysValid_ren.g 4
def firstV : List Value := (List.range 256).map fun c => .int .u8 (Lib.firstT c)
def accV : List Value := (List.range 16).flatMap fun i => [.int .u8 (Lib.accLo i), .int .u8 (Lib.accHi i)]
set_option maxRecDepth 100000 in
theorem gs_first : Gs gFirst = some (firstV.map D.sc) := by kernel_rfl
set_option maxRecDepth 100000 in
theorem gs_acc : Gs gAcc = some (accV.map D.sc) := by kernel_rfl
theorem acc_get {i : Nat} (h : i < 16) : accV[2 * i]? = some (.int .u8 (Lib.accLo i)) ∧ accV[2 * i + 1]? = some (.int .u8 (Lib.accHi i)) := by
  have : ∀ n i, i < n → ((List.range n).flatMap fun i => [Value.int .u8 (Lib.accLo i), Value.int .u8 (Lib.accHi i)])[2 * i]? = some (.int .u8 (Lib.accLo i)) ∧ ((List.range n).flatMap fun i => [Value.int .u8 (Lib.accLo i), Value.int .u8 (Lib.accHi i)])[2 * i + 1]? = some (.int .u8 (Lib.accHi i)) := by
    intro n
    induction n with
    | zero => intro i h; omega
    | succ n ih =>
      intro i h
      have hl : ((List.range n).flatMap fun i => [Value.int .u8 (Lib.accLo i), Value.int .u8 (Lib.accHi i)]).length = 2 * n := by
        clear ih h
        induction n with
        | zero => rfl
        | succ n ih => rw [List.range_succ, List.flatMap_append, List.length_append, ih]; simp; omega
      rw [List.range_succ, List.flatMap_append]
      by_cases hi : i < n
      · rw [List.getElem?_append_left (by omega), List.getElem?_append_left (by omega)]
        exact ih i hi
      · have : i = n := by omega
        subst this
        rw [List.getElem?_append_right (by omega), List.getElem?_append_right (by omega), hl]
        simp
  exact this 16 i h
theorem tabs_of_gl {I : Nat → Prop} {w : World} (h : GlOk I w) : Lib.Utf8Tabs gFirst gAcc w := by
  refine ⟨fun c hc => gl_cell h gs_first ?_, fun i hi => ⟨gl_cell h gs_acc (acc_get hi).1, gl_cell h gs_acc (acc_get hi).2⟩⟩
  unfold firstV
  rw [List.getElem?_map, List.getElem?_range hc]; rfl
theorem valid_pc (s : ByteArray) (hs : s.size ≤ 9223372036854775807) : PC Tryd.prog 47 [strD s] (bD (Lib.validD s.data.toList)) := by
  refine ⟨enters_of Tryd.func47 rfl (by kernel_rfl), fun I w vs hok hr => ?_⟩
  have e : vs = #[.string s] := by
    obtain ⟨u, us, h1, _, hd, h2⟩ := hr
    have h2 : us = [] := h2
    rw [h2, hd.1] at h1
    cases vs; simp_all
  subst e
  exact (Any.utf8_ValidString laysValid s w hs (tabs_of_gl hok.2)).mono fun e w' ⟨he, hb⟩ => ⟨_, he, ⟨rfl, rfl⟩, hb⟩
end Go.Proofs.YtfplkakfakdfhaaDoor


/-
  The laid tables of unicode/utf8 read as the tables of the walks; the start of the calls meets them. No condition.
-/
namespace Go.Proofs.YtfplkakfakdfhaaDoor
set_option linter.unusedSimpArgs false
set_option linter.unusedVariables false
set_option maxRecDepth 100000
open Go.ChangeShapes Go.WideShapes Go.ChangeAt Go.RowKit

abbrev laidL : List (String × DataW Unit) := [("unicode/utf8.acceptRanges", Rows.laid_unicode_utf8_acceptRanges), ("unicode/utf8.first", Rows.laid_unicode_utf8_first)]
theorem door_met (os : Os) (args : Array Value) : laidMetH Tryd.prog laidL ((World.laidAll Tryd.prog os laidL).forCall (fun _ _ => 0) ⟨#[], args, []⟩).memory := by
  rw [MakeChecks.laidMetH_plain _ _ _ (by kernel_rfl)]
  exact laidMet_laidAll args (by kernel_rfl) (by kernel_rfl)
theorem u8extra : U8Extra Tryd.prog laysValid_ren := { n3 := by kernel_rfl, n4 := by kernel_rfl, y3 := by kernel_rfl, y4 := by kernel_rfl, c5 := by kernel_rfl, c119 := by kernel_rfl, c138 := by kernel_rfl }
theorem tabs_of_laid {W : World} (h : laidMetH Tryd.prog laidL W) : Lib.Utf8Tabs gFirst gAcc W := by
  rw [MakeChecks.laidMetH_plain _ _ _ (by kernel_rfl)] at h
  have e1 : Rows.laid_unicode_utf8_first = Lib.firstData := by kernel_rfl
  have e2 : (Rows.laid_unicode_utf8_acceptRanges : DataW Unit) = Lib.acceptData := by kernel_rfl
  exact utf8Tabs_of_readsT (U8Types.of196 laysValid) u8extra (e1 ▸ Lib.laidMet.reads h (List.mem_cons_of_mem _ List.mem_cons_self)) (e2 ▸ Lib.laidMet.reads h List.mem_cons_self)
theorem repC_sc (I : Nat → Prop) (w : World) : ∀ l : List Value, (∀ v ∈ l, v.oneCell' = true) → RepC I w true (l.map D.sc) l
  | [], _ => rfl
  | v :: l, h => ⟨v, l, rfl, fun _ => rfl, ⟨rfl, h v (by simp)⟩, repC_sc I w l fun u hu => h u (by simp [hu])⟩
theorem gl_one {W : World} {g : Nat} {l : List Value} (h1 : ∀ v ∈ l, v.oneCell' = true) (h0 : 0 < l.length) (hc : ∀ j v, l[j]? = some v → W.cell? ⟨g, j, none⟩ = some v) : g < W.heap.size ∧ ∃ xs, RepR (fun g => g < W.heap.size) W (l.map D.sc).length [l.map D.sc] xs ∧ ∀ (j : Nat) (u : Value), xs[j]? = some u → W.cell? ⟨g, j, none⟩ = some u := by
  refine ⟨?_, l, ⟨l, [], (List.append_nil _).symm, rfl, repC_sc _ _ _ h1, rfl⟩, hc⟩
  obtain ⟨v, hv⟩ : ∃ v, l[0]? = some v := ⟨_, List.getElem?_eq_getElem h0⟩
  have := hc 0 v hv
  unfold World.cell? at this
  rcases Nat.lt_or_ge g W.heap.size with h1 | h1
  · exact h1
  · rw [Array.getElem?_eq_none h1] at this
    cases this
theorem acc_at {n : Nat} : ∀ {j : Nat} {v : Value}, ((List.range n).flatMap fun i => [Value.int .u8 (Lib.accLo i), Value.int .u8 (Lib.accHi i)])[j]? = some v → ∃ i, i < n ∧ ((j = 2 * i ∧ v = .int .u8 (Lib.accLo i)) ∨ (j = 2 * i + 1 ∧ v = .int .u8 (Lib.accHi i))) := by
  induction n with
  | zero => intro j v h; simp at h
  | succ n ih =>
    intro j v h
    have hl : ((List.range n).flatMap fun i => [Value.int .u8 (Lib.accLo i), Value.int .u8 (Lib.accHi i)]).length = 2 * n := by
      clear ih h
      induction n with
      | zero => rfl
      | succ n ih => rw [List.range_succ, List.flatMap_append, List.length_append, ih]; simp; omega
    rw [List.range_succ, List.flatMap_append] at h
    by_cases hj : j < 2 * n
    · rw [List.getElem?_append_left (by omega)] at h
      obtain ⟨i, h1, h2⟩ := ih h
      exact ⟨i, by omega, h2⟩
    · rw [List.getElem?_append_right (by omega), hl] at h
      refine ⟨n, by omega, ?_⟩
      rcases (by omega : j = 2 * n ∨ j = 2 * n + 1 ∨ 2 * n + 2 ≤ j) with rfl | rfl | hj2
      · rw [Nat.sub_self] at h
        exact .inl ⟨rfl, by simpa using h.symm⟩
      · rw [show 2 * n + 1 - 2 * n = 1 by omega] at h
        exact .inr ⟨rfl, by simpa using h.symm⟩
      · rw [List.getElem?_eq_none (by simp; omega)] at h
        cases h
theorem gl_of_laid {W : World} (h : laidMetH Tryd.prog laidL W) : GlOk (fun g => g < W.heap.size) W := by
  obtain ⟨t1, t2⟩ := tabs_of_laid h
  refine ⟨?_, fun g hg => absurd hg List.not_mem_nil, fun g hg => absurd hg List.not_mem_nil⟩
  intro g cs hg
  by_cases h1 : g = gFirst
  · subst h1
    rw [gs_first] at hg
    injection hg with hg
    subst hg
    refine gl_one (fun v hv => ?_) (by decide) (fun j v hv => ?_)
    · unfold firstV at hv
      obtain ⟨c, _, rfl⟩ := List.mem_map.1 hv
      rfl
    · unfold firstV at hv
      rw [List.getElem?_map] at hv
      obtain ⟨c, hc, rfl⟩ := Option.map_eq_some_iff.1 hv
      obtain ⟨hj, e⟩ := List.getElem?_eq_some_iff.1 hc
      rw [List.length_range] at hj
      rw [List.getElem_range] at e
      subst e
      exact t1 j hj
  · by_cases h2 : g = gAcc
    · subst h2
      rw [gs_acc] at hg
      injection hg with hg
      subst hg
      refine gl_one (fun v hv => ?_) (by decide) (fun j v hv => ?_)
      · obtain ⟨j, hj⟩ := List.getElem?_of_mem hv
        obtain ⟨i, _, (⟨_, rfl⟩ | ⟨_, rfl⟩)⟩ := acc_at hj <;> rfl
      · obtain ⟨i, hi, (⟨rfl, rfl⟩ | ⟨rfl, rfl⟩)⟩ := acc_at hv
        · exact (t2 i hi).1
        · exact (t2 i hi).2
    · exfalso
      have hk : look g GsL = none := by
        unfold GsL
        rw [look_cons]
        split
        · rename_i e
          exact absurd e.symm h1
        · rw [look_cons]
          split
          · rename_i e
            exact absurd e.symm h2
          · rfl
      unfold Gs at hg
      rw [hk] at hg
      cases hg
end Go.Proofs.YtfplkakfakdfhaaDoor


/-
  The table of the types that the walks meet. No condition.
-/
namespace Go.Proofs.YtfplkakfakdfhaaDoor
open Go.RowKit
def TL : List (Nat × TyI) := [(2, { size := 1, bytes := 8, row := false, zero := [.sc (.int .i64 0)], kind := .int .i64 }),
  (3, { size := 1, bytes := 8, row := false, zero := [.sc (.int .i64 0)], kind := .int .i64 }),
  (4, { size := 1, bytes := 1, row := false, zero := [.sc (.bool false)], kind := .bool }),
  (5, { size := 1, bytes := 1, row := false, zero := [.sc (.int .u8 0)], kind := .int .u8 }),
  (6, { size := 1, bytes := 1, row := false, zero := [.sc (.int .u8 0)], kind := .int .u8 }),
  (7, { size := 4, bytes := 24, row := true, zero := [.sc (.int .i64 0), .sc (.int .i64 0), .sc (.bool false), .sc (.int .u8 0)], kind := .struct [(0, 1, false), (1, 1, false), (2, 1, false), (3, 1, false)] }),
  (8, { size := 4, bytes := 24, row := true, zero := [.sc (.int .i64 0), .sc (.int .i64 0), .sc (.bool false), .sc (.int .u8 0)], kind := .struct [(0, 1, false), (1, 1, false), (2, 1, false), (3, 1, false)] }),
  (9, { size := 1, bytes := 16, row := false, zero := [.sc (.string .empty)], kind := .str }),
  (10, { size := 1, bytes := 16, row := false, zero := [.sc (.string .empty)], kind := .str }),
  (11, { size := 1, bytes := 16, row := false, zero := [.sc (.string .empty)], kind := .str }),
  (12, { size := 1, bytes := 8, row := false, zero := [.sc (.int .u64 0)], kind := .int .u64 }),
  (13, { size := 2, bytes := 24, row := true, zero := [.sc (.string .empty), .sc (.int .u64 0)], kind := .struct [(0, 1, false), (1, 1, false)] }),
  (14, { size := 2, bytes := 24, row := true, zero := [.sc (.string .empty), .sc (.int .u64 0)], kind := .struct [(0, 1, false), (1, 1, false)] }),
  (15, { size := 1, bytes := 8, row := false, zero := [.sc (.pointer none)], kind := .other }),
  (16, { size := 1, bytes := 8, row := false, zero := [.sc (.pointer none)], kind := .other }),
  (17, { size := 1, bytes := 8, row := false, zero := [.sc (.pointer none)], kind := .other }),
  (18, { size := 1, bytes := 8, row := true, zero := [.sc (.pointer none)], kind := .struct [(0, 1, false)] }),
  (19, { size := 1, bytes := 8, row := true, zero := [.sc (.pointer none)], kind := .struct [(0, 1, false)] }),
  (21, { size := 1, bytes := 4, row := false, zero := [.sc (.int .i32 0)], kind := .int .i32 }),
  (22, { size := 1, bytes := 24, row := false, zero := [.nl], kind := .slice 65 }),
  (23, { size := 1, bytes := 8, row := false, zero := [.sc (.pointer none)], kind := .other }),
  (25, { size := 1, bytes := 24, row := false, zero := [.nl], kind := .slice 31 }),
  (28, { size := 1, bytes := 8, row := false, zero := [.sc (.int .u64 0)], kind := .int .u64 }),
  (29, { size := 4, bytes := 40, row := true, zero := [.sc (.int .i64 0), .sc (.int .i64 0), .sc (.int .u64 0), .sc (.string .empty)], kind := .struct [(0, 1, false), (1, 1, false), (2, 1, false), (3, 1, false)] }),
  (30, { size := 4, bytes := 40, row := true, zero := [.sc (.int .i64 0), .sc (.int .i64 0), .sc (.int .u64 0), .sc (.string .empty)], kind := .struct [(0, 1, false), (1, 1, false), (2, 1, false), (3, 1, false)] }),
  (31, { size := 1, bytes := 24, row := false, zero := [.nl], kind := .slice 30 }),
  (32, { size := 1, bytes := 24, row := false, zero := [.nl], kind := .slice 68 }),
  (33, { size := 1, bytes := 24, row := true, zero := [.nl], kind := .struct [(0, 1, false)] }),
  (34, { size := 1, bytes := 24, row := true, zero := [.nl], kind := .struct [(0, 1, false)] }),
  (35, { size := 1, bytes := 8, row := false, zero := [.sc (.int .i64 0)], kind := .int .i64 }),
  (38, { size := 1, bytes := 24, row := false, zero := [.nl], kind := .slice 63 }),
  (39, { size := 3, bytes := 56, row := true, zero := [.nl, .sc (.int .i64 0), .nl], kind := .struct [(0, 1, false), (1, 1, false), (2, 1, false)] }),
  (40, { size := 3, bytes := 56, row := true, zero := [.nl, .sc (.int .i64 0), .nl], kind := .struct [(0, 1, false), (1, 1, false), (2, 1, false)] }),
  (41, { size := 1, bytes := 24, row := false, zero := [.nl], kind := .slice 3 }),
  (44, { size := 2, bytes := 16, row := true, zero := [.sc (.int .i64 0), .sc (.int .i64 0)], kind := .struct [(0, 1, false), (1, 1, false)] }),
  (45, { size := 2, bytes := 16, row := true, zero := [.sc (.int .i64 0), .sc (.int .i64 0)], kind := .struct [(0, 1, false), (1, 1, false)] }),
  (57, { size := 1, bytes := 24, row := false, zero := [.nl], kind := .slice 61 }),
  (60, { size := 2, bytes := 24, row := true, zero := [.sc (.string .empty), .sc (.int .i64 0)], kind := .struct [(0, 1, false), (1, 1, false)] }),
  (61, { size := 2, bytes := 24, row := true, zero := [.sc (.string .empty), .sc (.int .i64 0)], kind := .struct [(0, 1, false), (1, 1, false)] }),
  (62, { size := 3, bytes := 32, row := true, zero := [.sc (.string .empty), .sc (.int .i64 0), .sc (.bool false)], kind := .struct [(0, 1, false), (1, 1, false), (2, 1, false)] }),
  (63, { size := 3, bytes := 32, row := true, zero := [.sc (.string .empty), .sc (.int .i64 0), .sc (.bool false)], kind := .struct [(0, 1, false), (1, 1, false), (2, 1, false)] }),
  (64, { size := 4, bytes := 40, row := true, zero := [.sc (.int .i64 0), .sc (.int .i64 0), .sc (.int .i64 0), .sc (.string .empty)], kind := .struct [(0, 1, false), (1, 1, false), (2, 1, false), (3, 1, false)] }),
  (65, { size := 4, bytes := 40, row := true, zero := [.sc (.int .i64 0), .sc (.int .i64 0), .sc (.int .i64 0), .sc (.string .empty)], kind := .struct [(0, 1, false), (1, 1, false), (2, 1, false), (3, 1, false)] }),
  (66, { size := 1, bytes := 24, row := false, zero := [.nl], kind := .slice 9 }),
  (67, { size := 3, bytes := 72, row := true, zero := [.nl, .nl, .nl], kind := .struct [(0, 1, false), (1, 1, false), (2, 1, false)] }),
  (68, { size := 3, bytes := 72, row := true, zero := [.nl, .nl, .nl], kind := .struct [(0, 1, false), (1, 1, false), (2, 1, false)] }),
  (76, { size := 1, bytes := 8, row := false, zero := [.sc (.pointer none)], kind := .other }),
  (81, { size := 1, bytes := 24, row := false, zero := [.nl], kind := .slice 5 }),
  (84, { size := 1, bytes := 8, row := false, zero := [.sc (.int .u64 0)], kind := .int .u64 }),
  (88, { size := 4, bytes := 40, row := true, zero := [.sc (.int .i64 0), .sc (.string .empty), .sc (.int .i64 0), .sc (.int .u64 0)], kind := .struct [(0, 1, false), (1, 1, false), (2, 1, false), (3, 1, false)] }),
  (89, { size := 4, bytes := 40, row := true, zero := [.sc (.int .i64 0), .sc (.string .empty), .sc (.int .i64 0), .sc (.int .u64 0)], kind := .struct [(0, 1, false), (1, 1, false), (2, 1, false), (3, 1, false)] }),
  (92, { size := 1, bytes := 24, row := false, zero := [.nl], kind := .slice 76 }),
  (93, { size := 3, bytes := 72, row := true, zero := [.nl, .nl, .nl], kind := .struct [(0, 1, false), (1, 1, false), (2, 1, false)] }),
  (94, { size := 3, bytes := 72, row := true, zero := [.nl, .nl, .nl], kind := .struct [(0, 1, false), (1, 1, false), (2, 1, false)] }),
  (97, { size := 1, bytes := 8, row := false, zero := [.sc (.pointer none)], kind := .other }),
  (109, { size := 1, bytes := 8, row := false, zero := [.sc (.float .f64 0)], kind := .other }),
  (115, { size := 256, bytes := 256, row := true, zero := List.replicate 256 (.sc (.int .u8 0)), kind := .array 256 5 1 false }),
  (116, { size := 2, bytes := 2, row := true, zero := [.sc (.int .u8 0), .sc (.int .u8 0)], kind := .struct [(0, 1, false), (1, 1, false)] }),
  (117, { size := 2, bytes := 2, row := true, zero := [.sc (.int .u8 0), .sc (.int .u8 0)], kind := .struct [(0, 1, false), (1, 1, false)] }),
  (118, { size := 32, bytes := 32, row := true, zero := List.replicate 32 (.sc (.int .u8 0)), kind := .array 16 117 2 true }),
  (121, { size := 4, bytes := 40, row := true, zero := [.sc (.pointer none), .sc (.pointer none), .sc (.pointer none), .sc (.string .empty)], kind := .struct [(0, 1, false), (1, 1, false), (2, 1, false), (3, 1, false)] }),
  (122, { size := 4, bytes := 40, row := true, zero := [.sc (.pointer none), .sc (.pointer none), .sc (.pointer none), .sc (.string .empty)], kind := .struct [(0, 1, false), (1, 1, false), (2, 1, false), (3, 1, false)] }),
  (124, { size := 0, bytes := 0, row := true, zero := [], kind := .struct [(0, 0, true)] }),
  (125, { size := 0, bytes := 0, row := true, zero := [], kind := .struct [(0, 0, true)] }),
  (127, { size := 1, bytes := 4, row := false, zero := [.sc (.int .u32 0)], kind := .int .u32 }),
  (128, { size := 1, bytes := 1, row := false, zero := [.sc (.int .u8 0)], kind := .int .u8 }),
  (129, { size := 1, bytes := 1, row := false, zero := [.sc (.int .u8 0)], kind := .int .u8 }),
  (131, { size := 1, bytes := 8, row := false, zero := [.sc (.pointer none)], kind := .other }),
  (132, { size := 1, bytes := 4, row := false, zero := [.sc (.int .i32 0)], kind := .int .i32 }),
  (133, { size := 1, bytes := 4, row := false, zero := [.sc (.int .i32 0)], kind := .int .i32 }),
  (134, { size := 11, bytes := 48, row := true, zero := [.sc (.int .u64 0), .sc (.int .u64 0), .sc (.int .u32 0), .sc (.int .u8 0), .sc (.int .u8 0), .sc (.int .u8 0), .sc (.int .u8 0), .sc .nilFunc, .sc (.pointer none), .sc (.int .i32 0), .sc (.int .i32 0)], kind := .struct [(0, 1, false), (1, 1, false), (2, 1, false), (3, 1, false), (4, 1, false), (5, 1, false), (6, 1, false), (7, 1, false), (8, 1, false), (9, 1, false), (10, 1, false)] }),
  (135, { size := 11, bytes := 48, row := true, zero := [.sc (.int .u64 0), .sc (.int .u64 0), .sc (.int .u32 0), .sc (.int .u8 0), .sc (.int .u8 0), .sc (.int .u8 0), .sc (.int .u8 0), .sc .nilFunc, .sc (.pointer none), .sc (.int .i32 0), .sc (.int .i32 0)], kind := .struct [(0, 1, false), (1, 1, false), (2, 1, false), (3, 1, false), (4, 1, false), (5, 1, false), (6, 1, false), (7, 1, false), (8, 1, false), (9, 1, false), (10, 1, false)] }),
  (136, { size := 1, bytes := 8, row := false, zero := [.sc (.pointer none)], kind := .other })]
theorem tlAll : ∀ p ∈ TL, mkTy Tryd.prog p.1 = some p.2 := by
  unfold TL
  repeat refine List.forall_mem_cons.2 ⟨by kernel_rfl, ?_⟩
  exact List.forall_mem_nil _
theorem tyOk {T : TypeId} {t : TyI} (h : look T TL = some t) : mkTy Tryd.prog T = some t := tlAll (T, t) (look_mem h)
def TG : List (Nat × List Tag) := [(29, [.i, .i, .i, .s]), (30, [.i, .i, .i, .s]), (44, [.i, .i]), (45, [.i, .i]), (60, [.s, .i]), (61, [.s, .i]), (62, [.s, .i, .b]), (63, [.s, .i, .b]), (64, [.i, .i, .i, .s]), (65, [.i, .i, .i, .s]), (88, [.i, .s, .i, .i]), (89, [.i, .s, .i, .i]), (116, [.i, .i]), (117, [.i, .i])]
theorem tgAll : ∀ p ∈ TG, tagsOf Tryd.prog p.1 = some p.2 := by
  unfold TG
  repeat refine List.forall_mem_cons.2 ⟨by kernel_rfl, ?_⟩
  exact List.forall_mem_nil _
theorem tgOk {T : TypeId} {t : List Tag} (h : look T TG = some t) : tagsOf Tryd.prog T = some t := tgAll (T, t) (look_mem h)
theorem mixed : Tryd.prog.follows .mixedOrders = true := by kernel_rfl
end Go.Proofs.YtfplkakfakdfhaaDoor

