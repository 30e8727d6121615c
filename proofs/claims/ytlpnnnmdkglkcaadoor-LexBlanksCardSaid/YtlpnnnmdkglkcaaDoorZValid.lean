/-
  unicode/utf8.ValidString as a contract; the laid tables of unicode/utf8 read as the tables of the walks. No condition but the size.
-/
import Derived.Test.YtlpnnnmdkglkcaaDoorZLays
import Derived.Test.YtlpnnnmdkglkcaaDoorZB
import Derived.Lib.LaidU8T
namespace Go.Proofs.YtlpnnnmdkglkcaaDoor
set_option linter.unusedSimpArgs false
set_option linter.unusedVariables false
open Go.RowKit

theorem repC_sc_eq {I : Nat → Prop} {w : World} {o : Bool} : ∀ {l us : List Value}, RepC I w o (l.map D.sc) us → us = l
  | [], _, h => h
  | v :: l, _, ⟨u, us, rfl, _, hd, hr⟩ => by rw [repC_sc_eq hr, hd.1]
theorem gl_cell {I : Nat → Prop} {w : World} (h : GlOk I w) {g : Nat} {l : List Value} (hg : Gs g = some (l.map D.sc)) {j : Nat} {v : Value} (hv : l[j]? = some v) : w.cell? ⟨g, j, none⟩ = some v := by
  obtain ⟨_, xs, ⟨us, us', rfl, _, hc, hr⟩, hcell⟩ := h.1 g _ hg
  have hr : us' = [] := hr
  rw [repC_sc_eq hc, hr, List.append_nil] at hcell
  exact hcell j v hv
abbrev gFirst : Nat := laysValid_ren.g 3
abbrev gAcc : Nat := laysValid_ren.g 4
def firstV : List Value := (List.range 256).map fun c => .int .u8 (Lib.firstT c)
def accV : List Value := (List.range 16).flatMap fun i => [.int .u8 (Lib.accLo i), .int .u8 (Lib.accHi i)]
set_option maxRecDepth 100000 in
theorem gs_first : Gs gFirst = some (firstV.map D.sc) := by kernel_rfl
set_option maxRecDepth 100000 in
theorem gs_acc : Gs gAcc = some (accV.map D.sc) := by kernel_rfl
theorem acc_get {i : Nat} (h : i < 16) : accV[2 * i]? = some (.int .u8 (Lib.accLo i)) ∧ accV[2 * i + 1]? = some (.int .u8 (Lib.accHi i)) := by
  have : ∀ n i, i < n → ((List.range n).flatMap fun i => [Value.int .u8 (Lib.accLo i), Value.int .u8 (Lib.accHi i)])[2 * i]? = some (.int .u8 (Lib.accLo i)) ∧ ((List.range n).flatMap fun i => [Value.int .u8 (Lib.accLo i), Value.int .u8 (Lib.accHi i)])[2 * i + 1]? = some (.int .u8 (Lib.accHi i)) := by
    intro n
    induction n with
    | zero => intro i h; omega
    | succ n ih =>
      intro i h
      have hl : ((List.range n).flatMap fun i => [Value.int .u8 (Lib.accLo i), Value.int .u8 (Lib.accHi i)]).length = 2 * n := by
        clear ih h
        induction n with
        | zero => rfl
        | succ n ih => rw [List.range_succ, List.flatMap_append, List.length_append, ih]; simp; omega
      rw [List.range_succ, List.flatMap_append]
      by_cases hi : i < n
      · rw [List.getElem?_append_left (by omega), List.getElem?_append_left (by omega)]
        exact ih i hi
      · have : i = n := by omega
        subst this
        rw [List.getElem?_append_right (by omega), List.getElem?_append_right (by omega), hl]
        simp
  exact this 16 i h
theorem tabs_of_gl {I : Nat → Prop} {w : World} (h : GlOk I w) : Lib.Utf8Tabs gFirst gAcc w := by
  refine ⟨fun c hc => gl_cell h gs_first ?_, fun i hi => ⟨gl_cell h gs_acc (acc_get hi).1, gl_cell h gs_acc (acc_get hi).2⟩⟩
  unfold firstV
  rw [List.getElem?_map, List.getElem?_range hc]; rfl
theorem valid_pc (s : ByteArray) (hs : s.size ≤ 9223372036854775807) : PC Tryd.prog 36 [strD s] (bD (Lib.validD s.data.toList)) := by
  refine ⟨enters_of Tryd.func36 rfl (by kernel_rfl), fun I w vs hok hr => ?_⟩
  have e : vs = #[.string s] := by
    obtain ⟨u, us, h1, _, hd, h2⟩ := hr
    have h2 : us = [] := h2
    rw [h2, hd.1] at h1
    cases vs; simp_all
  subst e
  exact (Any.utf8_ValidString laysValid s w hs (tabs_of_gl hok.2)).mono fun e w' ⟨he, hb⟩ => ⟨_, he, ⟨rfl, rfl⟩, hb⟩
end Go.Proofs.YtlpnnnmdkglkcaaDoor

