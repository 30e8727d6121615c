/-
  strconv.Itoa, strings.ReplaceAll, strings.Repeat, utf8.DecodeRune as contracts. No condition but the sizes.
-/
import Derived.Test.YtlpnnnmdkglkcaaDoorZValid
import Derived.Test.YtlpnnnmdkglkcaaDoorZC
import Derived.Test.YtlpnnnmdkglkcaaDoorZLaysIt
import Derived.Test.YtlpnnnmdkglkcaaDoorZLaysRp
import Derived.Test.YtlpnnnmdkglkcaaDoorZLaysRt
import Derived.Test.YtlpnnnmdkglkcaaDoorZLaysDr
import Derived.Test.YtlpnnnmdkglkcaaDoorZLexL
import Derived.Lib.AppendIntMem
namespace Go.Proofs.YtlpnnnmdkglkcaaDoor
set_option linter.unusedSimpArgs false
set_option linter.unusedVariables false
open Go.RowKit

theorem one_arg {I : Nat → Prop} {w : World} {a : Value} {vs : Array Value} (hr : RepC I w false [.sc a] vs.toList) : vs = #[a] := by
  obtain ⟨u, us, h1, _, hd, h2⟩ := hr
  have h2 : us = [] := h2
  rw [h2, hd.1] at h1
  cases vs; simp_all
theorem two_args {I : Nat → Prop} {w : World} {a b : Value} {vs : Array Value} (hr : RepC I w false [.sc a, .sc b] vs.toList) : vs = #[a, b] := by
  obtain ⟨u, us, h1, _, hd, hr⟩ := hr
  obtain ⟨u', us', h1', _, hd', h2⟩ := hr
  have h2 : us' = [] := h2
  rw [h1', h2, hd.1, hd'.1] at h1
  cases vs; simp_all
theorem three_args {I : Nat → Prop} {w : World} {a b c : Value} {vs : Array Value} (hr : RepC I w false [.sc a, .sc b, .sc c] vs.toList) : vs = #[a, b, c] := by
  obtain ⟨u, us, h1, _, hd, hr⟩ := hr
  obtain ⟨u', us', h1', _, hd', hr⟩ := hr
  obtain ⟨u2, us2, h12, _, hd2, h2⟩ := hr
  have h2 : us2 = [] := h2
  rw [h1', h12, h2, hd.1, hd'.1, hd2.1] at h1
  cases vs; simp_all
theorem pow_is {I : Nat → Prop} {w : World} (h : GlOk I w) : Lib.TabIs Tryd.prog w "internal/strconv.uint64pow10" .u64 Lib.pow10Tab := by
  obtain ⟨_, t, o, hh⟩ := h.2.2 _ (List.mem_singleton.2 rfl)
  have hn : Tryd.prog.globalNamed "internal/strconv.uint64pow10" = some 3 := by kernel_rfl
  have hh : w.heap[3]? = some (.cells (gn3.map fun n => Value.int .u64 (n : Nat)).toArray t o) := hh
  unfold Lib.TabIs World.var?
  rw [hn]
  show (match w.heap[3]? with | some (.cells cs _ _) => some cs | _ => none) = _
  rw [hh]
  kernel_rfl
theorem itoa_pc (n : Int) (h0 : -9223372036854775808 ≤ n) (h1 : n ≤ 9223372036854775807) : PC Tryd.prog 47 [iD n] (strD (byS (Lib.itoa n))) := by
  refine ⟨enters_of Tryd.func47 rfl (by kernel_rfl), fun I w vs hok hr => ?_⟩
  have e : vs = #[.int .i64 n] := one_arg hr
  subst e
  refine (Any.strconv_Itoa laysItoa n h0 h1 w (pow_is hok.2)).mono fun e w' ⟨he, k, os, hw⟩ => ⟨_, he, ⟨rfl, rfl⟩, ?_⟩
  subst hw
  exact Lib.below_grow _ w (Nat.le_refl _) k os
theorem extra_rp : Builder.Extra Tryd.prog laysReplaceAll_ren := {
  sizeBuilder := by kernel_rfl
  liesBuilder := by kernel_rfl
  t5 := Tryd.underlying5
  a5 := Tryd.isAgg5
  z5 := Tryd.sizeOf5
  v5 := Tryd.zeroValue5
  infoByte := by kernel_rfl
  cellsByte := by kernel_rfl
  sizeByte := by kernel_rfl
  neB5 := by decide }
theorem extra_rt : Builder.Extra Tryd.prog laysRepeat_ren := {
  sizeBuilder := by kernel_rfl
  liesBuilder := by kernel_rfl
  t5 := Tryd.underlying5
  a5 := Tryd.isAgg5
  z5 := Tryd.sizeOf5
  v5 := Tryd.zeroValue5
  infoByte := by kernel_rfl
  cellsByte := by kernel_rfl
  sizeByte := by kernel_rfl
  neB5 := by decide }
theorem replaceAll_pc (s : ByteArray) (hs : s.size ≤ 1000000) : PC Tryd.prog 48 [strD s, strD ⟨#[39]⟩, strD ⟨#[39, 39]⟩] (strD (byS (dblL s.data.toList))) := by
  refine ⟨enters_of Tryd.func48 rfl (by kernel_rfl), fun I w vs hok hr => ?_⟩
  have e := three_args hr
  subst e
  obtain ⟨_, m, hm⟩ := hok.2.2.1 4 (by decide)
  have hc := Lib.countB_mul_le ⟨#[39]⟩ (by decide) s.size s (Nat.le_refl _)
  have h1 : (⟨#[39]⟩ : ByteArray).size = 1 := rfl
  have h2 : (⟨#[39, 39]⟩ : ByteArray).size = 2 := rfl
  rw [h1] at hc
  rw [← replace_dbl]
  exact (Any.strings_ReplaceAll { laysReplaceAll with } extra_rp s ⟨#[39]⟩ ⟨#[39, 39]⟩ m w (by omega) hm (by decide) (by rw [h2]; omega)).mono fun e w' ⟨he, hb⟩ => ⟨_, he, ⟨rfl, rfl⟩, hb⟩
theorem repeat_pc (s : ByteArray) (c : Nat) (hs : s.size * c ≤ 1000000) (hc : c ≤ 1000000) : PC Tryd.prog 50 [strD s, iD c] (strD (byS (Lib.repeatL s.data.toList c))) := by
  refine ⟨enters_of Tryd.func50 rfl (by kernel_rfl), fun I w vs hok hr => ?_⟩
  have e := two_args hr
  subst e
  exact (Any.strings_Repeat laysRepeat extra_rt s c w (by omega) (by omega)).mono fun e w' ⟨he, hb⟩ => ⟨_, he, ⟨rfl, rfl⟩, hb⟩
theorem decode_pc (l : List UInt8) (hl : l ≠ []) : PC Tryd.prog 85 [byD l] (.tu [.sc (.int .i32 ((Lib.decodeL l).1 : Nat)), iD ((Lib.decodeL l).2 : Nat)]) := by
  refine ⟨enters_of Tryd.func85 rfl (by kernel_rfl), fun I w vs hok hr => ?_⟩
  obtain ⟨u, us, h1, _, hd, h2⟩ := hr
  have h2 : us = [] := h2
  rw [h2] at h1
  obtain ⟨ad, c, rfl, hc⟩ := by_cells hd
  obtain rfl : vs = #[.slice ad l.length c] := by cases vs; simp_all
  obtain ⟨g, off, rfl, hcell⟩ := hc (List.length_pos_iff.2 hl)
  have hsz : (byS l).size = l.length := by show l.toArray.size = _; simp
  have hg : ∀ j, j < (byS l).size → w.cell? ⟨g, off + j, none⟩ = some (.int .u8 ((byS l).get! j).toNat) := fun j hj => by
    rw [hsz] at hj
    rw [hcell j hj]
    have : (byS l).get! j = l[j] := by
      show l.toArray[j]! = _
      rw [getElem!_pos _ _ (by simpa using hj)]
      simp
    rw [this]
  have hT := tabs_of_gl hok.2
  have h3 := Any7.utf8_DecodeRune laysDecode (byS l) g off c w hT hg
  have h4 : Lib.decodeGo (byS l) = Lib.decodeL l := by
    unfold Lib.decodeGo
    rw [if_neg (by rw [hsz]; have := List.length_pos_iff.2 hl; omega)]
    rfl
  rw [h4, hsz] at h3
  exact h3.mono fun e w' ⟨he, hb⟩ => ⟨_, he, ⟨_, rfl, _, _, rfl, fun h => (by cases h), ⟨rfl, rfl⟩, _, _, rfl, fun h => (by cases h), ⟨rfl, rfl⟩, rfl⟩, hb⟩
end Go.Proofs.YtlpnnnmdkglkcaaDoor

