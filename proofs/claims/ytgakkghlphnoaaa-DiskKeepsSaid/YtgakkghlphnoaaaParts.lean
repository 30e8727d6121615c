/-
  What 'some', 'partsOf' and 'sameLists' answer. Slices are read below new memory.
-/
import Derived.Test.YtgakkghlphnoaaaLists
import Derived.Deep.DeepMust
import Derived.Lib.Strings
namespace Go.Proofs.Ytgakkghlphnoaaa
set_option linter.unusedSimpArgs false
set_option linter.unusedVariables false
open Go.RowKit

theorem some_any (A : Option Addr) (n c m : Nat) (w : World) (hc : n ≤ c) (hm : m ≤ 1000000) :
    Calls Try.prog 36 #[.slice A n c, .int .i64 m] w fun e w' => e = .returned (.slice A (min n m) c) ∧ w = w' := by
  obtain ⟨k, hk⟩ : ∃ k : Nat, k = min n m := ⟨_, rfl⟩
  have hmin : ∀ w' : World, (Builtin.min_ #[3, 3] 3 #[.int .i64 (n : Int), .int .i64 (m : Int)]).run Try.prog w' = .ok (.int .i64 (k : Int)) w' :=
    fun w' => by rw [run_min_int2]; congr 2; split <;> omega
  have hkc : k ≤ c := by omega
  rw [← hk]
  clear hk
  go_enter Try.func36, Try.ntmps36
  go_wp2_with fail
  go_ret
  exact ⟨rfl, rfl⟩

/-- The parts that raw things make. -/
def partL (r : Raw) : List UInt8 := r.text.toList.take 30
def partsL (l : List Raw) : List (List UInt8) := (l.take 8).map partL

theorem info_bytes : (Try.prog.info? 22).map (fun i => (i.zero, i.size, i.bytes)) = some (some (.slice none 0 0), 1, 24) := by kernel_rfl
theorem RdR.row {w : World} {B : Nat} {A : Option Addr} {l : List Raw} (h : RdR w B A l) {k : Nat} (hk : k < l.length) : ∃ b off, A = some ⟨b, off, none⟩ ∧ b < B ∧
    w.cell? ⟨b, off + k * 4, none⟩ = some (.int .i64 (l[k]).kind) ∧ w.cell? ⟨b, off + k * 4 + 1, none⟩ = some (.int .i64 (l[k]).a) ∧ w.cell? ⟨b, off + k * 4 + 2, none⟩ = some (.int .i64 (l[k]).b) ∧ w.cell? ⟨b, off + k * 4 + 3, none⟩ = some (.string (l[k]).text) := by
  have hlen := raws_len l
  obtain ⟨b, off, e, hb, _, hall⟩ := Reads.cell h (j := 0) (by omega)
  refine ⟨b, off, e, hb, ?_, ?_, ?_, ?_⟩
  · have := hall (k * 4) (by omega); rw [this]; exact raws_at l k 0 hk (by omega)
  · have := hall (k * 4 + 1) (by omega); rw [← Nat.add_assoc] at this; rw [this]; exact raws_at l k 1 hk (by omega)
  · have := hall (k * 4 + 2) (by omega); rw [← Nat.add_assoc] at this; rw [this]; exact raws_at l k 2 hk (by omega)
  · have := hall (k * 4 + 3) (by omega); rw [← Nat.add_assoc] at this; rw [this]; exact raws_at l k 3 hk (by omega)

theorem partsOf_any (A : Option Addr) (l : List Raw) (c B : Nat) (w : World) (hr : RdR w B A l) (hB : B ≤ w.heap.size) (hl : l.length ≤ c) (hok : ∀ r ∈ l, r.ok) :
    Calls Try.prog 21 #[.slice A l.length c] w fun e w' => ∃ A' c', e = .returned (.slice A' (partsL l).length c') ∧ RdL w' w'.heap.size A' (partsL l) ∧ (partsL l).length ≤ c' ∧ c' ≤ maxLen ∧ Below w.heap.size w w' := by
  go_enter Try.func21, Try.ntmps21
  go_wp2_with fail
  refine (some_any A l.length c 8 _ hl (by omega)).mono ?_; rintro e w' ⟨rfl, rfl⟩
  obtain ⟨n, hn⟩ : ∃ n : Nat, n = min l.length 8 := ⟨_, rfl⟩
  rw [← hn]
  have n1 : n ≤ l.length := by omega
  have n2 : n ≤ 8 := by omega
  have hfull : (partsL l).length = n := by simp [partsL]; omega
  have HF := Lib.hid hfull
  clear hfull hn
  go_wp2_with fail
  go_loopw [3, 9] (fun v i wr => ∃ k A' c' vs, k ≤ n ∧ i = .int .i64 (k : Nat) ∧ v = .slice A' k c' ∧ wr.ownsRow w.heap.size 22 1 (.slice A' k c') k vs ∧ Subs wr wr.heap.size (Value.slice A' k c').ownBlock vs ((partsL l).take k) ∧ k ≤ c' ∧ c' ≤ maxLen ∧ Below w.heap.size w wr) (fun _ i _ => n - (intOf i).toNat)
  case atStart => exact ⟨0, none, 0, [], by omega, rfl, rfl, World.ownsRow_nil _ _ _ _, Subs.nil, by omega, by simp [maxLen], Below.refl _ _⟩
  case round =>
    obtain ⟨k, A', c', vs, hk, rfl, rfl, hown, hsub, hkc, hcm, hbel⟩ := hrel
    by_cases hlt : k < n
    · obtain ⟨b, off, rfl, hb, q0, q1, q2, q3⟩ := (hr.below (hbel.mono hB)).row (k := k) (by omega)
      have hlk : (l[k]).text.size ≤ maxLen := (hok _ (List.getElem_mem _)).text
      have hpl : (partsL l)[k]? = some (partL l[k]) := by
        unfold partsL
        rw [List.getElem?_map, List.getElem?_take_of_lt (by omega), List.getElem?_eq_getElem (by omega)]; rfl
      have htk : (partsL l).take (k + 1) = (partsL l).take k ++ [partL l[k]] := by
        rw [List.take_add_one, hpl]; rfl
      generalize l[k] = r at *
      obtain ⟨m, hm⟩ : ∃ m : Nat, m = min r.text.size 30 := ⟨_, rfl⟩
      have m1 : m ≤ r.text.size := by omega
      have m2 : m ≤ 30 := by omega
      have hmin : ∀ w' : World, (Builtin.min_ #[3, 3] 3 #[.int .i64 (r.text.size : Int), .int .i64 30]).run Try.prog w' = .ok (.int .i64 (m : Int)) w' :=
        fun w' => by rw [run_min_int2]; congr 2; split <;> omega
      have hsl : (r.text.extract 0 m).toList = partL r := by
        unfold partL
        rw [ByteArray.toList_eq, ByteArray.toList_eq, Lib.extract_data]
        simp
        omega
      have hss : (r.text.extract 0 m).size ≤ maxLen := by
        have : (r.text.extract 0 m).size ≤ r.text.size := by simp; omega
        omega
      obtain ⟨cc, w2, hrun, hrd, hcl, hcm2, hb2, hsz2⟩ := conv_bytes (wr.alloc (.cells #[.int .i64 r.kind, .int .i64 r.a, .int .i64 r.b, .string r.text] 79)) (r.text.extract 0 m) hss (wr.heap.size + 1) (by simp)
      rw [hsl] at hrun hrd hcl
      have HSZ := Lib.hid hsz2
      clear hm hss hsl hlk hsz2
      have HT := Lib.hid htk
      clear htk hpl
      have hbel2 : Below w.heap.size w w2 := (hbel.alloc hbel.size _).trans (hb2.mono (by have := hbel.size; omega))
      have hb3 : Below wr.heap.size wr w2 := ((Below.refl _ _).alloc (Nat.le_refl _) _).trans (hb2.mono (by omega))
      have hown2 := own_call hown hb3
      have hblt := hown.lt
      go_wp2_with (at_builtin; refine app_own 39 22 _ 1 24 (.tmp 13) (.tmp 22) rfl rfl Try.underlying39 info_bytes rfl (by decide) (w0 := w) (v := .slice A' k c') rfl (n := k) (xs := vs) (hown2.alloc _) (hbel2.alloc hbel2.size _) rfl (m := 1) (reads_one _ _ _ _ (by first | rfl | simp)) (by intro u hu; simp at hu; subst hu; rfl) (by omega) (by simp [maxLen]; omega) ?_; intro A3 c3 w3 hown3 hk3 hm3 hbel3 hg3 ho3)
      go_roundw
      case rel =>
        have hs2 : Subs w2 (wr.heap.size + 1 + 1) (Value.slice A' k c').ownBlock vs ((partsL l).take k) := (hsub.call hb3 (Nat.le_refl _)).more (by omega)
        have hs3 := hs2.snoc hrd hcl hcm2 (fun ad e => by
          injection e with e
          subst e
          refine ⟨fun h => ?_, by simp⟩
          have h9 := (hblt _ h).2
          simp only at h9
          omega)
        rw [← HT.out] at hs3
        have hs4 := (hs3.below ((Below.refl _ _).alloc (by rw [HSZ.out]; exact Nat.le_refl _) (.cells #[Value.slice (some ⟨wr.heap.size + 1, 0, none⟩) (partL r).length cc] 22))).app (by simp [HSZ.out]) hg3 ho3
        exact ⟨k + 1, A3, c3, _, by omega, by go_num, rfl, hown3, hs4.more (by have := hg3.size; simp [HSZ.out] at this; omega), hk3, hm3, hbel3⟩
      case measure => simp [intOf]; omega
    · obtain rfl : k = n := by omega
      go_wp2_with fail
      go_ret
      have e : (partsL l).take k = partsL l := List.take_of_length_le (by rw [HF.out]; exact Nat.le_refl _)
      rw [e] at hsub
      refine ⟨A', c', by rw [HF.out]; rfl, RdL.of_own (by rw [HF.out]; exact hown) hsub (Nat.le_refl _), by rw [HF.out]; exact hkc, hcm, hbel⟩
theorem conv_str_drewN {w : World} {B : Nat} {A : Option Addr} {n c : Nat} {l : List UInt8} (hr : RdB w B A l) (hn : l.length = n) (k : Nat) :
    (convert 22 9 (.slice A n c)).run Try.prog (w.drewN k) = .ok (.string (Str l)) (w.drewN k) := conv_str (hr.drewN k) hn

theorem sameLists_any (A A' : Option Addr) (ls ms : List (List UInt8)) (c c' B B' : Nat) (w : World) (hr : RdL w B A ls) (hr' : RdL w B' A' ms) (hB : B ≤ w.heap.size) (hB' : B' ≤ w.heap.size) (hl : ls.length ≤ 1000000) (hm : ms.length ≤ 1000000) :
    Calls Try.prog 23 #[.slice A ls.length c, .slice A' ms.length c'] w fun e w' => e = .returned (.bool (ls == ms)) ∧ Below w.heap.size w w' := by
  by_cases hlen : ls.length = ms.length
  · have hq : ((ls.length : Int) != (ms.length : Int)) = false := by simp [hlen]
    have HE := Lib.hid hlen
    clear hlen
    go_enter Try.func23, Try.ntmps23
    go_wp2_with fail
    go_loopw [13] (fun i wr => ∃ k : Nat, k ≤ ls.length ∧ i = .int .i64 k ∧ ls.take k = ms.take k ∧ Below w.heap.size w wr) (fun i _ => ls.length - (intOf i).toNat)
    case atStart => exact ⟨0, by omega, rfl, rfl, Below.refl _ _⟩
    case round =>
      obtain ⟨k, hk, rfl, heq, hbel⟩ := hrel
      have HQ := Lib.hid heq
      clear heq
      by_cases hlt : k < ls.length
      · have hlt' : k < ms.length := by have := HE.out; omega
        obtain ⟨b, off, A1, c1, rfl, hb, q0, q1, q2, q3⟩ := (hr.below (hbel.mono hB)).at_ hlt
        obtain ⟨b', off', A2, c2, rfl, hb', p0, p1, p2, p3⟩ := (hr'.below (hbel.mono hB')).at_ hlt'
        have t1 := List.take_succ_eq_append_getElem hlt
        have t2 := List.take_succ_eq_append_getElem hlt'
        have hne : ls[k] ≠ ms[k] → ls ≠ ms := fun h e => h (by subst e; rfl)
        have T1 := Lib.hid t1
        have T2 := Lib.hid t2
        have HNE := Lib.hid hne
        clear t1 t2 hne
        generalize ls[k] = x at *
        generalize ms[k] = y at *
        have s1 := conv_str_drewN (c := c1) q1 rfl
        have s2 := conv_str_drewN (c := c2) p1 rfl
        have e0 : (Str x).toList = x := Str_list x
        have e1 : (Str y).toList = y := Str_list y
        have hk0 : (k : Int) < (ls.length : Int) := by omega
        have hk1 : (k : Int) < (ms.length : Int) := by omega
        by_cases hxy : x = y
        · have hn : (!(x == y)) = false := by simp [hxy]
          have HX := Lib.hid hxy
          clear hxy
          go_wp2_with fail
          go_quiet (fail)
          go_wp2_with fail
          go_roundw
          case rel => exact ⟨k + 1, by omega, by go_num, by rw [T1.out, T2.out, HQ.out, HX.out], below_drewN hbel _⟩
          case measure => simp [intOf]; omega
        · have hn : (!(x == y)) = true := by simp [hxy]
          have hfin : (ls == ms) = false := by simpa using HNE.out hxy
          have HF := Lib.hid hfin
          clear hxy hfin
          go_wp2_with fail
          go_quiet (fail)
          go_wp2_with fail
          go_ret
          exact ⟨ret_bool HF.out.symm, below_drewN hbel _⟩
      · obtain rfl : k = ls.length := by omega
        have hfin : ls = ms := by
          have h := HQ.out
          rw [List.take_length] at h
          rw [h, HE.out, List.take_length]
        go_wp2_with fail
        go_ret
        exact ⟨ret_bool (by simpa using hfin), hbel⟩
  · have hq : ((ls.length : Int) != (ms.length : Int)) = true := by rw [bne_iff_ne]; omega
    have hfin : (ls == ms) = false := by simpa using fun e => hlen (by rw [e])
    have HF := Lib.hid hfin
    clear hfin hlen
    go_enter Try.func23, Try.ntmps23
    go_wp2_with fail
    go_ret
    exact ⟨ret_bool HF.out.symm, Below.refl _ _⟩
end Go.Proofs.Ytgakkghlphnoaaa
