/-
  Lists of texts in memory; append of a text onto bytes. No condition but that lengths fit.
-/
import Derived.Test.YtgakkghlphnoaaaParts
import Derived.Lib.AppendStr
namespace Go.Proofs.Ytgakkghlphnoaaa
set_option linter.unusedSimpArgs false
set_option linter.unusedVariables false
open Go.RowKit

theorem strCells_Str (l : List UInt8) : Lib.strCells (Str l) = l.map B8 := by simp [Lib.strCells, Str, B8]
/-- append(s, text...), s nil or the call's own since world w0. -/
theorem app_str {P : Program} {ops : Array Oper} {rest : List Oper} {o : Oper} {a : Act} {Q : Exit → Act → World → Prop} {w0 w : World} (T U e : TypeId) (s x : Operand) (hgd : o.guard = none)
    (ho : o.op = .call { callee := .builtin .append, args := #[s, x], argTypes := #[T, U] }) (hT : P.underlying T = some (.slice e)) (hU : P.underlying U = some .string)
    (hI : (P.info? e).map (fun i => (i.zero, i.size, i.bytes)) = some (some (.int .u8 0), 1, 1))
    {v : Value} {n : Nat} {xs : List Value} (hs : a.eval s = v) (hown : w.ownsRow w0.heap.size e 1 v n xs) (hbel : Below w0.heap.size w0 w)
    {l : List UInt8} (hx : a.eval x = .string (Str l)) (hbytes : n + l.length ≤ 140737488355328)
    (h : ∀ A' c' w', w'.ownsRow w0.heap.size e 1 (.slice A' (n + l.length) c') (n + l.length) (xs ++ l.map B8) → n + l.length ≤ c' → c' ≤ maxLen → Below w0.heap.size w0 w' → wpList P ops Q rest (a.put o.dst (.slice A' (n + l.length) c')) w') :
    wpList P ops Q (o :: rest) a w := by
  obtain ⟨i0, hi, hz0, hz1, hz2⟩ := info_parts hI
  refine Lib.wpList_append_own_string w hgd s x T U ho w0.heap.size e i0 hT hU hi hz0 hz1 hz2 v n xs hs hown (Str l) hx (by rw [Str_size]; simp only [maxLen]; omega) (by rw [Str_size]; exact hbytes) hbel.size ?_
  intro v' w' h1 h2 _
  rw [Str_size, strCells_Str] at h1
  obtain ⟨A', c', rfl, hc1, hc2⟩ := own_shape h1
  exact h A' c' w' h1 hc1 hc2 (hbel.grown h2 hbel.size (own_lt hown))

/-- Texts as values. -/
def SC (ts : List (List UInt8)) : List Value := ts.map fun t => .string (Str t)
theorem SC_len (ts : List (List UInt8)) : (SC ts).length = ts.length := by simp [SC]
theorem SC_at (ts : List (List UInt8)) (k : Nat) (h : k < ts.length) : (SC ts)[k]? = some (.string (Str ts[k])) := by simp [SC, h]
theorem SC_snoc (ts : List (List UInt8)) (t : List UInt8) : SC (ts ++ [t]) = SC ts ++ [.string (Str t)] := by simp [SC]
/-- The slice '.slice A ts.length c' reads as the texts ts. -/
def RdS (w : World) (B : Nat) (A : Option Addr) (ts : List (List UInt8)) : Prop := Reads w B 1 A ts.length (SC ts)
section
variable {w w' : World} {B B' : Nat} {A : Option Addr} {l : List (List UInt8)}
theorem RdS.more (h : RdS w B A l) (hB : B ≤ B') : RdS w B' A l := Reads.more h hB
theorem RdS.below (h : RdS w B A l) (hb : Below B w w') : RdS w' B A l := Reads.below h hb
theorem RdS.call (h : RdS w B A l) (hb : Below w.heap.size w w') (hB : B ≤ w.heap.size) : RdS w' B A l := Reads.call h hb hB
theorem RdS.at_ (h : RdS w B A l) {k : Nat} (hk : k < l.length) : ∃ b off, A = some ⟨b, off, none⟩ ∧ b < B ∧ w.cell? ⟨b, off + k, none⟩ = some (.string (Str l[k])) := by
  obtain ⟨b, off, u, e, hb, hu, hc⟩ := Reads.at_ h hk
  rw [SC_at l k hk] at hu
  injection hu with hu
  subst hu
  exact ⟨b, off, e, hb, hc⟩
end
theorem info_string : (Try.prog.info? 9).map (fun i => (i.zero, i.size, i.bytes)) = some (some (.string ByteArray.empty), 1, 16) := by kernel_rfl
theorem extract_Str (s : ByteArray) (m : Nat) (hm : m ≤ s.size) : s.extract 0 m = Str (s.toList.take m) := by
  have h : (s.extract 0 m).data = (s.toList.take m).toArray := by
    apply Array.ext'
    rw [Lib.extract_data, ByteArray.toList_eq]
    simp
  unfold Str
  rw [← h]

theorem sameTexts_any (A A' : Option Addr) (ls ms : List (List UInt8)) (c c' B B' : Nat) (w : World) (hr : RdS w B A ls) (hr' : RdS w B' A' ms) (hB : B ≤ w.heap.size) (hB' : B' ≤ w.heap.size) (hl : ls.length ≤ 100000000) (hm : ms.length ≤ 100000000) :
    Calls Try.prog 28 #[.slice A ls.length c, .slice A' ms.length c'] w fun e w' => e = .returned (.bool (ls == ms)) ∧ Below w.heap.size w w' := by
  by_cases hlen : ls.length = ms.length
  · have hq : ((ls.length : Int) != (ms.length : Int)) = false := by simp [hlen]
    have HE := Lib.hid hlen
    clear hlen
    go_enter Try.func28, Try.ntmps28
    go_wp2_with fail
    go_loopw [13] (fun i wr => ∃ k : Nat, k ≤ ls.length ∧ i = .int .i64 k ∧ ls.take k = ms.take k ∧ Below w.heap.size w wr) (fun i _ => ls.length - (intOf i).toNat)
    case atStart => exact ⟨0, by omega, rfl, rfl, Below.refl _ _⟩
    case round =>
      obtain ⟨k, hk, rfl, heq, hbel⟩ := hrel
      have HQ := Lib.hid heq
      clear heq
      by_cases hlt : k < ls.length
      · have hlt' : k < ms.length := by have := HE.out; omega
        obtain ⟨b, off, rfl, hb, q0⟩ := (hr.below (hbel.mono hB)).at_ hlt
        obtain ⟨b', off', rfl, hb', p0⟩ := (hr'.below (hbel.mono hB')).at_ hlt'
        have t1 := List.take_succ_eq_append_getElem hlt
        have t2 := List.take_succ_eq_append_getElem hlt'
        have hne : ls[k] ≠ ms[k] → ls ≠ ms := fun h e => h (by subst e; rfl)
        have T1 := Lib.hid t1
        have T2 := Lib.hid t2
        have HNE := Lib.hid hne
        clear t1 t2 hne
        generalize ls[k] = x at *
        generalize ms[k] = y at *
        have e0 : (Str x).toList = x := Str_list x
        have e1 : (Str y).toList = y := Str_list y
        have hk0 : (k : Int) < (ls.length : Int) := by omega
        have hk1 : (k : Int) < (ms.length : Int) := by omega
        by_cases hxy : x = y
        · have hn : (!(x == y)) = false := by simp [hxy]
          have HX := Lib.hid hxy
          clear hxy
          go_wp2_with fail
          go_quiet (fail)
          go_wp2_with fail
          go_roundw
          case rel => exact ⟨k + 1, by omega, by go_num, by rw [T1.out, T2.out, HQ.out, HX.out], below_drewN hbel _⟩
          case measure => simp [intOf]; omega
        · have hn : (!(x == y)) = true := by simp [hxy]
          have hfin : (ls == ms) = false := by simpa using HNE.out hxy
          have HF := Lib.hid hfin
          clear hxy hfin
          go_wp2_with fail
          go_quiet (fail)
          go_wp2_with fail
          go_ret
          exact ⟨ret_bool HF.out.symm, below_drewN hbel _⟩
      · obtain rfl : k = ls.length := by omega
        have hfin : ls = ms := by
          have h := HQ.out
          rw [List.take_length] at h
          rw [h, HE.out, List.take_length]
        go_wp2_with fail
        go_ret
        exact ⟨ret_bool (by simpa using hfin), hbel⟩
  · have hq : ((ls.length : Int) != (ms.length : Int)) = true := by rw [bne_iff_ne]; omega
    have hfin : (ls == ms) = false := by simpa using fun e => hlen (by rw [e])
    have HF := Lib.hid hfin
    clear hfin hlen
    go_enter Try.func28, Try.ntmps28
    go_wp2_with fail
    go_ret
    exact ⟨ret_bool HF.out.symm, Below.refl _ _⟩

/-- The texts that raw things make. -/
def textT (r : Raw) : List UInt8 := r.text.toList.take (min r.text.size 50)
def textsT (l : List Raw) : List (List UInt8) := (l.take 10).map textT
theorem textT_le (r : Raw) : (textT r).length ≤ 50 := by unfold textT; rw [List.length_take]; omega
theorem textsOf_any (A : Option Addr) (l : List Raw) (c B : Nat) (w : World) (hr : RdR w B A l) (hB : B ≤ w.heap.size) (hl : l.length ≤ c) (hok : ∀ r ∈ l, r.ok) :
    Calls Try.prog 24 #[.slice A l.length c] w fun e w' => ∃ A' c', e = .returned (.slice A' (textsT l).length c') ∧ RdS w' w'.heap.size A' (textsT l) ∧ (textsT l).length ≤ c' ∧ c' ≤ maxLen ∧ Below w.heap.size w w' := by
  go_enter Try.func24, Try.ntmps24
  go_wp2_with fail
  refine (some_any A l.length c 10 _ hl (by omega)).mono ?_; rintro e w' ⟨rfl, rfl⟩
  obtain ⟨n, hn⟩ : ∃ n : Nat, n = min l.length 10 := ⟨_, rfl⟩
  rw [← hn]
  have n1 : n ≤ l.length := by omega
  have n2 : n ≤ 10 := by omega
  have hfull : (textsT l).length = n := by simp [textsT]; omega
  have HF := Lib.hid hfull
  clear hfull hn
  go_wp2_with fail
  go_loopw [3, 9] (fun v i wr => ∃ k A' c', k ≤ n ∧ i = .int .i64 (k : Nat) ∧ v = .slice A' k c' ∧ wr.ownsRow w.heap.size 9 1 (.slice A' k c') k (SC ((textsT l).take k)) ∧ k ≤ c' ∧ c' ≤ maxLen ∧ Below w.heap.size w wr) (fun _ i _ => n - (intOf i).toNat)
  case atStart => exact ⟨0, none, 0, by omega, rfl, rfl, World.ownsRow_nil _ _ _ _, by omega, by simp [maxLen], Below.refl _ _⟩
  case round =>
    obtain ⟨k, A', c', hk, rfl, rfl, hown, hkc, hcm, hbel⟩ := hrel
    by_cases hlt : k < n
    · obtain ⟨b, off, rfl, hb, q0, q1, q2, q3⟩ := (hr.below (hbel.mono hB)).row (k := k) (by omega)
      have hlk : (l[k]).text.size ≤ maxLen := (hok _ (List.getElem_mem _)).text
      have hpl : (textsT l)[k]? = some (textT l[k]) := by
        unfold textsT
        rw [List.getElem?_map, List.getElem?_take_of_lt (by omega), List.getElem?_eq_getElem (by omega)]; rfl
      have htk : (textsT l).take (k + 1) = (textsT l).take k ++ [textT l[k]] := by
        rw [List.take_add_one, hpl]; rfl
      generalize l[k] = r at *
      have hex : r.text.extract 0 (min r.text.size 50) = Str (textT r) := extract_Str _ _ (by omega)
      obtain ⟨m, hm⟩ : ∃ m : Nat, m = min r.text.size 50 := ⟨_, rfl⟩
      rw [← hm] at hex
      have m1 : m ≤ r.text.size := by omega
      have hmin : ∀ w' : World, (Builtin.min_ #[3, 3] 3 #[.int .i64 (r.text.size : Int), .int .i64 50]).run Try.prog w' = .ok (.int .i64 (m : Int)) w' :=
        fun w' => by rw [run_min_int2]; congr 2; split <;> omega
      clear hm
      have HT := Lib.hid htk
      clear htk hpl
      go_wp2_with (at_builtin; refine app_own 45 9 _ 1 16 (.tmp 13) (.tmp 21) rfl rfl Try.underlying45 info_string rfl (by decide) (w0 := w) (v := .slice A' k c') rfl (n := k) (xs := SC ((textsT l).take k)) ((hown.alloc _).alloc _) ((hbel.alloc hbel.size _).alloc (by have := hbel.size; simp; omega) _) rfl (m := 1) (reads_one _ _ _ _ (by first | rfl | simp)) (by intro u hu; simp at hu; subst hu; rfl) (by omega) (by simp [maxLen]; omega) ?_; intro A3 c3 w3 hown3 hk3 hm3 hbel3 hg3 ho3)
      go_roundw
      case rel =>
        exact ⟨k + 1, A3, c3, by omega, by go_num, rfl, by rw [HT.out, SC_snoc]; exact hown3, hk3, hm3, hbel3⟩
      case measure => simp [intOf]; omega
    · obtain rfl : k = n := by omega
      go_wp2_with fail
      go_ret
      have e : (textsT l).take k = textsT l := List.take_of_length_le (by rw [HF.out]; exact Nat.le_refl _)
      rw [e] at hown
      have hrd : RdS wr wr.heap.size A' (textsT l) := by
        have h := Reads.of_own hown
        unfold RdS
        rwa [HF.out]
      exact ⟨A', c', by rw [HF.out]; rfl, hrd, by rw [HF.out]; exact hkc, hcm, hbel⟩
end Go.Proofs.Ytgakkghlphnoaaa
