/-
  What oracle.Parse answers: tag and parts, or what is wrong. The slice is read below new memory.
-/
import Derived.Test.YtgakkghlphnoaaaFrames
import Derived.Laws.BitsAllLaws
namespace Go.Proofs.Ytgakkghlphnoaaa
set_option linter.unusedSimpArgs false
set_option linter.unusedVariables false
open Go.RowKit

theorem slice_tail (A : Option Addr) (n c k : Nat) (hk : k ≤ n) (hn : n ≤ c) (w : World) :
    (Instr.slice 22 (.slice A n c) (some (.int .i64 (k : Int))) none none).run Try.prog w = .ok (.slice (if c = k then A else A.map (·.add k)) (n - k) (c - k)) w := by
  have hu := Try.underlying22
  simp [go_sem]
  intro h
  omega
/-- s[k:] *)-/
theorem tail_rd {w : World} {B : Nat} {A : Option Addr} {l : List UInt8} {c : Nat} (h : RdB w B A l) (k : Nat) (hk : k ≤ l.length) (hc : l.length ≤ c) (hm : c ≤ maxLen) :
    ∃ A' c', (∀ W : World, (Instr.slice 22 (.slice A l.length c) (some (.int .i64 (k : Int))) none none).run Try.prog W = .ok (.slice A' (l.drop k).length c') W) ∧ RdB w B A' (l.drop k) ∧ (l.drop k).length ≤ c' ∧ c' ≤ maxLen :=
  ⟨_, _, fun W => by rw [List.length_drop]; exact slice_tail A l.length c k hk hc W, h.cut hk hc, by rw [List.length_drop]; omega, by omega⟩

/-- The number that four bytes are. -/
def be4 (b : List UInt8) : Nat := (b.getD 0 0).toNat * 16777216 + (b.getD 1 0).toNat * 65536 + (b.getD 2 0).toNat * 256 + (b.getD 3 0).toNat
def stepP (r : List UInt8) : Option (List UInt8 × List UInt8) :=
  if r.length < 4 then none else if (r.drop 4).length < be4 r then none else some ((r.drop 4).take (be4 r), (r.drop 4).drop (be4 r))
def parseP : Nat → List UInt8 → Option (List (List UInt8) × List UInt8)
  | 0, b => some ([], b)
  | n + 1, b => (parseP n b).bind fun x => (stepP x.2).map fun y => (x.1 ++ [y.1], y.2)
theorem parseP_none (b : List UInt8) (k n : Nat) (h : k ≤ n) (e : parseP k b = none) : parseP n b = none := by
  induction n with
  | zero =>
    obtain rfl : k = 0 := by omega
    exact e
  | succ n ih =>
    by_cases hk : k = n + 1
    · subst hk; exact e
    · show (parseP n b).bind _ = none
      rw [ih (by omega)]; rfl
theorem parseP_len (b : List UInt8) (n : Nat) (ps : List (List UInt8)) (r : List UInt8) (h : parseP n b = some (ps, r)) : ps.length = n ∧ (ps.flatMap partF).length + r.length = b.length := by
  induction n generalizing ps r with
  | zero => simp only [parseP, Option.some.injEq, Prod.mk.injEq] at h; obtain ⟨rfl, rfl⟩ := h; simp
  | succ n ih =>
    simp only [parseP] at h
    rcases hp : parseP n b with _ | ⟨qs, q⟩
    · rw [hp] at h; cases h
    · rw [hp] at h
      obtain ⟨h1, h2⟩ := ih qs q hp
      simp only [Option.bind_some, stepP] at h
      by_cases c1 : q.length < 4
      · rw [if_pos c1] at h; cases h
      · rw [if_neg c1] at h
        by_cases c2 : (q.drop 4).length < be4 q
        · rw [if_pos c2] at h; cases h
        · rw [if_neg c2] at h
          simp only [Option.map_some, Option.some.injEq, Prod.mk.injEq] at h
          obtain ⟨rfl, rfl⟩ := h
          rw [List.length_drop] at c2
          have hx : ((q.drop 4).take (be4 q)).length = be4 q := by rw [List.length_take, List.length_drop]; omega
          generalize (q.drop 4).take (be4 q) = x at *
          have hy : ((q.drop 4).drop (be4 q)).length = q.length - 4 - be4 q := by rw [List.length_drop, List.length_drop]
          have hz : ([x].flatMap partF).length = 4 + x.length := by simp [partF, fourL_len]
          refine ⟨by simp; omega, ?_⟩
          rw [hy, List.flatMap_append, List.length_append, hz]
          omega
/-- What a frame is taken apart into. -/
def parseL (b : List UInt8) : Except Int (Int × List (List UInt8)) :=
  if 16777216 < b.length then .error 1 else if b.length < 1 then .error 4 else
  if (b.getD 0 0).toNat < 1 ∨ 9 < (b.getD 0 0).toNat then .error 6 else if b.length < 2 then .error 4 else
  if 8 < (b.getD 1 0).toNat then .error 1 else
  match parseP (b.getD 1 0).toNat (b.drop 2) with
  | none => .error 4
  | some (ps, r) => if 0 < r.length then .error 3 else .ok (((b.getD 0 0).toNat : Int), ps)
def ParsePost (b : List UInt8) (w : World) (e : Ending) (w' : World) : Prop :=
  Below w.heap.size w w' ∧ ((∃ x : Int, parseL b = .error x ∧ x ≠ 0 ∧ e = .returned (.tuple #[.int .i64 0, .slice none 0 0, .int .i64 x])) ∨
    ∃ t ps A' c', parseL b = .ok (t, ps) ∧ e = .returned (.tuple #[.int .i64 t, .slice A' ps.length c', .int .i64 0]) ∧ RdL w' w'.heap.size A' ps ∧ ps.length ≤ c' ∧ c' ≤ maxLen)
theorem or_i64 (x y : Nat) (hx : x < 9223372036854775808) (hy : y < 9223372036854775808) : bits .or .i64 (x : Int) (y : Int) = ((x ||| y : Nat) : Int) := by
  have hz : x ||| y < 2 ^ 63 := Nat.or_lt_two_pow (by omega) (by omega)
  have e : ∀ z : Nat, z < 9223372036854775808 → (BitVec.ofInt 64 (z : Int)).toNat = z := fun z hz => by rw [BitVec.ofInt_natCast, BitVec.toNat_ofNat]; exact Nat.mod_eq_of_lt (by omega)
  show IntKind.i64.wrap ((BitVec.ofInt 64 (x : Int) ||| BitVec.ofInt 64 (y : Int)).toNat : Int) = _
  rw [BitVec.toNat_or, e x hx, e y hy, IntKind.wrap_i64]
  omega
theorem or_two (a b : Nat) (ha : a < 256) (hb : b < 256) : bits .or .i64 ((a : Int) * 256) (b : Int) = ((a * 256 + b : Nat) : Int) := by
  have e3 : (a : Int) * 256 = ((a * 256 : Nat) : Int) := by omega
  rw [e3, or_i64 _ _ (by omega) (by omega), nat_join 8 _ _ (by omega) (by omega)]
theorem or_sum (a b c d : Nat) (ha : a < 256) (hb : b < 256) (hc : c < 256) (hd : d < 256) :
    bits .or .i64 (bits .or .i64 (bits .or .i64 ((a : Int) * 16777216) ((b : Int) * 65536)) ((c : Int) * 256)) (d : Int) = ((a * 16777216 + b * 65536 + c * 256 + d : Nat) : Int) := by
  have e1 : (a : Int) * 16777216 = ((a * 16777216 : Nat) : Int) := by omega
  have e2 : (b : Int) * 65536 = ((b * 65536 : Nat) : Int) := by omega
  have e3 : (c : Int) * 256 = ((c * 256 : Nat) : Int) := by omega
  rw [e1, e2, e3, or_i64 _ _ (by omega) (by omega), nat_join 24 _ _ (by omega) (by omega), or_i64 _ _ (by omega) (by omega), nat_join 16 _ _ (by omega) (by omega), or_i64 _ _ (by omega) (by omega), nat_join 8 _ _ (by omega) (by omega)]


theorem drop_len_le (l : List UInt8) (k : Nat) : (l.drop k).length ≤ l.length := by rw [List.length_drop]; omega
theorem getD_at (l : List UInt8) (k : Nat) (h : k < l.length) : l.getD k 0 = l[k] := by rw [List.getD_eq_getElem?_getD, List.getElem?_eq_getElem h]; rfl

theorem four_bytes {w : World} {B : Nat} {A : Option Addr} {r : List UInt8} (hrd : RdB w B A r) (h4 : 4 ≤ r.length) : ∃ (b off x0 x1 x2 x3 : Nat), A = some ⟨b, off, none⟩ ∧ b < B ∧
    w.cell? ⟨b, off, none⟩ = some (.int .u8 (x0 : Int)) ∧ w.cell? ⟨b, off + 1, none⟩ = some (.int .u8 (x1 : Int)) ∧ w.cell? ⟨b, off + 2, none⟩ = some (.int .u8 (x2 : Int)) ∧ w.cell? ⟨b, off + 3, none⟩ = some (.int .u8 (x3 : Int)) ∧
    x0 < 256 ∧ x1 < 256 ∧ x2 < 256 ∧ x3 < 256 ∧ be4 r = x0 * 16777216 + x1 * 65536 + x2 * 256 + x3 ∧ be4 r ≤ 4294967295 := by
  obtain ⟨b, off, rfl, hb, z0⟩ := hrd.at_ (k := 0) (by omega)
  obtain ⟨b', off', e1, _, z1⟩ := hrd.at_ (k := 1) (by omega)
  injection e1 with e1; injection e1 with e1 e2; subst e1 e2
  obtain ⟨b', off', e1, _, z2⟩ := hrd.at_ (k := 2) (by omega)
  injection e1 with e1; injection e1 with e1 e2; subst e1 e2
  obtain ⟨b', off', e1, _, z3⟩ := hrd.at_ (k := 3) (by omega)
  injection e1 with e1; injection e1 with e1 e2; subst e1 e2
  refine ⟨b, off, (r[0]).toNat, (r[1]).toNat, (r[2]).toNat, (r[3]).toNat, rfl, hb, z0, z1, z2, z3, (r[0]).toNat_lt, (r[1]).toNat_lt, (r[2]).toNat_lt, (r[3]).toNat_lt, ?_⟩
  have y0 : (r[0]).toNat < 256 := (r[0]).toNat_lt
  have y1 : (r[1]).toNat < 256 := (r[1]).toNat_lt
  have y2 : (r[2]).toNat < 256 := (r[2]).toNat_lt
  have y3 : (r[3]).toNat < 256 := (r[3]).toNat_lt
  unfold be4
  rw [getD_at r 0 (by omega), getD_at r 1 (by omega), getD_at r 2 (by omega), getD_at r 3 (by omega)]
  exact ⟨rfl, by omega⟩

set_option maxHeartbeats 4000000 in
theorem parse_any (A : Option Addr) (b : List UInt8) (c B : Nat) (w : World) (hr : RdB w B A b) (hB : B ≤ w.heap.size) (hl : b.length ≤ c) (hc : c ≤ maxLen) (hbig : b.length ≤ 140737488355328) :
    Calls Try.prog 32 #[.slice A b.length c] w (ParsePost b w) := by
  have hpar : parseL b = parseL b := rfl
  conv at hpar => rhs; unfold parseL
  by_cases c1 : 16777216 < b.length
  · rw [if_pos c1] at hpar
    have HP := Lib.hid hpar
    clear hpar
    go_enter Try.func32, Try.ntmps32
    go_wp2_with fail
    go_ret3
    exact ⟨Below.refl _ _, .inl ⟨1, HP.out, by decide, rfl⟩⟩
  rw [if_neg c1] at hpar
  by_cases c2 : b.length < 1
  · rw [if_pos c2] at hpar
    have HP := Lib.hid hpar
    clear hpar
    go_enter Try.func32, Try.ntmps32
    go_wp2_with fail
    go_ret3
    exact ⟨Below.refl _ _, .inl ⟨4, HP.out, by decide, rfl⟩⟩
  rw [if_neg c2] at hpar
  obtain ⟨g, off, rfl, hg, q0⟩ := hr.at_ (k := 0) (by omega)
  rw [getD_at b 0 (by omega)] at hpar
  rw [Nat.add_zero] at q0
  have hx0 : (b[0]).toNat < 256 := (b[0]).toNat_lt
  by_cases c3 : (b[0]).toNat < 1 ∨ 9 < (b[0]).toNat
  · rw [if_pos c3] at hpar
    have HP := Lib.hid hpar
    clear hpar
    generalize b[0] = x0 at *
    rcases c3 with c3 | c3
    · go_enter Try.func32, Try.ntmps32
      go_wp2_with fail
      go_ret3
      exact ⟨Below.refl _ _, .inl ⟨6, HP.out, by decide, rfl⟩⟩
    · go_enter Try.func32, Try.ntmps32
      go_wp2_with fail
      go_ret3
      exact ⟨Below.refl _ _, .inl ⟨6, HP.out, by decide, rfl⟩⟩
  rw [if_neg c3] at hpar
  have c3a : 1 ≤ (b[0]).toNat := by omega
  have c3b : (b[0]).toNat ≤ 9 := by omega
  clear c3
  by_cases c4 : b.length < 2
  · rw [if_pos c4] at hpar
    have HP := Lib.hid hpar
    clear hpar
    generalize b[0] = x0 at *
    go_enter Try.func32, Try.ntmps32
    go_wp2_with fail
    go_ret3
    exact ⟨Below.refl _ _, .inl ⟨4, HP.out, by decide, rfl⟩⟩
  rw [if_neg c4, getD_at b 1 (by omega)] at hpar
  obtain ⟨g', off', e1, hg', q1⟩ := hr.at_ (k := 1) (by omega)
  injection e1 with e1
  injection e1 with e1 e2
  subst e1 e2
  have hx1 : (b[1]).toNat < 256 := (b[1]).toNat_lt
  by_cases c5 : 8 < (b[1]).toNat
  · rw [if_pos c5] at hpar
    have HP := Lib.hid hpar
    clear hpar
    generalize b[0] = x0 at *
    generalize b[1] = x1 at *
    go_enter Try.func32, Try.ntmps32
    go_wp2_with fail
    go_ret3
    exact ⟨Below.refl _ _, .inl ⟨1, HP.out, by decide, rfl⟩⟩
  rw [if_neg c5] at hpar
  obtain ⟨A2, c2', hsl2, r2, l2, m2⟩ := tail_rd hr 2 (by omega) hl hc
  have hpl := parseP_len (b.drop 2)
  have hbl := drop_len_le b 2
  generalize hd2 : b.drop 2 = b2 at *
  generalize b[0] = x0 at *
  generalize b[1] = x1 at *
  have HP := Lib.hid hpar
  have HPL := Lib.hid hpl
  clear hpar hpl hd2
  obtain ⟨n, hn⟩ : ∃ n : Nat, n = x1.toNat := ⟨_, rfl⟩
  rw [← hn] at HP q1 c5
  clear hx1 hn
  have hsl2' : ∀ W : World, (Instr.slice 22 (.slice (some ⟨g, off, none⟩) b.length c) (some (.int .i64 2)) none none).run Try.prog W = .ok (.slice A2 b2.length c2') W := hsl2
  clear hsl2
  go_enter Try.func32, Try.ntmps32
  go_wp2_with fail
  go_loopw [0, 7, 37] (fun s v i wr => ∃ k ps r A' c' A3 c3 vs, k ≤ n ∧ i = .int .i64 (k : Nat) ∧ s = .slice A' (r : List UInt8).length c' ∧ v = .slice A3 ps.length c3 ∧ parseP k b2 = some (ps, r) ∧ RdB w B A' r ∧ r.length ≤ c' ∧ c' ≤ maxLen ∧
    wr.ownsRow w.heap.size 22 1 (.slice A3 ps.length c3) ps.length vs ∧ Subs wr wr.heap.size (Value.slice A3 ps.length c3).ownBlock vs ps ∧ ps.length ≤ c3 ∧ c3 ≤ maxLen ∧ Below w.heap.size w wr) (fun _ _ i _ => n - (intOf i).toNat)
  case atStart => exact ⟨0, [], b2, A2, c2', none, 0, [], by omega, rfl, rfl, rfl, rfl, r2, l2, m2, World.ownsRow_nil _ _ _ _, Subs.nil, by simp, by simp [maxLen], Below.refl _ _⟩
  case round =>
    clear q0 q1 hsl2' r2 l2 m2
    obtain ⟨k, ps, r, A', c', A3, c3, vs, hk, rfl, rfl, rfl, hpp, hrd, hrc, hcm, hown, hsub, hpc, hpm, hbel⟩ := hrel
    have hlen := HPL.out k ps r hpp
    have hrl : r.length ≤ b.length := by omega
    have hpl : ps.length = k := hlen.1
    have HPP := Lib.hid hpp
    have HLN := Lib.hid hlen
    have HPK := Lib.hid hpl
    clear hpp hlen hpl
    by_cases hlt : k < n
    · by_cases d1 : r.length < 4
      · have hnone : parseP (k + 1) b2 = none := by
          show (parseP k b2).bind _ = none
          rw [HPP.out]
          simp [stepP, d1]
        have hfin : parseL b = .error 4 := by rw [HP.out, parseP_none b2 (k + 1) n (by omega) hnone]
        have HF := Lib.hid hfin
        clear hnone hfin
        go_wp2_with fail
        go_ret3
        exact ⟨hbel, .inl ⟨4, HF.out, by decide, rfl⟩⟩
      · obtain ⟨bb, oo, x0', x1', x2', x3', rfl, hb, z0, z1, z2, z3, y0, y1, y2, y3, hbe, hb4⟩ := four_bytes (hrd.below (hbel.mono hB)) (by omega)
        obtain ⟨A4, c4, hsl4', r4, l4, m4⟩ := tail_rd hrd 4 (by omega) hrc hcm
        have hsl4 : ∀ W : World, (Instr.slice 22 (.slice (some ⟨bb, oo, none⟩) r.length c') (some (.int .i64 4)) none none).run Try.prog W = .ok (.slice A4 (r.drop 4).length c4) W := hsl4'
        clear hsl4'
        have hos := or_sum _ _ _ _ y0 y1 y2 y3
        rw [← hbe] at hos
        have HBE := Lib.hid hbe
        clear hbe
        have i0 : (0 : Int) < (r.length : Int) := by omega
        have i1 : (1 : Int) < (r.length : Int) := by omega
        have i2 : (2 : Int) < (r.length : Int) := by omega
        have i3 : (3 : Int) < (r.length : Int) := by omega
        go_wp2_with fail
        go_quiet (fail)
        have hdl := drop_len_le r 4
        generalize hr4 : r.drop 4 = r' at *
        generalize hq : be4 r = q at *
        have HR4 := Lib.hid hr4
        have HQ := Lib.hid hq
        clear hr4 hq hos
        by_cases d2 : r'.length < q
        · have hnone : parseP (k + 1) b2 = none := by
            show (parseP k b2).bind _ = none
            have e : stepP r = none := by unfold stepP; rw [if_neg d1, HR4.out, HQ.out, if_pos d2]
            rw [HPP.out, Option.bind_some, e]; rfl
          have hfin : parseL b = .error 4 := by rw [HP.out, parseP_none b2 (k + 1) n (by omega) hnone]
          have HF := Lib.hid hfin
          clear hnone hfin
          go_wp2_with fail
          go_ret3
          exact ⟨below_drewN hbel _, .inl ⟨4, HF.out, by decide, rfl⟩⟩
        · have hsome : parseP (k + 1) b2 = some (ps ++ [r'.take q], r'.drop q) := by
            show (parseP k b2).bind _ = _
            have e : stepP r = some (r'.take q, r'.drop q) := by unfold stepP; rw [if_neg d1, HR4.out, HQ.out, if_neg d2]
            rw [HPP.out, Option.bind_some, e]; rfl
          have HSM := Lib.hid hsome
          obtain ⟨A6, c6, hsl6, r6, l6, m6⟩ := tail_rd r4 q (by omega) l4 m4
          have rt := r4.take (k := q) (by omega)
          have hqn : (r'.take q).length = q := by rw [List.length_take]; omega
          have hqc : q ≤ c4 := by omega
          unfold RdB at rt
          rw [hqn] at rt
          generalize hP : r'.take q = P at *
          generalize hR : r'.drop q = R at *
          have HPQ := Lib.hid hqn
          clear hsome hqn hP hR
          have hown2 := hown
          have hblt := hown.lt
          have hpk : ps.length ≤ 8 := by have := HPK.out; omega
          go_wp2_with (first
            | (at_builtin; refine app_own 22 5 _ 1 1 (.tmp 71) (.tmp 74) rfl rfl Try.underlying22 info_u8 rfl (by decide) (w0 := wr) (v := .slice (some ⟨wr.heap.size, 0, none⟩) 0 0) rfl (n := 0) (xs := []) (own_none _ _ _ _ _ (by simp) (by simp)) (by first | exact ((below_drewN (Below.refl _ _) _).alloc (Nat.le_refl _) _) | exact below_drewN ((Below.refl _ _).alloc (Nat.le_refl _) _) _) rfl (m := q) (B := B) (news := P.map B8) (by first | exact rt.below (((below_drewN hbel _).alloc hbel.size _).mono hB) | exact rt.below ((below_drewN (hbel.alloc hbel.size _) _).mono hB)) (one_B8 P) (by omega) (by simp [maxLen]; omega) ?_; intro A7 c7 w7 hown7 hk7 hm7 hbel7 hg7 ho7)
            | (at_builtin; refine app_own 39 22 _ 1 24 (.tmp 70) (.tmp 76) rfl rfl Try.underlying39 info_bytes rfl (by decide) (w0 := w) (v := .slice A3 ps.length c3) rfl (n := ps.length) (xs := vs) ((own_call hown hbel7).alloc _) ((hbel.trans (hbel7.mono hbel.size)).alloc (Nat.le_trans hbel.size hbel7.size) _) rfl (m := 1) (reads_one _ _ _ _ rfl) (by intro u hu; simp at hu; subst hu; rfl) (by omega) (by simp [maxLen]; omega) ?_; intro A8 c8 w8 hown8 hk8 hm8 hbel8 hg8 ho8))
          go_roundw
          case rel =>
            rw [Nat.zero_add, List.nil_append] at hown7
            have r7 : RdB w7 w7.heap.size A7 P := by
              have h := Reads.of_own hown7
              unfold RdB
              rwa [HPQ.out]
            have hne : ∀ ad, A7 = some ad → (Value.slice A3 ps.length c3).ownBlock ≠ some ad.block ∧ ad.block < w7.heap.size := by
              rintro ad rfl
              have h1 := hown7.lt ad.block rfl
              exact ⟨fun h => by have := (hblt _ h).2; omega, h1.2⟩
            have hs2 := (hsub.call hbel7 (Nat.le_refl _)).more hbel7.size
            have hs3 := hs2.snoc r7 (c := c7) (by rw [HPQ.out]; omega) hm7 hne
            rw [HPQ.out] at hs3
            have hs4 := (hs3.below ((Below.refl _ _).alloc (Nat.le_refl _) (.cells #[Value.slice A7 q c7] 22))).app (by simp) hg8 ho8
            have hpl2 : (ps ++ [P]).length = ps.length + 1 := by simp
            exact ⟨k + 1, ps ++ [P], R, A6, c6, A8, c8, _, by omega, by go_num, rfl, by rw [hpl2], HSM.out, r6, l6, m6, by rw [hpl2]; exact hown8, by rw [hpl2]; exact hs4.more (by have := hg8.size; simp at this; omega), by rw [hpl2]; exact hk8, hm8, hbel8⟩
          case measure => simp [intOf]; omega
    · obtain rfl : k = n := by omega
      by_cases d3 : 0 < r.length
      · have hfin : parseL b = .error 3 := by rw [HP.out, HPP.out]; simp [d3]
        have HF := Lib.hid hfin
        clear hfin
        go_wp2_with fail
        go_ret3
        exact ⟨hbel, .inl ⟨3, HF.out, by decide, rfl⟩⟩
      · have hfin : parseL b = .ok ((x0.toNat : Int), ps) := by rw [HP.out, HPP.out]; simp [d3]
        have HF := Lib.hid hfin
        clear hfin
        go_wp2_with fail
        go_ret3
        exact ⟨hbel, .inr ⟨_, ps, A3, c3, HF.out, rfl, RdL.of_own hown hsub (Nat.le_refl _), hpc, hpm⟩⟩
end Go.Proofs.Ytgakkghlphnoaaa
