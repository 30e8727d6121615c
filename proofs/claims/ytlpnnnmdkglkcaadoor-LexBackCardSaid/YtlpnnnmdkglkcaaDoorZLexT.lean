/-
  The scanner of package lex: number, hex, sign. No condition but the sizes.
-/
import Derived.Test.YtlpnnnmdkglkcaaDoorZLexS
set_option linter.unusedSimpArgs false
set_option linter.unusedVariables false
namespace Go.Proofs.YtlpnnnmdkglkcaaDoor
open Go.RowKit

section
variable {P : Program} {dst : Option Nat} {ty : TypeId} {e : Operand → A} {β : Bx} {T T' : TypeId} {x y : Operand} {m n : Int} {b : Bool} {k : IntKind}
theorem qBQ {m n z : Int} (hz : k.wrap (m - n) = z) (hx : e x = .d (.sc (.int k m))) (hy : e y = .d (.sc (.int k n))) : Does P dst (.binOp .sub T x y T') ty e β (.d (.sc (.int k z))) [] [] := by
  subst hz; exact qED hx hy
theorem qEg {m n z : Int} (hz : k.wrap (m + n) = z) (hx : e x = .d (.sc (.int k m))) (hy : e y = .d (.sc (.int k n))) : Does P dst (.binOp .add T x y T') ty e β (.d (.sc (.int k z))) [] [] := by
  subst hz; exact does_wadd hx hy
theorem qCP {S T : TypeId} {s t : TyI} {k k' : IntKind} {n z : Int} (hz : k'.wrap n = z) (hs : mkTy P S = some s) (ht : mkTy P T = some t) (hk : t.kind = .int k') (hx : e x = .d (.sc (.int k n))) : Does P dst (.convert S T x) ty e β (.d (.sc (.int k' z))) [] [] := by
  subst hz; exact qBS hs ht hk hx
theorem qAR {m n : Int} (hd : decide (m ≥ n) = b) (hx : e x = .d (.sc (.int k m))) (hy : e y = .d (.sc (.int k n))) : Does P dst (.binOp .geq T x y T') ty e β (.d (bD b)) [] [] := by
  subst hd; exact qCZ hx hy
theorem qB3 {m n : Int} (hd : decide (m ≤ n) = b) (hx : e x = .d (.sc (.int k m))) (hy : e y = .d (.sc (.int k n))) : Does P dst (.binOp .leq T x y T') ty e β (.d (bD b)) [] [] := by
  subst hd; exact qC9 hx hy
theorem qA4 {m n : Int} (hd : decide (m < n) = b) (hx : e x = .d (.sc (.int k m))) (hy : e y = .d (.sc (.int k n))) : Does P dst (.binOp .lss T x y T') ty e β (.d (bD b)) [] [] := by
  subst hd; exact qBm hx hy
theorem qBj {x y : Operand} {m n z : Int} (hz : m - n = z) (h : -9223372036854775808 ≤ z) (h2 : z ≤ 9223372036854775807) (hx : e x = .d (iD m)) (hy : e y = .d (iD n)) : Does P dst (.binOp .sub T x y T') ty e β (.d (iD z)) [] [] := by
  subst hz; exact does_sub hx hy h h2
theorem qEz {x y : Operand} {m n z : Int} (hz : m * n = z) (h : -9223372036854775808 ≤ z) (h2 : z ≤ 9223372036854775807) (hx : e x = .d (iD m)) (hy : e y = .d (iD n)) : Does P dst (.binOp .mul T x y T') ty e β (.d (iD z)) [] [] := by
  subst hz; exact does_mul hx hy h h2
theorem qAW {x y : Operand} {m n z : Int} (hz : m + n = z) (h : -9223372036854775808 ≤ z) (h2 : z ≤ 9223372036854775807) (hx : e x = .d (iD m)) (hy : e y = .d (iD n)) : Does P dst (.binOp .add T x y T') ty e β (.d (iD z)) [] [] := by
  subst hz; exact qA1 hx hy h h2
theorem qDa {x y : Operand} {m n z : Nat} (hz : m / n = z) (h : 0 < n) (h2 : m ≤ 9223372036854775807) (hx : e x = .d (iD m)) (hy : e y = .d (iD n)) : Does P dst (.binOp .quo T x y T') ty e β (.d (iD z)) [] [] := by
  subst hz; exact does_quo hx hy h h2
theorem does_shl4 {n : Nat} {k' : IntKind} {z : Int} (hn : n < 1152921504606846976) (hz : z = 4) (hx : e x = .d (qD n)) (hy : e y = .d (.sc (.int k' z))) : Does P dst (.binOp .shl T x y T') ty e β (.d (qD (n * 16))) [] [] := by
  subst hz
  have h := does_shl (P := P) (dst := dst) (ty := ty) (β := β) (T := T) (T' := T') hx hy (by decide)
  have e1 : min (Int.toNat (4 : Int)) IntKind.u64.bits = 4 := rfl
  have e2 : (n : Int) * 2 ^ 4 = ((n * 16 : Nat) : Int) := by omega
  have e3 : IntKind.u64.wrap ((n * 16 : Nat) : Int) = ((n * 16 : Nat) : Int) := by rw [IntKind.wrap_u64]; omega
  rwa [e1, e2, e3] at h
theorem does_or4 {n d : Nat} (hn : n < 1152921504606846976) (hd : d < 16) (hx : e x = .d (qD (n * 16))) (hy : e y = .d (qD d)) : Does P dst (.binOp .or T x y T') ty e β (.d (qD (n * 16 + d))) [] [] := by
  have h := does_bor (P := P) (dst := dst) (ty := ty) (β := β) (T := T) (T' := T') hx hy
  have e1 : n * 16 ||| d = n * 16 + d := by
    have := Nat.shiftLeft_add_eq_or_of_lt (i := 4) (b := d) (by omega) n
    rw [Nat.shiftLeft_eq] at this
    exact this.symm
  have e0 : ∀ z : Nat, z < 18446744073709551616 → (BitVec.ofInt 64 (z : Int)).toNat = z := fun z hz => by rw [BitVec.ofInt_natCast, BitVec.toNat_ofNat]; exact Nat.mod_eq_of_lt (by omega)
  have e2 : bitV .or .u64 ((n * 16 : Nat) : Int) (d : Nat) = ((n * 16 + d : Nat) : Int) := by
    show IntKind.u64.wrap ((BitVec.ofInt 64 ((n * 16 : Nat) : Int) ||| BitVec.ofInt 64 ((d : Nat) : Int)).toNat : Int) = _
    rw [BitVec.toNat_or, e0 _ (by omega), e0 _ (by omega), e1, IntKind.wrap_u64]
    omega
  rwa [e2] at h
end
def lrD : LR → D
  | .ok t _ => .tu [.ag t.cs, iD 0]
  | .err e => .tu [.ag noT, iD e]
theorem dec_at {U : List UInt8} (hU : ∀ d ∈ U, qBd d = true) {pos : Nat} {c : UInt8} (hb : U[pos]? = some c) : Utf8.decode (byS U) pos = (c.toNat, 1) := by
  have hlt : pos < U.length := (List.getElem?_eq_some_iff.1 hb).1
  have hc : c.toNat < 128 := by
    have := hU c (List.mem_of_getElem? hb)
    unfold qBd at this
    simp only [Bool.and_eq_true, decide_eq_true_eq] at this
    omega
  rw [← Lib.decodeL_drop]
  have : (byS U).data.toList.drop pos = c :: U.drop (pos + 1) := by
    rw [List.toList_toArray, List.drop_eq_getElem_cons hlt]
    congr 1
    rw [List.getElem?_eq_getElem hlt] at hb
    exact Option.some.inj hb
  rw [this, Lib.decodeL_ascii _ _ hc]
set_option maxHeartbeats 4000000 in
theorem number_px (s : ByteArray) (hs : s.size ≤ 1000000) (i : Nat) (hi : i ≤ s.size) (r : LR) (h : numT (qAN s i) = r) :
    PX Tryd.prog 55 [.px 1000 0] (scB s i) [] (lrD r) (scB s (i + runN qBd (qAN s i))) [] := by
  have p1 := run_px 54 qBd qD1 s hs i hi
  have hall := qEq qBd (qAN s i)
  have hhd : ((qAN s i).take (runN qBd (qAN s i)))[0]? = (if 0 < runN qBd (qAN s i) then (qAN s i).head? else none) := by
    rw [List.getElem?_take]
    split
    · rw [List.head?_eq_getElem?]
    · rfl
  have hln : ((qAN s i).take (runN qBd (qAN s i))).length = runN qBd (qAN s i) := by rw [List.length_take, Nat.min_eq_left (qC8 _ _)]
  have hrl := qC8 qBd (qAN s i)
  rw [qCy] at hrl
  unfold numT at h
  generalize (qAN s i).take (runN qBd (qAN s i)) = U at *
  generalize (qAN s i).head? = hd0 at *
  generalize runN qBd (qAN s i) = n at *
  have hsz : (byS U).size = n := by rw [qDK]; exact hln
  by_cases hbad : 1 < n ∧ hd0 = some 48
  · rw [if_pos hbad] at h
    subst h
    have hg1 : decide (((byS U).size : Int) > 1) = true := decide_eq_true (by omega)
    have hb : (byS U).data[0]? = some 48 := by
      rw [if_pos (by omega), hbad.2] at hhd
      rw [← Array.getElem?_toList]; exact hhd
    show PX _ _ _ _ _ (.tu [.ag noT, iD 3]) _ _
    refine qBk Tryd.func55 rfl (by kernel_rfl) mixed (by kernel_rfl) (qle (by kernel_rfl)) Tryd.results55 rfl ?_
    repeat (first | ((first | (with_reducible apply rpGT) | (with_reducible apply drGT) | (with_reducible apply qAP) | (with_reducible apply qAO)); eq_refl; exact qAo rfl; (first | eq_refl | assumption | decide); (focus repeat' (first | exact trivial | apply And.intro)); (first | ((refine qAG [] [] (ups := [(1000, .var 73 [.d (strD s), .d (iD (i + n : Nat))])]) rfl (p1) rfl (kpX rfl) rfl (insX rfl) (insQ rfl) rfl rfl rfl rfl rfl (insX rfl) rfl rfl); (first | exact qAh _ | exact qAp _ _ | exact qAr _ _ _ | exact qAq _ _ _ _)) | ((first | (exact qAZ hg1 rfl rfl) | ((with_reducible first | apply qAc | apply qAa); (conv => lhs; whnf)) | ((with_reducible first | apply qAz | apply qAA | apply qAg | apply qA9 | apply qAu | apply qAf) <;> first | ((with_reducible apply tyOk); eq_refl) | eq_refl | exact trivial) | ((with_reducible apply qAj); exact tyOk rfl; (iterate 4 eq_refl); assumption)); (first | exact qAh _ | exact qAp _ _ | exact qAr _ _ _ | exact qAq _ _ _ _)))) | (with_reducible first | apply qAl | apply qAm | apply qAn | apply qAk | apply qAF | apply qBs | apply qBD) | ((with_reducible apply rp); first | (exact qAZ hg1 rfl rfl) | ((with_reducible apply qAc); (conv => lhs; whnf)) | ((with_reducible apply qAa); (conv => lhs; whnf)) | ((with_reducible apply qAz); (iterate 3 eq_refl); exact trivial) | ((with_reducible apply qAA); eq_refl; eq_refl) | ((with_reducible apply qAg); exact tyOk rfl; eq_refl; eq_refl) | ((with_reducible apply qA9); exact tyOk rfl; eq_refl; eq_refl) | ((with_reducible apply qAj); exact tyOk rfl; (iterate 4 eq_refl); assumption)) | ((with_reducible apply rp1); ((with_reducible apply qAu); exact tyOk rfl; eq_refl)) | ((with_reducible apply rpN); ((with_reducible apply qAf); exact tyOk rfl; (iterate 5 eq_refl))) | ((with_reducible apply rpL); (refine qAG [] [] (ups := [(1000, .var 73 [.d (strD s), .d (iD (i + n : Nat))])]) rfl (p1) rfl (kpX rfl) rfl (insX rfl) (insQ rfl) rfl rfl rfl rfl rfl (insX rfl) rfl rfl); exact qAh _) | ((with_reducible apply qBr); eq_refl; eq_refl))
    (with_reducible apply qBa (l := [])); (focus (repeat' (first | (with_reducible apply qAE) | (with_reducible apply qAx) | ((with_reducible apply qAI); eq_refl) | ((with_reducible apply qBh); eq_refl; eq_refl; exact tyOk rfl; eq_refl; eq_refl)))); eq_refl; exact SubD.refl _; refine ⟨(by repeat' (first | exact qA0 | (refine qAH rfl (by exact SubA.refl _) ?_))), (by repeat' (first | exact trivial | eq_refl | apply And.intro)), rfl, insS rfl, (by repeat' (first | exact trivial | exact qBc rfl | apply And.intro))⟩
  · rw [if_neg hbad] at h
    have hcase : (decide (((byS U).size : Int) > 1) = false) ∨ (decide (((byS U).size : Int) > 1) = true ∧ ∃ c : UInt8, (byS U).data[0]? = some c ∧ ((c.toNat : Int) == ((48 : Nat) : Int)) = false) := by
      rcases Nat.lt_or_ge 1 n with h1 | h1
      · right
        refine ⟨decide_eq_true (by omega), ?_⟩
        obtain ⟨c, hc⟩ : ∃ c, U[0]? = some c := ⟨_, List.getElem?_eq_getElem (by omega)⟩
        refine ⟨c, by rw [← Array.getElem?_toList]; exact hc, u8_ne (by decide) fun e => hbad ⟨h1, ?_⟩⟩
        rw [if_pos (by omega)] at hhd
        rw [← hhd, hc, e]
        rfl
      · exact .inl (decide_eq_false (by omega))
    clear hbad hhd
    rcases hcase with hg1 | ⟨hg1, c0, hb0, h48⟩
    all_goals
      refine qBk Tryd.func55 rfl (by kernel_rfl) mixed (by kernel_rfl) (qle (by kernel_rfl)) Tryd.results55 rfl ?_
      repeat (first | ((first | (with_reducible apply rpGT) | (with_reducible apply drGT) | (with_reducible apply qAP) | (with_reducible apply qAO)); eq_refl; exact qAo rfl; (first | eq_refl | assumption | decide); (focus repeat' (first | exact trivial | exact id | apply And.intro)); (first | ((refine qAG [] [] (ups := [(1000, .var 73 [.d (strD s), .d (iD (i + n : Nat))])]) rfl (p1) rfl (kpX rfl) rfl (insX rfl) (insQ rfl) rfl rfl rfl rfl rfl (insX rfl) rfl rfl); (first | exact qAh _ | exact qAp _ _ | exact qAr _ _ _ | exact qAq _ _ _ _)) | ((first | (exact qAZ hg1 rfl rfl) | (exact qAK h48 rfl rfl) | (exact qC2 (tyOk rfl) rfl rfl rfl) | ((with_reducible first | apply qAc | apply qAa); (conv => lhs; whnf)) | ((with_reducible first | apply qAz | apply qAg | apply qAu) <;> first | ((with_reducible apply tyOk); eq_refl) | eq_refl | exact trivial) | ((with_reducible apply qB6); eq_refl; (first | assumption | decide); (conv => lhs; whnf)) | ((with_reducible apply qAj); exact tyOk rfl; (iterate 4 eq_refl); assumption)); (first | exact qAh _ | exact qAp _ _ | exact qAr _ _ _ | exact qAq _ _ _ _)))) | (with_reducible first | apply qAl | apply qAm | apply qAn | apply qAk | apply qAs | apply qAC) | ((first | (with_reducible apply rp) | ((with_reducible apply rpG); eq_refl; exact qAo rfl; (focus repeat' (first | exact trivial | exact id | apply And.intro)); intro zg; have zh := zg; (try simp only [zs1, zs2, zs3, zs4] at zg))); first | (exact qAZ hg1 rfl rfl) | (exact qAK h48 rfl rfl) | ((with_reducible first | apply qAc | apply qAa); (conv => lhs; whnf)) | ((with_reducible first | apply qAz | apply qAg) <;> first | ((with_reducible apply tyOk); eq_refl) | eq_refl | exact trivial) | ((with_reducible apply qB6); eq_refl; (first | assumption | decide); (conv => lhs; whnf)) | ((with_reducible apply qAj); exact tyOk rfl; (iterate 4 eq_refl); assumption)) | ((with_reducible apply rp1); first | (exact qC2 (tyOk rfl) rfl rfl rfl) | ((with_reducible apply qAu); exact tyOk rfl; eq_refl)) | ((with_reducible apply rpL); (refine qAG [] [] (ups := [(1000, .var 73 [.d (strD s), .d (iD (i + n : Nat))])]) rfl (p1) rfl (kpX rfl) rfl (insX rfl) (insQ rfl) rfl rfl rfl rfl rfl (insX rfl) rfl rfl); exact qAh _) | ((with_reducible apply qBl); eq_refl; eq_refl) | ((first | (with_reducible apply rpGF) | (with_reducible apply drGF)); eq_refl; exact qAo rfl; (first | assumption | decide | eq_refl); (focus repeat' (first | exact trivial | exact id | apply And.intro))))
      refine qB5 (fun k st => ∃ pos m, pos ≤ n ∧ m < 9223372036854775808 ∧ numF (U.drop pos) m = numF U 0 ∧ k = n + 1 - pos ∧ st = ⟨[(0, .px 1000 0), (2, .px 2 0), (5, .d (iD (m : Nat))), (21, .px 21 0)], [(1000, .var 73 [.d (strD s), .d (iD (i + n : Nat))]), (2, .var 32 (noT.map .d)), (21, .itr (byS U) pos)]⟩) _ _ ?_ ⟨0, 0, Nat.zero_le _, by decide, rfl, rfl, rfl⟩ ?_
      · refine qAT [] (by repeat' (first | exact qA0 | (refine qAH rfl (by exact SubA.refl _) ?_))) (by repeat' (first | exact trivial | eq_refl | apply And.intro)) rfl (insS rfl) (by repeat' (first | exact trivial | exact qBu _ | exact qBc rfl | apply And.intro))
      · rintro k st ⟨pos, m, hp, hm, he, rfl, rfl⟩
        rcases Nat.lt_or_ge pos n with hlt | hge
        · obtain ⟨c, hc⟩ : ∃ c, U[pos]? = some c := ⟨_, List.getElem?_eq_getElem (by omega)⟩
          have hdg := hall c (List.mem_of_getElem? hc)
          have hdg : 48 ≤ c.toNat ∧ c.toNat ≤ 57 := by unfold qBd at hdg; simpa using hdg
          have hdec := dec_at hall hc
          have hnx := fun (P : Program) (dst : Option Nat) (ty : TypeId) (x : Operand) (e : Operand → A) (β : Bx) id (hx : e x = .px id 0) (hl : look id β = some (.itr (byS U) pos)) => qE5 (P := P) (dst := dst) (ty := ty) hx hl (show pos < (byS U).size by omega)
          simp only [hdec] at hnx
          have hdr : U.drop pos = c :: U.drop (pos + 1) := by
            rw [List.drop_eq_getElem_cons (by omega)]
            congr 1
            rw [List.getElem?_eq_getElem (by omega)] at hc
            exact Option.some.inj hc
          rw [hdr] at he
          have he : (if (9223372036854775807 - (c.toNat - 48)) / 10 < m then none else numF (U.drop (pos + 1)) (10 * m + (c.toNat - 48))) = numF U 0 := he
          have e1 : IntKind.i32.wrap ((c.toNat : Int) - 48) = ((c.toNat - 48 : Nat) : Int) := by rw [IntKind.wrap_i32]; omega
          generalize c.toNat = cn at *
          by_cases hov : (9223372036854775807 - (cn - 48)) / 10 < m
          · rw [if_pos hov] at he
            rw [← he] at h
            have h : LR.err 6 = r := h
            subst h
            have hgt : decide ((m : Int) > (((9223372036854775807 - (cn - 48)) / 10 : Nat) : Int)) = true := decide_eq_true (by omega)
            repeat (first | ((first | (with_reducible apply rpGT) | (with_reducible apply drGT) | (with_reducible apply qAP) | (with_reducible apply qAO)); eq_refl; (first | exact qAo rfl | exact qAt rfl | exact qAw rfl | exact qAy rfl); (first | eq_refl | assumption | decide); (focus repeat' (first | exact trivial | exact id | apply And.intro | (intro h; (first | exact h | (simp only [Bool.and_eq_true] at h; (first | exact h.1 | exact h.1.1 | exact h.1.1.1 | exact h.2)) | (rw [h]; rfl) | (rw [zh, h]; rfl) | simp_all)))); ((first | (exact hnx _ _ _ _ _ _ _ rfl rfl) | (exact qBQ e1 rfl rfl) | (exact qBj (z := ((9223372036854775807 - (cn - 48) : Nat) : Int)) (by omega) (by omega) (by omega) rfl rfl) | (exact qDa rfl (by decide) (by omega) rfl rfl) | (exact qAZ hgt rfl rfl) | ((with_reducible first | apply qAc | apply qAa); (conv => lhs; whnf)) | ((with_reducible first | apply qAv | apply qA9 | apply qAf) <;> first | ((with_reducible apply tyOk); eq_refl) | eq_refl) | ((with_reducible apply qBZ); exact tyOk rfl; exact tyOk rfl; eq_refl; eq_refl; omega; omega)); (first | exact qAh _ | exact qAp _ _ | exact qAr _ _ _ | exact qAq _ _ _ _))) | (with_reducible first | apply qAl | apply qAm | apply qAn | apply qAk | apply qAs | apply qAF | apply qBs | apply qBN | apply qBD | apply qAC) | ((with_reducible apply rp); first | (exact qBQ e1 rfl rfl) | (exact qBj (z := ((9223372036854775807 - (cn - 48) : Nat) : Int)) (by omega) (by omega) (by omega) rfl rfl) | (exact qDa rfl (by decide) (by omega) rfl rfl) | (exact qAZ hgt rfl rfl) | ((with_reducible apply qAc); (conv => lhs; whnf)) | ((with_reducible apply qAa); (conv => lhs; whnf)) | ((with_reducible apply qAv); eq_refl; eq_refl) | ((with_reducible apply qBZ); exact tyOk rfl; exact tyOk rfl; eq_refl; eq_refl; omega; omega) | ((with_reducible apply qA9); exact tyOk rfl; eq_refl; eq_refl)) | ((with_reducible apply rp1); (exact hnx _ _ _ _ _ _ _ rfl rfl)) | ((with_reducible apply rpN); ((with_reducible apply qAf); exact tyOk rfl; (iterate 5 eq_refl))) | ((with_reducible apply qBr); eq_refl; eq_refl))
            (with_reducible apply qBa (l := [])); (focus (repeat' (first | (with_reducible apply qAE) | (with_reducible apply qAx) | ((with_reducible apply qAI); eq_refl) | ((with_reducible apply qBh); eq_refl; eq_refl; exact tyOk rfl; eq_refl; eq_refl)))); eq_refl; exact SubD.refl _; refine ⟨(by repeat' (first | exact qA0 | (refine qAH rfl (by exact SubA.refl _) ?_))), (by repeat' (first | exact trivial | eq_refl | apply And.intro)), rfl, insS rfl, (by repeat' (first | exact trivial | exact qBc rfl | apply And.intro))⟩
          · rw [if_neg hov] at he
            have hgt : decide ((m : Int) > (((9223372036854775807 - (cn - 48)) / 10 : Nat) : Int)) = false := decide_eq_false (by omega)
            repeat (first | ((first | (with_reducible apply rpGT) | (with_reducible apply drGT) | (with_reducible apply qAP) | (with_reducible apply qAO)); eq_refl; (first | exact qAo rfl | exact qAt rfl | exact qAw rfl | exact qAy rfl); (first | eq_refl | assumption | decide); (focus repeat' (first | exact trivial | exact id | apply And.intro | (intro h; (first | exact h | (simp only [Bool.and_eq_true] at h; (first | exact h.1 | exact h.1.1 | exact h.1.1.1 | exact h.2)) | (rw [h]; rfl) | (rw [zh, h]; rfl) | simp_all)))); ((first | (exact hnx _ _ _ _ _ _ _ rfl rfl) | (exact qBQ e1 rfl rfl) | (exact qBj (z := ((9223372036854775807 - (cn - 48) : Nat) : Int)) (by omega) (by omega) (by omega) rfl rfl) | (exact qDa rfl (by decide) (by omega) rfl rfl) | (exact qAZ hgt rfl rfl) | (exact qEz (z := ((10 * m : Nat) : Int)) (by omega) (by omega) (by omega) rfl rfl) | (exact qAW (z := ((10 * m + (cn - 48) : Nat) : Int)) (by omega) (by omega) (by omega) rfl rfl) | ((with_reducible first | apply qAc | apply qAa); (conv => lhs; whnf)) | ((with_reducible apply qAv); eq_refl; eq_refl) | ((with_reducible apply qBZ); exact tyOk rfl; exact tyOk rfl; eq_refl; eq_refl; omega; omega)); (first | exact qAh _ | exact qAp _ _ | exact qAr _ _ _ | exact qAq _ _ _ _))) | (with_reducible first | apply qAl | apply qAm | apply qAn | apply qAk | apply qAs | apply qA2 | apply qAC) | ((with_reducible apply rp); first | (exact qBQ e1 rfl rfl) | (exact qBj (z := ((9223372036854775807 - (cn - 48) : Nat) : Int)) (by omega) (by omega) (by omega) rfl rfl) | (exact qDa rfl (by decide) (by omega) rfl rfl) | (exact qAZ hgt rfl rfl) | (exact qEz (z := ((10 * m : Nat) : Int)) (by omega) (by omega) (by omega) rfl rfl) | (exact qAW (z := ((10 * m + (cn - 48) : Nat) : Int)) (by omega) (by omega) (by omega) rfl rfl) | ((with_reducible apply qAc); (conv => lhs; whnf)) | ((with_reducible apply qAa); (conv => lhs; whnf)) | ((with_reducible apply qAv); eq_refl; eq_refl) | ((with_reducible apply qBZ); exact tyOk rfl; exact tyOk rfl; eq_refl; eq_refl; omega; omega)) | ((with_reducible apply rp1); (exact hnx _ _ _ _ _ _ _ rfl rfl)) | ((with_reducible apply qBl); eq_refl; eq_refl) | ((with_reducible apply qBr); eq_refl; eq_refl))
            refine ⟨_, _, ?_, ?_, pos + 1, 10 * m + (cn - 48), by omega, by omega, he, rfl, rfl⟩
            · omega
            · refine qAT [] (by repeat' (first | exact qA0 | (refine qAH rfl (by exact SubA.refl _) ?_))) (by repeat' (first | exact trivial | eq_refl | apply And.intro)) rfl (insS rfl) (by repeat' (first | exact trivial | exact qBu _ | exact qBc rfl | apply And.intro))
        · have hpn : pos = n := by omega
          rw [List.drop_eq_nil_of_le (by omega)] at he
          have he : some m = numF U 0 := he
          rw [← he] at h
          have h : LR.ok ⟨3, .empty, m, 0⟩ n = r := h
          subst h
          repeat (first | ((first | (with_reducible apply rpGT) | (with_reducible apply drGT) | (with_reducible apply qAP) | (with_reducible apply qAO)); eq_refl; (first | exact qAo rfl | exact qAt rfl | exact qAw rfl | exact qAy rfl); (first | eq_refl | assumption | decide); (focus repeat' (first | exact trivial | exact id | apply And.intro | (intro h; (first | exact h | (simp only [Bool.and_eq_true] at h; (first | exact h.1 | exact h.1.1 | exact h.1.1.1 | exact h.2)) | (rw [h]; rfl) | (rw [zh, h]; rfl) | simp_all)))); ((first | (exact qCd rfl rfl (show (byS U).size ≤ pos by omega)) | ((with_reducible first | apply qAc | apply qAa); (conv => lhs; whnf)) | ((with_reducible first | apply qAv | apply qAf) <;> first | ((with_reducible apply tyOk); eq_refl) | eq_refl) | ((with_reducible apply qAQ); exact tyOk rfl; eq_refl; eq_refl; (focus repeat' (first | eq_refl | refine ⟨_, _, rfl, rfl, qle rfl, rfl, ?_⟩)); eq_refl)); (first | exact qAh _ | exact qAp _ _ | exact qAr _ _ _ | exact qAq _ _ _ _))) | (with_reducible first | apply qAl | apply qAm | apply qAn | apply qAk | apply qBJ | apply qBL | apply qBK | apply qAF | apply qBD) | ((with_reducible apply rp); first | (exact qCd rfl rfl (show (byS U).size ≤ pos by omega)) | ((with_reducible apply qAc); (conv => lhs; whnf)) | ((with_reducible apply qAa); (conv => lhs; whnf)) | ((with_reducible apply qAv); eq_refl; eq_refl) | ((with_reducible apply qAQ); exact tyOk rfl; eq_refl; eq_refl; (focus repeat' (first | eq_refl | refine ⟨_, _, rfl, rfl, qle rfl, rfl, ?_⟩)); eq_refl)) | ((with_reducible apply rpN); ((with_reducible apply qAf); exact tyOk rfl; (iterate 5 eq_refl))) | ((with_reducible apply qBl); eq_refl; eq_refl))
          (with_reducible apply qBa (l := [])); (focus (repeat' (first | (with_reducible apply qAE) | (with_reducible apply qAx) | ((with_reducible apply qAI); eq_refl) | ((with_reducible apply qBh); eq_refl; eq_refl; exact tyOk rfl; eq_refl; eq_refl)))); eq_refl; exact SubD.refl _; refine ⟨(by repeat' (first | exact qA0 | (refine qAH rfl (by exact SubA.refl _) ?_))), (by repeat' (first | exact trivial | eq_refl | apply And.intro)), rfl, insS rfl, (by repeat' (first | exact trivial | exact qBc rfl | apply And.intro))⟩
end Go.Proofs.YtlpnnnmdkglkcaaDoor

