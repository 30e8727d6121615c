/-
  What chirographkeep's heap of raw things makes: columns, raw things, literals and columns of an expression. No program in sight.
-/
import Derived.Test.YtlpnnnmdkglkcaaDoorZEx
import Derived.Test.YtlpnnnmdkglkcaaDoorZD
import Derived.Test.YtlpnnnmdkglkcaaDoorZA
import Derived.Test.YtlpnnnmdkglkcaaDoorZJ
import Derived.Test.YtlpnnnmdkglkcaaDoorZG
import Derived.Test.YtlpnnnmdkglkcaaDoorZC
set_option linter.unusedSimpArgs false
set_option linter.unusedVariables false
namespace Go.Proofs.YtlpnnnmdkglkcaaDoor
open Go.RowKit

abbrev kN : ByteArray := { data := #[107] }
abbrev zzN : ByteArray := { data := #[122, 122] }
abbrev abcN : ByteArray := { data := #[97, 98, 99] }
def abcF (i : Nat) : ByteArray := abcN.extract i (i + 1)
def clF (i : Nat) (r : Raw) : Cl := ⟨abcF i, 1 + (r.kind % 4).toNat, decide (r.a % 2 = 0)⟩
def clsF : Nat → List Raw → List Cl
  | _, [] => []
  | i, r :: l => clF i r :: clsF (i + 1) l
def colsF (l : List Raw) : List Cl := ⟨kN, 2, false⟩ :: clsF 0 (l.take 3)
theorem qFi : ∀ (i : Nat) (l : List Raw), (clsF i l).length = l.length
  | _, [] => rfl
  | i, r :: l => by rw [clsF, List.length_cons, qFi, List.length_cons]
theorem qFe : ∀ (i : Nat) (l : List Raw) (k : Nat), (clsF i l)[k]? = (l[k]?).map (clF (i + k))
  | _, [], _ => rfl
  | i, r :: l, 0 => rfl
  | i, r :: l, k + 1 => by
    show (clsF (i + 1) l)[k]? = (l[k]?).map (clF (i + (k + 1)))
    rw [qFe, show i + 1 + k = i + (k + 1) by omega]
theorem clsF_app (i : Nat) : ∀ (l : List Raw) (r : Raw), clsF i (l ++ [r]) = clsF i l ++ [clF (i + l.length) r]
  | [], r => rfl
  | x :: l, r => by
    have := clsF_app (i + 1) l r
    rw [List.cons_append, clsF, clsF, this, List.cons_append, List.length_cons, show i + 1 + l.length = i + (l.length + 1) by omega]
theorem abc_ok {i : Nat} (h : i < 3) : qDO (abcF i) ∧ abcF i ≠ kN ∧ abcF i ≠ zzN := by
  rcases (by omega : i = 0 ∨ i = 1 ∨ i = 2) with rfl | rfl | rfl <;> (refine ⟨by decide, by decide, by decide⟩)
theorem abc_inj {i j : Nat} (hi : i < 3) (hj : j < 3) (h : abcF i = abcF j) : i = j := by
  rcases (by omega : i = 0 ∨ i = 1 ∨ i = 2) with rfl | rfl | rfl <;> rcases (by omega : j = 0 ∨ j = 1 ∨ j = 2) with rfl | rfl | rfl <;> first | rfl | exact absurd h (by decide)
theorem clsF_mem {l : List Raw} {c : Cl} (hl : l.length ≤ 3) (h : c ∈ clsF 0 l) : ∃ i r, i < 3 ∧ c = clF i r := by
  obtain ⟨k, hk⟩ := List.getElem?_of_mem h
  rw [qFe] at hk
  rcases hr : l[k]? with _ | r
  · rw [hr] at hk; cases hk
  · rw [hr] at hk
    injection hk with hk
    have := (List.getElem?_eq_some_iff.1 hr).1
    exact ⟨k, r, by omega, by rw [← hk, Nat.zero_add]⟩
theorem colsF_ok (l : List Raw) : ColsOk (colsF l) := by
  have hl : (l.take 3).length ≤ 3 := by rw [List.length_take]; omega
  refine ⟨?_, fun c hc => ?_, fun c hc => ?_, ?_⟩
  · unfold colsF
    rw [List.length_cons, qFi]
    omega
  · rcases List.mem_cons.1 hc with rfl | hc
    · decide
    · obtain ⟨i, r, hi, rfl⟩ := clsF_mem hl hc
      exact (abc_ok hi).1
  · rcases List.mem_cons.1 hc with rfl | hc
    · exact ⟨by decide, by decide⟩
    · obtain ⟨i, r, hi, rfl⟩ := clsF_mem hl hc
      show 1 ≤ 1 + (r.kind % 4).toNat ∧ 1 + (r.kind % 4).toNat ≤ 4
      omega
  · unfold colsF
    rw [List.pairwise_cons]
    refine ⟨fun c hc => ?_, ?_⟩
    · obtain ⟨i, r, hi, rfl⟩ := clsF_mem hl hc
      exact fun h => (abc_ok hi).2.1 h.symm
    · rw [List.pairwise_iff_getElem]
      intro i j hi hj hij he
      have h1 : (clsF 0 (l.take 3))[i]? = some (clsF 0 (l.take 3))[i] := List.getElem?_eq_getElem hi
      have h2 : (clsF 0 (l.take 3))[j]? = some (clsF 0 (l.take 3))[j] := List.getElem?_eq_getElem hj
      rw [qFi] at hi hj
      rw [qFe, List.getElem?_eq_getElem hi] at h1
      rw [qFe, List.getElem?_eq_getElem hj] at h2
      injection h1 with h1
      injection h2 with h2
      rw [← h1, ← h2] at he
      have := abc_inj (i := 0 + i) (j := 0 + j) (by omega) (by omega) he
      omega
def qBf (l : List Raw) (at' : Nat) : Raw := match l[at' % l.length]? with
  | none => ⟨0, (at' + 1 : Nat), (at' + 1 : Nat), .empty⟩
  | some r => ⟨r.kind, IntKind.i64.wrap (r.a + ((at' + 1) / l.length : Nat)), r.b, r.text⟩
def leafC (K : Nat) (a : Int) : Nat → List Cl → Option Cl
  | _, [] => none
  | i, c :: l => if c.kind = K ∧ a % ((2 + i : Nat) : Int) = 0 then some c else leafC K a (i + 1) l
theorem leafC_mem {K : Nat} {a : Int} : ∀ {i : Nat} {l : List Cl} {c : Cl}, leafC K a i l = some c → c ∈ l ∧ c.kind = K
  | i, d :: l, c, h => by
    unfold leafC at h
    split at h
    · rename_i hc
      injection h with h
      subst h
      exact ⟨List.mem_cons_self, hc.1⟩
    · obtain ⟨h1, h2⟩ := leafC_mem h
      exact ⟨List.mem_cons_of_mem _ h1, h2⟩
theorem mask_nn (a : Int) : 0 ≤ bitV .and .i64 a 9223372036854775807 ∧ bitV .and .i64 a 9223372036854775807 ≤ 9223372036854775807 := by
  show 0 ≤ IntKind.i64.wrap ((BitVec.ofInt 64 a &&& BitVec.ofInt 64 9223372036854775807).toNat : Int) ∧ IntKind.i64.wrap ((BitVec.ofInt 64 a &&& BitVec.ofInt 64 9223372036854775807).toNat : Int) ≤ 9223372036854775807
  have h : (BitVec.ofInt 64 a &&& BitVec.ofInt 64 9223372036854775807).toNat ≤ 9223372036854775807 := by
    rw [BitVec.toNat_and]
    exact Nat.le_trans Nat.and_le_right (by decide)
  rw [qEo (by omega) (by omega)]
  omega
def litF (K : Nat) (r : Raw) (v : Vl) : Vl :=
  if r.b % 9 = 0 then ⟨0, 0, 0, .empty⟩ else if K = 2 ∧ r.b % 4 = 0 then ⟨2, bitV .and .i64 r.a 9223372036854775807, 0, .empty⟩ else if K = 2 then ⟨2, r.a % 20, 0, .empty⟩ else v
theorem litF_gx {cols : List Cl} {K d : Nat} (r : Raw) {v : Vl} (hv : Gd v) (hk : v.k = K) (hn : K ≠ 2 → 0 ≤ v.n ∧ v.n ≤ 9223372036854775807) : Gx cols K (d + 1) (.lit (litF K r v)) := by
  unfold litF
  split
  · exact .lit .null ⟨Int.le_refl _, by decide⟩ (.inr rfl)
  · split
    · rename_i h
      obtain ⟨rfl, _⟩ := h
      exact .lit (.int _) (mask_nn r.a) (.inl rfl)
    · split
      · rename_i h
        subst h
        exact .lit (.int _) (show 0 ≤ r.a % 20 ∧ r.a % 20 ≤ 9223372036854775807 by omega) (.inl rfl)
      · rename_i h
        exact .lit hv (hn h) (.inl hk)
def leafF (cols : List Cl) (K : Nat) (r : Raw) (v : Vl) : Ex := match leafC K r.a 0 cols with
  | some c => .col c.name
  | none => .lit (litF K r v)
theorem leafF_gx {cols : List Cl} {K d : Nat} (r : Raw) {v : Vl} (hv : Gd v) (hk : v.k = K) (hn : K ≠ 2 → 0 ≤ v.n ∧ v.n ≤ 9223372036854775807) : Gx cols K (d + 1) (leafF cols K r v) := by
  unfold leafF
  split
  · rename_i c hc
    obtain ⟨h1, h2⟩ := leafC_mem hc
    exact .col h1 h2
  · exact litF_gx r hv hk hn
end Go.Proofs.YtlpnnnmdkglkcaaDoor


/-
  chirographkeep's heap of raw things: Cols, next, leaf, op1, op2 as contracts. No condition but the sizes.
-/
namespace Go.Proofs.YtlpnnnmdkglkcaaDoor
open Go.RowKit

section
variable {P : Program} {fr : Nat} {dst : Option Nat} {ty : TypeId} {e : Operand → A} {β : Bx}
theorem qDf {op : Op} (t : Nat) {id n sz : Nat} {es : List (List D)} {v : A} {rd : List Nat} (hx : e (.tmp t) = .ow id n) (hro : qBv β id = some (sz, es))
    (h : Does P dst op ty (setE e t (.d (.sl sz es))) ([(id, .frz sz es)] ++ β) v [] rd) : Does P dst op ty e β v [(id, .frz sz es)] (id :: rd) := does_frz t hx hro h
end
theorem qE1 (a : D) {b c d e f : D} : SubD (.ag [a, b, c, d, e, f, .nl]) (.ag [a, b, c, d, e, f, .sl 7 []]) :=
  SubD.ag (qCt.cons (SubD.refl _) (fun h => h) (qCt.cons (SubD.refl _) (fun h => h) (qCt.cons (SubD.refl _) (fun h => h) (qCt.cons (SubD.refl _) (fun h => h) (qCt.cons (SubD.refl _) (fun h => h) (qCt.cons (SubD.refl _) (fun h => h) (qCt.cons (SubD.nil 7) (fun h => h) qCt.nil)))))))
theorem op1_pc (op : Nat) (a : Ex) : PC Tryd.prog 65 [iD op, .ag a.cs] (.ag (Ex.un op a).cs) := by
  show PC _ _ _ (.ag [iD op, iD 0, iD 0, qD 0, strD .empty, strD .empty, .sl 7 [a.cs]])
  have hcl := a.cs_eq
  generalize a.cs = c at *
  subst hcl
  refine qAS Tryd.func65 rfl (by kernel_rfl) mixed (by kernel_rfl) (qle (by kernel_rfl)) Tryd.results65 ?_
  repeat (first | ((with_reducible apply rp1); (with_reducible apply qDf 7); eq_refl; eq_refl; (with_reducible apply qAG); exact tyOk rfl; eq_refl; eq_refl; (focus repeat' (first | eq_refl | refine ⟨_, _, rfl, rfl, qle rfl, rfl, ?_⟩)); eq_refl) | (with_reducible first | apply qAr | apply qAq | apply qAp | apply qAj | apply qAK | apply qA9) | ((with_reducible apply rp); first | ((with_reducible apply qAe); (conv => lhs; whnf)) | ((with_reducible apply qAn); exact tyOk rfl; (iterate 3 eq_refl); exact qle rfl; eq_refl)) | ((with_reducible apply rp1); first | ((with_reducible apply qAv); eq_refl; eq_refl) | ((with_reducible apply qAh); exact tyOk rfl; eq_refl) | ((with_reducible apply qAt); exact tyOk rfl; eq_refl; exact tyOk rfl; eq_refl; eq_refl; (focus repeat' (first | exact trivial | refine And.intro rfl (And.intro rfl ?_))); decide; decide; eq_refl)) | ((with_reducible apply rpN); ((with_reducible apply qAf); exact tyOk rfl; (iterate 5 eq_refl))))
  (with_reducible apply qA8); (focus (repeat' (first | (with_reducible apply qAJ) | (with_reducible apply qAD) | ((with_reducible apply qAZ); eq_refl; eq_refl; exact tyOk rfl; eq_refl; eq_refl)))); eq_refl; refine SubD.of_eq ?_
  rfl
theorem qCH (op : Nat) (a b : Ex) : PC Tryd.prog 66 [iD op, .ag a.cs, .ag b.cs] (.ag (Ex.bi op a b).cs) := by
  show PC _ _ _ (.ag [iD op, iD 0, iD 0, qD 0, strD .empty, strD .empty, .sl 7 [a.cs, b.cs]])
  have hcl := a.cs_eq
  have hdl := b.cs_eq
  generalize a.cs = c at *
  generalize b.cs = d at *
  subst hcl hdl
  refine qAS Tryd.func66 rfl (by kernel_rfl) mixed (by kernel_rfl) (qle (by kernel_rfl)) Tryd.results66 ?_
  repeat (first | ((with_reducible apply rp1); (with_reducible apply qDf 10); eq_refl; eq_refl; (with_reducible apply qAG); exact tyOk rfl; eq_refl; eq_refl; (focus repeat' (first | eq_refl | refine ⟨_, _, rfl, rfl, qle rfl, rfl, ?_⟩)); eq_refl) | (with_reducible first | apply qAr | apply qAq | apply qAp | apply qAj | apply qAK | apply qA9) | ((with_reducible apply rp); first | ((with_reducible apply qAe); (conv => lhs; whnf)) | ((with_reducible apply qAn); exact tyOk rfl; (iterate 3 eq_refl); exact qle rfl; eq_refl)) | ((with_reducible apply rp1); first | ((with_reducible apply qAv); eq_refl; eq_refl) | ((with_reducible apply qAh); exact tyOk rfl; eq_refl) | ((with_reducible apply qAt); exact tyOk rfl; eq_refl; exact tyOk rfl; eq_refl; eq_refl; (focus repeat' (first | exact trivial | refine And.intro rfl (And.intro rfl ?_))); decide; decide; eq_refl)) | ((with_reducible apply rpN); ((with_reducible apply qAf); exact tyOk rfl; (iterate 5 eq_refl))))
  (with_reducible apply qA8); (focus (repeat' (first | (with_reducible apply qAJ) | (with_reducible apply qAD) | ((with_reducible apply qAZ); eq_refl; eq_refl; exact tyOk rfl; eq_refl; eq_refl)))); eq_refl; refine SubD.of_eq ?_
  rfl
set_option maxHeartbeats 1000000 in
theorem cols_pc (l0 : List Raw) : PC Tryd.prog 62 [qBo l0] (qBr (colsF l0)) := by
  have s1 := some_pc l0 3
  unfold colsF
  have hl : (l0.take 3).length ≤ 3 := by rw [List.length_take]; omega
  generalize l0.take 3 = l at *
  refine qAS Tryd.func62 rfl (by kernel_rfl) mixed (by kernel_rfl) (qle (by kernel_rfl)) Tryd.results62 ?_
  repeat (first | (with_reducible first | apply qAr | apply qAq | apply qAp | apply qAj | apply qAA) | ((with_reducible apply rp); first | ((with_reducible apply qAH); (iterate 3 eq_refl); exact (s1)) | ((with_reducible apply qAe); (conv => lhs; whnf)) | ((with_reducible apply qAd); (conv => lhs; whnf)) | ((with_reducible apply qAB); exact tyOk rfl; eq_refl; eq_refl) | ((with_reducible apply qAG); exact tyOk rfl; eq_refl; eq_refl; (focus repeat' (first | eq_refl | refine ⟨_, _, rfl, rfl, qle rfl, rfl, ?_⟩)); eq_refl)) | ((with_reducible apply rp1); ((with_reducible apply qAt); exact tyOk rfl; eq_refl; exact tyOk rfl; eq_refl; eq_refl; (focus repeat' (first | exact trivial | refine And.intro rfl (And.intro rfl ?_))); decide; decide; eq_refl)))
  refine qCh (fun m s => ∃ k, k ≤ l.length ∧ m = l.length - k ∧ s = ⟨[(3, .ow 1000 (k + 1)), (9, .d (qBo l)), (10, .d (iD l.length)), (11, .d (iD k))], [(1000, .row 139 3 ([strD kN, iD 2, bD false] :: (clsF 0 (l.take k)).map Cl.cs))]⟩) _ _ ?_ ⟨0, by omega, rfl, rfl⟩ ?_
  · refine qA7 [(1000, 7)] (by repeat' (first | exact qAX | (refine qAN rfl (by exact SubA.refl _) ?_))) ?_ rfl (by repeat' (first | exact trivial | exact inB_ow rfl | apply And.intro)) (by repeat' (first | exact trivial | exact inB_ow rfl | apply And.intro))
    exact kb_cons rfl (row_eq rfl) kb_nil
  · rintro m s ⟨k, hk, rfl, rfl⟩
    repeat (first | (with_reducible first | apply qAr | apply qAq | apply qAp | apply qAj) | ((with_reducible apply rp); ((with_reducible apply qA0); eq_refl; eq_refl)))
    refine qAx rfl (fun hd => ?_) (fun hd => ?_)
    · have hlt : k < l.length := by simp at hd; omega
      clear hd s1
      obtain ⟨r, hr⟩ : ∃ r, l[k]? = some r := ⟨_, List.getElem?_eq_getElem hlt⟩
      have hr2 : (l.map Raw.cs)[k]? = some r.cs := by rw [List.getElem?_map, hr]; rfl
      have p1 := qAO r.kind 4 (by omega) (by omega)
      have p2 := qAO r.a 2 (by omega) (by omega)
      have e1 : (clsF 0 (l.take (k + 1))).map Cl.cs = (clsF 0 (l.take k)).map Cl.cs ++ [(clF k r).cs] := by
        rw [List.take_add_one, hr]
        show (clsF 0 (l.take k ++ [r])).map Cl.cs = _
        rw [clsF_app, List.map_append, List.length_take]
        have e : 0 + min k l.length = k := by omega
        rw [e]
        rfl
      have l1 : ((clsF 0 (l.take k)).map Cl.cs).length = k := by rw [List.length_map, qFi, List.length_take]; omega
      generalize (clsF 0 (l.take k)).map Cl.cs = o at *
      obtain ⟨rk, ra, rb, rt⟩ := r
      unfold Raw.cs at hr2
      unfold clF at e1
      dsimp only at *
      obtain ⟨u, hu⟩ : ∃ u : Nat, rk % ((4 : Nat) : Int) = u := ⟨(rk % 4).toNat, by omega⟩
      rw [hu] at p1
      have hu2 : (rk % 4).toNat = u := by omega
      rw [hu2] at e1
      have hv : (ra % ((2 : Nat) : Int) == 0) = decide (ra % 2 = 0) := by rw [Bool.eq_iff_iff, beq_iff_eq, decide_eq_true_eq]; omega
      repeat (first | (with_reducible first | apply qAr | apply qAq | apply qAp | apply qAj | apply qBD | apply qAA | apply qA4 | apply qAF) | ((with_reducible apply qBQ); (first | kernel_rfl | eq_refl)) | ((with_reducible first | apply rp | apply dr); first | ((with_reducible apply qAc); eq_refl; eq_refl; (first | exact (p1) | exact (p2)); eq_refl) | (exact qBe (z := ((1 + u : Nat) : Int)) rfl rfl (by omega) (by omega) (by omega)) | (exact does_slice_str (s := abcN) (l := k) (h := k + 1) (tyOk rfl) rfl rfl ⟨_, _, rfl, rfl⟩ ⟨_, _, rfl, rfl⟩ (by omega) (show k + 1 ≤ 3 by omega)) | ((with_reducible first | apply qAe | apply qAd); (conv => lhs; whnf)) | ((with_reducible first | apply qAg | apply qAi | apply qAC) <;> first | ((with_reducible apply tyOk); eq_refl) | eq_refl | decide) | ((with_reducible apply qAo); exact tyOk rfl; eq_refl; eq_refl; assumption; eq_refl) | ((with_reducible apply qAz); exact tyOk rfl; eq_refl; exact tyOk rfl; (iterate 4 eq_refl); (first | (dsimp only; simp only [List.length_map, List.length_append, List.length_cons, List.length_nil] at *; omega) | (simp only [List.length_map, List.length_append, List.length_cons, List.length_nil] at *; omega))) | ((with_reducible apply qAV); eq_refl; eq_refl; omega; omega) | ((with_reducible apply qAG); exact tyOk rfl; eq_refl; eq_refl; (focus repeat' (first | eq_refl | refine ⟨_, _, rfl, rfl, qle rfl, rfl, ?_⟩)); eq_refl)) | ((with_reducible first | apply rp1 | apply dr1); first | ((with_reducible apply qAh); exact tyOk rfl; eq_refl) | ((with_reducible apply qAt); exact tyOk rfl; eq_refl; exact tyOk rfl; eq_refl; eq_refl; (focus repeat' (first | exact trivial | refine And.intro rfl (And.intro rfl ?_))); decide; decide; eq_refl)) | ((with_reducible apply dr2); ((with_reducible apply qBq); exact tyOk rfl; eq_refl; exact tyOk rfl; (iterate 3 eq_refl); decide; (first | (dsimp only; simp only [List.length_map, List.length_append, List.length_cons, List.length_nil] at *; omega) | (simp only [List.length_map, List.length_append, List.length_cons, List.length_nil] at *; omega)); (first | (dsimp only; simp only [List.length_map, List.length_append, List.length_cons, List.length_nil] at *; omega) | (simp only [List.length_map, List.length_append, List.length_cons, List.length_nil] at *; omega)); eq_refl)) | ((with_reducible apply rpN); ((with_reducible apply qAf); exact tyOk rfl; (iterate 5 eq_refl))))
      refine ⟨_, _, ?_, ?_, k + 1, by omega, rfl, rfl⟩
      · omega
      · rw [e1]
        refine qA7 [(1000, 31)] (by repeat' (first | exact qAX | (refine qAN rfl (by (first | exact SubA.refl _ | exact subA_ow (by (simp; omega)))) ?_))) ?_ rfl (by repeat' (first | exact trivial | exact inB_ow rfl | apply And.intro)) (by repeat' (first | exact trivial | exact inB_ow rfl | apply And.intro))
        exact kb_cons rfl (row_eq (by rw [hv]; rfl)) kb_nil
    · have hke : k = l.length := by simp at hd; omega
      clear hd
      subst hke
      repeat (first | (with_reducible first | apply qAr | apply qAq | apply qAp | apply qAj | apply qCb | apply qCd | apply qCc | apply qAK | apply qA9) | ((with_reducible apply rp); first | ((with_reducible apply qAe); (conv => lhs; whnf)) | ((with_reducible apply qAd); (conv => lhs; whnf))))
      (with_reducible apply qA8); (focus (repeat' (first | (with_reducible apply qAJ) | (with_reducible apply qAD) | ((with_reducible apply qBb); eq_refl)))); eq_refl; refine SubD.of_eq ?_
      rw [List.take_length]
      rfl
abbrev hpB (l : List Raw) (n : Nat) (cols : List Cl) : Nat × Box := (1000, .var 83 [.d (qBo l), .d (iD n), .d (qBr cols)])
set_option maxHeartbeats 1000000 in
theorem qBR (l : List Raw) (n : Nat) (cols : List Cl) (hn : n ≤ 4611686018427387904) : PX Tryd.prog 63 [.px 1000 0] [hpB l n cols] [] (.ag (qBf l n).cs) [hpB l (n + 1) cols] [] := by
  unfold hpB qBf
  by_cases hl : l = []
  · subst hl
    refine qAW Tryd.func63 rfl (by kernel_rfl) mixed (by kernel_rfl) (qle (by kernel_rfl)) Tryd.results63 rfl ?_
    repeat (first | (with_reducible first | apply qAr | apply qAq | apply qAp | apply qAj | apply qBD | apply qAK | apply qBg | apply qBi) | ((with_reducible apply qBQ); (first | kernel_rfl | eq_refl)) | ((with_reducible first | apply rp | apply dr); first | ((with_reducible apply qAe); (conv => lhs; whnf)) | ((with_reducible first | apply qAg | apply qAi | apply qAC | apply qAB | apply qAY) <;> first | ((with_reducible apply tyOk); eq_refl) | eq_refl | decide) | ((with_reducible apply qAV); eq_refl; eq_refl; omega; omega) | ((with_reducible apply qAG); exact tyOk rfl; eq_refl; eq_refl; (focus repeat' (first | eq_refl | refine ⟨_, _, rfl, rfl, qle rfl, rfl, ?_⟩)); eq_refl)) | ((with_reducible apply rp1); ((with_reducible apply qAh); exact tyOk rfl; eq_refl)) | ((with_reducible first | apply rpN | apply drN); first | ((with_reducible apply qBh); exact tyOk rfl; eq_refl; eq_refl; (conv => lhs; whnf); eq_refl; eq_refl; exact qle rfl) | ((with_reducible apply qAf); exact tyOk rfl; (iterate 5 eq_refl))) | ((with_reducible apply qBK); eq_refl; eq_refl))
    (with_reducible apply qA1 (l := [])); (focus (repeat' (first | (with_reducible apply qAJ) | (with_reducible apply qAD) | ((with_reducible apply qAZ); eq_refl; eq_refl; exact tyOk rfl; eq_refl; eq_refl)))); eq_refl; exact SubD.refl _; refine ⟨(by repeat' (first | exact qAX | (refine qAN rfl (by exact SubA.refl _) ?_))), (by repeat' (first | exact trivial | eq_refl | apply And.intro)), rfl, insS rfl, (by repeat' (first | exact trivial | exact qA5 rfl | apply And.intro))⟩
  · have hp : 0 < l.length := List.length_pos_iff.2 hl
    have hlt : n % l.length < l.length := Nat.mod_lt _ hp
    obtain ⟨r, hr⟩ : ∃ r, l[n % l.length]? = some r := ⟨_, List.getElem?_eq_getElem hlt⟩
    rw [hr]
    have hr2 : (l.map Raw.cs)[n % l.length]? = some r.cs := by rw [List.getElem?_map, hr]; rfl
    obtain ⟨rk, ra, rb, rt⟩ := r
    unfold Raw.cs at *
    dsimp only at *
    refine qAW Tryd.func63 rfl (by kernel_rfl) mixed (by kernel_rfl) (qle (by kernel_rfl)) Tryd.results63 rfl ?_
    repeat (first | (with_reducible first | apply qAr | apply qAq | apply qAp | apply qAj | apply qBD | apply qAK | apply qBi | apply qAF) | ((with_reducible apply qBQ); (first | kernel_rfl | eq_refl)) | ((with_reducible first | apply rp | apply dr); first | (exact does_rem_to (m := n) (n := l.length) rfl (by omega) rfl rfl hp) | (exact does_quo_to (m := n + 1) (n := l.length) rfl rfl rfl hp (by omega)) | ((with_reducible apply qAe); (conv => lhs; whnf)) | ((with_reducible first | apply qAg | apply qAi | apply qAC | apply qAB | apply qAY) <;> first | ((with_reducible apply tyOk); eq_refl) | eq_refl | decide) | ((with_reducible apply qAn); exact tyOk rfl; (iterate 3 eq_refl); exact qle rfl; eq_refl) | ((with_reducible apply qAo); exact tyOk rfl; eq_refl; eq_refl; assumption; eq_refl) | ((with_reducible apply qAz); exact tyOk rfl; eq_refl; exact tyOk rfl; (iterate 4 eq_refl); (simp only [List.length_map, List.length_append, List.length_cons, List.length_nil] at *; omega)) | ((with_reducible apply qAV); eq_refl; eq_refl; omega; omega) | ((with_reducible apply qC2); eq_refl; eq_refl; omega; omega) | ((with_reducible apply qFJ); eq_refl; eq_refl)) | ((with_reducible first | apply rp1 | apply dr1); ((with_reducible apply qAh); exact tyOk rfl; eq_refl)) | ((with_reducible first | apply rpN | apply drN); first | ((with_reducible apply qBh); exact tyOk rfl; eq_refl; eq_refl; (conv => lhs; whnf); eq_refl; eq_refl; exact qle rfl) | ((with_reducible apply qAf); exact tyOk rfl; (iterate 5 eq_refl))) | ((with_reducible apply qAx); eq_refl; (focus (intro hd; (exfalso; simp at hd; contradiction))); (intro hd; clear hd)))
    (with_reducible apply qA1 (l := [])); (focus (repeat' (first | (with_reducible apply qAJ) | (with_reducible apply qAD) | ((with_reducible apply qAZ); eq_refl; eq_refl; exact tyOk rfl; eq_refl; eq_refl)))); eq_refl; exact SubD.refl _; refine ⟨(by repeat' (first | exact qAX | (refine qAN rfl (by exact SubA.refl _) ?_))), (by repeat' (first | exact trivial | eq_refl | apply And.intro)), rfl, insS rfl, (by repeat' (first | exact trivial | exact qA5 rfl | apply And.intro))⟩
theorem leafC_drop {K : Nat} {a : Int} {k : Nat} {l : List Cl} {c : Cl} (h : l[k]? = some c) : leafC K a k (l.drop k) = if c.kind = K ∧ a % ((2 + k : Nat) : Int) = 0 then some c else leafC K a (k + 1) (l.drop (k + 1)) := by
  rw [List.drop_eq_getElem?_toList_append, h]
  rfl
set_option maxHeartbeats 4000000 in
theorem leaf_px (l : List Raw) (n : Nat) (cols : List Cl) (hcl : cols.length ≤ 1000) (K : Nat) (hK : K ≤ 4) (r : Raw) : ∃ v : Vl, Gd v ∧ v.k = K ∧ (K ≠ 2 → 0 ≤ v.n ∧ v.n ≤ 9223372036854775807) ∧ PX Tryd.prog 64 [.px 1000 0, .d (iD K), .d (.ag r.cs)] [hpB l n cols] [] (.ag (leafF cols K r v).cs) [hpB l n cols] [] := by
  obtain ⟨v, hv, hvk, pv⟩ := valOf_pc K hK r
  refine ⟨v, hv, hvk, fun h2 => ?_, ?_⟩
  · cases hv with
    | int m => exact absurd (show K = 2 by have : (2 : Int) = (K : Int) := hvk; omega) h2
    | bool m hm => show 0 ≤ m ∧ m ≤ 9223372036854775807; omega
    | _ => exact ⟨Int.le_refl _, by show (0 : Int) ≤ 9223372036854775807; decide⟩
  have p9 := qAO r.b 9 (by omega) (by omega)
  have p4 := qAO r.b 4 (by omega) (by omega)
  have p20 := qAO r.a 20 (by omega) (by omega)
  unfold hpB leafF
  obtain ⟨oc, hoc⟩ : ∃ oc, leafC K r.a 0 cols = oc := ⟨_, rfl⟩
  rw [hoc]
  obtain ⟨rk, ra, rb, rt⟩ := r
  unfold litF
  unfold Raw.cs at *
  have hv2 : K = 2 → v.k = 2 ∧ v.b = 0 ∧ v.t = .empty := fun h2 => by
    have hk2 : v.k = 2 := by rw [hvk, h2]; rfl
    cases hv with
    | int m => exact ⟨rfl, rfl, rfl⟩
    | null => exact absurd hk2 (by decide)
    | bool m hm => exact absurd hk2 (by show ¬ (1 : Int) = 2; decide)
    | real b h1 h2 h3 => exact absurd hk2 (by show ¬ (3 : Int) = 2; decide)
    | text t h1 h2 => exact absurd hk2 (by show ¬ (4 : Int) = 2; decide)
  clear hv hvk
  obtain ⟨vk, vn, vb, vt⟩ := v
  unfold Vl.cs at *
  dsimp only at *
  refine qAW Tryd.func64 rfl (by kernel_rfl) mixed (by kernel_rfl) (qle (by kernel_rfl)) Tryd.results64 rfl ?_
  repeat (first | (with_reducible first | apply qAr | apply qAq | apply qAp | apply qAj | apply qAA) | ((with_reducible apply rp); first | ((with_reducible apply qAe); (conv => lhs; whnf)) | ((with_reducible apply qAg); exact tyOk rfl; eq_refl; eq_refl; decide; eq_refl) | ((with_reducible apply qAi); exact tyOk rfl; (iterate 4 eq_refl)) | ((with_reducible apply qAB); exact tyOk rfl; eq_refl; eq_refl) | ((with_reducible apply qAY); eq_refl)) | ((with_reducible apply rp1); first | ((with_reducible apply qAv); eq_refl; eq_refl) | ((with_reducible apply qAh); exact tyOk rfl; eq_refl)))
  refine qCh (fun m s => ∃ k, k ≤ cols.length ∧ m = cols.length - k ∧ leafC K ra k (cols.drop k) = oc ∧ s = ⟨[(0, .px 1000 0), (1, .d (iD K)), (5, .px 5 0), (6, .px 6 0), (13, .d (qBr cols)), (14, .d (iD cols.length)), (15, .d (iD k))], [(5, .var 40 [.d (iD rk), .d (iD ra), .d (iD rb), .d (strD rt)]), (6, .var 53 [.d (iD 0), .d (iD 0), .d (iD 0), .d (qD 0), .d (strD .empty), .d (strD .empty), .d .nl]), (1000, .var 83 [.d (qBo l), .d (iD n), .d (qBr cols)])]⟩) _ _ ?_ ⟨0, by omega, rfl, hoc, rfl⟩ ?_
  · refine qA7 [] (by repeat' (first | exact qAX | (refine qAN rfl (by exact SubA.refl _) ?_))) (kpX rfl) rfl (insS rfl) (insX rfl)
  · clear hoc
    rintro m s ⟨k, hk, rfl, hoc, rfl⟩
    repeat (first | (with_reducible first | apply qAr | apply qAq | apply qAp | apply qAj) | ((with_reducible apply rp); ((with_reducible apply qA0); eq_refl; eq_refl)))
    refine qAx rfl (fun hd => ?_) (fun hd => ?_)
    · have hlt : k < cols.length := by simp at hd; omega
      clear hd
      obtain ⟨c, hc⟩ : ∃ c, cols[k]? = some c := ⟨_, List.getElem?_eq_getElem hlt⟩
      have hc2 : (cols.map Cl.cs)[k]? = some c.cs := by rw [List.getElem?_map, hc]; rfl
      rw [leafC_drop hc] at hoc
      have pk := qAO ra (2 + k) (by omega) (by omega)
      obtain ⟨cn, ck, cb⟩ := c
      unfold Cl.cs at hc2
      dsimp only at *
      clear pv p9 p4 p20
      repeat (first | (with_reducible first | apply qAr | apply qAq | apply qAp | apply qAj | apply qAA | apply qAF) | ((first | (with_reducible apply rp) | ((with_reducible apply rpG); eq_refl; exact qAE rfl; (focus repeat' (first | exact trivial | exact id | apply And.intro)); intro zg; have zh := zg; (try simp only [zs1, zs2, zs3, zs4] at zg))); first | ((with_reducible apply qAc); eq_refl; eq_refl; exact (pk); eq_refl) | (exact qBe (z := ((2 + k : Nat) : Int)) rfl rfl (by omega) (by omega) (by omega)) | ((with_reducible first | apply qAe | apply qAd); (conv => lhs; whnf)) | ((with_reducible first | apply qAT | apply qAg | apply qAi | apply qAC) <;> first | ((with_reducible apply tyOk); eq_refl) | eq_refl | exact id | decide) | ((with_reducible apply qAo); exact tyOk rfl; eq_refl; eq_refl; assumption; eq_refl) | ((with_reducible apply qAz); exact tyOk rfl; eq_refl; exact tyOk rfl; (iterate 4 eq_refl); (simp only [List.length_map, List.length_append, List.length_cons, List.length_nil] at *; omega))) | ((with_reducible apply rp1); ((with_reducible apply qAh); exact tyOk rfl; eq_refl)) | ((with_reducible apply rpN); ((with_reducible apply qAf); exact tyOk rfl; (iterate 5 eq_refl))))
      refine qAx rfl (fun hd => ?_) (fun hd => ?_)
      · have hd2 : ck = K ∧ ra % ((2 + k : Nat) : Int) = 0 := by
          simp only [Bool.and_eq_true, beq_iff_eq] at hd
          exact ⟨by omega, hd.2⟩
        rw [if_pos hd2] at hoc
        subst hoc
        repeat (first | (with_reducible first | apply qAr | apply qAq | apply qAp | apply qAj | apply qAK | apply qBg | apply qBw | apply qBi) | ((with_reducible apply rp); first | ((with_reducible apply qAg); exact tyOk rfl; eq_refl; eq_refl; decide; eq_refl) | ((with_reducible apply qAi); exact tyOk rfl; (iterate 4 eq_refl)) | ((with_reducible apply qAG); exact tyOk rfl; eq_refl; eq_refl; (focus repeat' (first | eq_refl | refine ⟨_, _, rfl, rfl, qle rfl, rfl, ?_⟩)); eq_refl)) | ((with_reducible apply rpN); ((with_reducible apply qAf); exact tyOk rfl; (iterate 5 eq_refl))))
        (with_reducible apply qA1 (l := [])); (focus (repeat' (first | (with_reducible apply qAJ) | (with_reducible apply qAD) | ((with_reducible apply qAZ); eq_refl; eq_refl; exact tyOk rfl; eq_refl; eq_refl)))); eq_refl; exact qE1 _; refine ⟨(by repeat' (first | exact qAX | (refine qAN rfl (by exact SubA.refl _) ?_))), (by repeat' (first | exact trivial | eq_refl | apply And.intro)), rfl, insS rfl, (by repeat' (first | exact trivial | exact qA5 rfl | apply And.intro))⟩
      · have hd2 : ¬ (ck = K ∧ ra % ((2 + k : Nat) : Int) = 0) := by
          rintro ⟨h1, h2⟩
          rw [h1, h2] at hd
          simp at hd
        rw [if_neg hd2] at hoc
        repeat (first | (with_reducible first | apply qAq | apply qAp | apply qAj | apply qA4 | apply qAF) | ((with_reducible apply rp); first | ((with_reducible apply qAe); (conv => lhs; whnf)) | ((with_reducible apply qAV); eq_refl; eq_refl; omega; omega)))
        refine ⟨_, _, ?_, ?_, k + 1, by omega, rfl, hoc, rfl⟩
        · omega
        · refine qA7 [] (by repeat' (first | exact qAX | (refine qAN rfl (by exact SubA.refl _) ?_))) (kpX rfl) rfl (insS rfl) (insX rfl)
    · have hke : k = cols.length := by simp at hd; omega
      clear hd
      subst hke
      rw [List.drop_length] at hoc
      have hoc : none = oc := hoc
      subst hoc
      dsimp only
      repeat (first | (with_reducible first | apply qAr | apply qAq | apply qAp | apply qAj | apply qAA | apply qCb | apply qCd | apply qCc) | ((with_reducible apply rp); first | ((with_reducible apply qAc); eq_refl; eq_refl; exact (pv); eq_refl) | ((with_reducible apply qAc); eq_refl; eq_refl; exact (p9); eq_refl) | ((with_reducible apply qAe); (conv => lhs; whnf)) | ((with_reducible apply qAd); (conv => lhs; whnf)) | ((with_reducible apply qAg); exact tyOk rfl; eq_refl; eq_refl; decide; eq_refl) | ((with_reducible apply qAi); exact tyOk rfl; (iterate 4 eq_refl)) | ((with_reducible apply qAn); exact tyOk rfl; (iterate 3 eq_refl); exact qle rfl; eq_refl) | ((with_reducible apply qAC); eq_refl; eq_refl)) | ((with_reducible apply rp1); ((with_reducible apply qAh); exact tyOk rfl; eq_refl)) | ((with_reducible apply rpN); ((with_reducible apply qAf); exact tyOk rfl; (iterate 5 eq_refl))))
      refine qAx rfl (fun hd => ?_) (fun hd => ?_)
      · have h9 : rb % 9 = 0 := by simpa using hd
        rw [if_pos h9]
        repeat (first | (with_reducible first | apply qAr | apply qAq | apply qAp | apply qAj | apply qA4 | apply qAK | apply qBi) | ((with_reducible apply rp); first | ((with_reducible apply qAn); exact tyOk rfl; (iterate 3 eq_refl); exact qle rfl; eq_refl) | ((with_reducible apply qBE); exact tyOk rfl; eq_refl; eq_refl) | ((with_reducible apply qAG); exact tyOk rfl; eq_refl; eq_refl; (focus repeat' (first | eq_refl | refine ⟨_, _, rfl, rfl, qle rfl, rfl, ?_⟩)); eq_refl)) | ((with_reducible apply rpN); ((with_reducible apply qAf); exact tyOk rfl; (iterate 5 eq_refl))))
        (with_reducible apply qA1 (l := [])); (focus (repeat' (first | (with_reducible apply qAJ) | (with_reducible apply qAD) | ((with_reducible apply qAZ); eq_refl; eq_refl; exact tyOk rfl; eq_refl; eq_refl)))); eq_refl; exact qE1 _; refine ⟨(by repeat' (first | exact qAX | (refine qAN rfl (by exact SubA.refl _) ?_))), (by repeat' (first | exact trivial | eq_refl | apply And.intro)), rfl, insS rfl, (by repeat' (first | exact trivial | exact qA5 rfl | apply And.intro))⟩
      · have h9 : ¬ rb % 9 = 0 := by simpa using hd
        rw [if_neg h9]
        repeat (first | (with_reducible first | apply qAr | apply qAq | apply qAp | apply qAj) | ((first | (with_reducible apply rp) | ((with_reducible apply rpG); eq_refl; exact qAE rfl; (focus repeat' (first | exact trivial | exact id | apply And.intro)); intro zg; have zh := zg; (try simp only [zs1, zs2, zs3, zs4] at zg))); first | ((with_reducible apply qAc); eq_refl; eq_refl; exact (p4); eq_refl) | ((with_reducible first | apply qAe | apply qAd); (conv => lhs; whnf)) | ((with_reducible first | apply qAT | apply qAg | apply qAi | apply qAC) <;> first | ((with_reducible apply tyOk); eq_refl) | eq_refl | exact id | decide)))
        refine qAx rfl (fun hd => ?_) (fun hd => ?_)
        · have h4 : K = 2 ∧ rb % 4 = 0 := by
            simp only [Bool.and_eq_true, beq_iff_eq] at hd
            exact ⟨by omega, hd.2⟩
          rw [if_pos h4]
          obtain ⟨q1, q2, q3⟩ := hv2 h4.1
          subst q1 q2 q3
          repeat (first | (with_reducible first | apply qAr | apply qAq | apply qAp | apply qAj | apply qA4 | apply qAK | apply qBi) | ((with_reducible apply rp); first | ((with_reducible apply qAg); exact tyOk rfl; eq_refl; eq_refl; decide; eq_refl) | ((with_reducible apply qAi); exact tyOk rfl; (iterate 4 eq_refl)) | ((with_reducible apply qAn); exact tyOk rfl; (iterate 3 eq_refl); exact qle rfl; eq_refl) | ((with_reducible apply does_band); eq_refl; eq_refl) | ((with_reducible apply qAG); exact tyOk rfl; eq_refl; eq_refl; (focus repeat' (first | eq_refl | refine ⟨_, _, rfl, rfl, qle rfl, rfl, ?_⟩)); eq_refl)) | ((with_reducible apply rpN); first | ((with_reducible apply qBh); exact tyOk rfl; eq_refl; eq_refl; (conv => lhs; whnf); eq_refl; eq_refl; exact qle rfl) | ((with_reducible apply qAf); exact tyOk rfl; (iterate 5 eq_refl))))
          (with_reducible apply qA1 (l := [])); (focus (repeat' (first | (with_reducible apply qAJ) | (with_reducible apply qAD) | ((with_reducible apply qAZ); eq_refl; eq_refl; exact tyOk rfl; eq_refl; eq_refl)))); eq_refl; exact qE1 _; refine ⟨(by repeat' (first | exact qAX | (refine qAN rfl (by exact SubA.refl _) ?_))), (by repeat' (first | exact trivial | eq_refl | apply And.intro)), rfl, insS rfl, (by repeat' (first | exact trivial | exact qA5 rfl | apply And.intro))⟩
        · have h4 : ¬ (K = 2 ∧ rb % 4 = 0) := by
            rintro ⟨h1, h2⟩
            have h2 : rb % ((4 : Nat) : Int) = 0 := h2
            rw [h1, h2] at hd
            simp at hd
          rw [if_neg h4]
          repeat (first | (with_reducible first | apply qAr | apply qAq | apply qAp | apply qAj) | ((with_reducible apply rp); first | ((with_reducible apply qAe); (conv => lhs; whnf)) | ((with_reducible apply qAd); (conv => lhs; whnf)) | ((with_reducible apply qAC); eq_refl; eq_refl)))
          refine qAx rfl (fun hd => ?_) (fun hd => ?_)
          · have h2 : K = 2 := by simp at hd; omega
            rw [if_pos h2]
            obtain ⟨q1, q2, q3⟩ := hv2 h2
            subst q1 q2 q3
            repeat (first | (with_reducible first | apply qAr | apply qAq | apply qAp | apply qAj | apply qA4 | apply qAK | apply qBi) | ((with_reducible apply rp); first | ((with_reducible apply qAc); eq_refl; eq_refl; exact (p20); eq_refl) | ((with_reducible apply qAg); exact tyOk rfl; eq_refl; eq_refl; decide; eq_refl) | ((with_reducible apply qAi); exact tyOk rfl; (iterate 4 eq_refl)) | ((with_reducible apply qAn); exact tyOk rfl; (iterate 3 eq_refl); exact qle rfl; eq_refl) | ((with_reducible apply qAG); exact tyOk rfl; eq_refl; eq_refl; (focus repeat' (first | eq_refl | refine ⟨_, _, rfl, rfl, qle rfl, rfl, ?_⟩)); eq_refl)) | ((with_reducible apply rpN); first | ((with_reducible apply qBh); exact tyOk rfl; eq_refl; eq_refl; (conv => lhs; whnf); eq_refl; eq_refl; exact qle rfl) | ((with_reducible apply qAf); exact tyOk rfl; (iterate 5 eq_refl))))
            (with_reducible apply qA1 (l := [])); (focus (repeat' (first | (with_reducible apply qAJ) | (with_reducible apply qAD) | ((with_reducible apply qAZ); eq_refl; eq_refl; exact tyOk rfl; eq_refl; eq_refl)))); eq_refl; exact qE1 _; refine ⟨(by repeat' (first | exact qAX | (refine qAN rfl (by exact SubA.refl _) ?_))), (by repeat' (first | exact trivial | eq_refl | apply And.intro)), rfl, insS rfl, (by repeat' (first | exact trivial | exact qA5 rfl | apply And.intro))⟩
          · have h2 : ¬ K = 2 := by simp at hd; omega
            rw [if_neg h2]
            repeat (first | (with_reducible first | apply qAr | apply qAq | apply qAp | apply qAj | apply qA4 | apply qAK | apply qBi | apply qAF) | ((with_reducible apply rp); first | ((with_reducible apply qAn); exact tyOk rfl; (iterate 3 eq_refl); exact qle rfl; eq_refl) | ((with_reducible apply qAG); exact tyOk rfl; eq_refl; eq_refl; (focus repeat' (first | eq_refl | refine ⟨_, _, rfl, rfl, qle rfl, rfl, ?_⟩)); eq_refl)) | ((with_reducible apply rpN); ((with_reducible apply qAf); exact tyOk rfl; (iterate 5 eq_refl))))
            (with_reducible apply qA1 (l := [])); (focus (repeat' (first | (with_reducible apply qAJ) | (with_reducible apply qAD) | ((with_reducible apply qAZ); eq_refl; eq_refl; exact tyOk rfl; eq_refl; eq_refl)))); eq_refl; exact qE1 _; refine ⟨(by repeat' (first | exact qAX | (refine qAN rfl (by exact SubA.refl _) ?_))), (by repeat' (first | exact trivial | eq_refl | apply And.intro)), rfl, insS rfl, (by repeat' (first | exact trivial | exact qA5 rfl | apply And.intro))⟩
end Go.Proofs.YtlpnnnmdkglkcaaDoor


/-
  chirographkeep.heapOf. No condition.
-/
namespace Go.Proofs.YtlpnnnmdkglkcaaDoor
open Go.RowKit

abbrev colsH (l : List Raw) : List Cl := colsF (l.take (l.length % 4))
set_option maxHeartbeats 1000000 in
theorem heapOf_pg (l : List Raw) : PG Tryd.prog 40 [.d (qBo l)] [] [] (.px 2000 0) [] [(2000, .var 83 [.d (qBo (l.take 40)), .d (iD 0), .d (qBr (colsF (l.take (l.length % 4))))])] := by
  have s1 := some_pc l 40
  have hm : (l.length : Int) % ((4 : Nat) : Int) = ((l.length % 4 : Nat) : Int) := by omega
  have p1 := qAO (l.length : Int) 4 (by omega) (by omega)
  rw [hm] at p1
  have s2 := some_pc l (l.length % 4)
  have c1 := cols_pc (l.take (l.length % 4))
  generalize l.take (l.length % 4) = q at *
  generalize l.take 40 = t at *
  generalize colsF q = cs at *
  refine pg_of_aw Tryd.func40 rfl (by kernel_rfl) mixed (by kernel_rfl) (qle (by kernel_rfl)) Tryd.results40 rfl ?_
  repeat (first | (with_reducible first | apply qAr | apply qAq | apply qAp | apply qAj | apply qAK | apply xg_ret) | ((with_reducible apply rp); first | ((with_reducible apply qAH); (iterate 3 eq_refl); exact (s1)) | ((with_reducible apply qAc); eq_refl; eq_refl; exact (p1); eq_refl) | ((with_reducible apply qAH); (iterate 3 eq_refl); exact (s2)) | ((with_reducible apply qAH); (iterate 3 eq_refl); exact (c1)) | ((with_reducible apply qAe); (conv => lhs; whnf)) | ((with_reducible apply qAd); (conv => lhs; whnf)) | ((with_reducible apply qAB); exact tyOk rfl; eq_refl; eq_refl) | ((with_reducible apply qAG); exact tyOk rfl; eq_refl; eq_refl; (focus repeat' (first | eq_refl | refine ⟨_, _, rfl, rfl, qle rfl, rfl, ?_⟩)); eq_refl)) | ((with_reducible apply rp1); ((with_reducible apply qAv); eq_refl; eq_refl)))
  (with_reducible apply retg_ok (l := [(2000, 12)])); (focus (repeat' (first | (with_reducible apply qAJ) | (with_reducible apply qAD) | ((with_reducible apply qBb); eq_refl)))); rotate_left; refine ⟨(by repeat' exact qAX), (by repeat' (first | exact trivial | eq_refl | apply And.intro)), rfl, insS rfl, (by repeat' (first | exact trivial | apply And.intro))⟩; refine SubA.of_eq ?_
  rfl
end Go.Proofs.YtlpnnnmdkglkcaaDoor

