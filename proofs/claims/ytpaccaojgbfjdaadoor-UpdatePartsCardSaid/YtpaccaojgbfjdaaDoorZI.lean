/-
  What chirographkeep's heap of raw things makes: columns, raw things, literals and columns of an expression. No program in sight.
-/
import Derived.Test.YtpaccaojgbfjdaaDoorZEx
import Derived.Test.YtpaccaojgbfjdaaDoorZD
import Derived.Test.YtpaccaojgbfjdaaDoorZA
import Derived.Test.YtpaccaojgbfjdaaDoorZJ
import Derived.Test.YtpaccaojgbfjdaaDoorZG
import Derived.Test.YtpaccaojgbfjdaaDoorZC
set_option linter.unusedSimpArgs false
set_option linter.unusedVariables false
namespace Go.Proofs.YtpaccaojgbfjdaaDoor
open Go.RowKit

abbrev kN : ByteArray := { data := #[107] }
abbrev zzN : ByteArray := { data := #[122, 122] }
abbrev abcN : ByteArray := { data := #[97, 98, 99] }
def abcF (i : Nat) : ByteArray := abcN.extract i (i + 1)
def clF (i : Nat) (r : Raw) : Cl := ⟨abcF i, 1 + (r.kind % 4).toNat, decide (r.a % 2 = 0)⟩
def clsF : Nat → List Raw → List Cl
  | _, [] => []
  | i, r :: l => clF i r :: clsF (i + 1) l
def qDw (l : List Raw) : List Cl := ⟨kN, 2, false⟩ :: clsF 0 (l.take 3)
theorem qFh : ∀ (i : Nat) (l : List Raw), (clsF i l).length = l.length
  | _, [] => rfl
  | i, r :: l => by rw [clsF, List.length_cons, qFh, List.length_cons]
theorem qE8 : ∀ (i : Nat) (l : List Raw) (k : Nat), (clsF i l)[k]? = (l[k]?).map (clF (i + k))
  | _, [], _ => rfl
  | i, r :: l, 0 => rfl
  | i, r :: l, k + 1 => by
    show (clsF (i + 1) l)[k]? = (l[k]?).map (clF (i + (k + 1)))
    rw [qE8, show i + 1 + k = i + (k + 1) by omega]
theorem clsF_app (i : Nat) : ∀ (l : List Raw) (r : Raw), clsF i (l ++ [r]) = clsF i l ++ [clF (i + l.length) r]
  | [], r => rfl
  | x :: l, r => by
    have := clsF_app (i + 1) l r
    rw [List.cons_append, clsF, clsF, this, List.cons_append, List.length_cons, show i + 1 + l.length = i + (l.length + 1) by omega]
theorem abc_ok {i : Nat} (h : i < 3) : qC8 (abcF i) ∧ abcF i ≠ kN ∧ abcF i ≠ zzN := by
  rcases (by omega : i = 0 ∨ i = 1 ∨ i = 2) with rfl | rfl | rfl <;> (refine ⟨by decide, by decide, by decide⟩)
theorem abc_inj {i j : Nat} (hi : i < 3) (hj : j < 3) (h : abcF i = abcF j) : i = j := by
  rcases (by omega : i = 0 ∨ i = 1 ∨ i = 2) with rfl | rfl | rfl <;> rcases (by omega : j = 0 ∨ j = 1 ∨ j = 2) with rfl | rfl | rfl <;> first | rfl | exact absurd h (by decide)
theorem clsF_mem {l : List Raw} {c : Cl} (hl : l.length ≤ 3) (h : c ∈ clsF 0 l) : ∃ i r, i < 3 ∧ c = clF i r := by
  obtain ⟨k, hk⟩ := List.getElem?_of_mem h
  rw [qE8] at hk
  rcases hr : l[k]? with _ | r
  · rw [hr] at hk; cases hk
  · rw [hr] at hk
    injection hk with hk
    have := (List.getElem?_eq_some_iff.1 hr).1
    exact ⟨k, r, by omega, by rw [← hk, Nat.zero_add]⟩
theorem colsF_ok (l : List Raw) : ColsOk (qDw l) := by
  have hl : (l.take 3).length ≤ 3 := by rw [List.length_take]; omega
  refine ⟨?_, fun c hc => ?_, fun c hc => ?_, ?_⟩
  · unfold qDw
    rw [List.length_cons, qFh]
    omega
  · rcases List.mem_cons.1 hc with rfl | hc
    · decide
    · obtain ⟨i, r, hi, rfl⟩ := clsF_mem hl hc
      exact (abc_ok hi).1
  · rcases List.mem_cons.1 hc with rfl | hc
    · exact ⟨by decide, by decide⟩
    · obtain ⟨i, r, hi, rfl⟩ := clsF_mem hl hc
      show 1 ≤ 1 + (r.kind % 4).toNat ∧ 1 + (r.kind % 4).toNat ≤ 4
      omega
  · unfold qDw
    rw [List.pairwise_cons]
    refine ⟨fun c hc => ?_, ?_⟩
    · obtain ⟨i, r, hi, rfl⟩ := clsF_mem hl hc
      exact fun h => (abc_ok hi).2.1 h.symm
    · rw [List.pairwise_iff_getElem]
      intro i j hi hj hij he
      have h1 : (clsF 0 (l.take 3))[i]? = some (clsF 0 (l.take 3))[i] := List.getElem?_eq_getElem hi
      have h2 : (clsF 0 (l.take 3))[j]? = some (clsF 0 (l.take 3))[j] := List.getElem?_eq_getElem hj
      rw [qFh] at hi hj
      rw [qE8, List.getElem?_eq_getElem hi] at h1
      rw [qE8, List.getElem?_eq_getElem hj] at h2
      injection h1 with h1
      injection h2 with h2
      rw [← h1, ← h2] at he
      have := abc_inj (i := 0 + i) (j := 0 + j) (by omega) (by omega) he
      omega
def qBa (l : List Raw) (at' : Nat) : Raw := match l[at' % l.length]? with
  | none => ⟨0, (at' + 1 : Nat), (at' + 1 : Nat), .empty⟩
  | some r => ⟨r.kind, IntKind.i64.wrap (r.a + ((at' + 1) / l.length : Nat)), r.b, r.text⟩
def leafC (K : Nat) (a : Int) : Nat → List Cl → Option Cl
  | _, [] => none
  | i, c :: l => if c.kind = K ∧ a % ((2 + i : Nat) : Int) = 0 then some c else leafC K a (i + 1) l
theorem leafC_mem {K : Nat} {a : Int} : ∀ {i : Nat} {l : List Cl} {c : Cl}, leafC K a i l = some c → c ∈ l ∧ c.kind = K
  | i, d :: l, c, h => by
    unfold leafC at h
    split at h
    · rename_i hc
      injection h with h
      subst h
      exact ⟨List.mem_cons_self, hc.1⟩
    · obtain ⟨h1, h2⟩ := leafC_mem h
      exact ⟨List.mem_cons_of_mem _ h1, h2⟩
theorem mask_nn (a : Int) : 0 ≤ bitV .and .i64 a 9223372036854775807 ∧ bitV .and .i64 a 9223372036854775807 ≤ 9223372036854775807 := by
  show 0 ≤ IntKind.i64.wrap ((BitVec.ofInt 64 a &&& BitVec.ofInt 64 9223372036854775807).toNat : Int) ∧ IntKind.i64.wrap ((BitVec.ofInt 64 a &&& BitVec.ofInt 64 9223372036854775807).toNat : Int) ≤ 9223372036854775807
  have h : (BitVec.ofInt 64 a &&& BitVec.ofInt 64 9223372036854775807).toNat ≤ 9223372036854775807 := by
    rw [BitVec.toNat_and]
    exact Nat.le_trans Nat.and_le_right (by decide)
  rw [qDK (by omega) (by omega)]
  omega
def litF (K : Nat) (r : Raw) (v : Vl) : Vl :=
  if r.b % 9 = 0 then ⟨0, 0, 0, .empty⟩ else if K = 2 ∧ r.b % 4 = 0 then ⟨2, bitV .and .i64 r.a 9223372036854775807, 0, .empty⟩ else if K = 2 then ⟨2, r.a % 20, 0, .empty⟩ else v
theorem litF_gx {cols : List Cl} {K d : Nat} (r : Raw) {v : Vl} (hv : Gd v) (hk : v.k = K) (hn : K ≠ 2 → 0 ≤ v.n ∧ v.n ≤ 9223372036854775807) : Gx cols K (d + 1) (.lit (litF K r v)) := by
  unfold litF
  split
  · exact .lit .null ⟨Int.le_refl _, by decide⟩ (.inr rfl)
  · split
    · rename_i h
      obtain ⟨rfl, _⟩ := h
      exact .lit (.int _) (mask_nn r.a) (.inl rfl)
    · split
      · rename_i h
        subst h
        exact .lit (.int _) (show 0 ≤ r.a % 20 ∧ r.a % 20 ≤ 9223372036854775807 by omega) (.inl rfl)
      · rename_i h
        exact .lit hv (hn h) (.inl hk)
def leafF (cols : List Cl) (K : Nat) (r : Raw) (v : Vl) : Ex := match leafC K r.a 0 cols with
  | some c => .col c.name
  | none => .lit (litF K r v)
theorem leafF_gx {cols : List Cl} {K d : Nat} (r : Raw) {v : Vl} (hv : Gd v) (hk : v.k = K) (hn : K ≠ 2 → 0 ≤ v.n ∧ v.n ≤ 9223372036854775807) : Gx cols K (d + 1) (leafF cols K r v) := by
  unfold leafF
  split
  · rename_i c hc
    obtain ⟨h1, h2⟩ := leafC_mem hc
    exact .col h1 h2
  · exact litF_gx r hv hk hn
end Go.Proofs.YtpaccaojgbfjdaaDoor


/-
  chirographkeep's heap of raw things: Cols, next, leaf, op1, op2 as contracts. No condition but the sizes.
-/
namespace Go.Proofs.YtpaccaojgbfjdaaDoor
open Go.RowKit

section
variable {P : Program} {fr : Nat} {dst : Option Nat} {ty : TypeId} {e : Operand → A} {β : Bx}
theorem does_frzV {op : Op} (t : Nat) {id n sz : Nat} {es : List (List D)} {v : A} {rd : List Nat} (hx : e (.tmp t) = .ow id n) (hro : qBB β id = some (sz, es))
    (h : Does P dst op ty (setE e t (.d (.sl sz es))) ([(id, .frz sz es)] ++ β) v [] rd) : Does P dst op ty e β v [(id, .frz sz es)] (id :: rd) := does_frz t hx hro h
end
theorem qET (a : D) {b c d e f : D} : SubD (.ag [a, b, c, d, e, f, .nl]) (.ag [a, b, c, d, e, f, .sl 7 []]) :=
  SubD.ag (qBK.cons (SubD.refl _) (fun h => h) (qBK.cons (SubD.refl _) (fun h => h) (qBK.cons (SubD.refl _) (fun h => h) (qBK.cons (SubD.refl _) (fun h => h) (qBK.cons (SubD.refl _) (fun h => h) (qBK.cons (SubD.refl _) (fun h => h) (qBK.cons (SubD.nil 7) (fun h => h) qBK.nil)))))))
theorem op1_pc (op : Nat) (a : Ex) : PC Tryd.prog 47 [iD op, .ag a.cs] (.ag (Ex.un op a).cs) := by
  show PC _ _ _ (.ag [iD op, iD 0, iD 0, qD 0, strD .empty, strD .empty, .sl 7 [a.cs]])
  have hcl := a.cs_eq
  generalize a.cs = c at *
  subst hcl
  refine qAs Tryd.func47 rfl (by kernel_rfl) mixed (by kernel_rfl) (qle (by kernel_rfl)) Tryd.results47 ?_
  repeat (first | ((with_reducible apply rp1); (with_reducible apply does_frzV 7); eq_refl; eq_refl; (with_reducible apply qAR); exact tyOk rfl; eq_refl; eq_refl; (focus repeat' (first | eq_refl | refine ⟨_, _, rfl, rfl, qle rfl, rfl, ?_⟩)); eq_refl) | (with_reducible first | apply qAj | apply qAi | apply qAh | apply qAf | apply qAu | apply qAz) | ((with_reducible apply rp); first | ((with_reducible apply qAd); (conv => lhs; whnf)) | ((with_reducible apply qAl); exact tyOk rfl; (iterate 3 eq_refl); exact qle rfl; eq_refl)) | ((with_reducible apply rp1); first | ((with_reducible apply qAp); eq_refl; eq_refl) | ((with_reducible apply qAk); exact tyOk rfl; eq_refl) | ((with_reducible apply qA2); exact tyOk rfl; eq_refl; exact tyOk rfl; eq_refl; eq_refl; (focus repeat' (first | exact trivial | refine And.intro rfl (And.intro rfl ?_))); decide; decide; eq_refl)) | ((with_reducible apply rpN); ((with_reducible apply qAb); exact tyOk rfl; (iterate 5 eq_refl))))
  (with_reducible apply qAA); (focus (repeat' (first | (with_reducible apply qAv) | (with_reducible apply qAq) | ((with_reducible apply qAy); eq_refl; eq_refl; exact tyOk rfl; eq_refl; eq_refl)))); eq_refl; refine SubD.of_eq ?_
  rfl
theorem qCv (op : Nat) (a b : Ex) : PC Tryd.prog 21 [iD op, .ag a.cs, .ag b.cs] (.ag (Ex.bi op a b).cs) := by
  show PC _ _ _ (.ag [iD op, iD 0, iD 0, qD 0, strD .empty, strD .empty, .sl 7 [a.cs, b.cs]])
  have hcl := a.cs_eq
  have hdl := b.cs_eq
  generalize a.cs = c at *
  generalize b.cs = d at *
  subst hcl hdl
  refine qAs Tryd.func21 rfl (by kernel_rfl) mixed (by kernel_rfl) (qle (by kernel_rfl)) Tryd.results21 ?_
  repeat (first | ((with_reducible apply rp1); (with_reducible apply does_frzV 10); eq_refl; eq_refl; (with_reducible apply qAR); exact tyOk rfl; eq_refl; eq_refl; (focus repeat' (first | eq_refl | refine ⟨_, _, rfl, rfl, qle rfl, rfl, ?_⟩)); eq_refl) | (with_reducible first | apply qAj | apply qAi | apply qAh | apply qAf | apply qAu | apply qAz) | ((with_reducible apply rp); first | ((with_reducible apply qAd); (conv => lhs; whnf)) | ((with_reducible apply qAl); exact tyOk rfl; (iterate 3 eq_refl); exact qle rfl; eq_refl)) | ((with_reducible apply rp1); first | ((with_reducible apply qAp); eq_refl; eq_refl) | ((with_reducible apply qAk); exact tyOk rfl; eq_refl) | ((with_reducible apply qA2); exact tyOk rfl; eq_refl; exact tyOk rfl; eq_refl; eq_refl; (focus repeat' (first | exact trivial | refine And.intro rfl (And.intro rfl ?_))); decide; decide; eq_refl)) | ((with_reducible apply rpN); ((with_reducible apply qAb); exact tyOk rfl; (iterate 5 eq_refl))))
  (with_reducible apply qAA); (focus (repeat' (first | (with_reducible apply qAv) | (with_reducible apply qAq) | ((with_reducible apply qAy); eq_refl; eq_refl; exact tyOk rfl; eq_refl; eq_refl)))); eq_refl; refine SubD.of_eq ?_
  rfl
set_option maxHeartbeats 1000000 in
theorem cols_pc (l0 : List Raw) : PC Tryd.prog 35 [qBh l0] (qAW (qDw l0)) := by
  have s1 := some_pc l0 3
  unfold qDw
  have hl : (l0.take 3).length ≤ 3 := by rw [List.length_take]; omega
  generalize l0.take 3 = l at *
  refine qAs Tryd.func35 rfl (by kernel_rfl) mixed (by kernel_rfl) (qle (by kernel_rfl)) Tryd.results35 ?_
  repeat (first | (with_reducible first | apply qAj | apply qAi | apply qAh | apply qAf | apply qAo) | ((with_reducible apply rp); first | ((with_reducible apply qAK); (iterate 3 eq_refl); exact (s1)) | ((with_reducible apply qAd); (conv => lhs; whnf)) | ((with_reducible apply qAa); (conv => lhs; whnf)) | ((with_reducible apply qA7); exact tyOk rfl; eq_refl; eq_refl) | ((with_reducible apply qAR); exact tyOk rfl; eq_refl; eq_refl; (focus repeat' (first | eq_refl | refine ⟨_, _, rfl, rfl, qle rfl, rfl, ?_⟩)); eq_refl)) | ((with_reducible apply rp1); ((with_reducible apply qA2); exact tyOk rfl; eq_refl; exact tyOk rfl; eq_refl; eq_refl; (focus repeat' (first | exact trivial | refine And.intro rfl (And.intro rfl ?_))); decide; decide; eq_refl)))
  refine qBf (fun m s => ∃ k, k ≤ l.length ∧ m = l.length - k ∧ s = ⟨[(3, .ow 1000 (k + 1)), (9, .d (qBh l)), (10, .d (iD l.length)), (11, .d (iD k))], [(1000, .row 52 3 ([strD kN, iD 2, bD false] :: (clsF 0 (l.take k)).map Cl.cs))]⟩) _ _ ?_ ⟨0, by omega, rfl, rfl⟩ ?_
  · refine qAw [(1000, 7)] (by repeat' (first | exact qAG | (refine qAx rfl (by exact SubA.refl _) ?_))) ?_ rfl (by repeat' (first | exact trivial | exact qBJ rfl | apply And.intro)) (by repeat' (first | exact trivial | exact qBJ rfl | apply And.intro))
    exact qCB rfl (qEW rfl) qEY
  · rintro m s ⟨k, hk, rfl, rfl⟩
    repeat (first | (with_reducible first | apply qAj | apply qAi | apply qAh | apply qAf) | ((with_reducible apply rp); ((with_reducible apply qAN); eq_refl; eq_refl)))
    refine qAn rfl (fun hd => ?_) (fun hd => ?_)
    · have hlt : k < l.length := by simp at hd; omega
      clear hd s1
      obtain ⟨r, hr⟩ : ∃ r, l[k]? = some r := ⟨_, List.getElem?_eq_getElem hlt⟩
      have hr2 : (l.map Raw.cs)[k]? = some r.cs := by rw [List.getElem?_map, hr]; rfl
      have p1 := qAQ r.kind 4 (by omega) (by omega)
      have p2 := qAQ r.a 2 (by omega) (by omega)
      have e1 : (clsF 0 (l.take (k + 1))).map Cl.cs = (clsF 0 (l.take k)).map Cl.cs ++ [(clF k r).cs] := by
        rw [List.take_add_one, hr]
        show (clsF 0 (l.take k ++ [r])).map Cl.cs = _
        rw [clsF_app, List.map_append, List.length_take]
        have e : 0 + min k l.length = k := by omega
        rw [e]
        rfl
      have l1 : ((clsF 0 (l.take k)).map Cl.cs).length = k := by rw [List.length_map, qFh, List.length_take]; omega
      generalize (clsF 0 (l.take k)).map Cl.cs = o at *
      obtain ⟨rk, ra, rb, rt⟩ := r
      unfold Raw.cs at hr2
      unfold clF at e1
      dsimp only at *
      obtain ⟨u, hu⟩ : ∃ u : Nat, rk % ((4 : Nat) : Int) = u := ⟨(rk % 4).toNat, by omega⟩
      rw [hu] at p1
      have hu2 : (rk % 4).toNat = u := by omega
      rw [hu2] at e1
      have hv : (ra % ((2 : Nat) : Int) == 0) = decide (ra % 2 = 0) := by rw [Bool.eq_iff_iff, beq_iff_eq, decide_eq_true_eq]; omega
      repeat (first | (with_reducible first | apply qAj | apply qAi | apply qAh | apply qAf | apply qA4 | apply qAo | apply qAF | apply qAm) | ((with_reducible apply qBg); (first | kernel_rfl | eq_refl)) | ((with_reducible first | apply rp | apply dr); first | ((with_reducible apply qAg); eq_refl; eq_refl; (first | exact (p1) | exact (p2)); eq_refl) | (exact qBE (z := ((1 + u : Nat) : Int)) rfl rfl (by omega) (by omega) (by omega)) | (exact does_slice_str (s := abcN) (l := k) (h := k + 1) (tyOk rfl) rfl rfl ⟨_, _, rfl, rfl⟩ ⟨_, _, rfl, rfl⟩ (by omega) (show k + 1 ≤ 3 by omega)) | ((with_reducible first | apply qAd | apply qAa); (conv => lhs; whnf)) | ((with_reducible first | apply qAc | apply qAe | apply qAr) <;> first | ((with_reducible apply tyOk); eq_refl) | eq_refl | decide) | ((with_reducible apply qAE); exact tyOk rfl; eq_refl; eq_refl; assumption; eq_refl) | ((with_reducible apply qAH); exact tyOk rfl; eq_refl; exact tyOk rfl; (iterate 4 eq_refl); (first | (dsimp only; simp only [List.length_map, List.length_append, List.length_cons, List.length_nil] at *; omega) | (simp only [List.length_map, List.length_append, List.length_cons, List.length_nil] at *; omega))) | ((with_reducible apply qAI); eq_refl; eq_refl; omega; omega) | ((with_reducible apply qAR); exact tyOk rfl; eq_refl; eq_refl; (focus repeat' (first | eq_refl | refine ⟨_, _, rfl, rfl, qle rfl, rfl, ?_⟩)); eq_refl)) | ((with_reducible first | apply rp1 | apply dr1); first | ((with_reducible apply qAk); exact tyOk rfl; eq_refl) | ((with_reducible apply qA2); exact tyOk rfl; eq_refl; exact tyOk rfl; eq_refl; eq_refl; (focus repeat' (first | exact trivial | refine And.intro rfl (And.intro rfl ?_))); decide; decide; eq_refl)) | ((with_reducible apply dr2); ((with_reducible apply qBm); exact tyOk rfl; eq_refl; exact tyOk rfl; (iterate 3 eq_refl); decide; (first | (dsimp only; simp only [List.length_map, List.length_append, List.length_cons, List.length_nil] at *; omega) | (simp only [List.length_map, List.length_append, List.length_cons, List.length_nil] at *; omega)); (first | (dsimp only; simp only [List.length_map, List.length_append, List.length_cons, List.length_nil] at *; omega) | (simp only [List.length_map, List.length_append, List.length_cons, List.length_nil] at *; omega)); eq_refl)) | ((with_reducible apply rpN); ((with_reducible apply qAb); exact tyOk rfl; (iterate 5 eq_refl))))
      refine ⟨_, _, ?_, ?_, k + 1, by omega, rfl, rfl⟩
      · omega
      · rw [e1]
        refine qAw [(1000, 31)] (by repeat' (first | exact qAG | (refine qAx rfl (by (first | exact SubA.refl _ | exact qDs (by (simp; omega)))) ?_))) ?_ rfl (by repeat' (first | exact trivial | exact qBJ rfl | apply And.intro)) (by repeat' (first | exact trivial | exact qBJ rfl | apply And.intro))
        exact qCB rfl (qEW (by rw [hv]; rfl)) qEY
    · have hke : k = l.length := by simp at hd; omega
      clear hd
      subst hke
      repeat (first | (with_reducible first | apply qAj | apply qAi | apply qAh | apply qAf | apply qA5 | apply qA9 | apply qA8 | apply qAu | apply qAz) | ((with_reducible apply rp); first | ((with_reducible apply qAd); (conv => lhs; whnf)) | ((with_reducible apply qAa); (conv => lhs; whnf))))
      (with_reducible apply qAA); (focus (repeat' (first | (with_reducible apply qAv) | (with_reducible apply qAq) | ((with_reducible apply qAD); eq_refl)))); eq_refl; refine SubD.of_eq ?_
      rw [List.take_length]
      rfl
abbrev hpB (l : List Raw) (n : Nat) (cols : List Cl) : Nat × Box := (1000, .var 50 [.d (qBh l), .d (iD n), .d (qAW cols)])
set_option maxHeartbeats 1000000 in
theorem qBU (l : List Raw) (n : Nat) (cols : List Cl) (hn : n ≤ 4611686018427387904) : PX Tryd.prog 37 [.px 1000 0] [hpB l n cols] [] (.ag (qBa l n).cs) [hpB l (n + 1) cols] [] := by
  unfold hpB qBa
  by_cases hl : l = []
  · subst hl
    refine qBe Tryd.func37 rfl (by kernel_rfl) mixed (by kernel_rfl) (qle (by kernel_rfl)) Tryd.results37 rfl ?_
    repeat (first | (with_reducible first | apply qAj | apply qAi | apply qAh | apply qAf | apply qA4 | apply qAu | apply qAS | apply qBL) | ((with_reducible apply qBg); (first | kernel_rfl | eq_refl)) | ((with_reducible first | apply rp | apply dr); first | ((with_reducible apply qAd); (conv => lhs; whnf)) | ((with_reducible first | apply qAc | apply qAe | apply qAr | apply qA7 | apply qBn) <;> first | ((with_reducible apply tyOk); eq_refl) | eq_refl | decide) | ((with_reducible apply qAI); eq_refl; eq_refl; omega; omega) | ((with_reducible apply qAR); exact tyOk rfl; eq_refl; eq_refl; (focus repeat' (first | eq_refl | refine ⟨_, _, rfl, rfl, qle rfl, rfl, ?_⟩)); eq_refl)) | ((with_reducible apply rp1); ((with_reducible apply qAk); exact tyOk rfl; eq_refl)) | ((with_reducible first | apply rpN | apply drN); first | ((with_reducible apply qBj); exact tyOk rfl; eq_refl; eq_refl; (conv => lhs; whnf); eq_refl; eq_refl; exact qle rfl) | ((with_reducible apply qAb); exact tyOk rfl; (iterate 5 eq_refl))) | ((with_reducible apply qBq); eq_refl; eq_refl))
    (with_reducible apply qBi (l := [])); (focus (repeat' (first | (with_reducible apply qAv) | (with_reducible apply qAq) | ((with_reducible apply qAy); eq_refl; eq_refl; exact tyOk rfl; eq_refl; eq_refl)))); eq_refl; exact SubD.refl _; refine ⟨(by repeat' (first | exact qAG | (refine qAx rfl (by exact SubA.refl _) ?_))), (by repeat' (first | exact trivial | eq_refl | apply And.intro)), rfl, insS rfl, (by repeat' (first | exact trivial | exact qAX rfl | apply And.intro))⟩
  · have hp : 0 < l.length := List.length_pos_iff.2 hl
    have hlt : n % l.length < l.length := Nat.mod_lt _ hp
    obtain ⟨r, hr⟩ : ∃ r, l[n % l.length]? = some r := ⟨_, List.getElem?_eq_getElem hlt⟩
    rw [hr]
    have hr2 : (l.map Raw.cs)[n % l.length]? = some r.cs := by rw [List.getElem?_map, hr]; rfl
    obtain ⟨rk, ra, rb, rt⟩ := r
    unfold Raw.cs at *
    dsimp only at *
    refine qBe Tryd.func37 rfl (by kernel_rfl) mixed (by kernel_rfl) (qle (by kernel_rfl)) Tryd.results37 rfl ?_
    repeat (first | (with_reducible first | apply qAj | apply qAi | apply qAh | apply qAf | apply qA4 | apply qAu | apply qBL | apply qAm) | ((with_reducible apply qBg); (first | kernel_rfl | eq_refl)) | ((with_reducible first | apply rp | apply dr); first | (exact does_rem_to (m := n) (n := l.length) rfl (by omega) rfl rfl hp) | (exact does_quo_to (m := n + 1) (n := l.length) rfl rfl rfl hp (by omega)) | ((with_reducible apply qAd); (conv => lhs; whnf)) | ((with_reducible first | apply qAc | apply qAe | apply qAr | apply qA7 | apply qBn) <;> first | ((with_reducible apply tyOk); eq_refl) | eq_refl | decide) | ((with_reducible apply qAl); exact tyOk rfl; (iterate 3 eq_refl); exact qle rfl; eq_refl) | ((with_reducible apply qAE); exact tyOk rfl; eq_refl; eq_refl; assumption; eq_refl) | ((with_reducible apply qAH); exact tyOk rfl; eq_refl; exact tyOk rfl; (iterate 4 eq_refl); (simp only [List.length_map, List.length_append, List.length_cons, List.length_nil] at *; omega)) | ((with_reducible apply qAI); eq_refl; eq_refl; omega; omega) | ((with_reducible apply qCK); eq_refl; eq_refl; omega; omega) | ((with_reducible apply qFM); eq_refl; eq_refl)) | ((with_reducible first | apply rp1 | apply dr1); ((with_reducible apply qAk); exact tyOk rfl; eq_refl)) | ((with_reducible first | apply rpN | apply drN); first | ((with_reducible apply qBj); exact tyOk rfl; eq_refl; eq_refl; (conv => lhs; whnf); eq_refl; eq_refl; exact qle rfl) | ((with_reducible apply qAb); exact tyOk rfl; (iterate 5 eq_refl))) | ((with_reducible apply qAn); eq_refl; (focus (intro hd; (exfalso; simp at hd; contradiction))); (intro hd; clear hd)))
    (with_reducible apply qBi (l := [])); (focus (repeat' (first | (with_reducible apply qAv) | (with_reducible apply qAq) | ((with_reducible apply qAy); eq_refl; eq_refl; exact tyOk rfl; eq_refl; eq_refl)))); eq_refl; exact SubD.refl _; refine ⟨(by repeat' (first | exact qAG | (refine qAx rfl (by exact SubA.refl _) ?_))), (by repeat' (first | exact trivial | eq_refl | apply And.intro)), rfl, insS rfl, (by repeat' (first | exact trivial | exact qAX rfl | apply And.intro))⟩
theorem leafC_drop {K : Nat} {a : Int} {k : Nat} {l : List Cl} {c : Cl} (h : l[k]? = some c) : leafC K a k (l.drop k) = if c.kind = K ∧ a % ((2 + k : Nat) : Int) = 0 then some c else leafC K a (k + 1) (l.drop (k + 1)) := by
  rw [List.drop_eq_getElem?_toList_append, h]
  rfl
set_option maxHeartbeats 4000000 in
theorem leaf_px (l : List Raw) (n : Nat) (cols : List Cl) (hcl : cols.length ≤ 1000) (K : Nat) (hK : K ≤ 4) (r : Raw) : ∃ v : Vl, Gd v ∧ v.k = K ∧ (K ≠ 2 → 0 ≤ v.n ∧ v.n ≤ 9223372036854775807) ∧ PX Tryd.prog 46 [.px 1000 0, .d (iD K), .d (.ag r.cs)] [hpB l n cols] [] (.ag (leafF cols K r v).cs) [hpB l n cols] [] := by
  obtain ⟨v, hv, hvk, pv⟩ := valOf_pc K hK r
  refine ⟨v, hv, hvk, fun h2 => ?_, ?_⟩
  · cases hv with
    | int m => exact absurd (show K = 2 by have : (2 : Int) = (K : Int) := hvk; omega) h2
    | bool m hm => show 0 ≤ m ∧ m ≤ 9223372036854775807; omega
    | _ => exact ⟨Int.le_refl _, by show (0 : Int) ≤ 9223372036854775807; decide⟩
  have p9 := qAQ r.b 9 (by omega) (by omega)
  have p4 := qAQ r.b 4 (by omega) (by omega)
  have p20 := qAQ r.a 20 (by omega) (by omega)
  unfold hpB leafF
  obtain ⟨oc, hoc⟩ : ∃ oc, leafC K r.a 0 cols = oc := ⟨_, rfl⟩
  rw [hoc]
  obtain ⟨rk, ra, rb, rt⟩ := r
  unfold litF
  unfold Raw.cs at *
  have hv2 : K = 2 → v.k = 2 ∧ v.b = 0 ∧ v.t = .empty := fun h2 => by
    have hk2 : v.k = 2 := by rw [hvk, h2]; rfl
    cases hv with
    | int m => exact ⟨rfl, rfl, rfl⟩
    | null => exact absurd hk2 (by decide)
    | bool m hm => exact absurd hk2 (by show ¬ (1 : Int) = 2; decide)
    | real b h1 h2 h3 => exact absurd hk2 (by show ¬ (3 : Int) = 2; decide)
    | text t h1 h2 => exact absurd hk2 (by show ¬ (4 : Int) = 2; decide)
  clear hv hvk
  obtain ⟨vk, vn, vb, vt⟩ := v
  unfold Vl.cs at *
  dsimp only at *
  refine qBe Tryd.func46 rfl (by kernel_rfl) mixed (by kernel_rfl) (qle (by kernel_rfl)) Tryd.results46 rfl ?_
  repeat (first | (with_reducible first | apply qAj | apply qAi | apply qAh | apply qAf | apply qAo) | ((with_reducible apply rp); first | ((with_reducible apply qAd); (conv => lhs; whnf)) | ((with_reducible apply qAc); exact tyOk rfl; eq_refl; eq_refl; decide; eq_refl) | ((with_reducible apply qAe); exact tyOk rfl; (iterate 4 eq_refl)) | ((with_reducible apply qA7); exact tyOk rfl; eq_refl; eq_refl) | ((with_reducible apply qBn); eq_refl)) | ((with_reducible apply rp1); first | ((with_reducible apply qAp); eq_refl; eq_refl) | ((with_reducible apply qAk); exact tyOk rfl; eq_refl)))
  refine qBf (fun m s => ∃ k, k ≤ cols.length ∧ m = cols.length - k ∧ leafC K ra k (cols.drop k) = oc ∧ s = ⟨[(0, .px 1000 0), (1, .d (iD K)), (5, .px 5 0), (6, .px 6 0), (13, .d (qAW cols)), (14, .d (iD cols.length)), (15, .d (iD k))], [(5, .var 62 [.d (iD rk), .d (iD ra), .d (iD rb), .d (strD rt)]), (6, .var 58 [.d (iD 0), .d (iD 0), .d (iD 0), .d (qD 0), .d (strD .empty), .d (strD .empty), .d .nl]), (1000, .var 50 [.d (qBh l), .d (iD n), .d (qAW cols)])]⟩) _ _ ?_ ⟨0, by omega, rfl, hoc, rfl⟩ ?_
  · refine qAw [] (by repeat' (first | exact qAG | (refine qAx rfl (by exact SubA.refl _) ?_))) (kpX rfl) rfl (insS rfl) (insX rfl)
  · clear hoc
    rintro m s ⟨k, hk, rfl, hoc, rfl⟩
    repeat (first | (with_reducible first | apply qAj | apply qAi | apply qAh | apply qAf) | ((with_reducible apply rp); ((with_reducible apply qAN); eq_refl; eq_refl)))
    refine qAn rfl (fun hd => ?_) (fun hd => ?_)
    · have hlt : k < cols.length := by simp at hd; omega
      clear hd
      obtain ⟨c, hc⟩ : ∃ c, cols[k]? = some c := ⟨_, List.getElem?_eq_getElem hlt⟩
      have hc2 : (cols.map Cl.cs)[k]? = some c.cs := by rw [List.getElem?_map, hc]; rfl
      rw [leafC_drop hc] at hoc
      have pk := qAQ ra (2 + k) (by omega) (by omega)
      obtain ⟨cn, ck, cb⟩ := c
      unfold Cl.cs at hc2
      dsimp only at *
      clear pv p9 p4 p20
      repeat (first | (with_reducible first | apply qAj | apply qAi | apply qAh | apply qAf | apply qAo | apply qAm) | ((first | (with_reducible apply rp) | ((with_reducible apply rpG); eq_refl; exact qAT rfl; (focus repeat' (first | exact trivial | exact id | apply And.intro)); intro zg; have zh := zg; (try simp only [zs1, zs2, zs3, zs4] at zg))); first | ((with_reducible apply qAg); eq_refl; eq_refl; exact (pk); eq_refl) | (exact qBE (z := ((2 + k : Nat) : Int)) rfl rfl (by omega) (by omega) (by omega)) | ((with_reducible first | apply qAd | apply qAa); (conv => lhs; whnf)) | ((with_reducible first | apply qAM | apply qAc | apply qAe | apply qAr) <;> first | ((with_reducible apply tyOk); eq_refl) | eq_refl | exact id | decide) | ((with_reducible apply qAE); exact tyOk rfl; eq_refl; eq_refl; assumption; eq_refl) | ((with_reducible apply qAH); exact tyOk rfl; eq_refl; exact tyOk rfl; (iterate 4 eq_refl); (simp only [List.length_map, List.length_append, List.length_cons, List.length_nil] at *; omega))) | ((with_reducible apply rp1); ((with_reducible apply qAk); exact tyOk rfl; eq_refl)) | ((with_reducible apply rpN); ((with_reducible apply qAb); exact tyOk rfl; (iterate 5 eq_refl))))
      refine qAn rfl (fun hd => ?_) (fun hd => ?_)
      · have hd2 : ck = K ∧ ra % ((2 + k : Nat) : Int) = 0 := by
          simp only [Bool.and_eq_true, beq_iff_eq] at hd
          exact ⟨by omega, hd.2⟩
        rw [if_pos hd2] at hoc
        subst hoc
        repeat (first | (with_reducible first | apply qAj | apply qAi | apply qAh | apply qAf | apply qAu | apply qAS | apply qBc | apply qBL) | ((with_reducible apply rp); first | ((with_reducible apply qAc); exact tyOk rfl; eq_refl; eq_refl; decide; eq_refl) | ((with_reducible apply qAe); exact tyOk rfl; (iterate 4 eq_refl)) | ((with_reducible apply qAR); exact tyOk rfl; eq_refl; eq_refl; (focus repeat' (first | eq_refl | refine ⟨_, _, rfl, rfl, qle rfl, rfl, ?_⟩)); eq_refl)) | ((with_reducible apply rpN); ((with_reducible apply qAb); exact tyOk rfl; (iterate 5 eq_refl))))
        (with_reducible apply qBi (l := [])); (focus (repeat' (first | (with_reducible apply qAv) | (with_reducible apply qAq) | ((with_reducible apply qAy); eq_refl; eq_refl; exact tyOk rfl; eq_refl; eq_refl)))); eq_refl; exact qET _; refine ⟨(by repeat' (first | exact qAG | (refine qAx rfl (by exact SubA.refl _) ?_))), (by repeat' (first | exact trivial | eq_refl | apply And.intro)), rfl, insS rfl, (by repeat' (first | exact trivial | exact qAX rfl | apply And.intro))⟩
      · have hd2 : ¬ (ck = K ∧ ra % ((2 + k : Nat) : Int) = 0) := by
          rintro ⟨h1, h2⟩
          rw [h1, h2] at hd
          simp at hd
        rw [if_neg hd2] at hoc
        repeat (first | (with_reducible first | apply qAi | apply qAh | apply qAf | apply qAF | apply qAm) | ((with_reducible apply rp); first | ((with_reducible apply qAd); (conv => lhs; whnf)) | ((with_reducible apply qAI); eq_refl; eq_refl; omega; omega)))
        refine ⟨_, _, ?_, ?_, k + 1, by omega, rfl, hoc, rfl⟩
        · omega
        · refine qAw [] (by repeat' (first | exact qAG | (refine qAx rfl (by exact SubA.refl _) ?_))) (kpX rfl) rfl (insS rfl) (insX rfl)
    · have hke : k = cols.length := by simp at hd; omega
      clear hd
      subst hke
      rw [List.drop_length] at hoc
      have hoc : none = oc := hoc
      subst hoc
      dsimp only
      repeat (first | (with_reducible first | apply qAj | apply qAi | apply qAh | apply qAf | apply qAo | apply qA5 | apply qA9 | apply qA8) | ((with_reducible apply rp); first | ((with_reducible apply qAg); eq_refl; eq_refl; exact (pv); eq_refl) | ((with_reducible apply qAg); eq_refl; eq_refl; exact (p9); eq_refl) | ((with_reducible apply qAd); (conv => lhs; whnf)) | ((with_reducible apply qAa); (conv => lhs; whnf)) | ((with_reducible apply qAc); exact tyOk rfl; eq_refl; eq_refl; decide; eq_refl) | ((with_reducible apply qAe); exact tyOk rfl; (iterate 4 eq_refl)) | ((with_reducible apply qAl); exact tyOk rfl; (iterate 3 eq_refl); exact qle rfl; eq_refl) | ((with_reducible apply qAr); eq_refl; eq_refl)) | ((with_reducible apply rp1); ((with_reducible apply qAk); exact tyOk rfl; eq_refl)) | ((with_reducible apply rpN); ((with_reducible apply qAb); exact tyOk rfl; (iterate 5 eq_refl))))
      refine qAn rfl (fun hd => ?_) (fun hd => ?_)
      · have h9 : rb % 9 = 0 := by simpa using hd
        rw [if_pos h9]
        repeat (first | (with_reducible first | apply qAj | apply qAi | apply qAh | apply qAf | apply qAF | apply qAu | apply qBL) | ((with_reducible apply rp); first | ((with_reducible apply qAl); exact tyOk rfl; (iterate 3 eq_refl); exact qle rfl; eq_refl) | ((with_reducible apply qAV); exact tyOk rfl; eq_refl; eq_refl) | ((with_reducible apply qAR); exact tyOk rfl; eq_refl; eq_refl; (focus repeat' (first | eq_refl | refine ⟨_, _, rfl, rfl, qle rfl, rfl, ?_⟩)); eq_refl)) | ((with_reducible apply rpN); ((with_reducible apply qAb); exact tyOk rfl; (iterate 5 eq_refl))))
        (with_reducible apply qBi (l := [])); (focus (repeat' (first | (with_reducible apply qAv) | (with_reducible apply qAq) | ((with_reducible apply qAy); eq_refl; eq_refl; exact tyOk rfl; eq_refl; eq_refl)))); eq_refl; exact qET _; refine ⟨(by repeat' (first | exact qAG | (refine qAx rfl (by exact SubA.refl _) ?_))), (by repeat' (first | exact trivial | eq_refl | apply And.intro)), rfl, insS rfl, (by repeat' (first | exact trivial | exact qAX rfl | apply And.intro))⟩
      · have h9 : ¬ rb % 9 = 0 := by simpa using hd
        rw [if_neg h9]
        repeat (first | (with_reducible first | apply qAj | apply qAi | apply qAh | apply qAf) | ((first | (with_reducible apply rp) | ((with_reducible apply rpG); eq_refl; exact qAT rfl; (focus repeat' (first | exact trivial | exact id | apply And.intro)); intro zg; have zh := zg; (try simp only [zs1, zs2, zs3, zs4] at zg))); first | ((with_reducible apply qAg); eq_refl; eq_refl; exact (p4); eq_refl) | ((with_reducible first | apply qAd | apply qAa); (conv => lhs; whnf)) | ((with_reducible first | apply qAM | apply qAc | apply qAe | apply qAr) <;> first | ((with_reducible apply tyOk); eq_refl) | eq_refl | exact id | decide)))
        refine qAn rfl (fun hd => ?_) (fun hd => ?_)
        · have h4 : K = 2 ∧ rb % 4 = 0 := by
            simp only [Bool.and_eq_true, beq_iff_eq] at hd
            exact ⟨by omega, hd.2⟩
          rw [if_pos h4]
          obtain ⟨q1, q2, q3⟩ := hv2 h4.1
          subst q1 q2 q3
          repeat (first | (with_reducible first | apply qAj | apply qAi | apply qAh | apply qAf | apply qAF | apply qAu | apply qBL) | ((with_reducible apply rp); first | ((with_reducible apply qAc); exact tyOk rfl; eq_refl; eq_refl; decide; eq_refl) | ((with_reducible apply qAe); exact tyOk rfl; (iterate 4 eq_refl)) | ((with_reducible apply qAl); exact tyOk rfl; (iterate 3 eq_refl); exact qle rfl; eq_refl) | ((with_reducible apply does_band); eq_refl; eq_refl) | ((with_reducible apply qAR); exact tyOk rfl; eq_refl; eq_refl; (focus repeat' (first | eq_refl | refine ⟨_, _, rfl, rfl, qle rfl, rfl, ?_⟩)); eq_refl)) | ((with_reducible apply rpN); first | ((with_reducible apply qBj); exact tyOk rfl; eq_refl; eq_refl; (conv => lhs; whnf); eq_refl; eq_refl; exact qle rfl) | ((with_reducible apply qAb); exact tyOk rfl; (iterate 5 eq_refl))))
          (with_reducible apply qBi (l := [])); (focus (repeat' (first | (with_reducible apply qAv) | (with_reducible apply qAq) | ((with_reducible apply qAy); eq_refl; eq_refl; exact tyOk rfl; eq_refl; eq_refl)))); eq_refl; exact qET _; refine ⟨(by repeat' (first | exact qAG | (refine qAx rfl (by exact SubA.refl _) ?_))), (by repeat' (first | exact trivial | eq_refl | apply And.intro)), rfl, insS rfl, (by repeat' (first | exact trivial | exact qAX rfl | apply And.intro))⟩
        · have h4 : ¬ (K = 2 ∧ rb % 4 = 0) := by
            rintro ⟨h1, h2⟩
            have h2 : rb % ((4 : Nat) : Int) = 0 := h2
            rw [h1, h2] at hd
            simp at hd
          rw [if_neg h4]
          repeat (first | (with_reducible first | apply qAj | apply qAi | apply qAh | apply qAf) | ((with_reducible apply rp); first | ((with_reducible apply qAd); (conv => lhs; whnf)) | ((with_reducible apply qAa); (conv => lhs; whnf)) | ((with_reducible apply qAr); eq_refl; eq_refl)))
          refine qAn rfl (fun hd => ?_) (fun hd => ?_)
          · have h2 : K = 2 := by simp at hd; omega
            rw [if_pos h2]
            obtain ⟨q1, q2, q3⟩ := hv2 h2
            subst q1 q2 q3
            repeat (first | (with_reducible first | apply qAj | apply qAi | apply qAh | apply qAf | apply qAF | apply qAu | apply qBL) | ((with_reducible apply rp); first | ((with_reducible apply qAg); eq_refl; eq_refl; exact (p20); eq_refl) | ((with_reducible apply qAc); exact tyOk rfl; eq_refl; eq_refl; decide; eq_refl) | ((with_reducible apply qAe); exact tyOk rfl; (iterate 4 eq_refl)) | ((with_reducible apply qAl); exact tyOk rfl; (iterate 3 eq_refl); exact qle rfl; eq_refl) | ((with_reducible apply qAR); exact tyOk rfl; eq_refl; eq_refl; (focus repeat' (first | eq_refl | refine ⟨_, _, rfl, rfl, qle rfl, rfl, ?_⟩)); eq_refl)) | ((with_reducible apply rpN); first | ((with_reducible apply qBj); exact tyOk rfl; eq_refl; eq_refl; (conv => lhs; whnf); eq_refl; eq_refl; exact qle rfl) | ((with_reducible apply qAb); exact tyOk rfl; (iterate 5 eq_refl))))
            (with_reducible apply qBi (l := [])); (focus (repeat' (first | (with_reducible apply qAv) | (with_reducible apply qAq) | ((with_reducible apply qAy); eq_refl; eq_refl; exact tyOk rfl; eq_refl; eq_refl)))); eq_refl; exact qET _; refine ⟨(by repeat' (first | exact qAG | (refine qAx rfl (by exact SubA.refl _) ?_))), (by repeat' (first | exact trivial | eq_refl | apply And.intro)), rfl, insS rfl, (by repeat' (first | exact trivial | exact qAX rfl | apply And.intro))⟩
          · have h2 : ¬ K = 2 := by simp at hd; omega
            rw [if_neg h2]
            repeat (first | (with_reducible first | apply qAj | apply qAi | apply qAh | apply qAf | apply qAF | apply qAu | apply qBL | apply qAm) | ((with_reducible apply rp); first | ((with_reducible apply qAl); exact tyOk rfl; (iterate 3 eq_refl); exact qle rfl; eq_refl) | ((with_reducible apply qAR); exact tyOk rfl; eq_refl; eq_refl; (focus repeat' (first | eq_refl | refine ⟨_, _, rfl, rfl, qle rfl, rfl, ?_⟩)); eq_refl)) | ((with_reducible apply rpN); ((with_reducible apply qAb); exact tyOk rfl; (iterate 5 eq_refl))))
            (with_reducible apply qBi (l := [])); (focus (repeat' (first | (with_reducible apply qAv) | (with_reducible apply qAq) | ((with_reducible apply qAy); eq_refl; eq_refl; exact tyOk rfl; eq_refl; eq_refl)))); eq_refl; exact qET _; refine ⟨(by repeat' (first | exact qAG | (refine qAx rfl (by exact SubA.refl _) ?_))), (by repeat' (first | exact trivial | eq_refl | apply And.intro)), rfl, insS rfl, (by repeat' (first | exact trivial | exact qAX rfl | apply And.intro))⟩
end Go.Proofs.YtpaccaojgbfjdaaDoor


/-
  chirographkeep.heapOf. No condition.
-/
namespace Go.Proofs.YtpaccaojgbfjdaaDoor
open Go.RowKit

abbrev qCl (l : List Raw) : List Cl := qDw (l.take (l.length % 4))
set_option maxHeartbeats 1000000 in
theorem heapOf_pg (l : List Raw) : PG Tryd.prog 18 [.d (qBh l)] [] [] (.px 2000 0) [] [(2000, .var 50 [.d (qBh (l.take 40)), .d (iD 0), .d (qAW (qDw (l.take (l.length % 4))))])] := by
  have s1 := some_pc l 40
  have hm : (l.length : Int) % ((4 : Nat) : Int) = ((l.length % 4 : Nat) : Int) := by omega
  have p1 := qAQ (l.length : Int) 4 (by omega) (by omega)
  rw [hm] at p1
  have s2 := some_pc l (l.length % 4)
  have c1 := cols_pc (l.take (l.length % 4))
  generalize l.take (l.length % 4) = q at *
  generalize l.take 40 = t at *
  generalize qDw q = cs at *
  refine pg_of_aw Tryd.func18 rfl (by kernel_rfl) mixed (by kernel_rfl) (qle (by kernel_rfl)) Tryd.results18 rfl ?_
  repeat (first | (with_reducible first | apply qAj | apply qAi | apply qAh | apply qAf | apply qAu | apply xg_ret) | ((with_reducible apply rp); first | ((with_reducible apply qAK); (iterate 3 eq_refl); exact (s1)) | ((with_reducible apply qAg); eq_refl; eq_refl; exact (p1); eq_refl) | ((with_reducible apply qAK); (iterate 3 eq_refl); exact (s2)) | ((with_reducible apply qAK); (iterate 3 eq_refl); exact (c1)) | ((with_reducible apply qAd); (conv => lhs; whnf)) | ((with_reducible apply qAa); (conv => lhs; whnf)) | ((with_reducible apply qA7); exact tyOk rfl; eq_refl; eq_refl) | ((with_reducible apply qAR); exact tyOk rfl; eq_refl; eq_refl; (focus repeat' (first | eq_refl | refine ⟨_, _, rfl, rfl, qle rfl, rfl, ?_⟩)); eq_refl)) | ((with_reducible apply rp1); ((with_reducible apply qAp); eq_refl; eq_refl)))
  (with_reducible apply retg_ok (l := [(2000, 12)])); (focus (repeat' (first | (with_reducible apply qAv) | (with_reducible apply qAq) | ((with_reducible apply qAD); eq_refl)))); rotate_left; refine ⟨(by repeat' exact qAG), (by repeat' (first | exact trivial | eq_refl | apply And.intro)), rfl, insS rfl, (by repeat' (first | exact trivial | apply And.intro))⟩; refine SubA.of_eq ?_
  rfl
end Go.Proofs.YtpaccaojgbfjdaaDoor

