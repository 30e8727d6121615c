/-
  insert for the kids of a node as a contract. No condition but few kids.
-/
import Derived.Test.YtobgjkkadnihjaaZTr1
import Derived.Test.YtobgjkkadnihjaaZG
import Derived.Test.YtobgjkkadnihjaaZPlPxH
namespace Go.Proofs.Ytobgjkkadnihjaa
set_option linter.unusedSimpArgs false
set_option linter.unusedVariables false
open Go.RowKit

def TQ : TrTy := ⟨64, 9, 3, 55⟩
section
variable {Q : TrTy} {σ : Sl} {β : Bx} {C : Ctx} {a : Act} {w : World}
/-- A row in a slot, as data from now on. -/
theorem ent_frz (s id n : Nat) {E : TypeId} {sz : Nat} {es : List (List D)} (hs : look s σ = some (.ow id n)) (hl : look id β = some (.row E sz es)) (hat : At C ⟨σ, β⟩ a w) : At C ⟨(s, .d (.sl sz es)) :: σ, [(id, .frz sz es)] ++ β⟩ a w := by
  obtain ⟨ρ, I, hm, hfr⟩ := hat
  obtain ⟨I', m1, m2, m3⟩ := hm.freeze_any (id := id) (sz := sz) (es := es) (by unfold rowsOf; rw [hl])
  refine ⟨ρ, I', m1, hfr.defers, hfr.size, hfr.keep, fun t v ht => ?_⟩
  rw [look_cons] at ht
  split at ht
  · rename_i e
    subst e
    injection ht with ht
    subst ht
    obtain ⟨q1, q2, q3⟩ := hfr.val s _ hs
    exact ⟨q1, trivial, by rw [q3.1]; exact m3⟩
  · obtain ⟨q1, q2, q3⟩ := hfr.val t v ht
    exact ⟨q1, A.inB_mono (fun i hi => dom_append hi) v q2, RepA.ext m2 v _ q2 q3⟩
theorem at_trans {β' : Bx} (h : At C ⟨σ, β⟩ a w) (f : At C ⟨σ, β⟩ a w → At C ⟨σ, β'⟩ a w) : At C ⟨σ, β'⟩ a w := f h
/-- Kids and one more: data and a forest. -/
theorem ent_ins (s2 i3 X i4 j i n : Nat) {ts : List Tn} {t : Tn} {p : Value} (hs2 : look s2 σ = some (.ow i3 n)) (hX : look X β = some (.res (forestR Q [t] [p]))) (h3 : look i3 β = some (.res (kidsR Q ts))) (h4 : look i4 β = none) (hj : look j β = none) (hi : i ≤ ts.length) (h34 : i3 ≠ i4) (hX3 : X ≠ i3) (h4j : i4 ≠ j) (h3j : i3 ≠ j) (hat : At C ⟨σ, β⟩ a w) :
    ∃ ps : {ps : List Value // ps.length = ts.length}, At C ⟨(s2, .d (.sl 1 (ps.1.map ptrE))) :: σ, [(i4, .res (forestR Q (insL ts i t) (insL ps.1 i p))), (j, .dead)] ++ ([(i4, .res (forestR Q (ts.take i ++ [t]) (ps.1.take i ++ [p]))), (X, .dead)] ++ ([(i4, .res (forestR Q (ts.take i) (ps.1.take i))), (j, .res (forestR Q (ts.drop i) (ps.1.drop i)))] ++ ([(i3, .frz 1 (ps.1.map ptrE))] ++ ([(i3, .row Q.E 1 (ps.1.map ptrE)), (i4, .res (forestR Q ts ps.1))] ++ β))))⟩ a w := by
  have hX4 : X ≠ i4 := fun e => by rw [e, h4] at hX; cases hX
  have hXj : X ≠ j := fun e => by rw [e, hj] at hX; cases hX
  obtain ⟨⟨ps, hps⟩, a1⟩ := ent_kopen i3 i4 h3 h4 hat
  dsimp only at a1
  have a2 := ent_frz (E := Q.E) (sz := 1) (es := ps.map ptrE) s2 i3 n hs2 (by simp [look]) a1
  have e1 : forestR Q ts ps = forestR Q (ts.take i ++ ts.drop i) (ps.take i ++ ps.drop i) := by rw [List.take_append_drop, List.take_append_drop]
  have a3 := ent_split (Q := Q) (l1 := ts.take i) (l2 := ts.drop i) (p1 := ps.take i) (p2 := ps.drop i) i4 j (by simp only [List.cons_append, List.nil_append, look]; simp [h34, ← e1]) (by rw [List.length_take, List.length_take, hps]) (by simp only [List.cons_append, List.nil_append, look]; simp [h3j, h4j, hj]) a2
  have a4 := at_mem (fun _ _ hm => mem_fjoin (Q := Q) (l1 := ts.take i) (l2 := [t]) (p1 := ps.take i) (p2 := [p]) i4 X (by simp [look]) (by simp only [List.cons_append, List.nil_append, look]; simp [Ne.symm hX3, Ne.symm hX4, Ne.symm hXj, hX]) (Ne.symm hX4) hm) a3
  have a5 := at_mem (fun _ _ hm => mem_fjoin (Q := Q) (l1 := ts.take i ++ [t]) (l2 := ts.drop i) (p1 := ps.take i ++ [p]) (p2 := ps.drop i) i4 j (by simp [look]) (by simp only [List.cons_append, List.nil_append, look]; simp [hXj, h4j]) h4j hm) a4
  have e2 : forestR Q (ts.take i ++ [t] ++ ts.drop i) (ps.take i ++ [p] ++ ps.drop i) = forestR Q (insL ts i t) (insL ps i p) := by unfold insL; rw [List.append_assoc, List.append_assoc]; rfl
  rw [e2] at a5
  exact ⟨⟨ps, hps⟩, a5⟩
/-- A tree's box as a forest of one: its address is data. -/
theorem ent_fone (s X : Nat) {t : Tn} (hs : look s σ = some (.px X 0)) (hX : look X β = some (.res (treeR Q t))) (hat : At C ⟨σ, β⟩ a w) :
    ∃ p : {p : Value // ∃ g : Nat, p = .pointer (some ⟨g, 0, none⟩)}, At C ⟨(s, .d (.sc p.1)) :: σ, [(X, .res (forestR Q [t] [p.1]))] ++ β⟩ a w := by
  obtain ⟨ρ, I, hm, hfr⟩ := hat
  obtain ⟨ft, ht⟩ := hm.box X _ hX
  obtain ⟨g, hg⟩ := tree_ptr (ht : TreeRep Q w t (ρ X) ft)
  refine ⟨⟨ρ X, g, hg⟩, ρ, I, mem_fone X hX hm, hfr.defers, hfr.size, hfr.keep, fun t v ht => ?_⟩
  rw [look_cons] at ht
  split at ht
  · rename_i e
    subst e
    injection ht with ht
    subst ht
    obtain ⟨q1, q2, q3⟩ := hfr.val s _ hs
    obtain ⟨g', k1, k2⟩ := q3
    exact ⟨q1, trivial, k2.trans k1.symm, by show (ρ X).oneCell' = true; rw [hg]; rfl⟩
  · obtain ⟨q1, q2, q3⟩ := hfr.val t v ht
    exact ⟨q1, A.inB_mono (fun i hi => dom_append hi) v q2, q3⟩
end
theorem insK_pg (ts : List Tn) (i : Nat) (t : Tn) (hi : i ≤ ts.length) (hl : ts.length ≤ 1000) (p : Value) : PG Try.prog 34 [.ow 1000 ts.length, .d (iD i), .d (.sc p)] [] [(1000, .res (kidsR TQ ts)), (1001, .res (forestR TQ [t] [p]))] (.ow 2000 (ts.length + 1)) [] [(2000, .res (kidsR TQ (insL ts i t)))] := by
  refine pg_of_aw Try.func34 rfl (by kernel_rfl) mixed (by kernel_rfl) (by rw [Try.ntmps34]; exact Nat.le_of_ble_eq_true rfl) Try.results34 rfl ?_
  repeat (with_reducible apply aw_seq)
  refine aw_exR mixed (s' := fun q : {q : List Value // q.length = ts.length} => ⟨_, _⟩) (fun C a w h => ent_ins (Q := TQ) (ts := ts) (t := t) 0 1000 1001 1002 1003 i ts.length rfl rfl rfl rfl rfl hi (by decide) (by decide) (by decide) (by decide) h) ?_
  rintro ⟨ps, hps⟩
  dsimp only
  obtain ⟨es, hes⟩ : ∃ es, ps.map ptrE = es := ⟨_, rfl⟩
  rw [hes]
  have hel : i ≤ es.length := by rw [← hes, List.length_map, hps]; exact hi
  obtain ⟨a, b, hA, hB, hT, hD, ha, hb⟩ := ins_parts es i hel (by rw [← hes, List.length_map, hps]; exact hl)
  repeat (first | (refine aw_after (id := 2) mixed ?_; (with_reducible apply aw_regD)) | (with_reducible first | apply aw_seq | apply aw_reg | apply rp_nil | apply ae_norm) | ((with_reducible apply dr_nil); (first | kernel_rfl | exact rfl)) | ((with_reducible first | apply rp | apply dr); first | (exact does_slice_e (tyOk rfl) rfl (tyOk rfl) rfl rfl rfl ⟨_, _, rfl, rfl⟩ (by omega) (by omega) hA) | (exact does_slice_e (tyOk rfl) rfl (tyOk rfl) rfl rfl ⟨_, _, rfl, rfl⟩ rfl (by omega) (by omega) hB) | ((with_reducible apply does_move); (conv => lhs; whnf)) | ((with_reducible apply does_assign); (conv => lhs; whnf))) | ((with_reducible first | apply rp1 | apply dr1); ((with_reducible apply does_buildSlice); exact tyOk rfl; exact rfl; exact tyOk rfl; exact rfl; exact rfl; (focus repeat' (first | exact trivial | refine And.intro rfl (And.intro rfl ?_))); decide; decide; exact rfl)) | ((with_reducible first | apply rp2 | apply dr2); ((with_reducible apply does_append_own); exact tyOk rfl; exact rfl; exact tyOk rfl; exact rfl; exact rfl; exact rfl; decide; (first | (dsimp only; simp only [List.length_map, List.length_append, List.length_cons, List.length_nil] at *; omega) | (simp only [List.length_map, List.length_append, List.length_cons, List.length_nil] at *; omega)); (first | (dsimp only; simp only [List.length_map, List.length_append, List.length_cons, List.length_nil] at *; omega) | (simp only [List.length_map, List.length_append, List.length_cons, List.length_nil] at *; omega)); exact rfl)))
  have hrow : ([] ++ a ++ [(D.sc p).cells] ++ b) = (insL ps i p).map ptrE := by
    rw [insL_map, hes, hT, hD]
    simp [D.cells]
  have hab : a.length + b.length = ts.length := by
    rw [← hT, ← hD, List.length_take, List.length_drop, ← hps, ← List.length_map (f := ptrE), hes]
    omega
  refine ⟨Unit, fun _ => ⟨_, _⟩, fun C a w h => ⟨(), ent_kshut (Q := TQ) (ts := insL ts i t) (ps := insL ps i p) 20 1002 (by rw [← hrow]; rfl) rfl h⟩, fun _ => ?_⟩
  repeat (first | (with_reducible first | apply ae_norm | apply aw_ret | apply xg_ret))
  (with_reducible apply retg_ok (l := [(2000, 20)])); (focus (repeat' (first | (with_reducible apply rv_nil) | (with_reducible apply rv_cons) | ((with_reducible apply rv_tmp); exact rfl)))); rotate_left; refine ⟨(by repeat' exact ks_nil), (by repeat' (first | exact trivial | exact rfl | refine And.intro ?_ ?_)), rfl, (by repeat' (first | exact trivial | refine And.intro ?_ ?_)), (by repeat' (first | exact trivial | refine And.intro ?_ ?_))⟩; refine SubA.of_eq ?_
  show A.ow 20 _ = A.ow 20 _
  simp
  omega
end Go.Proofs.Ytobgjkkadnihjaa

