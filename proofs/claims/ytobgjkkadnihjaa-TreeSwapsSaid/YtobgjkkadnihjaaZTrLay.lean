/-
  lay: a tree as laid nodes. No condition but the shape, and few nodes.
-/
import Derived.Test.YtobgjkkadnihjaaZTrOf
namespace Go.Proofs.Ytobgjkkadnihjaa
set_option linter.unusedSimpArgs false
set_option linter.unusedVariables false
open Go.RowKit

mutual
/-- The nodes of a tree, as they are laid from number a on. -/
def layN (a : Nat) : Tn → List Nd
  | .node ks vs ts => ⟨ks, vs, (layF (a + 1) ts).1⟩ :: (layF (a + 1) ts).2
/-- The numbers of these trees, and their nodes. -/
def layF (a : Nat) : List Tn → List Nat × List Nd
  | [] => ([], [])
  | t :: ts => (a :: (layF (a + (layN a t).length) ts).1, layN a t ++ (layF (a + (layN a t).length) ts).2)
end
theorem layF_snoc : ∀ (ts : List Tn) (a : Nat) (t : Tn), layF a (ts ++ [t]) = ((layF a ts).1 ++ [a + (layF a ts).2.length], (layF a ts).2 ++ layN (a + (layF a ts).2.length) t)
  | [], a, t => by unfold layF; rw [List.nil_append]; unfold layF; simp [layF]
  | t0 :: ts, a, t => by
    rw [List.cons_append]
    unfold layF
    rw [layF_snoc ts]
    simp [Nat.add_assoc]
theorem layF_app : ∀ (l1 l2 : List Tn) (a : Nat), (layF a (l1 ++ l2)).2.length = (layF a l1).2.length + (layF (a + (layF a l1).2.length) l2).2.length
  | [], l2, a => by rw [List.nil_append]; simp [layF]
  | t :: l1, l2, a => by
    have e1 : ∀ l, (layF a (t :: l)).2 = layN a t ++ (layF (a + (layN a t).length) l).2 := fun l => by rw [layF]
    rw [List.cons_append, e1, e1, List.length_append, List.length_append, layF_app l1 l2, Nat.add_assoc a, Nat.add_assoc]
abbrev LayPX (X : List (List D)) (t : Tn) : Prop :=
  PX Try.prog 28 [.px 1000 0, .px 1001 0] [(1000, .res (treeR TQ t)), (1001, .var 26 [.ow 2000 X.length])] [(2000, .row 41 3 X)] (iD X.length)
    [(1000, .res (treeR TQ t)), (1001, .var 26 [.ow 2000 (X ++ (layN X.length t).map nodeC).length])] [(2000, .row 41 3 (X ++ (layN X.length t).map nodeC))]
theorem lay_step (X : List (List D)) (ks : List ByteArray) (vs : List Int) (ts : List Tn) (hks : ks.length ≤ 3) (hvs : vs.length = ks.length) (hts : ts.length ≤ 4) (hX : X.length + (layN X.length (.node ks vs ts)).length ≤ 10000)
    (ih : ∀ (j : Nat) (t : Tn), ts[j]? = some t → ∀ Y : List (List D), Y.length + (layN Y.length t).length ≤ 10000 → LayPX Y t) : LayPX X (.node ks vs ts) := by
  unfold LayPX
  generalize hY : X ++ (layN X.length (.node ks vs ts)).map nodeC = Y
  generalize hm : Y.length = m
  have hXl : X.length < 10000 := by unfold layN at hX; simp only [List.length_cons] at hX; omega
  refine pxf_of_aw Try.func28 rfl (by kernel_rfl) mixed (by kernel_rfl) (by rw [Try.ntmps28]; exact Nat.le_of_ble_eq_true rfl) Try.results28 rfl ?_
  repeat (with_reducible apply aw_seq)
  refine aw_exR1 mixed (fun C ac w h => ent_open (Q := TQ) 1000 3001 3002 3003 rfl rfl rfl rfl (by decide) (by decide) (by decide) h) ?_
  repeat (first | (with_reducible first | apply aw_seq | apply aw_reg | apply rp_nil | apply ae_norm | apply aw_regD | apply aw_block) | ((with_reducible apply dr_nil); (first | kernel_rfl | exact rfl)) | ((with_reducible first | apply rp | apply dr); first | ((with_reducible apply does_move); (conv => lhs; whnf)) | ((with_reducible apply does_assign); (conv => lhs; whnf)) | ((with_reducible apply does_fieldAddr); exact tyOk rfl; exact rfl; exact rfl; decide; exact rfl) | ((with_reducible apply does_load_var); exact tyOk rfl; exact rfl; exact rfl; exact rfl; exact rfl) | ((with_reducible apply does_len_ow); exact tyOk rfl; exact rfl; exact rfl) | ((with_reducible apply does_nilCheck); exact rfl)) | ((with_reducible apply dr1); ((with_reducible apply does_buildSlice); exact tyOk rfl; exact rfl; exact tyOk rfl; exact rfl; exact rfl; (focus repeat' (first | exact trivial | refine And.intro rfl (And.intro rfl ?_))); decide; decide; exact rfl)) | ((with_reducible apply dr2); first | (exact does_append_own (tyOk rfl) rfl (tyOk rfl) rfl rfl rfl (by decide) (by simp; omega) (by simp; omega) rfl) | (exact (by (with_reducible apply does_frz2 24 30); exact rfl; exact rfl; exact rfl; exact rfl; (with_reducible apply does_build); exact tyOk rfl; exact rfl; exact rfl; (focus repeat' (first | exact rfl | refine ⟨_, _, rfl, rfl, Nat.le_of_ble_eq_true rfl, rfl, ?_⟩)); exact rfl))) | ((with_reducible apply drN); ((with_reducible apply does_store); exact tyOk rfl; exact rfl; exact rfl; (conv => lhs; whnf); exact rfl; exact rfl; exact Nat.le_of_ble_eq_true rfl)))
  refine aw_loop (fun n s => ∃ k tk X2 K L, ts.take k = tk ∧ k ≤ ts.length ∧ n = ts.length - k ∧ X2 = (X ++ [[.sl 1 (ks.map strE), .sl 1 (vs.map intE), .nl]]) ++ (layF (X.length + 1) tk).2.map nodeC ∧ K = (layF (X.length + 1) tk).1.map natE ∧ L = X2.length ∧
      s = ⟨[(0, .px 1000 0), (1, .px 1001 0), (5, .d (iD X.length)), (6, .ow 2002 K.length), (39, .ow 3003 ts.length), (40, .d (iD ts.length)), (41, .d (iD k))],
        [(1000, .var TQ.T [.ow 3001 ks.length, .ow 3002 vs.length, .ow 3003 ts.length]), (3001, .row TQ.K 1 (ks.map strE)), (3002, .row TQ.V 1 (vs.map intE)), (3003, .res (kidsR TQ ts)), (1001, .var 26 [.ow 2000 L]), (2000, .row 41 3 X2), (2002, .row 3 1 K)]⟩) _ _ ?_ ⟨0, [], X ++ [[.sl 1 (ks.map strE), .sl 1 (vs.map intE), .nl]], [], X.length + 1, rfl, by omega, rfl, by simp [layF], by simp [layF], by simp, rfl⟩ ?_
  · refine Ent.trans (ent_nil 6 2002 3 1 rfl rfl) ?_
    refine forget_of [(2000, 33)] (by repeat' (first | exact ks_nil | (refine ks_cons rfl (by exact SubA.refl _) ?_))) (by repeat' (first | exact trivial | exact rfl | refine And.intro ?_ ?_)) rfl (by repeat' (first | exact trivial | exact inB_ow rfl | exact inB_px rfl | refine And.intro ?_ ?_)) (by repeat' (first | exact trivial | exact inB_ow rfl | exact inB_px rfl | refine And.intro ?_ ?_))
  · rintro n s1 ⟨k, tk, X2, K, L, htk, hk, rfl, hX2, hK, hL, rfl⟩
    subst hL
    have htl : tk.length = k := by rw [← htk, List.length_take]; omega
    have hX2l : X2.length = X.length + 1 + (layF (X.length + 1) tk).2.length := by rw [hX2]; simp; omega
    repeat (first | (with_reducible first | apply aw_seq | apply aw_reg | apply rp_nil | apply ae_norm) | ((with_reducible apply rp); ((with_reducible apply does_lt); exact rfl; exact rfl)))
    refine aw_cond rfl (fun hd => ?_) (fun hd => ?_)
    · have hlt : k < ts.length := by simpa using hd
      obtain ⟨l1, t0, l2, hts2, hl1⟩ := split_at hlt
      have hl1k : tk = l1 := by rw [← htk, hts2, ← hl1]; simp
      have ht0 : ts[k]? = some t0 := by rw [hts2, ← hl1]; simp
      have hbnd : X2.length + (layN X2.length t0).length ≤ 10000 := by
        unfold layN at hX
        simp only [List.length_cons] at hX
        rw [hts2, show l1 ++ t0 :: l2 = (l1 ++ [t0]) ++ l2 by simp, layF_app, layF_snoc] at hX
        simp only [List.length_append] at hX
        rw [hX2l, hl1k]
        omega
      have hKl : K.length ≤ 4 := by
        have h9 : ∀ (l : List Tn) (a : Nat), (layF a l).1.length = l.length := fun l => by
          induction l with
          | nil => intro a; simp [layF]
          | cons t l ih2 => intro a; unfold layF; simp [ih2]
        rw [hK, List.length_map, h9]; omega
      have c1 := ih k t0 ht0 X2 hbnd
      generalize hN : X2 ++ (layN X2.length t0).map nodeC = X3 at *
      unfold LayPX at c1
      rw [hN] at c1
      repeat (first | (refine aw_after (id := 7) mixed ?_; (with_reducible apply aw_reg)) | (with_reducible first | apply aw_seq | apply aw_reg | apply rp_nil | apply ae_norm | apply aw_block | apply aw_skip) | ((with_reducible apply rp); first | ((with_reducible apply does_move); (conv => lhs; whnf)) | ((with_reducible apply does_assign); (conv => lhs; whnf)) | ((with_reducible apply does_index_own); exact tyOk rfl; exact rfl; exact tyOk rfl; exact rfl; exact rfl; exact rfl; (first | omega | (dsimp only; simp only [List.length_map, List.length_append, List.length_cons, List.length_nil] at *; omega) | (simp only [List.length_map, List.length_append, List.length_cons, List.length_nil] at *; omega)))) | ((with_reducible apply rp1); ((with_reducible apply does_buildSlice); exact tyOk rfl; exact rfl; exact tyOk rfl; exact rfl; exact rfl; (focus repeat' (first | exact trivial | refine And.intro rfl (And.intro rfl ?_))); decide; decide; exact rfl)) | ((with_reducible apply rp2); first | (exact does_load_kid (Q := TQ) (l1 := l1) (l2 := l2) (t0 := t0) (tyOk rfl) rfl rfl (by rw [← hts2]; exact rfl) hl1 rfl) | ((with_reducible apply does_append_own); exact tyOk rfl; exact rfl; exact tyOk rfl; exact rfl; exact rfl; exact rfl; decide; (first | omega | (dsimp only; simp only [List.length_map, List.length_append, List.length_cons, List.length_nil] at *; omega) | (simp only [List.length_map, List.length_append, List.length_cons, List.length_nil] at *; omega)); (first | omega | (dsimp only; simp only [List.length_map, List.length_append, List.length_cons, List.length_nil] at *; omega) | (simp only [List.length_map, List.length_append, List.length_cons, List.length_nil] at *; omega)); exact rfl)) | ((with_reducible apply rpL); (refine does_callX [(1000, 44)] [(1000, 44), (2000, 48)] (ups := [(44, .res (treeR TQ t0)), (1001, .var 26 [.ow 48 X3.length]), (48, .row 41 3 X3), (2000, .dead)]) rfl (c1) rfl ?_ rfl ?_ ?_ rfl rfl rfl rfl rfl ?_ rfl rfl; (focus repeat' (first | exact trivial | exact rfl | refine And.intro ?_ ?_)); (focus repeat' (first | exact trivial | exact inB_ow rfl | exact inB_px rfl | refine And.intro ?_ ?_)); (focus repeat' (first | exact trivial | exact inB_ow rfl | exact inB_px rfl | refine And.intro ?_ ?_)); (focus repeat' (first | exact trivial | exact inB_ow rfl | exact inB_px rfl | refine And.intro ?_ ?_))); exact lapp_nil _))
      refine after1 (fun C ac w h => ent_kback (Q := TQ) 3003 44 rfl rfl h) ?_
      rw [← hts2]
      repeat (first | (with_reducible first | apply aw_reg | apply rp_nil | apply ae_norm | apply be_norm) | ((with_reducible apply rp); first | ((with_reducible apply does_move); (conv => lhs; whnf)) | ((with_reducible apply does_add); exact rfl; exact rfl; omega; omega)))
      refine ⟨ts.length - (k + 1), _, by omega, ?_, k + 1, tk ++ [t0], X3, K ++ [natE X2.length], X3.length, by rw [List.take_add_one, htk, ht0]; rfl, by omega, rfl, ?_, ?_, rfl, rfl⟩
      · refine forget_of [(2000, 48), (2002, 50)] (by repeat' (first | exact ks_nil | (refine ks_cons rfl (by (first | exact SubA.refl _ | exact subA_ow (by (simp; done)))) ?_))) (by repeat' (first | exact trivial | exact rfl | refine And.intro ?_ ?_)) rfl (by repeat' (first | exact trivial | exact inB_ow rfl | exact inB_px rfl | refine And.intro ?_ ?_)) (by repeat' (first | exact trivial | exact inB_ow rfl | exact inB_px rfl | refine And.intro ?_ ?_))
      · rw [← hN, layF_snoc, List.map_append, ← List.append_assoc, ← hX2, hX2l]
      · rw [layF_snoc, List.map_append, ← hK, hX2l]
        rfl
    · have hkl : k = ts.length := by simp at hd; omega
      have hall : tk = ts := by rw [← htk, List.take_of_length_le (by omega)]
      have hget : X2[X.length]? = some [.sl 1 (ks.map strE), .sl 1 (vs.map intE), .nl] := by rw [hX2]; simp
      have hfin : X2.set X.length [.sl 1 (ks.map strE), .sl 1 (vs.map intE), .sl 1 K] = Y := by
        rw [← hY, hX2, hall, layN, List.append_assoc, List.set_append_right _ _ (Nat.le_refl _), Nat.sub_self, hK, hall]
        rfl
      have hm2 : X2.length = m := by rw [← hm, ← hfin, List.length_set]
      subst hm2
      subst hfin
      repeat (first | (refine aw_exR1 (id := 9) mixed (fun C ac w h => ent_frz (E := 3) (sz := 1) (es := K) 6 2002 _ rfl rfl h) ?_; (with_reducible apply aw_reg)) | (refine aw_after (id := 10) mixed ?_; (with_reducible apply aw_reg)) | (with_reducible apply rp_nil) | ((with_reducible apply rp); first | ((with_reducible apply does_move); (conv => lhs; whnf)) | ((with_reducible apply does_assign); (conv => lhs; whnf)) | ((with_reducible apply does_fieldAddr); exact tyOk rfl; exact rfl; exact rfl; decide; exact rfl) | ((with_reducible apply does_load_var); exact tyOk rfl; exact rfl; exact rfl; exact rfl; exact rfl) | ((with_reducible apply does_index_own); exact tyOk rfl; exact rfl; exact tyOk rfl; exact rfl; exact rfl; exact rfl; omega) | ((with_reducible apply does_nilCheck); exact rfl)) | ((with_reducible apply rpN); ((with_reducible apply does_store_own); exact tyOk rfl; exact rfl; exact rfl; exact rfl; exact rfl; assumption; exact rfl; exact Nat.le_of_ble_eq_true rfl)))
      refine after1 (fun C ac w h => ent_shut (Q := TQ) (ks := ks) (vs := vs) (ts := ts) 1000 3001 3002 3003 rfl rfl rfl rfl (by decide) h) ?_
      repeat (first | (with_reducible first | apply ae_norm | apply aw_ret | apply xf_ret))
      (with_reducible apply retxf_ok (l := [])); (focus (repeat' (first | (with_reducible apply rv_nil) | (with_reducible apply rv_cons) | ((with_reducible apply rv_tmp); exact rfl)))); exact rfl; exact SubD.refl _; refine ⟨(by repeat' (first | exact ks_nil | (refine ks_cons rfl (by exact SubA.refl _) ?_))), (by repeat' (first | exact trivial | exact rfl | refine And.intro ?_ ?_)), rfl, (by repeat' (first | exact trivial | exact inB_ow rfl | exact inB_px rfl | refine And.intro ?_ ?_)), (by repeat' (first | exact trivial | exact inB_ow rfl | exact inB_px rfl | refine And.intro ?_ ?_))⟩
end Go.Proofs.Ytobgjkkadnihjaa

