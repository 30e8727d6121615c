/-
  of: the tree of laid nodes. No condition but the shape.
-/
import Derived.Test.YtfplkakfakdfhaaDoorZM13
namespace Go.Proofs.YtfplkakfakdfhaaDoor
set_option linter.unusedSimpArgs false
set_option linter.unusedVariables false
open Go.RowKit

/-- A laid node. -/
structure Nd where
  ks : List ByteArray
  vs : List Int
  kids : List Nat
def natE (j : Nat) : List D := [iD j]
def nodeC (n : Nd) : List D := [.sl 1 (n.ks.map strE), .sl 1 (n.vs.map intE), .sl 1 (n.kids.map natE)]
def nodesD (ns : List Nd) : D := .sl 3 (ns.map nodeC)
def treeD (ns : List Nd) : D := .ag [nodesD ns]
mutual
/-- The tree that is laid from here. -/
def Lies (ns : List Nd) : Nat → Tn → Prop
  | i, .node ks vs ts => ∃ kids, ns[i]? = some ⟨ks, vs, kids⟩ ∧ LiesF ns kids ts
def LiesF (ns : List Nd) : List Nat → List Tn → Prop
  | kids, [] => kids = []
  | kids, t :: ts => ∃ k r, kids = k :: r ∧ Lies ns k t ∧ LiesF ns r ts
end
theorem LiesF.len {ns : List Nd} : ∀ {ts : List Tn} {kids : List Nat}, LiesF ns kids ts → kids.length = ts.length
  | [], _, h => by rw [h]; rfl
  | t :: ts, _, ⟨k, r, h, _, h2⟩ => by rw [h, List.length_cons, List.length_cons, LiesF.len h2]
theorem LiesF.get {ns : List Nd} : ∀ {ts : List Tn} {kids : List Nat} {j : Nat} {k : Nat} {t : Tn}, LiesF ns kids ts → kids[j]? = some k → ts[j]? = some t → Lies ns k t
  | [], _, j, k, t, h, _, ht => by simp at ht
  | t0 :: ts, _, 0, k, t, ⟨k', r, h, h1, h2⟩, hk, ht => by
    subst h
    simp only [List.getElem?_cons_zero, Option.some.injEq] at hk ht
    subst hk ht
    exact h1
  | t0 :: ts, _, j + 1, k, t, ⟨k', r, h, h1, h2⟩, hk, ht => by
    subst h
    exact LiesF.get h2 (by simpa using hk) (by simpa using ht)
abbrev OfPG (ns : List Nd) (i : Nat) (t : Tn) : Prop :=
  PG Tryd.prog 38 [.d (treeD ns), .d (iD i)] [] [] (.px 2000 0) [] [(2000, .res (treeR TQ t))]
theorem of_step (ns : List Nd) (i : Nat) (ks : List ByteArray) (vs : List Int) (kids : List Nat) (ts : List Tn) (hi : ns[i]? = some ⟨ks, vs, kids⟩) (hks : ks.length ≤ 3) (hvs : vs.length = ks.length) (hts : ts.length ≤ 4) (hlen : kids.length = ts.length)
    (ih : ∀ (j k : Nat) (t : Tn), kids[j]? = some k → ts[j]? = some t → OfPG ns k t) : OfPG ns i (.node ks vs ts) := by
  have hg : (ns.map nodeC)[i]? = some [.sl 1 (ks.map strE), .sl 1 (vs.map intE), .sl 1 (kids.map natE)] := by rw [List.getElem?_map, hi]; rfl
  have hklen : (kids.map natE).length = kids.length := List.length_map _
  have hkg : ∀ {j k : Nat}, kids[j]? = some k → (kids.map natE)[j]? = some [iD k] := fun h => by rw [List.getElem?_map, h]; rfl
  unfold OfPG at *
  unfold treeD nodesD at *
  generalize hcs : ns.map nodeC = cs at *
  have hlt : i < cs.length := (List.getElem?_eq_some_iff.1 hg).1
  generalize hes : kids.map natE = es at *
  refine pg_of_aw Tryd.func38 rfl (by kernel_rfl) mixed (by kernel_rfl) (by rw [Tryd.ntmps38]; exact Nat.le_of_ble_eq_true rfl) Tryd.results38 rfl ?_
  repeat (with_reducible apply aw_seq)
  repeat (first | (refine aw_after (id := 3) mixed ?_; (with_reducible apply aw_reg)) | (with_reducible first | apply aw_seq | apply aw_reg | apply rp_nil | apply ae_norm | apply aw_regD) | ((with_reducible apply dr_nil); (first | kernel_rfl | exact rfl)) | ((with_reducible first | apply rp | apply dr); first | (exact (by (with_reducible apply does_build_own (out := [.ow 17 _, .ow 21 _, .d .nl])); exact tyOk rfl; exact rfl; exact rfl; (focus repeat' (first | exact rfl | refine ⟨_, _, rfl, rfl, Nat.le_of_ble_eq_true rfl, rfl, ?_⟩)))) | ((with_reducible apply does_move); (conv => lhs; whnf)) | ((with_reducible apply does_assign); (conv => lhs; whnf)) | ((with_reducible apply does_fieldAddr); exact tyOk rfl; exact rfl; exact rfl; decide; exact rfl) | ((with_reducible apply does_load_var); exact tyOk rfl; exact rfl; exact rfl; exact rfl; exact rfl) | ((with_reducible apply does_load_elem_whole); exact tyOk rfl; exact rfl; exact rfl; assumption; exact rfl) | ((with_reducible apply does_index_sl); exact tyOk rfl; exact rfl; exact tyOk rfl; exact rfl; exact rfl; exact rfl; exact rfl; omega) | ((with_reducible apply does_len_sl); exact tyOk rfl; exact rfl; exact rfl)) | ((with_reducible first | apply rp1 | apply dr1); first | ((with_reducible apply does_box_ag); exact rfl; exact rfl) | ((with_reducible apply does_box); exact rfl; exact rfl) | ((with_reducible apply does_alloc); exact tyOk rfl; exact rfl) | ((with_reducible apply does_buildSlice); exact tyOk rfl; exact rfl; exact tyOk rfl; exact rfl; exact rfl; (focus repeat' (first | exact trivial | refine And.intro rfl (And.intro rfl ?_))); decide; decide; exact rfl)) | ((with_reducible apply dr2); (exact does_append_own (tyOk rfl) rfl (tyOk rfl) rfl rfl rfl (by decide) (by simp; omega) (by simp; omega) rfl)) | ((with_reducible apply rpN); ((with_reducible apply does_store_whole); exact tyOk rfl; exact rfl; exact rfl; exact rfl; exact rfl; exact rfl)))
  refine after1 (fun C ac w h => ent_knil (Q := TQ) 23 2001 rfl rfl h) ?_
  refine aw_loop (fun n s => ∃ k tk, ts.take k = tk ∧ k ≤ es.length ∧ n = es.length - k ∧ s = ⟨[(2, .px 2 0), (6, .px 23 0), (25, .d (.sl 1 es)), (26, .d (iD es.length)), (27, .d (iD k))], [(2, .var 34 [.d (.sl 3 cs)]), (23, .var TQ.T [.ow 17 (0 + (ks.map strE).length), .ow 21 (0 + (vs.map intE).length), .ow 2001 k]), (17, .row TQ.K 1 (ks.map strE)), (21, .row TQ.V 1 (vs.map intE)), (2001, .res (kidsR TQ tk))]⟩) _ _ ?_ ⟨0, [], rfl, by omega, rfl, rfl⟩ ?_
  · refine forget_of [] (by repeat' (first | exact ks_nil | (refine ks_cons rfl (by exact SubA.refl _) ?_))) (by repeat' (first | exact trivial | exact rfl | refine And.intro ?_ ?_)) rfl (by repeat' (first | exact trivial | exact inB_ow rfl | exact inB_px rfl | refine And.intro ?_ ?_)) (by repeat' (first | exact trivial | exact inB_ow rfl | exact inB_px rfl | refine And.intro ?_ ?_))
  · rintro n s1 ⟨k, tk, htk, hk, rfl, rfl⟩
    have htl : tk.length = k := by rw [← htk, List.length_take]; omega
    subst htl
    repeat (first | (with_reducible first | apply aw_seq | apply aw_reg | apply rp_nil | apply ae_norm) | ((with_reducible apply rp); ((with_reducible apply does_lt); exact rfl; exact rfl)))
    refine aw_cond rfl (fun hd => ?_) (fun hd => ?_)
    · have hlt2 : tk.length < es.length := by simpa using hd
      obtain ⟨j, hj⟩ : ∃ j, kids[tk.length]? = some j := ⟨_, List.getElem?_eq_getElem (by omega)⟩
      obtain ⟨t0, ht0⟩ : ∃ t, ts[tk.length]? = some t := ⟨_, List.getElem?_eq_getElem (by omega)⟩
      have c1 := ih tk.length j t0 hj ht0
      have hgj := hkg hj
      repeat (first | (with_reducible first | apply aw_seq | apply aw_reg | apply rp_nil | apply ae_norm | apply aw_regD | apply aw_block | apply be_norm | apply aw_skip) | ((with_reducible apply dr_nil); (first | kernel_rfl | exact rfl)) | ((with_reducible first | apply rp | apply dr); first | ((with_reducible apply does_move); (conv => lhs; whnf)) | ((with_reducible apply does_assign); (conv => lhs; whnf)) | ((with_reducible apply does_fieldAddr); exact tyOk rfl; exact rfl; exact rfl; decide; exact rfl) | ((with_reducible apply does_load_var); exact tyOk rfl; exact rfl; exact rfl; exact rfl; exact rfl) | ((with_reducible apply does_load_elem); exact tyOk rfl; exact rfl; exact rfl; assumption; exact rfl) | ((with_reducible apply does_load_row); exact tyOk rfl; exact rfl; exact rfl; exact rfl; exact Nat.le_of_ble_eq_true rfl; exact rfl) | ((with_reducible apply does_index_sl); exact tyOk rfl; exact rfl; exact tyOk rfl; exact rfl; exact rfl; exact rfl; exact rfl; omega) | ((with_reducible apply does_add); exact rfl; exact rfl; omega; omega) | ((with_reducible apply does_nilCheck); exact rfl)) | ((with_reducible apply dr2); (exact does_build_kid (Q := TQ) (tyOk rfl) rfl (tyOk rfl) rfl rfl rfl rfl rfl)) | ((with_reducible apply drN); ((with_reducible apply does_store); exact tyOk rfl; exact rfl; exact rfl; (conv => lhs; whnf); exact rfl; exact rfl; exact Nat.le_of_ble_eq_true rfl)) | ((with_reducible apply drL); (refine does_callG' [] [(2000, 38)] (ups := [(38, .res (treeR TQ t0))]) (v := (.px 38 0)) rfl (c1) rfl ?_ rfl ?_ ?_ rfl rfl rfl rfl rfl ?_ ?_ rfl rfl rfl; (focus repeat' exact trivial); (focus repeat' (first | exact trivial | exact inB_px rfl | refine And.intro ?_ ?_)); (focus repeat' (first | exact trivial | exact inB_px rfl | refine And.intro ?_ ?_)); (focus repeat' (first | exact trivial | exact inB_px rfl | refine And.intro ?_ ?_)); (focus repeat' (first | exact trivial | exact inB_px rfl | refine And.intro ?_ ?_))); exact lapp_nil _) | ((with_reducible apply drL); (exact does_append_kids (Q := TQ) (tyOk rfl) rfl (tyOk rfl) rfl rfl rfl rfl rfl rfl (by simp; omega) (by simp; omega) (by decide) rfl); exact lapp_nil _))
      have hnext : ts.take (tk.length + 1) = tk ++ [t0] := by rw [List.take_add_one, ht0, htk]; rfl
      refine ⟨es.length - (tk.length + 1), _, by omega, ?_, tk.length + 1, tk ++ [t0], hnext, by omega, rfl, rfl⟩
      refine forget_of [(2001, 40)] (by repeat' (first | exact ks_nil | (refine ks_cons rfl (by exact SubA.refl _) ?_))) (by repeat' (first | exact trivial | exact rfl | refine And.intro ?_ ?_)) rfl (by repeat' (first | exact trivial | exact inB_ow rfl | exact inB_px rfl | refine And.intro ?_ ?_)) (by repeat' (first | exact trivial | exact inB_ow rfl | exact inB_px rfl | refine And.intro ?_ ?_))
    · have hkl : tk.length = es.length := by simp at hd; omega
      have hall : ts = tk := by rw [← htk, List.take_of_length_le (by omega)]
      subst hall
      repeat (first | (refine aw_after (id := 8) mixed ?_; (with_reducible apply aw_reg)) | (with_reducible apply rp_nil) | ((with_reducible apply rp); first | ((with_reducible apply does_move); (conv => lhs; whnf)) | ((with_reducible apply does_assign); (conv => lhs; whnf))))
      refine after1 (fun C ac w h => ent_shut (Q := TQ) (ks := ks) (vs := vs) (ts := ts) 23 17 21 2001 rfl rfl rfl rfl (by decide) h) ?_
      repeat (first | (with_reducible first | apply ae_norm | apply aw_ret | apply xg_ret))
      (with_reducible apply retg_ok (l := [(2000, 23)])); (focus (repeat' (first | (with_reducible apply rv_nil) | (with_reducible apply rv_cons) | ((with_reducible apply rv_tmp); exact rfl)))); rotate_left; refine ⟨(by repeat' exact ks_nil), (by repeat' (first | exact trivial | exact rfl | refine And.intro ?_ ?_)), rfl, (by repeat' (first | exact trivial | refine And.intro ?_ ?_)), (by repeat' (first | exact trivial | refine And.intro ?_ ?_))⟩; refine SubA.of_eq ?_
      rfl
theorem of_pg (ns : List Nd) : ∀ (h : Nat) (t : Tn) (i : Nat), Sh h t → Lies ns i t → OfPG ns i t
  | 0, .node ks vs ts, i, hs, hl => by
    obtain ⟨h1, h2, h3, rfl⟩ := hs
    obtain ⟨kids, hi, hf⟩ := hl
    exact of_step ns i ks vs kids [] hi h3 h1 (by simp) hf.len fun j k t _ ht => by simp at ht
  | h + 1, .node ks vs ts, i, hs, hl => by
    obtain ⟨h1, h2, h3, h4, h5⟩ := hs
    obtain ⟨kids, hi, hf⟩ := hl
    exact of_step ns i ks vs kids ts hi h3 h1 (by omega) hf.len fun j k t hk ht => of_pg ns h t k (h5 t (List.mem_of_getElem? ht)) (hf.get hk ht)
theorem root_nil : PG Tryd.prog 26 [.d (treeD [])] [] [] (.d (.sc (.pointer none))) [] [] := by
  unfold treeD nodesD
  show PG _ _ [.d (.ag [.sl 3 []])] _ _ _ _ _
  refine pg_of_aw Tryd.func26 rfl (by kernel_rfl) mixed (by kernel_rfl) (by rw [Tryd.ntmps26]; exact Nat.le_of_ble_eq_true rfl) Tryd.results26 rfl ?_
  repeat (first | (with_reducible first | apply aw_seq | apply aw_reg | apply rp_nil | apply ae_norm | apply aw_ret | apply ae_ret | apply xg_ret) | ((with_reducible apply rp); first | ((with_reducible apply does_assign); (conv => lhs; whnf)) | ((with_reducible apply does_fieldAddr); exact tyOk rfl; exact rfl; exact rfl; decide; exact rfl) | ((with_reducible apply does_load_var); exact tyOk rfl; exact rfl; exact rfl; exact rfl; exact rfl) | ((with_reducible apply does_eq); exact rfl; exact rfl) | ((with_reducible apply does_len_sl); exact tyOk rfl; exact rfl; exact rfl)) | ((with_reducible apply rp1); ((with_reducible apply does_box_ag); exact rfl; exact rfl)) | ((with_reducible apply aw_cond); exact rfl; rotate_left; (focus (intro hd; (cases hd; done))); (intro hd; clear hd)))
  (with_reducible apply retg_ok (l := [])); (focus (repeat' (first | (with_reducible apply rv_nil) | (with_reducible apply rv_cons) | ((with_reducible apply rv_tmp); exact rfl)))); rotate_left; refine ⟨(by repeat' exact ks_nil), (by repeat' exact trivial), rfl, (by repeat' exact trivial), (by repeat' exact trivial)⟩; refine SubA.of_eq ?_
  rfl
theorem root_pg (ns : List Nd) (h : Nat) (t : Tn) (hs : Sh h t) (hl : Lies ns 0 t) : PG Tryd.prog 26 [.d (treeD ns)] [] [] (.px 2000 0) [] [(2000, .res (treeR TQ t))] := by
  have c1 := of_pg ns h t 0 hs hl
  have hne : (((ns.map nodeC).length : Int) == 0) = false := by
    rw [beq_eq_false_iff_ne, List.length_map]
    cases ns with
    | nil => cases t; obtain ⟨_, h, _⟩ := hl; simp at h
    | cons => simp; omega
  unfold OfPG at c1
  unfold treeD nodesD at *
  generalize hcs : ns.map nodeC = cs at *
  refine pg_of_aw Tryd.func26 rfl (by kernel_rfl) mixed (by kernel_rfl) (by rw [Tryd.ntmps26]; exact Nat.le_of_ble_eq_true rfl) Tryd.results26 rfl ?_
  repeat (first | (with_reducible first | apply aw_seq | apply aw_reg | apply rp_nil | apply ae_norm) | ((with_reducible apply rp); first | ((with_reducible apply does_assign); (conv => lhs; whnf)) | ((with_reducible apply does_fieldAddr); exact tyOk rfl; exact rfl; exact rfl; decide; exact rfl) | ((with_reducible apply does_load_var); exact tyOk rfl; exact rfl; exact rfl; exact rfl; exact rfl) | ((with_reducible apply does_eq); exact rfl; exact rfl) | ((with_reducible apply does_len_sl); exact tyOk rfl; exact rfl; exact rfl)) | ((with_reducible apply rp1); ((with_reducible apply does_box_ag); exact rfl; exact rfl)))
  refine aw_cond rfl (fun hd => absurd (hne.symm.trans hd) (by decide)) (fun _ => ?_)
  repeat (first | (with_reducible first | apply aw_seq | apply aw_reg | apply rp_nil | apply ae_norm | apply aw_ret | apply xg_ret | apply aw_skip) | ((with_reducible apply rp); first | ((with_reducible apply does_assign); (conv => lhs; whnf)) | ((with_reducible apply does_load_row); exact tyOk rfl; exact rfl; exact rfl; exact rfl; exact Nat.le_of_ble_eq_true rfl; exact rfl)) | ((with_reducible apply rpL); (refine does_callG' [] [(2000, 8)] (ups := [(8, .res (treeR TQ t))]) (v := (.px 8 0)) rfl (c1) rfl ?_ rfl ?_ ?_ rfl rfl rfl rfl rfl ?_ ?_ rfl rfl rfl; (focus repeat' exact trivial); (focus repeat' (first | exact trivial | exact inB_px rfl | refine And.intro ?_ ?_)); (focus repeat' (first | exact trivial | exact inB_px rfl | refine And.intro ?_ ?_)); (focus repeat' (first | exact trivial | exact inB_px rfl | refine And.intro ?_ ?_)); (focus repeat' (first | exact trivial | exact inB_px rfl | refine And.intro ?_ ?_))); exact lapp_nil _))
  (with_reducible apply retg_ok (l := [(2000, 8)])); (focus (repeat' (first | (with_reducible apply rv_nil) | (with_reducible apply rv_cons) | ((with_reducible apply rv_tmp); exact rfl)))); rotate_left; refine ⟨(by repeat' exact ks_nil), (by repeat' (first | exact trivial | exact rfl | refine And.intro ?_ ?_)), rfl, (by repeat' (first | exact trivial | refine And.intro ?_ ?_)), (by repeat' (first | exact trivial | refine And.intro ?_ ?_))⟩; refine SubA.of_eq ?_
  rfl
end Go.Proofs.YtfplkakfakdfhaaDoor


/-
  lay: a tree as laid nodes. No condition but the shape, and few nodes.
-/
namespace Go.Proofs.YtfplkakfakdfhaaDoor
set_option linter.unusedSimpArgs false
set_option linter.unusedVariables false
open Go.RowKit

mutual
/-- The nodes of a tree, as they are laid from number a on. -/
def layN (a : Nat) : Tn → List Nd
  | .node ks vs ts => ⟨ks, vs, (layF (a + 1) ts).1⟩ :: (layF (a + 1) ts).2
/-- The numbers of these trees, and their nodes. -/
def layF (a : Nat) : List Tn → List Nat × List Nd
  | [] => ([], [])
  | t :: ts => (a :: (layF (a + (layN a t).length) ts).1, layN a t ++ (layF (a + (layN a t).length) ts).2)
end
theorem layF_snoc : ∀ (ts : List Tn) (a : Nat) (t : Tn), layF a (ts ++ [t]) = ((layF a ts).1 ++ [a + (layF a ts).2.length], (layF a ts).2 ++ layN (a + (layF a ts).2.length) t)
  | [], a, t => by unfold layF; rw [List.nil_append]; unfold layF; simp [layF]
  | t0 :: ts, a, t => by
    rw [List.cons_append]
    unfold layF
    rw [layF_snoc ts]
    simp [Nat.add_assoc]
theorem layF_app : ∀ (l1 l2 : List Tn) (a : Nat), (layF a (l1 ++ l2)).2.length = (layF a l1).2.length + (layF (a + (layF a l1).2.length) l2).2.length
  | [], l2, a => by rw [List.nil_append]; simp [layF]
  | t :: l1, l2, a => by
    have e1 : ∀ l, (layF a (t :: l)).2 = layN a t ++ (layF (a + (layN a t).length) l).2 := fun l => by rw [layF]
    rw [List.cons_append, e1, e1, List.length_append, List.length_append, layF_app l1 l2, Nat.add_assoc a, Nat.add_assoc]
abbrev LayPX (X : List (List D)) (t : Tn) : Prop :=
  PX Tryd.prog 39 [.px 1000 0, .px 1001 0] [(1000, .res (treeR TQ t)), (1001, .var 34 [.ow 2000 X.length])] [(2000, .row 68 3 X)] (iD X.length)
    [(1000, .res (treeR TQ t)), (1001, .var 34 [.ow 2000 (X ++ (layN X.length t).map nodeC).length])] [(2000, .row 68 3 (X ++ (layN X.length t).map nodeC))]
theorem lay_step (X : List (List D)) (ks : List ByteArray) (vs : List Int) (ts : List Tn) (hks : ks.length ≤ 3) (hvs : vs.length = ks.length) (hts : ts.length ≤ 4) (hX : X.length + (layN X.length (.node ks vs ts)).length ≤ 10000)
    (ih : ∀ (j : Nat) (t : Tn), ts[j]? = some t → ∀ Y : List (List D), Y.length + (layN Y.length t).length ≤ 10000 → LayPX Y t) : LayPX X (.node ks vs ts) := by
  unfold LayPX
  generalize hY : X ++ (layN X.length (.node ks vs ts)).map nodeC = Y
  generalize hm : Y.length = m
  have hXl : X.length < 10000 := by unfold layN at hX; simp only [List.length_cons] at hX; omega
  refine pxf_of_aw Tryd.func39 rfl (by kernel_rfl) mixed (by kernel_rfl) (by rw [Tryd.ntmps39]; exact Nat.le_of_ble_eq_true rfl) Tryd.results39 rfl ?_
  repeat (with_reducible apply aw_seq)
  refine aw_exR1 mixed (fun C ac w h => ent_open (Q := TQ) 1000 3001 3002 3003 rfl rfl rfl rfl (by decide) (by decide) (by decide) h) ?_
  repeat (first | (with_reducible first | apply aw_seq | apply aw_reg | apply rp_nil | apply ae_norm | apply aw_regD | apply aw_block) | ((with_reducible apply dr_nil); (first | kernel_rfl | exact rfl)) | ((with_reducible first | apply rp | apply dr); first | ((with_reducible apply does_move); (conv => lhs; whnf)) | ((with_reducible apply does_assign); (conv => lhs; whnf)) | ((with_reducible apply does_fieldAddr); exact tyOk rfl; exact rfl; exact rfl; decide; exact rfl) | ((with_reducible apply does_load_var); exact tyOk rfl; exact rfl; exact rfl; exact rfl; exact rfl) | ((with_reducible apply does_len_ow); exact tyOk rfl; exact rfl; exact rfl) | ((with_reducible apply does_nilCheck); exact rfl)) | ((with_reducible apply dr1); ((with_reducible apply does_buildSlice); exact tyOk rfl; exact rfl; exact tyOk rfl; exact rfl; exact rfl; (focus repeat' (first | exact trivial | refine And.intro rfl (And.intro rfl ?_))); decide; decide; exact rfl)) | ((with_reducible apply dr2); first | (exact does_append_own (tyOk rfl) rfl (tyOk rfl) rfl rfl rfl (by decide) (by simp; omega) (by simp; omega) rfl) | (exact (by (with_reducible apply does_frz2 24 30); exact rfl; exact rfl; exact rfl; exact rfl; (with_reducible apply does_build); exact tyOk rfl; exact rfl; exact rfl; (focus repeat' (first | exact rfl | refine ⟨_, _, rfl, rfl, Nat.le_of_ble_eq_true rfl, rfl, ?_⟩)); exact rfl))) | ((with_reducible apply drN); ((with_reducible apply does_store); exact tyOk rfl; exact rfl; exact rfl; (conv => lhs; whnf); exact rfl; exact rfl; exact Nat.le_of_ble_eq_true rfl)))
  refine aw_loop (fun n s => ∃ k tk X2 K L, ts.take k = tk ∧ k ≤ ts.length ∧ n = ts.length - k ∧ X2 = (X ++ [[.sl 1 (ks.map strE), .sl 1 (vs.map intE), .nl]]) ++ (layF (X.length + 1) tk).2.map nodeC ∧ K = (layF (X.length + 1) tk).1.map natE ∧ L = X2.length ∧
      s = ⟨[(0, .px 1000 0), (1, .px 1001 0), (5, .d (iD X.length)), (6, .ow 2002 K.length), (39, .ow 3003 ts.length), (40, .d (iD ts.length)), (41, .d (iD k))],
        [(1000, .var TQ.T [.ow 3001 ks.length, .ow 3002 vs.length, .ow 3003 ts.length]), (3001, .row TQ.K 1 (ks.map strE)), (3002, .row TQ.V 1 (vs.map intE)), (3003, .res (kidsR TQ ts)), (1001, .var 34 [.ow 2000 L]), (2000, .row 68 3 X2), (2002, .row 3 1 K)]⟩) _ _ ?_ ⟨0, [], X ++ [[.sl 1 (ks.map strE), .sl 1 (vs.map intE), .nl]], [], X.length + 1, rfl, by omega, rfl, by simp [layF], by simp [layF], by simp, rfl⟩ ?_
  · refine Ent.trans (ent_nil 6 2002 3 1 rfl rfl) ?_
    refine forget_of [(2000, 33)] (by repeat' (first | exact ks_nil | (refine ks_cons rfl (by exact SubA.refl _) ?_))) (by repeat' (first | exact trivial | exact rfl | refine And.intro ?_ ?_)) rfl (by repeat' (first | exact trivial | exact inB_ow rfl | exact inB_px rfl | refine And.intro ?_ ?_)) (by repeat' (first | exact trivial | exact inB_ow rfl | exact inB_px rfl | refine And.intro ?_ ?_))
  · rintro n s1 ⟨k, tk, X2, K, L, htk, hk, rfl, hX2, hK, hL, rfl⟩
    subst hL
    have htl : tk.length = k := by rw [← htk, List.length_take]; omega
    have hX2l : X2.length = X.length + 1 + (layF (X.length + 1) tk).2.length := by rw [hX2]; simp; omega
    repeat (first | (with_reducible first | apply aw_seq | apply aw_reg | apply rp_nil | apply ae_norm) | ((with_reducible apply rp); ((with_reducible apply does_lt); exact rfl; exact rfl)))
    refine aw_cond rfl (fun hd => ?_) (fun hd => ?_)
    · have hlt : k < ts.length := by simpa using hd
      obtain ⟨l1, t0, l2, hts2, hl1⟩ := split_at hlt
      have hl1k : tk = l1 := by rw [← htk, hts2, ← hl1]; simp
      have ht0 : ts[k]? = some t0 := by rw [hts2, ← hl1]; simp
      have hbnd : X2.length + (layN X2.length t0).length ≤ 10000 := by
        unfold layN at hX
        simp only [List.length_cons] at hX
        rw [hts2, show l1 ++ t0 :: l2 = (l1 ++ [t0]) ++ l2 by simp, layF_app, layF_snoc] at hX
        simp only [List.length_append] at hX
        rw [hX2l, hl1k]
        omega
      have hKl : K.length ≤ 4 := by
        have h9 : ∀ (l : List Tn) (a : Nat), (layF a l).1.length = l.length := fun l => by
          induction l with
          | nil => intro a; simp [layF]
          | cons t l ih2 => intro a; unfold layF; simp [ih2]
        rw [hK, List.length_map, h9]; omega
      have c1 := ih k t0 ht0 X2 hbnd
      generalize hN : X2 ++ (layN X2.length t0).map nodeC = X3 at *
      unfold LayPX at c1
      rw [hN] at c1
      repeat (first | (refine aw_after (id := 7) mixed ?_; (with_reducible apply aw_reg)) | (with_reducible first | apply aw_seq | apply aw_reg | apply rp_nil | apply ae_norm | apply aw_block | apply aw_skip) | ((with_reducible apply rp); first | ((with_reducible apply does_move); (conv => lhs; whnf)) | ((with_reducible apply does_assign); (conv => lhs; whnf)) | ((with_reducible apply does_index_own); exact tyOk rfl; exact rfl; exact tyOk rfl; exact rfl; exact rfl; exact rfl; (first | omega | (dsimp only; simp only [List.length_map, List.length_append, List.length_cons, List.length_nil] at *; omega) | (simp only [List.length_map, List.length_append, List.length_cons, List.length_nil] at *; omega)))) | ((with_reducible apply rp1); ((with_reducible apply does_buildSlice); exact tyOk rfl; exact rfl; exact tyOk rfl; exact rfl; exact rfl; (focus repeat' (first | exact trivial | refine And.intro rfl (And.intro rfl ?_))); decide; decide; exact rfl)) | ((with_reducible apply rp2); first | (exact does_load_kid (Q := TQ) (l1 := l1) (l2 := l2) (t0 := t0) (tyOk rfl) rfl rfl (by rw [← hts2]; exact rfl) hl1 rfl) | ((with_reducible apply does_append_own); exact tyOk rfl; exact rfl; exact tyOk rfl; exact rfl; exact rfl; exact rfl; decide; (first | omega | (dsimp only; simp only [List.length_map, List.length_append, List.length_cons, List.length_nil] at *; omega) | (simp only [List.length_map, List.length_append, List.length_cons, List.length_nil] at *; omega)); (first | omega | (dsimp only; simp only [List.length_map, List.length_append, List.length_cons, List.length_nil] at *; omega) | (simp only [List.length_map, List.length_append, List.length_cons, List.length_nil] at *; omega)); exact rfl)) | ((with_reducible apply rpL); (refine does_callX [(1000, 44)] [(1000, 44), (2000, 48)] (ups := [(44, .res (treeR TQ t0)), (1001, .var 34 [.ow 48 X3.length]), (48, .row 68 3 X3), (2000, .dead)]) rfl (c1) rfl ?_ rfl ?_ ?_ rfl rfl rfl rfl rfl ?_ rfl rfl; (focus repeat' (first | exact trivial | exact rfl | refine And.intro ?_ ?_)); (focus repeat' (first | exact trivial | exact inB_ow rfl | exact inB_px rfl | refine And.intro ?_ ?_)); (focus repeat' (first | exact trivial | exact inB_ow rfl | exact inB_px rfl | refine And.intro ?_ ?_)); (focus repeat' (first | exact trivial | exact inB_ow rfl | exact inB_px rfl | refine And.intro ?_ ?_))); exact lapp_nil _))
      refine after1 (fun C ac w h => ent_kback (Q := TQ) 3003 44 rfl rfl h) ?_
      rw [← hts2]
      repeat (first | (with_reducible first | apply aw_reg | apply rp_nil | apply ae_norm | apply be_norm) | ((with_reducible apply rp); first | ((with_reducible apply does_move); (conv => lhs; whnf)) | ((with_reducible apply does_add); exact rfl; exact rfl; omega; omega)))
      refine ⟨ts.length - (k + 1), _, by omega, ?_, k + 1, tk ++ [t0], X3, K ++ [natE X2.length], X3.length, by rw [List.take_add_one, htk, ht0]; rfl, by omega, rfl, ?_, ?_, rfl, rfl⟩
      · refine forget_of [(2000, 48), (2002, 50)] (by repeat' (first | exact ks_nil | (refine ks_cons rfl (by (first | exact SubA.refl _ | exact subA_ow (by (simp; done)))) ?_))) (by repeat' (first | exact trivial | exact rfl | refine And.intro ?_ ?_)) rfl (by repeat' (first | exact trivial | exact inB_ow rfl | exact inB_px rfl | refine And.intro ?_ ?_)) (by repeat' (first | exact trivial | exact inB_ow rfl | exact inB_px rfl | refine And.intro ?_ ?_))
      · rw [← hN, layF_snoc, List.map_append, ← List.append_assoc, ← hX2, hX2l]
      · rw [layF_snoc, List.map_append, ← hK, hX2l]
        rfl
    · have hkl : k = ts.length := by simp at hd; omega
      have hall : tk = ts := by rw [← htk, List.take_of_length_le (by omega)]
      have hget : X2[X.length]? = some [.sl 1 (ks.map strE), .sl 1 (vs.map intE), .nl] := by rw [hX2]; simp
      have hfin : X2.set X.length [.sl 1 (ks.map strE), .sl 1 (vs.map intE), .sl 1 K] = Y := by
        rw [← hY, hX2, hall, layN, List.append_assoc, List.set_append_right _ _ (Nat.le_refl _), Nat.sub_self, hK, hall]
        rfl
      have hm2 : X2.length = m := by rw [← hm, ← hfin, List.length_set]
      subst hm2
      subst hfin
      repeat (first | (refine aw_exR1 (id := 9) mixed (fun C ac w h => ent_frz (E := 3) (sz := 1) (es := K) 6 2002 _ rfl rfl h) ?_; (with_reducible apply aw_reg)) | (refine aw_after (id := 10) mixed ?_; (with_reducible apply aw_reg)) | (with_reducible apply rp_nil) | ((with_reducible apply rp); first | ((with_reducible apply does_move); (conv => lhs; whnf)) | ((with_reducible apply does_assign); (conv => lhs; whnf)) | ((with_reducible apply does_fieldAddr); exact tyOk rfl; exact rfl; exact rfl; decide; exact rfl) | ((with_reducible apply does_load_var); exact tyOk rfl; exact rfl; exact rfl; exact rfl; exact rfl) | ((with_reducible apply does_index_own); exact tyOk rfl; exact rfl; exact tyOk rfl; exact rfl; exact rfl; exact rfl; omega) | ((with_reducible apply does_nilCheck); exact rfl)) | ((with_reducible apply rpN); ((with_reducible apply does_store_own); exact tyOk rfl; exact rfl; exact rfl; exact rfl; exact rfl; assumption; exact rfl; exact Nat.le_of_ble_eq_true rfl)))
      refine after1 (fun C ac w h => ent_shut (Q := TQ) (ks := ks) (vs := vs) (ts := ts) 1000 3001 3002 3003 rfl rfl rfl rfl (by decide) h) ?_
      repeat (first | (with_reducible first | apply ae_norm | apply aw_ret | apply xf_ret))
      (with_reducible apply retxf_ok (l := [])); (focus (repeat' (first | (with_reducible apply rv_nil) | (with_reducible apply rv_cons) | ((with_reducible apply rv_tmp); exact rfl)))); exact rfl; exact SubD.refl _; refine ⟨(by repeat' (first | exact ks_nil | (refine ks_cons rfl (by exact SubA.refl _) ?_))), (by repeat' (first | exact trivial | exact rfl | refine And.intro ?_ ?_)), rfl, (by repeat' (first | exact trivial | exact inB_ow rfl | exact inB_px rfl | refine And.intro ?_ ?_)), (by repeat' (first | exact trivial | exact inB_ow rfl | exact inB_px rfl | refine And.intro ?_ ?_))⟩
end Go.Proofs.YtfplkakfakdfhaaDoor


/-
  plain: a tree as data. No condition but the shape, and few nodes.
-/
namespace Go.Proofs.YtfplkakfakdfhaaDoor
set_option linter.unusedSimpArgs false
set_option linter.unusedVariables false
open Go.RowKit

theorem lay_px : ∀ (h : Nat) (t : Tn), Sh h t → ∀ X : List (List D), X.length + (layN X.length t).length ≤ 10000 → LayPX X t
  | 0, .node ks vs ts, hs, X, hX => by
    obtain ⟨h1, h2, h3, rfl⟩ := hs
    exact lay_step X ks vs [] h3 h1 (by simp) hX fun j t ht => by simp at ht
  | h + 1, .node ks vs ts, hs, X, hX => by
    obtain ⟨h1, h2, h3, h4, h5⟩ := hs
    exact lay_step X ks vs ts h3 h1 (by omega) hX fun j t ht => lay_px h t (h5 t (List.mem_of_getElem? ht))
theorem plain_nil : PC Tryd.prog 28 [.sc (.pointer none)] (treeD []) := by
  refine pc_of_aw Tryd.func28 rfl (by kernel_rfl) mixed (by kernel_rfl) (by rw [Tryd.ntmps28]; exact Nat.le_of_ble_eq_true rfl) Tryd.results28 ?_
  repeat (first | (with_reducible first | apply aw_seq | apply aw_reg | apply rp_nil | apply ae_norm | apply aw_ret | apply re_ret | apply aw_skip) | ((with_reducible apply rp); first | (exact does_ne_nn ptrNode rfl rfl) | ((with_reducible apply does_move); (conv => lhs; whnf)) | ((with_reducible apply does_load_row); exact tyOk rfl; exact rfl; exact rfl; exact rfl; exact Nat.le_of_ble_eq_true rfl; exact rfl)) | ((with_reducible apply rp1); ((with_reducible apply does_alloc); exact tyOk rfl; exact rfl)) | ((with_reducible apply rpN); ((with_reducible apply does_store_whole); exact tyOk rfl; exact rfl; exact rfl; exact rfl; exact rfl; exact rfl)) | ((with_reducible apply aw_cond); exact rfl; (focus (intro hd; (cases hd; done))); (intro hd; clear hd)))
  (with_reducible apply ret_ok); (focus (repeat' (first | (with_reducible apply rv_nil) | (with_reducible apply rv_cons) | ((with_reducible apply rv_rowd); exact rfl; exact rfl; exact tyOk rfl; exact rfl; exact rfl)))); exact rfl
  exact SubD.ag (SubDs.cons (SubD.nil 3) (fun _ => rfl) SubDs.nil)
theorem plain_px (h : Nat) (t : Tn) (hs : Sh h t) (hl : (layN 0 t).length ≤ 10000) : PX Tryd.prog 28 [.px 1000 0] [(1000, .res (treeR TQ t))] [] (treeD (layN 0 t)) [(1000, .res (treeR TQ t))] [] := by
  have c1 := lay_px h t hs [] (by simpa using hl)
  unfold LayPX at c1
  rw [List.nil_append] at c1
  unfold treeD nodesD
  generalize hcs : (layN ([] : List (List D)).length t).map nodeC = cs at *
  refine px_of_aw Tryd.func28 rfl (by kernel_rfl) mixed (by kernel_rfl) (by rw [Tryd.ntmps28]; exact Nat.le_of_ble_eq_true rfl) Tryd.results28 rfl ?_
  repeat (with_reducible apply aw_seq)
  repeat (first | (refine aw_exR1 (id := 3) mixed (fun C ac w h => ent_nilF (E := 68) (sz := 3) 3 0 2001 rfl rfl rfl C ac w h) ?_; (with_reducible apply aw_reg)) | (with_reducible first | apply aw_seq | apply aw_reg | apply rp_nil | apply ae_norm | apply aw_ret | apply xe_ret) | ((with_reducible apply rp); first | (exact does_ne_px ptrNode rfl rfl) | (exact does_load_wholeA (tyOk rfl) rfl rfl rfl rfl) | ((with_reducible apply does_move); (conv => lhs; whnf))) | ((with_reducible apply rp1); ((with_reducible apply does_alloc); exact tyOk rfl; exact rfl)) | ((with_reducible apply rpN); (exact does_store_wholeA (tyOk rfl) rfl rfl rfl rfl rfl)) | ((with_reducible apply rpL); (refine does_callX [(1001, 3), (2000, 2001)] [(1001, 3), (2000, 7)] (ups := [(1000, .res (treeR TQ t)), (3, .var 34 [.ow 7 cs.length]), (7, .row 68 3 cs), (2001, .dead)]) rfl (c1) rfl ?_ rfl ?_ ?_ rfl rfl rfl rfl rfl ?_ rfl rfl; (focus repeat' (first | exact trivial | exact rfl | refine And.intro ?_ ?_)); (focus repeat' (first | exact trivial | exact inB_ow rfl | exact inB_px rfl | refine And.intro ?_ ?_)); (focus repeat' (first | exact trivial | exact inB_ow rfl | exact inB_px rfl | refine And.intro ?_ ?_)); (focus repeat' (first | exact trivial | exact inB_ow rfl | exact inB_px rfl | refine And.intro ?_ ?_))); exact lapp_nil _) | ((with_reducible apply aw_cond); exact rfl; rotate_left; (focus (intro hd; (cases hd; done))); (intro hd; clear hd)))
  (with_reducible apply retx_ok (l := [])); (focus (repeat' (first | (with_reducible apply rv_nil) | (with_reducible apply rv_cons) | ((with_reducible apply rv_row); exact rfl; exact rfl; exact tyOk rfl; exact rfl; exact Nat.le_of_ble_eq_true rfl)))); exact rfl; exact SubD.refl _; refine ⟨(by repeat' (first | exact ks_nil | (refine ks_cons rfl (by exact SubA.refl _) ?_))), (by repeat' (first | exact trivial | exact rfl | refine And.intro ?_ ?_)), rfl, (by repeat' (first | exact trivial | exact inB_px rfl | refine And.intro ?_ ?_)), (by repeat' (first | exact trivial | exact inB_px rfl | refine And.intro ?_ ?_))⟩
end Go.Proofs.YtfplkakfakdfhaaDoor


/-
  Laid nodes that are in order, as a plain fact. No condition.
-/
namespace Go.Proofs.YtfplkakfakdfhaaDoor
set_option linter.unusedSimpArgs false
set_option linter.unusedVariables false

structure NsOk (ns : List Nd) (dep : List Nat) (h : Nat) : Prop where
  few : ns.length ≤ 100
  keys : ∀ n ∈ ns, ∀ k ∈ n.ks, k.size ≤ 60
  total : (ns.map fun n => n.ks.length).sum ≤ 100
  shape : ∀ n ∈ ns, 1 ≤ n.ks.length ∧ n.ks.length ≤ 3 ∧ n.vs.length = n.ks.length ∧ (n.kids.length = 0 ∨ n.kids.length = n.ks.length + 1)
  kid : ∀ (i : Nat) (n : Nd), ns[i]? = some n → ∀ k ∈ n.kids, i < k ∧ k < ns.length ∧ dep.getD k 0 = dep.getD i 0 + 1
  once : (ns.flatMap (·.kids)).Nodup
  each : ∀ k, 0 < k → k < ns.length → k ∈ ns.flatMap (·.kids)
  root : dep.getD 0 0 = 0
  deep : ∀ j, dep.getD j 0 ≤ 1000
  leaf : ∀ (i : Nat) (n : Nd), ns[i]? = some n → n.kids = [] → dep.getD i 0 = h
/-- How deep the nodes are that were met. -/
def seenE (n : Nat) (dep : List Nat) (vis : List Nat) : List (List D) := (List.range n).map fun j => natE (if j ∈ vis then dep.getD j 0 else 0)
theorem seenE_len (n : Nat) (dep vis : List Nat) : (seenE n dep vis).length = n := by unfold seenE; simp
theorem seenE_get {n : Nat} {dep vis : List Nat} {j : Nat} (h : j < n) : (seenE n dep vis)[j]? = some [iD ((if j ∈ vis then dep.getD j 0 else 0 : Nat) : Int)] := by
  unfold seenE
  rw [List.getElem?_map, List.getElem?_range h]
  rfl
theorem seenE_set {n : Nat} {dep vis : List Nat} {k : Nat} (h : k < n) : (seenE n dep vis).set k [iD (dep.getD k 0 : Nat)] = seenE n dep (vis ++ [k]) := by
  apply List.ext_getElem?
  intro j
  by_cases hj : j < n
  · rw [List.getElem?_set, seenE_get hj, seenE_len]
    by_cases hk : k = j
    · subst hk
      simp [h, seenE_get h]
    · rw [if_neg hk, seenE_get hj]
      have : j ≠ k := fun e => hk e.symm
      simp [this]
  · rw [List.getElem?_eq_none (by rw [List.length_set, seenE_len]; omega), List.getElem?_eq_none (by rw [seenE_len]; omega)]
theorem seenE_nil (n : Nat) (dep : List Nat) : seenE n dep [] = List.replicate n [iD 0] := by
  unfold seenE
  rw [List.eq_replicate_iff]
  refine ⟨by simp, fun b hb => ?_⟩
  obtain ⟨j, _, rfl⟩ := List.mem_map.1 hb
  simp [natE]
theorem seenE_all {ns : List Nd} {dep : List Nat} {h : Nat} (ho : NsOk ns dep h) : ∀ j, j < ns.length → (if j ∈ ns.flatMap (·.kids) then dep.getD j 0 else 0) = dep.getD j 0 := fun j hj => by
  split
  · rfl
  · rename_i hn
    by_cases h0 : j = 0
    · subst h0; exact ho.root.symm
    · exact absurd (ho.each j (by omega) hj) hn
theorem vis_dep {ns : List Nd} {dep : List Nat} {h : Nat} (ho : NsOk ns dep h) (i : Nat) (hi : i < ns.length) : (if i ∈ (ns.take i).flatMap (·.kids) then dep.getD i 0 else 0) = dep.getD i 0 := by
  split
  · rfl
  · rename_i hn
    by_cases h0 : i = 0
    · subst h0; exact ho.root.symm
    · obtain ⟨n, hm, hk⟩ := List.mem_flatMap.1 (ho.each i (by omega) hi)
      obtain ⟨p, hp⟩ := List.getElem?_of_mem hm
      obtain ⟨h1, h2, _⟩ := ho.kid p n hp i hk
      refine absurd (List.mem_flatMap.2 ⟨n, ?_, hk⟩) hn
      exact List.mem_of_getElem? (i := p) (by rw [List.getElem?_take_of_lt h1]; exact hp)
/-- A kid that comes next was not met before. -/
theorem vis_new {ns : List Nd} {dep : List Nat} {h : Nat} (ho : NsOk ns dep h) {i c k : Nat} {n : Nd} (hi : ns[i]? = some n) (hc : n.kids[c]? = some k) : k ∉ (ns.take i).flatMap (·.kids) ++ n.kids.take c := by
  have hn := ho.once
  obtain ⟨hlt, he⟩ := List.getElem?_eq_some_iff.1 hi
  have e1 : ns = ns.take i ++ n :: ns.drop (i + 1) := by rw [← he, List.getElem_cons_drop, List.take_append_drop]
  obtain ⟨hlc, hec⟩ := List.getElem?_eq_some_iff.1 hc
  have e2 : n.kids = n.kids.take c ++ k :: n.kids.drop (c + 1) := by rw [← hec, List.getElem_cons_drop, List.take_append_drop]
  rw [e1, List.flatMap_append, List.flatMap_cons] at hn
  have hn2 : ((ns.take i).flatMap (·.kids) ++ n.kids.take c ++ (k :: (n.kids.drop (c + 1) ++ (ns.drop (i + 1)).flatMap (·.kids)))).Nodup := by
    have : (ns.take i).flatMap (·.kids) ++ n.kids.take c ++ (k :: (n.kids.drop (c + 1) ++ (ns.drop (i + 1)).flatMap (·.kids))) = (ns.take i).flatMap (·.kids) ++ (n.kids ++ (ns.drop (i + 1)).flatMap (·.kids)) := by
      conv => rhs; rw [e2]
      simp
    rw [this]; exact hn
  intro hm
  exact (List.nodup_append.1 hn2).2.2 k hm k (by simp) rfl
theorem take_flat {ns : List Nd} {i : Nat} {n : Nd} (hi : ns[i]? = some n) : (ns.take (i + 1)).flatMap (·.kids) = (ns.take i).flatMap (·.kids) ++ n.kids := by
  rw [List.take_add_one, hi, List.flatMap_append]
  simp
theorem sum_take_le {ns : List Nd} (f : Nd → Nat) : ∀ (l : List Nd) (i : Nat), ((l.take i).map f).sum ≤ (l.map f).sum
  | [], i => by simp
  | a :: l, 0 => by simp
  | a :: l, i + 1 => by
    have := sum_take_le (ns := ns) f l i
    simp only [List.take_succ_cons, List.map_cons, List.sum_cons]
    omega
end Go.Proofs.YtfplkakfakdfhaaDoor

