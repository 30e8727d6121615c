/-
  of: the tree of laid nodes. No condition but the shape.
-/
import Derived.Test.YtobgjkkadnihjaaZTrGr
namespace Go.Proofs.Ytobgjkkadnihjaa
set_option linter.unusedSimpArgs false
set_option linter.unusedVariables false
open Go.RowKit

/-- A laid node. -/
structure Nd where
  ks : List ByteArray
  vs : List Int
  kids : List Nat
def natE (j : Nat) : List D := [iD j]
def nodeC (n : Nd) : List D := [.sl 1 (n.ks.map strE), .sl 1 (n.vs.map intE), .sl 1 (n.kids.map natE)]
def nodesD (ns : List Nd) : D := .sl 3 (ns.map nodeC)
def treeD (ns : List Nd) : D := .ag [nodesD ns]
mutual
/-- The tree that is laid from here. -/
def Lies (ns : List Nd) : Nat → Tn → Prop
  | i, .node ks vs ts => ∃ kids, ns[i]? = some ⟨ks, vs, kids⟩ ∧ LiesF ns kids ts
def LiesF (ns : List Nd) : List Nat → List Tn → Prop
  | kids, [] => kids = []
  | kids, t :: ts => ∃ k r, kids = k :: r ∧ Lies ns k t ∧ LiesF ns r ts
end
theorem LiesF.len {ns : List Nd} : ∀ {ts : List Tn} {kids : List Nat}, LiesF ns kids ts → kids.length = ts.length
  | [], _, h => by rw [h]; rfl
  | t :: ts, _, ⟨k, r, h, _, h2⟩ => by rw [h, List.length_cons, List.length_cons, LiesF.len h2]
theorem LiesF.get {ns : List Nd} : ∀ {ts : List Tn} {kids : List Nat} {j : Nat} {k : Nat} {t : Tn}, LiesF ns kids ts → kids[j]? = some k → ts[j]? = some t → Lies ns k t
  | [], _, j, k, t, h, _, ht => by simp at ht
  | t0 :: ts, _, 0, k, t, ⟨k', r, h, h1, h2⟩, hk, ht => by
    subst h
    simp only [List.getElem?_cons_zero, Option.some.injEq] at hk ht
    subst hk ht
    exact h1
  | t0 :: ts, _, j + 1, k, t, ⟨k', r, h, h1, h2⟩, hk, ht => by
    subst h
    exact LiesF.get h2 (by simpa using hk) (by simpa using ht)
abbrev OfPG (ns : List Nd) (i : Nat) (t : Tn) : Prop :=
  PG Try.prog 27 [.d (treeD ns), .d (iD i)] [] [] (.px 2000 0) [] [(2000, .res (treeR TQ t))]
theorem of_step (ns : List Nd) (i : Nat) (ks : List ByteArray) (vs : List Int) (kids : List Nat) (ts : List Tn) (hi : ns[i]? = some ⟨ks, vs, kids⟩) (hks : ks.length ≤ 3) (hvs : vs.length = ks.length) (hts : ts.length ≤ 4) (hlen : kids.length = ts.length)
    (ih : ∀ (j k : Nat) (t : Tn), kids[j]? = some k → ts[j]? = some t → OfPG ns k t) : OfPG ns i (.node ks vs ts) := by
  have hg : (ns.map nodeC)[i]? = some [.sl 1 (ks.map strE), .sl 1 (vs.map intE), .sl 1 (kids.map natE)] := by rw [List.getElem?_map, hi]; rfl
  have hklen : (kids.map natE).length = kids.length := List.length_map _
  have hkg : ∀ {j k : Nat}, kids[j]? = some k → (kids.map natE)[j]? = some [iD k] := fun h => by rw [List.getElem?_map, h]; rfl
  unfold OfPG at *
  unfold treeD nodesD at *
  generalize hcs : ns.map nodeC = cs at *
  have hlt : i < cs.length := (List.getElem?_eq_some_iff.1 hg).1
  generalize hes : kids.map natE = es at *
  refine pg_of_aw Try.func27 rfl (by kernel_rfl) mixed (by kernel_rfl) (by rw [Try.ntmps27]; exact Nat.le_of_ble_eq_true rfl) Try.results27 rfl ?_
  repeat (with_reducible apply aw_seq)
  repeat (first | (refine aw_after (id := 3) mixed ?_; (with_reducible apply aw_reg)) | (with_reducible first | apply aw_seq | apply aw_reg | apply rp_nil | apply ae_norm | apply aw_regD) | ((with_reducible apply dr_nil); (first | kernel_rfl | exact rfl)) | ((with_reducible first | apply rp | apply dr); first | (exact (by (with_reducible apply does_build_own (out := [.ow 17 _, .ow 21 _, .d .nl])); exact tyOk rfl; exact rfl; exact rfl; (focus repeat' (first | exact rfl | refine ⟨_, _, rfl, rfl, Nat.le_of_ble_eq_true rfl, rfl, ?_⟩)))) | ((with_reducible apply does_move); (conv => lhs; whnf)) | ((with_reducible apply does_assign); (conv => lhs; whnf)) | ((with_reducible apply does_fieldAddr); exact tyOk rfl; exact rfl; exact rfl; decide; exact rfl) | ((with_reducible apply does_load_var); exact tyOk rfl; exact rfl; exact rfl; exact rfl; exact rfl) | ((with_reducible apply does_load_elem_whole); exact tyOk rfl; exact rfl; exact rfl; assumption; exact rfl) | ((with_reducible apply does_index_sl); exact tyOk rfl; exact rfl; exact tyOk rfl; exact rfl; exact rfl; exact rfl; exact rfl; omega) | ((with_reducible apply does_len_sl); exact tyOk rfl; exact rfl; exact rfl)) | ((with_reducible first | apply rp1 | apply dr1); first | ((with_reducible apply does_box_ag); exact rfl; exact rfl) | ((with_reducible apply does_box); exact rfl; exact rfl) | ((with_reducible apply does_alloc); exact tyOk rfl; exact rfl) | ((with_reducible apply does_buildSlice); exact tyOk rfl; exact rfl; exact tyOk rfl; exact rfl; exact rfl; (focus repeat' (first | exact trivial | refine And.intro rfl (And.intro rfl ?_))); decide; decide; exact rfl)) | ((with_reducible apply dr2); (exact does_append_own (tyOk rfl) rfl (tyOk rfl) rfl rfl rfl (by decide) (by simp; omega) (by simp; omega) rfl)) | ((with_reducible apply rpN); ((with_reducible apply does_store_whole); exact tyOk rfl; exact rfl; exact rfl; exact rfl; exact rfl; exact rfl)))
  refine after1 (fun C ac w h => ent_knil (Q := TQ) 23 2001 rfl rfl h) ?_
  refine aw_loop (fun n s => ∃ k tk, ts.take k = tk ∧ k ≤ es.length ∧ n = es.length - k ∧ s = ⟨[(2, .px 2 0), (6, .px 23 0), (25, .d (.sl 1 es)), (26, .d (iD es.length)), (27, .d (iD k))], [(2, .var 26 [.d (.sl 3 cs)]), (23, .var TQ.T [.ow 17 (0 + (ks.map strE).length), .ow 21 (0 + (vs.map intE).length), .ow 2001 k]), (17, .row TQ.K 1 (ks.map strE)), (21, .row TQ.V 1 (vs.map intE)), (2001, .res (kidsR TQ tk))]⟩) _ _ ?_ ⟨0, [], rfl, by omega, rfl, rfl⟩ ?_
  · refine forget_of [] (by repeat' (first | exact ks_nil | (refine ks_cons rfl (by exact SubA.refl _) ?_))) (by repeat' (first | exact trivial | exact rfl | refine And.intro ?_ ?_)) rfl (by repeat' (first | exact trivial | exact inB_ow rfl | exact inB_px rfl | refine And.intro ?_ ?_)) (by repeat' (first | exact trivial | exact inB_ow rfl | exact inB_px rfl | refine And.intro ?_ ?_))
  · rintro n s1 ⟨k, tk, htk, hk, rfl, rfl⟩
    have htl : tk.length = k := by rw [← htk, List.length_take]; omega
    subst htl
    repeat (first | (with_reducible first | apply aw_seq | apply aw_reg | apply rp_nil | apply ae_norm) | ((with_reducible apply rp); ((with_reducible apply does_lt); exact rfl; exact rfl)))
    refine aw_cond rfl (fun hd => ?_) (fun hd => ?_)
    · have hlt2 : tk.length < es.length := by simpa using hd
      obtain ⟨j, hj⟩ : ∃ j, kids[tk.length]? = some j := ⟨_, List.getElem?_eq_getElem (by omega)⟩
      obtain ⟨t0, ht0⟩ : ∃ t, ts[tk.length]? = some t := ⟨_, List.getElem?_eq_getElem (by omega)⟩
      have c1 := ih tk.length j t0 hj ht0
      have hgj := hkg hj
      repeat (first | (with_reducible first | apply aw_seq | apply aw_reg | apply rp_nil | apply ae_norm | apply aw_regD | apply aw_block | apply be_norm | apply aw_skip) | ((with_reducible apply dr_nil); (first | kernel_rfl | exact rfl)) | ((with_reducible first | apply rp | apply dr); first | ((with_reducible apply does_move); (conv => lhs; whnf)) | ((with_reducible apply does_assign); (conv => lhs; whnf)) | ((with_reducible apply does_fieldAddr); exact tyOk rfl; exact rfl; exact rfl; decide; exact rfl) | ((with_reducible apply does_load_var); exact tyOk rfl; exact rfl; exact rfl; exact rfl; exact rfl) | ((with_reducible apply does_load_elem); exact tyOk rfl; exact rfl; exact rfl; assumption; exact rfl) | ((with_reducible apply does_load_row); exact tyOk rfl; exact rfl; exact rfl; exact rfl; exact Nat.le_of_ble_eq_true rfl; exact rfl) | ((with_reducible apply does_index_sl); exact tyOk rfl; exact rfl; exact tyOk rfl; exact rfl; exact rfl; exact rfl; exact rfl; omega) | ((with_reducible apply does_add); exact rfl; exact rfl; omega; omega) | ((with_reducible apply does_nilCheck); exact rfl)) | ((with_reducible apply dr2); (exact does_build_kid (Q := TQ) (tyOk rfl) rfl (tyOk rfl) rfl rfl rfl rfl rfl)) | ((with_reducible apply drN); ((with_reducible apply does_store); exact tyOk rfl; exact rfl; exact rfl; (conv => lhs; whnf); exact rfl; exact rfl; exact Nat.le_of_ble_eq_true rfl)) | ((with_reducible apply drL); (refine does_callG' [] [(2000, 38)] (ups := [(38, .res (treeR TQ t0))]) (v := (.px 38 0)) rfl (c1) rfl ?_ rfl ?_ ?_ rfl rfl rfl rfl rfl ?_ ?_ rfl rfl rfl; (focus repeat' exact trivial); (focus repeat' (first | exact trivial | exact inB_px rfl | refine And.intro ?_ ?_)); (focus repeat' (first | exact trivial | exact inB_px rfl | refine And.intro ?_ ?_)); (focus repeat' (first | exact trivial | exact inB_px rfl | refine And.intro ?_ ?_)); (focus repeat' (first | exact trivial | exact inB_px rfl | refine And.intro ?_ ?_))); exact lapp_nil _) | ((with_reducible apply drL); (exact does_append_kids (Q := TQ) (tyOk rfl) rfl (tyOk rfl) rfl rfl rfl rfl rfl rfl (by simp; omega) (by simp; omega) (by decide) rfl); exact lapp_nil _))
      have hnext : ts.take (tk.length + 1) = tk ++ [t0] := by rw [List.take_add_one, ht0, htk]; rfl
      refine ⟨es.length - (tk.length + 1), _, by omega, ?_, tk.length + 1, tk ++ [t0], hnext, by omega, rfl, rfl⟩
      refine forget_of [(2001, 40)] (by repeat' (first | exact ks_nil | (refine ks_cons rfl (by exact SubA.refl _) ?_))) (by repeat' (first | exact trivial | exact rfl | refine And.intro ?_ ?_)) rfl (by repeat' (first | exact trivial | exact inB_ow rfl | exact inB_px rfl | refine And.intro ?_ ?_)) (by repeat' (first | exact trivial | exact inB_ow rfl | exact inB_px rfl | refine And.intro ?_ ?_))
    · have hkl : tk.length = es.length := by simp at hd; omega
      have hall : ts = tk := by rw [← htk, List.take_of_length_le (by omega)]
      subst hall
      repeat (first | (refine aw_after (id := 8) mixed ?_; (with_reducible apply aw_reg)) | (with_reducible apply rp_nil) | ((with_reducible apply rp); first | ((with_reducible apply does_move); (conv => lhs; whnf)) | ((with_reducible apply does_assign); (conv => lhs; whnf))))
      refine after1 (fun C ac w h => ent_shut (Q := TQ) (ks := ks) (vs := vs) (ts := ts) 23 17 21 2001 rfl rfl rfl rfl (by decide) h) ?_
      repeat (first | (with_reducible first | apply ae_norm | apply aw_ret | apply xg_ret))
      (with_reducible apply retg_ok (l := [(2000, 23)])); (focus (repeat' (first | (with_reducible apply rv_nil) | (with_reducible apply rv_cons) | ((with_reducible apply rv_tmp); exact rfl)))); rotate_left; refine ⟨(by repeat' exact ks_nil), (by repeat' (first | exact trivial | exact rfl | refine And.intro ?_ ?_)), rfl, (by repeat' (first | exact trivial | refine And.intro ?_ ?_)), (by repeat' (first | exact trivial | refine And.intro ?_ ?_))⟩; refine SubA.of_eq ?_
      rfl
theorem of_pg (ns : List Nd) : ∀ (h : Nat) (t : Tn) (i : Nat), Sh h t → Lies ns i t → OfPG ns i t
  | 0, .node ks vs ts, i, hs, hl => by
    obtain ⟨h1, h2, h3, rfl⟩ := hs
    obtain ⟨kids, hi, hf⟩ := hl
    exact of_step ns i ks vs kids [] hi h3 h1 (by simp) hf.len fun j k t _ ht => by simp at ht
  | h + 1, .node ks vs ts, i, hs, hl => by
    obtain ⟨h1, h2, h3, h4, h5⟩ := hs
    obtain ⟨kids, hi, hf⟩ := hl
    exact of_step ns i ks vs kids ts hi h3 h1 (by omega) hf.len fun j k t hk ht => of_pg ns h t k (h5 t (List.mem_of_getElem? ht)) (hf.get hk ht)
theorem root_nil : PG Try.prog 18 [.d (treeD [])] [] [] (.d (.sc (.pointer none))) [] [] := by
  unfold treeD nodesD
  show PG _ _ [.d (.ag [.sl 3 []])] _ _ _ _ _
  refine pg_of_aw Try.func18 rfl (by kernel_rfl) mixed (by kernel_rfl) (by rw [Try.ntmps18]; exact Nat.le_of_ble_eq_true rfl) Try.results18 rfl ?_
  repeat (first | (with_reducible first | apply aw_seq | apply aw_reg | apply rp_nil | apply ae_norm | apply aw_ret | apply ae_ret | apply xg_ret) | ((with_reducible apply rp); first | ((with_reducible apply does_assign); (conv => lhs; whnf)) | ((with_reducible apply does_fieldAddr); exact tyOk rfl; exact rfl; exact rfl; decide; exact rfl) | ((with_reducible apply does_load_var); exact tyOk rfl; exact rfl; exact rfl; exact rfl; exact rfl) | ((with_reducible apply does_eq); exact rfl; exact rfl) | ((with_reducible apply does_len_sl); exact tyOk rfl; exact rfl; exact rfl)) | ((with_reducible apply rp1); ((with_reducible apply does_box_ag); exact rfl; exact rfl)) | ((with_reducible apply aw_cond); exact rfl; rotate_left; (focus (intro hd; (cases hd; done))); (intro hd; clear hd)))
  (with_reducible apply retg_ok (l := [])); (focus (repeat' (first | (with_reducible apply rv_nil) | (with_reducible apply rv_cons) | ((with_reducible apply rv_tmp); exact rfl)))); rotate_left; refine ⟨(by repeat' exact ks_nil), (by repeat' exact trivial), rfl, (by repeat' exact trivial), (by repeat' exact trivial)⟩; refine SubA.of_eq ?_
  rfl
theorem root_pg (ns : List Nd) (h : Nat) (t : Tn) (hs : Sh h t) (hl : Lies ns 0 t) : PG Try.prog 18 [.d (treeD ns)] [] [] (.px 2000 0) [] [(2000, .res (treeR TQ t))] := by
  have c1 := of_pg ns h t 0 hs hl
  have hne : (((ns.map nodeC).length : Int) == 0) = false := by
    rw [beq_eq_false_iff_ne, List.length_map]
    cases ns with
    | nil => cases t; obtain ⟨_, h, _⟩ := hl; simp at h
    | cons => simp; omega
  unfold OfPG at c1
  unfold treeD nodesD at *
  generalize hcs : ns.map nodeC = cs at *
  refine pg_of_aw Try.func18 rfl (by kernel_rfl) mixed (by kernel_rfl) (by rw [Try.ntmps18]; exact Nat.le_of_ble_eq_true rfl) Try.results18 rfl ?_
  repeat (first | (with_reducible first | apply aw_seq | apply aw_reg | apply rp_nil | apply ae_norm) | ((with_reducible apply rp); first | ((with_reducible apply does_assign); (conv => lhs; whnf)) | ((with_reducible apply does_fieldAddr); exact tyOk rfl; exact rfl; exact rfl; decide; exact rfl) | ((with_reducible apply does_load_var); exact tyOk rfl; exact rfl; exact rfl; exact rfl; exact rfl) | ((with_reducible apply does_eq); exact rfl; exact rfl) | ((with_reducible apply does_len_sl); exact tyOk rfl; exact rfl; exact rfl)) | ((with_reducible apply rp1); ((with_reducible apply does_box_ag); exact rfl; exact rfl)))
  refine aw_cond rfl (fun hd => absurd (hne.symm.trans hd) (by decide)) (fun _ => ?_)
  repeat (first | (with_reducible first | apply aw_seq | apply aw_reg | apply rp_nil | apply ae_norm | apply aw_ret | apply xg_ret | apply aw_skip) | ((with_reducible apply rp); first | ((with_reducible apply does_assign); (conv => lhs; whnf)) | ((with_reducible apply does_load_row); exact tyOk rfl; exact rfl; exact rfl; exact rfl; exact Nat.le_of_ble_eq_true rfl; exact rfl)) | ((with_reducible apply rpL); (refine does_callG' [] [(2000, 8)] (ups := [(8, .res (treeR TQ t))]) (v := (.px 8 0)) rfl (c1) rfl ?_ rfl ?_ ?_ rfl rfl rfl rfl rfl ?_ ?_ rfl rfl rfl; (focus repeat' exact trivial); (focus repeat' (first | exact trivial | exact inB_px rfl | refine And.intro ?_ ?_)); (focus repeat' (first | exact trivial | exact inB_px rfl | refine And.intro ?_ ?_)); (focus repeat' (first | exact trivial | exact inB_px rfl | refine And.intro ?_ ?_)); (focus repeat' (first | exact trivial | exact inB_px rfl | refine And.intro ?_ ?_))); exact lapp_nil _))
  (with_reducible apply retg_ok (l := [(2000, 8)])); (focus (repeat' (first | (with_reducible apply rv_nil) | (with_reducible apply rv_cons) | ((with_reducible apply rv_tmp); exact rfl)))); rotate_left; refine ⟨(by repeat' exact ks_nil), (by repeat' (first | exact trivial | exact rfl | refine And.intro ?_ ?_)), rfl, (by repeat' (first | exact trivial | refine And.intro ?_ ?_)), (by repeat' (first | exact trivial | refine And.intro ?_ ?_))⟩; refine SubA.of_eq ?_
  rfl
end Go.Proofs.Ytobgjkkadnihjaa

