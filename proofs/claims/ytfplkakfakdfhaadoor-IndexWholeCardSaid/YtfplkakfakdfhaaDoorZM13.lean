/-
  put: at a node that has kids, of which one takes the key. No condition but the shape.
-/
import Derived.Test.YtfplkakfakdfhaaDoorZM12
import Derived.Test.YtfplkakfakdfhaaDoorZM11
namespace Go.Proofs.YtfplkakfakdfhaaDoor
set_option linter.unusedSimpArgs false
set_option linter.unusedVariables false
open Go.RowKit

theorem put_node_none (key : ByteArray) (val : Int) (ks : List ByteArray) (vs : List Int) (l1 l2 : List Tn) (t0 t1 : Tn) (hks : ks.length ≤ 3) (hb : (seekF key ks).2 = false) (h1 : l1.length = (seekF key ks).1) (ih : PutPG key val t0 (t1, none)) : PutPG key val (.node ks vs (l1 ++ t0 :: l2)) (.node ks vs (l1 ++ t1 :: l2), none) := by
  have s1 := seek_pc ks key (by omega)
  have hle := seekF_le key ks
  rw [hb] at s1
  generalize (seekF key ks).1 = i at *
  have hlt : i < (l1 ++ t0 :: l2).length := by rw [List.length_append, List.length_cons]; omega
  have hsome : (((l1 ++ t0 :: l2).length : Int) == 0) = false := by rw [beq_eq_false_iff_ne]; omega
  have hfew : decide ((ks.length : Int) ≤ 3) = true := decide_eq_true (by omega)
  have ih : PG _ _ _ _ _ (.tu [.d (strD ByteArray.empty), .d (iD 0), .d (.sc (.pointer none))]) [(1000, .res (treeR TQ t1))] [] := ih
  generalize hn : (l1 ++ t0 :: l2).length = n at *
  show PG _ _ _ _ _ (.tu [.d (strD ByteArray.empty), .d (iD 0), .d (.sc (.pointer none))]) _ []
  refine pg_of_aw Tryd.func40 rfl (by kernel_rfl) mixed (by kernel_rfl) (by rw [Tryd.ntmps40]; exact Nat.le_of_ble_eq_true rfl) Tryd.results40 rfl ?_
  repeat (with_reducible apply aw_seq)
  refine aw_exR1 mixed (fun C a w h => ent_open (Q := TQ) 1000 1001 1002 1003 rfl rfl rfl rfl (by decide) (by decide) (by decide) h) ?_
  rw [hn]
  repeat (first | (refine aw_after (id := 9) mixed ?_; (with_reducible apply aw_reg)) | (with_reducible first | apply aw_seq | apply aw_reg | apply rp_nil | apply ae_norm | apply aw_skip) | ((with_reducible apply rp); first | ((with_reducible apply does_call_flat); exact rfl; exact rfl; exact (s1); exact rfl) | (exact does_ne_nn ptrNode rfl rfl) | ((with_reducible apply does_move); (conv => lhs; whnf)) | ((with_reducible apply does_assign); (conv => lhs; whnf)) | ((with_reducible apply does_fieldAddr); exact tyOk rfl; exact rfl; exact rfl; decide; exact rfl) | ((with_reducible apply does_load_var); exact tyOk rfl; exact rfl; exact rfl; exact rfl; exact rfl) | ((with_reducible apply does_index_own); exact tyOk rfl; exact rfl; exact tyOk rfl; exact rfl; exact rfl; exact rfl; omega) | ((with_reducible apply does_eq); exact rfl; exact rfl) | ((with_reducible apply does_le); exact rfl; exact rfl) | ((with_reducible apply does_extract); exact rfl; exact rfl) | ((with_reducible apply does_extractA); exact rfl; exact rfl) | ((with_reducible apply does_len_ow); exact tyOk rfl; exact rfl; exact rfl) | ((with_reducible apply does_nilCheck); exact rfl)) | ((with_reducible apply rp2); (exact does_load_kid (Q := TQ) (tyOk rfl) rfl rfl rfl h1 rfl)) | ((with_reducible apply rpL); (refine does_callG' [(1000, 65)] [(1000, 65)] (ups := [(65, .res (treeR TQ t1))]) (v := (.tu [.d (strD ByteArray.empty), .d (iD 0), .d (.sc (.pointer none))])) rfl (ih) rfl ?_ rfl ?_ ?_ rfl rfl rfl rfl rfl ?_ ?_ rfl rfl rfl; (focus repeat' (first | exact trivial | exact rfl | refine And.intro ?_ ?_)); (focus repeat' (first | exact trivial | exact inB_px rfl | refine And.intro ?_ ?_)); (focus repeat' (first | exact trivial | exact inB_px rfl | refine And.intro ?_ ?_)); (focus repeat' (first | exact trivial | exact inB_px rfl | refine And.intro ?_ ?_)); (focus repeat' (first | exact trivial | exact inB_px rfl | refine And.intro ?_ ?_))); exact lapp_nil _) | ((with_reducible apply aw_cond); exact rfl; (focus (intro hd; (first | (cases hd; done) | (exfalso; simp at hd; omega)))); (intro hd; clear hd)))
  refine after1 (fun C a w h => ent_shut (Q := TQ) (ks := ks) (vs := vs) (ts := l1 ++ t1 :: l2) 1000 1001 1002 1003 rfl rfl rfl rfl (by decide) (ent_kback 1003 65 rfl rfl h)) ?_
  repeat (first | (with_reducible first | apply ae_norm | apply aw_ret | apply ae_ret | apply xg_ret) | ((with_reducible apply aw_cond); exact rfl; rotate_left; (focus (intro hd; (exfalso; simp at hd; omega))); (intro hd; clear hd)))
  (with_reducible apply retg_ok (l := [])); (focus (repeat' (first | (with_reducible apply rv_nil) | (with_reducible apply rv_cons) | ((with_reducible apply rv_tmp); exact rfl)))); rotate_left; refine ⟨(by repeat' (first | exact ks_nil | (refine ks_cons rfl (by exact SubA.refl _) ?_))), (by repeat' (first | exact trivial | exact rfl | refine And.intro ?_ ?_)), rfl, (by repeat' (first | exact trivial | exact inB_px rfl | refine And.intro ?_ ?_)), (by repeat' (first | exact trivial | exact inB_px rfl | refine And.intro ?_ ?_))⟩; refine SubA.of_eq ?_
  rfl
theorem put_node_few (key : ByteArray) (val : Int) (ks : List ByteArray) (vs : List Int) (l1 l2 : List Tn) (t0 t1 r : Tn) (m : ByteArray) (v : Int) (hlen : vs.length = ks.length) (hks : ks.length < 3) (hts : (l1 ++ t0 :: l2).length = ks.length + 1) (hb : (seekF key ks).2 = false) (h1 : l1.length = (seekF key ks).1) (ih : PutPG key val t0 (t1, some (m, v, r))) :
    PutPG key val (.node ks vs (l1 ++ t0 :: l2)) (.node (insL ks (seekF key ks).1 m) (insL vs (seekF key ks).1 v) (insL (l1 ++ t1 :: l2) ((seekF key ks).1 + 1) r), none) := by
  have s1 := seek_pc ks key (by omega)
  have hle := seekF_le key ks
  rw [hb] at s1
  generalize (seekF key ks).1 = i at *
  have hlt : i < (l1 ++ t0 :: l2).length := by rw [List.length_append, List.length_cons]; omega
  have hsome : (((l1 ++ t0 :: l2).length : Int) == 0) = false := by rw [beq_eq_false_iff_ne]; omega
  have ih : PG _ _ _ _ _ (.tu [.d (strD m), .d (iD v), .px 2000 0]) [(1000, .res (treeR TQ t1))] [(2000, .res (treeR TQ r))] := ih
  have c1 := insS_pco ks i m hle (by omega)
  have c2 := insI_pco vs i v (by omega) (by omega)
  have hts1 : (l1 ++ t1 :: l2).length = (l1 ++ t0 :: l2).length := by rw [List.length_append, List.length_append, List.length_cons, List.length_cons]
  have c3 := insK_pg (l1 ++ t1 :: l2) (i + 1) r (by omega) (by omega)
  have q1 := insL_len ks i m hle
  rw [hts1] at c3
  generalize hk2 : insL ks i m = ks2 at *
  generalize hv2 : insL vs i v = vs2 at *
  generalize ht2 : insL (l1 ++ t1 :: l2) (i + 1) r = ts2 at *
  have hfew : decide (((ks2.map strE).length : Int) ≤ 3) = true := decide_eq_true (by rw [List.length_map]; omega)
  have hadd : ((i : Nat) : Int) + 1 = ((i + 1 : Nat) : Int) := by omega
  generalize hn : (l1 ++ t0 :: l2).length = n at *
  show PG _ _ _ _ _ (.tu [.d (strD ByteArray.empty), .d (iD 0), .d (.sc (.pointer none))]) _ []
  refine pg_of_aw Tryd.func40 rfl (by kernel_rfl) mixed (by kernel_rfl) (by rw [Tryd.ntmps40]; exact Nat.le_of_ble_eq_true rfl) Tryd.results40 rfl ?_
  repeat (with_reducible apply aw_seq)
  refine aw_exR1 mixed (fun C a w h => ent_open (Q := TQ) 1000 1001 1002 1003 rfl rfl rfl rfl (by decide) (by decide) (by decide) h) ?_
  rw [hn]
  repeat (first | (refine aw_after (id := 7) mixed ?_; (with_reducible apply aw_reg)) | (with_reducible first | apply aw_seq | apply aw_reg | apply rp_nil | apply ae_norm | apply aw_skip) | ((with_reducible apply rp); first | ((with_reducible apply does_call_flat); exact rfl; exact rfl; exact (s1); exact rfl) | (exact does_ne_px ptrNode rfl rfl) | ((with_reducible apply does_move); (conv => lhs; whnf)) | ((with_reducible apply does_assign); (conv => lhs; whnf)) | ((with_reducible apply does_fieldAddr); exact tyOk rfl; exact rfl; exact rfl; decide; exact rfl) | ((with_reducible apply does_load_var); exact tyOk rfl; exact rfl; exact rfl; exact rfl; exact rfl) | ((with_reducible apply does_index_own); exact tyOk rfl; exact rfl; exact tyOk rfl; exact rfl; exact rfl; exact rfl; omega) | ((with_reducible apply does_eq); exact rfl; exact rfl) | ((with_reducible apply does_extract); exact rfl; exact rfl) | ((with_reducible apply does_extractA); exact rfl; exact rfl) | ((with_reducible apply does_len_ow); exact tyOk rfl; exact rfl; exact rfl) | ((with_reducible apply does_nilCheck); exact rfl)) | ((with_reducible apply rp2); (exact does_load_kid (Q := TQ) (tyOk rfl) rfl rfl rfl h1 rfl)) | ((with_reducible apply rpL); (refine does_callG' [(1000, 65)] [(1000, 65), (2000, 68)] (ups := [(65, .res (treeR TQ t1)), (68, .res (treeR TQ r))]) (v := (.tu [.d (strD m), .d (iD v), .px 68 0])) rfl (ih) rfl ?_ rfl ?_ ?_ rfl rfl rfl rfl rfl ?_ ?_ rfl rfl rfl; (focus repeat' (first | exact trivial | exact rfl | refine And.intro ?_ ?_)); (focus repeat' (first | exact trivial | exact inB_px rfl | refine And.intro ?_ ?_)); (focus repeat' (first | exact trivial | exact inB_px rfl | refine And.intro ?_ ?_)); (focus repeat' (first | exact trivial | exact inB_px rfl | refine And.intro ?_ ?_)); (focus repeat' (first | exact trivial | exact inB_px rfl | refine And.intro ?_ ?_))); exact lapp_nil _) | ((with_reducible apply aw_cond); exact rfl; (focus (intro hd; (first | (cases hd; done) | (exfalso; simp at hd; omega)))); (intro hd; clear hd)))
  refine ⟨_, fun p : {p : Value // ∃ g : Nat, p = .pointer (some ⟨g, 0, none⟩)} => ⟨_, _⟩, fun C a w h => ent_fone (Q := TQ) 13 68 rfl rfl (ent_kback 1003 65 rfl rfl h), ?_⟩
  rintro ⟨p, hp⟩
  dsimp only
  clear hp
  have c3 := c3 p
  repeat (first | (refine aw_after (id := 9) mixed ?_; (with_reducible apply aw_reg)) | (with_reducible first | apply rp_nil | apply ae_norm | apply aw_regD) | ((with_reducible apply dr_nil); (first | kernel_rfl | exact rfl)) | ((with_reducible first | apply rp | apply dr); first | (exact does_add_to rfl rfl hadd (by omega) (by omega)) | ((with_reducible apply does_move); (conv => lhs; whnf)) | ((with_reducible apply does_fieldAddr); exact tyOk rfl; exact rfl; exact rfl; decide; exact rfl) | ((with_reducible apply does_load_var); exact tyOk rfl; exact rfl; exact rfl; exact rfl; exact rfl) | ((with_reducible apply does_le); exact rfl; exact rfl) | ((with_reducible apply does_len_ow); exact tyOk rfl; exact rfl; exact rfl) | ((with_reducible apply does_nilCheck); exact rfl)) | ((with_reducible apply dr2); first | ((with_reducible apply does_callO1); exact rfl; exact rfl; exact rfl; exact (c1); (first | exact rfl | (simp; done) | (simp; omega)); exact rfl; decide; (conv => lhs; whnf)) | ((with_reducible apply does_callO1); exact rfl; exact rfl; exact rfl; exact (c2); (first | exact rfl | (simp; done) | (simp; omega)); exact rfl; decide; (conv => lhs; whnf))) | ((with_reducible apply drN); ((with_reducible apply does_store); exact tyOk rfl; exact rfl; exact rfl; (conv => lhs; whnf); exact rfl; exact rfl; exact Nat.le_of_ble_eq_true rfl)) | ((with_reducible apply drL); (refine does_callG' [(1000, 1003), (1001, 68)] [(2000, 98)] (ups := [(98, .res (kidsR TQ ts2)), (1003, .dead), (68, .dead)]) (v := (.ow 98 (n + 1))) rfl (c3) rfl ?_ rfl ?_ ?_ rfl rfl rfl rfl rfl ?_ ?_ rfl rfl rfl; (focus repeat' (first | exact trivial | exact rfl | refine And.intro ?_ ?_)); (focus repeat' (first | exact trivial | exact inB_ow rfl | refine And.intro ?_ ?_)); (focus repeat' (first | exact trivial | exact inB_ow rfl | refine And.intro ?_ ?_)); (focus repeat' (first | exact trivial | exact inB_ow rfl | refine And.intro ?_ ?_)); (focus repeat' (first | exact trivial | exact inB_ow rfl | refine And.intro ?_ ?_))); exact lapp_nil _) | ((with_reducible apply aw_cond); exact rfl; rotate_left; (focus (intro hd; (cases hd; done))); (intro hd; clear hd)))
  refine after1 (fun C a w h => ent_shut (Q := TQ) (ks := ks2) (vs := vs2) (ts := ts2) 1000 83 90 98 rfl rfl rfl rfl (by decide) h) ?_
  repeat (first | (with_reducible apply ae_norm))
  refine aw_cond rfl (fun _ => ?_) (fun hd => absurd (hfew.symm.trans hd) (by decide))
  repeat (first | (with_reducible first | apply aw_ret | apply ae_ret | apply xg_ret))
  (with_reducible apply retg_ok (l := [])); (focus (repeat' (first | (with_reducible apply rv_nil) | (with_reducible apply rv_cons) | ((with_reducible apply rv_tmp); exact rfl)))); rotate_left; refine ⟨(by repeat' (first | exact ks_nil | (refine ks_cons rfl (by exact SubA.refl _) ?_))), (by repeat' (first | exact trivial | exact rfl | refine And.intro ?_ ?_)), rfl, (by repeat' (first | exact trivial | exact inB_px rfl | refine And.intro ?_ ?_)), (by repeat' (first | exact trivial | exact inB_px rfl | refine And.intro ?_ ?_))⟩; refine SubA.of_eq ?_
  rfl
end Go.Proofs.YtfplkakfakdfhaaDoor


/-
  put: at a node that has kids and is cut. No condition but the shape.
-/
namespace Go.Proofs.YtfplkakfakdfhaaDoor
set_option linter.unusedSimpArgs false
set_option linter.unusedVariables false
open Go.RowKit

set_option maxRecDepth 4000 in
set_option maxHeartbeats 8000000 in
theorem put_node_cut (key : ByteArray) (val : Int) (ks : List ByteArray) (vs : List Int) (l1 l2 : List Tn) (t0 t1 r : Tn) (m : ByteArray) (v : Int) (hlen : vs.length = ks.length) (hks : ks.length = 3) (hts : (l1 ++ t0 :: l2).length = ks.length + 1) (hb : (seekF key ks).2 = false) (h1 : l1.length = (seekF key ks).1) (ih : PutPG key val t0 (t1, some (m, v, r))) :
    PutPG key val (.node ks vs (l1 ++ t0 :: l2)) (splitN (insL ks (seekF key ks).1 m) (insL vs (seekF key ks).1 v) (insL (l1 ++ t1 :: l2) ((seekF key ks).1 + 1) r)) := by
  have s1 := seek_pc ks key (by omega)
  have hle := seekF_le key ks
  rw [hb] at s1
  generalize (seekF key ks).1 = i at *
  have hlt : i < (l1 ++ t0 :: l2).length := by rw [List.length_append, List.length_cons]; omega
  have hsome : (((l1 ++ t0 :: l2).length : Int) == 0) = false := by rw [beq_eq_false_iff_ne]; omega
  have ih : PG _ _ _ _ _ (.tu [.d (strD m), .d (iD v), .px 2000 0]) [(1000, .res (treeR TQ t1))] [(2000, .res (treeR TQ r))] := ih
  have c1 := insS_pco ks i m hle (by omega)
  have c2 := insI_pco vs i v (by omega) (by omega)
  have hts1 : (l1 ++ t1 :: l2).length = (l1 ++ t0 :: l2).length := by rw [List.length_append, List.length_append, List.length_cons, List.length_cons]
  have c3 := insK_pg (l1 ++ t1 :: l2) (i + 1) r (by omega) (by omega)
  have q1 := insL_len ks i m hle
  rw [hts1] at c3
  have q2 := insL_len vs i v (by omega)
  have q3 := insL_len (l1 ++ t1 :: l2) (i + 1) r (by omega)
  generalize hk2 : insL ks i m = ks2 at *
  generalize hv2 : insL vs i v = vs2 at *
  generalize ht2 : insL (l1 ++ t1 :: l2) (i + 1) r = ts2 at *
  have hadd : ((i : Nat) : Int) + 1 = ((i + 1 : Nat) : Int) := by omega
  obtain ⟨a, b, c, d, rfl⟩ := four (q1.trans (by omega))
  obtain ⟨x, y, z, u, rfl⟩ := four (q2.trans (by omega))
  obtain ⟨tp, tq, tr, ts, tt, rfl⟩ := five (q3.trans (by omega))
  have e1 : [a, b, c, d].map strE = [strE a, strE b, strE c, strE d] := rfl
  have e2 : [x, y, z, u].map intE = [intE x, intE y, intE z, intE u] := rfl
  rw [e1] at c1
  rw [e2] at c2
  clear e1 e2 q1 q2 q3 hk2 hv2 ht2
  have hn : (l1 ++ t0 :: l2).length = 4 := by omega
  rw [hn] at hlt hsome hts1 c3
  show PG _ _ _ _ _ (.tu [.d (strD c), .d (iD z), .px 2000 0]) [(1000, .res (treeR TQ (.node [a, b] [x, y] [tp, tq, tr])))] [(2000, .res (treeR TQ (.node [d] [u] [ts, tt])))]
  refine pg_of_aw Tryd.func40 rfl (by kernel_rfl) mixed (by kernel_rfl) (by rw [Tryd.ntmps40]; exact Nat.le_of_ble_eq_true rfl) Tryd.results40 rfl ?_
  repeat (with_reducible apply aw_seq)
  refine aw_exR1 mixed (fun C a w h => ent_open (Q := TQ) 1000 1001 1002 1003 rfl rfl rfl rfl (by decide) (by decide) (by decide) h) ?_
  rw [hn]
  repeat (first | (refine aw_after (id := 7) mixed ?_; (with_reducible apply aw_reg)) | (with_reducible first | apply aw_seq | apply aw_reg | apply rp_nil | apply ae_norm | apply aw_skip) | ((with_reducible apply rp); first | ((with_reducible apply does_call_flat); exact rfl; exact rfl; exact (s1); exact rfl) | (exact does_ne_px ptrNode rfl rfl) | ((with_reducible apply does_move); (conv => lhs; whnf)) | ((with_reducible apply does_assign); (conv => lhs; whnf)) | ((with_reducible apply does_fieldAddr); exact tyOk rfl; exact rfl; exact rfl; decide; exact rfl) | ((with_reducible apply does_load_var); exact tyOk rfl; exact rfl; exact rfl; exact rfl; exact rfl) | ((with_reducible apply does_index_own); exact tyOk rfl; exact rfl; exact tyOk rfl; exact rfl; exact rfl; exact rfl; omega) | ((with_reducible apply does_eq); exact rfl; exact rfl) | ((with_reducible apply does_extract); exact rfl; exact rfl) | ((with_reducible apply does_extractA); exact rfl; exact rfl) | ((with_reducible apply does_len_ow); exact tyOk rfl; exact rfl; exact rfl) | ((with_reducible apply does_nilCheck); exact rfl)) | ((with_reducible apply rp2); (exact does_load_kid (Q := TQ) (tyOk rfl) rfl rfl rfl h1 rfl)) | ((with_reducible apply rpL); (refine does_callG' [(1000, 65)] [(1000, 65), (2000, 68)] (ups := [(65, .res (treeR TQ t1)), (68, .res (treeR TQ r))]) (v := (.tu [.d (strD m), .d (iD v), .px 68 0])) rfl (ih) rfl ?_ rfl ?_ ?_ rfl rfl rfl rfl rfl ?_ ?_ rfl rfl rfl; (focus repeat' (first | exact trivial | exact rfl | refine And.intro ?_ ?_)); (focus repeat' (first | exact trivial | exact inB_px rfl | refine And.intro ?_ ?_)); (focus repeat' (first | exact trivial | exact inB_px rfl | refine And.intro ?_ ?_)); (focus repeat' (first | exact trivial | exact inB_px rfl | refine And.intro ?_ ?_)); (focus repeat' (first | exact trivial | exact inB_px rfl | refine And.intro ?_ ?_))); exact lapp_nil _) | ((with_reducible apply aw_cond); exact rfl; (focus (intro hd; (cases hd; done))); (intro hd; clear hd)))
  refine ⟨_, fun p : {p : Value // ∃ g : Nat, p = .pointer (some ⟨g, 0, none⟩)} => ⟨_, _⟩, fun C a w h => ent_fone (Q := TQ) 13 68 rfl rfl (ent_kback 1003 65 rfl rfl h), ?_⟩
  rintro ⟨p, hp⟩
  dsimp only
  clear hp
  have c3 := c3 p
  repeat (first | (refine aw_after (id := 14) mixed ?_; (with_reducible apply aw_reg)) | (with_reducible first | apply aw_seq | apply aw_reg | apply rp_nil | apply ae_norm | apply aw_regD | apply aw_skip) | ((with_reducible apply dr_nil); (first | kernel_rfl | exact rfl)) | ((with_reducible first | apply rp | apply dr); first | (exact does_add_to rfl rfl hadd (by omega) (by omega)) | (exact does_quo_to (m := 4) (n := 2) (k := 2) rfl rfl rfl (by decide) (by decide)) | (exact does_slice_ov (k := 3) (m := 1) (tyOk rfl) rfl (tyOk rfl) rfl rfl rfl rfl (by decide) rfl) | (exact (by (with_reducible apply does_build_own (out := [.ow 139 _, .ow 148 _, .d .nl])); exact tyOk rfl; exact rfl; exact rfl; (focus repeat' (first | exact rfl | refine ⟨_, _, rfl, rfl, Nat.le_of_ble_eq_true rfl, rfl, ?_⟩)))) | ((with_reducible apply does_move); (conv => lhs; whnf)) | ((with_reducible apply does_assign); (conv => lhs; whnf)) | ((with_reducible apply does_fieldAddr); exact tyOk rfl; exact rfl; exact rfl; decide; exact rfl) | ((with_reducible apply does_load_var); exact tyOk rfl; exact rfl; exact rfl; exact rfl; exact rfl) | ((with_reducible apply does_load_own); exact tyOk rfl; exact rfl; exact rfl; exact rfl; exact rfl; exact rfl) | ((with_reducible apply does_index_own); exact tyOk rfl; exact rfl; exact tyOk rfl; exact rfl; exact rfl; exact rfl; (simp only [List.length_map, List.length_append, List.length_cons, List.length_nil] at *; omega)) | ((with_reducible apply does_le); exact rfl; exact rfl) | ((with_reducible apply does_gt); exact rfl; exact rfl) | ((with_reducible apply does_add); exact rfl; exact rfl; omega; omega) | ((with_reducible apply does_len_ow); exact tyOk rfl; exact rfl; exact rfl) | ((with_reducible apply does_nilCheck); exact rfl)) | ((with_reducible apply dr1); first | ((with_reducible apply does_box); exact rfl; exact rfl) | ((with_reducible apply does_buildSlice); exact tyOk rfl; exact rfl; exact tyOk rfl; exact rfl; exact rfl; (focus repeat' (first | exact trivial | refine And.intro rfl (And.intro rfl ?_))); decide; decide; exact rfl)) | ((with_reducible apply dr2); first | ((with_reducible apply does_callO1); exact rfl; exact rfl; exact rfl; exact (c1); (first | exact rfl | (simp; done) | (simp; omega)); exact rfl; decide; (conv => lhs; whnf)) | ((with_reducible apply does_callO1); exact rfl; exact rfl; exact rfl; exact (c2); (first | exact rfl | (simp; done) | (simp; omega)); exact rfl; decide; (conv => lhs; whnf)) | (exact does_slice_own (h := 2) (tyOk rfl) rfl (tyOk rfl) rfl rfl rfl ⟨_, _, rfl, rfl⟩ (Nat.le_of_ble_eq_true rfl) rfl rfl) | (exact does_append_own (tyOk rfl) rfl (tyOk rfl) rfl rfl rfl (by decide) (Nat.le_of_ble_eq_true rfl) (Nat.le_of_ble_eq_true rfl) rfl)) | ((with_reducible apply drN); ((with_reducible apply does_store); exact tyOk rfl; exact rfl; exact rfl; (conv => lhs; whnf); exact rfl; exact rfl; exact Nat.le_of_ble_eq_true rfl)) | ((with_reducible apply drL); (refine does_callG' [(1000, 1003), (1001, 68)] [(2000, 98)] (ups := [(98, .res (kidsR TQ [tp, tq, tr, ts, tt])), (1003, .dead), (68, .dead)]) (v := (.ow 98 (4 + 1))) rfl (c3) rfl ?_ rfl ?_ ?_ rfl rfl rfl rfl rfl ?_ ?_ rfl rfl rfl; (focus repeat' (first | exact trivial | exact rfl | refine And.intro ?_ ?_)); (focus repeat' (first | exact trivial | exact inB_ow rfl | refine And.intro ?_ ?_)); (focus repeat' (first | exact trivial | exact inB_ow rfl | refine And.intro ?_ ?_)); (focus repeat' (first | exact trivial | exact inB_ow rfl | refine And.intro ?_ ?_)); (focus repeat' (first | exact trivial | exact inB_ow rfl | refine And.intro ?_ ?_))); exact lapp_nil _) | ((with_reducible apply aw_cond); exact rfl; (focus (intro hd; (cases hd; done))); (intro hd; clear hd)) | ((with_reducible apply aw_cond); exact rfl; rotate_left; (focus (intro hd; (cases hd; done))); (intro hd; clear hd)))
  refine ⟨_, fun ps : {ps : List Value // ps.length = 5} => ⟨_, _⟩, fun C ac w h => ent_kopen (Q := TQ) (ts := [tp, tq, tr, ts, tt]) 98 2002 rfl rfl h, ?_⟩
  rintro ⟨ps, hps⟩
  dsimp only
  obtain ⟨p1, p2, p3, p4, p5, rfl⟩ := five hps
  have e3 : [p1, p2, p3, p4, p5].map ptrE = [ptrE p1, ptrE p2, ptrE p3, ptrE p4, ptrE p5] := rfl
  rw [e3]
  clear hps e3
  repeat (first | (refine aw_after (id := 16) mixed ?_; (with_reducible apply aw_reg)) | (with_reducible first | apply aw_seq | apply rp_nil | apply ae_norm | apply aw_regD) | ((with_reducible apply dr_nil); (first | kernel_rfl | exact rfl)) | ((with_reducible first | apply rp | apply dr); first | (exact does_slice_ov (k := 3) (m := 2) (tyOk rfl) rfl (tyOk rfl) rfl rfl rfl rfl (by decide) rfl) | ((with_reducible apply does_move); (conv => lhs; whnf)) | ((with_reducible apply does_fieldAddr); exact tyOk rfl; exact rfl; exact rfl; decide; exact rfl) | ((with_reducible apply does_load_var); exact tyOk rfl; exact rfl; exact rfl; exact rfl; exact rfl) | ((with_reducible apply does_add); exact rfl; exact rfl; omega; omega) | ((with_reducible apply does_nilCheck); exact rfl)) | ((with_reducible first | apply rp1 | apply dr1); (exact does_append_nil (tyOk rfl) rfl (tyOk rfl) rfl rfl (by decide) (Nat.le_of_ble_eq_true rfl) (Nat.le_of_ble_eq_true rfl) rfl)) | ((with_reducible apply rp2); (exact does_slice_own (h := 3) (tyOk rfl) rfl (tyOk rfl) rfl rfl rfl ⟨_, _, rfl, rfl⟩ (Nat.le_of_ble_eq_true rfl) rfl rfl)) | ((with_reducible first | apply rpN | apply drN); ((with_reducible apply does_store); exact tyOk rfl; exact rfl; exact rfl; (conv => lhs; whnf); exact rfl; exact rfl; exact Nat.le_of_ble_eq_true rfl)) | ((with_reducible apply aw_cond); exact rfl; rotate_left; (focus (intro hd; (cases hd; done))); (intro hd; clear hd)))
  refine after1 (fun C ac w h => ent_shut (Q := TQ) (ks := [a, b]) (vs := [x, y]) (ts := [tp, tq, tr]) 1000 158 164 197 rfl rfl rfl rfl (by decide) (ent_shut (Q := TQ) (ks := [d]) (vs := [u]) (ts := [ts, tt]) 150 139 148 187 rfl rfl rfl rfl (by decide) (ent_kshut (Q := TQ) (ts := [tp, tq, tr]) (ps := [p1, p2, p3]) 197 2002 rfl rfl (ent_kshut (Q := TQ) (ts := [ts, tt]) (ps := [p4, p5]) 187 2003 rfl rfl (ent_split (Q := TQ) (l1 := [tp, tq, tr]) (l2 := [ts, tt]) (p1 := [p1, p2, p3]) (p2 := [p4, p5]) 2002 2003 rfl rfl rfl h))))) ?_
  repeat (first | (with_reducible first | apply ae_norm | apply aw_ret | apply xg_ret))
  (with_reducible apply retg_ok (l := [(2000, 150)])); (focus (repeat' (first | (with_reducible apply rv_nil) | (with_reducible apply rv_cons) | ((with_reducible apply rv_tmp); exact rfl)))); rotate_left; refine ⟨(by repeat' (first | exact ks_nil | (refine ks_cons rfl (by exact SubA.refl _) ?_))), (by repeat' (first | exact trivial | exact rfl | refine And.intro ?_ ?_)), rfl, (by repeat' (first | exact trivial | exact inB_px rfl | refine And.intro ?_ ?_)), (by repeat' (first | exact trivial | exact inB_px rfl | refine And.intro ?_ ?_))⟩; refine SubA.of_eq ?_
  rfl
end Go.Proofs.YtfplkakfakdfhaaDoor


/-
  put: any tree whose leaves are all equally deep.
-/
namespace Go.Proofs.YtfplkakfakdfhaaDoor
set_option linter.unusedSimpArgs false
set_option linter.unusedVariables false
open Go.RowKit

theorem put_pg (key : ByteArray) (val : Int) : ∀ (h : Nat) (t : Tn), Sh h t → PutPG key val t (putH key val h t)
  | 0, .node ks vs ts, hs => by
    obtain ⟨h1, h2, h3, rfl⟩ := hs
    by_cases hb : (seekF key ks).2 = true
    · have := put_there key val ks vs [] h1 h3 hb
      unfold putH
      rw [if_pos hb]
      exact this
    · have hb2 : (seekF key ks).2 = false := by simpa using hb
      unfold putH
      rw [if_neg hb]
      by_cases h4 : ks.length = 3
      · exact put_leaf_cut key val ks vs h1 h4 hb2
      · have := put_leaf_few key val ks vs h1 (by omega) hb2
        show PutPG key val _ (splitN _ _ _)
        rw [splitN_few (by rw [insL_len _ _ _ (seekF_le key ks)]; omega)]
        exact this
  | h + 1, .node ks vs ts, hs => by
    obtain ⟨h1, h2, h3, h4, h5⟩ := hs
    by_cases hb : (seekF key ks).2 = true
    · have := put_there key val ks vs ts h1 h3 hb
      unfold putH
      rw [if_pos hb]
      exact this
    · have hb2 : (seekF key ks).2 = false := by simpa using hb
      have hle := seekF_le key ks
      have hlt : (seekF key ks).1 < ts.length := by omega
      obtain ⟨l1, t0, l2, hts, hl1⟩ := split_at hlt
      have hget : ts.getD (seekF key ks).1 noTn = t0 := by rw [hts, ← hl1]; simp
      have hset : ∀ t1, ts.set (seekF key ks).1 t1 = l1 ++ t1 :: l2 := fun t1 => by rw [hts, ← hl1]; simp
      have ih := put_pg key val h t0 (h5 t0 (by rw [hts]; simp))
      unfold putH
      rw [if_neg hb]
      dsimp only
      rw [hget]
      subst hts
      rcases ho : putH key val h t0 with ⟨t1, o⟩
      rw [ho] at ih
      cases o with
      | none =>
        dsimp only
        rw [hset]
        exact put_node_none key val ks vs l1 l2 t0 t1 h3 hb2 hl1 ih
      | some q =>
        obtain ⟨m, v, r⟩ := q
        dsimp only
        rw [hset]
        by_cases h6 : ks.length = 3
        · exact put_node_cut key val ks vs l1 l2 t0 t1 r m v h1 h6 h4 hb2 hl1 ih
        · have := put_node_few key val ks vs l1 l2 t0 t1 r m v h1 (by omega) h4 hb2 hl1 ih
          rw [splitN_few (by rw [insL_len _ _ _ (seekF_le key ks)]; omega)]
          exact this
end Go.Proofs.YtfplkakfakdfhaaDoor


/-
  The pure layer: a variable that holds a pointer to a tree, or nil, as one box. No condition.
-/
namespace Go.Proofs.YtfplkakfakdfhaaDoor
set_option linter.unusedSimpArgs false
set_option linter.unusedVariables false
open Go.RowKit

def OptRep (Q : TrTy) (w : World) : Option Tn → Value → List Nat → Prop
  | none, x, fs => x = .pointer none ∧ fs = []
  | some t, x, fs => TreeRep Q w t x fs
theorem OptRep.stay {Q : TrTy} {w w' : World} : ∀ (o : Option Tn) {x : Value} {fs : List Nat}, OptRep Q w o x fs → (∀ g ∈ fs, w'.heap[g]? = w.heap[g]?) → OptRep Q w' o x fs
  | none, _, _, h, _ => h
  | some t, _, _, h, hs => TreeRep.stay t h hs
theorem OptRep.det {Q : TrTy} {w : World} : ∀ (o : Option Tn) {x : Value} {fs fs' : List Nat}, OptRep Q w o x fs → OptRep Q w o x fs' → fs = fs'
  | none, _, _, _, h, h' => h.2.trans h'.2.symm
  | some t, _, _, _, h, h' => TreeRep.det t h h'
theorem OptRep.one {Q : TrTy} {w : World} : ∀ (o : Option Tn) {x : Value} {fs : List Nat}, OptRep Q w o x fs → ∃ a, x = .pointer a
  | none, _, _, h => ⟨_, h.1⟩
  | some t, _, _, h => by obtain ⟨g, h⟩ := tree_ptr h; exact ⟨_, h⟩
def LeftRep (Q : TrTy) (T : TypeId) (w : World) (o : Option Tn) (v : Value) (fs : List Nat) : Prop := ∃ g x f0, v = .pointer (some ⟨g, 0, none⟩) ∧ w.heap[g]? = some (.cells #[x] T (0, 0)) ∧ OptRep Q w o x f0 ∧ fs = g :: f0 ∧ fs.Nodup
def leftR (Q : TrTy) (T : TypeId) (o : Option Tn) : Res := ⟨fun w v fs => LeftRep Q T w o v fs, fun {w w' v fs} h hs => by
    obtain ⟨g, x, f0, h1, h2, h3, h4, h5⟩ := h
    exact ⟨g, x, f0, h1, (hs g (by rw [h4]; simp)).trans h2, OptRep.stay o h3 (fun k hk => hs k (by rw [h4]; simp [hk])), h4, h5⟩, fun {w v fs fs'} h h' => by
    obtain ⟨g, x, f0, h1, h2, h3, h4, h5⟩ := h
    obtain ⟨g', x', f0', k1, k2, k3, k4, k5⟩ := h'
    subst h1
    injection k1 with k1
    injection k1 with k1
    injection k1 with k1
    subst k1
    rw [h2] at k2
    injection k2 with k2
    injection k2 with k2
    have k2 := congrArg Array.toList k2
    injection k2 with e1 _
    subst e1
    rw [h4, k4, OptRep.det o h3 k3]⟩
section
variable {Q : TrTy} {T : TypeId} {σ : Sl} {β : Bx} {C : Ctx} {a : Act} {w : World} {ρ : Nat → Value} {I : Nat → Prop}
/-- The variable holds nil. -/
theorem ent_lnil (id : Nat) (hl : look id β = some (.res (leftR Q T none))) (hat : At C ⟨σ, β⟩ a w) : At C ⟨σ, [(id, .var T [.d (.sc (.pointer none))])] ++ β⟩ a w := by
  refine at_mem (fun ρ I hm => ?_) hat
  obtain ⟨fs, g, x, f0, h1, h2, ⟨rfl, rfl⟩, h4, h5⟩ := hm.box id _ hl
  refine (mem_regroup hm _ ρ (fun _ _ => rfl) (fun i b hi => ?_) (fun i b k hi hh => ?_) (fun i j b b' k hi hj hh hh' => ?_)).1
  · obtain ⟨rfl, rfl⟩ := look_one hi
    exact ⟨⟨g, #[.pointer none], h1, h2, ⟨_, [], rfl, fun _ => rfl, ⟨rfl, rfl⟩, rfl⟩⟩, trivial, trivial⟩
  · obtain ⟨rfl, rfl⟩ := look_one hi
    refine ⟨i, _, hl, look_a, fs, ⟨g, _, [], h1, h2, ⟨rfl, rfl⟩, h4, h5⟩, ?_⟩
    have hh : blk _ = some k := hh
    rw [h1] at hh
    injection hh with hh
    rw [h4]
    exact List.mem_cons.2 (.inl hh.symm)
  · obtain ⟨rfl, rfl⟩ := look_one hi
    obtain ⟨rfl, rfl⟩ := look_one hj
    rfl
theorem ent_lnshut (id : Nat) (hl : look id β = some (.var T [.d (.sc (.pointer none))])) (hat : At C ⟨σ, β⟩ a w) : At C ⟨σ, [(id, .res (leftR Q T none))] ++ β⟩ a w := by
  refine at_mem (fun ρ I hm => ?_) hat
  obtain ⟨g, us, h1, h2, ⟨x, u1, q1, _, ⟨r1, _⟩, q2⟩⟩ := hm.box id _ hl
  have hus : us = #[.pointer none] := by
    apply Array.toList_inj.1
    rw [q1, q2, r1]
  have hx0 : (Box.var T [A.d (.sc (.pointer none))]).has w (ρ id) g := by show blk (ρ id) = some g; rw [h1]; rfl
  have hrep : LeftRep Q T w none (ρ id) [g] := ⟨g, _, [], h1, by rw [h2, hus], ⟨rfl, rfl⟩, rfl, by simp⟩
  refine (mem_regroup hm _ ρ (fun _ _ => rfl) (fun i b hi => ?_) (fun i b k hi hh => ?_) (fun i j b b' k hi hj hh hh' => ?_)).1
  · obtain ⟨rfl, rfl⟩ := look_one hi
    exact ⟨⟨_, hrep⟩, trivial⟩
  · obtain ⟨rfl, rfl⟩ := look_one hi
    obtain ⟨f', hf', hk⟩ := hh
    rw [(leftR Q T none).det hf' hrep] at hk
    exact ⟨i, _, hl, look_a, by rw [List.mem_singleton.1 hk]; exact hx0⟩
  · obtain ⟨rfl, rfl⟩ := look_one hi
    obtain ⟨rfl, rfl⟩ := look_one hj
    rfl
/-- The variable holds a tree. -/
theorem ent_lopen (id j : Nat) {t : Tn} (hl : look id β = some (.res (leftR Q T (some t)))) (hj : look j β = none) (hat : At C ⟨σ, β⟩ a w) : At C ⟨σ, [(id, .var T [.px j 0]), (j, .res (treeR Q t))] ++ β⟩ a w := by
  obtain ⟨ρ, I, hm, hfr⟩ := hat
  obtain ⟨fs, g, x, f0, h1, h2, h3, h4, h5⟩ := hm.box id _ hl
  have h3 : TreeRep Q w t x f0 := h3
  have hrep : LeftRep Q T w (some t) (ρ id) fs := ⟨g, x, f0, h1, h2, h3, h4, h5⟩
  have hne : id ≠ j := fun e => by rw [e, hj] at hl; cases hl
  obtain ⟨g0, hg0⟩ := tree_ptr h3
  have hdj := upd_dom hj ρ x
  have hid : updF ρ j x id = ρ id := hdj id (by unfold dom; rw [hl]; simp)
  have hhas : ∀ k ∈ fs, (Box.res (leftR Q T (some t))).has w (ρ id) k := fun k hk => ⟨fs, hrep, hk⟩
  have cls : ∀ (z : Nat) (B : Box) (k : Nat), look z [(id, Box.var T [.px j 0]), (j, .res (treeR Q t))] = some B → B.has w (updF ρ j x z) k → (z = id ∧ k = g) ∨ (z = j ∧ k ∈ f0) := by
    intro z B k hz hB
    rcases look_of2 hz with ⟨rfl, rfl⟩ | ⟨rfl, rfl⟩
    · have hB : blk _ = some k := hB
      rw [hid, h1] at hB
      injection hB with hB
      exact .inl ⟨rfl, hB.symm⟩
    · obtain ⟨f', hf', hk'⟩ := hB
      have hf' : TreeRep Q w t _ f' := hf'
      rw [upd_same] at hf'
      rw [TreeRep.det t hf' h3] at hk'
      exact .inr ⟨rfl, hk'⟩
  refine at_regroup hm hfr _ (updF ρ j x) [] hdj (fun i b hi => ?_) (fun i b k hi hh => ⟨id, _, hl, look_a, hhas k ?_⟩) (fun i j b b' k hi hj hh hh' => ?_) (fun t v ht => by cases ht)
  · rcases look_of2 hi with ⟨rfl, rfl⟩ | ⟨rfl, rfl⟩
    · exact ⟨⟨g, #[x], hid.trans h1, h2, ⟨x, [], rfl, fun _ => rfl, ⟨g0, (upd_same _ _ _).trans hg0, hg0⟩, rfl⟩⟩, dom_left look_b, trivial⟩
    · exact ⟨⟨f0, by rw [upd_same]; exact h3⟩, trivial⟩
  · rw [h4]
    rcases cls i b k hi hh with ⟨_, h⟩ | ⟨_, h⟩ <;> simp [h]
  · rw [h4] at h5
    have hn := (List.nodup_cons.1 h5).1
    rcases cls i b k hi hh with ⟨rfl, h⟩ | ⟨rfl, h⟩ <;> rcases cls j b' k hj hh' with ⟨rfl, h'⟩ | ⟨rfl, h'⟩
    · rfl
    · rw [h] at h'; exact absurd h' hn
    · rw [h'] at h; exact absurd h hn
    · rfl
theorem ent_lshut (id j : Nat) {t : Tn} (hl : look id β = some (.var T [.px j 0])) (hj : look j β = some (.res (treeR Q t))) (hat : At C ⟨σ, β⟩ a w) : At C ⟨σ, [(id, .res (leftR Q T (some t))), (j, .dead)] ++ β⟩ a w := by
  refine at_mem (fun ρ I hm => ?_) hat
  obtain ⟨g, us, h1, h2, ⟨x, u1, q1, _, r1, q2⟩⟩ := hm.box id _ hl
  obtain ⟨g1, r1, r2⟩ := r1
  have hxj : x = ρ j := r2.trans r1.symm
  obtain ⟨ft, ht⟩ := hm.box j _ hj
  have ht : TreeRep Q w t (ρ j) ft := ht
  have hne : id ≠ j := fun e => by rw [e, hj] at hl; cases hl
  have hus : us = #[x] := by
    apply Array.toList_inj.1
    rw [q1, q2]
  have hx0 : (Box.var T [A.px j 0]).has w (ρ id) g := by show blk (ρ id) = some g; rw [h1]; rfl
  have hx2 : ∀ k ∈ ft, (Box.res (treeR Q t)).has w (ρ j) k := fun k hk => ⟨ft, ht, hk⟩
  have hgn : g ∉ ft := fun h => hne (hm.inj id j _ _ g hl hj hx0 (hx2 g h))
  have hrep : LeftRep Q T w (some t) (ρ id) (g :: ft) := ⟨g, x, ft, h1, by rw [h2, hus], by rw [hxj]; exact ht, rfl, List.nodup_cons.2 ⟨hgn, tree_nodup ht⟩⟩
  have cls : ∀ (z : Nat) (B : Box) (k : Nat), look z [(id, Box.res (leftR Q T (some t))), (j, .dead)] = some B → B.has w (ρ z) k → z = id ∧ k ∈ g :: ft := by
    intro z B k hz hB
    rcases look_of2 hz with ⟨rfl, rfl⟩ | ⟨rfl, rfl⟩
    · obtain ⟨f', hf', hk'⟩ := hB
      rw [(leftR Q T (some t)).det hf' hrep] at hk'
      exact ⟨rfl, hk'⟩
    · exact hB.elim
  refine (mem_regroup hm _ ρ (fun _ _ => rfl) (fun i b hi => ?_) (fun i b k hi hh => ?_) (fun i j b b' k hi hj hh hh' => (cls i b k hi hh).1.trans (cls j b' k hj hh').1.symm)).1
  · rcases look_of2 hi with ⟨rfl, rfl⟩ | ⟨rfl, rfl⟩
    · exact ⟨⟨_, hrep⟩, trivial⟩
    · exact ⟨trivial, trivial⟩
  · rcases List.mem_cons.1 (cls i b k hi hh).2 with rfl | h
    · exact ⟨id, _, hl, look_a, hx0⟩
    · exact ⟨j, _, hj, look_b, hx2 k h⟩
end
end Go.Proofs.YtfplkakfakdfhaaDoor


/-
  grown: a key more. No condition but the shape.
-/
namespace Go.Proofs.YtfplkakfakdfhaaDoor
set_option linter.unusedSimpArgs false
set_option linter.unusedVariables false
open Go.RowKit

theorem grown_nil (key : ByteArray) (val : Int) : PG Tryd.prog 29 [.d (.sc (.pointer none)), .d (strD key), .d (iD val)] [] [] (.px 2000 0) [] [(2000, .res (treeR TQ (.node [key] [val] [])))] := by
  refine pg_of_aw Tryd.func29 rfl (by kernel_rfl) mixed (by kernel_rfl) (by rw [Tryd.ntmps29]; exact Nat.le_of_ble_eq_true rfl) Tryd.results29 rfl ?_
  repeat (with_reducible apply aw_seq)
  repeat (first | (refine aw_after (id := 2) mixed ?_; (with_reducible apply aw_reg)) | (with_reducible first | apply aw_seq | apply aw_reg | apply rp_nil | apply ae_norm) | ((with_reducible apply rp); first | (exact does_eq_nn ptrNode rfl rfl) | (exact (by (with_reducible apply does_build_own (out := [.ow 13 _, .ow 15 _, .d .nl])); exact tyOk rfl; exact rfl; exact rfl; (focus repeat' (first | exact rfl | refine ⟨_, _, rfl, rfl, Nat.le_of_ble_eq_true rfl, rfl, ?_⟩)))) | ((with_reducible apply does_move); (conv => lhs; whnf)) | ((with_reducible apply does_assign); (conv => lhs; whnf))) | ((with_reducible apply rp1); first | ((with_reducible apply does_box); exact rfl; exact rfl) | ((with_reducible apply does_buildSlice); exact tyOk rfl; exact rfl; exact tyOk rfl; exact rfl; exact rfl; (focus repeat' (first | exact trivial | refine And.intro rfl (And.intro rfl ?_))); decide; decide; exact rfl)) | ((with_reducible apply aw_cond); exact rfl; rotate_left; (focus (intro hd; (cases hd; done))); (intro hd; clear hd)))
  refine after1 (fun C ac w h => ent_shut (Q := TQ) (ks := [key]) (vs := [val]) (ts := []) 17 13 15 2001 rfl rfl rfl rfl (by decide) (ent_knil (Q := TQ) 17 2001 rfl rfl h)) ?_
  repeat (first | (with_reducible first | apply ae_norm | apply aw_ret | apply ae_ret | apply xg_ret))
  (with_reducible apply retg_ok (l := [(2000, 17)])); (focus (repeat' (first | (with_reducible apply rv_nil) | (with_reducible apply rv_cons) | ((with_reducible apply rv_tmp); exact rfl)))); rotate_left; refine ⟨(by repeat' exact ks_nil), (by repeat' (first | exact trivial | exact rfl | refine And.intro ?_ ?_)), rfl, (by repeat' (first | exact trivial | refine And.intro ?_ ?_)), (by repeat' (first | exact trivial | refine And.intro ?_ ?_))⟩; refine SubA.of_eq ?_
  rfl
theorem grown_same (key : ByteArray) (val : Int) (t t1 : Tn) (ih : PutPG key val t (t1, none)) : PG Tryd.prog 29 [.px 1000 0, .d (strD key), .d (iD val)] [(1000, .res (treeR TQ t))] [] (.px 1000 0) [(1000, .res (treeR TQ t1))] [] := by
  have ih : PG _ _ _ _ _ (.tu [.d (strD ByteArray.empty), .d (iD 0), .d (.sc (.pointer none))]) [(1000, .res (treeR TQ t1))] [] := ih
  refine pg_of_aw Tryd.func29 rfl (by kernel_rfl) mixed (by kernel_rfl) (by rw [Tryd.ntmps29]; exact Nat.le_of_ble_eq_true rfl) Tryd.results29 rfl ?_
  repeat (with_reducible apply aw_seq)
  repeat (first | (with_reducible first | apply aw_seq | apply aw_reg | apply rp_nil | apply ae_norm | apply aw_ret | apply ae_ret | apply xg_ret | apply aw_skip) | ((with_reducible apply rp); first | (exact does_eq_px ptrNode rfl rfl) | (exact does_eq_nn ptrNode rfl rfl) | ((with_reducible apply does_move); (conv => lhs; whnf)) | ((with_reducible apply does_assign); (conv => lhs; whnf)) | ((with_reducible apply does_extractA); exact rfl; exact rfl)) | ((with_reducible apply rpL); (refine does_callG' [] [] (ups := [(1000, .res (treeR TQ t1))]) (v := (.tu [.d (strD ByteArray.empty), .d (iD 0), .d (.sc (.pointer none))])) rfl (ih) rfl ?_ rfl ?_ ?_ rfl rfl rfl rfl rfl ?_ ?_ rfl rfl rfl; (focus repeat' (first | exact trivial | exact rfl | refine And.intro ?_ ?_)); (focus repeat' (first | exact trivial | exact inB_px rfl | refine And.intro ?_ ?_)); (focus repeat' (first | exact trivial | exact inB_px rfl | refine And.intro ?_ ?_)); (focus repeat' (first | exact trivial | exact inB_px rfl | refine And.intro ?_ ?_)); (focus repeat' (first | exact trivial | exact inB_px rfl | refine And.intro ?_ ?_))); exact lapp_nil _) | ((with_reducible apply aw_cond); exact rfl; (focus (intro hd; (cases hd; done))); (intro hd; clear hd)) | ((with_reducible apply aw_cond); exact rfl; rotate_left; (focus (intro hd; (cases hd; done))); (intro hd; clear hd)))
  (with_reducible apply retg_ok (l := [])); (focus (repeat' (first | (with_reducible apply rv_nil) | (with_reducible apply rv_cons) | ((with_reducible apply rv_tmp); exact rfl)))); rotate_left; refine ⟨(by repeat' (first | exact ks_nil | (refine ks_cons rfl (by exact SubA.refl _) ?_))), (by repeat' (first | exact trivial | exact rfl | refine And.intro ?_ ?_)), rfl, (by repeat' (first | exact trivial | exact inB_px rfl | refine And.intro ?_ ?_)), (by repeat' (first | exact trivial | exact inB_px rfl | refine And.intro ?_ ?_))⟩; refine SubA.of_eq ?_
  rfl
theorem grown_up (key : ByteArray) (val : Int) (t t1 r : Tn) (m : ByteArray) (v : Int) (ih : PutPG key val t (t1, some (m, v, r))) : PG Tryd.prog 29 [.px 1000 0, .d (strD key), .d (iD val)] [(1000, .res (treeR TQ t))] [] (.px 2000 0) [(1000, .dead)] [(2000, .res (treeR TQ (.node [m] [v] [t1, r])))] := by
  have ih : PG _ _ _ _ _ (.tu [.d (strD m), .d (iD v), .px 2000 0]) [(1000, .res (treeR TQ t1))] [(2000, .res (treeR TQ r))] := ih
  refine pg_of_aw Tryd.func29 rfl (by kernel_rfl) mixed (by kernel_rfl) (by rw [Tryd.ntmps29]; exact Nat.le_of_ble_eq_true rfl) Tryd.results29 rfl ?_
  repeat (with_reducible apply aw_seq)
  repeat (first | (refine aw_after (id := 6) mixed ?_; (with_reducible apply aw_reg)) | (with_reducible first | apply aw_seq | apply aw_reg | apply rp_nil | apply ae_norm | apply aw_skip) | ((with_reducible apply rp); first | (exact does_eq_px ptrNode rfl rfl) | (exact (by (with_reducible apply does_build_own (out := [.ow 30 _, .ow 32 _, .ow 35 _])); exact tyOk rfl; exact rfl; exact rfl; (focus repeat' (first | exact rfl | refine ⟨_, _, rfl, rfl, Nat.le_of_ble_eq_true rfl, rfl, ?_⟩)))) | ((with_reducible apply does_move); (conv => lhs; whnf)) | ((with_reducible apply does_assign); (conv => lhs; whnf)) | ((with_reducible apply does_extractA); exact rfl; exact rfl)) | ((with_reducible apply rp1); first | ((with_reducible apply does_box); exact rfl; exact rfl) | ((with_reducible apply does_buildSlice); exact tyOk rfl; exact rfl; exact tyOk rfl; exact rfl; exact rfl; (focus repeat' (first | exact trivial | refine And.intro rfl (And.intro rfl ?_))); decide; decide; exact rfl)) | ((with_reducible apply rpL); (refine does_callG' [] [(2000, 22)] (ups := [(1000, .res (treeR TQ t1)), (22, .res (treeR TQ r))]) (v := (.tu [.d (strD m), .d (iD v), .px 22 0])) rfl (ih) rfl ?_ rfl ?_ ?_ rfl rfl rfl rfl rfl ?_ ?_ rfl rfl rfl; (focus repeat' (first | exact trivial | exact rfl | refine And.intro ?_ ?_)); (focus repeat' (first | exact trivial | exact inB_px rfl | refine And.intro ?_ ?_)); (focus repeat' (first | exact trivial | exact inB_px rfl | refine And.intro ?_ ?_)); (focus repeat' (first | exact trivial | exact inB_px rfl | refine And.intro ?_ ?_)); (focus repeat' (first | exact trivial | exact inB_px rfl | refine And.intro ?_ ?_))); exact lapp_nil _) | ((with_reducible apply rpL); (exact does_build_kids2 (Q := TQ) (tyOk rfl) rfl (tyOk rfl) rfl rfl rfl rfl rfl rfl (by decide) rfl); exact lapp_nil _) | ((with_reducible apply aw_cond); exact rfl; (focus (intro hd; (cases hd; done))); (intro hd; clear hd)))
  refine after1 (fun C ac w h => ent_shut (Q := TQ) (ks := [m]) (vs := [v]) (ts := [t1, r]) 37 30 32 35 rfl rfl rfl rfl (by decide) h) ?_
  repeat (first | (with_reducible first | apply ae_norm | apply aw_ret | apply xg_ret))
  (with_reducible apply retg_ok (l := [(2000, 37)])); (focus (repeat' (first | (with_reducible apply rv_nil) | (with_reducible apply rv_cons) | ((with_reducible apply rv_tmp); exact rfl)))); rotate_left; refine ⟨(by repeat' (first | exact ks_nil | (refine ks_cons rfl (by exact SubA.refl _) ?_))), (by repeat' (first | exact trivial | exact rfl | refine And.intro ?_ ?_)), rfl, (by repeat' (first | exact trivial | exact inB_px rfl | refine And.intro ?_ ?_)), (by repeat' (first | exact trivial | exact inB_px rfl | refine And.intro ?_ ?_))⟩; refine SubA.of_eq ?_
  rfl
end Go.Proofs.YtfplkakfakdfhaaDoor

