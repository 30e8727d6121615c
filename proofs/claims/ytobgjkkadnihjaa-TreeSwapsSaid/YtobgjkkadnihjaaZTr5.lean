/-
  put: at a node that has kids and is cut. No condition but the shape.
-/
import Derived.Test.YtobgjkkadnihjaaZTr4
namespace Go.Proofs.Ytobgjkkadnihjaa
set_option linter.unusedSimpArgs false
set_option linter.unusedVariables false
open Go.RowKit

set_option maxRecDepth 4000 in
set_option maxHeartbeats 8000000 in
theorem put_node_cut (key : ByteArray) (val : Int) (ks : List ByteArray) (vs : List Int) (l1 l2 : List Tn) (t0 t1 r : Tn) (m : ByteArray) (v : Int) (hlen : vs.length = ks.length) (hks : ks.length = 3) (hts : (l1 ++ t0 :: l2).length = ks.length + 1) (hb : (seekF key ks).2 = false) (h1 : l1.length = (seekF key ks).1) (ih : PutPG key val t0 (t1, some (m, v, r))) :
    PutPG key val (.node ks vs (l1 ++ t0 :: l2)) (splitN (insL ks (seekF key ks).1 m) (insL vs (seekF key ks).1 v) (insL (l1 ++ t1 :: l2) ((seekF key ks).1 + 1) r)) := by
  have s1 := seek_pc ks key (by omega)
  have hle := seekF_le key ks
  rw [hb] at s1
  generalize (seekF key ks).1 = i at *
  have hlt : i < (l1 ++ t0 :: l2).length := by rw [List.length_append, List.length_cons]; omega
  have hsome : (((l1 ++ t0 :: l2).length : Int) == 0) = false := by rw [beq_eq_false_iff_ne]; omega
  have ih : PG _ _ _ _ _ (.tu [.d (strD m), .d (iD v), .px 2000 0]) [(1000, .res (treeR TQ t1))] [(2000, .res (treeR TQ r))] := ih
  have c1 := insS_pco ks i m hle (by omega)
  have c2 := insI_pco vs i v (by omega) (by omega)
  have hts1 : (l1 ++ t1 :: l2).length = (l1 ++ t0 :: l2).length := by rw [List.length_append, List.length_append, List.length_cons, List.length_cons]
  have c3 := insK_pg (l1 ++ t1 :: l2) (i + 1) r (by omega) (by omega)
  have q1 := insL_len ks i m hle
  rw [hts1] at c3
  have q2 := insL_len vs i v (by omega)
  have q3 := insL_len (l1 ++ t1 :: l2) (i + 1) r (by omega)
  generalize hk2 : insL ks i m = ks2 at *
  generalize hv2 : insL vs i v = vs2 at *
  generalize ht2 : insL (l1 ++ t1 :: l2) (i + 1) r = ts2 at *
  have hadd : ((i : Nat) : Int) + 1 = ((i + 1 : Nat) : Int) := by omega
  obtain ⟨a, b, c, d, rfl⟩ := four (q1.trans (by omega))
  obtain ⟨x, y, z, u, rfl⟩ := four (q2.trans (by omega))
  obtain ⟨tp, tq, tr, ts, tt, rfl⟩ := five (q3.trans (by omega))
  have e1 : [a, b, c, d].map strE = [strE a, strE b, strE c, strE d] := rfl
  have e2 : [x, y, z, u].map intE = [intE x, intE y, intE z, intE u] := rfl
  rw [e1] at c1
  rw [e2] at c2
  clear e1 e2 q1 q2 q3 hk2 hv2 ht2
  have hn : (l1 ++ t0 :: l2).length = 4 := by omega
  rw [hn] at hlt hsome hts1 c3
  show PG _ _ _ _ _ (.tu [.d (strD c), .d (iD z), .px 2000 0]) [(1000, .res (treeR TQ (.node [a, b] [x, y] [tp, tq, tr])))] [(2000, .res (treeR TQ (.node [d] [u] [ts, tt])))]
  refine pg_of_aw Try.func29 rfl (by kernel_rfl) mixed (by kernel_rfl) (by rw [Try.ntmps29]; exact Nat.le_of_ble_eq_true rfl) Try.results29 rfl ?_
  repeat (with_reducible apply aw_seq)
  refine aw_exR1 mixed (fun C a w h => ent_open (Q := TQ) 1000 1001 1002 1003 rfl rfl rfl rfl (by decide) (by decide) (by decide) h) ?_
  rw [hn]
  repeat (first | (refine aw_after (id := 7) mixed ?_; (with_reducible apply aw_reg)) | (with_reducible first | apply aw_seq | apply aw_reg | apply rp_nil | apply ae_norm | apply aw_skip) | ((with_reducible apply rp); first | ((with_reducible apply does_call_flat); exact rfl; exact rfl; exact (s1); exact rfl) | (exact does_ne_px ptrNode rfl rfl) | ((with_reducible apply does_move); (conv => lhs; whnf)) | ((with_reducible apply does_assign); (conv => lhs; whnf)) | ((with_reducible apply does_fieldAddr); exact tyOk rfl; exact rfl; exact rfl; decide; exact rfl) | ((with_reducible apply does_load_var); exact tyOk rfl; exact rfl; exact rfl; exact rfl; exact rfl) | ((with_reducible apply does_index_own); exact tyOk rfl; exact rfl; exact tyOk rfl; exact rfl; exact rfl; exact rfl; omega) | ((with_reducible apply does_eq); exact rfl; exact rfl) | ((with_reducible apply does_extract); exact rfl; exact rfl) | ((with_reducible apply does_extractA); exact rfl; exact rfl) | ((with_reducible apply does_len_ow); exact tyOk rfl; exact rfl; exact rfl) | ((with_reducible apply does_nilCheck); exact rfl)) | ((with_reducible apply rp2); (exact does_load_kid (Q := TQ) (tyOk rfl) rfl rfl rfl h1 rfl)) | ((with_reducible apply rpL); (refine does_callG' [(1000, 65)] [(1000, 65), (2000, 68)] (ups := [(65, .res (treeR TQ t1)), (68, .res (treeR TQ r))]) (v := (.tu [.d (strD m), .d (iD v), .px 68 0])) rfl (ih) rfl ?_ rfl ?_ ?_ rfl rfl rfl rfl rfl ?_ ?_ rfl rfl rfl; (focus repeat' (first | exact trivial | exact rfl | refine And.intro ?_ ?_)); (focus repeat' (first | exact trivial | exact inB_px rfl | refine And.intro ?_ ?_)); (focus repeat' (first | exact trivial | exact inB_px rfl | refine And.intro ?_ ?_)); (focus repeat' (first | exact trivial | exact inB_px rfl | refine And.intro ?_ ?_)); (focus repeat' (first | exact trivial | exact inB_px rfl | refine And.intro ?_ ?_))); exact lapp_nil _) | ((with_reducible apply aw_cond); exact rfl; (focus (intro hd; (cases hd; done))); (intro hd; clear hd)))
  refine ⟨_, fun p : {p : Value // ∃ g : Nat, p = .pointer (some ⟨g, 0, none⟩)} => ⟨_, _⟩, fun C a w h => ent_fone (Q := TQ) 13 68 rfl rfl (ent_kback 1003 65 rfl rfl h), ?_⟩
  rintro ⟨p, hp⟩
  dsimp only
  clear hp
  have c3 := c3 p
  repeat (first | (refine aw_after (id := 14) mixed ?_; (with_reducible apply aw_reg)) | (with_reducible first | apply aw_seq | apply aw_reg | apply rp_nil | apply ae_norm | apply aw_regD | apply aw_skip) | ((with_reducible apply dr_nil); (first | kernel_rfl | exact rfl)) | ((with_reducible first | apply rp | apply dr); first | (exact does_add_to rfl rfl hadd (by omega) (by omega)) | (exact does_quo_to (m := 4) (n := 2) (k := 2) rfl rfl rfl (by decide) (by decide)) | (exact does_slice_ov (k := 3) (m := 1) (tyOk rfl) rfl (tyOk rfl) rfl rfl rfl rfl (by decide) rfl) | (exact (by (with_reducible apply does_build_own (out := [.ow 139 _, .ow 148 _, .d .nl])); exact tyOk rfl; exact rfl; exact rfl; (focus repeat' (first | exact rfl | refine ⟨_, _, rfl, rfl, Nat.le_of_ble_eq_true rfl, rfl, ?_⟩)))) | ((with_reducible apply does_move); (conv => lhs; whnf)) | ((with_reducible apply does_assign); (conv => lhs; whnf)) | ((with_reducible apply does_fieldAddr); exact tyOk rfl; exact rfl; exact rfl; decide; exact rfl) | ((with_reducible apply does_load_var); exact tyOk rfl; exact rfl; exact rfl; exact rfl; exact rfl) | ((with_reducible apply does_load_own); exact tyOk rfl; exact rfl; exact rfl; exact rfl; exact rfl; exact rfl) | ((with_reducible apply does_index_own); exact tyOk rfl; exact rfl; exact tyOk rfl; exact rfl; exact rfl; exact rfl; (simp only [List.length_map, List.length_append, List.length_cons, List.length_nil] at *; omega)) | ((with_reducible apply does_le); exact rfl; exact rfl) | ((with_reducible apply does_gt); exact rfl; exact rfl) | ((with_reducible apply does_add); exact rfl; exact rfl; omega; omega) | ((with_reducible apply does_len_ow); exact tyOk rfl; exact rfl; exact rfl) | ((with_reducible apply does_nilCheck); exact rfl)) | ((with_reducible apply dr1); first | ((with_reducible apply does_box); exact rfl; exact rfl) | ((with_reducible apply does_buildSlice); exact tyOk rfl; exact rfl; exact tyOk rfl; exact rfl; exact rfl; (focus repeat' (first | exact trivial | refine And.intro rfl (And.intro rfl ?_))); decide; decide; exact rfl)) | ((with_reducible apply dr2); first | ((with_reducible apply does_callO1); exact rfl; exact rfl; exact rfl; exact (c1); (first | exact rfl | (simp; done) | (simp; omega)); exact rfl; decide; (conv => lhs; whnf)) | ((with_reducible apply does_callO1); exact rfl; exact rfl; exact rfl; exact (c2); (first | exact rfl | (simp; done) | (simp; omega)); exact rfl; decide; (conv => lhs; whnf)) | (exact does_slice_own (h := 2) (tyOk rfl) rfl (tyOk rfl) rfl rfl rfl ⟨_, _, rfl, rfl⟩ (Nat.le_of_ble_eq_true rfl) rfl rfl) | (exact does_append_own (tyOk rfl) rfl (tyOk rfl) rfl rfl rfl (by decide) (Nat.le_of_ble_eq_true rfl) (Nat.le_of_ble_eq_true rfl) rfl)) | ((with_reducible apply drN); ((with_reducible apply does_store); exact tyOk rfl; exact rfl; exact rfl; (conv => lhs; whnf); exact rfl; exact rfl; exact Nat.le_of_ble_eq_true rfl)) | ((with_reducible apply drL); (refine does_callG' [(1000, 1003), (1001, 68)] [(2000, 98)] (ups := [(98, .res (kidsR TQ [tp, tq, tr, ts, tt])), (1003, .dead), (68, .dead)]) (v := (.ow 98 (4 + 1))) rfl (c3) rfl ?_ rfl ?_ ?_ rfl rfl rfl rfl rfl ?_ ?_ rfl rfl rfl; (focus repeat' (first | exact trivial | exact rfl | refine And.intro ?_ ?_)); (focus repeat' (first | exact trivial | exact inB_ow rfl | refine And.intro ?_ ?_)); (focus repeat' (first | exact trivial | exact inB_ow rfl | refine And.intro ?_ ?_)); (focus repeat' (first | exact trivial | exact inB_ow rfl | refine And.intro ?_ ?_)); (focus repeat' (first | exact trivial | exact inB_ow rfl | refine And.intro ?_ ?_))); exact lapp_nil _) | ((with_reducible apply aw_cond); exact rfl; (focus (intro hd; (cases hd; done))); (intro hd; clear hd)) | ((with_reducible apply aw_cond); exact rfl; rotate_left; (focus (intro hd; (cases hd; done))); (intro hd; clear hd)))
  refine ⟨_, fun ps : {ps : List Value // ps.length = 5} => ⟨_, _⟩, fun C ac w h => ent_kopen (Q := TQ) (ts := [tp, tq, tr, ts, tt]) 98 2002 rfl rfl h, ?_⟩
  rintro ⟨ps, hps⟩
  dsimp only
  obtain ⟨p1, p2, p3, p4, p5, rfl⟩ := five hps
  have e3 : [p1, p2, p3, p4, p5].map ptrE = [ptrE p1, ptrE p2, ptrE p3, ptrE p4, ptrE p5] := rfl
  rw [e3]
  clear hps e3
  repeat (first | (refine aw_after (id := 16) mixed ?_; (with_reducible apply aw_reg)) | (with_reducible first | apply aw_seq | apply rp_nil | apply ae_norm | apply aw_regD) | ((with_reducible apply dr_nil); (first | kernel_rfl | exact rfl)) | ((with_reducible first | apply rp | apply dr); first | (exact does_slice_ov (k := 3) (m := 2) (tyOk rfl) rfl (tyOk rfl) rfl rfl rfl rfl (by decide) rfl) | ((with_reducible apply does_move); (conv => lhs; whnf)) | ((with_reducible apply does_fieldAddr); exact tyOk rfl; exact rfl; exact rfl; decide; exact rfl) | ((with_reducible apply does_load_var); exact tyOk rfl; exact rfl; exact rfl; exact rfl; exact rfl) | ((with_reducible apply does_add); exact rfl; exact rfl; omega; omega) | ((with_reducible apply does_nilCheck); exact rfl)) | ((with_reducible first | apply rp1 | apply dr1); (exact does_append_nil (tyOk rfl) rfl (tyOk rfl) rfl rfl (by decide) (Nat.le_of_ble_eq_true rfl) (Nat.le_of_ble_eq_true rfl) rfl)) | ((with_reducible apply rp2); (exact does_slice_own (h := 3) (tyOk rfl) rfl (tyOk rfl) rfl rfl rfl ⟨_, _, rfl, rfl⟩ (Nat.le_of_ble_eq_true rfl) rfl rfl)) | ((with_reducible first | apply rpN | apply drN); ((with_reducible apply does_store); exact tyOk rfl; exact rfl; exact rfl; (conv => lhs; whnf); exact rfl; exact rfl; exact Nat.le_of_ble_eq_true rfl)) | ((with_reducible apply aw_cond); exact rfl; rotate_left; (focus (intro hd; (cases hd; done))); (intro hd; clear hd)))
  refine after1 (fun C ac w h => ent_shut (Q := TQ) (ks := [a, b]) (vs := [x, y]) (ts := [tp, tq, tr]) 1000 158 164 197 rfl rfl rfl rfl (by decide) (ent_shut (Q := TQ) (ks := [d]) (vs := [u]) (ts := [ts, tt]) 150 139 148 187 rfl rfl rfl rfl (by decide) (ent_kshut (Q := TQ) (ts := [tp, tq, tr]) (ps := [p1, p2, p3]) 197 2002 rfl rfl (ent_kshut (Q := TQ) (ts := [ts, tt]) (ps := [p4, p5]) 187 2003 rfl rfl (ent_split (Q := TQ) (l1 := [tp, tq, tr]) (l2 := [ts, tt]) (p1 := [p1, p2, p3]) (p2 := [p4, p5]) 2002 2003 rfl rfl rfl h))))) ?_
  repeat (first | (with_reducible first | apply ae_norm | apply aw_ret | apply xg_ret))
  (with_reducible apply retg_ok (l := [(2000, 150)])); (focus (repeat' (first | (with_reducible apply rv_nil) | (with_reducible apply rv_cons) | ((with_reducible apply rv_tmp); exact rfl)))); rotate_left; refine ⟨(by repeat' (first | exact ks_nil | (refine ks_cons rfl (by exact SubA.refl _) ?_))), (by repeat' (first | exact trivial | exact rfl | refine And.intro ?_ ?_)), rfl, (by repeat' (first | exact trivial | exact inB_px rfl | refine And.intro ?_ ?_)), (by repeat' (first | exact trivial | exact inB_px rfl | refine And.intro ?_ ?_))⟩; refine SubA.of_eq ?_
  rfl
end Go.Proofs.Ytobgjkkadnihjaa

