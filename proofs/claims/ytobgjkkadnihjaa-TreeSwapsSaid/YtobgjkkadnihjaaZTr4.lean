/-
  put: at a node that has kids, of which one takes the key. No condition but the shape.
-/
import Derived.Test.YtobgjkkadnihjaaZTr3
namespace Go.Proofs.Ytobgjkkadnihjaa
set_option linter.unusedSimpArgs false
set_option linter.unusedVariables false
open Go.RowKit

theorem put_node_none (key : ByteArray) (val : Int) (ks : List ByteArray) (vs : List Int) (l1 l2 : List Tn) (t0 t1 : Tn) (hks : ks.length ≤ 3) (hb : (seekF key ks).2 = false) (h1 : l1.length = (seekF key ks).1) (ih : PutPG key val t0 (t1, none)) : PutPG key val (.node ks vs (l1 ++ t0 :: l2)) (.node ks vs (l1 ++ t1 :: l2), none) := by
  have s1 := seek_pc ks key (by omega)
  have hle := seekF_le key ks
  rw [hb] at s1
  generalize (seekF key ks).1 = i at *
  have hlt : i < (l1 ++ t0 :: l2).length := by rw [List.length_append, List.length_cons]; omega
  have hsome : (((l1 ++ t0 :: l2).length : Int) == 0) = false := by rw [beq_eq_false_iff_ne]; omega
  have hfew : decide ((ks.length : Int) ≤ 3) = true := decide_eq_true (by omega)
  have ih : PG _ _ _ _ _ (.tu [.d (strD ByteArray.empty), .d (iD 0), .d (.sc (.pointer none))]) [(1000, .res (treeR TQ t1))] [] := ih
  generalize hn : (l1 ++ t0 :: l2).length = n at *
  show PG _ _ _ _ _ (.tu [.d (strD ByteArray.empty), .d (iD 0), .d (.sc (.pointer none))]) _ []
  refine pg_of_aw Try.func29 rfl (by kernel_rfl) mixed (by kernel_rfl) (by rw [Try.ntmps29]; exact Nat.le_of_ble_eq_true rfl) Try.results29 rfl ?_
  repeat (with_reducible apply aw_seq)
  refine aw_exR1 mixed (fun C a w h => ent_open (Q := TQ) 1000 1001 1002 1003 rfl rfl rfl rfl (by decide) (by decide) (by decide) h) ?_
  rw [hn]
  repeat (first | (refine aw_after (id := 9) mixed ?_; (with_reducible apply aw_reg)) | (with_reducible first | apply aw_seq | apply aw_reg | apply rp_nil | apply ae_norm | apply aw_skip) | ((with_reducible apply rp); first | ((with_reducible apply does_call_flat); exact rfl; exact rfl; exact (s1); exact rfl) | (exact does_ne_nn ptrNode rfl rfl) | ((with_reducible apply does_move); (conv => lhs; whnf)) | ((with_reducible apply does_assign); (conv => lhs; whnf)) | ((with_reducible apply does_fieldAddr); exact tyOk rfl; exact rfl; exact rfl; decide; exact rfl) | ((with_reducible apply does_load_var); exact tyOk rfl; exact rfl; exact rfl; exact rfl; exact rfl) | ((with_reducible apply does_index_own); exact tyOk rfl; exact rfl; exact tyOk rfl; exact rfl; exact rfl; exact rfl; omega) | ((with_reducible apply does_eq); exact rfl; exact rfl) | ((with_reducible apply does_le); exact rfl; exact rfl) | ((with_reducible apply does_extract); exact rfl; exact rfl) | ((with_reducible apply does_extractA); exact rfl; exact rfl) | ((with_reducible apply does_len_ow); exact tyOk rfl; exact rfl; exact rfl) | ((with_reducible apply does_nilCheck); exact rfl)) | ((with_reducible apply rp2); (exact does_load_kid (Q := TQ) (tyOk rfl) rfl rfl rfl h1 rfl)) | ((with_reducible apply rpL); (refine does_callG' [(1000, 65)] [(1000, 65)] (ups := [(65, .res (treeR TQ t1))]) (v := (.tu [.d (strD ByteArray.empty), .d (iD 0), .d (.sc (.pointer none))])) rfl (ih) rfl ?_ rfl ?_ ?_ rfl rfl rfl rfl rfl ?_ ?_ rfl rfl rfl; (focus repeat' (first | exact trivial | exact rfl | refine And.intro ?_ ?_)); (focus repeat' (first | exact trivial | exact inB_px rfl | refine And.intro ?_ ?_)); (focus repeat' (first | exact trivial | exact inB_px rfl | refine And.intro ?_ ?_)); (focus repeat' (first | exact trivial | exact inB_px rfl | refine And.intro ?_ ?_)); (focus repeat' (first | exact trivial | exact inB_px rfl | refine And.intro ?_ ?_))); exact lapp_nil _) | ((with_reducible apply aw_cond); exact rfl; (focus (intro hd; (first | (cases hd; done) | (exfalso; simp at hd; omega)))); (intro hd; clear hd)))
  refine after1 (fun C a w h => ent_shut (Q := TQ) (ks := ks) (vs := vs) (ts := l1 ++ t1 :: l2) 1000 1001 1002 1003 rfl rfl rfl rfl (by decide) (ent_kback 1003 65 rfl rfl h)) ?_
  repeat (first | (with_reducible first | apply ae_norm | apply aw_ret | apply ae_ret | apply xg_ret) | ((with_reducible apply aw_cond); exact rfl; rotate_left; (focus (intro hd; (exfalso; simp at hd; omega))); (intro hd; clear hd)))
  (with_reducible apply retg_ok (l := [])); (focus (repeat' (first | (with_reducible apply rv_nil) | (with_reducible apply rv_cons) | ((with_reducible apply rv_tmp); exact rfl)))); rotate_left; refine ⟨(by repeat' (first | exact ks_nil | (refine ks_cons rfl (by exact SubA.refl _) ?_))), (by repeat' (first | exact trivial | exact rfl | refine And.intro ?_ ?_)), rfl, (by repeat' (first | exact trivial | exact inB_px rfl | refine And.intro ?_ ?_)), (by repeat' (first | exact trivial | exact inB_px rfl | refine And.intro ?_ ?_))⟩; refine SubA.of_eq ?_
  rfl
theorem put_node_few (key : ByteArray) (val : Int) (ks : List ByteArray) (vs : List Int) (l1 l2 : List Tn) (t0 t1 r : Tn) (m : ByteArray) (v : Int) (hlen : vs.length = ks.length) (hks : ks.length < 3) (hts : (l1 ++ t0 :: l2).length = ks.length + 1) (hb : (seekF key ks).2 = false) (h1 : l1.length = (seekF key ks).1) (ih : PutPG key val t0 (t1, some (m, v, r))) :
    PutPG key val (.node ks vs (l1 ++ t0 :: l2)) (.node (insL ks (seekF key ks).1 m) (insL vs (seekF key ks).1 v) (insL (l1 ++ t1 :: l2) ((seekF key ks).1 + 1) r), none) := by
  have s1 := seek_pc ks key (by omega)
  have hle := seekF_le key ks
  rw [hb] at s1
  generalize (seekF key ks).1 = i at *
  have hlt : i < (l1 ++ t0 :: l2).length := by rw [List.length_append, List.length_cons]; omega
  have hsome : (((l1 ++ t0 :: l2).length : Int) == 0) = false := by rw [beq_eq_false_iff_ne]; omega
  have ih : PG _ _ _ _ _ (.tu [.d (strD m), .d (iD v), .px 2000 0]) [(1000, .res (treeR TQ t1))] [(2000, .res (treeR TQ r))] := ih
  have c1 := insS_pco ks i m hle (by omega)
  have c2 := insI_pco vs i v (by omega) (by omega)
  have hts1 : (l1 ++ t1 :: l2).length = (l1 ++ t0 :: l2).length := by rw [List.length_append, List.length_append, List.length_cons, List.length_cons]
  have c3 := insK_pg (l1 ++ t1 :: l2) (i + 1) r (by omega) (by omega)
  have q1 := insL_len ks i m hle
  rw [hts1] at c3
  generalize hk2 : insL ks i m = ks2 at *
  generalize hv2 : insL vs i v = vs2 at *
  generalize ht2 : insL (l1 ++ t1 :: l2) (i + 1) r = ts2 at *
  have hfew : decide (((ks2.map strE).length : Int) ≤ 3) = true := decide_eq_true (by rw [List.length_map]; omega)
  have hadd : ((i : Nat) : Int) + 1 = ((i + 1 : Nat) : Int) := by omega
  generalize hn : (l1 ++ t0 :: l2).length = n at *
  show PG _ _ _ _ _ (.tu [.d (strD ByteArray.empty), .d (iD 0), .d (.sc (.pointer none))]) _ []
  refine pg_of_aw Try.func29 rfl (by kernel_rfl) mixed (by kernel_rfl) (by rw [Try.ntmps29]; exact Nat.le_of_ble_eq_true rfl) Try.results29 rfl ?_
  repeat (with_reducible apply aw_seq)
  refine aw_exR1 mixed (fun C a w h => ent_open (Q := TQ) 1000 1001 1002 1003 rfl rfl rfl rfl (by decide) (by decide) (by decide) h) ?_
  rw [hn]
  repeat (first | (refine aw_after (id := 7) mixed ?_; (with_reducible apply aw_reg)) | (with_reducible first | apply aw_seq | apply aw_reg | apply rp_nil | apply ae_norm | apply aw_skip) | ((with_reducible apply rp); first | ((with_reducible apply does_call_flat); exact rfl; exact rfl; exact (s1); exact rfl) | (exact does_ne_px ptrNode rfl rfl) | ((with_reducible apply does_move); (conv => lhs; whnf)) | ((with_reducible apply does_assign); (conv => lhs; whnf)) | ((with_reducible apply does_fieldAddr); exact tyOk rfl; exact rfl; exact rfl; decide; exact rfl) | ((with_reducible apply does_load_var); exact tyOk rfl; exact rfl; exact rfl; exact rfl; exact rfl) | ((with_reducible apply does_index_own); exact tyOk rfl; exact rfl; exact tyOk rfl; exact rfl; exact rfl; exact rfl; omega) | ((with_reducible apply does_eq); exact rfl; exact rfl) | ((with_reducible apply does_extract); exact rfl; exact rfl) | ((with_reducible apply does_extractA); exact rfl; exact rfl) | ((with_reducible apply does_len_ow); exact tyOk rfl; exact rfl; exact rfl) | ((with_reducible apply does_nilCheck); exact rfl)) | ((with_reducible apply rp2); (exact does_load_kid (Q := TQ) (tyOk rfl) rfl rfl rfl h1 rfl)) | ((with_reducible apply rpL); (refine does_callG' [(1000, 65)] [(1000, 65), (2000, 68)] (ups := [(65, .res (treeR TQ t1)), (68, .res (treeR TQ r))]) (v := (.tu [.d (strD m), .d (iD v), .px 68 0])) rfl (ih) rfl ?_ rfl ?_ ?_ rfl rfl rfl rfl rfl ?_ ?_ rfl rfl rfl; (focus repeat' (first | exact trivial | exact rfl | refine And.intro ?_ ?_)); (focus repeat' (first | exact trivial | exact inB_px rfl | refine And.intro ?_ ?_)); (focus repeat' (first | exact trivial | exact inB_px rfl | refine And.intro ?_ ?_)); (focus repeat' (first | exact trivial | exact inB_px rfl | refine And.intro ?_ ?_)); (focus repeat' (first | exact trivial | exact inB_px rfl | refine And.intro ?_ ?_))); exact lapp_nil _) | ((with_reducible apply aw_cond); exact rfl; (focus (intro hd; (first | (cases hd; done) | (exfalso; simp at hd; omega)))); (intro hd; clear hd)))
  refine ⟨_, fun p : {p : Value // ∃ g : Nat, p = .pointer (some ⟨g, 0, none⟩)} => ⟨_, _⟩, fun C a w h => ent_fone (Q := TQ) 13 68 rfl rfl (ent_kback 1003 65 rfl rfl h), ?_⟩
  rintro ⟨p, hp⟩
  dsimp only
  clear hp
  have c3 := c3 p
  repeat (first | (refine aw_after (id := 9) mixed ?_; (with_reducible apply aw_reg)) | (with_reducible first | apply rp_nil | apply ae_norm | apply aw_regD) | ((with_reducible apply dr_nil); (first | kernel_rfl | exact rfl)) | ((with_reducible first | apply rp | apply dr); first | (exact does_add_to rfl rfl hadd (by omega) (by omega)) | ((with_reducible apply does_move); (conv => lhs; whnf)) | ((with_reducible apply does_fieldAddr); exact tyOk rfl; exact rfl; exact rfl; decide; exact rfl) | ((with_reducible apply does_load_var); exact tyOk rfl; exact rfl; exact rfl; exact rfl; exact rfl) | ((with_reducible apply does_le); exact rfl; exact rfl) | ((with_reducible apply does_len_ow); exact tyOk rfl; exact rfl; exact rfl) | ((with_reducible apply does_nilCheck); exact rfl)) | ((with_reducible apply dr2); first | ((with_reducible apply does_callO1); exact rfl; exact rfl; exact rfl; exact (c1); (first | exact rfl | (simp; done) | (simp; omega)); exact rfl; decide; (conv => lhs; whnf)) | ((with_reducible apply does_callO1); exact rfl; exact rfl; exact rfl; exact (c2); (first | exact rfl | (simp; done) | (simp; omega)); exact rfl; decide; (conv => lhs; whnf))) | ((with_reducible apply drN); ((with_reducible apply does_store); exact tyOk rfl; exact rfl; exact rfl; (conv => lhs; whnf); exact rfl; exact rfl; exact Nat.le_of_ble_eq_true rfl)) | ((with_reducible apply drL); (refine does_callG' [(1000, 1003), (1001, 68)] [(2000, 98)] (ups := [(98, .res (kidsR TQ ts2)), (1003, .dead), (68, .dead)]) (v := (.ow 98 (n + 1))) rfl (c3) rfl ?_ rfl ?_ ?_ rfl rfl rfl rfl rfl ?_ ?_ rfl rfl rfl; (focus repeat' (first | exact trivial | exact rfl | refine And.intro ?_ ?_)); (focus repeat' (first | exact trivial | exact inB_ow rfl | refine And.intro ?_ ?_)); (focus repeat' (first | exact trivial | exact inB_ow rfl | refine And.intro ?_ ?_)); (focus repeat' (first | exact trivial | exact inB_ow rfl | refine And.intro ?_ ?_)); (focus repeat' (first | exact trivial | exact inB_ow rfl | refine And.intro ?_ ?_))); exact lapp_nil _) | ((with_reducible apply aw_cond); exact rfl; rotate_left; (focus (intro hd; (cases hd; done))); (intro hd; clear hd)))
  refine after1 (fun C a w h => ent_shut (Q := TQ) (ks := ks2) (vs := vs2) (ts := ts2) 1000 83 90 98 rfl rfl rfl rfl (by decide) h) ?_
  repeat (first | (with_reducible apply ae_norm))
  refine aw_cond rfl (fun _ => ?_) (fun hd => absurd (hfew.symm.trans hd) (by decide))
  repeat (first | (with_reducible first | apply aw_ret | apply ae_ret | apply xg_ret))
  (with_reducible apply retg_ok (l := [])); (focus (repeat' (first | (with_reducible apply rv_nil) | (with_reducible apply rv_cons) | ((with_reducible apply rv_tmp); exact rfl)))); rotate_left; refine ⟨(by repeat' (first | exact ks_nil | (refine ks_cons rfl (by exact SubA.refl _) ?_))), (by repeat' (first | exact trivial | exact rfl | refine And.intro ?_ ?_)), rfl, (by repeat' (first | exact trivial | exact inB_px rfl | refine And.intro ?_ ?_)), (by repeat' (first | exact trivial | exact inB_px rfl | refine And.intro ?_ ?_))⟩; refine SubA.of_eq ?_
  rfl
end Go.Proofs.Ytobgjkkadnihjaa

