/-
  put: a key that is there; a leaf. No condition but the shape.
-/
import Derived.Test.YtobgjkkadnihjaaZTrF
namespace Go.Proofs.Ytobgjkkadnihjaa
set_option linter.unusedSimpArgs false
set_option linter.unusedVariables false
open Go.RowKit

def outA : Option (ByteArray × Int × Tn) → A
  | none => .tu [.d (strD ByteArray.empty), .d (iD 0), .d (.sc (.pointer none))]
  | some (m, v, r) => .tu [.d (strD m), .d (iD v), .px 2000 0]
def outB : Option (ByteArray × Int × Tn) → Bx
  | none => []
  | some (m, v, r) => [(2000, .res (treeR TQ r))]
abbrev PutPG (key : ByteArray) (val : Int) (t : Tn) (o : Tn × Option (ByteArray × Int × Tn)) : Prop :=
  PG Try.prog 29 [.px 1000 0, .d (strD key), .d (iD val)] [(1000, .res (treeR TQ t))] [] (outA o.2) [(1000, .res (treeR TQ o.1))] (outB o.2)
theorem put_there (key : ByteArray) (val : Int) (ks : List ByteArray) (vs : List Int) (ts : List Tn) (hlen : vs.length = ks.length) (hks : ks.length ≤ 3) (hb : (seekF key ks).2 = true) : PutPG key val (.node ks vs ts) (.node ks (vs.set (seekF key ks).1 val) ts, none) := by
  have s1 := seek_pc ks key (by omega)
  have hlt := seekF_lt key ks hb
  rw [hb] at s1
  generalize (seekF key ks).1 = i at *
  obtain ⟨v0, hv0⟩ : ∃ v, vs[i]? = some v := ⟨_, List.getElem?_eq_getElem (by omega)⟩
  show PG _ _ _ _ _ (.tu [.d (strD ByteArray.empty), .d (iD 0), .d (.sc (.pointer none))]) _ []
  refine pg_of_aw Try.func29 rfl (by kernel_rfl) mixed (by kernel_rfl) (by rw [Try.ntmps29]; exact Nat.le_of_ble_eq_true rfl) Try.results29 rfl ?_
  repeat (with_reducible apply aw_seq)
  refine aw_exR1 mixed (fun C a w h => ent_open (Q := TQ) 1000 1001 1002 1003 rfl rfl rfl rfl (by decide) (by decide) (by decide) h) ?_
  repeat (first | (refine aw_after (id := 3) mixed ?_; (with_reducible apply aw_reg)) | (with_reducible first | apply aw_seq | apply aw_reg | apply rp_nil | apply ae_norm) | ((with_reducible apply rp); first | ((with_reducible apply does_call_flat); exact rfl; exact rfl; exact (s1); exact rfl) | ((with_reducible apply does_move); (conv => lhs; whnf)) | ((with_reducible apply does_assign); (conv => lhs; whnf)) | ((with_reducible apply does_fieldAddr); exact tyOk rfl; exact rfl; exact rfl; decide; exact rfl) | ((with_reducible apply does_load_var); exact tyOk rfl; exact rfl; exact rfl; exact rfl; exact rfl) | ((with_reducible apply does_index_own); exact tyOk rfl; exact rfl; exact tyOk rfl; exact rfl; exact rfl; exact rfl; omega) | ((with_reducible apply does_extract); exact rfl; exact rfl) | ((with_reducible apply does_nilCheck); exact rfl)) | ((with_reducible apply rpN); ((with_reducible apply does_store_own); exact tyOk rfl; exact rfl; exact rfl; exact rfl; exact rfl; exact map_get (by assumption); exact rfl; exact Nat.le_of_ble_eq_true rfl)) | ((with_reducible apply aw_cond); exact rfl; rotate_left; (focus (intro hd; (cases hd; done))); (intro hd; clear hd)))
  have hset : (vs.map intE).set i [iD val] = (vs.set i val).map intE := List.map_set.symm
  refine after1 (fun C a w h => ent_shut (Q := TQ) (ks := ks) (vs := vs.set i val) (ts := ts) 1000 1001 1002 1003 rfl rfl (by rw [← hset]; rfl) rfl (by decide) h) ?_
  repeat (first | (with_reducible first | apply ae_norm | apply aw_ret | apply ae_ret | apply xg_ret))
  (with_reducible apply retg_ok (l := [])); (focus (repeat' (first | (with_reducible apply rv_nil) | (with_reducible apply rv_cons) | ((with_reducible apply rv_tmp); exact rfl)))); rotate_left; refine ⟨(by repeat' (first | exact ks_nil | (refine ks_cons rfl (by exact SubA.refl _) ?_))), (by repeat' (first | exact trivial | exact rfl | refine And.intro ?_ ?_)), rfl, (by repeat' (first | exact trivial | exact inB_px rfl | refine And.intro ?_ ?_)), (by repeat' (first | exact trivial | exact inB_px rfl | refine And.intro ?_ ?_))⟩; refine SubA.of_eq ?_
  rfl
theorem put_leaf_few (key : ByteArray) (val : Int) (ks : List ByteArray) (vs : List Int) (hlen : vs.length = ks.length) (hks : ks.length < 3) (hb : (seekF key ks).2 = false) : PutPG key val (.node ks vs []) (.node (insL ks (seekF key ks).1 key) (insL vs (seekF key ks).1 val) [], none) := by
  have s1 := seek_pc ks key (by omega)
  have hle := seekF_le key ks
  rw [hb] at s1
  generalize (seekF key ks).1 = i at *
  have c1 := insS_pco ks i key hle (by omega)
  have c2 := insI_pco vs i val (by omega) (by omega)
  have l1 := insL_len ks i key hle
  have l2 := insL_len vs i val (by omega)
  generalize insL ks i key = ks2 at *
  generalize insL vs i val = vs2 at *
  have hfew : decide (((ks2.map strE).length : Int) ≤ 3) = true := decide_eq_true (by rw [List.length_map]; omega)
  show PG _ _ _ _ _ (.tu [.d (strD ByteArray.empty), .d (iD 0), .d (.sc (.pointer none))]) _ []
  refine pg_of_aw Try.func29 rfl (by kernel_rfl) mixed (by kernel_rfl) (by rw [Try.ntmps29]; exact Nat.le_of_ble_eq_true rfl) Try.results29 rfl ?_
  repeat (with_reducible apply aw_seq)
  refine aw_exR1 mixed (fun C a w h => ent_open (Q := TQ) 1000 1001 1002 1003 rfl rfl rfl rfl (by decide) (by decide) (by decide) h) ?_
  repeat (first | (refine aw_after (id := 9) mixed ?_; (with_reducible apply aw_reg)) | (with_reducible first | apply aw_seq | apply aw_reg | apply rp_nil | apply ae_norm | apply aw_regD | apply aw_skip) | ((with_reducible apply dr_nil); (first | kernel_rfl | exact rfl)) | ((with_reducible first | apply rp | apply dr); first | ((with_reducible apply does_call_flat); exact rfl; exact rfl; exact (s1); exact rfl) | ((with_reducible apply does_move); (conv => lhs; whnf)) | ((with_reducible apply does_assign); (conv => lhs; whnf)) | ((with_reducible apply does_fieldAddr); exact tyOk rfl; exact rfl; exact rfl; decide; exact rfl) | ((with_reducible apply does_load_var); exact tyOk rfl; exact rfl; exact rfl; exact rfl; exact rfl) | ((with_reducible apply does_eq); exact rfl; exact rfl) | ((with_reducible apply does_le); exact rfl; exact rfl) | ((with_reducible apply does_extract); exact rfl; exact rfl) | ((with_reducible apply does_len_ow); exact tyOk rfl; exact rfl; exact rfl) | ((with_reducible apply does_nilCheck); exact rfl)) | ((with_reducible apply dr2); first | ((with_reducible apply does_callO1); exact rfl; exact rfl; exact rfl; exact (c1); (first | exact rfl | (simp; done) | (simp; omega)); exact rfl; decide; (conv => lhs; whnf)) | ((with_reducible apply does_callO1); exact rfl; exact rfl; exact rfl; exact (c2); (first | exact rfl | (simp; done) | (simp; omega)); exact rfl; decide; (conv => lhs; whnf))) | ((with_reducible apply drN); ((with_reducible apply does_store); exact tyOk rfl; exact rfl; exact rfl; (conv => lhs; whnf); exact rfl; exact rfl; exact Nat.le_of_ble_eq_true rfl)) | ((with_reducible apply aw_cond); exact rfl; (focus (intro hd; (cases hd; done))); (intro hd; clear hd)) | ((with_reducible apply aw_cond); exact rfl; rotate_left; (focus (intro hd; (cases hd; done))); (intro hd; clear hd)))
  refine after1 (fun C a w h => ent_shut (Q := TQ) (ks := ks2) (vs := vs2) (ts := []) 1000 46 53 1003 rfl rfl rfl rfl (by decide) h) ?_
  repeat (first | (with_reducible apply ae_norm))
  refine aw_cond rfl (fun _ => ?_) (fun hd => absurd (hfew.symm.trans hd) (by decide))
  repeat (first | (with_reducible first | apply aw_ret | apply ae_ret | apply xg_ret))
  (with_reducible apply retg_ok (l := [])); (focus (repeat' (first | (with_reducible apply rv_nil) | (with_reducible apply rv_cons) | ((with_reducible apply rv_tmp); exact rfl)))); rotate_left; refine ⟨(by repeat' (first | exact ks_nil | (refine ks_cons rfl (by exact SubA.refl _) ?_))), (by repeat' (first | exact trivial | exact rfl | refine And.intro ?_ ?_)), rfl, (by repeat' (first | exact trivial | exact inB_px rfl | refine And.intro ?_ ?_)), (by repeat' (first | exact trivial | exact inB_px rfl | refine And.intro ?_ ?_))⟩; refine SubA.of_eq ?_
  rfl
set_option maxHeartbeats 4000000 in
theorem put_leaf_cut (key : ByteArray) (val : Int) (ks : List ByteArray) (vs : List Int) (hlen : vs.length = ks.length) (hks : ks.length = 3) (hb : (seekF key ks).2 = false) : PutPG key val (.node ks vs []) (splitN (insL ks (seekF key ks).1 key) (insL vs (seekF key ks).1 val) []) := by
  have s1 := seek_pc ks key (by omega)
  have hle := seekF_le key ks
  rw [hb] at s1
  generalize (seekF key ks).1 = i at *
  have c1 := insS_pco ks i key hle (by omega)
  have c2 := insI_pco vs i val (by omega) (by omega)
  have l1 := insL_len ks i key hle
  have l2 := insL_len vs i val (by omega)
  generalize insL ks i key = ks2 at *
  generalize insL vs i val = vs2 at *
  obtain ⟨a, b, c, d, rfl⟩ := four (l1.trans (by omega))
  obtain ⟨x, y, z, u, rfl⟩ := four (l2.trans (by omega))
  have e1 : [a, b, c, d].map strE = [strE a, strE b, strE c, strE d] := rfl
  have e2 : [x, y, z, u].map intE = [intE x, intE y, intE z, intE u] := rfl
  rw [e1] at c1
  rw [e2] at c2
  clear l1 l2 e1 e2
  show PG _ _ _ _ _ (.tu [.d (strD c), .d (iD z), .px 2000 0]) [(1000, .res (treeR TQ (.node [a, b] [x, y] [])))] [(2000, .res (treeR TQ (.node [d] [u] [])))]
  refine pg_of_aw Try.func29 rfl (by kernel_rfl) mixed (by kernel_rfl) (by rw [Try.ntmps29]; exact Nat.le_of_ble_eq_true rfl) Try.results29 rfl ?_
  repeat (with_reducible apply aw_seq)
  refine aw_exR1 mixed (fun C a w h => ent_open (Q := TQ) 1000 1001 1002 1003 rfl rfl rfl rfl (by decide) (by decide) (by decide) h) ?_
  repeat (first | (refine aw_after (id := 14) mixed ?_; (with_reducible apply aw_reg)) | (with_reducible first | apply aw_seq | apply aw_reg | apply rp_nil | apply ae_norm | apply aw_regD | apply aw_skip) | ((with_reducible apply dr_nil); (first | kernel_rfl | exact rfl)) | ((with_reducible first | apply rp | apply dr); first | ((with_reducible apply does_call_flat); exact rfl; exact rfl; exact (s1); exact rfl) | (exact does_quo_to (m := 4) (n := 2) (k := 2) rfl rfl rfl (by decide) (by decide)) | (exact does_slice_ov (k := 3) (m := 1) (tyOk rfl) rfl (tyOk rfl) rfl rfl rfl rfl (by decide) rfl) | (exact (by (with_reducible apply does_build_own (out := [.ow 139 _, .ow 148 _, .d .nl])); exact tyOk rfl; exact rfl; exact rfl; (focus repeat' (first | exact rfl | refine ⟨_, _, rfl, rfl, Nat.le_of_ble_eq_true rfl, rfl, ?_⟩)))) | ((with_reducible apply does_move); (conv => lhs; whnf)) | ((with_reducible apply does_assign); (conv => lhs; whnf)) | ((with_reducible apply does_fieldAddr); exact tyOk rfl; exact rfl; exact rfl; decide; exact rfl) | ((with_reducible apply does_load_var); exact tyOk rfl; exact rfl; exact rfl; exact rfl; exact rfl) | ((with_reducible apply does_load_own); exact tyOk rfl; exact rfl; exact rfl; exact rfl; exact rfl; exact rfl) | ((with_reducible apply does_index_own); exact tyOk rfl; exact rfl; exact tyOk rfl; exact rfl; exact rfl; exact rfl; (simp only [List.length_map, List.length_append, List.length_cons, List.length_nil] at *; omega)) | ((with_reducible apply does_eq); exact rfl; exact rfl) | ((with_reducible apply does_le); exact rfl; exact rfl) | ((with_reducible apply does_gt); exact rfl; exact rfl) | ((with_reducible apply does_add); exact rfl; exact rfl; omega; omega) | ((with_reducible apply does_extract); exact rfl; exact rfl) | ((with_reducible apply does_len_ow); exact tyOk rfl; exact rfl; exact rfl) | ((with_reducible apply does_nilCheck); exact rfl)) | ((with_reducible apply dr1); first | ((with_reducible apply does_box); exact rfl; exact rfl) | ((with_reducible apply does_buildSlice); exact tyOk rfl; exact rfl; exact tyOk rfl; exact rfl; exact rfl; (focus repeat' (first | exact trivial | refine And.intro rfl (And.intro rfl ?_))); decide; decide; exact rfl)) | ((with_reducible apply dr2); first | ((with_reducible apply does_callO1); exact rfl; exact rfl; exact rfl; exact (c1); (first | exact rfl | (simp; done) | (simp; omega)); exact rfl; decide; (conv => lhs; whnf)) | ((with_reducible apply does_callO1); exact rfl; exact rfl; exact rfl; exact (c2); (first | exact rfl | (simp; done) | (simp; omega)); exact rfl; decide; (conv => lhs; whnf)) | (exact does_slice_own (h := 2) (tyOk rfl) rfl (tyOk rfl) rfl rfl rfl ⟨_, _, rfl, rfl⟩ (Nat.le_of_ble_eq_true rfl) rfl rfl) | (exact does_append_own (tyOk rfl) rfl (tyOk rfl) rfl rfl rfl (by decide) (Nat.le_of_ble_eq_true rfl) (Nat.le_of_ble_eq_true rfl) rfl)) | ((with_reducible apply drN); ((with_reducible apply does_store); exact tyOk rfl; exact rfl; exact rfl; (conv => lhs; whnf); exact rfl; exact rfl; exact Nat.le_of_ble_eq_true rfl)) | ((with_reducible apply aw_cond); exact rfl; (focus (intro hd; (cases hd; done))); (intro hd; clear hd)) | ((with_reducible apply aw_cond); exact rfl; rotate_left; (focus (intro hd; (cases hd; done))); (intro hd; clear hd)))
  refine after1 (fun C ac w h => ent_shut (Q := TQ) (ks := [a, b]) (vs := [x, y]) (ts := []) 1000 158 164 1003 rfl rfl rfl rfl (by decide) (ent_shut (Q := TQ) (ks := [d]) (vs := [u]) (ts := []) 150 139 148 2001 rfl rfl rfl rfl (by decide) (ent_knil (Q := TQ) 150 2001 rfl rfl h))) ?_
  refine aw_cond rfl (fun hd => absurd hd (by decide)) (fun _ => ?_)
  repeat (first | (with_reducible first | apply ae_norm | apply aw_ret | apply xg_ret | apply aw_skip))
  (with_reducible apply retg_ok (l := [(2000, 150)])); (focus (repeat' (first | (with_reducible apply rv_nil) | (with_reducible apply rv_cons) | ((with_reducible apply rv_tmp); exact rfl)))); rotate_left; refine ⟨(by repeat' (first | exact ks_nil | (refine ks_cons rfl (by exact SubA.refl _) ?_))), (by repeat' (first | exact trivial | exact rfl | refine And.intro ?_ ?_)), rfl, (by repeat' (first | exact trivial | exact inB_px rfl | refine And.intro ?_ ?_)), (by repeat' (first | exact trivial | exact inB_px rfl | refine And.intro ?_ ?_))⟩; refine SubA.of_eq ?_
  rfl
end Go.Proofs.Ytobgjkkadnihjaa

