/-
  each: with the closure of one caller. No condition but the shape.
-/
import Derived.Test.YtfplkakfakdfhaaDoorZM15
import Derived.Test.YtfplkakfakdfhaaDoorZM14
namespace Go.Proofs.YtfplkakfakdfhaaDoor
set_option linter.unusedSimpArgs false
set_option linter.unusedVariables false
open Go.RowKit

abbrev EachPX_r (s0 : Bool × Bool × ByteArray) (t : Tn) (s9 : Bool × Bool × ByteArray) : Prop :=
  PX Tryd.prog 25 [.px 1000 0, .fn (.func 32) [] [.px 1001 0, .px 1002 0, .px 1003 0]] [(1000, .res (treeR TQ t)), (1001, .var 4 [.d (bD (s0).1)]), (1002, .var 4 [.d (bD (s0).2.1)]), (1003, .var 9 [.d (strD (s0).2.2)])] [] (.tu []) [(1000, .res (treeR TQ t)), (1001, .var 4 [.d (bD (s9).1)]), (1002, .var 4 [.d (bD (s9).2.1)]), (1003, .var 9 [.d (strD (s9).2.2)])] []
theorem each_r_leaf (s0 s9 : Bool × Bool × ByteArray) (ks : List ByteArray) (vs : List Int) (hks : ks.length ≤ 3) (hvs : vs.length = ks.length) (hI : (fun (_ : Bool × Bool × ByteArray) (_ : List (ByteArray × Int)) => True) s0 (ks.zip vs)) (hF : foldS (fun (s : Bool × Bool × ByteArray) (k : ByteArray) (_ : Int) => rise s k) s0 (ks.zip vs) = s9) : EachPX_r s0 (.node ks vs []) s9 := by
  unfold EachPX_r
  have hstep : ∀ s k v r, (fun (_ : Bool × Bool × ByteArray) (_ : List (ByteArray × Int)) => True) s ((k, v) :: r) → (fun (_ : Bool × Bool × ByteArray) (_ : List (ByteArray × Int)) => True) ((fun (s : Bool × Bool × ByteArray) (k : ByteArray) (_ : Int) => rise s k) s k v) r := fun _ _ _ _ _ => trivial
  refine pxf_of_aw Tryd.func25 rfl (by kernel_rfl) mixed (by kernel_rfl) (by rw [Tryd.ntmps25]; exact Nat.le_of_ble_eq_true rfl) Tryd.results25 rfl ?_
  repeat (with_reducible apply aw_seq)
  repeat (first | (refine aw_exR1 (id := 1) mixed (fun C ac w h => ent_open (Q := TQ) 1000 3001 3002 3003 rfl rfl rfl rfl (by decide) (by decide) (by decide) h) ?_; (with_reducible apply aw_reg)) | (with_reducible first | apply aw_reg | apply rp_nil | apply ae_norm | apply aw_block) | ((with_reducible apply rp); first | (exact does_eq_px ptrNode rfl rfl) | ((with_reducible apply does_move); (conv => lhs; whnf)) | ((with_reducible apply does_fieldAddr); exact tyOk rfl; exact rfl; exact rfl; decide; exact rfl) | ((with_reducible apply does_load_var); exact tyOk rfl; exact rfl; exact rfl; exact rfl; exact rfl) | ((with_reducible apply does_len_ow); exact tyOk rfl; exact rfl; exact rfl) | ((with_reducible apply does_nilCheck); exact rfl)) | ((with_reducible apply aw_cond); exact rfl; (focus (intro hd; (cases hd; done))); (intro hd; clear hd)))
  refine aw_loop (fun n s => ∃ k st, k ≤ ks.length ∧ n = ks.length - k ∧ foldS (fun (s : Bool × Bool × ByteArray) (k : ByteArray) (_ : Int) => rise s k) st ((ks.zip vs).drop k) = s9 ∧ (fun (_ : Bool × Bool × ByteArray) (_ : List (ByteArray × Int)) => True) st ((ks.zip vs).drop k) ∧
      s = ⟨[(0, .px 1000 0), (1, .fn (.func 32) [] [.px 1001 0, .px 1002 0, .px 1003 0]), (11, .ow 3001 ks.length), (12, .d (iD ks.length)), (13, .d (iD k))], [(1000, .var TQ.T [.ow 3001 ks.length, .ow 3002 vs.length, .ow 3003 ([] : List Tn).length]), (3001, .row TQ.K 1 (ks.map strE)), (3002, .row TQ.V 1 (vs.map intE)), (3003, .res (kidsR TQ [])), (1001, .var 4 [.d (bD (st).1)]), (1002, .var 4 [.d (bD (st).2.1)]), (1003, .var 9 [.d (strD (st).2.2)])]⟩) _ _ ?_ ⟨0, s0, by omega, rfl, hF, hI, rfl⟩ ?_
  · refine forget_of [] (by repeat' (first | exact ks_nil | (refine ks_cons rfl (by exact SubA.refl _) ?_))) (by repeat' (first | exact trivial | exact rfl | refine And.intro ?_ ?_)) rfl (by repeat' (first | exact trivial | exact inB_ow rfl | exact inB_px rfl | refine And.intro ?_ ?_)) (by repeat' (first | exact trivial | exact inB_ow rfl | exact inB_px rfl | refine And.intro ?_ ?_))
  · rintro n s1 ⟨k, st, hk, rfl, hf, hi, rfl⟩
    repeat (first | (with_reducible first | apply aw_seq | apply aw_reg | apply rp_nil | apply ae_norm) | ((with_reducible apply rp); ((with_reducible apply does_lt); exact rfl; exact rfl)))
    refine aw_cond rfl (fun hd => ?_) (fun hd => ?_)
    · have hlt : k < ks.length := by simpa using hd
      obtain ⟨key, hg⟩ : ∃ g, ks[k]? = some g := ⟨_, List.getElem?_eq_getElem hlt⟩
      obtain ⟨v, hv⟩ : ∃ g, vs[k]? = some g := ⟨_, List.getElem?_eq_getElem (by omega)⟩
      rw [leaf_step hg hv] at hf
      try rw [leaf_step hg hv] at hi
      have c1 := rise_px key v st.1 st.2.1 st.2.2
      repeat (first | (with_reducible first | apply aw_seq | apply aw_reg | apply rp_nil | apply ae_norm | apply aw_block | apply be_norm | apply aw_skip) | ((with_reducible apply rp); first | ((with_reducible apply does_move); (conv => lhs; whnf)) | ((with_reducible apply does_assign); (conv => lhs; whnf)) | ((with_reducible apply does_fieldAddr); exact tyOk rfl; exact rfl; exact rfl; decide; exact rfl) | ((with_reducible apply does_load_var); exact tyOk rfl; exact rfl; exact rfl; exact rfl; exact rfl) | ((with_reducible apply does_load_own); exact tyOk rfl; exact rfl; exact rfl; exact rfl; exact map_get (by assumption); exact rfl) | ((with_reducible apply does_index_own); exact tyOk rfl; exact rfl; exact tyOk rfl; exact rfl; exact rfl; exact rfl; omega) | ((with_reducible apply does_gt); exact rfl; exact rfl) | ((with_reducible apply does_add); exact rfl; exact rfl; omega; omega) | ((with_reducible apply does_len_ow); exact tyOk rfl; exact rfl; exact rfl) | ((with_reducible apply does_nilCheck); exact rfl)) | ((with_reducible apply rpL); (refine does_callX [] [] (ups := [(1001, .var 4 [.d (bD (rise st key).1)]), (1002, .var 4 [.d (bD (rise st key).2.1)]), (1003, .var 9 [.d (strD (rise st key).2.2)])]) rfl (c1) rfl ?_ rfl ?_ ?_ rfl rfl rfl rfl rfl ?_ rfl rfl; (focus repeat' (first | exact trivial | exact rfl | refine And.intro ?_ ?_)); (focus repeat' (first | exact trivial | exact inB_px rfl | refine And.intro ?_ ?_)); (focus repeat' (first | exact trivial | exact inB_px rfl | refine And.intro ?_ ?_)); (focus repeat' (first | exact trivial | exact inB_px rfl | refine And.intro ?_ ?_))); exact lapp_nil _) | ((with_reducible apply aw_cond); exact rfl; (focus (intro hd; (cases hd; done))); (intro hd; clear hd)))
      refine ⟨ks.length - (k + 1), _, by omega, ?_, k + 1, rise st key, by omega, rfl, hf, hstep st key v ((ks.zip vs).drop (k + 1)) hi, rfl⟩
      refine forget_of [] (by repeat' (first | exact ks_nil | (refine ks_cons rfl (by exact SubA.refl _) ?_))) (by repeat' (first | exact trivial | exact rfl | refine And.intro ?_ ?_)) rfl (by repeat' (first | exact trivial | exact inB_ow rfl | exact inB_px rfl | refine And.intro ?_ ?_)) (by repeat' (first | exact trivial | exact inB_ow rfl | exact inB_px rfl | refine And.intro ?_ ?_))
    · have hkl : k = ks.length := by simp at hd; omega
      subst hkl
      rw [leaf_end hvs] at hf
      have hf : st = s9 := hf
      subst hf
      repeat (first | (refine aw_after (id := 8) mixed ?_; (with_reducible apply aw_reg)) | (with_reducible apply rp_nil) | ((with_reducible apply rp); first | ((with_reducible apply does_move); (conv => lhs; whnf)) | ((with_reducible apply does_fieldAddr); exact tyOk rfl; exact rfl; exact rfl; decide; exact rfl) | ((with_reducible apply does_load_var); exact tyOk rfl; exact rfl; exact rfl; exact rfl; exact rfl) | ((with_reducible apply does_gt); exact rfl; exact rfl) | ((with_reducible apply does_len_ow); exact tyOk rfl; exact rfl; exact rfl) | ((with_reducible apply does_nilCheck); exact rfl)))
      refine after1 (fun C ac w h => ent_shut (Q := TQ) (ks := ks) (vs := vs) (ts := []) 1000 3001 3002 3003 rfl rfl rfl rfl (by decide) h) ?_
      repeat (first | (with_reducible first | apply ae_norm | apply xf_norm | apply aw_skip) | ((with_reducible apply aw_cond); exact rfl; (focus (intro hd; (cases hd; done))); (intro hd; clear hd)))
      (with_reducible apply retxf_ok (l := [])); (focus (repeat' (with_reducible apply rv_nil))); exact rfl; exact SubD.refl _; refine ⟨(by repeat' (first | exact ks_nil | (refine ks_cons rfl (by exact SubA.refl _) ?_))), (by repeat' (first | exact trivial | exact rfl | refine And.intro ?_ ?_)), rfl, (by repeat' (first | exact trivial | exact inB_px rfl | refine And.intro ?_ ?_)), (by repeat' (first | exact trivial | exact inB_px rfl | refine And.intro ?_ ?_))⟩
theorem each_r_node (s0 s9 : Bool × Bool × ByteArray) (ks : List ByteArray) (vs : List Int) (ts : List Tn) (hks : ks.length ≤ 3) (hvs : vs.length = ks.length) (hts : ts.length = ks.length + 1) (hI : (fun (_ : Bool × Bool × ByteArray) (_ : List (ByteArray × Int)) => True) s0 (weave (ks.zip vs) (itemsF ts))) (hF : foldS (fun (s : Bool × Bool × ByteArray) (k : ByteArray) (_ : Int) => rise s k) s0 (weave (ks.zip vs) (itemsF ts)) = s9) (ih : ∀ (j : Nat) (t : Tn), ts[j]? = some t → ∀ s, (fun (_ : Bool × Bool × ByteArray) (_ : List (ByteArray × Int)) => True) s (items t) → EachPX_r s t (foldS (fun (s : Bool × Bool × ByteArray) (k : ByteArray) (_ : Int) => rise s k) s (items t))) : EachPX_r s0 (.node ks vs ts) s9 := by
  unfold EachPX_r
  have hstep : ∀ s k v r, (fun (_ : Bool × Bool × ByteArray) (_ : List (ByteArray × Int)) => True) s ((k, v) :: r) → (fun (_ : Bool × Bool × ByteArray) (_ : List (ByteArray × Int)) => True) ((fun (s : Bool × Bool × ByteArray) (k : ByteArray) (_ : Int) => rise s k) s k v) r := fun _ _ _ _ _ => trivial
  refine pxf_of_aw Tryd.func25 rfl (by kernel_rfl) mixed (by kernel_rfl) (by rw [Tryd.ntmps25]; exact Nat.le_of_ble_eq_true rfl) Tryd.results25 rfl ?_
  repeat (with_reducible apply aw_seq)
  repeat (first | (refine aw_exR1 (id := 1) mixed (fun C ac w h => ent_open (Q := TQ) 1000 3001 3002 3003 rfl rfl rfl rfl (by decide) (by decide) (by decide) h) ?_; (with_reducible apply aw_reg)) | (with_reducible first | apply aw_reg | apply rp_nil | apply ae_norm | apply aw_block) | ((with_reducible apply rp); first | (exact does_eq_px ptrNode rfl rfl) | ((with_reducible apply does_move); (conv => lhs; whnf)) | ((with_reducible apply does_fieldAddr); exact tyOk rfl; exact rfl; exact rfl; decide; exact rfl) | ((with_reducible apply does_load_var); exact tyOk rfl; exact rfl; exact rfl; exact rfl; exact rfl) | ((with_reducible apply does_len_ow); exact tyOk rfl; exact rfl; exact rfl) | ((with_reducible apply does_nilCheck); exact rfl)) | ((with_reducible apply aw_cond); exact rfl; (focus (intro hd; (cases hd; done))); (intro hd; clear hd)))
  refine aw_loop (fun n s => ∃ k st, k ≤ ks.length ∧ n = ks.length - k ∧ foldS (fun (s : Bool × Bool × ByteArray) (k : ByteArray) (_ : Int) => rise s k) st (weave ((ks.zip vs).drop k) ((itemsF ts).drop k)) = s9 ∧ (fun (_ : Bool × Bool × ByteArray) (_ : List (ByteArray × Int)) => True) st (weave ((ks.zip vs).drop k) ((itemsF ts).drop k)) ∧
      s = ⟨[(0, .px 1000 0), (1, .fn (.func 32) [] [.px 1001 0, .px 1002 0, .px 1003 0]), (11, .ow 3001 ks.length), (12, .d (iD ks.length)), (13, .d (iD k))], [(1000, .var TQ.T [.ow 3001 ks.length, .ow 3002 vs.length, .ow 3003 (ts : List Tn).length]), (3001, .row TQ.K 1 (ks.map strE)), (3002, .row TQ.V 1 (vs.map intE)), (3003, .res (kidsR TQ ts)), (1001, .var 4 [.d (bD (st).1)]), (1002, .var 4 [.d (bD (st).2.1)]), (1003, .var 9 [.d (strD (st).2.2)])]⟩) _ _ ?_ ⟨0, s0, by omega, rfl, hF, hI, rfl⟩ ?_
  · refine forget_of [] (by repeat' (first | exact ks_nil | (refine ks_cons rfl (by exact SubA.refl _) ?_))) (by repeat' (first | exact trivial | exact rfl | refine And.intro ?_ ?_)) rfl (by repeat' (first | exact trivial | exact inB_ow rfl | exact inB_px rfl | refine And.intro ?_ ?_)) (by repeat' (first | exact trivial | exact inB_ow rfl | exact inB_px rfl | refine And.intro ?_ ?_))
  · rintro n s1 ⟨k, st, hk, rfl, hf, hi, rfl⟩
    repeat (first | (with_reducible first | apply aw_seq | apply aw_reg | apply rp_nil | apply ae_norm) | ((with_reducible apply rp); ((with_reducible apply does_lt); exact rfl; exact rfl)))
    refine aw_cond rfl (fun hd => ?_) (fun hd => ?_)
    · have hlt : k < ks.length := by simpa using hd
      obtain ⟨key, hg⟩ : ∃ g, ks[k]? = some g := ⟨_, List.getElem?_eq_getElem hlt⟩
      obtain ⟨v, hv⟩ : ∃ g, vs[k]? = some g := ⟨_, List.getElem?_eq_getElem (by omega)⟩
      obtain ⟨l1, t0, l2, hts2, hl1⟩ := split_at (show k < ts.length by omega)
      have ht0 : ts[k]? = some t0 := by rw [hts2, ← hl1]; simp
      rw [weave_step hg hv ht0] at hf
      try rw [weave_step hg hv ht0] at hi
      have hpos : decide ((ts.length : Int) > 0) = true := decide_eq_true (by omega)
      have c0 := ih k t0 ht0 st trivial
      have hi1 := inv_fold (f := (fun (s : Bool × Bool × ByteArray) (k : ByteArray) (_ : Int) => rise s k)) (Inv := (fun (_ : Bool × Bool × ByteArray) (_ : List (ByteArray × Int)) => True)) hstep (items t0) ((key, v) :: weave ((ks.zip vs).drop (k + 1)) ((itemsF ts).drop (k + 1))) st hi
      have hf1 := hf
      unfold foldS at hf1
      rw [List.foldl_append] at hf1
      generalize hst1 : foldS (fun (s : Bool × Bool × ByteArray) (k : ByteArray) (_ : Int) => rise s k) st (items t0) = st1 at *
      have hst1 : List.foldl _ st (items t0) = st1 := hst1
      rw [hst1] at hf1
      unfold EachPX_r at c0
      repeat (first | (refine aw_after (id := 5) mixed ?_; (with_reducible apply aw_reg)) | (with_reducible first | apply aw_seq | apply aw_reg | apply rp_nil | apply ae_norm | apply aw_block | apply aw_skip) | ((with_reducible apply rp); first | ((with_reducible apply does_move); (conv => lhs; whnf)) | ((with_reducible apply does_assign); (conv => lhs; whnf)) | ((with_reducible apply does_fieldAddr); exact tyOk rfl; exact rfl; exact rfl; decide; exact rfl) | ((with_reducible apply does_load_var); exact tyOk rfl; exact rfl; exact rfl; exact rfl; exact rfl) | ((with_reducible apply does_load_own); exact tyOk rfl; exact rfl; exact rfl; exact rfl; exact map_get (by assumption); exact rfl) | ((with_reducible apply does_index_own); exact tyOk rfl; exact rfl; exact tyOk rfl; exact rfl; exact rfl; exact rfl; omega) | ((with_reducible apply does_gt); exact rfl; exact rfl) | ((with_reducible apply does_len_ow); exact tyOk rfl; exact rfl; exact rfl) | ((with_reducible apply does_nilCheck); exact rfl)) | ((with_reducible apply rp2); (exact does_load_kid (Q := TQ) (l1 := l1) (l2 := l2) (t0 := t0) (tyOk rfl) rfl rfl (by rw [← hts2]; exact rfl) hl1 rfl)) | ((with_reducible apply rpL); (refine does_callX [(1000, 30)] [(1000, 30)] (ups := [(30, .res (treeR TQ t0)), (1001, .var 4 [.d (bD (st1).1)]), (1002, .var 4 [.d (bD (st1).2.1)]), (1003, .var 9 [.d (strD (st1).2.2)])]) rfl (c0) rfl ?_ rfl ?_ ?_ rfl rfl rfl rfl rfl ?_ rfl rfl; (focus repeat' (first | exact trivial | exact rfl | refine And.intro ?_ ?_)); (focus repeat' (first | exact trivial | exact inB_px rfl | refine And.intro ?_ ?_)); (focus repeat' (first | exact trivial | exact inB_px rfl | refine And.intro ?_ ?_)); (focus repeat' (first | exact trivial | exact inB_px rfl | refine And.intro ?_ ?_))); exact lapp_nil _) | ((with_reducible apply aw_cond); exact rfl; rotate_left; (focus (intro hd; (exact absurd (hd.symm.trans (by assumption : _ = true)) (by decide)))); (intro hd; clear hd)))
      refine after1 (fun C ac w h => ent_kback (Q := TQ) 3003 30 rfl rfl h) ?_
      rw [← hts2]
      have c1 := rise_px key v st1.1 st1.2.1 st1.2.2
      repeat (first | (with_reducible first | apply aw_reg | apply rp_nil | apply ae_norm | apply be_norm) | ((with_reducible apply rp); first | ((with_reducible apply does_move); (conv => lhs; whnf)) | ((with_reducible apply does_fieldAddr); exact tyOk rfl; exact rfl; exact rfl; decide; exact rfl) | ((with_reducible apply does_load_var); exact tyOk rfl; exact rfl; exact rfl; exact rfl; exact rfl) | ((with_reducible apply does_load_own); exact tyOk rfl; exact rfl; exact rfl; exact rfl; exact map_get (by assumption); exact rfl) | ((with_reducible apply does_index_own); exact tyOk rfl; exact rfl; exact tyOk rfl; exact rfl; exact rfl; exact rfl; omega) | ((with_reducible apply does_add); exact rfl; exact rfl; omega; omega) | ((with_reducible apply does_nilCheck); exact rfl)) | ((with_reducible apply rpL); (refine does_callX [] [] (ups := [(1001, .var 4 [.d (bD (rise st1 key).1)]), (1002, .var 4 [.d (bD (rise st1 key).2.1)]), (1003, .var 9 [.d (strD (rise st1 key).2.2)])]) rfl (c1) rfl ?_ rfl ?_ ?_ rfl rfl rfl rfl rfl ?_ rfl rfl; (focus repeat' (first | exact trivial | exact rfl | refine And.intro ?_ ?_)); (focus repeat' (first | exact trivial | exact inB_px rfl | refine And.intro ?_ ?_)); (focus repeat' (first | exact trivial | exact inB_px rfl | refine And.intro ?_ ?_)); (focus repeat' (first | exact trivial | exact inB_px rfl | refine And.intro ?_ ?_))); exact lapp_nil _))
      refine ⟨ks.length - (k + 1), _, by omega, ?_, k + 1, rise st1 key, by omega, rfl, hf1, hstep st1 key v (weave ((ks.zip vs).drop (k + 1)) ((itemsF ts).drop (k + 1))) hi1, rfl⟩
      refine forget_of [] (by repeat' (first | exact ks_nil | (refine ks_cons rfl (by exact SubA.refl _) ?_))) (by repeat' (first | exact trivial | exact rfl | refine And.intro ?_ ?_)) rfl (by repeat' (first | exact trivial | exact inB_ow rfl | exact inB_px rfl | refine And.intro ?_ ?_)) (by repeat' (first | exact trivial | exact inB_ow rfl | exact inB_px rfl | refine And.intro ?_ ?_))
    · have hkl : k = ks.length := by simp at hd; omega
      subst hkl
      obtain ⟨l1, t0, l2, hts2, hl1⟩ := split_at (show ks.length < ts.length by omega)
      have ht0 : ts[ks.length]? = some t0 := by rw [hts2, ← hl1]; simp
      rw [weave_end hvs hts ht0] at hf
      try rw [weave_end hvs hts ht0] at hi
      have hpos : decide ((ts.length : Int) > 0) = true := decide_eq_true (by omega)
      have hltk : ks.length < ts.length := by omega
      have c0 := ih ks.length t0 ht0 st hi
      have hf : foldS _ st (items t0) = s9 := hf
      rw [hf] at c0
      unfold EachPX_r at c0
      repeat (first | (refine aw_after (id := 9) mixed ?_; (with_reducible apply aw_regD)) | (with_reducible first | apply aw_seq | apply aw_reg | apply rp_nil | apply ae_norm | apply aw_exit | apply ae_exit | apply be_exit) | ((with_reducible apply dr_nil); (first | kernel_rfl | exact rfl)) | ((with_reducible first | apply rp | apply dr); first | ((with_reducible apply does_move); (conv => lhs; whnf)) | ((with_reducible apply does_fieldAddr); exact tyOk rfl; exact rfl; exact rfl; decide; exact rfl) | ((with_reducible apply does_load_var); exact tyOk rfl; exact rfl; exact rfl; exact rfl; exact rfl) | ((with_reducible apply does_index_own); exact tyOk rfl; exact rfl; exact tyOk rfl; exact rfl; exact rfl; exact rfl; omega) | ((with_reducible apply does_gt); exact rfl; exact rfl) | ((with_reducible apply does_len_ow); exact tyOk rfl; exact rfl; exact rfl) | ((with_reducible apply does_nilCheck); exact rfl)) | ((with_reducible apply dr2); (exact does_load_kid (Q := TQ) (l1 := l1) (l2 := l2) (t0 := t0) (tyOk rfl) rfl rfl (by rw [← hts2]; exact rfl) hl1 rfl)) | ((with_reducible apply drL); (refine does_callX [(1000, 60)] [(1000, 60)] (ups := [(60, .res (treeR TQ t0)), (1001, .var 4 [.d (bD (s9).1)]), (1002, .var 4 [.d (bD (s9).2.1)]), (1003, .var 9 [.d (strD (s9).2.2)])]) rfl (c0) rfl ?_ rfl ?_ ?_ rfl rfl rfl rfl rfl ?_ rfl rfl; (focus repeat' (first | exact trivial | exact rfl | refine And.intro ?_ ?_)); (focus repeat' (first | exact trivial | exact inB_px rfl | refine And.intro ?_ ?_)); (focus repeat' (first | exact trivial | exact inB_px rfl | refine And.intro ?_ ?_)); (focus repeat' (first | exact trivial | exact inB_px rfl | refine And.intro ?_ ?_))); exact lapp_nil _) | ((with_reducible apply aw_cond); exact rfl; rotate_left; (focus (intro hd; (exact absurd (hd.symm.trans (by assumption : _ = true)) (by decide)))); (intro hd; clear hd)))
      refine after1 (fun C ac w h => ent_shut (Q := TQ) (ks := ks) (vs := vs) (ts := ts) 1000 3001 3002 3003 rfl rfl rfl (by rw [hts2]; rfl) (by decide) (ent_kback (Q := TQ) 3003 60 rfl rfl h)) ?_
      repeat (first | (with_reducible apply xf_norm))
      (with_reducible apply retxf_ok (l := [])); (focus (repeat' (with_reducible apply rv_nil))); exact rfl; exact SubD.refl _; refine ⟨(by repeat' (first | exact ks_nil | (refine ks_cons rfl (by exact SubA.refl _) ?_))), (by repeat' (first | exact trivial | exact rfl | refine And.intro ?_ ?_)), rfl, (by repeat' (first | exact trivial | exact inB_px rfl | refine And.intro ?_ ?_)), (by repeat' (first | exact trivial | exact inB_px rfl | refine And.intro ?_ ?_))⟩
theorem each_r_nil (s0 : Bool × Bool × ByteArray) : PX Tryd.prog 25 [.d (.sc (.pointer none)), .fn (.func 32) [] [.px 1001 0, .px 1002 0, .px 1003 0]] [(1001, .var 4 [.d (bD (s0).1)]), (1002, .var 4 [.d (bD (s0).2.1)]), (1003, .var 9 [.d (strD (s0).2.2)])] [] (.tu []) [(1001, .var 4 [.d (bD (s0).1)]), (1002, .var 4 [.d (bD (s0).2.1)]), (1003, .var 9 [.d (strD (s0).2.2)])] [] := by
  refine pxf_of_aw Tryd.func25 rfl (by kernel_rfl) mixed (by kernel_rfl) (by rw [Tryd.ntmps25]; exact Nat.le_of_ble_eq_true rfl) Tryd.results25 rfl ?_
  repeat (with_reducible apply aw_seq)
  repeat (first | (with_reducible first | apply aw_reg | apply rp_nil | apply ae_norm | apply aw_ret | apply ae_ret | apply xf_ret) | ((with_reducible apply rp); first | (exact does_eq_nn ptrNode rfl rfl) | ((with_reducible apply does_move); (conv => lhs; whnf))) | ((with_reducible apply aw_cond); exact rfl; rotate_left; (focus (intro hd; (cases hd; done))); (intro hd; clear hd)))
  (with_reducible apply retxf_ok (l := [])); (focus (repeat' (with_reducible apply rv_nil))); exact rfl; exact SubD.refl _; refine ⟨(by repeat' (first | exact ks_nil | (refine ks_cons rfl (by exact SubA.refl _) ?_))), (by repeat' (first | exact trivial | exact rfl | refine And.intro ?_ ?_)), rfl, (by repeat' (first | exact trivial | exact inB_px rfl | refine And.intro ?_ ?_)), (by repeat' (first | exact trivial | exact inB_px rfl | refine And.intro ?_ ?_))⟩
theorem each_r : ∀ (h : Nat) (t : Tn), Sh h t → ∀ s, (fun (_ : Bool × Bool × ByteArray) (_ : List (ByteArray × Int)) => True) s (items t) → EachPX_r s t (foldS (fun (s : Bool × Bool × ByteArray) (k : ByteArray) (_ : Int) => rise s k) s (items t))
  | 0, .node ks vs ts, hs, s, hI => by
    obtain ⟨h1, h2, h3, rfl⟩ := hs
    try rw [items, itemsF, weave_leaf] at hI
    rw [items, itemsF, weave_leaf]
    exact each_r_leaf s _ ks vs h3 h1 hI rfl
  | h + 1, .node ks vs ts, hs, s, hI => by
    obtain ⟨h1, h2, h3, h4, h5⟩ := hs
    try rw [items] at hI
    rw [items]
    exact each_r_node s _ ks vs ts h3 h1 h4 hI rfl fun j t ht => each_r h t (h5 t (List.mem_of_getElem? ht))
end Go.Proofs.YtfplkakfakdfhaaDoor


/-
  orderly: nodes that are in order. No condition but that they are.
-/
namespace Go.Proofs.YtfplkakfakdfhaaDoor
set_option linter.unusedSimpArgs false
set_option linter.unusedVariables false
open Go.RowKit

def depE (n : Nat) (dep : List Nat) : List (List D) := (List.range n).map fun j => natE (dep.getD j 0)
theorem depE_len (n : Nat) (dep : List Nat) : (depE n dep).length = n := by unfold depE; simp
theorem depE_get {n : Nat} {dep : List Nat} {j : Nat} (h : j < n) : (depE n dep)[j]? = some [iD ((dep.getD j 0 : Nat) : Int)] := by
  unfold depE
  rw [List.getElem?_map, List.getElem?_range h]
  rfl
theorem orderly_pc (ns : List Nd) (dep : List Nat) (h : Nat) (t : Tn) (ho : NsOk ns dep h) (hs : Sh h t) (hl : Lies ns 0 t) (hr : (foldS (fun s k _ => rise s k) (true, true, ByteArray.empty) (items t)).1 = true) : PC Tryd.prog 19 [treeD ns, .sl 1 (depE ns.length dep)] (iD 0) := by
  have r1 := root_pg ns h t hs hl
  have e1 := each_r h t hs (true, true, ByteArray.empty) trivial
  unfold EachPX_r at e1
  have hdl := depE_len ns.length dep
  have hdg : ∀ {j : Nat}, j < ns.length → (depE ns.length dep)[j]? = some [iD ((dep.getD j 0 : Nat) : Int)] := fun h => depE_get h
  have hcl : (ns.map nodeC).length = ns.length := List.length_map _
  have hcg : ∀ {j : Nat} {n : Nd}, ns[j]? = some n → (ns.map nodeC)[j]? = some [.sl 1 (n.ks.map strE), .sl 1 (n.vs.map intE), .sl 1 (n.kids.map natE)] := fun h => by rw [List.getElem?_map, h]; rfl
  unfold treeD nodesD at *
  generalize hcs : ns.map nodeC = cs at *
  generalize hde : depE ns.length dep = de at *
  generalize hfold : foldS (fun s k _ => rise s k) (true, true, ByteArray.empty) (items t) = s9 at *
  have hfew := ho.few
  refine pc_of_aw Tryd.func19 rfl (by kernel_rfl) mixed (by kernel_rfl) (by rw [Tryd.ntmps19]; exact Nat.le_of_ble_eq_true rfl) Tryd.results19 ?_
  repeat (with_reducible apply aw_seq)
  repeat (first | (with_reducible first | apply aw_seq | apply aw_reg | apply rp_nil | apply ae_norm | apply aw_block) | ((with_reducible apply rp); first | ((with_reducible apply does_move); (conv => lhs; whnf)) | ((with_reducible apply does_assign); (conv => lhs; whnf)) | ((with_reducible apply does_fieldAddr); exact tyOk rfl; exact rfl; exact rfl; decide; exact rfl) | ((with_reducible apply does_load_var); exact tyOk rfl; exact rfl; exact rfl; exact rfl; exact rfl) | ((with_reducible apply does_len_sl); exact tyOk rfl; exact rfl; exact rfl)) | ((with_reducible apply rp1); ((with_reducible apply does_box_ag); exact rfl; exact rfl)))
  refine aw_loop (fun n s => ∃ (k : Nat) (lf : Int), k ≤ cs.length ∧ n = cs.length - k ∧ (lf = -1 ∨ lf = h) ∧ s = ⟨[(1, .d (.sl 1 de)), (2, .px 2 0), (5, .d (iD lf)), (12, .d (.sl 3 cs)), (13, .d (iD cs.length)), (14, .d (iD k))], [(2, .var 34 [.d (.sl 3 cs)])]⟩) _ _ ?_ ⟨0, -1, by omega, rfl, .inl rfl, rfl⟩ ?_
  · refine forget_of [] (by repeat' (first | exact ks_nil | (refine ks_cons rfl (by exact SubA.refl _) ?_))) (by repeat' (first | exact trivial | exact rfl | refine And.intro ?_ ?_)) rfl (by repeat' (first | exact trivial | exact inB_px rfl | refine And.intro ?_ ?_)) (by repeat' (first | exact trivial | exact inB_px rfl | refine And.intro ?_ ?_))
  · rintro n s1 ⟨k, lf, hk, rfl, hlf, rfl⟩
    repeat (first | (with_reducible first | apply aw_seq | apply aw_reg | apply rp_nil | apply ae_norm) | ((with_reducible apply rp); ((with_reducible apply does_lt); exact rfl; exact rfl)))
    refine aw_cond rfl (fun hd => ?_) (fun hd => ?_)
    · have hlt : k < cs.length := by simpa using hd
      obtain ⟨n, hn⟩ : ∃ n, ns[k]? = some n := ⟨_, List.getElem?_eq_getElem (by omega)⟩
      have hg := hcg hn
      have hdk := hdg (j := k) (by omega)
      have hltd : k < de.length := by omega
      have hA : (decide ((k : Int) > 0) && (((dep.getD k 0 : Nat) : Int) == 0)) = false := by
        by_cases h0 : k = 0
        · subst h0; rfl
        · obtain ⟨m, hm, hkm⟩ := List.mem_flatMap.1 (ho.each k (by omega) (by omega))
          obtain ⟨p, hp⟩ := List.getElem?_of_mem hm
          have := (ho.kid p m hp k hkm).2.2
          rw [Bool.and_eq_false_iff]
          right
          rw [beq_eq_false_iff_ne]
          omega
      have hlfn : n.kids = [] → dep.getD k 0 = h := ho.leaf k n hn
      generalize dep.getD k 0 = dk at *
      generalize hkd : n.kids.map natE = kd at *
      repeat (first | (with_reducible first | apply aw_seq | apply aw_reg | apply rp_nil | apply ae_norm | apply aw_block | apply aw_skip) | ((first | (with_reducible apply rp) | ((with_reducible apply rpG); exact rfl; exact gval_t rfl; (focus repeat' (first | exact trivial | exact fun h => h | refine And.intro ?_ ?_)); intro hgd; have hgd0 := hgd; (try simp only [decide_eq_true_eq, Bool.and_eq_true, Bool.not_eq_true', beq_iff_eq] at hgd))); first | ((with_reducible apply does_move); (conv => lhs; whnf)) | ((with_reducible apply does_assign); (conv => lhs; whnf)) | ((with_reducible apply does_and); exact rfl; exact rfl; exact rfl; exact fun h => h) | ((with_reducible apply does_fieldAddr); exact tyOk rfl; exact rfl; exact rfl; decide; exact rfl) | ((with_reducible apply does_load_var); exact tyOk rfl; exact rfl; exact rfl; exact rfl; exact rfl) | ((with_reducible apply does_load_elem); exact tyOk rfl; exact rfl; exact rfl; assumption; exact rfl) | ((with_reducible apply does_load_elem_whole); exact tyOk rfl; exact rfl; exact rfl; assumption; exact rfl) | ((with_reducible apply does_index_sl); exact tyOk rfl; exact rfl; exact tyOk rfl; exact rfl; exact rfl; exact rfl; exact rfl; omega) | ((with_reducible apply does_eq); exact rfl; exact rfl) | ((with_reducible apply does_gt); exact rfl; exact rfl) | ((with_reducible apply does_len_sl); exact tyOk rfl; exact rfl; exact rfl)) | ((with_reducible apply rp1); ((with_reducible apply does_alloc); exact tyOk rfl; exact rfl)) | ((with_reducible apply rpN); ((with_reducible apply does_store_whole); exact tyOk rfl; exact rfl; exact rfl; exact rfl; exact rfl; exact rfl)) | ((with_reducible apply aw_cond); exact rfl; (focus (intro hd; (exact absurd (hd.symm.trans (by assumption : _ = false)) (by decide)))); (intro hd; clear hd)))
      refine aw_cond rfl (fun hz => ?_) (fun hz => ?_)
      · have hkd0 : n.kids = [] := by
          have : kd.length = 0 := by have h3 : (kd.length : Int) = 0 := eq_of_beq hz; omega
          rw [← hkd, List.length_map] at this
          exact List.length_eq_zero_iff.1 this
        have hdkh := hlfn hkd0
        have hB : (decide (lf ≥ 0) && !((dk : Int) == lf)) = false := by
          rcases hlf with rfl | rfl
          · rfl
          · rw [hdkh]; simp
        repeat (first | (with_reducible first | apply aw_seq | apply aw_reg | apply rp_nil | apply ae_norm | apply be_norm | apply aw_skip) | ((first | (with_reducible apply rp) | ((with_reducible apply rpG); exact rfl; exact gval_t rfl; (focus repeat' (first | exact trivial | exact fun h => h | refine And.intro ?_ ?_)); intro hgd; have hgd0 := hgd; (try simp only [decide_eq_true_eq, Bool.and_eq_true, Bool.not_eq_true', beq_iff_eq] at hgd))); first | ((with_reducible apply does_move); (conv => lhs; whnf)) | ((with_reducible apply does_assign); (conv => lhs; whnf)) | ((with_reducible apply does_and); exact rfl; exact rfl; exact rfl; exact fun h => h) | ((with_reducible apply does_load_elem); exact tyOk rfl; exact rfl; exact rfl; assumption; exact rfl) | ((with_reducible apply does_index_sl); exact tyOk rfl; exact rfl; exact tyOk rfl; exact rfl; exact rfl; exact rfl; exact rfl; omega) | ((with_reducible apply does_ne); exact rfl; exact rfl) | ((with_reducible apply does_ge); exact rfl; exact rfl) | ((with_reducible apply does_add); exact rfl; exact rfl; omega; omega)) | ((with_reducible apply aw_cond); exact rfl; (focus (intro hd; (exfalso; simp at hd; omega))); (intro hd; clear hd)))
        refine ⟨cs.length - (k + 1), _, by omega, ?_, k + 1, (dk : Int), by omega, rfl, .inr (by rw [hdkh]), rfl⟩
        refine forget_of [] (by repeat' (first | exact ks_nil | (refine ks_cons rfl (by exact SubA.refl _) ?_))) (by repeat' (first | exact trivial | exact rfl | refine And.intro ?_ ?_)) rfl (by repeat' (first | exact trivial | exact inB_px rfl | refine And.intro ?_ ?_)) (by repeat' (first | exact trivial | exact inB_px rfl | refine And.intro ?_ ?_))
      · repeat (first | (with_reducible first | apply aw_reg | apply rp_nil | apply ae_norm | apply be_norm | apply aw_skip) | ((with_reducible apply rp); first | ((with_reducible apply does_move); (conv => lhs; whnf)) | ((with_reducible apply does_add); exact rfl; exact rfl; omega; omega)))
        refine ⟨cs.length - (k + 1), _, by omega, ?_, k + 1, lf, by omega, rfl, hlf, rfl⟩
        refine forget_of [] (by repeat' (first | exact ks_nil | (refine ks_cons rfl (by exact SubA.refl _) ?_))) (by repeat' (first | exact trivial | exact rfl | refine And.intro ?_ ?_)) rfl (by repeat' (first | exact trivial | exact inB_px rfl | refine And.intro ?_ ?_)) (by repeat' (first | exact trivial | exact inB_px rfl | refine And.intro ?_ ?_))
    · have hr2 : (!s9.1) = false := by rw [hr]; rfl
      repeat (first | (with_reducible first | apply aw_seq | apply aw_reg | apply rp_nil | apply ae_norm | apply aw_exit | apply ae_exit | apply be_exit | apply aw_ret | apply re_ret | apply aw_skip) | ((with_reducible apply rp); first | ((with_reducible apply does_assign); (conv => lhs; whnf)) | ((with_reducible apply does_load_var); exact tyOk rfl; exact rfl; exact rfl; exact rfl; exact rfl) | ((with_reducible apply does_load_row); exact tyOk rfl; exact rfl; exact rfl; exact rfl; exact Nat.le_of_ble_eq_true rfl; exact rfl) | ((with_reducible apply does_not); exact rfl) | ((with_reducible apply does_makeFunc_l); (focus repeat' (first | exact evs_nil rfl | (apply evs_cons; exact rfl; (conv => lhs; whnf)))); (focus repeat' (first | exact evs_nil rfl | (apply evs_cons; exact rfl; (conv => lhs; whnf)))))) | ((with_reducible apply rp1); ((with_reducible apply does_alloc); exact tyOk rfl; exact rfl)) | ((with_reducible apply rpN); ((with_reducible apply does_store); exact tyOk rfl; exact rfl; exact rfl; (conv => lhs; whnf); exact rfl; exact rfl; exact Nat.le_of_ble_eq_true rfl)) | ((with_reducible apply rpL); (refine does_callG' [] [(2000, 48)] (ups := [(48, .res (treeR TQ t))]) (v := (.px 48 0)) rfl (r1) rfl ?_ rfl ?_ ?_ rfl rfl rfl rfl rfl ?_ ?_ rfl rfl rfl; (focus repeat' (first | exact trivial | exact rfl | refine And.intro ?_ ?_)); (focus repeat' (first | exact trivial | exact inB_px rfl | refine And.intro ?_ ?_)); (focus repeat' (first | exact trivial | exact inB_px rfl | refine And.intro ?_ ?_)); (focus repeat' (first | exact trivial | exact inB_px rfl | refine And.intro ?_ ?_)); (focus repeat' (first | exact trivial | exact inB_px rfl | refine And.intro ?_ ?_))); exact lapp_nil _) | ((with_reducible apply rpL); (refine does_callX [(1000, 48), (1001, 10), (1002, 9), (1003, 8)] [(1000, 48), (1001, 10), (1002, 9), (1003, 8)] (ups := [(48, .res (treeR TQ t)), (10, .var 4 [.d (bD s9.1)]), (9, .var 4 [.d (bD s9.2.1)]), (8, .var 9 [.d (strD s9.2.2)])]) rfl (e1) rfl ?_ rfl ?_ ?_ rfl rfl rfl rfl rfl ?_ rfl rfl; (focus repeat' (first | exact trivial | exact rfl | refine And.intro ?_ ?_)); (focus repeat' (first | exact trivial | exact inB_px rfl | refine And.intro ?_ ?_)); (focus repeat' (first | exact trivial | exact inB_px rfl | refine And.intro ?_ ?_)); (focus repeat' (first | exact trivial | exact inB_px rfl | refine And.intro ?_ ?_))); exact lapp_nil _) | ((with_reducible apply aw_cond); exact rfl; (focus (intro hd; (exact absurd (hd.symm.trans (by assumption : _ = false)) (by decide)))); (intro hd; clear hd)))
      (with_reducible apply ret_ok); (focus (repeat' (first | (with_reducible apply rv_nil) | (with_reducible apply rv_cons) | ((with_reducible apply rv_tmp); exact rfl)))); exact rfl; refine SubD.of_eq ?_
      rfl
theorem orderly_nil : PC Tryd.prog 19 [treeD [], .sl 1 []] (iD 0) := by
  have r1 := root_nil
  have e1 := each_r_nil (true, true, ByteArray.empty)
  unfold treeD nodesD at *
  have r1 : PG _ _ [.d (.ag [.sl 3 []])] _ _ _ _ _ := r1
  show PC _ _ [.ag [.sl 3 []], .sl 1 []] _
  refine pc_of_aw Tryd.func19 rfl (by kernel_rfl) mixed (by kernel_rfl) (by rw [Tryd.ntmps19]; exact Nat.le_of_ble_eq_true rfl) Tryd.results19 ?_
  repeat (with_reducible apply aw_seq)
  repeat (first | (with_reducible first | apply aw_seq | apply aw_reg | apply rp_nil | apply ae_norm | apply aw_block) | ((with_reducible apply rp); first | ((with_reducible apply does_move); (conv => lhs; whnf)) | ((with_reducible apply does_assign); (conv => lhs; whnf)) | ((with_reducible apply does_fieldAddr); exact tyOk rfl; exact rfl; exact rfl; decide; exact rfl) | ((with_reducible apply does_load_var); exact tyOk rfl; exact rfl; exact rfl; exact rfl; exact rfl) | ((with_reducible apply does_len_sl); exact tyOk rfl; exact rfl; exact rfl)) | ((with_reducible apply rp1); ((with_reducible apply does_box_ag); exact rfl; exact rfl)))
  refine aw_loop (fun n s => n = 0 ∧ s = ⟨[(1, .d (.sl 1 [])), (2, .px 2 0), (12, .d (.sl 3 [])), (13, .d (iD 0)), (14, .d (iD 0))], [(2, .var 34 [.d (.sl 3 [])])]⟩) _ _ ?_ ⟨rfl, rfl⟩ ?_
  · refine forget_of [] (by repeat' (first | exact ks_nil | (refine ks_cons rfl (by exact SubA.refl _) ?_))) (by repeat' (first | exact trivial | exact rfl | refine And.intro ?_ ?_)) rfl (by repeat' (first | exact trivial | exact inB_px rfl | refine And.intro ?_ ?_)) (by repeat' (first | exact trivial | exact inB_px rfl | refine And.intro ?_ ?_))
  · rintro n s1 ⟨rfl, rfl⟩
    repeat (first | (with_reducible first | apply aw_seq | apply aw_reg | apply rp_nil | apply ae_norm | apply aw_exit | apply ae_exit | apply be_exit | apply aw_ret | apply re_ret | apply aw_skip) | ((with_reducible apply rp); first | ((with_reducible apply does_assign); (conv => lhs; whnf)) | ((with_reducible apply does_load_var); exact tyOk rfl; exact rfl; exact rfl; exact rfl; exact rfl) | ((with_reducible apply does_load_row); exact tyOk rfl; exact rfl; exact rfl; exact rfl; exact Nat.le_of_ble_eq_true rfl; exact rfl) | ((with_reducible apply does_lt); exact rfl; exact rfl) | ((with_reducible apply does_not); exact rfl) | ((with_reducible apply does_makeFunc_l); (focus repeat' (first | exact evs_nil rfl | (apply evs_cons; exact rfl; (conv => lhs; whnf)))); (focus repeat' (first | exact evs_nil rfl | (apply evs_cons; exact rfl; (conv => lhs; whnf)))))) | ((with_reducible apply rp1); ((with_reducible apply does_alloc); exact tyOk rfl; exact rfl)) | ((with_reducible apply rpN); ((with_reducible apply does_store); exact tyOk rfl; exact rfl; exact rfl; (conv => lhs; whnf); exact rfl; exact rfl; exact Nat.le_of_ble_eq_true rfl)) | ((with_reducible apply rpL); (refine does_callG' [] [] (ups := []) (v := (.d (.sc (.pointer none)))) rfl (r1) rfl ?_ rfl ?_ ?_ rfl rfl rfl rfl rfl ?_ ?_ rfl rfl rfl; (focus repeat' (first | exact trivial | exact rfl | refine And.intro ?_ ?_)); (focus repeat' (first | exact trivial | exact inB_px rfl | refine And.intro ?_ ?_)); (focus repeat' (first | exact trivial | exact inB_px rfl | refine And.intro ?_ ?_)); (focus repeat' (first | exact trivial | exact inB_px rfl | refine And.intro ?_ ?_)); (focus repeat' (first | exact trivial | exact inB_px rfl | refine And.intro ?_ ?_))); exact lapp_nil _) | ((with_reducible apply rpL); (refine does_callX [(1001, 10), (1002, 9), (1003, 8)] [(1001, 10), (1002, 9), (1003, 8)] (ups := [(10, .var 4 [.d (bD true)]), (9, .var 4 [.d (bD true)]), (8, .var 9 [.d (strD ByteArray.empty)])]) rfl (e1) rfl ?_ rfl ?_ ?_ rfl rfl rfl rfl rfl ?_ rfl rfl; (focus repeat' (first | exact trivial | exact rfl | refine And.intro ?_ ?_)); (focus repeat' (first | exact trivial | exact inB_px rfl | refine And.intro ?_ ?_)); (focus repeat' (first | exact trivial | exact inB_px rfl | refine And.intro ?_ ?_)); (focus repeat' (first | exact trivial | exact inB_px rfl | refine And.intro ?_ ?_))); exact lapp_nil _) | ((with_reducible apply aw_cond); exact rfl; (focus (intro hd; (cases hd; done))); (intro hd; clear hd)))
    (with_reducible apply ret_ok); (focus (repeat' (first | (with_reducible apply rv_nil) | (with_reducible apply rv_cons) | ((with_reducible apply rv_tmp); exact rfl)))); exact rfl; refine SubD.of_eq ?_
    rfl
end Go.Proofs.YtfplkakfakdfhaaDoor

