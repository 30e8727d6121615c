/-
  each: with the closure of one caller. No condition but the shape.
-/
import Derived.Test.YtfplkakfakdfhaaDoorZM15
namespace Go.Proofs.YtfplkakfakdfhaaDoor
set_option linter.unusedSimpArgs false
set_option linter.unusedVariables false
open Go.RowKit

abbrev EachPX_n (s0 : Int) (t : Tn) (s9 : Int) : Prop :=
  PX Tryd.prog 25 [.px 1000 0, .fn (.func 27) [] [.px 1001 0]] [(1000, .res (treeR TQ t)), (1001, .var 3 [.d (iD (s0))])] [] (.tu []) [(1000, .res (treeR TQ t)), (1001, .var 3 [.d (iD (s9))])] []
theorem each_n_leaf (s0 s9 : Int) (ks : List ByteArray) (vs : List Int) (hks : ks.length ≤ 3) (hvs : vs.length = ks.length) (hI : (fun (s : Int) (l : List (ByteArray × Int)) => 0 ≤ s ∧ s + l.length ≤ 1000000) s0 (ks.zip vs)) (hF : foldS (fun (s : Int) (_ : ByteArray) (_ : Int) => s + 1) s0 (ks.zip vs) = s9) : EachPX_n s0 (.node ks vs []) s9 := by
  unfold EachPX_n
  have hstep : ∀ s k v r, (fun (s : Int) (l : List (ByteArray × Int)) => 0 ≤ s ∧ s + l.length ≤ 1000000) s ((k, v) :: r) → (fun (s : Int) (l : List (ByteArray × Int)) => 0 ≤ s ∧ s + l.length ≤ 1000000) ((fun (s : Int) (_ : ByteArray) (_ : Int) => s + 1) s k v) r := fun s k v r h => ⟨by have := h.1; show 0 ≤ s + 1; omega, by have := h.2; simp only [List.length_cons] at this; show s + 1 + _ ≤ _; omega⟩
  refine pxf_of_aw Tryd.func25 rfl (by kernel_rfl) mixed (by kernel_rfl) (by rw [Tryd.ntmps25]; exact Nat.le_of_ble_eq_true rfl) Tryd.results25 rfl ?_
  repeat (with_reducible apply aw_seq)
  repeat (first | (refine aw_exR1 (id := 1) mixed (fun C ac w h => ent_open (Q := TQ) 1000 3001 3002 3003 rfl rfl rfl rfl (by decide) (by decide) (by decide) h) ?_; (with_reducible apply aw_reg)) | (with_reducible first | apply aw_reg | apply rp_nil | apply ae_norm | apply aw_block) | ((with_reducible apply rp); first | (exact does_eq_px ptrNode rfl rfl) | ((with_reducible apply does_move); (conv => lhs; whnf)) | ((with_reducible apply does_fieldAddr); exact tyOk rfl; exact rfl; exact rfl; decide; exact rfl) | ((with_reducible apply does_load_var); exact tyOk rfl; exact rfl; exact rfl; exact rfl; exact rfl) | ((with_reducible apply does_len_ow); exact tyOk rfl; exact rfl; exact rfl) | ((with_reducible apply does_nilCheck); exact rfl)) | ((with_reducible apply aw_cond); exact rfl; (focus (intro hd; (cases hd; done))); (intro hd; clear hd)))
  refine aw_loop (fun n s => ∃ k st, k ≤ ks.length ∧ n = ks.length - k ∧ foldS (fun (s : Int) (_ : ByteArray) (_ : Int) => s + 1) st ((ks.zip vs).drop k) = s9 ∧ (fun (s : Int) (l : List (ByteArray × Int)) => 0 ≤ s ∧ s + l.length ≤ 1000000) st ((ks.zip vs).drop k) ∧
      s = ⟨[(0, .px 1000 0), (1, .fn (.func 27) [] [.px 1001 0]), (11, .ow 3001 ks.length), (12, .d (iD ks.length)), (13, .d (iD k))], [(1000, .var TQ.T [.ow 3001 ks.length, .ow 3002 vs.length, .ow 3003 ([] : List Tn).length]), (3001, .row TQ.K 1 (ks.map strE)), (3002, .row TQ.V 1 (vs.map intE)), (3003, .res (kidsR TQ [])), (1001, .var 3 [.d (iD (st))])]⟩) _ _ ?_ ⟨0, s0, by omega, rfl, hF, hI, rfl⟩ ?_
  · refine forget_of [] (by repeat' (first | exact ks_nil | (refine ks_cons rfl (by exact SubA.refl _) ?_))) (by repeat' (first | exact trivial | exact rfl | refine And.intro ?_ ?_)) rfl (by repeat' (first | exact trivial | exact inB_ow rfl | exact inB_px rfl | refine And.intro ?_ ?_)) (by repeat' (first | exact trivial | exact inB_ow rfl | exact inB_px rfl | refine And.intro ?_ ?_))
  · rintro n s1 ⟨k, st, hk, rfl, hf, hi, rfl⟩
    repeat (first | (with_reducible first | apply aw_seq | apply aw_reg | apply rp_nil | apply ae_norm) | ((with_reducible apply rp); ((with_reducible apply does_lt); exact rfl; exact rfl)))
    refine aw_cond rfl (fun hd => ?_) (fun hd => ?_)
    · have hlt : k < ks.length := by simpa using hd
      obtain ⟨key, hg⟩ : ∃ g, ks[k]? = some g := ⟨_, List.getElem?_eq_getElem hlt⟩
      obtain ⟨v, hv⟩ : ∃ g, vs[k]? = some g := ⟨_, List.getElem?_eq_getElem (by omega)⟩
      rw [leaf_step hg hv] at hf
      try rw [leaf_step hg hv] at hi
      have c1 := count_px key v st (by have := hi.1; omega) (by have := hi.2; simp only [List.length_cons] at this; omega)
      repeat (first | (with_reducible first | apply aw_seq | apply aw_reg | apply rp_nil | apply ae_norm | apply aw_block | apply be_norm | apply aw_skip) | ((with_reducible apply rp); first | ((with_reducible apply does_move); (conv => lhs; whnf)) | ((with_reducible apply does_assign); (conv => lhs; whnf)) | ((with_reducible apply does_fieldAddr); exact tyOk rfl; exact rfl; exact rfl; decide; exact rfl) | ((with_reducible apply does_load_var); exact tyOk rfl; exact rfl; exact rfl; exact rfl; exact rfl) | ((with_reducible apply does_load_own); exact tyOk rfl; exact rfl; exact rfl; exact rfl; exact map_get (by assumption); exact rfl) | ((with_reducible apply does_index_own); exact tyOk rfl; exact rfl; exact tyOk rfl; exact rfl; exact rfl; exact rfl; omega) | ((with_reducible apply does_gt); exact rfl; exact rfl) | ((with_reducible apply does_add); exact rfl; exact rfl; omega; omega) | ((with_reducible apply does_len_ow); exact tyOk rfl; exact rfl; exact rfl) | ((with_reducible apply does_nilCheck); exact rfl)) | ((with_reducible apply rpL); (refine does_callX [] [] (ups := [(1001, .var 3 [.d (iD (st + 1))])]) rfl (c1) rfl ?_ rfl ?_ ?_ rfl rfl rfl rfl rfl ?_ rfl rfl; (focus repeat' (first | exact trivial | exact rfl | refine And.intro ?_ ?_)); (focus repeat' (first | exact trivial | exact inB_px rfl | refine And.intro ?_ ?_)); (focus repeat' (first | exact trivial | exact inB_px rfl | refine And.intro ?_ ?_)); (focus repeat' (first | exact trivial | exact inB_px rfl | refine And.intro ?_ ?_))); exact lapp_nil _) | ((with_reducible apply aw_cond); exact rfl; (focus (intro hd; (cases hd; done))); (intro hd; clear hd)))
      refine ⟨ks.length - (k + 1), _, by omega, ?_, k + 1, st + 1, by omega, rfl, hf, hstep st key v ((ks.zip vs).drop (k + 1)) hi, rfl⟩
      refine forget_of [] (by repeat' (first | exact ks_nil | (refine ks_cons rfl (by exact SubA.refl _) ?_))) (by repeat' (first | exact trivial | exact rfl | refine And.intro ?_ ?_)) rfl (by repeat' (first | exact trivial | exact inB_ow rfl | exact inB_px rfl | refine And.intro ?_ ?_)) (by repeat' (first | exact trivial | exact inB_ow rfl | exact inB_px rfl | refine And.intro ?_ ?_))
    · have hkl : k = ks.length := by simp at hd; omega
      subst hkl
      rw [leaf_end hvs] at hf
      have hf : st = s9 := hf
      subst hf
      repeat (first | (refine aw_after (id := 8) mixed ?_; (with_reducible apply aw_reg)) | (with_reducible apply rp_nil) | ((with_reducible apply rp); first | ((with_reducible apply does_move); (conv => lhs; whnf)) | ((with_reducible apply does_fieldAddr); exact tyOk rfl; exact rfl; exact rfl; decide; exact rfl) | ((with_reducible apply does_load_var); exact tyOk rfl; exact rfl; exact rfl; exact rfl; exact rfl) | ((with_reducible apply does_gt); exact rfl; exact rfl) | ((with_reducible apply does_len_ow); exact tyOk rfl; exact rfl; exact rfl) | ((with_reducible apply does_nilCheck); exact rfl)))
      refine after1 (fun C ac w h => ent_shut (Q := TQ) (ks := ks) (vs := vs) (ts := []) 1000 3001 3002 3003 rfl rfl rfl rfl (by decide) h) ?_
      repeat (first | (with_reducible first | apply ae_norm | apply xf_norm | apply aw_skip) | ((with_reducible apply aw_cond); exact rfl; (focus (intro hd; (cases hd; done))); (intro hd; clear hd)))
      (with_reducible apply retxf_ok (l := [])); (focus (repeat' (with_reducible apply rv_nil))); exact rfl; exact SubD.refl _; refine ⟨(by repeat' (first | exact ks_nil | (refine ks_cons rfl (by exact SubA.refl _) ?_))), (by repeat' (first | exact trivial | exact rfl | refine And.intro ?_ ?_)), rfl, (by repeat' (first | exact trivial | exact inB_px rfl | refine And.intro ?_ ?_)), (by repeat' (first | exact trivial | exact inB_px rfl | refine And.intro ?_ ?_))⟩
theorem each_n_node (s0 s9 : Int) (ks : List ByteArray) (vs : List Int) (ts : List Tn) (hks : ks.length ≤ 3) (hvs : vs.length = ks.length) (hts : ts.length = ks.length + 1) (hI : (fun (s : Int) (l : List (ByteArray × Int)) => 0 ≤ s ∧ s + l.length ≤ 1000000) s0 (weave (ks.zip vs) (itemsF ts))) (hF : foldS (fun (s : Int) (_ : ByteArray) (_ : Int) => s + 1) s0 (weave (ks.zip vs) (itemsF ts)) = s9) (ih : ∀ (j : Nat) (t : Tn), ts[j]? = some t → ∀ s, (fun (s : Int) (l : List (ByteArray × Int)) => 0 ≤ s ∧ s + l.length ≤ 1000000) s (items t) → EachPX_n s t (foldS (fun (s : Int) (_ : ByteArray) (_ : Int) => s + 1) s (items t))) : EachPX_n s0 (.node ks vs ts) s9 := by
  unfold EachPX_n
  have hstep : ∀ s k v r, (fun (s : Int) (l : List (ByteArray × Int)) => 0 ≤ s ∧ s + l.length ≤ 1000000) s ((k, v) :: r) → (fun (s : Int) (l : List (ByteArray × Int)) => 0 ≤ s ∧ s + l.length ≤ 1000000) ((fun (s : Int) (_ : ByteArray) (_ : Int) => s + 1) s k v) r := fun s k v r h => ⟨by have := h.1; show 0 ≤ s + 1; omega, by have := h.2; simp only [List.length_cons] at this; show s + 1 + _ ≤ _; omega⟩
  refine pxf_of_aw Tryd.func25 rfl (by kernel_rfl) mixed (by kernel_rfl) (by rw [Tryd.ntmps25]; exact Nat.le_of_ble_eq_true rfl) Tryd.results25 rfl ?_
  repeat (with_reducible apply aw_seq)
  repeat (first | (refine aw_exR1 (id := 1) mixed (fun C ac w h => ent_open (Q := TQ) 1000 3001 3002 3003 rfl rfl rfl rfl (by decide) (by decide) (by decide) h) ?_; (with_reducible apply aw_reg)) | (with_reducible first | apply aw_reg | apply rp_nil | apply ae_norm | apply aw_block) | ((with_reducible apply rp); first | (exact does_eq_px ptrNode rfl rfl) | ((with_reducible apply does_move); (conv => lhs; whnf)) | ((with_reducible apply does_fieldAddr); exact tyOk rfl; exact rfl; exact rfl; decide; exact rfl) | ((with_reducible apply does_load_var); exact tyOk rfl; exact rfl; exact rfl; exact rfl; exact rfl) | ((with_reducible apply does_len_ow); exact tyOk rfl; exact rfl; exact rfl) | ((with_reducible apply does_nilCheck); exact rfl)) | ((with_reducible apply aw_cond); exact rfl; (focus (intro hd; (cases hd; done))); (intro hd; clear hd)))
  refine aw_loop (fun n s => ∃ k st, k ≤ ks.length ∧ n = ks.length - k ∧ foldS (fun (s : Int) (_ : ByteArray) (_ : Int) => s + 1) st (weave ((ks.zip vs).drop k) ((itemsF ts).drop k)) = s9 ∧ (fun (s : Int) (l : List (ByteArray × Int)) => 0 ≤ s ∧ s + l.length ≤ 1000000) st (weave ((ks.zip vs).drop k) ((itemsF ts).drop k)) ∧
      s = ⟨[(0, .px 1000 0), (1, .fn (.func 27) [] [.px 1001 0]), (11, .ow 3001 ks.length), (12, .d (iD ks.length)), (13, .d (iD k))], [(1000, .var TQ.T [.ow 3001 ks.length, .ow 3002 vs.length, .ow 3003 (ts : List Tn).length]), (3001, .row TQ.K 1 (ks.map strE)), (3002, .row TQ.V 1 (vs.map intE)), (3003, .res (kidsR TQ ts)), (1001, .var 3 [.d (iD (st))])]⟩) _ _ ?_ ⟨0, s0, by omega, rfl, hF, hI, rfl⟩ ?_
  · refine forget_of [] (by repeat' (first | exact ks_nil | (refine ks_cons rfl (by exact SubA.refl _) ?_))) (by repeat' (first | exact trivial | exact rfl | refine And.intro ?_ ?_)) rfl (by repeat' (first | exact trivial | exact inB_ow rfl | exact inB_px rfl | refine And.intro ?_ ?_)) (by repeat' (first | exact trivial | exact inB_ow rfl | exact inB_px rfl | refine And.intro ?_ ?_))
  · rintro n s1 ⟨k, st, hk, rfl, hf, hi, rfl⟩
    repeat (first | (with_reducible first | apply aw_seq | apply aw_reg | apply rp_nil | apply ae_norm) | ((with_reducible apply rp); ((with_reducible apply does_lt); exact rfl; exact rfl)))
    refine aw_cond rfl (fun hd => ?_) (fun hd => ?_)
    · have hlt : k < ks.length := by simpa using hd
      obtain ⟨key, hg⟩ : ∃ g, ks[k]? = some g := ⟨_, List.getElem?_eq_getElem hlt⟩
      obtain ⟨v, hv⟩ : ∃ g, vs[k]? = some g := ⟨_, List.getElem?_eq_getElem (by omega)⟩
      obtain ⟨l1, t0, l2, hts2, hl1⟩ := split_at (show k < ts.length by omega)
      have ht0 : ts[k]? = some t0 := by rw [hts2, ← hl1]; simp
      rw [weave_step hg hv ht0] at hf
      try rw [weave_step hg hv ht0] at hi
      have hpos : decide ((ts.length : Int) > 0) = true := decide_eq_true (by omega)
      have c0 := ih k t0 ht0 st ⟨hi.1, by have := hi.2; rw [List.length_append] at this; omega⟩
      have hi1 := inv_fold (f := (fun (s : Int) (_ : ByteArray) (_ : Int) => s + 1)) (Inv := (fun (s : Int) (l : List (ByteArray × Int)) => 0 ≤ s ∧ s + l.length ≤ 1000000)) hstep (items t0) ((key, v) :: weave ((ks.zip vs).drop (k + 1)) ((itemsF ts).drop (k + 1))) st hi
      have hf1 := hf
      unfold foldS at hf1
      rw [List.foldl_append] at hf1
      generalize hst1 : foldS (fun (s : Int) (_ : ByteArray) (_ : Int) => s + 1) st (items t0) = st1 at *
      have hst1 : List.foldl _ st (items t0) = st1 := hst1
      rw [hst1] at hf1
      unfold EachPX_n at c0
      repeat (first | (refine aw_after (id := 5) mixed ?_; (with_reducible apply aw_reg)) | (with_reducible first | apply aw_seq | apply aw_reg | apply rp_nil | apply ae_norm | apply aw_block | apply aw_skip) | ((with_reducible apply rp); first | ((with_reducible apply does_move); (conv => lhs; whnf)) | ((with_reducible apply does_assign); (conv => lhs; whnf)) | ((with_reducible apply does_fieldAddr); exact tyOk rfl; exact rfl; exact rfl; decide; exact rfl) | ((with_reducible apply does_load_var); exact tyOk rfl; exact rfl; exact rfl; exact rfl; exact rfl) | ((with_reducible apply does_load_own); exact tyOk rfl; exact rfl; exact rfl; exact rfl; exact map_get (by assumption); exact rfl) | ((with_reducible apply does_index_own); exact tyOk rfl; exact rfl; exact tyOk rfl; exact rfl; exact rfl; exact rfl; omega) | ((with_reducible apply does_gt); exact rfl; exact rfl) | ((with_reducible apply does_len_ow); exact tyOk rfl; exact rfl; exact rfl) | ((with_reducible apply does_nilCheck); exact rfl)) | ((with_reducible apply rp2); (exact does_load_kid (Q := TQ) (l1 := l1) (l2 := l2) (t0 := t0) (tyOk rfl) rfl rfl (by rw [← hts2]; exact rfl) hl1 rfl)) | ((with_reducible apply rpL); (refine does_callX [(1000, 30)] [(1000, 30)] (ups := [(30, .res (treeR TQ t0)), (1001, .var 3 [.d (iD (st1))])]) rfl (c0) rfl ?_ rfl ?_ ?_ rfl rfl rfl rfl rfl ?_ rfl rfl; (focus repeat' (first | exact trivial | exact rfl | refine And.intro ?_ ?_)); (focus repeat' (first | exact trivial | exact inB_px rfl | refine And.intro ?_ ?_)); (focus repeat' (first | exact trivial | exact inB_px rfl | refine And.intro ?_ ?_)); (focus repeat' (first | exact trivial | exact inB_px rfl | refine And.intro ?_ ?_))); exact lapp_nil _) | ((with_reducible apply aw_cond); exact rfl; rotate_left; (focus (intro hd; (exact absurd (hd.symm.trans (by assumption : _ = true)) (by decide)))); (intro hd; clear hd)))
      refine after1 (fun C ac w h => ent_kback (Q := TQ) 3003 30 rfl rfl h) ?_
      rw [← hts2]
      have c1 := count_px key v st1 (by have := hi1.1; omega) (by have := hi1.2; simp only [List.length_cons] at this; omega)
      repeat (first | (with_reducible first | apply aw_reg | apply rp_nil | apply ae_norm | apply be_norm) | ((with_reducible apply rp); first | ((with_reducible apply does_move); (conv => lhs; whnf)) | ((with_reducible apply does_fieldAddr); exact tyOk rfl; exact rfl; exact rfl; decide; exact rfl) | ((with_reducible apply does_load_var); exact tyOk rfl; exact rfl; exact rfl; exact rfl; exact rfl) | ((with_reducible apply does_load_own); exact tyOk rfl; exact rfl; exact rfl; exact rfl; exact map_get (by assumption); exact rfl) | ((with_reducible apply does_index_own); exact tyOk rfl; exact rfl; exact tyOk rfl; exact rfl; exact rfl; exact rfl; omega) | ((with_reducible apply does_add); exact rfl; exact rfl; omega; omega) | ((with_reducible apply does_nilCheck); exact rfl)) | ((with_reducible apply rpL); (refine does_callX [] [] (ups := [(1001, .var 3 [.d (iD (st1 + 1))])]) rfl (c1) rfl ?_ rfl ?_ ?_ rfl rfl rfl rfl rfl ?_ rfl rfl; (focus repeat' (first | exact trivial | exact rfl | refine And.intro ?_ ?_)); (focus repeat' (first | exact trivial | exact inB_px rfl | refine And.intro ?_ ?_)); (focus repeat' (first | exact trivial | exact inB_px rfl | refine And.intro ?_ ?_)); (focus repeat' (first | exact trivial | exact inB_px rfl | refine And.intro ?_ ?_))); exact lapp_nil _))
      refine ⟨ks.length - (k + 1), _, by omega, ?_, k + 1, st1 + 1, by omega, rfl, hf1, hstep st1 key v (weave ((ks.zip vs).drop (k + 1)) ((itemsF ts).drop (k + 1))) hi1, rfl⟩
      refine forget_of [] (by repeat' (first | exact ks_nil | (refine ks_cons rfl (by exact SubA.refl _) ?_))) (by repeat' (first | exact trivial | exact rfl | refine And.intro ?_ ?_)) rfl (by repeat' (first | exact trivial | exact inB_ow rfl | exact inB_px rfl | refine And.intro ?_ ?_)) (by repeat' (first | exact trivial | exact inB_ow rfl | exact inB_px rfl | refine And.intro ?_ ?_))
    · have hkl : k = ks.length := by simp at hd; omega
      subst hkl
      obtain ⟨l1, t0, l2, hts2, hl1⟩ := split_at (show ks.length < ts.length by omega)
      have ht0 : ts[ks.length]? = some t0 := by rw [hts2, ← hl1]; simp
      rw [weave_end hvs hts ht0] at hf
      try rw [weave_end hvs hts ht0] at hi
      have hpos : decide ((ts.length : Int) > 0) = true := decide_eq_true (by omega)
      have hltk : ks.length < ts.length := by omega
      have c0 := ih ks.length t0 ht0 st hi
      have hf : foldS _ st (items t0) = s9 := hf
      rw [hf] at c0
      unfold EachPX_n at c0
      repeat (first | (refine aw_after (id := 9) mixed ?_; (with_reducible apply aw_regD)) | (with_reducible first | apply aw_seq | apply aw_reg | apply rp_nil | apply ae_norm | apply aw_exit | apply ae_exit | apply be_exit) | ((with_reducible apply dr_nil); (first | kernel_rfl | exact rfl)) | ((with_reducible first | apply rp | apply dr); first | ((with_reducible apply does_move); (conv => lhs; whnf)) | ((with_reducible apply does_fieldAddr); exact tyOk rfl; exact rfl; exact rfl; decide; exact rfl) | ((with_reducible apply does_load_var); exact tyOk rfl; exact rfl; exact rfl; exact rfl; exact rfl) | ((with_reducible apply does_index_own); exact tyOk rfl; exact rfl; exact tyOk rfl; exact rfl; exact rfl; exact rfl; omega) | ((with_reducible apply does_gt); exact rfl; exact rfl) | ((with_reducible apply does_len_ow); exact tyOk rfl; exact rfl; exact rfl) | ((with_reducible apply does_nilCheck); exact rfl)) | ((with_reducible apply dr2); (exact does_load_kid (Q := TQ) (l1 := l1) (l2 := l2) (t0 := t0) (tyOk rfl) rfl rfl (by rw [← hts2]; exact rfl) hl1 rfl)) | ((with_reducible apply drL); (refine does_callX [(1000, 60)] [(1000, 60)] (ups := [(60, .res (treeR TQ t0)), (1001, .var 3 [.d (iD (s9))])]) rfl (c0) rfl ?_ rfl ?_ ?_ rfl rfl rfl rfl rfl ?_ rfl rfl; (focus repeat' (first | exact trivial | exact rfl | refine And.intro ?_ ?_)); (focus repeat' (first | exact trivial | exact inB_px rfl | refine And.intro ?_ ?_)); (focus repeat' (first | exact trivial | exact inB_px rfl | refine And.intro ?_ ?_)); (focus repeat' (first | exact trivial | exact inB_px rfl | refine And.intro ?_ ?_))); exact lapp_nil _) | ((with_reducible apply aw_cond); exact rfl; rotate_left; (focus (intro hd; (exact absurd (hd.symm.trans (by assumption : _ = true)) (by decide)))); (intro hd; clear hd)))
      refine after1 (fun C ac w h => ent_shut (Q := TQ) (ks := ks) (vs := vs) (ts := ts) 1000 3001 3002 3003 rfl rfl rfl (by rw [hts2]; rfl) (by decide) (ent_kback (Q := TQ) 3003 60 rfl rfl h)) ?_
      repeat (first | (with_reducible apply xf_norm))
      (with_reducible apply retxf_ok (l := [])); (focus (repeat' (with_reducible apply rv_nil))); exact rfl; exact SubD.refl _; refine ⟨(by repeat' (first | exact ks_nil | (refine ks_cons rfl (by exact SubA.refl _) ?_))), (by repeat' (first | exact trivial | exact rfl | refine And.intro ?_ ?_)), rfl, (by repeat' (first | exact trivial | exact inB_px rfl | refine And.intro ?_ ?_)), (by repeat' (first | exact trivial | exact inB_px rfl | refine And.intro ?_ ?_))⟩
theorem each_n_nil (s0 : Int) : PX Tryd.prog 25 [.d (.sc (.pointer none)), .fn (.func 27) [] [.px 1001 0]] [(1001, .var 3 [.d (iD (s0))])] [] (.tu []) [(1001, .var 3 [.d (iD (s0))])] [] := by
  refine pxf_of_aw Tryd.func25 rfl (by kernel_rfl) mixed (by kernel_rfl) (by rw [Tryd.ntmps25]; exact Nat.le_of_ble_eq_true rfl) Tryd.results25 rfl ?_
  repeat (with_reducible apply aw_seq)
  repeat (first | (with_reducible first | apply aw_reg | apply rp_nil | apply ae_norm | apply aw_ret | apply ae_ret | apply xf_ret) | ((with_reducible apply rp); first | (exact does_eq_nn ptrNode rfl rfl) | ((with_reducible apply does_move); (conv => lhs; whnf))) | ((with_reducible apply aw_cond); exact rfl; rotate_left; (focus (intro hd; (cases hd; done))); (intro hd; clear hd)))
  (with_reducible apply retxf_ok (l := [])); (focus (repeat' (with_reducible apply rv_nil))); exact rfl; exact SubD.refl _; refine ⟨(by repeat' (first | exact ks_nil | (refine ks_cons rfl (by exact SubA.refl _) ?_))), (by repeat' (first | exact trivial | exact rfl | refine And.intro ?_ ?_)), rfl, (by repeat' (first | exact trivial | exact inB_px rfl | refine And.intro ?_ ?_)), (by repeat' (first | exact trivial | exact inB_px rfl | refine And.intro ?_ ?_))⟩
theorem each_n : ∀ (h : Nat) (t : Tn), Sh h t → ∀ s, (fun (s : Int) (l : List (ByteArray × Int)) => 0 ≤ s ∧ s + l.length ≤ 1000000) s (items t) → EachPX_n s t (foldS (fun (s : Int) (_ : ByteArray) (_ : Int) => s + 1) s (items t))
  | 0, .node ks vs ts, hs, s, hI => by
    obtain ⟨h1, h2, h3, rfl⟩ := hs
    try rw [items, itemsF, weave_leaf] at hI
    rw [items, itemsF, weave_leaf]
    exact each_n_leaf s _ ks vs h3 h1 hI rfl
  | h + 1, .node ks vs ts, hs, s, hI => by
    obtain ⟨h1, h2, h3, h4, h5⟩ := hs
    try rw [items] at hI
    rw [items]
    exact each_n_node s _ ks vs ts h3 h1 h4 hI rfl fun j t ht => each_n h t (h5 t (List.mem_of_getElem? ht))
end Go.Proofs.YtfplkakfakdfhaaDoor

