/-
  code.Encode: the bytes of a row. No condition but the sizes.
-/
import Derived.Test.YtclhmdobhlalmaaDoorZEnc1
import Derived.Test.YtclhmdobhlalmaaDoorZVals
namespace Go.Proofs.YtclhmdobhlalmaaDoor
set_option linter.unusedSimpArgs false
set_option linter.unusedVariables false
open Go.RowKit

/-- Bit i of a number. -/
def opnB (w : Int) (i : Nat) : Bool := bitV .and .i64 (w.fdiv (2 ^ (min ((i : Nat) : Int).toNat IntKind.i64.bits))) 1 == 1
def flipB (b : Bool) (c : UInt8) : UInt8 := if b = true then 255 ^^^ c else c
def encF (d : Int) : Nat → List Vl → List UInt8
  | _, [] => []
  | i, v :: l => (oneF v).map (flipB (opnB d i)) ++ encF d (i + 1) l
theorem encF_app (d : Int) : ∀ (i : Nat) (l m : List Vl), encF d i (l ++ m) = encF d i l ++ encF d (i + l.length) m
  | i, [], m => rfl
  | i, v :: l, m => by
    rw [List.cons_append, encF, encF, encF_app d (i + 1) l m, List.append_assoc, List.length_cons, show i + 1 + l.length = i + (l.length + 1) by omega]
theorem encK_len (d : Int) : ∀ (i : Nat) (l : List Vl), (∀ v ∈ l, Gk v) → (encF d i l).length ≤ 83 * l.length ∧ l.length ≤ (encF d i l).length
  | i, [], _ => by simp [encF]
  | i, v :: l, h => by
    have h1 := encK_len d (i + 1) l fun v hv => h v (List.mem_cons_of_mem _ hv)
    have h2 := oneF_len (h v List.mem_cons_self)
    rw [encF, List.length_append, List.length_map, List.length_cons]
    omega
theorem encF_len (d : Int) (i : Nat) (l : List Vl) (h : ∀ v ∈ l, Gd v) : (encF d i l).length ≤ 83 * l.length ∧ l.length ≤ (encF d i l).length := encK_len d i l fun v hv => (h v hv).gk
theorem encF_take (d : Int) {l : List Vl} {k : Nat} {v : Vl} (h : l[k]? = some v) : encF d 0 (l.take (k + 1)) = encF d 0 (l.take k) ++ (oneF v).map (flipB (opnB d k)) := by
  have hk : k < l.length := (List.getElem?_eq_some_iff.1 h).1
  have e : l.take (k + 1) = l.take k ++ [v] := by rw [List.take_add_one, h]; rfl
  rw [e, encF_app, List.length_take, Nat.min_eq_left (by omega), Nat.zero_add]
  simp [encF]
set_option maxHeartbeats 2000000 in
theorem EncodeK_pc (l : List Vl) (d : Int) (hl : l.length ≤ 5) (hk2 : ∀ v ∈ l, Gk v ∧ chkV v = 0) : PC Tryd.prog 22 [valsD l, iD d] (.tu [byD (encF d 0 l), iD 0]) := by
  refine pc_of_aw Tryd.func22 rfl (by kernel_rfl) mixed (by kernel_rfl) (by rw [Tryd.ntmps22]; exact Nat.le_of_ble_eq_true rfl) Tryd.results22 ?_
  repeat (first | (with_reducible apply aw_seq) | (with_reducible apply aw_reg) | (with_reducible apply rp_nil) | (with_reducible apply ae_norm) | ((with_reducible apply be_other); exact rfl) | ((with_reducible apply dr_nil); first | kernel_rfl | exact rfl) | ((first | (with_reducible apply rp) | (with_reducible apply dr)); first | ((with_reducible apply does_move); (conv => lhs; whnf)) | ((with_reducible apply does_assign); (conv => lhs; whnf)) | ((with_reducible apply does_gt); exact rfl; exact rfl) | ((with_reducible apply does_len_map); exact tyOk rfl; exact rfl; exact rfl)))
  refine aw_cond rfl (fun hd => absurd hd (by simp; omega)) (fun hd => ?_)
  clear hd
  repeat (first | (with_reducible apply aw_seq) | (with_reducible apply aw_reg) | (with_reducible apply rp_nil) | (with_reducible apply ae_norm) | (with_reducible apply aw_block) | (with_reducible apply aw_skip) | ((with_reducible apply be_other); exact rfl) | ((with_reducible apply dr_nil); first | kernel_rfl | exact rfl) | ((first | (with_reducible apply rp) | (with_reducible apply dr)); first | ((with_reducible apply does_move); (conv => lhs; whnf)) | ((with_reducible apply does_assign); (conv => lhs; whnf)) | ((with_reducible apply does_len_map); exact tyOk rfl; exact rfl; exact rfl)))
  refine aw_loop (fun m s => ∃ k, k ≤ l.length ∧ m = l.length - k ∧ s = ⟨[(1, .d (iD d)), (6, .ow 1000 (encF d 0 (l.take k)).length), (15, .d (valsD l)), (16, .d (iD l.length)), (17, .d (iD k))], [(1000, .row 5 1 ((encF d 0 (l.take k)).map fun c => [u8D c]))]⟩) _ _ ?_ ⟨0, by omega, rfl, rfl⟩ ?_
  · refine Ent.trans (ent_nil 6 1000 5 1 rfl rfl) ?_
    refine forget_of [] (by repeat' (first | exact ks_nil | (refine ks_cons rfl (by first | exact SubA.refl _ | exact SubA.d (SubD.nil _) | exact subA_ow (by first | rfl | (simp; done) | (simp; omega)) | exact subA_i (by first | rfl | (simp; done) | (simp; omega) | omega) | (refine SubA.of_eq ?_; first | rfl | (simp; done) | (simp; omega))) ?_))) (by repeat' (first | exact trivial | exact rfl | exact kb_d rfl | refine And.intro ?_ ?_)) rfl (by repeat' (first | exact trivial | exact insB_map _ | exact inB_ow rfl | exact inB_px rfl | exact inB_pr rfl | refine And.intro ?_ ?_)) (by repeat' (first | exact trivial | exact insB_map _ | exact inB_ow rfl | exact inB_px rfl | exact inB_pr rfl | refine And.intro ?_ ?_))
  · rintro m s ⟨k, hk, rfl, rfl⟩
    repeat (first | (with_reducible apply aw_seq) | (with_reducible apply aw_reg) | (with_reducible apply rp_nil) | (with_reducible apply ae_norm) | ((with_reducible apply be_other); exact rfl) | ((with_reducible apply dr_nil); first | kernel_rfl | exact rfl) | ((first | (with_reducible apply rp) | (with_reducible apply dr)); first | ((with_reducible apply does_lt); exact rfl; exact rfl)))
    refine aw_cond rfl (fun hd => ?_) (fun hd => ?_)
    · have hlt : k < l.length := by simp at hd; omega
      clear hd
      obtain ⟨v, hv⟩ : ∃ v, l[k]? = some v := ⟨_, List.getElem?_eq_getElem hlt⟩
      have hv2 : (l.map Vl.cs)[k]? = some v.cs := by rw [List.getElem?_map, hv]; rfl
      obtain ⟨hgv, hcv⟩ := hk2 v (List.mem_of_getElem? hv)
      have c1 := check_pc v (Nat.le_trans hgv.size (by decide))
      rw [hcv] at c1
      have o1 := one_pc v hgv
      have oL := oneF_len hgv
      have hT := encF_take d hv
      have hN := (encK_len d 0 (l.take k) fun v hv => (hk2 v (List.mem_of_mem_take hv)).1).1
      rw [List.length_take] at hN
      have hN : (encF d 0 (l.take k)).length ≤ 415 := by omega
      clear hk2 hgv
      generalize encF d 0 (l.take k) = o at *
      obtain ⟨vk, vn, vb, vt⟩ := v
      generalize oneF ⟨vk, vn, vb, vt⟩ = q at *
      unfold Vl.cs at *
      dsimp only at *
      repeat (first | (with_reducible apply aw_seq) | (with_reducible apply aw_reg) | (with_reducible apply rp_nil) | (with_reducible apply ae_norm) | (with_reducible apply aw_block) | (with_reducible apply aw_skip) | ((with_reducible apply be_other); exact rfl) | ((with_reducible apply dr_nil); first | kernel_rfl | exact rfl) | ((first | (with_reducible apply rp) | (with_reducible apply dr)); first | ((with_reducible apply does_call_flat); exact rfl; exact rfl; exact (c1); exact rfl) | ((with_reducible apply does_call'); exact rfl; exact rfl; exact rfl; exact (c1)) | ((with_reducible apply does_move); (conv => lhs; whnf)) | ((with_reducible apply does_assign); (conv => lhs; whnf)) | ((with_reducible apply does_load_var); exact tyOk rfl; exact rfl; exact rfl; exact rfl; exact rfl) | ((with_reducible apply does_load_elem); exact tyOk rfl; exact rfl; exact rfl; (first | assumption | exact map_get (by assumption) | exact rfl); exact rfl) | ((with_reducible apply does_load_own); exact tyOk rfl; exact rfl; exact rfl; exact rfl; (first | assumption | exact map_get (by assumption) | exact rfl); exact rfl) | ((with_reducible apply does_load_row); exact tyOk rfl; exact rfl; exact rfl; exact rfl; (first | exact Nat.le_of_ble_eq_true rfl | omega | (simp; omega)); exact rfl) | ((with_reducible apply does_load_elem_whole); exact tyOk rfl; exact rfl; exact rfl; (first | assumption | exact map_get (by assumption) | exact rfl); exact rfl) | ((with_reducible apply does_index_sl); exact tyOk rfl; exact rfl; exact tyOk rfl; exact rfl; exact rfl; exact rfl; exact rfl; (first | omega | (dsimp only; omega) | (dsimp only; simp only [List.length_map, List.length_append, List.length_cons, List.length_nil] at *; omega) | (simp only [List.length_map, List.length_append, List.length_cons, List.length_nil] at *; omega) | (simp; omega))) | ((with_reducible apply does_ne); exact rfl; exact rfl)) | ((first | (with_reducible apply rp1) | (with_reducible apply dr1)); first | ((with_reducible apply does_call1); exact rfl; exact rfl; exact rfl; exact (c1)) | ((with_reducible apply does_alloc); exact tyOk rfl; exact rfl)) | ((first | (with_reducible apply rpN) | (with_reducible apply drN)); first | ((with_reducible apply does_store); exact tyOk rfl; exact rfl; exact rfl; (conv => lhs; whnf); exact rfl; exact rfl; (first | exact Nat.le_of_ble_eq_true rfl | omega | (simp; omega))) | ((with_reducible apply does_store_whole); exact tyOk rfl; exact rfl; exact rfl; exact rfl; exact rfl; exact rfl)))
      refine aw_cond rfl (fun hd => (by cases hd)) (fun hd => ?_)
      clear hd
      repeat (first | (with_reducible apply aw_seq) | (with_reducible apply aw_reg) | (with_reducible apply rp_nil) | (with_reducible apply ae_norm) | (with_reducible apply aw_block) | (with_reducible apply aw_skip) | ((with_reducible apply be_other); exact rfl) | ((with_reducible apply dr_nil); first | kernel_rfl | exact rfl) | ((first | (with_reducible apply rp) | (with_reducible apply dr)); first | ((with_reducible apply does_call_flat); exact rfl; exact rfl; exact (o1); exact rfl) | ((with_reducible apply does_call'); exact rfl; exact rfl; exact rfl; exact (o1)) | ((with_reducible apply does_move); (conv => lhs; whnf)) | ((with_reducible apply does_load_var); exact tyOk rfl; exact rfl; exact rfl; exact rfl; exact rfl) | ((with_reducible apply does_load_elem); exact tyOk rfl; exact rfl; exact rfl; (first | assumption | exact map_get (by assumption) | exact rfl); exact rfl) | ((with_reducible apply does_load_own); exact tyOk rfl; exact rfl; exact rfl; exact rfl; (first | assumption | exact map_get (by assumption) | exact rfl); exact rfl) | ((with_reducible apply does_load_row); exact tyOk rfl; exact rfl; exact rfl; exact rfl; (first | exact Nat.le_of_ble_eq_true rfl | omega | (simp; omega)); exact rfl) | ((with_reducible apply does_len_map); exact tyOk rfl; exact rfl; exact rfl)) | ((first | (with_reducible apply rp1) | (with_reducible apply dr1)); first | ((with_reducible apply does_call1); exact rfl; exact rfl; exact rfl; exact (o1))))
      refine aw_loop (fun m s => ∃ j, j ≤ q.length ∧ m = q.length - j ∧ s = ⟨[(1, .d (iD d)), (6, .ow 1000 (o.length + j)), (7, .d (iD k)), (15, .d (valsD l)), (16, .d (iD l.length)), (17, .d (iD k)), (28, .d (byD q)), (29, .d (iD q.length)), (30, .d (iD j))], [(1000, .row 5 1 ((o ++ (q.take j).map (flipB (opnB d k))).map fun c => [u8D c]))]⟩) _ _ ?_ ⟨0, by omega, rfl, rfl⟩ ?_
      · refine forget_of [] (by repeat' (first | exact ks_nil | (refine ks_cons rfl (by first | exact SubA.refl _ | exact SubA.d (SubD.nil _) | exact subA_ow (by first | rfl | (simp; done) | (simp; omega)) | exact subA_i (by first | rfl | (simp; done) | (simp; omega) | omega) | (refine SubA.of_eq ?_; first | rfl | (simp; done) | (simp; omega))) ?_))) ?_ rfl (by repeat' (first | exact trivial | exact insB_map _ | exact inB_ow rfl | exact inB_px rfl | exact inB_pr rfl | refine And.intro ?_ ?_)) (by repeat' (first | exact trivial | exact insB_map _ | exact inB_ow rfl | exact inB_px rfl | exact inB_pr rfl | refine And.intro ?_ ?_))
        exact kb_cons rfl (row_eq (by rw [List.take_zero, List.map_nil, List.append_nil])) kb_nil
      · rintro m s ⟨j, hj, rfl, rfl⟩
        repeat (first | (with_reducible apply aw_seq) | (with_reducible apply aw_reg) | (with_reducible apply rp_nil) | (with_reducible apply ae_norm) | ((with_reducible apply be_other); exact rfl) | ((with_reducible apply dr_nil); first | kernel_rfl | exact rfl) | ((first | (with_reducible apply rp) | (with_reducible apply dr)); first | ((with_reducible apply does_lt); exact rfl; exact rfl)))
        refine aw_cond rfl (fun hd => ?_) (fun hd => ?_)
        · have hlt2 : j < q.length := by simp at hd; omega
          clear hd
          obtain ⟨c, hc⟩ : ∃ c, q[j]? = some c := ⟨_, List.getElem?_eq_getElem hlt2⟩
          have e1 : (o ++ (q.take (j + 1)).map (flipB (opnB d k))).map (fun c => [u8D c]) = (o ++ (q.take j).map (flipB (opnB d k))).map (fun c => [u8D c]) ++ [[u8D (flipB (opnB d k) c)]] := by rw [List.take_add_one, hc]; simp
          have l1 : ((o ++ (q.take j).map (flipB (opnB d k))).map fun c => [u8D c]).length = o.length + j := by simp; omega
          generalize (o ++ (q.take j).map (flipB (opnB d k))).map (fun c => [u8D c]) = z at *
          generalize hw : o.length = w at *
          repeat (first | (with_reducible apply aw_seq) | (with_reducible apply aw_reg) | (with_reducible apply rp_nil) | (with_reducible apply ae_norm) | (with_reducible apply aw_block) | (with_reducible apply aw_skip) | ((with_reducible apply be_other); exact rfl) | ((with_reducible apply dr_nil); first | kernel_rfl | exact rfl) | ((first | (with_reducible apply rp) | (with_reducible apply dr)); first | ((with_reducible apply does_move); (conv => lhs; whnf)) | ((with_reducible apply does_assign); (conv => lhs; whnf)) | ((with_reducible apply does_load_var); exact tyOk rfl; exact rfl; exact rfl; exact rfl; exact rfl) | ((with_reducible apply does_load_elem); exact tyOk rfl; exact rfl; exact rfl; (first | assumption | exact map_get (by assumption) | exact rfl); exact rfl) | ((with_reducible apply does_index_sl); exact tyOk rfl; exact rfl; exact tyOk rfl; exact rfl; exact rfl; exact rfl; exact rfl; (first | omega | (dsimp only; omega) | (dsimp only; simp only [List.length_map, List.length_append, List.length_cons, List.length_nil] at *; omega) | (simp only [List.length_map, List.length_append, List.length_cons, List.length_nil] at *; omega) | (simp; omega))) | ((with_reducible apply does_eq); exact rfl; exact rfl) | ((with_reducible apply does_beq); exact tyOk rfl; exact rfl; exact rfl; exact rfl; exact rfl) | ((with_reducible apply does_bne); exact tyOk rfl; exact rfl; exact rfl; exact rfl; exact rfl) | ((with_reducible apply does_band); exact rfl; exact rfl) | ((with_reducible apply does_shr); exact rfl; exact rfl; omega)))
          refine aw_cond rfl (fun ho => ?_) (fun ho => ?_)
          · have ho : opnB d k = true := ho
            have hf : flipB (opnB d k) c = 255 ^^^ c := by rw [ho]; rfl
            rw [hf] at e1
            repeat (first | (with_reducible apply aw_reg) | (with_reducible apply rp_nil) | (with_reducible apply ae_norm) | (with_reducible apply be_norm) | ((with_reducible apply be_other); exact rfl) | ((with_reducible apply dr_nil); first | kernel_rfl | exact rfl) | ((first | (with_reducible apply rp) | (with_reducible apply dr)); first | (exact does_not8 rfl) | ((with_reducible apply does_move); (conv => lhs; whnf)) | ((with_reducible apply does_assign); (conv => lhs; whnf)) | ((with_reducible apply does_add); exact rfl; exact rfl; omega; omega)) | ((first | (with_reducible apply rp1) | (with_reducible apply dr1)); first | (exact does_not8 rfl) | ((with_reducible apply does_buildSlice); exact tyOk rfl; exact rfl; exact tyOk rfl; exact rfl; exact rfl; (focus repeat' (first | exact trivial | refine And.intro rfl (And.intro rfl ?_))); decide; decide; exact rfl) | ((with_reducible apply does_append_nil); exact tyOk rfl; exact rfl; exact tyOk rfl; exact rfl; exact rfl; decide; (first | omega | (dsimp only; omega) | (dsimp only; simp only [List.length_map, List.length_append, List.length_cons, List.length_nil] at *; omega) | (simp only [List.length_map, List.length_append, List.length_cons, List.length_nil] at *; omega) | (simp; omega)); (first | omega | (dsimp only; omega) | (dsimp only; simp only [List.length_map, List.length_append, List.length_cons, List.length_nil] at *; omega) | (simp only [List.length_map, List.length_append, List.length_cons, List.length_nil] at *; omega) | (simp; omega)); exact rfl)) | ((first | (with_reducible apply rp2) | (with_reducible apply dr2)); first | (exact does_not8 rfl) | ((with_reducible apply does_append_own); exact tyOk rfl; exact rfl; exact tyOk rfl; exact rfl; exact rfl; exact rfl; decide; (first | omega | (dsimp only; omega) | (dsimp only; simp only [List.length_map, List.length_append, List.length_cons, List.length_nil] at *; omega) | (simp only [List.length_map, List.length_append, List.length_cons, List.length_nil] at *; omega) | (simp; omega)); (first | omega | (dsimp only; omega) | (dsimp only; simp only [List.length_map, List.length_append, List.length_cons, List.length_nil] at *; omega) | (simp only [List.length_map, List.length_append, List.length_cons, List.length_nil] at *; omega) | (simp; omega)); exact rfl)) | ((first | (with_reducible apply rpN) | (with_reducible apply drN)); first | (exact does_not8 rfl)))
            refine ⟨_, _, ?_, ?_, j + 1, by omega, rfl, rfl⟩
            · omega
            · rw [e1]
              refine forget_of [(1000, 44)] (by repeat' (first | exact ks_nil | (refine ks_cons rfl (by first | exact SubA.refl _ | exact SubA.d (SubD.nil _) | exact subA_ow (by first | rfl | (simp; done) | (simp; omega)) | exact subA_i (by first | rfl | (simp; done) | (simp; omega) | omega) | (refine SubA.of_eq ?_; first | rfl | (simp; done) | (simp; omega))) ?_))) ?_ rfl (by repeat' (first | exact trivial | exact insB_map _ | exact inB_ow rfl | exact inB_px rfl | exact inB_pr rfl | refine And.intro ?_ ?_)) (by repeat' (first | exact trivial | exact insB_map _ | exact inB_ow rfl | exact inB_px rfl | exact inB_pr rfl | refine And.intro ?_ ?_))
              exact kb_cons rfl (row_eq rfl) kb_nil
          · have ho : opnB d k = false := ho
            have hf : flipB (opnB d k) c = c := by rw [ho]; rfl
            rw [hf] at e1
            repeat (first | (with_reducible apply aw_reg) | (with_reducible apply rp_nil) | (with_reducible apply ae_norm) | (with_reducible apply be_norm) | (with_reducible apply aw_skip) | ((with_reducible apply be_other); exact rfl) | ((with_reducible apply dr_nil); first | kernel_rfl | exact rfl) | ((first | (with_reducible apply rp) | (with_reducible apply dr)); first | ((with_reducible apply does_move); (conv => lhs; whnf)) | ((with_reducible apply does_assign); (conv => lhs; whnf)) | ((with_reducible apply does_add); exact rfl; exact rfl; omega; omega)) | ((first | (with_reducible apply rp1) | (with_reducible apply dr1)); first | ((with_reducible apply does_buildSlice); exact tyOk rfl; exact rfl; exact tyOk rfl; exact rfl; exact rfl; (focus repeat' (first | exact trivial | refine And.intro rfl (And.intro rfl ?_))); decide; decide; exact rfl) | ((with_reducible apply does_append_nil); exact tyOk rfl; exact rfl; exact tyOk rfl; exact rfl; exact rfl; decide; (first | omega | (dsimp only; omega) | (dsimp only; simp only [List.length_map, List.length_append, List.length_cons, List.length_nil] at *; omega) | (simp only [List.length_map, List.length_append, List.length_cons, List.length_nil] at *; omega) | (simp; omega)); (first | omega | (dsimp only; omega) | (dsimp only; simp only [List.length_map, List.length_append, List.length_cons, List.length_nil] at *; omega) | (simp only [List.length_map, List.length_append, List.length_cons, List.length_nil] at *; omega) | (simp; omega)); exact rfl)) | ((first | (with_reducible apply rp2) | (with_reducible apply dr2)); first | ((with_reducible apply does_append_own); exact tyOk rfl; exact rfl; exact tyOk rfl; exact rfl; exact rfl; exact rfl; decide; (first | omega | (dsimp only; omega) | (dsimp only; simp only [List.length_map, List.length_append, List.length_cons, List.length_nil] at *; omega) | (simp only [List.length_map, List.length_append, List.length_cons, List.length_nil] at *; omega) | (simp; omega)); (first | omega | (dsimp only; omega) | (dsimp only; simp only [List.length_map, List.length_append, List.length_cons, List.length_nil] at *; omega) | (simp only [List.length_map, List.length_append, List.length_cons, List.length_nil] at *; omega) | (simp; omega)); exact rfl)))
            refine ⟨_, _, ?_, ?_, j + 1, by omega, rfl, rfl⟩
            · omega
            · rw [e1]
              refine forget_of [(1000, 44)] (by repeat' (first | exact ks_nil | (refine ks_cons rfl (by first | exact SubA.refl _ | exact SubA.d (SubD.nil _) | exact subA_ow (by first | rfl | (simp; done) | (simp; omega)) | exact subA_i (by first | rfl | (simp; done) | (simp; omega) | omega) | (refine SubA.of_eq ?_; first | rfl | (simp; done) | (simp; omega))) ?_))) ?_ rfl (by repeat' (first | exact trivial | exact insB_map _ | exact inB_ow rfl | exact inB_px rfl | exact inB_pr rfl | refine And.intro ?_ ?_)) (by repeat' (first | exact trivial | exact insB_map _ | exact inB_ow rfl | exact inB_px rfl | exact inB_pr rfl | refine And.intro ?_ ?_))
              exact kb_cons rfl (row_eq rfl) kb_nil
        · have hje : j = q.length := by simp at hd; omega
          clear hd
          subst hje
          have eL : o.length + q.length = (encF d 0 (l.take (k + 1))).length := by rw [hT, List.length_append, List.length_map]
          have eT : o ++ (q.take q.length).map (flipB (opnB d k)) = encF d 0 (l.take (k + 1)) := by rw [hT, List.take_length]
          rw [eT, eL]
          generalize hz : encF d 0 (l.take (k + 1)) = z at *
          repeat (first | (with_reducible apply aw_reg) | (with_reducible apply rp_nil) | (with_reducible apply ae_norm) | (with_reducible apply aw_exit) | (with_reducible apply ae_exit) | (with_reducible apply be_exit) | (with_reducible apply be_norm) | ((with_reducible apply be_other); exact rfl) | ((with_reducible apply dr_nil); first | kernel_rfl | exact rfl) | ((first | (with_reducible apply rp) | (with_reducible apply dr)); first | ((with_reducible apply does_move); (conv => lhs; whnf)) | ((with_reducible apply does_add); exact rfl; exact rfl; omega; omega)))
          refine ⟨_, _, ?_, ?_, k + 1, by omega, rfl, rfl⟩
          · omega
          · rw [hz]
            refine forget_of [] (by repeat' (first | exact ks_nil | (refine ks_cons rfl (by first | exact SubA.refl _ | exact SubA.d (SubD.nil _) | exact subA_ow (by first | rfl | (simp; done) | (simp; omega)) | exact subA_i (by first | rfl | (simp; done) | (simp; omega) | omega) | (refine SubA.of_eq ?_; first | rfl | (simp; done) | (simp; omega))) ?_))) (by repeat' (first | exact trivial | exact rfl | exact kb_d rfl | refine And.intro ?_ ?_)) rfl (by repeat' (first | exact trivial | exact insB_map _ | exact inB_ow rfl | exact inB_px rfl | exact inB_pr rfl | refine And.intro ?_ ?_)) (by repeat' (first | exact trivial | exact insB_map _ | exact inB_ow rfl | exact inB_px rfl | exact inB_pr rfl | refine And.intro ?_ ?_))
    · have hke : k = l.length := by simp at hd; omega
      clear hd
      subst hke
      repeat (first | (with_reducible apply aw_seq) | (with_reducible apply aw_reg) | (with_reducible apply rp_nil) | (with_reducible apply ae_norm) | (with_reducible apply aw_exit) | (with_reducible apply ae_exit) | (with_reducible apply be_exit) | (with_reducible apply aw_ret) | (with_reducible apply re_ret) | ((with_reducible apply be_other); exact rfl) | ((with_reducible apply dr_nil); first | kernel_rfl | exact rfl) | ((first | (with_reducible apply rp) | (with_reducible apply dr)); first | ((with_reducible apply does_move); (conv => lhs; whnf)) | ((with_reducible apply does_assign); (conv => lhs; whnf))))
      (with_reducible apply ret_ok); (focus (repeat' (first | (with_reducible apply rv_nil) | (with_reducible apply rv_cons) | ((with_reducible apply rv_tmp); exact rfl) | ((with_reducible apply rv_cell); exact rfl; exact rfl; exact tyOk rfl; exact rfl; exact rfl) | ((with_reducible apply rv_rowd); exact rfl; exact rfl; exact tyOk rfl; exact rfl; (first | (with_reducible assumption) | exact rfl | ((try simp only [List.length_map]); first | assumption | omega) | (simp; omega))) | ((with_reducible apply rv_row); exact rfl; exact rfl; exact tyOk rfl; exact rfl; (first | exact Nat.le_of_ble_eq_true rfl | omega | (simp; omega)))))); (first | exact rfl | (focus repeat' (first | exact frzVs_one (frzV_map _ _) | exact rfl | (apply frzVs_cons; (first | exact frzV_map _ _ | exact rfl))))); refine SubD.of_eq ?_
      rw [List.take_length]
      rfl
theorem Encode_pc (l : List Vl) (d : Int) (hl : l.length ≤ 5) (hg : ∀ v ∈ l, Gd v) : PC Tryd.prog 22 [valsD l, iD d] (.tu [byD (encF d 0 l), iD 0]) := EncodeK_pc l d hl fun v hv => ⟨(hg v hv).gk, (hg v hv).chk⟩
end Go.Proofs.YtclhmdobhlalmaaDoor
