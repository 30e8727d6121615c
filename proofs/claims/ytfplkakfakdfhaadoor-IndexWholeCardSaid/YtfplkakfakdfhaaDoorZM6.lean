/-
  code.Encode: the bytes of a row. No condition but the sizes.
-/
import Derived.Test.YtfplkakfakdfhaaDoorZEnc1
import Derived.Test.YtfplkakfakdfhaaDoorZM5
namespace Go.Proofs.YtfplkakfakdfhaaDoor
set_option linter.unusedSimpArgs false
set_option linter.unusedVariables false
open Go.RowKit

/-- Bit i of a number. -/
def opnB (w : Int) (i : Nat) : Bool := bitV .and .i64 (w.fdiv (2 ^ (min ((i : Nat) : Int).toNat IntKind.i64.bits))) 1 == 1
def flipB (b : Bool) (c : UInt8) : UInt8 := if b = true then 255 ^^^ c else c
def encF (d : Int) : Nat → List Vl → List UInt8
  | _, [] => []
  | i, v :: l => (oneF v).map (flipB (opnB d i)) ++ encF d (i + 1) l
theorem encF_app (d : Int) : ∀ (i : Nat) (l m : List Vl), encF d i (l ++ m) = encF d i l ++ encF d (i + l.length) m
  | i, [], m => rfl
  | i, v :: l, m => by
    rw [List.cons_append, encF, encF, encF_app d (i + 1) l m, List.append_assoc, List.length_cons, show i + 1 + l.length = i + (l.length + 1) by omega]
theorem encK_len (d : Int) : ∀ (i : Nat) (l : List Vl), (∀ v ∈ l, Gk v) → (encF d i l).length ≤ 83 * l.length ∧ l.length ≤ (encF d i l).length
  | i, [], _ => by simp [encF]
  | i, v :: l, h => by
    have h1 := encK_len d (i + 1) l fun v hv => h v (List.mem_cons_of_mem _ hv)
    have h2 := oneF_len (h v List.mem_cons_self)
    rw [encF, List.length_append, List.length_map, List.length_cons]
    omega
theorem encF_len (d : Int) (i : Nat) (l : List Vl) (h : ∀ v ∈ l, Gd v) : (encF d i l).length ≤ 83 * l.length ∧ l.length ≤ (encF d i l).length := encK_len d i l fun v hv => (h v hv).gk
theorem encF_take (d : Int) {l : List Vl} {k : Nat} {v : Vl} (h : l[k]? = some v) : encF d 0 (l.take (k + 1)) = encF d 0 (l.take k) ++ (oneF v).map (flipB (opnB d k)) := by
  have hk : k < l.length := (List.getElem?_eq_some_iff.1 h).1
  have e : l.take (k + 1) = l.take k ++ [v] := by rw [List.take_add_one, h]; rfl
  rw [e, encF_app, List.length_take, Nat.min_eq_left (by omega), Nat.zero_add]
  simp [encF]
set_option maxHeartbeats 2000000 in
theorem EncodeK_pc (l : List Vl) (d : Int) (hl : l.length ≤ 5) (hk2 : ∀ v ∈ l, Gk v ∧ chkV v = 0) : PC Tryd.prog 30 [valsD l, iD d] (.tu [byD (encF d 0 l), iD 0]) := by
  refine pc_of_aw Tryd.func30 rfl (by kernel_rfl) mixed (by kernel_rfl) (by rw [Tryd.ntmps30]; exact Nat.le_of_ble_eq_true rfl) Tryd.results30 ?_
  repeat (first | (with_reducible apply aw_seq) | (with_reducible apply aw_reg) | (with_reducible apply rp_nil) | (with_reducible apply ae_norm) | ((with_reducible apply be_other); exact rfl) | ((with_reducible apply dr_nil); (first | kernel_rfl | exact rfl)) | ((with_reducible first | apply rp | apply dr); first | ((with_reducible apply does_move); (conv => lhs; whnf)) | ((with_reducible apply does_assign); (conv => lhs; whnf)) | ((with_reducible apply does_gt); exact rfl; exact rfl) | ((with_reducible apply does_len_map); exact tyOk rfl; exact rfl; exact rfl)))
  refine aw_cond rfl (fun hd => absurd hd (by simp; omega)) (fun hd => ?_)
  clear hd
  repeat (first | (with_reducible apply aw_seq) | (with_reducible apply aw_reg) | (with_reducible apply rp_nil) | (with_reducible apply ae_norm) | (with_reducible apply aw_block) | (with_reducible apply aw_skip) | ((with_reducible apply be_other); exact rfl) | ((with_reducible apply dr_nil); (first | kernel_rfl | exact rfl)) | ((with_reducible first | apply rp | apply dr); first | ((with_reducible apply does_move); (conv => lhs; whnf)) | ((with_reducible apply does_assign); (conv => lhs; whnf)) | ((with_reducible apply does_len_map); exact tyOk rfl; exact rfl; exact rfl)))
  refine aw_loop (fun m s => ∃ k, k ≤ l.length ∧ m = l.length - k ∧ s = ⟨[(1, .d (iD d)), (6, .ow 1000 (encF d 0 (l.take k)).length), (15, .d (valsD l)), (16, .d (iD l.length)), (17, .d (iD k))], [(1000, .row 5 1 ((encF d 0 (l.take k)).map fun c => [u8D c]))]⟩) _ _ ?_ ⟨0, by omega, rfl, rfl⟩ ?_
  · refine Ent.trans (ent_nil 6 1000 5 1 rfl rfl) ?_
    refine forget_of [] (by repeat' (first | exact ks_nil | (refine ks_cons rfl (by (first | exact SubA.refl _ | exact SubA.d (SubD.nil _) | exact subA_ow (by (first | rfl | (simp; done) | (simp; omega))) | exact subA_i (by (first | rfl | (simp; done) | (simp; omega) | omega)) | (refine SubA.of_eq ?_; (first | rfl | (simp; done) | (simp; omega))))) ?_))) (by repeat' (first | exact trivial | exact rfl | exact kb_d rfl | refine And.intro ?_ ?_)) rfl (by repeat' (first | exact trivial | exact insB_map _ | exact inB_ow rfl | exact inB_px rfl | exact inB_pr rfl | exact inB_sx rfl | refine And.intro ?_ ?_)) (by repeat' (first | exact trivial | exact insB_map _ | exact inB_ow rfl | exact inB_px rfl | exact inB_pr rfl | exact inB_sx rfl | refine And.intro ?_ ?_))
  · rintro m s ⟨k, hk, rfl, rfl⟩
    repeat (first | (with_reducible apply aw_seq) | (with_reducible apply aw_reg) | (with_reducible apply rp_nil) | (with_reducible apply ae_norm) | ((with_reducible apply be_other); exact rfl) | ((with_reducible apply dr_nil); (first | kernel_rfl | exact rfl)) | ((with_reducible first | apply rp | apply dr); first | ((with_reducible apply does_lt); exact rfl; exact rfl)))
    refine aw_cond rfl (fun hd => ?_) (fun hd => ?_)
    · have hlt : k < l.length := by simp at hd; omega
      clear hd
      obtain ⟨v, hv⟩ : ∃ v, l[k]? = some v := ⟨_, List.getElem?_eq_getElem hlt⟩
      have hv2 : (l.map Vl.cs)[k]? = some v.cs := by rw [List.getElem?_map, hv]; rfl
      obtain ⟨hgv, hcv⟩ := hk2 v (List.mem_of_getElem? hv)
      have c1 := check_pc v (Nat.le_trans hgv.size (by decide))
      rw [hcv] at c1
      have o1 := one_pc v hgv
      have oL := oneF_len hgv
      have hT := encF_take d hv
      have hN := (encK_len d 0 (l.take k) fun v hv => (hk2 v (List.mem_of_mem_take hv)).1).1
      rw [List.length_take] at hN
      have hN : (encF d 0 (l.take k)).length ≤ 415 := by omega
      clear hk2 hgv
      generalize encF d 0 (l.take k) = o at *
      obtain ⟨vk, vn, vb, vt⟩ := v
      generalize oneF ⟨vk, vn, vb, vt⟩ = q at *
      unfold Vl.cs at *
      dsimp only at *
      repeat (first | (with_reducible apply aw_seq) | (with_reducible apply aw_reg) | (with_reducible apply rp_nil) | (with_reducible apply ae_norm) | (with_reducible apply aw_block) | (with_reducible apply aw_skip) | ((with_reducible apply be_other); exact rfl) | ((with_reducible apply dr_nil); (first | kernel_rfl | exact rfl)) | ((with_reducible first | apply rp | apply dr); first | ((with_reducible apply does_call_flat); exact rfl; exact rfl; exact (c1); exact rfl) | ((with_reducible apply does_call'); exact rfl; exact rfl; exact rfl; exact (c1)) | ((with_reducible apply does_move); (conv => lhs; whnf)) | ((with_reducible apply does_assign); (conv => lhs; whnf)) | ((with_reducible apply does_load_var); exact tyOk rfl; exact rfl; exact rfl; exact rfl; exact rfl) | ((with_reducible apply does_load_elem); exact tyOk rfl; exact rfl; exact rfl; (first | assumption | exact map_get (by assumption) | exact rfl); exact rfl) | ((with_reducible apply does_load_own); exact tyOk rfl; exact rfl; exact rfl; exact rfl; (first | assumption | exact map_get (by assumption) | exact rfl); exact rfl) | ((with_reducible apply does_load_row); exact tyOk rfl; exact rfl; exact rfl; exact rfl; (first | exact Nat.le_of_ble_eq_true rfl | omega | (simp; omega)); exact rfl) | ((with_reducible apply does_load_elem_whole); exact tyOk rfl; exact rfl; exact rfl; (first | assumption | exact map_get (by assumption) | exact rfl); exact rfl) | ((with_reducible apply does_index_sl); exact tyOk rfl; exact rfl; exact tyOk rfl; exact rfl; exact rfl; exact rfl; exact rfl; (first | omega | (dsimp only; omega) | (dsimp only; simp only [List.length_map, List.length_append, List.length_cons, List.length_nil] at *; omega) | (simp only [List.length_map, List.length_append, List.length_cons, List.length_nil] at *; omega) | (simp; omega))) | ((with_reducible apply does_ne); exact rfl; exact rfl)) | ((with_reducible first | apply rp1 | apply dr1); first | ((with_reducible apply does_call1); exact rfl; exact rfl; exact rfl; exact (c1)) | ((with_reducible apply does_alloc); exact tyOk rfl; exact rfl)) | ((with_reducible first | apply rpN | apply drN); first | ((with_reducible apply does_store); exact tyOk rfl; exact rfl; exact rfl; (conv => lhs; whnf); exact rfl; exact rfl; (first | exact Nat.le_of_ble_eq_true rfl | omega | (simp; omega))) | ((with_reducible apply does_store_whole); exact tyOk rfl; exact rfl; exact rfl; exact rfl; exact rfl; exact rfl)))
      refine aw_cond rfl (fun hd => (by cases hd)) (fun hd => ?_)
      clear hd
      repeat (first | (with_reducible apply aw_seq) | (with_reducible apply aw_reg) | (with_reducible apply rp_nil) | (with_reducible apply ae_norm) | (with_reducible apply aw_block) | (with_reducible apply aw_skip) | ((with_reducible apply be_other); exact rfl) | ((with_reducible apply dr_nil); (first | kernel_rfl | exact rfl)) | ((with_reducible first | apply rp | apply dr); first | ((with_reducible apply does_call_flat); exact rfl; exact rfl; exact (o1); exact rfl) | ((with_reducible apply does_call'); exact rfl; exact rfl; exact rfl; exact (o1)) | ((with_reducible apply does_move); (conv => lhs; whnf)) | ((with_reducible apply does_load_var); exact tyOk rfl; exact rfl; exact rfl; exact rfl; exact rfl) | ((with_reducible apply does_load_elem); exact tyOk rfl; exact rfl; exact rfl; (first | assumption | exact map_get (by assumption) | exact rfl); exact rfl) | ((with_reducible apply does_load_own); exact tyOk rfl; exact rfl; exact rfl; exact rfl; (first | assumption | exact map_get (by assumption) | exact rfl); exact rfl) | ((with_reducible apply does_load_row); exact tyOk rfl; exact rfl; exact rfl; exact rfl; (first | exact Nat.le_of_ble_eq_true rfl | omega | (simp; omega)); exact rfl) | ((with_reducible apply does_len_map); exact tyOk rfl; exact rfl; exact rfl)) | ((with_reducible first | apply rp1 | apply dr1); first | ((with_reducible apply does_call1); exact rfl; exact rfl; exact rfl; exact (o1))))
      refine aw_loop (fun m s => ∃ j, j ≤ q.length ∧ m = q.length - j ∧ s = ⟨[(1, .d (iD d)), (6, .ow 1000 (o.length + j)), (7, .d (iD k)), (15, .d (valsD l)), (16, .d (iD l.length)), (17, .d (iD k)), (28, .d (byD q)), (29, .d (iD q.length)), (30, .d (iD j))], [(1000, .row 5 1 ((o ++ (q.take j).map (flipB (opnB d k))).map fun c => [u8D c]))]⟩) _ _ ?_ ⟨0, by omega, rfl, rfl⟩ ?_
      · refine forget_of [] (by repeat' (first | exact ks_nil | (refine ks_cons rfl (by (first | exact SubA.refl _ | exact SubA.d (SubD.nil _) | exact subA_ow (by (first | rfl | (simp; done) | (simp; omega))) | exact subA_i (by (first | rfl | (simp; done) | (simp; omega) | omega)) | (refine SubA.of_eq ?_; (first | rfl | (simp; done) | (simp; omega))))) ?_))) ?_ rfl (by repeat' (first | exact trivial | exact insB_map _ | exact inB_ow rfl | exact inB_px rfl | exact inB_pr rfl | exact inB_sx rfl | refine And.intro ?_ ?_)) (by repeat' (first | exact trivial | exact insB_map _ | exact inB_ow rfl | exact inB_px rfl | exact inB_pr rfl | exact inB_sx rfl | refine And.intro ?_ ?_))
        exact kb_cons rfl (row_eq (by rw [List.take_zero, List.map_nil, List.append_nil])) kb_nil
      · rintro m s ⟨j, hj, rfl, rfl⟩
        repeat (first | (with_reducible apply aw_seq) | (with_reducible apply aw_reg) | (with_reducible apply rp_nil) | (with_reducible apply ae_norm) | ((with_reducible apply be_other); exact rfl) | ((with_reducible apply dr_nil); (first | kernel_rfl | exact rfl)) | ((with_reducible first | apply rp | apply dr); first | ((with_reducible apply does_lt); exact rfl; exact rfl)))
        refine aw_cond rfl (fun hd => ?_) (fun hd => ?_)
        · have hlt2 : j < q.length := by simp at hd; omega
          clear hd
          obtain ⟨c, hc⟩ : ∃ c, q[j]? = some c := ⟨_, List.getElem?_eq_getElem hlt2⟩
          have e1 : (o ++ (q.take (j + 1)).map (flipB (opnB d k))).map (fun c => [u8D c]) = (o ++ (q.take j).map (flipB (opnB d k))).map (fun c => [u8D c]) ++ [[u8D (flipB (opnB d k) c)]] := by rw [List.take_add_one, hc]; simp
          have l1 : ((o ++ (q.take j).map (flipB (opnB d k))).map fun c => [u8D c]).length = o.length + j := by simp; omega
          generalize (o ++ (q.take j).map (flipB (opnB d k))).map (fun c => [u8D c]) = z at *
          generalize hw : o.length = w at *
          repeat (first | (with_reducible apply aw_seq) | (with_reducible apply aw_reg) | (with_reducible apply rp_nil) | (with_reducible apply ae_norm) | (with_reducible apply aw_block) | (with_reducible apply aw_skip) | ((with_reducible apply be_other); exact rfl) | ((with_reducible apply dr_nil); (first | kernel_rfl | exact rfl)) | ((with_reducible first | apply rp | apply dr); first | ((with_reducible apply does_move); (conv => lhs; whnf)) | ((with_reducible apply does_assign); (conv => lhs; whnf)) | ((with_reducible apply does_load_var); exact tyOk rfl; exact rfl; exact rfl; exact rfl; exact rfl) | ((with_reducible apply does_load_elem); exact tyOk rfl; exact rfl; exact rfl; (first | assumption | exact map_get (by assumption) | exact rfl); exact rfl) | ((with_reducible apply does_index_sl); exact tyOk rfl; exact rfl; exact tyOk rfl; exact rfl; exact rfl; exact rfl; exact rfl; (first | omega | (dsimp only; omega) | (dsimp only; simp only [List.length_map, List.length_append, List.length_cons, List.length_nil] at *; omega) | (simp only [List.length_map, List.length_append, List.length_cons, List.length_nil] at *; omega) | (simp; omega))) | ((with_reducible apply does_eq); exact rfl; exact rfl) | ((with_reducible apply does_beq); exact tyOk rfl; exact rfl; exact rfl; exact rfl; exact rfl) | ((with_reducible apply does_bne); exact tyOk rfl; exact rfl; exact rfl; exact rfl; exact rfl) | ((with_reducible apply does_band); exact rfl; exact rfl) | ((with_reducible apply does_shr); exact rfl; exact rfl; omega)))
          refine aw_cond rfl (fun ho => ?_) (fun ho => ?_)
          · have ho : opnB d k = true := ho
            have hf : flipB (opnB d k) c = 255 ^^^ c := by rw [ho]; rfl
            rw [hf] at e1
            repeat (first | (with_reducible apply aw_reg) | (with_reducible apply rp_nil) | (with_reducible apply ae_norm) | (with_reducible apply be_norm) | ((with_reducible apply be_other); exact rfl) | ((with_reducible apply dr_nil); (first | kernel_rfl | exact rfl)) | ((with_reducible first | apply rp | apply dr); first | (exact does_not8 rfl) | ((with_reducible apply does_move); (conv => lhs; whnf)) | ((with_reducible apply does_assign); (conv => lhs; whnf)) | ((with_reducible apply does_add); exact rfl; exact rfl; omega; omega)) | ((with_reducible first | apply rp1 | apply dr1); first | (exact does_not8 rfl) | ((with_reducible apply does_buildSlice); exact tyOk rfl; exact rfl; exact tyOk rfl; exact rfl; exact rfl; (focus repeat' (first | exact trivial | refine And.intro rfl (And.intro rfl ?_))); decide; decide; exact rfl) | ((with_reducible apply does_append_nil); exact tyOk rfl; exact rfl; exact tyOk rfl; exact rfl; exact rfl; decide; (first | omega | (dsimp only; omega) | (dsimp only; simp only [List.length_map, List.length_append, List.length_cons, List.length_nil] at *; omega) | (simp only [List.length_map, List.length_append, List.length_cons, List.length_nil] at *; omega) | (simp; omega)); (first | omega | (dsimp only; omega) | (dsimp only; simp only [List.length_map, List.length_append, List.length_cons, List.length_nil] at *; omega) | (simp only [List.length_map, List.length_append, List.length_cons, List.length_nil] at *; omega) | (simp; omega)); exact rfl)) | ((with_reducible first | apply rp2 | apply dr2); first | (exact does_not8 rfl) | ((with_reducible apply does_append_own); exact tyOk rfl; exact rfl; exact tyOk rfl; exact rfl; exact rfl; exact rfl; decide; (first | omega | (dsimp only; omega) | (dsimp only; simp only [List.length_map, List.length_append, List.length_cons, List.length_nil] at *; omega) | (simp only [List.length_map, List.length_append, List.length_cons, List.length_nil] at *; omega) | (simp; omega)); (first | omega | (dsimp only; omega) | (dsimp only; simp only [List.length_map, List.length_append, List.length_cons, List.length_nil] at *; omega) | (simp only [List.length_map, List.length_append, List.length_cons, List.length_nil] at *; omega) | (simp; omega)); exact rfl)) | ((with_reducible first | apply rpN | apply drN); first | (exact does_not8 rfl)))
            refine ⟨_, _, ?_, ?_, j + 1, by omega, rfl, rfl⟩
            · omega
            · rw [e1]
              refine forget_of [(1000, 44)] (by repeat' (first | exact ks_nil | (refine ks_cons rfl (by (first | exact SubA.refl _ | exact SubA.d (SubD.nil _) | exact subA_ow (by (first | rfl | (simp; done) | (simp; omega))) | exact subA_i (by (first | rfl | (simp; done) | (simp; omega) | omega)) | (refine SubA.of_eq ?_; (first | rfl | (simp; done) | (simp; omega))))) ?_))) ?_ rfl (by repeat' (first | exact trivial | exact insB_map _ | exact inB_ow rfl | exact inB_px rfl | exact inB_pr rfl | exact inB_sx rfl | refine And.intro ?_ ?_)) (by repeat' (first | exact trivial | exact insB_map _ | exact inB_ow rfl | exact inB_px rfl | exact inB_pr rfl | exact inB_sx rfl | refine And.intro ?_ ?_))
              exact kb_cons rfl (row_eq rfl) kb_nil
          · have ho : opnB d k = false := ho
            have hf : flipB (opnB d k) c = c := by rw [ho]; rfl
            rw [hf] at e1
            repeat (first | (with_reducible apply aw_reg) | (with_reducible apply rp_nil) | (with_reducible apply ae_norm) | (with_reducible apply be_norm) | (with_reducible apply aw_skip) | ((with_reducible apply be_other); exact rfl) | ((with_reducible apply dr_nil); (first | kernel_rfl | exact rfl)) | ((with_reducible first | apply rp | apply dr); first | ((with_reducible apply does_move); (conv => lhs; whnf)) | ((with_reducible apply does_assign); (conv => lhs; whnf)) | ((with_reducible apply does_add); exact rfl; exact rfl; omega; omega)) | ((with_reducible first | apply rp1 | apply dr1); first | ((with_reducible apply does_buildSlice); exact tyOk rfl; exact rfl; exact tyOk rfl; exact rfl; exact rfl; (focus repeat' (first | exact trivial | refine And.intro rfl (And.intro rfl ?_))); decide; decide; exact rfl) | ((with_reducible apply does_append_nil); exact tyOk rfl; exact rfl; exact tyOk rfl; exact rfl; exact rfl; decide; (first | omega | (dsimp only; omega) | (dsimp only; simp only [List.length_map, List.length_append, List.length_cons, List.length_nil] at *; omega) | (simp only [List.length_map, List.length_append, List.length_cons, List.length_nil] at *; omega) | (simp; omega)); (first | omega | (dsimp only; omega) | (dsimp only; simp only [List.length_map, List.length_append, List.length_cons, List.length_nil] at *; omega) | (simp only [List.length_map, List.length_append, List.length_cons, List.length_nil] at *; omega) | (simp; omega)); exact rfl)) | ((with_reducible first | apply rp2 | apply dr2); first | ((with_reducible apply does_append_own); exact tyOk rfl; exact rfl; exact tyOk rfl; exact rfl; exact rfl; exact rfl; decide; (first | omega | (dsimp only; omega) | (dsimp only; simp only [List.length_map, List.length_append, List.length_cons, List.length_nil] at *; omega) | (simp only [List.length_map, List.length_append, List.length_cons, List.length_nil] at *; omega) | (simp; omega)); (first | omega | (dsimp only; omega) | (dsimp only; simp only [List.length_map, List.length_append, List.length_cons, List.length_nil] at *; omega) | (simp only [List.length_map, List.length_append, List.length_cons, List.length_nil] at *; omega) | (simp; omega)); exact rfl)))
            refine ⟨_, _, ?_, ?_, j + 1, by omega, rfl, rfl⟩
            · omega
            · rw [e1]
              refine forget_of [(1000, 44)] (by repeat' (first | exact ks_nil | (refine ks_cons rfl (by (first | exact SubA.refl _ | exact SubA.d (SubD.nil _) | exact subA_ow (by (first | rfl | (simp; done) | (simp; omega))) | exact subA_i (by (first | rfl | (simp; done) | (simp; omega) | omega)) | (refine SubA.of_eq ?_; (first | rfl | (simp; done) | (simp; omega))))) ?_))) ?_ rfl (by repeat' (first | exact trivial | exact insB_map _ | exact inB_ow rfl | exact inB_px rfl | exact inB_pr rfl | exact inB_sx rfl | refine And.intro ?_ ?_)) (by repeat' (first | exact trivial | exact insB_map _ | exact inB_ow rfl | exact inB_px rfl | exact inB_pr rfl | exact inB_sx rfl | refine And.intro ?_ ?_))
              exact kb_cons rfl (row_eq rfl) kb_nil
        · have hje : j = q.length := by simp at hd; omega
          clear hd
          subst hje
          have eL : o.length + q.length = (encF d 0 (l.take (k + 1))).length := by rw [hT, List.length_append, List.length_map]
          have eT : o ++ (q.take q.length).map (flipB (opnB d k)) = encF d 0 (l.take (k + 1)) := by rw [hT, List.take_length]
          rw [eT, eL]
          generalize hz : encF d 0 (l.take (k + 1)) = z at *
          repeat (first | (with_reducible apply aw_reg) | (with_reducible apply rp_nil) | (with_reducible apply ae_norm) | (with_reducible apply aw_exit) | (with_reducible apply ae_exit) | (with_reducible apply be_exit) | (with_reducible apply be_norm) | ((with_reducible apply be_other); exact rfl) | ((with_reducible apply dr_nil); (first | kernel_rfl | exact rfl)) | ((with_reducible first | apply rp | apply dr); first | ((with_reducible apply does_move); (conv => lhs; whnf)) | ((with_reducible apply does_add); exact rfl; exact rfl; omega; omega)))
          refine ⟨_, _, ?_, ?_, k + 1, by omega, rfl, rfl⟩
          · omega
          · rw [hz]
            refine forget_of [] (by repeat' (first | exact ks_nil | (refine ks_cons rfl (by (first | exact SubA.refl _ | exact SubA.d (SubD.nil _) | exact subA_ow (by (first | rfl | (simp; done) | (simp; omega))) | exact subA_i (by (first | rfl | (simp; done) | (simp; omega) | omega)) | (refine SubA.of_eq ?_; (first | rfl | (simp; done) | (simp; omega))))) ?_))) (by repeat' (first | exact trivial | exact rfl | exact kb_d rfl | refine And.intro ?_ ?_)) rfl (by repeat' (first | exact trivial | exact insB_map _ | exact inB_ow rfl | exact inB_px rfl | exact inB_pr rfl | exact inB_sx rfl | refine And.intro ?_ ?_)) (by repeat' (first | exact trivial | exact insB_map _ | exact inB_ow rfl | exact inB_px rfl | exact inB_pr rfl | exact inB_sx rfl | refine And.intro ?_ ?_))
    · have hke : k = l.length := by simp at hd; omega
      clear hd
      subst hke
      repeat (first | (with_reducible apply aw_seq) | (with_reducible apply aw_reg) | (with_reducible apply rp_nil) | (with_reducible apply ae_norm) | (with_reducible apply aw_exit) | (with_reducible apply ae_exit) | (with_reducible apply be_exit) | (with_reducible apply aw_ret) | (with_reducible apply re_ret) | ((with_reducible apply be_other); exact rfl) | ((with_reducible apply dr_nil); (first | kernel_rfl | exact rfl)) | ((with_reducible first | apply rp | apply dr); first | ((with_reducible apply does_move); (conv => lhs; whnf)) | ((with_reducible apply does_assign); (conv => lhs; whnf))))
      (with_reducible apply ret_ok); (focus (repeat' (first | (with_reducible apply rv_nil) | (with_reducible apply rv_cons) | ((with_reducible apply rv_tmp); exact rfl) | ((with_reducible apply rv_cell); exact rfl; exact rfl; exact tyOk rfl; exact rfl; exact rfl) | ((with_reducible apply rv_rowd); exact rfl; exact rfl; exact tyOk rfl; exact rfl; (first | (with_reducible assumption) | exact rfl | ((try simp only [List.length_map]); first | assumption | omega) | (simp; omega))) | ((with_reducible apply rv_row); exact rfl; exact rfl; exact tyOk rfl; exact rfl; (first | exact Nat.le_of_ble_eq_true rfl | omega | (simp; omega)))))); (first | exact rfl | (focus repeat' (first | exact frzVs_one (frzV_map _ _) | exact rfl | (apply frzVs_cons; (first | exact frzV_map _ _ | exact rfl))))); refine SubD.of_eq ?_
      rw [List.take_length]
      rfl
theorem Encode_pc (l : List Vl) (d : Int) (hl : l.length ≤ 5) (hg : ∀ v ∈ l, Gd v) : PC Tryd.prog 30 [valsD l, iD d] (.tu [byD (encF d 0 l), iD 0]) := EncodeK_pc l d hl fun v hv => ⟨(hg v hv).gk, (hg v hv).chk⟩
end Go.Proofs.YtfplkakfakdfhaaDoor


/-
  The order of bytes. Plain laws.
-/
namespace Go.Proofs.YtfplkakfakdfhaaDoor
set_option linter.unusedSimpArgs false
set_option linter.unusedVariables false

/-- X stands ahead of Y by a byte that both have. -/
def LtB (X Y : List UInt8) : Prop := ∃ (p : List UInt8) (a b : UInt8) (x y : List UInt8), X = p ++ a :: x ∧ Y = p ++ b :: y ∧ a.toNat < b.toNat
theorem LtB.head {a b : UInt8} {x y : List UInt8} (h : a.toNat < b.toNat) : LtB (a :: x) (b :: y) := ⟨[], a, b, x, y, rfl, rfl, h⟩
theorem LtB.cons {X Y : List UInt8} (c : UInt8) : LtB X Y → LtB (c :: X) (c :: Y)
  | ⟨p, a, b, x, y, h1, h2, h3⟩ => ⟨c :: p, a, b, x, y, by rw [h1]; rfl, by rw [h2]; rfl, h3⟩
theorem LtB.pre {X Y : List UInt8} : ∀ p : List UInt8, LtB X Y → LtB (p ++ X) (p ++ Y)
  | [], h => h
  | c :: p, h => (LtB.pre p h).cons c
theorem LtB.tail {X Y : List UInt8} (s t : List UInt8) : LtB X Y → LtB (X ++ s) (Y ++ t)
  | ⟨p, a, b, x, y, h1, h2, h3⟩ => ⟨p, a, b, x ++ s, y ++ t, by rw [h1]; simp, by rw [h2]; simp, h3⟩
theorem bl_pre : ∀ (p X Y : List UInt8), Op.bytesLess (p ++ X) (p ++ Y) = Op.bytesLess X Y
  | [], _, _ => rfl
  | c :: p, X, Y => by
    show (decide (c < c) || (c == c && Op.bytesLess (p ++ X) (p ++ Y))) = _
    rw [bl_pre p X Y]
    simp
theorem LtB.less {X Y : List UInt8} : LtB X Y → Op.bytesLess X Y = true
  | ⟨p, a, b, x, y, h1, h2, h3⟩ => by
    rw [h1, h2, bl_pre]
    show (decide (a < b) || (a == b && Op.bytesLess x y)) = true
    rw [decide_eq_true (UInt8.lt_iff_toNat_lt.2 h3)]
    rfl
theorem LtB.ne {X Y : List UInt8} (h : LtB X Y) : X ≠ Y := fun e => by
  have := h.less
  rw [e, bl_irr] at this
  cases this
theorem LtB.not {X Y : List UInt8} (h : LtB X Y) : Op.bytesLess Y X = false := by
  cases hq : Op.bytesLess Y X with
  | false => rfl
  | true => have := bl_trans _ _ _ h.less hq; rw [bl_irr] at this; cases this
set_option maxRecDepth 20000 in
theorem xor_255 : ∀ n, n < 256 → 255 ^^^ n = 255 - n := by decide
theorem not_toNat (a : UInt8) : (255 ^^^ a).toNat = 255 - a.toNat := by
  rw [UInt8.toNat_xor]
  exact xor_255 _ a.toNat_lt
theorem LtB.flip {X Y : List UInt8} : LtB X Y → LtB (Y.map fun c => 255 ^^^ c) (X.map fun c => 255 ^^^ c)
  | ⟨p, a, b, x, y, h1, h2, h3⟩ => ⟨p.map fun c => 255 ^^^ c, 255 ^^^ b, 255 ^^^ a, y.map fun c => 255 ^^^ c, x.map fun c => 255 ^^^ c, by rw [h2]; simp, by rw [h1]; simp, by
    rw [not_toNat, not_toNat]
    have := a.toNat_lt
    have := b.toNat_lt
    omega⟩
/-- A number's bytes, the greatest first. -/
def beB : Nat → Nat → List UInt8
  | 0, _ => []
  | k + 1, n => UInt8.ofNat (n / 256 ^ k) :: beB k n
theorem beB_lt : ∀ (k a b : Nat), a % 256 ^ k < b % 256 ^ k → LtB (beB k a) (beB k b)
  | 0, a, b, h => by simp [Nat.mod_one] at h
  | k + 1, a, b, h => by
    rw [Nat.mod_pow_succ, Nat.mod_pow_succ] at h
    have ea : (UInt8.ofNat (a / 256 ^ k)).toNat = a / 256 ^ k % 256 := UInt8.toNat_ofNat'
    have eb : (UInt8.ofNat (b / 256 ^ k)).toNat = b / 256 ^ k % 256 := UInt8.toNat_ofNat'
    have hb := Nat.mod_lt b (Nat.pow_pos (n := k) (show 0 < 256 by decide))
    generalize hx : a / 256 ^ k % 256 = x at *
    generalize hy : b / 256 ^ k % 256 = y at *
    rcases Nat.lt_trichotomy x y with h1 | h1 | h1
    · exact LtB.head (by rw [ea, eb]; exact h1)
    · subst h1
      have : UInt8.ofNat (a / 256 ^ k) = UInt8.ofNat (b / 256 ^ k) := UInt8.toNat_inj.1 (ea.trans eb.symm)
      unfold beB
      rw [this]
      exact (beB_lt k a b (by omega)).cons _
    · have h2 := Nat.mul_le_mul_left (256 ^ k) h1
      rw [Nat.mul_succ] at h2
      omega
theorem byteAt (n : UInt64) (s : Nat) (hs : s < 64) : (n >>> UInt64.ofNat s).toUInt8 = UInt8.ofNat (n.toNat / 2 ^ s) := by
  apply UInt8.toNat_inj.1
  have h3 : (UInt64.ofNat s).toNat % 64 = s := by rw [UInt64.toNat_ofNat']; omega
  rw [UInt64.toNat_toUInt8, UInt64.toNat_shiftRight, h3, Nat.shiftRight_eq_div_pow, UInt8.toNat_ofNat']
theorem eightB_be (n : UInt64) : eightB n = beB 8 n.toNat := by
  show [(n >>> UInt64.ofNat 56).toUInt8, (n >>> UInt64.ofNat 48).toUInt8, (n >>> UInt64.ofNat 40).toUInt8, (n >>> UInt64.ofNat 32).toUInt8, (n >>> UInt64.ofNat 24).toUInt8, (n >>> UInt64.ofNat 16).toUInt8, (n >>> UInt64.ofNat 8).toUInt8, (n >>> UInt64.ofNat 0).toUInt8] = [UInt8.ofNat (n.toNat / 256 ^ 7), UInt8.ofNat (n.toNat / 256 ^ 6), UInt8.ofNat (n.toNat / 256 ^ 5), UInt8.ofNat (n.toNat / 256 ^ 4), UInt8.ofNat (n.toNat / 256 ^ 3), UInt8.ofNat (n.toNat / 256 ^ 2), UInt8.ofNat (n.toNat / 256 ^ 1), UInt8.ofNat (n.toNat / 256 ^ 0)]
  rw [byteAt n 56 (by omega), byteAt n 48 (by omega), byteAt n 40 (by omega), byteAt n 32 (by omega), byteAt n 24 (by omega), byteAt n 16 (by omega), byteAt n 8 (by omega), byteAt n 0 (by omega)]
theorem eightB_lt {a b : UInt64} (h : a.toNat < b.toNat) : LtB (eightB a) (eightB b) := by
  rw [eightB_be, eightB_be]
  have h8 : (256 : Nat) ^ 8 = 18446744073709551616 := by decide
  have h1 := a.toNat_lt
  have h2 := b.toNat_lt
  exact beB_lt 8 _ _ (by rw [h8, Nat.mod_eq_of_lt h1, Nat.mod_eq_of_lt h2]; exact h)
/-! ### the top bit -/
theorem xor_top (x : Nat) (hx : x < 18446744073709551616) : x ^^^ 9223372036854775808 = if x < 9223372036854775808 then x + 9223372036854775808 else x - 9223372036854775808 := by
  have h1 : (x ^^^ 9223372036854775808) / 2 ^ 63 = x / 2 ^ 63 ^^^ 9223372036854775808 / 2 ^ 63 := Nat.xor_div_two_pow
  have h2 : (x ^^^ 9223372036854775808) % 2 ^ 63 = x % 2 ^ 63 ^^^ 9223372036854775808 % 2 ^ 63 := Nat.xor_mod_two_pow
  have e63 : (2 : Nat) ^ 63 = 9223372036854775808 := by decide
  rw [e63] at h1 h2
  rw [show 9223372036854775808 / 9223372036854775808 = 1 by decide] at h1
  rw [show 9223372036854775808 % 9223372036854775808 = 0 by decide, Nat.xor_zero] at h2
  generalize x ^^^ 9223372036854775808 = z at *
  by_cases hq : x < 9223372036854775808
  · rw [if_pos hq]
    rw [show x / 9223372036854775808 = 0 by omega, show 0 ^^^ 1 = 1 by decide] at h1
    omega
  · rw [if_neg hq]
    rw [show x / 9223372036854775808 = 1 by omega, show 1 ^^^ 1 = 0 by decide] at h1
    omega
theorem or_top (x : Nat) (hx : x < 9223372036854775808) : x ||| 9223372036854775808 = x + 9223372036854775808 := by
  have h1 : (x ||| 9223372036854775808) / 2 ^ 63 = x / 2 ^ 63 ||| 9223372036854775808 / 2 ^ 63 := Nat.or_div_two_pow
  have h2 : (x ||| 9223372036854775808) % 2 ^ 63 = x % 2 ^ 63 ||| 9223372036854775808 % 2 ^ 63 := Nat.or_mod_two_pow
  have e63 : (2 : Nat) ^ 63 = 9223372036854775808 := by decide
  rw [e63] at h1 h2
  rw [show 9223372036854775808 / 9223372036854775808 = 1 by decide] at h1
  rw [show 9223372036854775808 % 9223372036854775808 = 0 by decide, Nat.or_zero] at h2
  generalize x ||| 9223372036854775808 = z at *
  rw [show x / 9223372036854775808 = 0 by omega, show 0 ||| 1 = 1 by decide] at h1
  omega
theorem and_top (x : Nat) (hx : x < 18446744073709551616) : x &&& 9223372036854775808 = if x < 9223372036854775808 then 0 else 9223372036854775808 := by
  have h1 : (x &&& 9223372036854775808) / 2 ^ 63 = x / 2 ^ 63 &&& 9223372036854775808 / 2 ^ 63 := Nat.and_div_two_pow
  have h2 : (x &&& 9223372036854775808) % 2 ^ 63 = x % 2 ^ 63 &&& 9223372036854775808 % 2 ^ 63 := Nat.and_mod_two_pow
  have e63 : (2 : Nat) ^ 63 = 9223372036854775808 := by decide
  rw [e63] at h1 h2
  rw [show 9223372036854775808 / 9223372036854775808 = 1 by decide] at h1
  rw [show 9223372036854775808 % 9223372036854775808 = 0 by decide, Nat.and_zero] at h2
  generalize x &&& 9223372036854775808 = z at *
  by_cases hq : x < 9223372036854775808
  · rw [if_pos hq]
    rw [show x / 9223372036854775808 = 0 by omega, show 0 &&& 1 = 0 by decide] at h1
    omega
  · rw [if_neg hq]
    rw [show x / 9223372036854775808 = 1 by omega, show 1 &&& 1 = 1 by decide] at h1
    omega
theorem not64 (n : UInt64) : (18446744073709551615 ^^^ n).toNat = 18446744073709551615 - n.toNat := by
  have h : (18446744073709551615 : UInt64) = -1 := by decide
  rw [h, UInt64.neg_one_xor, UInt64.toNat_not]
  rfl
theorem turnF_nat (n : UInt64) : (turnF n).toNat = if n.toNat < 9223372036854775808 then n.toNat + 9223372036854775808 else 18446744073709551615 - n.toNat := by
  have ht : topU.toNat = 9223372036854775808 := rfl
  have ha : (n &&& topU).toNat = if n.toNat < 9223372036854775808 then 0 else 9223372036854775808 := by rw [UInt64.toNat_and, ht]; exact and_top _ n.toNat_lt
  have hz : (n &&& topU) = 0 ↔ (n &&& topU).toNat = 0 := ⟨fun h => by rw [h]; rfl, fun h => UInt64.toNat_inj.1 h⟩
  unfold turnF
  by_cases h : n.toNat < 9223372036854775808
  · rw [if_pos h] at ha ⊢
    rw [if_neg (fun hn => hn (hz.2 ha)), UInt64.toNat_or, ht]
    exact or_top _ h
  · rw [if_neg h] at ha ⊢
    rw [if_pos (fun hn => by rw [hz.1 hn] at ha; cases ha)]
    exact not64 n
theorem turn_mono {a b : Nat} (a1 : a < 18446744073709551616) (b1 : b < 18446744073709551616) (h : keyF a < keyF b) : (turnF (UInt64.ofNat a)).toNat < (turnF (UInt64.ofNat b)).toNat := by
  have ea : (UInt64.ofNat a).toNat = a := by rw [UInt64.toNat_ofNat']; exact Nat.mod_eq_of_lt a1
  have eb : (UInt64.ofNat b).toNat = b := by rw [UInt64.toNat_ofNat']; exact Nat.mod_eq_of_lt b1
  rw [turnF_nat, turnF_nat, ea, eb]
  have mono : ∀ r s, valN r < valN s → r < s := fun r s h => by
    rcases Nat.lt_trichotomy r s with h1 | h1 | h1
    · exact h1
    · subst h1; omega
    · have := valN_mono h1; omega
  have sg : ∀ x : Nat, x < 18446744073709551616 → (sgnF x = true ↔ ¬ x < 9223372036854775808) := fun x hx => by
    unfold sgnF
    rw [beq_iff_eq]
    omega
  have sa := sg a a1
  have sb := sg b b1
  unfold keyF at h
  have ra : rung a = a % 9223372036854775808 := rfl
  have rb : rung b = b % 9223372036854775808 := rfl
  by_cases ha : a < 9223372036854775808
  · rw [if_neg (fun hx => sa.1 hx ha)] at h
    rw [if_pos ha]
    by_cases hb : b < 9223372036854775808
    · rw [if_neg (fun hx => sb.1 hx hb)] at h
      rw [if_pos hb]
      have := mono _ _ (Int.ofNat_lt.1 h)
      omega
    · rw [if_pos (sb.2 hb)] at h
      generalize valN (rung a) = p at h
      generalize valN (rung b) = q at h
      omega
  · rw [if_pos (sa.2 ha)] at h
    rw [if_neg ha]
    by_cases hb : b < 9223372036854775808
    · rw [if_pos hb]
      omega
    · rw [if_pos (sb.2 hb)] at h
      rw [if_neg hb]
      have := mono (rung b) (rung a) (by omega)
      omega
theorem low_top {n : Int} (h1 : -9223372036854775808 ≤ n) (h2 : n < 9223372036854775808) : (((lowL n ^^^ topU).toNat : Nat) : Int) = n + 9223372036854775808 := by
  have ht : topU.toNat = 9223372036854775808 := rfl
  have hl : ((lowL n).toNat : Int) = n % 18446744073709551616 := by
    unfold lowL
    rw [UInt64.toNat_ofNat']
    generalize hm : n % 18446744073709551616 = m
    show ((m.toNat % 18446744073709551616 : Nat) : Int) = m
    omega
  rw [UInt64.toNat_xor, ht, xor_top _ (lowL n).toNat_lt]
  split <;> omega
/-! ### texts -/
theorem esc_lt : ∀ s t : List UInt8, Op.bytesLess s t = true → LtB (escF s ++ [0, 1]) (escF t ++ [0, 1])
  | _, [], h => by simp [Op.bytesLess] at h
  | [], d :: t, _ => by
    show LtB [0, 1] ((escB d ++ escF t) ++ [0, 1])
    by_cases hd : d = 0
    · subst hd
      exact (LtB.head (by decide)).cons 0
    · have hE : escB d = [d] := if_neg hd
      rw [hE]
      refine LtB.head ?_
      have : d.toNat ≠ 0 := fun e => hd (UInt8.toNat_inj.1 e)
      show 0 < d.toNat
      omega
  | c :: s, d :: t, h => by
    have hh : (decide (c < d) || (c == d && Op.bytesLess s t)) = true := h
    clear h
    show LtB ((escB c ++ escF s) ++ [0, 1]) ((escB d ++ escF t) ++ [0, 1])
    simp only [Bool.or_eq_true, decide_eq_true_eq, Bool.and_eq_true, beq_iff_eq] at hh
    rcases hh with h | ⟨rfl, h⟩
    · rw [UInt8.lt_iff_toNat_lt] at h
      have hd : d ≠ 0 := fun e => by subst e; exact Nat.not_lt_zero _ h
      have hE : escB d = [d] := if_neg hd
      rw [hE]
      by_cases hc : c = 0
      · subst hc
        exact LtB.head h
      · rw [show escB c = [c] from if_neg hc]
        exact LtB.head h
    · rw [List.append_assoc, List.append_assoc]
      exact (esc_lt s t h).pre _
end Go.Proofs.YtfplkakfakdfhaaDoor

