/-
  lex.show, lex.Check of what may be, lex.Show. No condition but that the tokens may be.
-/
import Derived.Test.YtlpnnnmdkglkcaaDoorZLexH
namespace Go.Proofs.YtlpnnnmdkglkcaaDoor
set_option linter.unusedSimpArgs false
set_option linter.unusedVariables false
open Go.RowKit

theorem byS_app (a b : List UInt8) : byS a ++ byS b = byS (a ++ b) := by
  refine ByteArray.ext (Array.ext' ?_)
  rw [ByteArray.data_append, Array.toList_append]
theorem cut_size (l : List UInt8) : (byS l).size = l.length := ba_size l
section
variable {P : Program} {dst : Option Nat} {ty : TypeId} {e : Operand → A} {β : Bx} {T T' : TypeId} {x y : Operand}
theorem does_cat_to {a b c : List UInt8} (hc : a ++ b = c) (hl : c.length ≤ 1000000) (hx : e x = .d (strD (byS a))) (hy : e y = .d (strD (byS b))) : Does P dst (.binOp .add T x y T') ty e β (.d (strD (byS c))) [] [] := by
  subst hc
  have h := does_cat (P := P) (dst := dst) (ty := ty) (β := β) (T := T) (T' := T') hx hy (by rw [cut_size, cut_size]; rw [List.length_append] at hl; omega)
  rwa [byS_app] at h
end
theorem nd_le : ∀ (k u : Nat), u < 10 ^ (k + 1) → Lib.nDigits u ≤ k + 1
  | 0, u, h => by rw [Lib.nDigits_small (by simpa using h)]; exact Nat.le_refl _
  | k + 1, u, h => by
    by_cases hu : u < 10
    · rw [Lib.nDigits_small hu]; omega
    · rw [Lib.nDigits_big hu]
      have := nd_le k (u / 10) (by rw [Nat.pow_succ] at h; omega)
      omega
theorem dbl_le : ∀ b : List UInt8, (dblL b).length ≤ 2 * b.length
  | [] => Nat.le_refl _
  | c :: b => by
    have := dbl_le b
    rw [dblL]
    split <;> simp only [List.length_cons] <;> omega
theorem lexSigns_len {s : ByteArray} (h : s ∈ lexSigns) : s.data.toList.length ≤ 2 := by
  unfold lexSigns at h
  simp only [List.mem_cons, List.not_mem_nil, or_false] at h
  rcases h with rfl | rfl | rfl | rfl | rfl | rfl | rfl | rfl | rfl | rfl | rfl | rfl | rfl | rfl | rfl | rfl <;> simp
theorem shwT_len {t : Tk} (h : TkL t) : (shwT t).length ≤ 90 := by
  cases h with
  | name n h =>
    obtain ⟨_, _, _, _, h8, _⟩ := name_get h
    show n.data.toList.length ≤ _
    rw [← ba_len]; omega
  | word n h =>
    have := h.2.1
    show n.data.toList.length ≤ _
    rw [← ba_len]; omega
  | num n h =>
    show (Lib.decDigits (Int.toNat (n : Int))).length ≤ _
    rw [Lib.decDigits_length, Int.toNat_natCast]
    have := nd_le 18 n (by omega)
    omega
  | quote b h1 h2 =>
    show (39 :: (dblL b.data.toList ++ [39])).length ≤ _
    have := dbl_le b.data.toList
    rw [← ba_len] at this
    simp only [List.length_cons, List.length_append, List.length_nil]
    omega
  | hex b h1 h2 =>
    show (35 :: hexL 16 b).length ≤ _
    rw [List.length_cons, hexL_len]
    omega
  | sign s h =>
    have := lexSigns_len h
    show s.data.toList.length ≤ _
    omega
set_option maxHeartbeats 4000000 in
theorem show_pc (t : Tk) (h : TkL t) : PC Tryd.prog 29 [.ag t.cs] (strD (byS (shwT t))) := by
  cases h with
  | name n h =>
    show PC _ _ [.ag [iD 1, strD n, iD 0, qD 0]] (strD (byS n.data.toList))
    rw [show byS n.data.toList = n from ba_eta n]
    refine pc_of_aw Tryd.func29 rfl (by kernel_rfl) mixed (by kernel_rfl) (by rw [Tryd.ntmps29]; exact Nat.le_of_ble_eq_true rfl) Tryd.results29 ?_
    repeat (first | ((first | (with_reducible apply rpGT) | (with_reducible apply drGT) | (with_reducible apply rpGTN) | (with_reducible apply drGTN)); exact rfl; (first | exact gval_t rfl | exact gval_f rfl | exact gval_gt rfl | exact gval_gf rfl); (first | exact rfl | assumption | decide); (focus repeat' (first | exact trivial | exact fun h => h | refine And.intro ?_ ?_ | (intro h; (first | exact h | (simp only [Bool.and_eq_true] at h; (first | exact h.1 | exact h.1.1 | exact h.1.1.1 | exact h.2)) | (rw [h]; rfl) | (rw [hgd0, h]; rfl) | simp_all)))); ((first | ((with_reducible apply does_assign); (conv => lhs; whnf)) | ((with_reducible apply does_fieldAddr); exact tyOk rfl; exact rfl; exact rfl; decide; exact rfl) | ((with_reducible apply does_load_var); exact tyOk rfl; exact rfl; exact rfl; exact rfl; exact rfl) | ((with_reducible apply does_eq); exact rfl; exact rfl) | ((with_reducible apply does_box_ag); exact rfl; exact rfl)); (first | exact lapp_nil _ | exact lapp_1 _ _ | exact lapp_2 _ _ _ | exact lapp_3 _ _ _ _))) | (with_reducible first | apply aw_seq | apply aw_reg | apply rp_nil | apply ae_norm | apply aw_block | apply be_norm | apply aw_ret | apply re_ret | apply aw_skip) | ((with_reducible apply rp); first | ((with_reducible apply does_assign); (conv => lhs; whnf)) | ((with_reducible apply does_fieldAddr); exact tyOk rfl; exact rfl; exact rfl; decide; exact rfl) | ((with_reducible apply does_load_var); exact tyOk rfl; exact rfl; exact rfl; exact rfl; exact rfl) | ((with_reducible apply does_eq); exact rfl; exact rfl)) | ((with_reducible apply rp1); ((with_reducible apply does_box_ag); exact rfl; exact rfl)) | ((with_reducible apply aw_cond); exact rfl; (focus (intro hd; (cases hd; done))); (intro hd; clear hd)))
    (with_reducible apply ret_ok); (focus (repeat' (first | (with_reducible apply rv_nil) | (with_reducible apply rv_cons) | ((with_reducible apply rv_tmp); exact rfl)))); exact rfl; refine SubD.of_eq ?_
    rfl
  | word n h =>
    show PC _ _ [.ag [iD 2, strD n, iD 0, qD 0]] (strD (byS n.data.toList))
    rw [show byS n.data.toList = n from ba_eta n]
    refine pc_of_aw Tryd.func29 rfl (by kernel_rfl) mixed (by kernel_rfl) (by rw [Tryd.ntmps29]; exact Nat.le_of_ble_eq_true rfl) Tryd.results29 ?_
    repeat (first | ((first | (with_reducible apply rpGT) | (with_reducible apply drGT) | (with_reducible apply rpGTN) | (with_reducible apply drGTN)); exact rfl; (first | exact gval_t rfl | exact gval_f rfl | exact gval_gt rfl | exact gval_gf rfl); (first | exact rfl | assumption | decide); (focus repeat' (first | exact trivial | exact fun h => h | refine And.intro ?_ ?_ | (intro h; (first | exact h | (simp only [Bool.and_eq_true] at h; (first | exact h.1 | exact h.1.1 | exact h.1.1.1 | exact h.2)) | (rw [h]; rfl) | (rw [hgd0, h]; rfl) | simp_all)))); ((first | ((with_reducible apply does_assign); (conv => lhs; whnf)) | ((with_reducible apply does_fieldAddr); exact tyOk rfl; exact rfl; exact rfl; decide; exact rfl) | ((with_reducible apply does_load_var); exact tyOk rfl; exact rfl; exact rfl; exact rfl; exact rfl) | ((with_reducible apply does_eq); exact rfl; exact rfl) | ((with_reducible apply does_box_ag); exact rfl; exact rfl)); (first | exact lapp_nil _ | exact lapp_1 _ _ | exact lapp_2 _ _ _ | exact lapp_3 _ _ _ _))) | (with_reducible first | apply aw_seq | apply aw_reg | apply rp_nil | apply ae_norm | apply aw_block | apply be_norm | apply aw_ret | apply re_ret | apply aw_skip) | ((with_reducible apply rp); first | ((with_reducible apply does_assign); (conv => lhs; whnf)) | ((with_reducible apply does_fieldAddr); exact tyOk rfl; exact rfl; exact rfl; decide; exact rfl) | ((with_reducible apply does_load_var); exact tyOk rfl; exact rfl; exact rfl; exact rfl; exact rfl) | ((with_reducible apply does_eq); exact rfl; exact rfl)) | ((with_reducible apply rp1); ((with_reducible apply does_box_ag); exact rfl; exact rfl)) | ((with_reducible apply aw_cond); exact rfl; (focus (intro hd; (cases hd; done))); (intro hd; clear hd)))
    (with_reducible apply ret_ok); (focus (repeat' (first | (with_reducible apply rv_nil) | (with_reducible apply rv_cons) | ((with_reducible apply rv_tmp); exact rfl)))); exact rfl; refine SubD.of_eq ?_
    rfl
  | num n h =>
    have p1 := itoa_pc (n : Int) (by omega) (by omega)
    rw [Lib.itoa_nonneg] at p1
    show PC _ _ [.ag [iD 3, strD .empty, iD (n : Nat), qD 0]] (strD (byS (Lib.decDigits (Int.toNat (n : Int)))))
    rw [Int.toNat_natCast]
    refine pc_of_aw Tryd.func29 rfl (by kernel_rfl) mixed (by kernel_rfl) (by rw [Tryd.ntmps29]; exact Nat.le_of_ble_eq_true rfl) Tryd.results29 ?_
    repeat (first | ((first | (with_reducible apply rpGT) | (with_reducible apply drGT) | (with_reducible apply rpGTN) | (with_reducible apply drGTN)); exact rfl; (first | exact gval_t rfl | exact gval_f rfl | exact gval_gt rfl | exact gval_gf rfl); (first | exact rfl | assumption | decide); (focus repeat' (first | exact trivial | exact fun h => h | refine And.intro ?_ ?_ | (intro h; (first | exact h | (simp only [Bool.and_eq_true] at h; (first | exact h.1 | exact h.1.1 | exact h.1.1.1 | exact h.2)) | (rw [h]; rfl) | (rw [hgd0, h]; rfl) | simp_all)))); ((first | ((with_reducible apply does_call_flat); exact rfl; exact rfl; exact (p1); exact rfl) | ((with_reducible apply does_assign); (conv => lhs; whnf)) | ((with_reducible apply does_fieldAddr); exact tyOk rfl; exact rfl; exact rfl; decide; exact rfl) | ((with_reducible apply does_load_var); exact tyOk rfl; exact rfl; exact rfl; exact rfl; exact rfl) | ((with_reducible apply does_eq); exact rfl; exact rfl) | ((with_reducible apply does_box_ag); exact rfl; exact rfl)); (first | exact lapp_nil _ | exact lapp_1 _ _ | exact lapp_2 _ _ _ | exact lapp_3 _ _ _ _))) | (with_reducible first | apply aw_seq | apply aw_reg | apply rp_nil | apply ae_norm | apply aw_block | apply aw_ret | apply ae_ret | apply be_ret | apply re_ret) | ((with_reducible apply rp); first | ((with_reducible apply does_call_flat); exact rfl; exact rfl; exact (p1); exact rfl) | ((with_reducible apply does_assign); (conv => lhs; whnf)) | ((with_reducible apply does_fieldAddr); exact tyOk rfl; exact rfl; exact rfl; decide; exact rfl) | ((with_reducible apply does_load_var); exact tyOk rfl; exact rfl; exact rfl; exact rfl; exact rfl) | ((with_reducible apply does_eq); exact rfl; exact rfl)) | ((with_reducible apply rp1); ((with_reducible apply does_box_ag); exact rfl; exact rfl)) | ((with_reducible apply aw_cond); exact rfl; rotate_left; (focus (intro hd; (cases hd; done))); (intro hd; clear hd)))
    (with_reducible apply ret_ok); (focus (repeat' (first | (with_reducible apply rv_nil) | (with_reducible apply rv_cons) | ((with_reducible apply rv_tmp); exact rfl)))); exact rfl; refine SubD.of_eq ?_
    rfl
  | quote b h1 h2 =>
    have p1 := replaceAll_pc b (by omega)
    have hl := dbl_le b.data.toList
    rw [← ba_len] at hl
    show PC _ _ [.ag [iD 4, strD b, iD 0, qD 0]] (strD (byS (39 :: (dblL b.data.toList ++ [39]))))
    generalize dblL b.data.toList = d at *
    refine pc_of_aw Tryd.func29 rfl (by kernel_rfl) mixed (by kernel_rfl) (by rw [Tryd.ntmps29]; exact Nat.le_of_ble_eq_true rfl) Tryd.results29 ?_
    repeat (first | ((first | (with_reducible apply rpGT) | (with_reducible apply drGT) | (with_reducible apply rpGTN) | (with_reducible apply drGTN)); exact rfl; (first | exact gval_t rfl | exact gval_f rfl | exact gval_gt rfl | exact gval_gf rfl); (first | exact rfl | assumption | decide); (focus repeat' (first | exact trivial | exact fun h => h | refine And.intro ?_ ?_ | (intro h; (first | exact h | (simp only [Bool.and_eq_true] at h; (first | exact h.1 | exact h.1.1 | exact h.1.1.1 | exact h.2)) | (rw [h]; rfl) | (rw [hgd0, h]; rfl) | simp_all)))); ((first | ((with_reducible apply does_call_flat); exact rfl; exact rfl; exact (p1); exact rfl) | (exact does_cat_to (a := [39]) (b := d) rfl (by simp; omega) rfl rfl) | (exact does_cat_to (a := 39 :: d) (b := [39]) rfl (by simp; omega) rfl rfl) | ((with_reducible apply does_assign); (conv => lhs; whnf)) | ((with_reducible apply does_fieldAddr); exact tyOk rfl; exact rfl; exact rfl; decide; exact rfl) | ((with_reducible apply does_load_var); exact tyOk rfl; exact rfl; exact rfl; exact rfl; exact rfl) | ((with_reducible apply does_eq); exact rfl; exact rfl) | ((with_reducible apply does_box_ag); exact rfl; exact rfl)); (first | exact lapp_nil _ | exact lapp_1 _ _ | exact lapp_2 _ _ _ | exact lapp_3 _ _ _ _))) | (with_reducible first | apply aw_seq | apply aw_reg | apply rp_nil | apply ae_norm | apply aw_block | apply aw_ret | apply ae_ret | apply be_ret | apply re_ret) | ((with_reducible apply rp); first | ((with_reducible apply does_call_flat); exact rfl; exact rfl; exact (p1); exact rfl) | (exact does_cat_to (a := [39]) (b := d) rfl (by simp; omega) rfl rfl) | (exact does_cat_to (a := 39 :: d) (b := [39]) rfl (by simp; omega) rfl rfl) | ((with_reducible apply does_assign); (conv => lhs; whnf)) | ((with_reducible apply does_fieldAddr); exact tyOk rfl; exact rfl; exact rfl; decide; exact rfl) | ((with_reducible apply does_load_var); exact tyOk rfl; exact rfl; exact rfl; exact rfl; exact rfl) | ((with_reducible apply does_eq); exact rfl; exact rfl)) | ((with_reducible apply rp1); ((with_reducible apply does_box_ag); exact rfl; exact rfl)) | ((with_reducible apply aw_cond); exact rfl; (focus (intro hd; (cases hd; done))); (intro hd; clear hd)) | ((with_reducible apply aw_cond); exact rfl; rotate_left; (focus (intro hd; (cases hd; done))); (intro hd; clear hd)))
    (with_reducible apply ret_ok); (focus (repeat' (first | (with_reducible apply rv_nil) | (with_reducible apply rv_cons) | ((with_reducible apply rv_tmp); exact rfl)))); exact rfl; refine SubD.of_eq ?_
    rfl
  | hex b h1 h2 =>
    have p1 := fmtU_pc b h1
    obtain ⟨hl, hp⟩ := hexMin_pad 16 b (by decide) (by omega)
    have p2 := repeat_pc ⟨#[48]⟩ (16 - (hexMin b).length) (by show 1 * _ ≤ _; omega) (by omega)
    have p2 : PC Tryd.prog 50 [strD ⟨#[48]⟩, iD (16 - (hexMin b).length : Nat)] (strD (byS (Lib.repeatL [48] (16 - (hexMin b).length)))) := p2
    rw [repeat_nought] at p2
    have hz := cut_size (hexMin b)
    have h3 := hexL_len 16 b
    show PC _ _ [.ag [iD 5, strD .empty, iD 0, qD b]] (strD (byS (35 :: hexL 16 b)))
    have hrl : (List.replicate (16 - (hexMin b).length) (48 : UInt8)).length = 16 - (hexMin b).length := List.length_replicate
    generalize List.replicate (16 - (hexMin b).length) (48 : UInt8) = z at *
    generalize hexMin b = hm at *
    generalize hexL 16 b = R at *
    refine pc_of_aw Tryd.func29 rfl (by kernel_rfl) mixed (by kernel_rfl) (by rw [Tryd.ntmps29]; exact Nat.le_of_ble_eq_true rfl) Tryd.results29 ?_
    repeat (first | ((first | (with_reducible apply rpGT) | (with_reducible apply drGT) | (with_reducible apply rpGTN) | (with_reducible apply drGTN)); exact rfl; (first | exact gval_t rfl | exact gval_f rfl | exact gval_gt rfl | exact gval_gf rfl); (first | exact rfl | assumption | decide); (focus repeat' (first | exact trivial | exact fun h => h | refine And.intro ?_ ?_ | (intro h; (first | exact h | (simp only [Bool.and_eq_true] at h; (first | exact h.1 | exact h.1.1 | exact h.1.1.1 | exact h.2)) | (rw [h]; rfl) | (rw [hgd0, h]; rfl) | simp_all)))); ((first | ((with_reducible apply does_call_flat); exact rfl; exact rfl; exact (p1); exact rfl) | ((with_reducible apply does_call_flat); exact rfl; exact rfl; exact (p2); exact rfl) | (exact does_sub_eq (z := ((16 - hm.length : Nat) : Int)) (by omega) (by omega) (by omega) rfl rfl) | (exact does_cat_to (a := [35]) (b := z) rfl (by simp; omega) rfl rfl) | (exact does_cat_to (a := 35 :: z) (b := hm) (c := 35 :: R) (by rw [← hp]; rfl) (by simp; omega) rfl rfl) | ((with_reducible apply does_move); (conv => lhs; whnf)) | ((with_reducible apply does_assign); (conv => lhs; whnf)) | ((with_reducible apply does_fieldAddr); exact tyOk rfl; exact rfl; exact rfl; decide; exact rfl) | ((with_reducible apply does_load_var); exact tyOk rfl; exact rfl; exact rfl; exact rfl; exact rfl) | ((with_reducible apply does_eq); exact rfl; exact rfl) | ((with_reducible apply does_len_str); exact tyOk rfl; exact rfl; exact rfl) | ((with_reducible apply does_box_ag); exact rfl; exact rfl)); (first | exact lapp_nil _ | exact lapp_1 _ _ | exact lapp_2 _ _ _ | exact lapp_3 _ _ _ _))) | (with_reducible first | apply aw_seq | apply aw_reg | apply rp_nil | apply ae_norm | apply aw_block | apply aw_ret | apply ae_ret | apply be_ret | apply re_ret) | ((with_reducible apply rp); first | ((with_reducible apply does_call_flat); exact rfl; exact rfl; exact (p1); exact rfl) | ((with_reducible apply does_call_flat); exact rfl; exact rfl; exact (p2); exact rfl) | (exact does_sub_eq (z := ((16 - hm.length : Nat) : Int)) (by omega) (by omega) (by omega) rfl rfl) | (exact does_cat_to (a := [35]) (b := z) rfl (by simp; omega) rfl rfl) | (exact does_cat_to (a := 35 :: z) (b := hm) (c := 35 :: R) (by rw [← hp]; rfl) (by simp; omega) rfl rfl) | ((with_reducible apply does_move); (conv => lhs; whnf)) | ((with_reducible apply does_assign); (conv => lhs; whnf)) | ((with_reducible apply does_fieldAddr); exact tyOk rfl; exact rfl; exact rfl; decide; exact rfl) | ((with_reducible apply does_load_var); exact tyOk rfl; exact rfl; exact rfl; exact rfl; exact rfl) | ((with_reducible apply does_eq); exact rfl; exact rfl) | ((with_reducible apply does_len_str); exact tyOk rfl; exact rfl; exact rfl)) | ((with_reducible apply rp1); ((with_reducible apply does_box_ag); exact rfl; exact rfl)) | ((with_reducible apply aw_cond); exact rfl; (focus (intro hd; (cases hd; done))); (intro hd; clear hd)) | ((with_reducible apply aw_cond); exact rfl; rotate_left; (focus (intro hd; (cases hd; done))); (intro hd; clear hd)))
    (with_reducible apply ret_ok); (focus (repeat' (first | (with_reducible apply rv_nil) | (with_reducible apply rv_cons) | ((with_reducible apply rv_tmp); exact rfl)))); exact rfl; refine SubD.of_eq ?_
    rfl
  | sign s h =>
    show PC _ _ [.ag [iD 6, strD s, iD 0, qD 0]] (strD (byS s.data.toList))
    rw [show byS s.data.toList = s from ba_eta s]
    refine pc_of_aw Tryd.func29 rfl (by kernel_rfl) mixed (by kernel_rfl) (by rw [Tryd.ntmps29]; exact Nat.le_of_ble_eq_true rfl) Tryd.results29 ?_
    repeat (first | ((first | (with_reducible apply rpGT) | (with_reducible apply drGT) | (with_reducible apply rpGTN) | (with_reducible apply drGTN)); exact rfl; (first | exact gval_t rfl | exact gval_f rfl | exact gval_gt rfl | exact gval_gf rfl); (first | exact rfl | assumption | decide); (focus repeat' (first | exact trivial | exact fun h => h | refine And.intro ?_ ?_ | (intro h; (first | exact h | (simp only [Bool.and_eq_true] at h; (first | exact h.1 | exact h.1.1 | exact h.1.1.1 | exact h.2)) | (rw [h]; rfl) | (rw [hgd0, h]; rfl) | simp_all)))); ((first | ((with_reducible apply does_assign); (conv => lhs; whnf)) | ((with_reducible apply does_fieldAddr); exact tyOk rfl; exact rfl; exact rfl; decide; exact rfl) | ((with_reducible apply does_load_var); exact tyOk rfl; exact rfl; exact rfl; exact rfl; exact rfl) | ((with_reducible apply does_eq); exact rfl; exact rfl) | ((with_reducible apply does_box_ag); exact rfl; exact rfl)); (first | exact lapp_nil _ | exact lapp_1 _ _ | exact lapp_2 _ _ _ | exact lapp_3 _ _ _ _))) | (with_reducible first | apply aw_seq | apply aw_reg | apply rp_nil | apply ae_norm | apply aw_block | apply be_norm | apply aw_ret | apply re_ret | apply aw_skip) | ((with_reducible apply rp); first | ((with_reducible apply does_assign); (conv => lhs; whnf)) | ((with_reducible apply does_fieldAddr); exact tyOk rfl; exact rfl; exact rfl; decide; exact rfl) | ((with_reducible apply does_load_var); exact tyOk rfl; exact rfl; exact rfl; exact rfl; exact rfl) | ((with_reducible apply does_eq); exact rfl; exact rfl)) | ((with_reducible apply rp1); ((with_reducible apply does_box_ag); exact rfl; exact rfl)) | ((with_reducible apply aw_cond); exact rfl; (focus (intro hd; (cases hd; done))); (intro hd; clear hd)))
    (with_reducible apply ret_ok); (focus (repeat' (first | (with_reducible apply rv_nil) | (with_reducible apply rv_cons) | ((with_reducible apply rv_tmp); exact rfl)))); exact rfl; refine SubD.of_eq ?_
    rfl
theorem lexCheckL_pc (t : Tk) (h : TkL t) : PC Tryd.prog 17 [.ag t.cs] (iD 0) := by
  cases h with
  | name n h => exact lexCheck_pc _ (.name n h)
  | word n h => exact lexCheck_pc _ (.word n h)
  | num n h => exact lexCheck_pc _ (.num n (by omega))
  | quote b h1 h2 => exact lexCheck_pc _ (.quote b h1 h2)
  | hex b h1 h2 =>
    have c1 := check_pc ⟨3, 0, b, .empty⟩ (by show ByteArray.empty.size ≤ _; decide)
    have h3 : chkV ⟨3, 0, b, .empty⟩ = 0 := h2
    rw [h3] at c1
    have c1 : PC Tryd.prog 37 [.ag [iD 3, iD 0, qD b, strD .empty]] (iD (0 : Nat)) := c1
    show PC _ _ [.ag [iD 5, strD .empty, iD 0, qD b]] _
    refine pc_of_aw Tryd.func17 rfl (by kernel_rfl) mixed (by kernel_rfl) (by rw [Tryd.ntmps17]; exact Nat.le_of_ble_eq_true rfl) Tryd.results17 ?_
    repeat (first | ((first | (with_reducible apply rpGT) | (with_reducible apply drGT) | (with_reducible apply rpGTN) | (with_reducible apply drGTN)); exact rfl; (first | exact gval_t rfl | exact gval_f rfl); (first | exact rfl | assumption | decide); (focus repeat' (first | exact trivial | exact fun h => h | refine And.intro ?_ ?_ | (intro h; simp_all))); ((first | ((with_reducible apply does_call_flat); exact rfl; exact rfl; exact (c1); exact rfl) | ((with_reducible apply does_move); (conv => lhs; whnf)) | ((with_reducible apply does_assign); (conv => lhs; whnf)) | ((with_reducible apply does_and); exact rfl; exact rfl; exact rfl; (first | exact trivial | exact fun h => h)) | ((with_reducible apply does_or); exact rfl; exact rfl; exact rfl; (first | exact trivial | exact fun h => h)) | ((with_reducible apply does_fieldAddr); exact tyOk rfl; exact rfl; exact rfl; decide; exact rfl) | ((with_reducible apply does_load_var); exact tyOk rfl; exact rfl; exact rfl; exact rfl; exact rfl) | ((with_reducible apply does_eq); exact rfl; exact rfl) | ((with_reducible apply does_ne); exact rfl; exact rfl) | ((with_reducible apply does_lt); exact rfl; exact rfl) | ((with_reducible apply does_gt); exact rfl; exact rfl) | ((with_reducible apply does_sne); exact rfl; exact rfl) | ((with_reducible apply does_not); exact rfl) | ((with_reducible apply does_len_str); exact tyOk rfl; exact rfl; exact rfl) | ((with_reducible apply does_build); exact tyOk rfl; exact rfl; exact rfl; (focus repeat' (first | exact rfl | refine ⟨_, _, rfl, rfl, Nat.le_of_ble_eq_true rfl, rfl, ?_⟩)); exact rfl) | ((with_reducible apply does_box_ag); exact rfl; exact rfl)); (first | exact lapp_nil _ | exact lapp_1 _ _ | exact lapp_2 _ _ _ | exact lapp_3 _ _ _ _))) | (with_reducible first | apply aw_seq | apply aw_reg | apply rp_nil | apply ae_norm | apply aw_block | apply be_norm | apply aw_ret | apply re_ret | apply aw_skip) | ((first | (with_reducible apply rp) | ((with_reducible apply rpG); exact rfl; (first | exact gval_t rfl | exact gval_f rfl); (focus repeat' (first | exact trivial | exact fun h => h | refine And.intro ?_ ?_ | (intro h; simp_all))); intro hgd; have hgd0 := hgd; (try simp only [decide_eq_true_eq, Bool.and_eq_true, Bool.not_eq_true', beq_iff_eq] at hgd))); first | ((with_reducible apply does_call_flat); exact rfl; exact rfl; exact (c1); exact rfl) | ((with_reducible apply does_move); (conv => lhs; whnf)) | ((with_reducible apply does_assign); (conv => lhs; whnf)) | ((with_reducible apply does_and); exact rfl; exact rfl; exact rfl; (first | exact trivial | exact fun h => h)) | ((with_reducible apply does_or); exact rfl; exact rfl; exact rfl; (first | exact trivial | exact fun h => h)) | ((with_reducible apply does_fieldAddr); exact tyOk rfl; exact rfl; exact rfl; decide; exact rfl) | ((with_reducible apply does_load_var); exact tyOk rfl; exact rfl; exact rfl; exact rfl; exact rfl) | ((with_reducible apply does_eq); exact rfl; exact rfl) | ((with_reducible apply does_ne); exact rfl; exact rfl) | ((with_reducible apply does_lt); exact rfl; exact rfl) | ((with_reducible apply does_gt); exact rfl; exact rfl) | ((with_reducible apply does_sne); exact rfl; exact rfl) | ((with_reducible apply does_not); exact rfl) | ((with_reducible apply does_len_str); exact tyOk rfl; exact rfl; exact rfl) | ((with_reducible apply does_build); exact tyOk rfl; exact rfl; exact rfl; (focus repeat' (first | exact rfl | refine ⟨_, _, rfl, rfl, Nat.le_of_ble_eq_true rfl, rfl, ?_⟩)); exact rfl)) | ((with_reducible apply rp1); ((with_reducible apply does_box_ag); exact rfl; exact rfl)) | ((with_reducible apply aw_cond); exact rfl; (focus (intro hd; (first | (cases hd; done) | (exfalso; simp at hd; done)))); (intro hd; clear hd)) | ((with_reducible apply aw_cond); exact rfl; rotate_left; (focus (intro hd; (first | (cases hd; done) | (exfalso; simp at hd; done)))); (intro hd; clear hd)) | ((first | (with_reducible apply rpGP) | (with_reducible apply drGP)); exact rfl; (first | exact gval_t rfl | exact gval_f rfl); (focus repeat' (first | exact trivial | exact fun h => h | refine And.intro ?_ ?_ | (intro h; simp_all))); (intro hgd; have hgd0 := hgd; (try simp only [decide_eq_true_eq, Bool.and_eq_true, Bool.not_eq_true', beq_iff_eq] at hgd); first | ((with_reducible apply does_or); exact rfl; exact rfl; exact rfl; (first | exact trivial | exact fun h => h)) | ((with_reducible apply does_and); exact rfl; exact rfl; exact rfl; (first | exact trivial | exact fun h => h)))))
    (with_reducible apply ret_ok); (focus (repeat' (first | (with_reducible apply rv_nil) | (with_reducible apply rv_cons) | ((with_reducible apply rv_tmp); exact rfl)))); exact rfl; refine SubD.of_eq ?_
    rfl
  | sign s h => exact lexCheck_pc _ (.sign s h)
theorem join_snoc (t : Tk) : ∀ l : List Tk, joinT (l ++ [t]) = if l = [] then shwT t else joinT l ++ 32 :: shwT t
  | [] => rfl
  | [u] => rfl
  | u :: v :: l => by
    have ih := join_snoc t (v :: l)
    rw [if_neg (by simp)] at ih ⊢
    show shwT u ++ 32 :: joinT ((v :: l) ++ [t]) = (shwT u ++ 32 :: joinT (v :: l)) ++ 32 :: shwT t
    rw [ih, List.append_assoc]
    rfl
theorem join_le : ∀ T : List Tk, (∀ t ∈ T, TkL t) → (joinT T).length ≤ 91 * T.length
  | [], _ => Nat.le_refl _
  | [t], h => by
    have := shwT_len (h t (by simp))
    show (shwT t).length ≤ 91 * 1
    omega
  | t :: u :: T, h => by
    have h1 := shwT_len (h t (by simp))
    have h2 := join_le (u :: T) fun x hx => h x (by simp [hx])
    rw [joinT, List.length_append]
    simp only [List.length_cons] at *
    omega
/-- What Show tells. -/
def shD (T : List Tk) : D := if 300 < (joinT T).length then .tu [strD .empty, iD 1] else .tu [strD (byS (joinT T)), iD 0]
set_option maxHeartbeats 4000000 in
theorem lexShow_pc (T : List Tk) (h : ∀ t ∈ T, TkL t) (hl : T.length ≤ 100) : PC Tryd.prog 14 [toksD T] (shD T) := by
  have hg : decide ((T.length : Int) > 100) = false := decide_eq_false (by omega)
  have hjl : ∀ k, (joinT (T.take k)).length ≤ 9100 := fun k => by
    have := join_le (T.take k) fun t ht => h t (List.mem_of_mem_take ht)
    rw [List.length_take] at this
    omega
  refine pc_of_aw Tryd.func14 rfl (by kernel_rfl) mixed (by kernel_rfl) (by rw [Tryd.ntmps14]; exact Nat.le_of_ble_eq_true rfl) Tryd.results14 ?_
  repeat (first | ((first | (with_reducible apply rpGT) | (with_reducible apply drGT) | (with_reducible apply rpGTN) | (with_reducible apply drGTN)); exact rfl; (first | exact gval_t rfl | exact gval_f rfl | exact gval_gt rfl | exact gval_gf rfl); (first | exact rfl | assumption | decide); (focus repeat' (first | exact trivial | exact fun h => h | refine And.intro ?_ ?_ | (intro h; (first | exact h | (simp only [Bool.and_eq_true] at h; (first | exact h.1 | exact h.1.1 | exact h.1.1.1 | exact h.2)) | (rw [h]; rfl) | (rw [hgd0, h]; rfl) | simp_all)))); ((first | (exact does_gt_u hg rfl rfl) | ((with_reducible apply does_move); (conv => lhs; whnf)) | ((with_reducible apply does_assign); (conv => lhs; whnf)) | ((with_reducible apply does_len_map); exact tyOk rfl; exact rfl; exact rfl)); (first | exact lapp_nil _ | exact lapp_1 _ _ | exact lapp_2 _ _ _ | exact lapp_3 _ _ _ _))) | (with_reducible first | apply aw_seq | apply aw_reg | apply rp_nil | apply ae_norm | apply aw_block | apply aw_skip) | ((with_reducible apply rp); first | (exact does_gt_u hg rfl rfl) | ((with_reducible apply does_move); (conv => lhs; whnf)) | ((with_reducible apply does_assign); (conv => lhs; whnf)) | ((with_reducible apply does_len_map); exact tyOk rfl; exact rfl; exact rfl)) | ((with_reducible apply aw_cond); exact rfl; (focus (intro hd; (cases hd; done))); (intro hd; clear hd)))
  refine aw_loop (fun m st => ∃ k : Nat, k ≤ T.length ∧ T.length - k = m ∧ st = ⟨[(4, .d (strD (byS (joinT (T.take k))))), (11, .d (toksD T)), (12, .d (iD T.length)), (13, .d (iD (k : Nat)))], []⟩) _ _ ?_ ⟨0, Nat.zero_le _, rfl, rfl⟩ ?_
  · refine forget_of [] (by repeat' (first | exact ks_nil | (refine ks_cons rfl (by exact SubA.refl _) ?_))) (by repeat' exact trivial) rfl (by repeat' (first | exact trivial | refine And.intro ?_ ?_)) (by repeat' (first | exact trivial | refine And.intro ?_ ?_))
  · rintro m st ⟨k, hk, rfl, rfl⟩
    rcases Nat.lt_or_ge k T.length with hlt | hge
    · have hll : decide ((k : Int) < (T.length : Nat)) = true := decide_eq_true (by omega)
      obtain ⟨t, ht⟩ : ∃ t, T[k]? = some t := ⟨_, List.getElem?_eq_getElem hlt⟩
      have htk := h t (List.mem_of_getElem? ht)
      have hgt : (T.map Tk.cs)[k]? = some t.cs := by rw [List.getElem?_map, ht]; rfl
      have s1 := show_pc t htk
      have c1 := lexCheckL_pc t htk
      have hsl := shwT_len htk
      have hj := hjl k
      have hn : joinT (T.take (k + 1)) = if T.take k = [] then shwT t else joinT (T.take k) ++ 32 :: shwT t := by
        rw [List.take_add_one, ht]
        exact join_snoc t (T.take k)
      obtain ⟨tk, tt, tn, tb⟩ := t
      have s2 : PC Tryd.prog 29 [.ag [iD tk, strD tt, iD tn, qD tb]] (strD (byS (shwT ⟨tk, tt, tn, tb⟩))) := s1
      have c2 : PC Tryd.prog 17 [.ag [iD tk, strD tt, iD tn, qD tb]] (iD 0) := c1
      have hgt2 : (T.map Tk.cs)[k]? = some [iD tk, strD tt, iD tn, qD tb] := hgt
      clear s1 c1 hgt ht htk
      generalize shwT ⟨tk, tt, tn, tb⟩ = sh at *
      cases k with
      | zero =>
        have hk0 : decide (((0 : Nat) : Int) > 0) = false := rfl
        have hn2 : joinT (T.take (0 + 1)) = sh := hn
        have hz : joinT (T.take 0) = [] := rfl
        rw [hz]
        repeat (first | ((first | (with_reducible apply rpGT) | (with_reducible apply drGT) | (with_reducible apply rpGTN) | (with_reducible apply drGTN)); exact rfl; (first | exact gval_t rfl | exact gval_f rfl | exact gval_gt rfl | exact gval_gf rfl); (first | exact rfl | assumption | decide); (focus repeat' (first | exact trivial | exact fun h => h | refine And.intro ?_ ?_ | (intro h; (first | exact h | (simp only [Bool.and_eq_true] at h; (first | exact h.1 | exact h.1.1 | exact h.1.1.1 | exact h.2)) | (rw [h]; rfl) | (rw [hgd0, h]; rfl) | simp_all)))); ((first | (exact does_lt_u hll rfl rfl) | (exact does_gt_u hk0 rfl rfl) | ((with_reducible apply does_call_flat); exact rfl; exact rfl; exact (c2); exact rfl) | ((with_reducible apply does_call_flat); exact rfl; exact rfl; exact (s2); exact rfl) | (exact does_cat_to (a := []) (b := sh) (c := sh) rfl (by omega) rfl rfl) | ((with_reducible apply does_move); (conv => lhs; whnf)) | ((with_reducible apply does_assign); (conv => lhs; whnf)) | ((with_reducible apply does_load_row); exact tyOk rfl; exact rfl; exact rfl; exact rfl; exact Nat.le_of_ble_eq_true rfl; exact rfl) | ((with_reducible apply does_load_elem_whole); exact tyOk rfl; exact rfl; exact rfl; assumption; exact rfl) | ((with_reducible apply does_index_sl); exact tyOk rfl; exact rfl; exact tyOk rfl; exact rfl; exact rfl; exact rfl; exact rfl; (simp only [List.length_map, List.length_append, List.length_cons, List.length_nil] at *; omega)) | ((with_reducible apply does_ne); exact rfl; exact rfl) | ((with_reducible apply does_add); exact rfl; exact rfl; omega; omega) | ((with_reducible apply does_alloc); exact tyOk rfl; exact rfl) | ((with_reducible apply does_store_whole); exact tyOk rfl; exact rfl; exact rfl; exact rfl; exact rfl; exact rfl)); (first | exact lapp_nil _ | exact lapp_1 _ _ | exact lapp_2 _ _ _ | exact lapp_3 _ _ _ _))) | (with_reducible first | apply aw_seq | apply aw_reg | apply rp_nil | apply ae_norm | apply aw_block | apply be_norm | apply aw_skip) | ((with_reducible apply rp); first | (exact does_lt_u hll rfl rfl) | (exact does_gt_u hk0 rfl rfl) | ((with_reducible apply does_call_flat); exact rfl; exact rfl; exact (c2); exact rfl) | ((with_reducible apply does_call_flat); exact rfl; exact rfl; exact (s2); exact rfl) | (exact does_cat_to (a := []) (b := sh) (c := sh) rfl (by omega) rfl rfl) | ((with_reducible apply does_move); (conv => lhs; whnf)) | ((with_reducible apply does_assign); (conv => lhs; whnf)) | ((with_reducible apply does_load_row); exact tyOk rfl; exact rfl; exact rfl; exact rfl; exact Nat.le_of_ble_eq_true rfl; exact rfl) | ((with_reducible apply does_load_elem_whole); exact tyOk rfl; exact rfl; exact rfl; assumption; exact rfl) | ((with_reducible apply does_index_sl); exact tyOk rfl; exact rfl; exact tyOk rfl; exact rfl; exact rfl; exact rfl; exact rfl; (simp only [List.length_map, List.length_append, List.length_cons, List.length_nil] at *; omega)) | ((with_reducible apply does_ne); exact rfl; exact rfl) | ((with_reducible apply does_add); exact rfl; exact rfl; omega; omega)) | ((with_reducible apply rp1); ((with_reducible apply does_alloc); exact tyOk rfl; exact rfl)) | ((with_reducible apply rpN); ((with_reducible apply does_store_whole); exact tyOk rfl; exact rfl; exact rfl; exact rfl; exact rfl; exact rfl)) | ((with_reducible apply aw_cond); exact rfl; (focus (intro hd; (cases hd; done))); (intro hd; clear hd)) | ((with_reducible apply aw_cond); exact rfl; rotate_left; (focus (intro hd; (cases hd; done))); (intro hd; clear hd)))
        refine ⟨_, _, ?_, ?_, 0 + 1, by omega, rfl, rfl⟩
        · omega
        · rw [hn2]
          refine forget_of [] (by repeat' (first | exact ks_nil | (refine ks_cons rfl (by exact SubA.refl _) ?_))) (by repeat' exact trivial) rfl (by repeat' (first | exact trivial | refine And.intro ?_ ?_)) (by repeat' (first | exact trivial | refine And.intro ?_ ?_))
      | succ j =>
        have hk0 : decide (((j + 1 : Nat) : Int) > 0) = true := decide_eq_true (by omega)
        rw [if_neg (fun e => by have h9 := congrArg List.length e; rw [List.length_take] at h9; have h10 : min (j + 1) T.length = 0 := h9; omega)] at hn
        generalize joinT (T.take (j + 1)) = J at *
        repeat (first | ((first | (with_reducible apply rpGT) | (with_reducible apply drGT) | (with_reducible apply rpGTN) | (with_reducible apply drGTN)); exact rfl; (first | exact gval_t rfl | exact gval_f rfl | exact gval_gt rfl | exact gval_gf rfl); (first | exact rfl | assumption | decide); (focus repeat' (first | exact trivial | exact fun h => h | refine And.intro ?_ ?_ | (intro h; (first | exact h | (simp only [Bool.and_eq_true] at h; (first | exact h.1 | exact h.1.1 | exact h.1.1.1 | exact h.2)) | (rw [h]; rfl) | (rw [hgd0, h]; rfl) | simp_all)))); ((first | (exact does_lt_u hll rfl rfl) | (exact does_gt_u hk0 rfl rfl) | ((with_reducible apply does_call_flat); exact rfl; exact rfl; exact (c2); exact rfl) | ((with_reducible apply does_call_flat); exact rfl; exact rfl; exact (s2); exact rfl) | (exact does_cat_to (a := J) (b := [32]) rfl (by simp; omega) rfl rfl) | (exact does_cat_to (a := J ++ [32]) (b := sh) (c := J ++ 32 :: sh) (by simp) (by simp; omega) rfl rfl) | ((with_reducible apply does_move); (conv => lhs; whnf)) | ((with_reducible apply does_assign); (conv => lhs; whnf)) | ((with_reducible apply does_load_row); exact tyOk rfl; exact rfl; exact rfl; exact rfl; exact Nat.le_of_ble_eq_true rfl; exact rfl) | ((with_reducible apply does_load_elem_whole); exact tyOk rfl; exact rfl; exact rfl; assumption; exact rfl) | ((with_reducible apply does_index_sl); exact tyOk rfl; exact rfl; exact tyOk rfl; exact rfl; exact rfl; exact rfl; exact rfl; (simp only [List.length_map, List.length_append, List.length_cons, List.length_nil] at *; omega)) | ((with_reducible apply does_ne); exact rfl; exact rfl) | ((with_reducible apply does_add); exact rfl; exact rfl; omega; omega) | ((with_reducible apply does_alloc); exact tyOk rfl; exact rfl) | ((with_reducible apply does_store_whole); exact tyOk rfl; exact rfl; exact rfl; exact rfl; exact rfl; exact rfl)); (first | exact lapp_nil _ | exact lapp_1 _ _ | exact lapp_2 _ _ _ | exact lapp_3 _ _ _ _))) | (with_reducible first | apply aw_seq | apply aw_reg | apply rp_nil | apply ae_norm | apply aw_block | apply be_norm | apply aw_skip) | ((with_reducible apply rp); first | (exact does_lt_u hll rfl rfl) | (exact does_gt_u hk0 rfl rfl) | ((with_reducible apply does_call_flat); exact rfl; exact rfl; exact (c2); exact rfl) | ((with_reducible apply does_call_flat); exact rfl; exact rfl; exact (s2); exact rfl) | (exact does_cat_to (a := J) (b := [32]) rfl (by simp; omega) rfl rfl) | (exact does_cat_to (a := J ++ [32]) (b := sh) (c := J ++ 32 :: sh) (by simp) (by simp; omega) rfl rfl) | ((with_reducible apply does_move); (conv => lhs; whnf)) | ((with_reducible apply does_assign); (conv => lhs; whnf)) | ((with_reducible apply does_load_row); exact tyOk rfl; exact rfl; exact rfl; exact rfl; exact Nat.le_of_ble_eq_true rfl; exact rfl) | ((with_reducible apply does_load_elem_whole); exact tyOk rfl; exact rfl; exact rfl; assumption; exact rfl) | ((with_reducible apply does_index_sl); exact tyOk rfl; exact rfl; exact tyOk rfl; exact rfl; exact rfl; exact rfl; exact rfl; (simp only [List.length_map, List.length_append, List.length_cons, List.length_nil] at *; omega)) | ((with_reducible apply does_ne); exact rfl; exact rfl) | ((with_reducible apply does_add); exact rfl; exact rfl; omega; omega)) | ((with_reducible apply rp1); ((with_reducible apply does_alloc); exact tyOk rfl; exact rfl)) | ((with_reducible apply rpN); ((with_reducible apply does_store_whole); exact tyOk rfl; exact rfl; exact rfl; exact rfl; exact rfl; exact rfl)) | ((with_reducible apply aw_cond); exact rfl; (focus (intro hd; (cases hd; done))); (intro hd; clear hd)) | ((with_reducible apply aw_cond); exact rfl; rotate_left; (focus (intro hd; (cases hd; done))); (intro hd; clear hd)))
        refine ⟨_, _, ?_, ?_, j + 1 + 1, by omega, rfl, rfl⟩
        · omega
        · rw [hn]
          refine forget_of [] (by repeat' (first | exact ks_nil | (refine ks_cons rfl (by exact SubA.refl _) ?_))) (by repeat' exact trivial) rfl (by repeat' (first | exact trivial | refine And.intro ?_ ?_)) (by repeat' (first | exact trivial | refine And.intro ?_ ?_))
    · obtain rfl : k = T.length := by omega
      have hll : decide ((T.length : Int) < (T.length : Nat)) = false := decide_eq_false (by omega)
      have hz := cut_size (joinT T)
      unfold shD
      rw [List.take_length]
      by_cases h3 : 300 < (joinT T).length
      · have hg3 : decide (((byS (joinT T)).size : Int) > 300) = true := decide_eq_true (by omega)
        rw [if_pos h3]
        generalize joinT T = J at *
        repeat (first | ((first | (with_reducible apply rpGT) | (with_reducible apply drGT) | (with_reducible apply rpGTN) | (with_reducible apply drGTN)); exact rfl; (first | exact gval_t rfl | exact gval_f rfl | exact gval_gt rfl | exact gval_gf rfl); (first | exact rfl | assumption | decide); (focus repeat' (first | exact trivial | exact fun h => h | refine And.intro ?_ ?_ | (intro h; (first | exact h | (simp only [Bool.and_eq_true] at h; (first | exact h.1 | exact h.1.1 | exact h.1.1.1 | exact h.2)) | (rw [h]; rfl) | (rw [hgd0, h]; rfl) | simp_all)))); ((first | (exact does_lt_u hll rfl rfl) | (exact does_gt_u hg3 rfl rfl) | ((with_reducible apply does_move); (conv => lhs; whnf)) | ((with_reducible apply does_assign); (conv => lhs; whnf)) | ((with_reducible apply does_len_str); exact tyOk rfl; exact rfl; exact rfl)); (first | exact lapp_nil _ | exact lapp_1 _ _ | exact lapp_2 _ _ _ | exact lapp_3 _ _ _ _))) | (with_reducible first | apply aw_seq | apply aw_reg | apply rp_nil | apply ae_norm | apply aw_exit | apply ae_exit | apply be_exit | apply aw_ret | apply ae_ret | apply re_ret) | ((with_reducible apply rp); first | (exact does_lt_u hll rfl rfl) | (exact does_gt_u hg3 rfl rfl) | ((with_reducible apply does_move); (conv => lhs; whnf)) | ((with_reducible apply does_assign); (conv => lhs; whnf)) | ((with_reducible apply does_len_str); exact tyOk rfl; exact rfl; exact rfl)) | ((with_reducible apply aw_cond); exact rfl; (focus (intro hd; (cases hd; done))); (intro hd; clear hd)) | ((with_reducible apply aw_cond); exact rfl; rotate_left; (focus (intro hd; (cases hd; done))); (intro hd; clear hd)))
        (with_reducible apply ret_ok); (focus (repeat' (first | (with_reducible apply rv_nil) | (with_reducible apply rv_cons) | ((with_reducible apply rv_tmp); exact rfl)))); exact rfl; refine SubD.of_eq ?_
        rfl
      · have hg3 : decide (((byS (joinT T)).size : Int) > 300) = false := decide_eq_false (by omega)
        rw [if_neg h3]
        generalize joinT T = J at *
        repeat (first | ((first | (with_reducible apply rpGT) | (with_reducible apply drGT) | (with_reducible apply rpGTN) | (with_reducible apply drGTN)); exact rfl; (first | exact gval_t rfl | exact gval_f rfl | exact gval_gt rfl | exact gval_gf rfl); (first | exact rfl | assumption | decide); (focus repeat' (first | exact trivial | exact fun h => h | refine And.intro ?_ ?_ | (intro h; (first | exact h | (simp only [Bool.and_eq_true] at h; (first | exact h.1 | exact h.1.1 | exact h.1.1.1 | exact h.2)) | (rw [h]; rfl) | (rw [hgd0, h]; rfl) | simp_all)))); ((first | (exact does_lt_u hll rfl rfl) | (exact does_gt_u hg3 rfl rfl) | ((with_reducible apply does_move); (conv => lhs; whnf)) | ((with_reducible apply does_assign); (conv => lhs; whnf)) | ((with_reducible apply does_len_str); exact tyOk rfl; exact rfl; exact rfl)); (first | exact lapp_nil _ | exact lapp_1 _ _ | exact lapp_2 _ _ _ | exact lapp_3 _ _ _ _))) | (with_reducible first | apply aw_seq | apply aw_reg | apply rp_nil | apply ae_norm | apply aw_exit | apply ae_exit | apply be_exit | apply aw_ret | apply re_ret | apply aw_skip) | ((with_reducible apply rp); first | (exact does_lt_u hll rfl rfl) | (exact does_gt_u hg3 rfl rfl) | ((with_reducible apply does_move); (conv => lhs; whnf)) | ((with_reducible apply does_assign); (conv => lhs; whnf)) | ((with_reducible apply does_len_str); exact tyOk rfl; exact rfl; exact rfl)) | ((with_reducible apply aw_cond); exact rfl; (focus (intro hd; (cases hd; done))); (intro hd; clear hd)))
        (with_reducible apply ret_ok); (focus (repeat' (first | (with_reducible apply rv_nil) | (with_reducible apply rv_cons) | ((with_reducible apply rv_tmp); exact rfl)))); exact rfl; refine SubD.of_eq ?_
        rfl
end Go.Proofs.YtlpnnnmdkglkcaaDoor

