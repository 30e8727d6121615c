/-
  The scanner of package lex: number, hex, sign. No condition but the sizes.
-/
import Derived.Test.YtlpnnnmdkglkcaaDoorZLexS
namespace Go.Proofs.YtlpnnnmdkglkcaaDoor
set_option linter.unusedSimpArgs false
set_option linter.unusedVariables false
open Go.RowKit

section
variable {P : Program} {dst : Option Nat} {ty : TypeId} {e : Operand → A} {β : Bx} {T T' : TypeId} {x y : Operand} {m n : Int} {b : Bool} {k : IntKind}
theorem does_wsub_to {m n z : Int} (hz : k.wrap (m - n) = z) (hx : e x = .d (.sc (.int k m))) (hy : e y = .d (.sc (.int k n))) : Does P dst (.binOp .sub T x y T') ty e β (.d (.sc (.int k z))) [] [] := by
  subst hz; exact does_wsub hx hy
theorem does_wadd_to {m n z : Int} (hz : k.wrap (m + n) = z) (hx : e x = .d (.sc (.int k m))) (hy : e y = .d (.sc (.int k n))) : Does P dst (.binOp .add T x y T') ty e β (.d (.sc (.int k z))) [] [] := by
  subst hz; exact does_wadd hx hy
theorem does_conv_to {S T : TypeId} {s t : TyI} {k k' : IntKind} {n z : Int} (hz : k'.wrap n = z) (hs : mkTy P S = some s) (ht : mkTy P T = some t) (hk : t.kind = .int k') (hx : e x = .d (.sc (.int k n))) : Does P dst (.convert S T x) ty e β (.d (.sc (.int k' z))) [] [] := by
  subst hz; exact does_conv_int hs ht hk hx
theorem does_ge_u {m n : Int} (hd : decide (m ≥ n) = b) (hx : e x = .d (.sc (.int k m))) (hy : e y = .d (.sc (.int k n))) : Does P dst (.binOp .geq T x y T') ty e β (.d (bD b)) [] [] := by
  subst hd; exact does_ge hx hy
theorem does_le_u {m n : Int} (hd : decide (m ≤ n) = b) (hx : e x = .d (.sc (.int k m))) (hy : e y = .d (.sc (.int k n))) : Does P dst (.binOp .leq T x y T') ty e β (.d (bD b)) [] [] := by
  subst hd; exact does_le hx hy
theorem does_lt_u {m n : Int} (hd : decide (m < n) = b) (hx : e x = .d (.sc (.int k m))) (hy : e y = .d (.sc (.int k n))) : Does P dst (.binOp .lss T x y T') ty e β (.d (bD b)) [] [] := by
  subst hd; exact does_lt hx hy
theorem does_sub_eq {x y : Operand} {m n z : Int} (hz : m - n = z) (h : -9223372036854775808 ≤ z) (h2 : z ≤ 9223372036854775807) (hx : e x = .d (iD m)) (hy : e y = .d (iD n)) : Does P dst (.binOp .sub T x y T') ty e β (.d (iD z)) [] [] := by
  subst hz; exact does_sub hx hy h h2
theorem does_mul_eq {x y : Operand} {m n z : Int} (hz : m * n = z) (h : -9223372036854775808 ≤ z) (h2 : z ≤ 9223372036854775807) (hx : e x = .d (iD m)) (hy : e y = .d (iD n)) : Does P dst (.binOp .mul T x y T') ty e β (.d (iD z)) [] [] := by
  subst hz; exact does_mul hx hy h h2
theorem does_add_eq {x y : Operand} {m n z : Int} (hz : m + n = z) (h : -9223372036854775808 ≤ z) (h2 : z ≤ 9223372036854775807) (hx : e x = .d (iD m)) (hy : e y = .d (iD n)) : Does P dst (.binOp .add T x y T') ty e β (.d (iD z)) [] [] := by
  subst hz; exact does_add hx hy h h2
theorem does_quo_eq {x y : Operand} {m n z : Nat} (hz : m / n = z) (h : 0 < n) (h2 : m ≤ 9223372036854775807) (hx : e x = .d (iD m)) (hy : e y = .d (iD n)) : Does P dst (.binOp .quo T x y T') ty e β (.d (iD z)) [] [] := by
  subst hz; exact does_quo hx hy h h2
/-- One digit more, to the base of sixteen. -/
theorem does_shl4 {n : Nat} {k' : IntKind} {z : Int} (hn : n < 1152921504606846976) (hz : z = 4) (hx : e x = .d (qD n)) (hy : e y = .d (.sc (.int k' z))) : Does P dst (.binOp .shl T x y T') ty e β (.d (qD (n * 16))) [] [] := by
  subst hz
  have h := does_shl (P := P) (dst := dst) (ty := ty) (β := β) (T := T) (T' := T') hx hy (by decide)
  have e1 : min (Int.toNat (4 : Int)) IntKind.u64.bits = 4 := rfl
  have e2 : (n : Int) * 2 ^ 4 = ((n * 16 : Nat) : Int) := by omega
  have e3 : IntKind.u64.wrap ((n * 16 : Nat) : Int) = ((n * 16 : Nat) : Int) := by rw [IntKind.wrap_u64]; omega
  rwa [e1, e2, e3] at h
theorem does_or4 {n d : Nat} (hn : n < 1152921504606846976) (hd : d < 16) (hx : e x = .d (qD (n * 16))) (hy : e y = .d (qD d)) : Does P dst (.binOp .or T x y T') ty e β (.d (qD (n * 16 + d))) [] [] := by
  have h := does_bor (P := P) (dst := dst) (ty := ty) (β := β) (T := T) (T' := T') hx hy
  have e1 : n * 16 ||| d = n * 16 + d := by
    have := Nat.shiftLeft_add_eq_or_of_lt (i := 4) (b := d) (by omega) n
    rw [Nat.shiftLeft_eq] at this
    exact this.symm
  have e0 : ∀ z : Nat, z < 18446744073709551616 → (BitVec.ofInt 64 (z : Int)).toNat = z := fun z hz => by rw [BitVec.ofInt_natCast, BitVec.toNat_ofNat]; exact Nat.mod_eq_of_lt (by omega)
  have e2 : bitV .or .u64 ((n * 16 : Nat) : Int) (d : Nat) = ((n * 16 + d : Nat) : Int) := by
    show IntKind.u64.wrap ((BitVec.ofInt 64 ((n * 16 : Nat) : Int) ||| BitVec.ofInt 64 ((d : Nat) : Int)).toNat : Int) = _
    rw [BitVec.toNat_or, e0 _ (by omega), e0 _ (by omega), e1, IntKind.wrap_u64]
    omega
  rwa [e2] at h
end
/-- What a cut of one token tells. -/
def lrD : LR → D
  | .ok t _ => .tu [.ag t.cs, iD 0]
  | .err e => .tu [.ag noT, iD e]
/-! ### number -/
theorem dec_at {U : List UInt8} (hU : ∀ d ∈ U, digitB d = true) {pos : Nat} {c : UInt8} (hb : U[pos]? = some c) : Utf8.decode (byS U) pos = (c.toNat, 1) := by
  have hlt : pos < U.length := (List.getElem?_eq_some_iff.1 hb).1
  have hc : c.toNat < 128 := by
    have := hU c (List.mem_of_getElem? hb)
    unfold digitB at this
    simp only [Bool.and_eq_true, decide_eq_true_eq] at this
    omega
  rw [← Lib.decodeL_drop]
  have : (byS U).data.toList.drop pos = c :: U.drop (pos + 1) := by
    rw [List.toList_toArray, List.drop_eq_getElem_cons hlt]
    congr 1
    rw [List.getElem?_eq_getElem hlt] at hb
    exact Option.some.inj hb
  rw [this, Lib.decodeL_ascii _ _ hc]
set_option maxHeartbeats 4000000 in
theorem number_px (s : ByteArray) (hs : s.size ≤ 1000000) (i : Nat) (hi : i ≤ s.size) (r : LR) (h : numT (restL s i) = r) :
    PX Tryd.prog 55 [.px 1000 0] (scB s i) [] (lrD r) (scB s (i + runN digitB (restL s i))) [] := by
  have p1 := run_px 54 digitB digit_pc s hs i hi
  have hall := run_take digitB (restL s i)
  have hhd : ((restL s i).take (runN digitB (restL s i)))[0]? = (if 0 < runN digitB (restL s i) then (restL s i).head? else none) := by
    rw [List.getElem?_take]
    split
    · rw [List.head?_eq_getElem?]
    · rfl
  have hln : ((restL s i).take (runN digitB (restL s i))).length = runN digitB (restL s i) := by rw [List.length_take, Nat.min_eq_left (run_len _ _)]
  have hrl := run_len digitB (restL s i)
  rw [rest_len] at hrl
  unfold numT at h
  generalize (restL s i).take (runN digitB (restL s i)) = U at *
  generalize (restL s i).head? = hd0 at *
  generalize runN digitB (restL s i) = n at *
  have hsz : (byS U).size = n := by rw [ba_size]; exact hln
  by_cases hbad : 1 < n ∧ hd0 = some 48
  · rw [if_pos hbad] at h
    subst h
    have hg1 : decide (((byS U).size : Int) > 1) = true := decide_eq_true (by omega)
    have hb : (byS U).data[0]? = some 48 := by
      rw [if_pos (by omega), hbad.2] at hhd
      rw [← Array.getElem?_toList]; exact hhd
    show PX _ _ _ _ _ (.tu [.ag noT, iD 3]) _ _
    refine pxf_of_aw Tryd.func55 rfl (by kernel_rfl) mixed (by kernel_rfl) (by rw [Tryd.ntmps55]; exact Nat.le_of_ble_eq_true rfl) Tryd.results55 rfl ?_
    repeat (first | ((first | (with_reducible apply rpGT) | (with_reducible apply drGT) | (with_reducible apply rpGTN) | (with_reducible apply drGTN)); exact rfl; exact gval_t rfl; (first | exact rfl | assumption | decide); (focus repeat' (first | exact trivial | refine And.intro ?_ ?_)); (first | ((refine does_callX [] [] (ups := [(1000, .var 73 [.d (strD s), .d (iD (i + n : Nat))])]) rfl (p1) rfl ?_ rfl ?_ ?_ rfl rfl rfl rfl rfl ?_ rfl rfl; (focus repeat' (first | exact trivial | exact rfl | refine And.intro ?_ ?_)); (focus repeat' (first | exact trivial | exact inB_px rfl | refine And.intro ?_ ?_)); (focus repeat' (first | exact trivial | exact inB_px rfl | refine And.intro ?_ ?_)); (focus repeat' (first | exact trivial | exact inB_px rfl | refine And.intro ?_ ?_))); (first | exact lapp_nil _ | exact lapp_1 _ _ | exact lapp_2 _ _ _ | exact lapp_3 _ _ _ _)) | ((first | (exact does_gt_u hg1 rfl rfl) | ((with_reducible apply does_move); (conv => lhs; whnf)) | ((with_reducible apply does_assign); (conv => lhs; whnf)) | ((with_reducible apply does_and); exact rfl; exact rfl; exact rfl; exact trivial) | ((with_reducible apply does_eq); exact rfl; exact rfl) | ((with_reducible apply does_len_str); exact tyOk rfl; exact rfl; exact rfl) | ((with_reducible apply does_zeroS); exact tyOk rfl; exact rfl; exact rfl) | ((with_reducible apply does_index_str); exact tyOk rfl; exact rfl; exact rfl; exact rfl; exact rfl; assumption) | ((with_reducible apply does_alloc); exact tyOk rfl; exact rfl) | ((with_reducible apply does_store_whole); exact tyOk rfl; exact rfl; exact rfl; exact rfl; exact rfl; exact rfl)); (first | exact lapp_nil _ | exact lapp_1 _ _ | exact lapp_2 _ _ _ | exact lapp_3 _ _ _ _)))) | (with_reducible first | apply aw_seq | apply aw_reg | apply rp_nil | apply ae_norm | apply aw_ret | apply ae_ret | apply xf_ret) | ((with_reducible apply rp); first | (exact does_gt_u hg1 rfl rfl) | ((with_reducible apply does_move); (conv => lhs; whnf)) | ((with_reducible apply does_assign); (conv => lhs; whnf)) | ((with_reducible apply does_and); exact rfl; exact rfl; exact rfl; exact trivial) | ((with_reducible apply does_eq); exact rfl; exact rfl) | ((with_reducible apply does_len_str); exact tyOk rfl; exact rfl; exact rfl) | ((with_reducible apply does_zeroS); exact tyOk rfl; exact rfl; exact rfl) | ((with_reducible apply does_index_str); exact tyOk rfl; exact rfl; exact rfl; exact rfl; exact rfl; assumption)) | ((with_reducible apply rp1); ((with_reducible apply does_alloc); exact tyOk rfl; exact rfl)) | ((with_reducible apply rpN); ((with_reducible apply does_store_whole); exact tyOk rfl; exact rfl; exact rfl; exact rfl; exact rfl; exact rfl)) | ((with_reducible apply rpL); (refine does_callX [] [] (ups := [(1000, .var 73 [.d (strD s), .d (iD (i + n : Nat))])]) rfl (p1) rfl ?_ rfl ?_ ?_ rfl rfl rfl rfl rfl ?_ rfl rfl; (focus repeat' (first | exact trivial | exact rfl | refine And.intro ?_ ?_)); (focus repeat' (first | exact trivial | exact inB_px rfl | refine And.intro ?_ ?_)); (focus repeat' (first | exact trivial | exact inB_px rfl | refine And.intro ?_ ?_)); (focus repeat' (first | exact trivial | exact inB_px rfl | refine And.intro ?_ ?_))); exact lapp_nil _) | ((with_reducible apply aw_cond); exact rfl; rotate_left; (focus (intro hd; (cases hd; done))); (intro hd; clear hd)))
    (with_reducible apply retxf_ok (l := [])); (focus (repeat' (first | (with_reducible apply rv_nil) | (with_reducible apply rv_cons) | ((with_reducible apply rv_tmp); exact rfl) | ((with_reducible apply rv_rowd); exact rfl; exact rfl; exact tyOk rfl; exact rfl; exact rfl)))); exact rfl; exact SubD.refl _; refine ⟨(by repeat' (first | exact ks_nil | (refine ks_cons rfl (by exact SubA.refl _) ?_))), (by repeat' (first | exact trivial | exact rfl | refine And.intro ?_ ?_)), rfl, (by repeat' (first | exact trivial | exact inB_px rfl | refine And.intro ?_ ?_)), (by repeat' (first | exact trivial | exact inB_px rfl | refine And.intro ?_ ?_))⟩
  · rw [if_neg hbad] at h
    have hcase : (decide (((byS U).size : Int) > 1) = false) ∨ (decide (((byS U).size : Int) > 1) = true ∧ ∃ c : UInt8, (byS U).data[0]? = some c ∧ ((c.toNat : Int) == ((48 : Nat) : Int)) = false) := by
      rcases Nat.lt_or_ge 1 n with h1 | h1
      · right
        refine ⟨decide_eq_true (by omega), ?_⟩
        obtain ⟨c, hc⟩ : ∃ c, U[0]? = some c := ⟨_, List.getElem?_eq_getElem (by omega)⟩
        refine ⟨c, by rw [← Array.getElem?_toList]; exact hc, u8_ne (by decide) fun e => hbad ⟨h1, ?_⟩⟩
        rw [if_pos (by omega)] at hhd
        rw [← hhd, hc, e]
        rfl
      · exact .inl (decide_eq_false (by omega))
    clear hbad hhd
    rcases hcase with hg1 | ⟨hg1, c0, hb0, h48⟩
    all_goals
      refine pxf_of_aw Tryd.func55 rfl (by kernel_rfl) mixed (by kernel_rfl) (by rw [Tryd.ntmps55]; exact Nat.le_of_ble_eq_true rfl) Tryd.results55 rfl ?_
      repeat (first | ((first | (with_reducible apply rpGT) | (with_reducible apply drGT) | (with_reducible apply rpGTN) | (with_reducible apply drGTN)); exact rfl; exact gval_t rfl; (first | exact rfl | assumption | decide); (focus repeat' (first | exact trivial | exact fun h => h | refine And.intro ?_ ?_)); (first | ((refine does_callX [] [] (ups := [(1000, .var 73 [.d (strD s), .d (iD (i + n : Nat))])]) rfl (p1) rfl ?_ rfl ?_ ?_ rfl rfl rfl rfl rfl ?_ rfl rfl; (focus repeat' (first | exact trivial | exact rfl | refine And.intro ?_ ?_)); (focus repeat' (first | exact trivial | exact inB_px rfl | refine And.intro ?_ ?_)); (focus repeat' (first | exact trivial | exact inB_px rfl | refine And.intro ?_ ?_)); (focus repeat' (first | exact trivial | exact inB_px rfl | refine And.intro ?_ ?_))); (first | exact lapp_nil _ | exact lapp_1 _ _ | exact lapp_2 _ _ _ | exact lapp_3 _ _ _ _)) | ((first | (exact does_gt_u hg1 rfl rfl) | (exact does_eq_u h48 rfl rfl) | (exact does_range (tyOk rfl) rfl rfl rfl) | ((with_reducible apply does_move); (conv => lhs; whnf)) | ((with_reducible apply does_assign); (conv => lhs; whnf)) | ((with_reducible apply does_and); exact rfl; exact rfl; exact rfl; exact trivial) | ((with_reducible apply does_pickF); exact rfl; (first | assumption | decide); (conv => lhs; whnf)) | ((with_reducible apply does_len_str); exact tyOk rfl; exact rfl; exact rfl) | ((with_reducible apply does_index_str); exact tyOk rfl; exact rfl; exact rfl; exact rfl; exact rfl; assumption) | ((with_reducible apply does_alloc); exact tyOk rfl; exact rfl)); (first | exact lapp_nil _ | exact lapp_1 _ _ | exact lapp_2 _ _ _ | exact lapp_3 _ _ _ _)))) | (with_reducible first | apply aw_seq | apply aw_reg | apply rp_nil | apply ae_norm | apply aw_block | apply aw_skip) | ((first | (with_reducible apply rp) | ((with_reducible apply rpG); exact rfl; exact gval_t rfl; (focus repeat' (first | exact trivial | exact fun h => h | refine And.intro ?_ ?_)); intro hgd; have hgd0 := hgd; (try simp only [decide_eq_true_eq, Bool.and_eq_true, Bool.not_eq_true', beq_iff_eq] at hgd))); first | (exact does_gt_u hg1 rfl rfl) | (exact does_eq_u h48 rfl rfl) | ((with_reducible apply does_move); (conv => lhs; whnf)) | ((with_reducible apply does_assign); (conv => lhs; whnf)) | ((with_reducible apply does_and); exact rfl; exact rfl; exact rfl; exact trivial) | ((with_reducible apply does_pickF); exact rfl; (first | assumption | decide); (conv => lhs; whnf)) | ((with_reducible apply does_len_str); exact tyOk rfl; exact rfl; exact rfl) | ((with_reducible apply does_index_str); exact tyOk rfl; exact rfl; exact rfl; exact rfl; exact rfl; assumption)) | ((with_reducible apply rp1); first | (exact does_range (tyOk rfl) rfl rfl rfl) | ((with_reducible apply does_alloc); exact tyOk rfl; exact rfl)) | ((with_reducible apply rpL); (refine does_callX [] [] (ups := [(1000, .var 73 [.d (strD s), .d (iD (i + n : Nat))])]) rfl (p1) rfl ?_ rfl ?_ ?_ rfl rfl rfl rfl rfl ?_ rfl rfl; (focus repeat' (first | exact trivial | exact rfl | refine And.intro ?_ ?_)); (focus repeat' (first | exact trivial | exact inB_px rfl | refine And.intro ?_ ?_)); (focus repeat' (first | exact trivial | exact inB_px rfl | refine And.intro ?_ ?_)); (focus repeat' (first | exact trivial | exact inB_px rfl | refine And.intro ?_ ?_))); exact lapp_nil _) | ((with_reducible apply aw_cond); exact rfl; (focus (intro hd; (cases hd; done))); (intro hd; clear hd)) | ((first | (with_reducible apply rpGF) | (with_reducible apply drGF)); exact rfl; exact gval_t rfl; (first | assumption | decide | exact rfl); (focus repeat' (first | exact trivial | exact fun h => h | refine And.intro ?_ ?_))))
      refine aw_loop (fun k st => ∃ pos m, pos ≤ n ∧ m < 9223372036854775808 ∧ numF (U.drop pos) m = numF U 0 ∧ k = n + 1 - pos ∧ st = ⟨[(0, .px 1000 0), (2, .px 2 0), (5, .d (iD (m : Nat))), (21, .px 21 0)], [(1000, .var 73 [.d (strD s), .d (iD (i + n : Nat))]), (2, .var 32 (noT.map .d)), (21, .itr (byS U) pos)]⟩) _ _ ?_ ⟨0, 0, Nat.zero_le _, by decide, rfl, rfl, rfl⟩ ?_
      · refine forget_of [] (by repeat' (first | exact ks_nil | (refine ks_cons rfl (by exact SubA.refl _) ?_))) (by repeat' (first | exact trivial | exact rfl | refine And.intro ?_ ?_)) rfl (by repeat' (first | exact trivial | exact insB_map _ | exact inB_px rfl | refine And.intro ?_ ?_)) (by repeat' (first | exact trivial | exact insB_map _ | exact inB_px rfl | refine And.intro ?_ ?_))
      · rintro k st ⟨pos, m, hp, hm, he, rfl, rfl⟩
        rcases Nat.lt_or_ge pos n with hlt | hge
        · obtain ⟨c, hc⟩ : ∃ c, U[pos]? = some c := ⟨_, List.getElem?_eq_getElem (by omega)⟩
          have hdg := hall c (List.mem_of_getElem? hc)
          have hdg : 48 ≤ c.toNat ∧ c.toNat ≤ 57 := by unfold digitB at hdg; simpa using hdg
          have hdec := dec_at hall hc
          have hnx := fun (P : Program) (dst : Option Nat) (ty : TypeId) (x : Operand) (e : Operand → A) (β : Bx) id (hx : e x = .px id 0) (hl : look id β = some (.itr (byS U) pos)) => does_next (P := P) (dst := dst) (ty := ty) hx hl (show pos < (byS U).size by omega)
          simp only [hdec] at hnx
          have hdr : U.drop pos = c :: U.drop (pos + 1) := by
            rw [List.drop_eq_getElem_cons (by omega)]
            congr 1
            rw [List.getElem?_eq_getElem (by omega)] at hc
            exact Option.some.inj hc
          rw [hdr] at he
          have he : (if (9223372036854775807 - (c.toNat - 48)) / 10 < m then none else numF (U.drop (pos + 1)) (10 * m + (c.toNat - 48))) = numF U 0 := he
          have e1 : IntKind.i32.wrap ((c.toNat : Int) - 48) = ((c.toNat - 48 : Nat) : Int) := by rw [IntKind.wrap_i32]; omega
          generalize c.toNat = cn at *
          by_cases hov : (9223372036854775807 - (cn - 48)) / 10 < m
          · rw [if_pos hov] at he
            rw [← he] at h
            have h : LR.err 6 = r := h
            subst h
            have hgt : decide ((m : Int) > (((9223372036854775807 - (cn - 48)) / 10 : Nat) : Int)) = true := decide_eq_true (by omega)
            repeat (first | ((first | (with_reducible apply rpGT) | (with_reducible apply drGT) | (with_reducible apply rpGTN) | (with_reducible apply drGTN)); exact rfl; (first | exact gval_t rfl | exact gval_f rfl | exact gval_gt rfl | exact gval_gf rfl); (first | exact rfl | assumption | decide); (focus repeat' (first | exact trivial | exact fun h => h | refine And.intro ?_ ?_ | (intro h; (first | exact h | (simp only [Bool.and_eq_true] at h; (first | exact h.1 | exact h.1.1 | exact h.1.1.1 | exact h.2)) | (rw [h]; rfl) | (rw [hgd0, h]; rfl) | simp_all)))); ((first | (exact hnx _ _ _ _ _ _ _ rfl rfl) | (exact does_wsub_to e1 rfl rfl) | (exact does_sub_eq (z := ((9223372036854775807 - (cn - 48) : Nat) : Int)) (by omega) (by omega) (by omega) rfl rfl) | (exact does_quo_eq rfl (by decide) (by omega) rfl rfl) | (exact does_gt_u hgt rfl rfl) | ((with_reducible apply does_move); (conv => lhs; whnf)) | ((with_reducible apply does_assign); (conv => lhs; whnf)) | ((with_reducible apply does_extract); exact rfl; exact rfl) | ((with_reducible apply does_conv_i64); exact tyOk rfl; exact tyOk rfl; exact rfl; exact rfl; omega; omega) | ((with_reducible apply does_zeroS); exact tyOk rfl; exact rfl; exact rfl) | ((with_reducible apply does_store_whole); exact tyOk rfl; exact rfl; exact rfl; exact rfl; exact rfl; exact rfl)); (first | exact lapp_nil _ | exact lapp_1 _ _ | exact lapp_2 _ _ _ | exact lapp_3 _ _ _ _))) | (with_reducible first | apply aw_seq | apply aw_reg | apply rp_nil | apply ae_norm | apply aw_block | apply aw_ret | apply ae_ret | apply be_ret | apply xf_ret | apply aw_skip) | ((with_reducible apply rp); first | (exact does_wsub_to e1 rfl rfl) | (exact does_sub_eq (z := ((9223372036854775807 - (cn - 48) : Nat) : Int)) (by omega) (by omega) (by omega) rfl rfl) | (exact does_quo_eq rfl (by decide) (by omega) rfl rfl) | (exact does_gt_u hgt rfl rfl) | ((with_reducible apply does_move); (conv => lhs; whnf)) | ((with_reducible apply does_assign); (conv => lhs; whnf)) | ((with_reducible apply does_extract); exact rfl; exact rfl) | ((with_reducible apply does_conv_i64); exact tyOk rfl; exact tyOk rfl; exact rfl; exact rfl; omega; omega) | ((with_reducible apply does_zeroS); exact tyOk rfl; exact rfl; exact rfl)) | ((with_reducible apply rp1); (exact hnx _ _ _ _ _ _ _ rfl rfl)) | ((with_reducible apply rpN); ((with_reducible apply does_store_whole); exact tyOk rfl; exact rfl; exact rfl; exact rfl; exact rfl; exact rfl)) | ((with_reducible apply aw_cond); exact rfl; rotate_left; (focus (intro hd; (cases hd; done))); (intro hd; clear hd)))
            (with_reducible apply retxf_ok (l := [])); (focus (repeat' (first | (with_reducible apply rv_nil) | (with_reducible apply rv_cons) | ((with_reducible apply rv_tmp); exact rfl) | ((with_reducible apply rv_rowd); exact rfl; exact rfl; exact tyOk rfl; exact rfl; exact rfl)))); exact rfl; exact SubD.refl _; refine ⟨(by repeat' (first | exact ks_nil | (refine ks_cons rfl (by exact SubA.refl _) ?_))), (by repeat' (first | exact trivial | exact rfl | refine And.intro ?_ ?_)), rfl, (by repeat' (first | exact trivial | exact inB_px rfl | refine And.intro ?_ ?_)), (by repeat' (first | exact trivial | exact inB_px rfl | refine And.intro ?_ ?_))⟩
          · rw [if_neg hov] at he
            have hgt : decide ((m : Int) > (((9223372036854775807 - (cn - 48)) / 10 : Nat) : Int)) = false := decide_eq_false (by omega)
            repeat (first | ((first | (with_reducible apply rpGT) | (with_reducible apply drGT) | (with_reducible apply rpGTN) | (with_reducible apply drGTN)); exact rfl; (first | exact gval_t rfl | exact gval_f rfl | exact gval_gt rfl | exact gval_gf rfl); (first | exact rfl | assumption | decide); (focus repeat' (first | exact trivial | exact fun h => h | refine And.intro ?_ ?_ | (intro h; (first | exact h | (simp only [Bool.and_eq_true] at h; (first | exact h.1 | exact h.1.1 | exact h.1.1.1 | exact h.2)) | (rw [h]; rfl) | (rw [hgd0, h]; rfl) | simp_all)))); ((first | (exact hnx _ _ _ _ _ _ _ rfl rfl) | (exact does_wsub_to e1 rfl rfl) | (exact does_sub_eq (z := ((9223372036854775807 - (cn - 48) : Nat) : Int)) (by omega) (by omega) (by omega) rfl rfl) | (exact does_quo_eq rfl (by decide) (by omega) rfl rfl) | (exact does_gt_u hgt rfl rfl) | (exact does_mul_eq (z := ((10 * m : Nat) : Int)) (by omega) (by omega) (by omega) rfl rfl) | (exact does_add_eq (z := ((10 * m + (cn - 48) : Nat) : Int)) (by omega) (by omega) (by omega) rfl rfl) | ((with_reducible apply does_move); (conv => lhs; whnf)) | ((with_reducible apply does_assign); (conv => lhs; whnf)) | ((with_reducible apply does_extract); exact rfl; exact rfl) | ((with_reducible apply does_conv_i64); exact tyOk rfl; exact tyOk rfl; exact rfl; exact rfl; omega; omega)); (first | exact lapp_nil _ | exact lapp_1 _ _ | exact lapp_2 _ _ _ | exact lapp_3 _ _ _ _))) | (with_reducible first | apply aw_seq | apply aw_reg | apply rp_nil | apply ae_norm | apply aw_block | apply be_norm | apply aw_skip) | ((with_reducible apply rp); first | (exact does_wsub_to e1 rfl rfl) | (exact does_sub_eq (z := ((9223372036854775807 - (cn - 48) : Nat) : Int)) (by omega) (by omega) (by omega) rfl rfl) | (exact does_quo_eq rfl (by decide) (by omega) rfl rfl) | (exact does_gt_u hgt rfl rfl) | (exact does_mul_eq (z := ((10 * m : Nat) : Int)) (by omega) (by omega) (by omega) rfl rfl) | (exact does_add_eq (z := ((10 * m + (cn - 48) : Nat) : Int)) (by omega) (by omega) (by omega) rfl rfl) | ((with_reducible apply does_move); (conv => lhs; whnf)) | ((with_reducible apply does_assign); (conv => lhs; whnf)) | ((with_reducible apply does_extract); exact rfl; exact rfl) | ((with_reducible apply does_conv_i64); exact tyOk rfl; exact tyOk rfl; exact rfl; exact rfl; omega; omega)) | ((with_reducible apply rp1); (exact hnx _ _ _ _ _ _ _ rfl rfl)) | ((with_reducible apply aw_cond); exact rfl; (focus (intro hd; (cases hd; done))); (intro hd; clear hd)) | ((with_reducible apply aw_cond); exact rfl; rotate_left; (focus (intro hd; (cases hd; done))); (intro hd; clear hd)))
            refine ⟨_, _, ?_, ?_, pos + 1, 10 * m + (cn - 48), by omega, by omega, he, rfl, rfl⟩
            · omega
            · refine forget_of [] (by repeat' (first | exact ks_nil | (refine ks_cons rfl (by exact SubA.refl _) ?_))) (by repeat' (first | exact trivial | exact rfl | refine And.intro ?_ ?_)) rfl (by repeat' (first | exact trivial | exact insB_map _ | exact inB_px rfl | refine And.intro ?_ ?_)) (by repeat' (first | exact trivial | exact insB_map _ | exact inB_px rfl | refine And.intro ?_ ?_))
        · have hpn : pos = n := by omega
          rw [List.drop_eq_nil_of_le (by omega)] at he
          have he : some m = numF U 0 := he
          rw [← he] at h
          have h : LR.ok ⟨3, .empty, m, 0⟩ n = r := h
          subst h
          repeat (first | ((first | (with_reducible apply rpGT) | (with_reducible apply drGT) | (with_reducible apply rpGTN) | (with_reducible apply drGTN)); exact rfl; (first | exact gval_t rfl | exact gval_f rfl | exact gval_gt rfl | exact gval_gf rfl); (first | exact rfl | assumption | decide); (focus repeat' (first | exact trivial | exact fun h => h | refine And.intro ?_ ?_ | (intro h; (first | exact h | (simp only [Bool.and_eq_true] at h; (first | exact h.1 | exact h.1.1 | exact h.1.1.1 | exact h.2)) | (rw [h]; rfl) | (rw [hgd0, h]; rfl) | simp_all)))); ((first | (exact does_next_end rfl rfl (show (byS U).size ≤ pos by omega)) | ((with_reducible apply does_move); (conv => lhs; whnf)) | ((with_reducible apply does_assign); (conv => lhs; whnf)) | ((with_reducible apply does_extract); exact rfl; exact rfl) | ((with_reducible apply does_build); exact tyOk rfl; exact rfl; exact rfl; (focus repeat' (first | exact rfl | refine ⟨_, _, rfl, rfl, Nat.le_of_ble_eq_true rfl, rfl, ?_⟩)); exact rfl) | ((with_reducible apply does_store_whole); exact tyOk rfl; exact rfl; exact rfl; exact rfl; exact rfl; exact rfl)); (first | exact lapp_nil _ | exact lapp_1 _ _ | exact lapp_2 _ _ _ | exact lapp_3 _ _ _ _))) | (with_reducible first | apply aw_seq | apply aw_reg | apply rp_nil | apply ae_norm | apply aw_exit | apply ae_exit | apply be_exit | apply aw_ret | apply xf_ret) | ((with_reducible apply rp); first | (exact does_next_end rfl rfl (show (byS U).size ≤ pos by omega)) | ((with_reducible apply does_move); (conv => lhs; whnf)) | ((with_reducible apply does_assign); (conv => lhs; whnf)) | ((with_reducible apply does_extract); exact rfl; exact rfl) | ((with_reducible apply does_build); exact tyOk rfl; exact rfl; exact rfl; (focus repeat' (first | exact rfl | refine ⟨_, _, rfl, rfl, Nat.le_of_ble_eq_true rfl, rfl, ?_⟩)); exact rfl)) | ((with_reducible apply rpN); ((with_reducible apply does_store_whole); exact tyOk rfl; exact rfl; exact rfl; exact rfl; exact rfl; exact rfl)) | ((with_reducible apply aw_cond); exact rfl; (focus (intro hd; (cases hd; done))); (intro hd; clear hd)))
          (with_reducible apply retxf_ok (l := [])); (focus (repeat' (first | (with_reducible apply rv_nil) | (with_reducible apply rv_cons) | ((with_reducible apply rv_tmp); exact rfl) | ((with_reducible apply rv_rowd); exact rfl; exact rfl; exact tyOk rfl; exact rfl; exact rfl)))); exact rfl; exact SubD.refl _; refine ⟨(by repeat' (first | exact ks_nil | (refine ks_cons rfl (by exact SubA.refl _) ?_))), (by repeat' (first | exact trivial | exact rfl | refine And.intro ?_ ?_)), rfl, (by repeat' (first | exact trivial | exact inB_px rfl | refine And.intro ?_ ?_)), (by repeat' (first | exact trivial | exact inB_px rfl | refine And.intro ?_ ?_))⟩
end Go.Proofs.YtlpnnnmdkglkcaaDoor

