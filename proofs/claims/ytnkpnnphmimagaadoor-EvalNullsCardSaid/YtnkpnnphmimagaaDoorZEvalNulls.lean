/-
  EvalNulls: of a null comes a null, in sums, comparisons and texts; but not where it is asked for. No condition.
-/
import Derived.Test.YtnkpnnphmimagaaDoorZEvalSums
import Derived.Test.YtnkpnnphmimagaaDoorZReal
namespace Go.Proofs.YtnkpnnphmimagaaDoor
set_option linter.unusedSimpArgs false
set_option linter.unusedVariables false
open Go.RowKit
open Go.Lib

abbrev anC : List Cl := [⟨aN, 2, true⟩]
theorem anC_ok : ColsOk anC := ⟨by decide, by intro c hc; simp at hc; subst hc; decide, by intro c hc; simp at hc; subst hc; decide, List.pairwise_singleton _ _⟩
theorem anC_fit {v : Vl} (hv : Gd v) (hk : v.k = 2) : FitR [v] anC := by
  refine ⟨rfl, fun i u c hu hc => ?_⟩
  match i, hu, hc with
  | 0, hu, hc => cases hu; cases hc; exact ⟨hv, .inl hk⟩
  | i + 1, hu, _ => cases hu
abbrev nulX : Ex := .lit nullV
abbrev opX (left : Bool) (op : Nat) : Ex := if left = true then .bi op nulX (.col aN) else .bi op (.col aN) nulX
theorem null_ev {v : Vl} (hv : Gd v) (hk : v.k = 2) (left : Bool) {op : Nat} (h : 5 ≤ op ∧ op ≤ 14) : evF anC [v] (opX left op) = ⟨nullV, 0⟩ := by
  have ha : evF anC [v] (.col aN) = ⟨v, 0⟩ := by
    unfold evF
    rw [show findI aN 0 anC = some 0 by decide]
    rfl
  have hn : evF anC [v] nulX = ⟨nullV, 0⟩ := rfl
  have hs : ∀ w : Vl, shortB op w = false := fun w => by
    unfold shortB
    have h1 : (op == 20) = false := beq_eq_false_iff_ne.2 (by omega)
    have h2 : (op == 15) = false := beq_eq_false_iff_ne.2 (by omega)
    have h3 : (op == 16) = false := beq_eq_false_iff_ne.2 (by omega)
    rw [h1, h2, h3]
    rfl
  have two : ∀ x y : Vl, (x.k = 0 ∨ y.k = 0) → fitK 2 x y = true → twoF op x y = ⟨nullV, 0⟩ := fun x y h0 hf => by
    unfold twoF
    rw [if_neg (by omega), if_neg (by omega), if_neg (by omega)]
    split
    · unfold reckF
      rw [if_pos hf, if_pos h0]
    · unfold compF
      rw [if_pos h0]
  cases left with
  | true =>
    show evF anC [v] (.bi op nulX (.col aN)) = _
    rw [ev_bi hn ha (hs _)]
    exact two _ _ (.inl rfl) (by unfold fitK; rw [hk]; rfl)
  | false =>
    show evF anC [v] (.bi op (.col aN) nulX) = _
    rw [ev_bi ha hn (hs _)]
    exact two _ _ (.inr rfl) (by unfold fitK; rw [hk]; rfl)
set_option maxHeartbeats 4000000 in
theorem evalNulls_pc (op : Int) (a : Raw) (left : Bool) : PC Tryd.prog 9 [iD op, .ag a.cs, bD left] (bD true) := by
  obtain ⟨u, hu, q0⟩ := picked_nat op 10 (by omega) (by omega)
  obtain ⟨v, hv, hk, v1⟩ := valOf_pc 2 (by omega) a
  obtain ⟨o, ho⟩ : ∃ o, 5 + u = o := ⟨_, rfl⟩
  have ho5 : 5 ≤ o ∧ o ≤ 14 := by omega
  have okc : (Ex.col aN).ok := by show NameOk aN; decide
  have okn : nulX.ok := ⟨.null, by decide⟩
  have okX : (opX left o).ok := by
    cases left with
    | true => exact ⟨by unfold bi2; omega, okn, okc⟩
    | false => exact ⟨by unfold bi2; omega, okc, okn⟩
  have dX : (opX left o).deep = 2 := by cases left <;> rfl
  have nX : (opX left o).num = 3 := by cases left <;> rfl
  have q1 : PC Tryd.prog 19 [iD o, .ag [iD 2, iD 0, iD 0, qD 0, strD .empty, strD aN, .nl], .ag [iD 1, iD 0, iD 0, qD 0, strD .empty, strD .empty, .nl]] (.ag (Ex.bi o (.col aN) nulX).cs) :=
    (op2_pc o (.col aN) nulX).args (SubDs.cons (SubD.refl _) (fun h => h) (SubDs.cons (nil_sub (iD 2)) (fun h => h) (SubDs.cons (nil_sub (iD 1)) (fun h => h) SubDs.nil)))
  have q2 : PC Tryd.prog 19 [iD o, .ag [iD 1, iD 0, iD 0, qD 0, strD .empty, strD .empty, .nl], .ag [iD 2, iD 0, iD 0, qD 0, strD .empty, strD aN, .nl]] (.ag (Ex.bi o nulX (.col aN)).cs) :=
    (op2_pc o nulX (.col aN)).args (SubDs.cons (SubD.refl _) (fun h => h) (SubDs.cons (nil_sub (iD 1)) (fun h => h) (SubDs.cons (nil_sub (iD 2)) (fun h => h) SubDs.nil)))
  have n7 := number_pc 7
  have q3 := op1_pc 17 (opX left o)
  have q4 := op2_pc 20 (opX left o) (.lit (numV 7))
  have hr := anC_fit hv hk
  have e1 := evalX_pc anC anC_ok [v] hr (opX left o) okX (by omega) (by omega)
  have e2 := evalX_pc anC anC_ok [v] hr (.un 17 (opX left o)) ⟨by unfold un1; omega, okX⟩ (by simp only [Ex.deep]; omega) (by simp only [Ex.num]; omega)
  have e3 := evalX_pc anC anC_ok [v] hr (.bi 20 (opX left o) (.lit (numV 7))) ⟨by unfold bi2; omega, okX, .int 7, by decide⟩ (by simp only [Ex.deep]; omega) (by simp only [Ex.num]; omega)
  have r1 := null_ev hv hk left ho5
  have r2 : evF anC [v] (.un 17 (opX left o)) = ⟨⟨1, 1, 0, .empty⟩, 0⟩ := by rw [evF, r1]; rfl
  have r3 : evF anC [v] (.bi 20 (opX left o) (.lit (numV 7))) = ⟨numV 7, 0⟩ := by rw [ev_bi r1 (show evF anC [v] (.lit (numV 7)) = ⟨numV 7, 0⟩ from rfl) rfl]; rfl
  rw [r1] at e1
  rw [r2] at e2
  rw [r3] at e3
  clear r1 r2 r3 okc okn okX dX nX hr hv hk
  unfold tvD at *
  dsimp only at *
  generalize (Ex.un 17 (opX left o)).cs = c17 at *
  generalize (Ex.bi 20 (opX left o) (.lit (numV 7))).cs = c20 at *
  generalize (Ex.lit (numV 7)).cs = c7 at *
  cases left with
  | true =>
    have hX : opX true o = .bi o nulX (.col aN) := rfl
    rw [hX] at *
    have hl1 := (Ex.bi o nulX (.col aN)).cs_eq
    have hl2 := (Ex.bi o (.col aN) nulX).cs_eq
    generalize (Ex.bi o nulX (.col aN)).cs = c1 at *
    generalize (Ex.bi o (.col aN) nulX).cs = c2 at *
    subst hl1 hl2
    obtain ⟨vk, vn, vb, vt⟩ := v
    obtain ⟨ak, aa, ab, at_⟩ := a
    unfold Vl.cs Raw.cs at *
    dsimp only at *
    refine pc_of_aw Tryd.func9 rfl (by kernel_rfl) mixed (by kernel_rfl) (by rw [Tryd.ntmps9]; exact Nat.le_of_ble_eq_true rfl) Tryd.results9 ?_
    repeat (first | (with_reducible first | apply aw_seq | apply aw_reg | apply rp_nil | apply ae_norm | apply aw_regD | apply aw_ret | apply re_ret) | ((with_reducible apply dr_nil); (first | kernel_rfl | exact rfl)) | ((first | (with_reducible first | apply rp | apply dr) | ((with_reducible apply rpG); exact rfl; exact gval_t rfl; (focus repeat' (first | exact trivial | exact fun h => h | refine And.intro ?_ ?_)); intro hgd; have hgd0 := hgd; (try simp only [decide_eq_true_eq, Bool.and_eq_true, Bool.not_eq_true', beq_iff_eq] at hgd))); first | ((with_reducible apply does_call_flat); exact rfl; exact rfl; exact (q0); exact rfl) | (exact does_add_to (z := (o : Int)) rfl rfl (by omega) (by omega) (by omega)) | ((with_reducible apply does_call'); exact rfl; exact rfl; exact rfl; exact (q1)) | ((with_reducible apply does_call'); exact rfl; exact rfl; exact rfl; exact (q2)) | ((with_reducible apply does_call_flat); exact rfl; exact rfl; exact (v1); exact rfl) | ((with_reducible apply does_call_flat); exact rfl; exact rfl; exact (e1); exact rfl) | ((with_reducible apply does_call'); exact rfl; exact rfl; exact rfl; exact (q3)) | ((with_reducible apply does_call_flat); exact rfl; exact rfl; exact (e2); exact rfl) | ((with_reducible apply does_call'); exact rfl; exact rfl; exact rfl; exact (n7)) | ((with_reducible apply does_call'); exact rfl; exact rfl; exact rfl; exact (q4)) | ((with_reducible apply does_call_flat); exact rfl; exact rfl; exact (e3); exact rfl) | ((with_reducible apply does_move); (conv => lhs; whnf)) | ((with_reducible apply does_assign); (conv => lhs; whnf)) | ((with_reducible apply does_and); exact rfl; exact rfl; exact rfl; exact fun h => h) | ((with_reducible apply does_load_row); exact tyOk rfl; exact rfl; exact rfl; exact rfl; exact Nat.le_of_ble_eq_true rfl; exact rfl) | ((with_reducible apply does_eq); exact rfl; exact rfl) | ((with_reducible apply does_eqS); exact rfl; exact rfl; exact tgOk rfl; exact rfl) | ((with_reducible apply does_extract); exact rfl; exact rfl) | ((with_reducible apply does_zeroS); exact tyOk rfl; exact rfl; exact rfl) | ((with_reducible apply does_build); exact tyOk rfl; exact rfl; exact rfl; (focus repeat' (first | exact rfl | refine ⟨_, _, rfl, rfl, Nat.le_of_ble_eq_true rfl, rfl, ?_⟩)); exact rfl)) | ((with_reducible first | apply rp1 | apply dr1); first | ((with_reducible apply does_box_ag); exact rfl; exact rfl) | ((with_reducible apply does_alloc); exact tyOk rfl; exact rfl) | ((with_reducible apply does_buildSlice); exact tyOk rfl; exact rfl; exact tyOk rfl; exact rfl; exact rfl; (focus repeat' (first | exact trivial | refine And.intro rfl (And.intro rfl ?_))); decide; decide; exact rfl)) | ((with_reducible first | apply rpN | apply drN); ((with_reducible apply does_store_whole); exact tyOk rfl; exact rfl; exact rfl; exact rfl; exact rfl; exact rfl)) | ((with_reducible apply aw_cond); exact rfl; rotate_left; (focus (intro hd; (cases hd; done))); (intro hd; clear hd)))
    (with_reducible apply ret_ok); (focus (repeat' (first | (with_reducible apply rv_nil) | (with_reducible apply rv_cons) | ((with_reducible apply rv_tmp); exact rfl)))); exact rfl; refine SubD.of_eq ?_
    refine congrArg bD (a₂ := true) ?_
    simp
  | false =>
    have hX : opX false o = .bi o (.col aN) nulX := rfl
    rw [hX] at *
    have hl2 := (Ex.bi o (.col aN) nulX).cs_eq
    generalize (Ex.bi o (.col aN) nulX).cs = c2 at *
    subst hl2
    obtain ⟨vk, vn, vb, vt⟩ := v
    obtain ⟨ak, aa, ab, at_⟩ := a
    unfold Vl.cs Raw.cs at *
    dsimp only at *
    refine pc_of_aw Tryd.func9 rfl (by kernel_rfl) mixed (by kernel_rfl) (by rw [Tryd.ntmps9]; exact Nat.le_of_ble_eq_true rfl) Tryd.results9 ?_
    repeat (first | (with_reducible first | apply aw_seq | apply aw_reg | apply rp_nil | apply ae_norm | apply aw_regD | apply aw_ret | apply re_ret | apply aw_skip) | ((with_reducible apply dr_nil); (first | kernel_rfl | exact rfl)) | ((first | (with_reducible first | apply rp | apply dr) | ((with_reducible apply rpG); exact rfl; exact gval_t rfl; (focus repeat' (first | exact trivial | exact fun h => h | refine And.intro ?_ ?_)); intro hgd; have hgd0 := hgd; (try simp only [decide_eq_true_eq, Bool.and_eq_true, Bool.not_eq_true', beq_iff_eq] at hgd))); first | ((with_reducible apply does_call_flat); exact rfl; exact rfl; exact (q0); exact rfl) | (exact does_add_to (z := (o : Int)) rfl rfl (by omega) (by omega) (by omega)) | ((with_reducible apply does_call'); exact rfl; exact rfl; exact rfl; exact (q1)) | ((with_reducible apply does_call_flat); exact rfl; exact rfl; exact (v1); exact rfl) | ((with_reducible apply does_call_flat); exact rfl; exact rfl; exact (e1); exact rfl) | ((with_reducible apply does_call'); exact rfl; exact rfl; exact rfl; exact (q3)) | ((with_reducible apply does_call_flat); exact rfl; exact rfl; exact (e2); exact rfl) | ((with_reducible apply does_call'); exact rfl; exact rfl; exact rfl; exact (n7)) | ((with_reducible apply does_call'); exact rfl; exact rfl; exact rfl; exact (q4)) | ((with_reducible apply does_call_flat); exact rfl; exact rfl; exact (e3); exact rfl) | ((with_reducible apply does_move); (conv => lhs; whnf)) | ((with_reducible apply does_assign); (conv => lhs; whnf)) | ((with_reducible apply does_and); exact rfl; exact rfl; exact rfl; exact fun h => h) | ((with_reducible apply does_load_row); exact tyOk rfl; exact rfl; exact rfl; exact rfl; exact Nat.le_of_ble_eq_true rfl; exact rfl) | ((with_reducible apply does_eq); exact rfl; exact rfl) | ((with_reducible apply does_eqS); exact rfl; exact rfl; exact tgOk rfl; exact rfl) | ((with_reducible apply does_extract); exact rfl; exact rfl) | ((with_reducible apply does_zeroS); exact tyOk rfl; exact rfl; exact rfl) | ((with_reducible apply does_build); exact tyOk rfl; exact rfl; exact rfl; (focus repeat' (first | exact rfl | refine ⟨_, _, rfl, rfl, Nat.le_of_ble_eq_true rfl, rfl, ?_⟩)); exact rfl)) | ((with_reducible first | apply rp1 | apply dr1); first | ((with_reducible apply does_box_ag); exact rfl; exact rfl) | ((with_reducible apply does_alloc); exact tyOk rfl; exact rfl) | ((with_reducible apply does_buildSlice); exact tyOk rfl; exact rfl; exact tyOk rfl; exact rfl; exact rfl; (focus repeat' (first | exact trivial | refine And.intro rfl (And.intro rfl ?_))); decide; decide; exact rfl)) | ((with_reducible first | apply rpN | apply drN); ((with_reducible apply does_store_whole); exact tyOk rfl; exact rfl; exact rfl; exact rfl; exact rfl; exact rfl)) | ((with_reducible apply aw_cond); exact rfl; (focus (intro hd; (cases hd; done))); (intro hd; clear hd)))
    (with_reducible apply ret_ok); (focus (repeat' (first | (with_reducible apply rv_nil) | (with_reducible apply rv_cons) | ((with_reducible apply rv_tmp); exact rfl)))); exact rfl; refine SubD.of_eq ?_
    refine congrArg bD (a₂ := true) ?_
    simp
theorem rep_boolN (w : World) (b : Bool) : RepD (Lt w) w (bD b) (.bool b) := ⟨rfl, rfl⟩
theorem evalNulls_walk (n : Int) (a : Raw) (b : Bool) (w : World) (_ : I64 n) (_ : a.ok) (hg : GlOk (Lt w) w) : Calls Tryd.prog 9 #[.int .i64 n, .agg #[.int .i64 a.kind, .int .i64 a.a, .int .i64 a.b, .string a.text], .bool b] w fun e w' => e = .returned (.bool true) ∧ Below w.heap.size w w' :=
  calls_of_pc (evalNulls_pc n a b) (rep_cons (rep_int w n) (rep_cons (rep_raw w a) (rep_cons (rep_boolN w b) rfl))) hg
end Go.Proofs.YtnkpnnphmimagaaDoor

