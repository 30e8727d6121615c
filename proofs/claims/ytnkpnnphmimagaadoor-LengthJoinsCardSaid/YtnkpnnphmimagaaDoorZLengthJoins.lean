/-
  LengthJoins: a text of two has the length of both, sign by sign, whatever signs there are. No condition but the sizes.
-/
import Derived.Test.YtnkpnnphmimagaaDoorZEvalSums
namespace Go.Proofs.YtnkpnnphmimagaaDoor
set_option linter.unusedSimpArgs false
set_option linter.unusedVariables false
open Go.RowKit
open Go.Lib

theorem lit1_pc (s : ByteArray) : PC Tryd.prog 41 [strD s] (.ag (Ex.lit (txtV s)).cs) := by
  refine pc_of_aw Tryd.func41 rfl (by kernel_rfl) mixed (by kernel_rfl) (by rw [Tryd.ntmps41]; exact Nat.le_of_ble_eq_true rfl) Tryd.results41 ?_
  repeat (first | (with_reducible first | apply aw_seq | apply aw_reg | apply rp_nil | apply ae_norm | apply aw_ret | apply re_ret) | ((with_reducible apply rp); first | ((with_reducible apply does_move); (conv => lhs; whnf)) | ((with_reducible apply does_build); exact tyOk rfl; exact rfl; exact rfl; (focus repeat' (first | exact rfl | refine ⟨_, _, rfl, rfl, Nat.le_of_ble_eq_true rfl, rfl, ?_⟩)); exact rfl)) | ((with_reducible apply rp1); ((with_reducible apply does_alloc); exact tyOk rfl; exact rfl)) | ((with_reducible apply rpN); ((with_reducible apply does_store_whole); exact tyOk rfl; exact rfl; exact rfl; exact rfl; exact rfl; exact rfl)))
  (with_reducible apply ret_ok); (focus (repeat' (first | (with_reducible apply rv_nil) | (with_reducible apply rv_cons) | ((with_reducible apply rv_rowd); exact rfl; exact rfl; exact tyOk rfl; exact rfl; exact rfl)))); exact rfl
  exact nil_sub _
theorem ev_len {cols : List Cl} {row : List Vl} {x : Ex} {s : ByteArray} (h : evF cols row x = ⟨txtV s, 0⟩) : evF cols row (.un 18 x) = ⟨numV (runeN s), 0⟩ := by
  rw [evF, h]
  show (if (0 : Nat) = 0 then oneF 18 (txtV s) else _) = _
  rw [if_pos rfl]
  unfold oneF
  rw [if_neg (by decide), if_neg (by show ¬ (4 : Int) = 0; omega), if_neg (by decide), if_pos rfl, if_pos rfl]
set_option maxHeartbeats 4000000 in
theorem lengthJoins_pc (a b : ByteArray) : PC Tryd.prog 12 [strD a, strD b] (bD true) := by
  have k1 := clean_pc a 20 (by omega)
  have k2 := clean_pc b 20 (by omega)
  have s1 := cleanT_size a 20
  have s2 := cleanT_size b 20
  have v1 := cleanT_valid a 20
  have v2 := cleanT_valid b 20
  generalize cleanT a 20 = s at *
  generalize cleanT b 20 = t at *
  have g1 : Gd (txtV s) := .text s (by omega) v1
  have g2 : Gd (txtV t) := .text t (by omega) v2
  have l1 := lit1_pc s
  have l2 := lit1_pc t
  have q1 := op2_pc 19 (.lit (txtV s)) (.lit (txtV t))
  have q2 := op1_pc 18 (.bi 19 (.lit (txtV s)) (.lit (txtV t)))
  have q3 := op1_pc 18 (.lit (txtV s))
  have q4 := op1_pc 18 (.lit (txtV t))
  have q5 := op2_pc 5 (.un 18 (.lit (txtV s))) (.un 18 (.lit (txtV t)))
  have oks : (Ex.lit (txtV s)).ok := ⟨g1, Int.le_refl 0⟩
  have okt : (Ex.lit (txtV t)).ok := ⟨g2, Int.le_refl 0⟩
  have e1 := (evalX_pc [] nil_cols [] nil_fit (.un 18 (.bi 19 (.lit (txtV s)) (.lit (txtV t)))) ⟨by unfold un1; omega, by unfold bi2; omega, oks, okt⟩ (Nat.le_of_ble_eq_true rfl) (Nat.le_of_ble_eq_true rfl)).args (SubDs.cons (SubD.refl _) (fun h => h) (SubDs.cons (SubD.nil 3) (fun h => h) (SubDs.cons (SubD.nil 4) (fun h => h) SubDs.nil)))
  have e2 := (evalX_pc [] nil_cols [] nil_fit (.bi 5 (.un 18 (.lit (txtV s))) (.un 18 (.lit (txtV t)))) ⟨by unfold bi2; omega, ⟨by unfold un1; omega, oks⟩, by unfold un1; omega, okt⟩ (Nat.le_of_ble_eq_true rfl) (Nat.le_of_ble_eq_true rfl)).args (SubDs.cons (SubD.refl _) (fun h => h) (SubDs.cons (SubD.nil 3) (fun h => h) (SubDs.cons (SubD.nil 4) (fun h => h) SubDs.nil)))
  have n1 := runeN_le s
  have n2 := runeN_le t
  have r0 : evF [] [] (.bi 19 (.lit (txtV s)) (.lit (txtV t))) = ⟨txtV (s ++ t), 0⟩ := by
    rw [ev_bi (v := txtV s) (w := txtV t) rfl rfl rfl]
    show catF (txtV s) (txtV t) = _
    unfold catF
    rw [if_pos (show fitK 4 (txtV s) (txtV t) = true from rfl), if_neg (by show ¬ ((4 : Int) = 0 ∨ (4 : Int) = 0); omega), if_neg (by show ¬ s.size + t.size > 40; omega)]
  have r1 := ev_len r0
  have ra := runeN_app s t v1
  rw [ra] at r1
  have r2 : evF [] [] (.bi 5 (.un 18 (.lit (txtV s))) (.un 18 (.lit (txtV t)))) = ⟨numV ((runeN s + runeN t : Nat) : Int), 0⟩ := by
    rw [ev_bi (ev_len (x := .lit (txtV s)) rfl) (ev_len (x := .lit (txtV t)) rfl) rfl]
    have hI : I64 ((runeN s : Int) + (runeN t : Int)) := by unfold I64; omega
    show reckF 5 (numV (runeN s)) (numV (runeN t)) = _
    unfold reckF
    rw [if_pos (show fitK 2 (numV (runeN s)) (numV (runeN t)) = true from rfl), if_neg (by show ¬ ((2 : Int) = 0 ∨ (2 : Int) = 0); omega)]
    show (if addB _ _ = true then _ else _) = _
    rw [if_pos ((add_iff (by unfold I64; omega) (by unfold I64; omega)).2 hI), w64_of hI]
    rfl
  rw [r1] at e1
  rw [r2] at e2
  have hp1 := runeN_pos (s ++ t)
  rw [ra, ByteArray.size_append] at hp1
  have hle0 : runeN s + runeN t ≤ s.size + t.size := by omega
  generalize runeN s + runeN t = n at *
  have hn : (decide ((n : Int) > 0) == !((s ++ t).toList == (⟨#[]⟩ : ByteArray).toList)) = true := by
    have hz : ((s ++ t).toList == (⟨#[]⟩ : ByteArray).toList) = decide (s.size + t.size = 0) := by
      have e0 : (⟨#[]⟩ : ByteArray).toList = [] := by rw [ByteArray.toList_eq]
      rw [e0, ByteArray.toList_eq, Bool.eq_iff_iff, beq_iff_eq, decide_eq_true_eq]
      have := sz_eq (s ++ t)
      rw [ByteArray.size_append] at this
      constructor
      · intro h; rw [h] at this; simpa using this
      · intro h; exact List.length_eq_zero_iff.1 (by omega)
    rw [hz, beq_iff_eq]
    rw [Bool.eq_iff_iff]
    simp only [decide_eq_true_eq, Bool.not_eq_true', decide_eq_false_iff_not]
    omega
  have hle : decide ((n : Int) ≤ ((s.size + t.size : Nat) : Int)) = true := by
    rw [decide_eq_true_eq]
    omega
  clear r0 r1 r2 ra g1 g2 oks okt v1 v2
  unfold tvD Vl.cs at *
  dsimp only at *
  generalize (Ex.un 18 (.bi 19 (.lit (txtV s)) (.lit (txtV t)))).cs = c1 at *
  generalize (Ex.bi 5 (.un 18 (.lit (txtV s))) (.un 18 (.lit (txtV t)))).cs = c2 at *
  generalize (Ex.bi 19 (.lit (txtV s)) (.lit (txtV t))).cs = c3 at *
  generalize (Ex.un 18 (.lit (txtV s))).cs = c4 at *
  generalize (Ex.un 18 (.lit (txtV t))).cs = c5 at *
  generalize (Ex.lit (txtV s)).cs = c6 at *
  generalize (Ex.lit (txtV t)).cs = c7 at *
  refine pc_of_aw Tryd.func12 rfl (by kernel_rfl) mixed (by kernel_rfl) (by rw [Tryd.ntmps12]; exact Nat.le_of_ble_eq_true rfl) Tryd.results12 ?_
  repeat (first | (with_reducible first | apply aw_seq | apply aw_reg | apply rp_nil | apply ae_norm | apply aw_ret | apply re_ret) | ((first | (with_reducible apply rp) | ((with_reducible apply rpG); exact rfl; exact gval_t rfl; (focus repeat' (first | exact trivial | exact fun h => h | refine And.intro ?_ ?_)); intro hgd; have hgd0 := hgd; (try simp only [decide_eq_true_eq, Bool.and_eq_true, Bool.not_eq_true', beq_iff_eq] at hgd))); first | ((with_reducible apply does_call_flat); exact rfl; exact rfl; exact (k1); exact rfl) | ((with_reducible apply does_call_flat); exact rfl; exact rfl; exact (k2); exact rfl) | ((with_reducible apply does_call'); exact rfl; exact rfl; exact rfl; exact (l1)) | ((with_reducible apply does_call'); exact rfl; exact rfl; exact rfl; exact (l2)) | ((with_reducible apply does_call'); exact rfl; exact rfl; exact rfl; exact (q1)) | ((with_reducible apply does_call'); exact rfl; exact rfl; exact rfl; exact (q2)) | ((with_reducible apply does_call_flat); exact rfl; exact rfl; exact (e1); exact rfl) | ((with_reducible apply does_call'); exact rfl; exact rfl; exact rfl; exact (q3)) | ((with_reducible apply does_call'); exact rfl; exact rfl; exact rfl; exact (q4)) | ((with_reducible apply does_call'); exact rfl; exact rfl; exact rfl; exact (q5)) | ((with_reducible apply does_call_flat); exact rfl; exact rfl; exact (e2); exact rfl) | (exact does_add_to (z := ((s.size + t.size : Nat) : Int)) rfl rfl (by omega) (by omega) (by omega)) | (exact does_cat rfl rfl (by omega)) | ((with_reducible apply does_move); (conv => lhs; whnf)) | ((with_reducible apply does_assign); (conv => lhs; whnf)) | ((with_reducible apply does_and); exact rfl; exact rfl; exact rfl; exact fun h => h) | ((with_reducible apply does_fieldAddr); exact tyOk rfl; exact rfl; exact rfl; decide; exact rfl) | ((with_reducible apply does_load_var); exact tyOk rfl; exact rfl; exact rfl; exact rfl; exact rfl) | ((with_reducible apply does_load_row); exact tyOk rfl; exact rfl; exact rfl; exact rfl; exact Nat.le_of_ble_eq_true rfl; exact rfl) | ((with_reducible apply does_eq); exact rfl; exact rfl) | ((with_reducible apply does_le); exact rfl; exact rfl) | ((with_reducible apply does_gt); exact rfl; exact rfl) | ((with_reducible apply does_sne); exact rfl; exact rfl) | ((with_reducible apply does_eqS); exact rfl; exact rfl; exact tgOk rfl; exact rfl) | ((with_reducible apply does_beq); exact tyOk rfl; exact rfl; exact rfl; exact rfl; exact rfl) | ((with_reducible apply does_extract); exact rfl; exact rfl) | ((with_reducible apply does_len_str); exact tyOk rfl; exact rfl; exact rfl)) | ((with_reducible apply rp1); ((with_reducible apply does_alloc); exact tyOk rfl; exact rfl)) | ((with_reducible apply rpN); ((with_reducible apply does_store_whole); exact tyOk rfl; exact rfl; exact rfl; exact rfl; exact rfl; exact rfl)))
  (with_reducible apply ret_ok); (focus (repeat' (first | (with_reducible apply rv_nil) | (with_reducible apply rv_cons) | ((with_reducible apply rv_tmp); exact rfl)))); exact rfl; refine SubD.of_eq ?_
  refine congrArg bD (a₂ := true) ?_
  rw [hle, hn]
  simp
theorem rep_str (w : World) (s : ByteArray) : RepD (Lt w) w (strD s) (.string s) := ⟨rfl, rfl⟩
theorem lengthJoins_walk (a b : ByteArray) (w : World) (_ : a.size ≤ 140737488351232) (_ : b.size ≤ 140737488351232) (hg : GlOk (Lt w) w) : Calls Tryd.prog 12 #[.string a, .string b] w fun e w' => e = .returned (.bool true) ∧ Below w.heap.size w w' :=
  calls_of_pc (lengthJoins_pc a b) (rep_cons (rep_str w a) (rep_cons (rep_str w b) rfl)) hg
end Go.Proofs.YtnkpnnphmimagaaDoor

