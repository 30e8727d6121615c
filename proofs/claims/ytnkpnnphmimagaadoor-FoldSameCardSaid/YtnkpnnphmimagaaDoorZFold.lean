/-
  eval.folded, exprOf, Fold; sameExpr, as contracts. No condition but that the expression may be.
-/
import Derived.Test.YtnkpnnphmimagaaDoorZFoldF
import Derived.Test.YtnkpnnphmimagaaDoorZEvH
namespace Go.Proofs.YtnkpnnphmimagaaDoor
set_option linter.unusedSimpArgs false
set_option linter.unusedVariables false
open Go.RowKit
open Go.Lib

theorem OfP.nil {th : Value} {r : D} (h : OfP th (valsD []) r) : OfP th .nl r := by
  obtain ⟨T, v, f, d0, h1, h2, h3, h4⟩ := h
  exact ⟨T, v, f, d0, h1, h2, h3, h4.args (SubDs.cons (SubD.refl _) (fun h => h) (SubDs.cons (SubD.nil 4) (fun h => h) SubDs.nil))⟩
set_option maxHeartbeats 2000000 in
theorem folded_pc (th : Value) (t : Tv) (h : OfP th .nl (tvD t)) (y : Ex) : PC Tryd.prog 77 [.sc th, .ag y.cs] (.ag (foldG t y).cs) := by
  obtain ⟨T, v, f, d0, rfl, hi, hd, hp⟩ := h
  have hyl := y.cs_eq
  have h2 := y.args_len
  have hfold : (y.args.all (fun a => a.op == 1) = true → (t.e ≠ 0 ∨ t.v.n < 0) → foldG t y = y) ∧ (y.args.all (fun a => a.op == 1) = true → ¬ (t.e ≠ 0 ∨ t.v.n < 0) → foldG t y = .lit t.v) ∧ (¬ y.args.all (fun a => a.op == 1) = true → foldG t y = y) :=
    ⟨fun h1 h2 => foldG_same fun _ => h2, fun h1 h2 => foldG_lit h1 h2, fun h1 => foldG_same fun h => absurd h h1⟩
  generalize hq : foldG t y = q at *
  obtain ⟨⟨tk, tn, tb, tt⟩, te⟩ := t
  dsimp only at *
  clear hq
  generalize hyc : y.cs = c at *
  subst hyl
  unfold tvD Vl.cs at *
  dsimp only at *
  refine pc_of_aw Tryd.func77 rfl (by kernel_rfl) mixed (by kernel_rfl) (by rw [Tryd.ntmps77]; exact Nat.le_of_ble_eq_true rfl) Tryd.results77 ?_
  repeat (first | (with_reducible first | apply aw_seq | apply aw_reg | apply rp_nil | apply ae_norm | apply aw_block) | ((with_reducible apply rp); first | ((with_reducible apply does_move); (conv => lhs; whnf)) | ((with_reducible apply does_fieldAddr); exact tyOk rfl; exact rfl; exact rfl; decide; exact rfl) | ((with_reducible apply does_load_var); exact tyOk rfl; exact rfl; exact rfl; exact rfl; exact rfl) | ((with_reducible apply does_len_map); exact tyOk rfl; exact rfl; exact rfl)) | ((with_reducible apply rp1); first | ((with_reducible apply does_box_ag); exact rfl; exact rfl) | ((with_reducible apply does_alloc); exact tyOk rfl; exact rfl)))
  refine aw_loop (fun m s => ∃ k, k ≤ y.args.length ∧ m = y.args.length - k ∧ (∀ j a, j < k → y.args[j]? = some a → a.op = 1) ∧ s = ⟨[(0, .d (.sc (.iface T v))), (3, .px 3 0), (4, .px 4 0), (10, .d (.sl 7 (y.args.map Ex.cs))), (11, .d (iD y.args.length)), (12, .d (iD k))],
    [(3, .var 28 [.d (iD y.op), .d (iD y.val.k), .d (iD y.val.n), .d (qD y.val.b), .d (strD y.val.t), .d (strD y.nam), .d (.sl 7 (y.args.map Ex.cs))]), (4, .var 28 [.d (iD 0), .d (iD 0), .d (iD 0), .d (qD 0), .d (strD .empty), .d (strD .empty), .d .nl])]⟩) _ _ ?_ ⟨0, by omega, rfl, fun j a hj => absurd hj (by omega), rfl⟩ ?_
  · refine forget_of [] (by repeat' (first | exact ks_nil | (refine ks_cons rfl (by exact SubA.refl _) ?_))) (by repeat' (first | exact trivial | exact rfl | refine And.intro ?_ ?_)) rfl (by repeat' (first | exact trivial | exact inB_px rfl | refine And.intro ?_ ?_)) (by repeat' (first | exact trivial | exact inB_px rfl | refine And.intro ?_ ?_))
  · rintro m s ⟨k, hk, rfl, hall, rfl⟩
    repeat (first | (with_reducible first | apply aw_seq | apply aw_reg | apply rp_nil | apply ae_norm) | ((with_reducible apply rp); ((with_reducible apply does_lt); exact rfl; exact rfl)))
    refine aw_cond rfl (fun hdd => ?_) (fun hdd => ?_)
    · have hlt : k < y.args.length := by simp at hdd; omega
      clear hdd
      obtain ⟨a, ha⟩ : ∃ a, y.args[k]? = some a := ⟨_, List.getElem?_eq_getElem hlt⟩
      have ha2 : (y.args.map Ex.cs)[k]? = some a.cs := by rw [List.getElem?_map, ha]; rfl
      have hal := a.cs_eq
      generalize a.cs = ac at *
      subst hal
      by_cases h1 : a.op = 1
      · have hne : ((a.op : Int) != 1) = false := by rw [h1]; rfl
        repeat (first | (with_reducible first | apply aw_seq | apply aw_reg | apply rp_nil | apply ae_norm | apply aw_block | apply aw_skip) | ((with_reducible apply rp); first | ((with_reducible apply does_fieldAddr); exact tyOk rfl; exact rfl; exact rfl; decide; exact rfl) | ((with_reducible apply does_load_var); exact tyOk rfl; exact rfl; exact rfl; exact rfl; exact rfl) | ((with_reducible apply does_load_elem_whole); exact tyOk rfl; exact rfl; exact rfl; assumption; exact rfl) | ((with_reducible apply does_index_sl); exact tyOk rfl; exact rfl; exact tyOk rfl; exact rfl; exact rfl; exact rfl; exact rfl; (simp only [List.length_map, List.length_append, List.length_cons, List.length_nil] at *; omega)) | ((with_reducible apply does_ne); exact rfl; exact rfl)) | ((with_reducible apply rp1); ((with_reducible apply does_alloc); exact tyOk rfl; exact rfl)) | ((with_reducible apply rpN); ((with_reducible apply does_store_whole); exact tyOk rfl; exact rfl; exact rfl; exact rfl; exact rfl; exact rfl)))
        refine aw_cond rfl (fun hdd => absurd (hne.symm.trans hdd) (by decide)) (fun _ => ?_)
        repeat (first | (with_reducible first | apply aw_reg | apply rp_nil | apply ae_norm | apply be_norm | apply aw_skip) | ((with_reducible apply rp); first | ((with_reducible apply does_move); (conv => lhs; whnf)) | ((with_reducible apply does_add); exact rfl; exact rfl; omega; omega)))
        refine ⟨_, _, ?_, ?_, k + 1, by omega, rfl, ?_, rfl⟩
        · omega
        · refine forget_of [] (by repeat' (first | exact ks_nil | (refine ks_cons rfl (by exact SubA.refl _) ?_))) (by repeat' (first | exact trivial | exact rfl | refine And.intro ?_ ?_)) rfl (by repeat' (first | exact trivial | exact inB_px rfl | refine And.intro ?_ ?_)) (by repeat' (first | exact trivial | exact inB_px rfl | refine And.intro ?_ ?_))
        · intro j b hj hb
          by_cases hjk : j < k
          · exact hall j b hjk hb
          · have : j = k := by omega
            subst this
            rw [ha] at hb
            injection hb with hb
            rw [← hb]; exact h1
      · have hne : ((a.op : Int) != 1) = true := bne_iff_ne.2 (by omega)
        have hq : q = y := hfold.2.2 fun h => h1 (by
          have := List.all_eq_true.1 h a (List.mem_of_getElem? ha)
          exact beq_iff_eq.1 this)
        rw [hq, hyc]
        repeat (first | (with_reducible first | apply aw_seq | apply aw_reg | apply rp_nil | apply ae_norm | apply aw_block | apply aw_skip) | ((with_reducible apply rp); first | ((with_reducible apply does_fieldAddr); exact tyOk rfl; exact rfl; exact rfl; decide; exact rfl) | ((with_reducible apply does_load_var); exact tyOk rfl; exact rfl; exact rfl; exact rfl; exact rfl) | ((with_reducible apply does_load_elem_whole); exact tyOk rfl; exact rfl; exact rfl; assumption; exact rfl) | ((with_reducible apply does_index_sl); exact tyOk rfl; exact rfl; exact tyOk rfl; exact rfl; exact rfl; exact rfl; exact rfl; (simp only [List.length_map, List.length_append, List.length_cons, List.length_nil] at *; omega)) | ((with_reducible apply does_ne); exact rfl; exact rfl)) | ((with_reducible apply rp1); ((with_reducible apply does_alloc); exact tyOk rfl; exact rfl)) | ((with_reducible apply rpN); ((with_reducible apply does_store_whole); exact tyOk rfl; exact rfl; exact rfl; exact rfl; exact rfl; exact rfl)))
        refine aw_cond rfl (fun _ => ?_) (fun hdd => absurd (hne.symm.trans hdd) (by decide))
        repeat (first | (with_reducible first | apply aw_seq | apply aw_reg | apply rp_nil | apply ae_norm | apply aw_ret | apply ae_ret | apply be_ret | apply re_ret) | ((with_reducible apply rp); ((with_reducible apply does_load_row); exact tyOk rfl; exact rfl; exact rfl; exact rfl; exact Nat.le_of_ble_eq_true rfl; exact rfl)) | ((with_reducible apply rpN); ((with_reducible apply does_store_whole); exact tyOk rfl; exact rfl; exact rfl; exact rfl; exact rfl; exact rfl)))
        (with_reducible apply ret_ok); (focus (repeat' (first | (with_reducible apply rv_nil) | (with_reducible apply rv_cons) | ((with_reducible apply rv_rowd); exact rfl; exact rfl; exact tyOk rfl; exact rfl; exact rfl)))); exact rfl; refine SubD.of_eq ?_
        rfl
    · have hke : k = y.args.length := by simp at hdd; omega
      clear hdd
      subst hke
      have hal : y.args.all (fun a => a.op == 1) = true := List.all_eq_true.2 fun a ha => by
        obtain ⟨j, hj⟩ := List.getElem?_of_mem ha
        exact beq_iff_eq.2 (hall j a (List.getElem?_eq_some_iff.1 hj).1 hj)
      by_cases hb : te ≠ 0 ∨ tn < 0
      · rw [hfold.1 hal hb, hyc]
        have hc : ((te : Int) != 0 || decide (tn < 0)) = true := by
          rw [Bool.or_eq_true, decide_eq_true_eq, bne_iff_ne]
          rcases hb with hb | hb
          · exact .inl (by omega)
          · exact .inr hb
        repeat (first | (with_reducible first | apply aw_seq | apply aw_reg | apply rp_nil | apply ae_norm | apply aw_exit | apply ae_exit | apply be_exit) | ((first | (with_reducible apply rp) | ((with_reducible apply rpG); exact rfl; exact gval_f rfl; (focus repeat' (first | exact trivial | exact fun h => h | refine And.intro ?_ ?_)); intro hgd; have hgd0 := hgd; (try simp only [decide_eq_true_eq, Bool.and_eq_true, Bool.not_eq_true', beq_iff_eq] at hgd))); first | (exact does_invoke rfl hi hd rfl hp) | ((with_reducible apply does_move); (conv => lhs; whnf)) | ((with_reducible apply does_assign); (conv => lhs; whnf)) | ((with_reducible apply does_or); exact rfl; exact rfl; exact rfl; exact fun h => h) | ((with_reducible apply does_fieldAddr); exact tyOk rfl; exact rfl; exact rfl; decide; exact rfl) | ((with_reducible apply does_load_var); exact tyOk rfl; exact rfl; exact rfl; exact rfl; exact rfl) | ((with_reducible apply does_ne); exact rfl; exact rfl) | ((with_reducible apply does_lt); exact rfl; exact rfl) | ((with_reducible apply does_extract); exact rfl; exact rfl)) | ((with_reducible apply rp1); ((with_reducible apply does_alloc); exact tyOk rfl; exact rfl)) | ((with_reducible apply rpN); ((with_reducible apply does_store_whole); exact tyOk rfl; exact rfl; exact rfl; exact rfl; exact rfl; exact rfl)))
        refine aw_cond rfl (fun _ => ?_) (fun hdd => absurd (hc.symm.trans hdd) (by decide))
        repeat (first | (with_reducible first | apply aw_seq | apply aw_reg | apply rp_nil | apply ae_norm | apply aw_ret | apply ae_ret | apply re_ret) | ((with_reducible apply rp); ((with_reducible apply does_load_row); exact tyOk rfl; exact rfl; exact rfl; exact rfl; exact Nat.le_of_ble_eq_true rfl; exact rfl)) | ((with_reducible apply rpN); ((with_reducible apply does_store_whole); exact tyOk rfl; exact rfl; exact rfl; exact rfl; exact rfl; exact rfl)))
        (with_reducible apply ret_ok); (focus (repeat' (first | (with_reducible apply rv_nil) | (with_reducible apply rv_cons) | ((with_reducible apply rv_rowd); exact rfl; exact rfl; exact tyOk rfl; exact rfl; exact rfl)))); exact rfl; refine SubD.of_eq ?_
        rfl
      · rw [hfold.2.1 hal hb]
        have hc : ((te : Int) != 0 || decide (tn < 0)) = false := by
          rw [Bool.or_eq_false_iff, decide_eq_false_iff_not]
          exact ⟨by have : te = 0 := by omega
                    subst this; rfl, by omega⟩
        repeat (first | (with_reducible first | apply aw_seq | apply aw_reg | apply rp_nil | apply ae_norm | apply aw_exit | apply ae_exit | apply be_exit) | ((first | (with_reducible apply rp) | ((with_reducible apply rpG); exact rfl; exact gval_f rfl; (focus repeat' (first | exact trivial | exact fun h => h | refine And.intro ?_ ?_)); intro hgd; have hgd0 := hgd; (try simp only [decide_eq_true_eq, Bool.and_eq_true, Bool.not_eq_true', beq_iff_eq] at hgd))); first | (exact does_invoke rfl hi hd rfl hp) | ((with_reducible apply does_move); (conv => lhs; whnf)) | ((with_reducible apply does_assign); (conv => lhs; whnf)) | ((with_reducible apply does_or); exact rfl; exact rfl; exact rfl; exact fun h => h) | ((with_reducible apply does_fieldAddr); exact tyOk rfl; exact rfl; exact rfl; decide; exact rfl) | ((with_reducible apply does_load_var); exact tyOk rfl; exact rfl; exact rfl; exact rfl; exact rfl) | ((with_reducible apply does_ne); exact rfl; exact rfl) | ((with_reducible apply does_lt); exact rfl; exact rfl) | ((with_reducible apply does_extract); exact rfl; exact rfl)) | ((with_reducible apply rp1); ((with_reducible apply does_alloc); exact tyOk rfl; exact rfl)) | ((with_reducible apply rpN); ((with_reducible apply does_store_whole); exact tyOk rfl; exact rfl; exact rfl; exact rfl; exact rfl; exact rfl)))
        refine aw_cond rfl (fun hdd => absurd (hc.symm.trans hdd) (by decide)) (fun _ => ?_)
        repeat (first | (with_reducible first | apply aw_seq | apply aw_reg | apply rp_nil | apply ae_norm | apply aw_ret | apply re_ret | apply aw_skip) | ((with_reducible apply rp); first | ((with_reducible apply does_load_row); exact tyOk rfl; exact rfl; exact rfl; exact rfl; exact Nat.le_of_ble_eq_true rfl; exact rfl) | ((with_reducible apply does_build); exact tyOk rfl; exact rfl; exact rfl; (focus repeat' (first | exact rfl | refine ⟨_, _, rfl, rfl, Nat.le_of_ble_eq_true rfl, rfl, ?_⟩)); exact rfl)) | ((with_reducible apply rpN); ((with_reducible apply does_store_whole); exact tyOk rfl; exact rfl; exact rfl; exact rfl; exact rfl; exact rfl)))
        (with_reducible apply ret_ok); (focus (repeat' (first | (with_reducible apply rv_nil) | (with_reducible apply rv_cons) | ((with_reducible apply rv_rowd); exact rfl; exact rfl; exact tyOk rfl; exact rfl; exact rfl)))); exact rfl
        exact nil_sub _
end Go.Proofs.YtnkpnnphmimagaaDoor

