/-
  chirographkeep's heap of raw things: Cols, next, leaf, op1, op2 as contracts. No condition but the sizes.
-/
import Derived.Test.YtlpnnnmdkglkcaaDoorZHp
import Derived.Test.YtlpnnnmdkglkcaaDoorZSomeP
import Derived.Test.YtlpnnnmdkglkcaaDoorZG
import Derived.Test.YtlpnnnmdkglkcaaDoorZC
namespace Go.Proofs.YtlpnnnmdkglkcaaDoor
set_option linter.unusedSimpArgs false
set_option linter.unusedVariables false
open Go.RowKit

section
variable {P : Program} {fr : Nat} {dst : Option Nat} {ty : TypeId} {e : Operand → A} {β : Bx}
theorem does_frzV {op : Op} (t : Nat) {id n sz : Nat} {es : List (List D)} {v : A} {rd : List Nat} (hx : e (.tmp t) = .ow id n) (hro : rowsOf β id = some (sz, es))
    (h : Does P dst op ty (setE e t (.d (.sl sz es))) ([(id, .frz sz es)] ++ β) v [] rd) : Does P dst op ty e β v [(id, .frz sz es)] (id :: rd) := does_frz t hx hro h
end
theorem nil_sub (a : D) {b c d e f : D} : SubD (.ag [a, b, c, d, e, f, .nl]) (.ag [a, b, c, d, e, f, .sl 7 []]) :=
  SubD.ag (SubDs.cons (SubD.refl _) (fun h => h) (SubDs.cons (SubD.refl _) (fun h => h) (SubDs.cons (SubD.refl _) (fun h => h) (SubDs.cons (SubD.refl _) (fun h => h) (SubDs.cons (SubD.refl _) (fun h => h) (SubDs.cons (SubD.refl _) (fun h => h) (SubDs.cons (SubD.nil 7) (fun h => h) SubDs.nil)))))))
theorem op1_pc (op : Nat) (a : Ex) : PC Tryd.prog 65 [iD op, .ag a.cs] (.ag (Ex.un op a).cs) := by
  show PC _ _ _ (.ag [iD op, iD 0, iD 0, qD 0, strD .empty, strD .empty, .sl 7 [a.cs]])
  have hcl := a.cs_eq
  generalize a.cs = c at *
  subst hcl
  refine pc_of_aw Tryd.func65 rfl (by kernel_rfl) mixed (by kernel_rfl) (by rw [Tryd.ntmps65]; exact Nat.le_of_ble_eq_true rfl) Tryd.results65 ?_
  repeat (first | ((with_reducible apply rp1); (with_reducible apply does_frzV 7); exact rfl; exact rfl; (with_reducible apply does_build); exact tyOk rfl; exact rfl; exact rfl; (focus repeat' (first | exact rfl | refine ⟨_, _, rfl, rfl, Nat.le_of_ble_eq_true rfl, rfl, ?_⟩)); exact rfl) | (with_reducible first | apply aw_seq | apply aw_reg | apply rp_nil | apply ae_norm | apply aw_ret | apply re_ret) | ((with_reducible apply rp); first | ((with_reducible apply does_move); (conv => lhs; whnf)) | ((with_reducible apply does_load_row); exact tyOk rfl; exact rfl; exact rfl; exact rfl; exact Nat.le_of_ble_eq_true rfl; exact rfl)) | ((with_reducible apply rp1); first | ((with_reducible apply does_box_ag); exact rfl; exact rfl) | ((with_reducible apply does_alloc); exact tyOk rfl; exact rfl) | ((with_reducible apply does_buildSlice); exact tyOk rfl; exact rfl; exact tyOk rfl; exact rfl; exact rfl; (focus repeat' (first | exact trivial | refine And.intro rfl (And.intro rfl ?_))); decide; decide; exact rfl)) | ((with_reducible apply rpN); ((with_reducible apply does_store_whole); exact tyOk rfl; exact rfl; exact rfl; exact rfl; exact rfl; exact rfl)))
  (with_reducible apply ret_ok); (focus (repeat' (first | (with_reducible apply rv_nil) | (with_reducible apply rv_cons) | ((with_reducible apply rv_rowd); exact rfl; exact rfl; exact tyOk rfl; exact rfl; exact rfl)))); exact rfl; refine SubD.of_eq ?_
  rfl
theorem op2_pc (op : Nat) (a b : Ex) : PC Tryd.prog 66 [iD op, .ag a.cs, .ag b.cs] (.ag (Ex.bi op a b).cs) := by
  show PC _ _ _ (.ag [iD op, iD 0, iD 0, qD 0, strD .empty, strD .empty, .sl 7 [a.cs, b.cs]])
  have hcl := a.cs_eq
  have hdl := b.cs_eq
  generalize a.cs = c at *
  generalize b.cs = d at *
  subst hcl hdl
  refine pc_of_aw Tryd.func66 rfl (by kernel_rfl) mixed (by kernel_rfl) (by rw [Tryd.ntmps66]; exact Nat.le_of_ble_eq_true rfl) Tryd.results66 ?_
  repeat (first | ((with_reducible apply rp1); (with_reducible apply does_frzV 10); exact rfl; exact rfl; (with_reducible apply does_build); exact tyOk rfl; exact rfl; exact rfl; (focus repeat' (first | exact rfl | refine ⟨_, _, rfl, rfl, Nat.le_of_ble_eq_true rfl, rfl, ?_⟩)); exact rfl) | (with_reducible first | apply aw_seq | apply aw_reg | apply rp_nil | apply ae_norm | apply aw_ret | apply re_ret) | ((with_reducible apply rp); first | ((with_reducible apply does_move); (conv => lhs; whnf)) | ((with_reducible apply does_load_row); exact tyOk rfl; exact rfl; exact rfl; exact rfl; exact Nat.le_of_ble_eq_true rfl; exact rfl)) | ((with_reducible apply rp1); first | ((with_reducible apply does_box_ag); exact rfl; exact rfl) | ((with_reducible apply does_alloc); exact tyOk rfl; exact rfl) | ((with_reducible apply does_buildSlice); exact tyOk rfl; exact rfl; exact tyOk rfl; exact rfl; exact rfl; (focus repeat' (first | exact trivial | refine And.intro rfl (And.intro rfl ?_))); decide; decide; exact rfl)) | ((with_reducible apply rpN); ((with_reducible apply does_store_whole); exact tyOk rfl; exact rfl; exact rfl; exact rfl; exact rfl; exact rfl)))
  (with_reducible apply ret_ok); (focus (repeat' (first | (with_reducible apply rv_nil) | (with_reducible apply rv_cons) | ((with_reducible apply rv_rowd); exact rfl; exact rfl; exact tyOk rfl; exact rfl; exact rfl)))); exact rfl; refine SubD.of_eq ?_
  rfl
set_option maxHeartbeats 1000000 in
theorem cols_pc (l0 : List Raw) : PC Tryd.prog 62 [rawsD l0] (colsD (colsF l0)) := by
  have s1 := some_pc l0 3
  unfold colsF
  have hl : (l0.take 3).length ≤ 3 := by rw [List.length_take]; omega
  generalize l0.take 3 = l at *
  refine pc_of_aw Tryd.func62 rfl (by kernel_rfl) mixed (by kernel_rfl) (by rw [Tryd.ntmps62]; exact Nat.le_of_ble_eq_true rfl) Tryd.results62 ?_
  repeat (first | (with_reducible first | apply aw_seq | apply aw_reg | apply rp_nil | apply ae_norm | apply aw_block) | ((with_reducible apply rp); first | ((with_reducible apply does_call'); exact rfl; exact rfl; exact rfl; exact (s1)) | ((with_reducible apply does_move); (conv => lhs; whnf)) | ((with_reducible apply does_assign); (conv => lhs; whnf)) | ((with_reducible apply does_len_map); exact tyOk rfl; exact rfl; exact rfl) | ((with_reducible apply does_build); exact tyOk rfl; exact rfl; exact rfl; (focus repeat' (first | exact rfl | refine ⟨_, _, rfl, rfl, Nat.le_of_ble_eq_true rfl, rfl, ?_⟩)); exact rfl)) | ((with_reducible apply rp1); ((with_reducible apply does_buildSlice); exact tyOk rfl; exact rfl; exact tyOk rfl; exact rfl; exact rfl; (focus repeat' (first | exact trivial | refine And.intro rfl (And.intro rfl ?_))); decide; decide; exact rfl)))
  refine aw_loop (fun m s => ∃ k, k ≤ l.length ∧ m = l.length - k ∧ s = ⟨[(3, .ow 1000 (k + 1)), (9, .d (rawsD l)), (10, .d (iD l.length)), (11, .d (iD k))], [(1000, .row 139 3 ([strD kN, iD 2, bD false] :: (clsF 0 (l.take k)).map Cl.cs))]⟩) _ _ ?_ ⟨0, by omega, rfl, rfl⟩ ?_
  · refine forget_of [(1000, 7)] (by repeat' (first | exact ks_nil | (refine ks_cons rfl (by exact SubA.refl _) ?_))) ?_ rfl (by repeat' (first | exact trivial | exact inB_ow rfl | refine And.intro ?_ ?_)) (by repeat' (first | exact trivial | exact inB_ow rfl | refine And.intro ?_ ?_))
    exact kb_cons rfl (row_eq rfl) kb_nil
  · rintro m s ⟨k, hk, rfl, rfl⟩
    repeat (first | (with_reducible first | apply aw_seq | apply aw_reg | apply rp_nil | apply ae_norm) | ((with_reducible apply rp); ((with_reducible apply does_lt); exact rfl; exact rfl)))
    refine aw_cond rfl (fun hd => ?_) (fun hd => ?_)
    · have hlt : k < l.length := by simp at hd; omega
      clear hd s1
      obtain ⟨r, hr⟩ : ∃ r, l[k]? = some r := ⟨_, List.getElem?_eq_getElem hlt⟩
      have hr2 : (l.map Raw.cs)[k]? = some r.cs := by rw [List.getElem?_map, hr]; rfl
      have p1 := picked_pc r.kind 4 (by omega) (by omega)
      have p2 := picked_pc r.a 2 (by omega) (by omega)
      have e1 : (clsF 0 (l.take (k + 1))).map Cl.cs = (clsF 0 (l.take k)).map Cl.cs ++ [(clF k r).cs] := by
        rw [List.take_add_one, hr]
        show (clsF 0 (l.take k ++ [r])).map Cl.cs = _
        rw [clsF_app, List.map_append, List.length_take]
        have e : 0 + min k l.length = k := by omega
        rw [e]
        rfl
      have l1 : ((clsF 0 (l.take k)).map Cl.cs).length = k := by rw [List.length_map, clsF_len, List.length_take]; omega
      generalize (clsF 0 (l.take k)).map Cl.cs = o at *
      obtain ⟨rk, ra, rb, rt⟩ := r
      unfold Raw.cs at hr2
      unfold clF at e1
      dsimp only at *
      obtain ⟨u, hu⟩ : ∃ u : Nat, rk % ((4 : Nat) : Int) = u := ⟨(rk % 4).toNat, by omega⟩
      rw [hu] at p1
      have hu2 : (rk % 4).toNat = u := by omega
      rw [hu2] at e1
      have hv : (ra % ((2 : Nat) : Int) == 0) = decide (ra % 2 = 0) := by rw [Bool.eq_iff_iff, beq_iff_eq, decide_eq_true_eq]; omega
      repeat (first | (with_reducible first | apply aw_seq | apply aw_reg | apply rp_nil | apply ae_norm | apply aw_regD | apply aw_block | apply be_norm | apply aw_skip) | ((with_reducible apply dr_nil); (first | kernel_rfl | exact rfl)) | ((with_reducible first | apply rp | apply dr); first | ((with_reducible apply does_call_flat); exact rfl; exact rfl; exact (p1); exact rfl) | ((with_reducible apply does_call_flat); exact rfl; exact rfl; exact (p2); exact rfl) | (exact does_add_to (z := ((1 + u : Nat) : Int)) rfl rfl (by omega) (by omega) (by omega)) | (exact does_slice_str (s := abcN) (l := k) (h := k + 1) (tyOk rfl) rfl rfl ⟨_, _, rfl, rfl⟩ ⟨_, _, rfl, rfl⟩ (by omega) (show k + 1 ≤ 3 by omega)) | ((with_reducible apply does_move); (conv => lhs; whnf)) | ((with_reducible apply does_assign); (conv => lhs; whnf)) | ((with_reducible apply does_fieldAddr); exact tyOk rfl; exact rfl; exact rfl; decide; exact rfl) | ((with_reducible apply does_load_var); exact tyOk rfl; exact rfl; exact rfl; exact rfl; exact rfl) | ((with_reducible apply does_load_elem_whole); exact tyOk rfl; exact rfl; exact rfl; assumption; exact rfl) | ((with_reducible apply does_index_sl); exact tyOk rfl; exact rfl; exact tyOk rfl; exact rfl; exact rfl; exact rfl; exact rfl; (first | (dsimp only; simp only [List.length_map, List.length_append, List.length_cons, List.length_nil] at *; omega) | (simp only [List.length_map, List.length_append, List.length_cons, List.length_nil] at *; omega))) | ((with_reducible apply does_eq); exact rfl; exact rfl) | ((with_reducible apply does_add); exact rfl; exact rfl; omega; omega) | ((with_reducible apply does_build); exact tyOk rfl; exact rfl; exact rfl; (focus repeat' (first | exact rfl | refine ⟨_, _, rfl, rfl, Nat.le_of_ble_eq_true rfl, rfl, ?_⟩)); exact rfl)) | ((with_reducible first | apply rp1 | apply dr1); first | ((with_reducible apply does_alloc); exact tyOk rfl; exact rfl) | ((with_reducible apply does_buildSlice); exact tyOk rfl; exact rfl; exact tyOk rfl; exact rfl; exact rfl; (focus repeat' (first | exact trivial | refine And.intro rfl (And.intro rfl ?_))); decide; decide; exact rfl)) | ((with_reducible apply dr2); ((with_reducible apply does_append_own); exact tyOk rfl; exact rfl; exact tyOk rfl; exact rfl; exact rfl; exact rfl; decide; (first | (dsimp only; simp only [List.length_map, List.length_append, List.length_cons, List.length_nil] at *; omega) | (simp only [List.length_map, List.length_append, List.length_cons, List.length_nil] at *; omega)); (first | (dsimp only; simp only [List.length_map, List.length_append, List.length_cons, List.length_nil] at *; omega) | (simp only [List.length_map, List.length_append, List.length_cons, List.length_nil] at *; omega)); exact rfl)) | ((with_reducible apply rpN); ((with_reducible apply does_store_whole); exact tyOk rfl; exact rfl; exact rfl; exact rfl; exact rfl; exact rfl)))
      refine ⟨_, _, ?_, ?_, k + 1, by omega, rfl, rfl⟩
      · omega
      · rw [e1]
        refine forget_of [(1000, 31)] (by repeat' (first | exact ks_nil | (refine ks_cons rfl (by (first | exact SubA.refl _ | exact subA_ow (by (simp; omega)))) ?_))) ?_ rfl (by repeat' (first | exact trivial | exact inB_ow rfl | refine And.intro ?_ ?_)) (by repeat' (first | exact trivial | exact inB_ow rfl | refine And.intro ?_ ?_))
        exact kb_cons rfl (row_eq (by rw [hv]; rfl)) kb_nil
    · have hke : k = l.length := by simp at hd; omega
      clear hd
      subst hke
      repeat (first | (with_reducible first | apply aw_seq | apply aw_reg | apply rp_nil | apply ae_norm | apply aw_exit | apply ae_exit | apply be_exit | apply aw_ret | apply re_ret) | ((with_reducible apply rp); first | ((with_reducible apply does_move); (conv => lhs; whnf)) | ((with_reducible apply does_assign); (conv => lhs; whnf))))
      (with_reducible apply ret_ok); (focus (repeat' (first | (with_reducible apply rv_nil) | (with_reducible apply rv_cons) | ((with_reducible apply rv_tmp); exact rfl)))); exact rfl; refine SubD.of_eq ?_
      rw [List.take_length]
      rfl
abbrev hpB (l : List Raw) (n : Nat) (cols : List Cl) : Nat × Box := (1000, .var 83 [.d (rawsD l), .d (iD n), .d (colsD cols)])
set_option maxHeartbeats 1000000 in
theorem next_px (l : List Raw) (n : Nat) (cols : List Cl) (hn : n ≤ 4611686018427387904) : PX Tryd.prog 63 [.px 1000 0] [hpB l n cols] [] (.ag (nextF l n).cs) [hpB l (n + 1) cols] [] := by
  unfold hpB nextF
  by_cases hl : l = []
  · subst hl
    refine pxf_of_aw Tryd.func63 rfl (by kernel_rfl) mixed (by kernel_rfl) (by rw [Tryd.ntmps63]; exact Nat.le_of_ble_eq_true rfl) Tryd.results63 rfl ?_
    repeat (first | (with_reducible first | apply aw_seq | apply aw_reg | apply rp_nil | apply ae_norm | apply aw_regD | apply aw_ret | apply ae_ret | apply xf_ret) | ((with_reducible apply dr_nil); (first | kernel_rfl | exact rfl)) | ((with_reducible first | apply rp | apply dr); first | ((with_reducible apply does_move); (conv => lhs; whnf)) | ((with_reducible apply does_fieldAddr); exact tyOk rfl; exact rfl; exact rfl; decide; exact rfl) | ((with_reducible apply does_load_var); exact tyOk rfl; exact rfl; exact rfl; exact rfl; exact rfl) | ((with_reducible apply does_eq); exact rfl; exact rfl) | ((with_reducible apply does_add); exact rfl; exact rfl; omega; omega) | ((with_reducible apply does_len_map); exact tyOk rfl; exact rfl; exact rfl) | ((with_reducible apply does_build); exact tyOk rfl; exact rfl; exact rfl; (focus repeat' (first | exact rfl | refine ⟨_, _, rfl, rfl, Nat.le_of_ble_eq_true rfl, rfl, ?_⟩)); exact rfl) | ((with_reducible apply does_nilCheck); exact rfl)) | ((with_reducible apply rp1); ((with_reducible apply does_alloc); exact tyOk rfl; exact rfl)) | ((with_reducible first | apply rpN | apply drN); first | ((with_reducible apply does_store); exact tyOk rfl; exact rfl; exact rfl; (conv => lhs; whnf); exact rfl; exact rfl; exact Nat.le_of_ble_eq_true rfl) | ((with_reducible apply does_store_whole); exact tyOk rfl; exact rfl; exact rfl; exact rfl; exact rfl; exact rfl)) | ((with_reducible apply aw_cond); exact rfl; rotate_left; (focus (intro hd; (cases hd; done))); (intro hd; clear hd)))
    (with_reducible apply retxf_ok (l := [])); (focus (repeat' (first | (with_reducible apply rv_nil) | (with_reducible apply rv_cons) | ((with_reducible apply rv_rowd); exact rfl; exact rfl; exact tyOk rfl; exact rfl; exact rfl)))); exact rfl; exact SubD.refl _; refine ⟨(by repeat' (first | exact ks_nil | (refine ks_cons rfl (by exact SubA.refl _) ?_))), (by repeat' (first | exact trivial | exact rfl | refine And.intro ?_ ?_)), rfl, (by repeat' (first | exact trivial | exact inB_px rfl | refine And.intro ?_ ?_)), (by repeat' (first | exact trivial | exact inB_px rfl | refine And.intro ?_ ?_))⟩
  · have hp : 0 < l.length := List.length_pos_iff.2 hl
    have hlt : n % l.length < l.length := Nat.mod_lt _ hp
    obtain ⟨r, hr⟩ : ∃ r, l[n % l.length]? = some r := ⟨_, List.getElem?_eq_getElem hlt⟩
    rw [hr]
    have hr2 : (l.map Raw.cs)[n % l.length]? = some r.cs := by rw [List.getElem?_map, hr]; rfl
    obtain ⟨rk, ra, rb, rt⟩ := r
    unfold Raw.cs at *
    dsimp only at *
    refine pxf_of_aw Tryd.func63 rfl (by kernel_rfl) mixed (by kernel_rfl) (by rw [Tryd.ntmps63]; exact Nat.le_of_ble_eq_true rfl) Tryd.results63 rfl ?_
    repeat (first | (with_reducible first | apply aw_seq | apply aw_reg | apply rp_nil | apply ae_norm | apply aw_regD | apply aw_ret | apply xf_ret | apply aw_skip) | ((with_reducible apply dr_nil); (first | kernel_rfl | exact rfl)) | ((with_reducible first | apply rp | apply dr); first | (exact does_rem_to (m := n) (n := l.length) rfl (by omega) rfl rfl hp) | (exact does_quo_to (m := n + 1) (n := l.length) rfl rfl rfl hp (by omega)) | ((with_reducible apply does_move); (conv => lhs; whnf)) | ((with_reducible apply does_fieldAddr); exact tyOk rfl; exact rfl; exact rfl; decide; exact rfl) | ((with_reducible apply does_load_var); exact tyOk rfl; exact rfl; exact rfl; exact rfl; exact rfl) | ((with_reducible apply does_load_row); exact tyOk rfl; exact rfl; exact rfl; exact rfl; exact Nat.le_of_ble_eq_true rfl; exact rfl) | ((with_reducible apply does_load_elem_whole); exact tyOk rfl; exact rfl; exact rfl; assumption; exact rfl) | ((with_reducible apply does_index_sl); exact tyOk rfl; exact rfl; exact tyOk rfl; exact rfl; exact rfl; exact rfl; exact rfl; (simp only [List.length_map, List.length_append, List.length_cons, List.length_nil] at *; omega)) | ((with_reducible apply does_eq); exact rfl; exact rfl) | ((with_reducible apply does_add); exact rfl; exact rfl; omega; omega) | ((with_reducible apply does_sub); exact rfl; exact rfl; omega; omega) | ((with_reducible apply does_wadd); exact rfl; exact rfl) | ((with_reducible apply does_len_map); exact tyOk rfl; exact rfl; exact rfl) | ((with_reducible apply does_nilCheck); exact rfl)) | ((with_reducible first | apply rp1 | apply dr1); ((with_reducible apply does_alloc); exact tyOk rfl; exact rfl)) | ((with_reducible first | apply rpN | apply drN); first | ((with_reducible apply does_store); exact tyOk rfl; exact rfl; exact rfl; (conv => lhs; whnf); exact rfl; exact rfl; exact Nat.le_of_ble_eq_true rfl) | ((with_reducible apply does_store_whole); exact tyOk rfl; exact rfl; exact rfl; exact rfl; exact rfl; exact rfl)) | ((with_reducible apply aw_cond); exact rfl; (focus (intro hd; (exfalso; simp at hd; contradiction))); (intro hd; clear hd)))
    (with_reducible apply retxf_ok (l := [])); (focus (repeat' (first | (with_reducible apply rv_nil) | (with_reducible apply rv_cons) | ((with_reducible apply rv_rowd); exact rfl; exact rfl; exact tyOk rfl; exact rfl; exact rfl)))); exact rfl; exact SubD.refl _; refine ⟨(by repeat' (first | exact ks_nil | (refine ks_cons rfl (by exact SubA.refl _) ?_))), (by repeat' (first | exact trivial | exact rfl | refine And.intro ?_ ?_)), rfl, (by repeat' (first | exact trivial | exact inB_px rfl | refine And.intro ?_ ?_)), (by repeat' (first | exact trivial | exact inB_px rfl | refine And.intro ?_ ?_))⟩
theorem leafC_drop {K : Nat} {a : Int} {k : Nat} {l : List Cl} {c : Cl} (h : l[k]? = some c) : leafC K a k (l.drop k) = if c.kind = K ∧ a % ((2 + k : Nat) : Int) = 0 then some c else leafC K a (k + 1) (l.drop (k + 1)) := by
  rw [List.drop_eq_getElem?_toList_append, h]
  rfl
set_option maxHeartbeats 4000000 in
theorem leaf_px (l : List Raw) (n : Nat) (cols : List Cl) (hcl : cols.length ≤ 1000) (K : Nat) (hK : K ≤ 4) (r : Raw) : ∃ v : Vl, Gd v ∧ v.k = K ∧ (K ≠ 2 → 0 ≤ v.n ∧ v.n ≤ 9223372036854775807) ∧ PX Tryd.prog 64 [.px 1000 0, .d (iD K), .d (.ag r.cs)] [hpB l n cols] [] (.ag (leafF cols K r v).cs) [hpB l n cols] [] := by
  obtain ⟨v, hv, hvk, pv⟩ := valOf_pc K hK r
  refine ⟨v, hv, hvk, fun h2 => ?_, ?_⟩
  · cases hv with
    | int m => exact absurd (show K = 2 by have : (2 : Int) = (K : Int) := hvk; omega) h2
    | bool m hm => show 0 ≤ m ∧ m ≤ 9223372036854775807; omega
    | _ => exact ⟨Int.le_refl _, by show (0 : Int) ≤ 9223372036854775807; decide⟩
  have p9 := picked_pc r.b 9 (by omega) (by omega)
  have p4 := picked_pc r.b 4 (by omega) (by omega)
  have p20 := picked_pc r.a 20 (by omega) (by omega)
  unfold hpB leafF
  obtain ⟨oc, hoc⟩ : ∃ oc, leafC K r.a 0 cols = oc := ⟨_, rfl⟩
  rw [hoc]
  obtain ⟨rk, ra, rb, rt⟩ := r
  unfold litF
  unfold Raw.cs at *
  have hv2 : K = 2 → v.k = 2 ∧ v.b = 0 ∧ v.t = .empty := fun h2 => by
    have hk2 : v.k = 2 := by rw [hvk, h2]; rfl
    cases hv with
    | int m => exact ⟨rfl, rfl, rfl⟩
    | null => exact absurd hk2 (by decide)
    | bool m hm => exact absurd hk2 (by show ¬ (1 : Int) = 2; decide)
    | real b h1 h2 h3 => exact absurd hk2 (by show ¬ (3 : Int) = 2; decide)
    | text t h1 h2 => exact absurd hk2 (by show ¬ (4 : Int) = 2; decide)
  clear hv hvk
  obtain ⟨vk, vn, vb, vt⟩ := v
  unfold Vl.cs at *
  dsimp only at *
  refine pxf_of_aw Tryd.func64 rfl (by kernel_rfl) mixed (by kernel_rfl) (by rw [Tryd.ntmps64]; exact Nat.le_of_ble_eq_true rfl) Tryd.results64 rfl ?_
  repeat (first | (with_reducible first | apply aw_seq | apply aw_reg | apply rp_nil | apply ae_norm | apply aw_block) | ((with_reducible apply rp); first | ((with_reducible apply does_move); (conv => lhs; whnf)) | ((with_reducible apply does_fieldAddr); exact tyOk rfl; exact rfl; exact rfl; decide; exact rfl) | ((with_reducible apply does_load_var); exact tyOk rfl; exact rfl; exact rfl; exact rfl; exact rfl) | ((with_reducible apply does_len_map); exact tyOk rfl; exact rfl; exact rfl) | ((with_reducible apply does_nilCheck); exact rfl)) | ((with_reducible apply rp1); first | ((with_reducible apply does_box_ag); exact rfl; exact rfl) | ((with_reducible apply does_alloc); exact tyOk rfl; exact rfl)))
  refine aw_loop (fun m s => ∃ k, k ≤ cols.length ∧ m = cols.length - k ∧ leafC K ra k (cols.drop k) = oc ∧ s = ⟨[(0, .px 1000 0), (1, .d (iD K)), (5, .px 5 0), (6, .px 6 0), (13, .d (colsD cols)), (14, .d (iD cols.length)), (15, .d (iD k))], [(5, .var 40 [.d (iD rk), .d (iD ra), .d (iD rb), .d (strD rt)]), (6, .var 53 [.d (iD 0), .d (iD 0), .d (iD 0), .d (qD 0), .d (strD .empty), .d (strD .empty), .d .nl]), (1000, .var 83 [.d (rawsD l), .d (iD n), .d (colsD cols)])]⟩) _ _ ?_ ⟨0, by omega, rfl, hoc, rfl⟩ ?_
  · refine forget_of [] (by repeat' (first | exact ks_nil | (refine ks_cons rfl (by exact SubA.refl _) ?_))) (by repeat' (first | exact trivial | exact rfl | refine And.intro ?_ ?_)) rfl (by repeat' (first | exact trivial | exact inB_px rfl | refine And.intro ?_ ?_)) (by repeat' (first | exact trivial | exact inB_px rfl | refine And.intro ?_ ?_))
  · clear hoc
    rintro m s ⟨k, hk, rfl, hoc, rfl⟩
    repeat (first | (with_reducible first | apply aw_seq | apply aw_reg | apply rp_nil | apply ae_norm) | ((with_reducible apply rp); ((with_reducible apply does_lt); exact rfl; exact rfl)))
    refine aw_cond rfl (fun hd => ?_) (fun hd => ?_)
    · have hlt : k < cols.length := by simp at hd; omega
      clear hd
      obtain ⟨c, hc⟩ : ∃ c, cols[k]? = some c := ⟨_, List.getElem?_eq_getElem hlt⟩
      have hc2 : (cols.map Cl.cs)[k]? = some c.cs := by rw [List.getElem?_map, hc]; rfl
      rw [leafC_drop hc] at hoc
      have pk := picked_pc ra (2 + k) (by omega) (by omega)
      obtain ⟨cn, ck, cb⟩ := c
      unfold Cl.cs at hc2
      dsimp only at *
      clear pv p9 p4 p20
      repeat (first | (with_reducible first | apply aw_seq | apply aw_reg | apply rp_nil | apply ae_norm | apply aw_block | apply aw_skip) | ((first | (with_reducible apply rp) | ((with_reducible apply rpG); exact rfl; exact gval_t rfl; (focus repeat' (first | exact trivial | exact fun h => h | refine And.intro ?_ ?_)); intro hgd; have hgd0 := hgd; (try simp only [decide_eq_true_eq, Bool.and_eq_true, Bool.not_eq_true', beq_iff_eq] at hgd))); first | ((with_reducible apply does_call_flat); exact rfl; exact rfl; exact (pk); exact rfl) | (exact does_add_to (z := ((2 + k : Nat) : Int)) rfl rfl (by omega) (by omega) (by omega)) | ((with_reducible apply does_move); (conv => lhs; whnf)) | ((with_reducible apply does_assign); (conv => lhs; whnf)) | ((with_reducible apply does_and); exact rfl; exact rfl; exact rfl; exact fun h => h) | ((with_reducible apply does_fieldAddr); exact tyOk rfl; exact rfl; exact rfl; decide; exact rfl) | ((with_reducible apply does_load_var); exact tyOk rfl; exact rfl; exact rfl; exact rfl; exact rfl) | ((with_reducible apply does_load_elem_whole); exact tyOk rfl; exact rfl; exact rfl; assumption; exact rfl) | ((with_reducible apply does_index_sl); exact tyOk rfl; exact rfl; exact tyOk rfl; exact rfl; exact rfl; exact rfl; exact rfl; (simp only [List.length_map, List.length_append, List.length_cons, List.length_nil] at *; omega)) | ((with_reducible apply does_eq); exact rfl; exact rfl)) | ((with_reducible apply rp1); ((with_reducible apply does_alloc); exact tyOk rfl; exact rfl)) | ((with_reducible apply rpN); ((with_reducible apply does_store_whole); exact tyOk rfl; exact rfl; exact rfl; exact rfl; exact rfl; exact rfl)))
      refine aw_cond rfl (fun hd => ?_) (fun hd => ?_)
      · have hd2 : ck = K ∧ ra % ((2 + k : Nat) : Int) = 0 := by
          simp only [Bool.and_eq_true, beq_iff_eq] at hd
          exact ⟨by omega, hd.2⟩
        rw [if_pos hd2] at hoc
        subst hoc
        repeat (first | (with_reducible first | apply aw_seq | apply aw_reg | apply rp_nil | apply ae_norm | apply aw_ret | apply ae_ret | apply be_ret | apply xf_ret) | ((with_reducible apply rp); first | ((with_reducible apply does_fieldAddr); exact tyOk rfl; exact rfl; exact rfl; decide; exact rfl) | ((with_reducible apply does_load_var); exact tyOk rfl; exact rfl; exact rfl; exact rfl; exact rfl) | ((with_reducible apply does_build); exact tyOk rfl; exact rfl; exact rfl; (focus repeat' (first | exact rfl | refine ⟨_, _, rfl, rfl, Nat.le_of_ble_eq_true rfl, rfl, ?_⟩)); exact rfl)) | ((with_reducible apply rpN); ((with_reducible apply does_store_whole); exact tyOk rfl; exact rfl; exact rfl; exact rfl; exact rfl; exact rfl)))
        (with_reducible apply retxf_ok (l := [])); (focus (repeat' (first | (with_reducible apply rv_nil) | (with_reducible apply rv_cons) | ((with_reducible apply rv_rowd); exact rfl; exact rfl; exact tyOk rfl; exact rfl; exact rfl)))); exact rfl; exact nil_sub _; refine ⟨(by repeat' (first | exact ks_nil | (refine ks_cons rfl (by exact SubA.refl _) ?_))), (by repeat' (first | exact trivial | exact rfl | refine And.intro ?_ ?_)), rfl, (by repeat' (first | exact trivial | exact inB_px rfl | refine And.intro ?_ ?_)), (by repeat' (first | exact trivial | exact inB_px rfl | refine And.intro ?_ ?_))⟩
      · have hd2 : ¬ (ck = K ∧ ra % ((2 + k : Nat) : Int) = 0) := by
          rintro ⟨h1, h2⟩
          rw [h1, h2] at hd
          simp at hd
        rw [if_neg hd2] at hoc
        repeat (first | (with_reducible first | apply aw_reg | apply rp_nil | apply ae_norm | apply be_norm | apply aw_skip) | ((with_reducible apply rp); first | ((with_reducible apply does_move); (conv => lhs; whnf)) | ((with_reducible apply does_add); exact rfl; exact rfl; omega; omega)))
        refine ⟨_, _, ?_, ?_, k + 1, by omega, rfl, hoc, rfl⟩
        · omega
        · refine forget_of [] (by repeat' (first | exact ks_nil | (refine ks_cons rfl (by exact SubA.refl _) ?_))) (by repeat' (first | exact trivial | exact rfl | refine And.intro ?_ ?_)) rfl (by repeat' (first | exact trivial | exact inB_px rfl | refine And.intro ?_ ?_)) (by repeat' (first | exact trivial | exact inB_px rfl | refine And.intro ?_ ?_))
    · have hke : k = cols.length := by simp at hd; omega
      clear hd
      subst hke
      rw [List.drop_length] at hoc
      have hoc : none = oc := hoc
      subst hoc
      dsimp only
      repeat (first | (with_reducible first | apply aw_seq | apply aw_reg | apply rp_nil | apply ae_norm | apply aw_block | apply aw_exit | apply ae_exit | apply be_exit) | ((with_reducible apply rp); first | ((with_reducible apply does_call_flat); exact rfl; exact rfl; exact (pv); exact rfl) | ((with_reducible apply does_call_flat); exact rfl; exact rfl; exact (p9); exact rfl) | ((with_reducible apply does_move); (conv => lhs; whnf)) | ((with_reducible apply does_assign); (conv => lhs; whnf)) | ((with_reducible apply does_fieldAddr); exact tyOk rfl; exact rfl; exact rfl; decide; exact rfl) | ((with_reducible apply does_load_var); exact tyOk rfl; exact rfl; exact rfl; exact rfl; exact rfl) | ((with_reducible apply does_load_row); exact tyOk rfl; exact rfl; exact rfl; exact rfl; exact Nat.le_of_ble_eq_true rfl; exact rfl) | ((with_reducible apply does_eq); exact rfl; exact rfl)) | ((with_reducible apply rp1); ((with_reducible apply does_alloc); exact tyOk rfl; exact rfl)) | ((with_reducible apply rpN); ((with_reducible apply does_store_whole); exact tyOk rfl; exact rfl; exact rfl; exact rfl; exact rfl; exact rfl)))
      refine aw_cond rfl (fun hd => ?_) (fun hd => ?_)
      · have h9 : rb % 9 = 0 := by simpa using hd
        rw [if_pos h9]
        repeat (first | (with_reducible first | apply aw_seq | apply aw_reg | apply rp_nil | apply ae_norm | apply be_norm | apply aw_ret | apply xf_ret) | ((with_reducible apply rp); first | ((with_reducible apply does_load_row); exact tyOk rfl; exact rfl; exact rfl; exact rfl; exact Nat.le_of_ble_eq_true rfl; exact rfl) | ((with_reducible apply does_zeroS); exact tyOk rfl; exact rfl; exact rfl) | ((with_reducible apply does_build); exact tyOk rfl; exact rfl; exact rfl; (focus repeat' (first | exact rfl | refine ⟨_, _, rfl, rfl, Nat.le_of_ble_eq_true rfl, rfl, ?_⟩)); exact rfl)) | ((with_reducible apply rpN); ((with_reducible apply does_store_whole); exact tyOk rfl; exact rfl; exact rfl; exact rfl; exact rfl; exact rfl)))
        (with_reducible apply retxf_ok (l := [])); (focus (repeat' (first | (with_reducible apply rv_nil) | (with_reducible apply rv_cons) | ((with_reducible apply rv_rowd); exact rfl; exact rfl; exact tyOk rfl; exact rfl; exact rfl)))); exact rfl; exact nil_sub _; refine ⟨(by repeat' (first | exact ks_nil | (refine ks_cons rfl (by exact SubA.refl _) ?_))), (by repeat' (first | exact trivial | exact rfl | refine And.intro ?_ ?_)), rfl, (by repeat' (first | exact trivial | exact inB_px rfl | refine And.intro ?_ ?_)), (by repeat' (first | exact trivial | exact inB_px rfl | refine And.intro ?_ ?_))⟩
      · have h9 : ¬ rb % 9 = 0 := by simpa using hd
        rw [if_neg h9]
        repeat (first | (with_reducible first | apply aw_seq | apply aw_reg | apply rp_nil | apply ae_norm) | ((first | (with_reducible apply rp) | ((with_reducible apply rpG); exact rfl; exact gval_t rfl; (focus repeat' (first | exact trivial | exact fun h => h | refine And.intro ?_ ?_)); intro hgd; have hgd0 := hgd; (try simp only [decide_eq_true_eq, Bool.and_eq_true, Bool.not_eq_true', beq_iff_eq] at hgd))); first | ((with_reducible apply does_call_flat); exact rfl; exact rfl; exact (p4); exact rfl) | ((with_reducible apply does_move); (conv => lhs; whnf)) | ((with_reducible apply does_assign); (conv => lhs; whnf)) | ((with_reducible apply does_and); exact rfl; exact rfl; exact rfl; exact fun h => h) | ((with_reducible apply does_fieldAddr); exact tyOk rfl; exact rfl; exact rfl; decide; exact rfl) | ((with_reducible apply does_load_var); exact tyOk rfl; exact rfl; exact rfl; exact rfl; exact rfl) | ((with_reducible apply does_eq); exact rfl; exact rfl)))
        refine aw_cond rfl (fun hd => ?_) (fun hd => ?_)
        · have h4 : K = 2 ∧ rb % 4 = 0 := by
            simp only [Bool.and_eq_true, beq_iff_eq] at hd
            exact ⟨by omega, hd.2⟩
          rw [if_pos h4]
          obtain ⟨q1, q2, q3⟩ := hv2 h4.1
          subst q1 q2 q3
          repeat (first | (with_reducible first | apply aw_seq | apply aw_reg | apply rp_nil | apply ae_norm | apply be_norm | apply aw_ret | apply xf_ret) | ((with_reducible apply rp); first | ((with_reducible apply does_fieldAddr); exact tyOk rfl; exact rfl; exact rfl; decide; exact rfl) | ((with_reducible apply does_load_var); exact tyOk rfl; exact rfl; exact rfl; exact rfl; exact rfl) | ((with_reducible apply does_load_row); exact tyOk rfl; exact rfl; exact rfl; exact rfl; exact Nat.le_of_ble_eq_true rfl; exact rfl) | ((with_reducible apply does_band); exact rfl; exact rfl) | ((with_reducible apply does_build); exact tyOk rfl; exact rfl; exact rfl; (focus repeat' (first | exact rfl | refine ⟨_, _, rfl, rfl, Nat.le_of_ble_eq_true rfl, rfl, ?_⟩)); exact rfl)) | ((with_reducible apply rpN); first | ((with_reducible apply does_store); exact tyOk rfl; exact rfl; exact rfl; (conv => lhs; whnf); exact rfl; exact rfl; exact Nat.le_of_ble_eq_true rfl) | ((with_reducible apply does_store_whole); exact tyOk rfl; exact rfl; exact rfl; exact rfl; exact rfl; exact rfl)))
          (with_reducible apply retxf_ok (l := [])); (focus (repeat' (first | (with_reducible apply rv_nil) | (with_reducible apply rv_cons) | ((with_reducible apply rv_rowd); exact rfl; exact rfl; exact tyOk rfl; exact rfl; exact rfl)))); exact rfl; exact nil_sub _; refine ⟨(by repeat' (first | exact ks_nil | (refine ks_cons rfl (by exact SubA.refl _) ?_))), (by repeat' (first | exact trivial | exact rfl | refine And.intro ?_ ?_)), rfl, (by repeat' (first | exact trivial | exact inB_px rfl | refine And.intro ?_ ?_)), (by repeat' (first | exact trivial | exact inB_px rfl | refine And.intro ?_ ?_))⟩
        · have h4 : ¬ (K = 2 ∧ rb % 4 = 0) := by
            rintro ⟨h1, h2⟩
            have h2 : rb % ((4 : Nat) : Int) = 0 := h2
            rw [h1, h2] at hd
            simp at hd
          rw [if_neg h4]
          repeat (first | (with_reducible first | apply aw_seq | apply aw_reg | apply rp_nil | apply ae_norm) | ((with_reducible apply rp); first | ((with_reducible apply does_move); (conv => lhs; whnf)) | ((with_reducible apply does_assign); (conv => lhs; whnf)) | ((with_reducible apply does_eq); exact rfl; exact rfl)))
          refine aw_cond rfl (fun hd => ?_) (fun hd => ?_)
          · have h2 : K = 2 := by simp at hd; omega
            rw [if_pos h2]
            obtain ⟨q1, q2, q3⟩ := hv2 h2
            subst q1 q2 q3
            repeat (first | (with_reducible first | apply aw_seq | apply aw_reg | apply rp_nil | apply ae_norm | apply be_norm | apply aw_ret | apply xf_ret) | ((with_reducible apply rp); first | ((with_reducible apply does_call_flat); exact rfl; exact rfl; exact (p20); exact rfl) | ((with_reducible apply does_fieldAddr); exact tyOk rfl; exact rfl; exact rfl; decide; exact rfl) | ((with_reducible apply does_load_var); exact tyOk rfl; exact rfl; exact rfl; exact rfl; exact rfl) | ((with_reducible apply does_load_row); exact tyOk rfl; exact rfl; exact rfl; exact rfl; exact Nat.le_of_ble_eq_true rfl; exact rfl) | ((with_reducible apply does_build); exact tyOk rfl; exact rfl; exact rfl; (focus repeat' (first | exact rfl | refine ⟨_, _, rfl, rfl, Nat.le_of_ble_eq_true rfl, rfl, ?_⟩)); exact rfl)) | ((with_reducible apply rpN); first | ((with_reducible apply does_store); exact tyOk rfl; exact rfl; exact rfl; (conv => lhs; whnf); exact rfl; exact rfl; exact Nat.le_of_ble_eq_true rfl) | ((with_reducible apply does_store_whole); exact tyOk rfl; exact rfl; exact rfl; exact rfl; exact rfl; exact rfl)))
            (with_reducible apply retxf_ok (l := [])); (focus (repeat' (first | (with_reducible apply rv_nil) | (with_reducible apply rv_cons) | ((with_reducible apply rv_rowd); exact rfl; exact rfl; exact tyOk rfl; exact rfl; exact rfl)))); exact rfl; exact nil_sub _; refine ⟨(by repeat' (first | exact ks_nil | (refine ks_cons rfl (by exact SubA.refl _) ?_))), (by repeat' (first | exact trivial | exact rfl | refine And.intro ?_ ?_)), rfl, (by repeat' (first | exact trivial | exact inB_px rfl | refine And.intro ?_ ?_)), (by repeat' (first | exact trivial | exact inB_px rfl | refine And.intro ?_ ?_))⟩
          · have h2 : ¬ K = 2 := by simp at hd; omega
            rw [if_neg h2]
            repeat (first | (with_reducible first | apply aw_seq | apply aw_reg | apply rp_nil | apply ae_norm | apply be_norm | apply aw_ret | apply xf_ret | apply aw_skip) | ((with_reducible apply rp); first | ((with_reducible apply does_load_row); exact tyOk rfl; exact rfl; exact rfl; exact rfl; exact Nat.le_of_ble_eq_true rfl; exact rfl) | ((with_reducible apply does_build); exact tyOk rfl; exact rfl; exact rfl; (focus repeat' (first | exact rfl | refine ⟨_, _, rfl, rfl, Nat.le_of_ble_eq_true rfl, rfl, ?_⟩)); exact rfl)) | ((with_reducible apply rpN); ((with_reducible apply does_store_whole); exact tyOk rfl; exact rfl; exact rfl; exact rfl; exact rfl; exact rfl)))
            (with_reducible apply retxf_ok (l := [])); (focus (repeat' (first | (with_reducible apply rv_nil) | (with_reducible apply rv_cons) | ((with_reducible apply rv_rowd); exact rfl; exact rfl; exact tyOk rfl; exact rfl; exact rfl)))); exact rfl; exact nil_sub _; refine ⟨(by repeat' (first | exact ks_nil | (refine ks_cons rfl (by exact SubA.refl _) ?_))), (by repeat' (first | exact trivial | exact rfl | refine And.intro ?_ ?_)), rfl, (by repeat' (first | exact trivial | exact inB_px rfl | refine And.intro ?_ ?_)), (by repeat' (first | exact trivial | exact inB_px rfl | refine And.intro ?_ ?_))⟩
end Go.Proofs.YtlpnnnmdkglkcaaDoor

