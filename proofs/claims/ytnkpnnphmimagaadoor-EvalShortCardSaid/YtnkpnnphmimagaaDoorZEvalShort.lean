/-
  EvalShort: what can't matter is not looked at, be it what it may. No condition.
-/
import Derived.Test.YtnkpnnphmimagaaDoorZEvalMorgan
namespace Go.Proofs.YtnkpnnphmimagaaDoor
set_option linter.unusedSimpArgs false
set_option linter.unusedVariables false
open Go.RowKit
open Go.Lib

abbrev noV : Vl := ⟨1, 0, 0, .empty⟩
abbrev yesV : Vl := ⟨1, 1, 0, .empty⟩
abbrev zeroX : Ex := .bi 9 (.bi 8 (.lit (numV 1)) (.lit (numV 0))) (.lit (numV 1))
theorem ev_short {cols : List Cl} {row : List Vl} {op : Nat} {v : Vl} (x : Ex) (h : shortB op v = true) : evF cols row (.bi op (.lit v) x) = ⟨v, 0⟩ := by
  rw [evF, evF]
  show (if (0 : Nat) = 0 then (if shortB op v = true then _ else _) else _) = _
  rw [if_pos rfl, if_pos h]
theorem zeroX_ev (cols : List Cl) (row : List Vl) : evF cols row zeroX = .bad 7 := rfl
theorem yes_ev {cols : List Cl} {row : List Vl} {x : Ex} {e : Nat} (h : evF cols row x = .bad e) (he : e ≠ 0) : evF cols row (.bi 15 (.lit yesV) x) = .bad e := by
  rw [evF, evF, h]
  show (if (0 : Nat) = 0 then (if shortB 15 yesV = true then _ else (if e = 0 then _ else Tv.bad e)) else _) = _
  rw [if_pos rfl, if_neg (by decide), if_neg he]
set_option maxHeartbeats 4000000 in
/-- The rest of it, whatever is looked at or not. -/
theorem short_rest (l : List Raw) (key : Int) (bad : Bool) : PC Tryd.prog 10 [rawsD l, iD key, bD bad] (bD true) := by
  have hc : ColsOk (colsH l) := colsF_ok _
  have hl4 := colsH_l4 l
  have g1 := heapOf_pg l
  obtain ⟨x, n1, hx, _, hn1, p1⟩ := expr_pc (l.take 40) (colsH l) (by omega) 2 1 0 (by omega) (by omega) (by omega) (by decide)
  have hn1 : n1 + 1 ≤ 0 + 8 := hn1
  have rw1 := row_px (l.take 40) n1 (colsH l) (by omega) (fun c h => (hc.kind c h).2) key (by omega)
  have hr := rowF_fit (l.take 40) n1 key hc (colsF_0 _)
  have okx := hx.ok hc.name
  have dx := hx.deep
  have nx : x.num + 1 ≤ 8 := hx.num
  have okz : zeroX.ok := ⟨by unfold bi2; omega, ⟨by unfold bi2; omega, ⟨.int 1, by decide⟩, .int 0, by decide⟩, .int 1, by decide⟩
  have okn : (Ex.lit noV).ok := ⟨.bool 0 (.inl rfl), by decide⟩
  have oky : (Ex.lit yesV).ok := ⟨.bool 1 (.inr rfl), by decide⟩
  have u1 := number_pc 1
  have u0 := number_pc 0
  have z1 := op2_pc 8 (.lit (numV 1)) (.lit (numV 0))
  have z2 := op2_pc 9 (.bi 8 (.lit (numV 1)) (.lit (numV 0))) (.lit (numV 1))
  have tl : ∀ y : Ex, PC Tryd.prog 19 [iD 15, .ag [iD 1, iD 1, iD 0, qD 0, strD .empty, strD .empty, .nl], .ag y.cs] (.ag (Ex.bi 15 (.lit noV) y).cs) ∧
      PC Tryd.prog 19 [iD 16, .ag [iD 1, iD 1, iD 1, qD 0, strD .empty, strD .empty, .nl], .ag y.cs] (.ag (Ex.bi 16 (.lit yesV) y).cs) ∧
      PC Tryd.prog 19 [iD 15, .ag [iD 1, iD 1, iD 1, qD 0, strD .empty, strD .empty, .nl], .ag y.cs] (.ag (Ex.bi 15 (.lit yesV) y).cs) := fun y =>
    ⟨(op2_pc 15 (.lit noV) y).args (SubDs.cons (SubD.refl _) (fun h => h) (SubDs.cons (nil_sub (iD 1)) (fun h => h) (SubDs.cons (SubD.refl _) (fun h => h) SubDs.nil))),
     (op2_pc 16 (.lit yesV) y).args (SubDs.cons (SubD.refl _) (fun h => h) (SubDs.cons (nil_sub (iD 1)) (fun h => h) (SubDs.cons (SubD.refl _) (fun h => h) SubDs.nil))),
     (op2_pc 15 (.lit yesV) y).args (SubDs.cons (SubD.refl _) (fun h => h) (SubDs.cons (nil_sub (iD 1)) (fun h => h) (SubDs.cons (SubD.refl _) (fun h => h) SubDs.nil)))⟩
  have ev := fun (op : Nat) (v : Vl) (y : Ex) (hop : bi2 op) (hv : (Ex.lit v).ok) (hy : y.ok) (hd : y.deep ≤ 6) (hn : y.num ≤ 38) => evalX_pc (colsH l) hc _ hr (.bi op (.lit v) y) ⟨hop, hv, hy⟩ (by simp only [Ex.deep]; omega) (by simp only [Ex.num]; omega)
  have hcc : colsF (l.take (l.length % 4)) = colsH l := rfl
  rw [hcc] at g1
  unfold hpB at *
  cases bad with
  | true =>
    obtain ⟨q1, q2, q3⟩ := tl zeroX
    have e1 := ev 15 noV zeroX (by unfold bi2; omega) okn okz (by decide) (by decide)
    have e2 := ev 16 yesV zeroX (by unfold bi2; omega) oky okz (by decide) (by decide)
    have e3 := ev 15 yesV zeroX (by unfold bi2; omega) oky okz (by decide) (by decide)
    rw [ev_short _ rfl] at e1 e2
    rw [yes_ev (zeroX_ev _ _) (by decide)] at e3
    clear hx hc okx dx nx hr okz okn oky tl ev hcc
    generalize colsH l = cols at *
    generalize rowF (l.take 40) n1 key 0 cols = row at *
    unfold tvD Vl.cs at *
    dsimp only at *
    generalize (Ex.bi 15 (.lit noV) zeroX).cs = c1 at *
    generalize (Ex.bi 16 (.lit yesV) zeroX).cs = c2 at *
    generalize (Ex.bi 15 (.lit yesV) zeroX).cs = c3 at *
    have hzl := zeroX.cs_eq
    have hml := (Ex.bi 8 (.lit (numV 1)) (.lit (numV 0))).cs_eq
    have hul := (Ex.lit (numV 1)).cs_eq
    have hvl := (Ex.lit (numV 0)).cs_eq
    generalize zeroX.cs = c4 at *
    generalize (Ex.bi 8 (.lit (numV 1)) (.lit (numV 0))).cs = c5 at *
    generalize (Ex.lit (numV 1)).cs = c6 at *
    generalize (Ex.lit (numV 0)).cs = c7 at *
    clear hml hul hvl
    subst hzl
    have hxl := x.cs_eq
    generalize x.cs = c at *
    subst hxl
    refine pc_of_aw Tryd.func10 rfl (by kernel_rfl) mixed (by kernel_rfl) (by rw [Tryd.ntmps10]; exact Nat.le_of_ble_eq_true rfl) Tryd.results10 ?_
    repeat (first | (with_reducible first | apply aw_seq | apply aw_reg | apply rp_nil | apply ae_norm | apply aw_regD | apply aw_ret | apply re_ret) | ((with_reducible apply dr_nil); (first | kernel_rfl | exact rfl)) | ((first | (with_reducible first | apply rp | apply dr) | ((with_reducible apply rpG); exact rfl; (first | exact gval_t rfl | exact gval_gf rfl); (focus repeat' (first | exact trivial | exact fun h => h | refine And.intro ?_ ?_ | (intro h; (rw [h]; rfl)))); intro hgd; have hgd0 := hgd; (try simp only [decide_eq_true_eq, Bool.and_eq_true, Bool.not_eq_true', beq_iff_eq] at hgd))); first | ((with_reducible apply does_call'); exact rfl; exact rfl; exact rfl; exact (u1)) | ((with_reducible apply does_call'); exact rfl; exact rfl; exact rfl; exact (u0)) | ((with_reducible apply does_call'); exact rfl; exact rfl; exact rfl; exact (z1)) | ((with_reducible apply does_call'); exact rfl; exact rfl; exact rfl; exact (z2)) | ((with_reducible apply does_call'); exact rfl; exact rfl; exact rfl; exact (q1)) | ((with_reducible apply does_call'); exact rfl; exact rfl; exact rfl; exact (q2)) | ((with_reducible apply does_call'); exact rfl; exact rfl; exact rfl; exact (q3)) | ((with_reducible apply does_call_flat); exact rfl; exact rfl; exact (e1); exact rfl) | ((with_reducible apply does_call_flat); exact rfl; exact rfl; exact (e2); exact rfl) | ((with_reducible apply does_call_flat); exact rfl; exact rfl; exact (e3); exact rfl) | ((with_reducible apply does_move); (conv => lhs; whnf)) | ((with_reducible apply does_assign); (conv => lhs; whnf)) | ((with_reducible apply does_and); exact rfl; exact rfl; exact rfl; (first | exact trivial | exact fun h => h)) | ((with_reducible apply does_or); exact rfl; exact rfl; exact rfl; (first | exact trivial | exact fun h => h)) | ((with_reducible apply does_fieldAddr); exact tyOk rfl; exact rfl; exact rfl; decide; exact rfl) | ((with_reducible apply does_load_var); exact tyOk rfl; exact rfl; exact rfl; exact rfl; exact rfl) | ((with_reducible apply does_load_row); exact tyOk rfl; exact rfl; exact rfl; exact rfl; exact Nat.le_of_ble_eq_true rfl; exact rfl) | ((with_reducible apply does_eq); exact rfl; exact rfl) | ((with_reducible apply does_eqS); exact rfl; exact rfl; exact tgOk rfl; exact rfl) | ((with_reducible apply does_not); exact rfl) | ((with_reducible apply does_extract); exact rfl; exact rfl) | ((with_reducible apply does_build); exact tyOk rfl; exact rfl; exact rfl; (focus repeat' (first | exact rfl | refine ⟨_, _, rfl, rfl, Nat.le_of_ble_eq_true rfl, rfl, ?_⟩)); exact rfl) | ((with_reducible apply does_nilCheck); exact rfl)) | ((with_reducible first | apply rp1 | apply dr1); ((with_reducible apply does_alloc); exact tyOk rfl; exact rfl)) | ((with_reducible first | apply rpN | apply drN); ((with_reducible apply does_store_whole); exact tyOk rfl; exact rfl; exact rfl; exact rfl; exact rfl; exact rfl)) | ((with_reducible apply rpL); (refine does_callG' [] [(2000, 19)] (ups := [(19, .var 80 [.d (rawsD (l.take 40)), .d (iD 0), .d (colsD cols)])]) (v := (.px 19 0)) rfl (g1) rfl ?_ rfl ?_ ?_ rfl rfl rfl rfl rfl ?_ ?_ rfl rfl rfl; (focus repeat' (first | exact trivial | exact rfl | refine And.intro ?_ ?_)); (focus repeat' (first | exact trivial | exact inB_px rfl | refine And.intro ?_ ?_)); (focus repeat' (first | exact trivial | exact inB_px rfl | refine And.intro ?_ ?_)); (focus repeat' (first | exact trivial | exact inB_px rfl | refine And.intro ?_ ?_)); (focus repeat' (first | exact trivial | exact inB_px rfl | refine And.intro ?_ ?_))); exact lapp_nil _) | ((with_reducible apply rpL); (refine does_callX [(1000, 19)] [(1000, 19)] (ups := [(19, .var 80 [.d (rawsD (l.take 40)), .d (iD n1), .d (colsD cols)])]) rfl (p1) rfl ?_ rfl ?_ ?_ rfl rfl rfl rfl rfl ?_ rfl rfl; (focus repeat' (first | exact trivial | exact rfl | refine And.intro ?_ ?_)); (focus repeat' (first | exact trivial | exact inB_px rfl | refine And.intro ?_ ?_)); (focus repeat' (first | exact trivial | exact inB_px rfl | refine And.intro ?_ ?_)); (focus repeat' (first | exact trivial | exact inB_px rfl | refine And.intro ?_ ?_))); exact lapp_nil _) | ((with_reducible apply rpL); (refine does_callX [(1000, 19)] [(1000, 19)] (ups := [(19, .var 80 [.d (rawsD (l.take 40)), .d (iD ((n1 + cols.length : Nat))), .d (colsD cols)])]) rfl (rw1) rfl ?_ rfl ?_ ?_ rfl rfl rfl rfl rfl ?_ rfl rfl; (focus repeat' (first | exact trivial | exact rfl | refine And.intro ?_ ?_)); (focus repeat' (first | exact trivial | exact inB_px rfl | refine And.intro ?_ ?_)); (focus repeat' (first | exact trivial | exact inB_px rfl | refine And.intro ?_ ?_)); (focus repeat' (first | exact trivial | exact inB_px rfl | refine And.intro ?_ ?_))); exact lapp_nil _) | ((with_reducible apply aw_cond); exact rfl; rotate_left; (focus (intro hd; (cases hd; done))); (intro hd; clear hd)))
    (with_reducible apply ret_ok); (focus (repeat' (first | (with_reducible apply rv_nil) | (with_reducible apply rv_cons) | ((with_reducible apply rv_tmp); exact rfl)))); exact rfl; refine SubD.of_eq ?_
    refine congrArg bD (a₂ := true) ?_
    simp
  | false =>
    obtain ⟨q1, q2, q3⟩ := tl x
    have e1 := ev 15 noV x (by unfold bi2; omega) okn okx (by omega) (by omega)
    have e2 := ev 16 yesV x (by unfold bi2; omega) oky okx (by omega) (by omega)
    have e3 := ev 15 yesV x (by unfold bi2; omega) oky okx (by omega) (by omega)
    rw [ev_short _ rfl] at e1 e2
    clear hx hc okx dx nx hr okz okn oky tl ev hcc
    generalize colsH l = cols at *
    generalize rowF (l.take 40) n1 key 0 cols = row at *
    generalize evF cols row _ = t at *
    obtain ⟨⟨tk, tn, tb, tt⟩, te⟩ := t
    unfold tvD Vl.cs at *
    dsimp only at *
    generalize (Ex.bi 15 (.lit noV) x).cs = c1 at *
    generalize (Ex.bi 16 (.lit yesV) x).cs = c2 at *
    generalize (Ex.bi 15 (.lit yesV) x).cs = c3 at *
    clear u1 u0 z1 z2
    have hxl := x.cs_eq
    generalize x.cs = c at *
    subst hxl
    refine pc_of_aw Tryd.func10 rfl (by kernel_rfl) mixed (by kernel_rfl) (by rw [Tryd.ntmps10]; exact Nat.le_of_ble_eq_true rfl) Tryd.results10 ?_
    repeat (first | (with_reducible first | apply aw_seq | apply aw_reg | apply rp_nil | apply ae_norm | apply aw_regD | apply aw_ret | apply re_ret | apply aw_skip) | ((with_reducible apply dr_nil); (first | kernel_rfl | exact rfl)) | ((first | (with_reducible first | apply rp | apply dr) | ((with_reducible apply rpG); exact rfl; (first | exact gval_t rfl | exact gval_gf rfl); (focus repeat' (first | exact trivial | exact fun h => h | refine And.intro ?_ ?_ | (intro h; simp_all))); intro hgd; have hgd0 := hgd; (try simp only [decide_eq_true_eq, Bool.and_eq_true, Bool.not_eq_true', beq_iff_eq] at hgd))); first | ((with_reducible apply does_call'); exact rfl; exact rfl; exact rfl; exact (q1)) | ((with_reducible apply does_call'); exact rfl; exact rfl; exact rfl; exact (q2)) | ((with_reducible apply does_call'); exact rfl; exact rfl; exact rfl; exact (q3)) | ((with_reducible apply does_call_flat); exact rfl; exact rfl; exact (e1); exact rfl) | ((with_reducible apply does_call_flat); exact rfl; exact rfl; exact (e2); exact rfl) | ((with_reducible apply does_call_flat); exact rfl; exact rfl; exact (e3); exact rfl) | ((with_reducible apply does_move); (conv => lhs; whnf)) | ((with_reducible apply does_assign); (conv => lhs; whnf)) | ((with_reducible apply does_and); exact rfl; exact rfl; exact rfl; (first | exact fun h => h | (intro h; (rw [hgd0, h]; rfl)))) | ((with_reducible apply does_or); exact rfl; exact rfl; exact rfl; (first | exact fun h => h | (intro h; (rw [hgd0, h]; rfl)))) | ((with_reducible apply does_fieldAddr); exact tyOk rfl; exact rfl; exact rfl; decide; exact rfl) | ((with_reducible apply does_load_var); exact tyOk rfl; exact rfl; exact rfl; exact rfl; exact rfl) | ((with_reducible apply does_load_row); exact tyOk rfl; exact rfl; exact rfl; exact rfl; exact Nat.le_of_ble_eq_true rfl; exact rfl) | ((with_reducible apply does_eq); exact rfl; exact rfl) | ((with_reducible apply does_eqS); exact rfl; exact rfl; exact tgOk rfl; exact rfl) | ((with_reducible apply does_not); exact rfl) | ((with_reducible apply does_extract); exact rfl; exact rfl) | ((with_reducible apply does_build); exact tyOk rfl; exact rfl; exact rfl; (focus repeat' (first | exact rfl | refine ⟨_, _, rfl, rfl, Nat.le_of_ble_eq_true rfl, rfl, ?_⟩)); exact rfl) | ((with_reducible apply does_nilCheck); exact rfl)) | ((with_reducible first | apply rp1 | apply dr1); ((with_reducible apply does_alloc); exact tyOk rfl; exact rfl)) | ((with_reducible first | apply rpN | apply drN); ((with_reducible apply does_store_whole); exact tyOk rfl; exact rfl; exact rfl; exact rfl; exact rfl; exact rfl)) | ((with_reducible apply rpL); (refine does_callG' [] [(2000, 19)] (ups := [(19, .var 80 [.d (rawsD (l.take 40)), .d (iD 0), .d (colsD cols)])]) (v := (.px 19 0)) rfl (g1) rfl ?_ rfl ?_ ?_ rfl rfl rfl rfl rfl ?_ ?_ rfl rfl rfl; (focus repeat' (first | exact trivial | exact rfl | refine And.intro ?_ ?_)); (focus repeat' (first | exact trivial | exact inB_px rfl | refine And.intro ?_ ?_)); (focus repeat' (first | exact trivial | exact inB_px rfl | refine And.intro ?_ ?_)); (focus repeat' (first | exact trivial | exact inB_px rfl | refine And.intro ?_ ?_)); (focus repeat' (first | exact trivial | exact inB_px rfl | refine And.intro ?_ ?_))); exact lapp_nil _) | ((with_reducible apply rpL); (refine does_callX [(1000, 19)] [(1000, 19)] (ups := [(19, .var 80 [.d (rawsD (l.take 40)), .d (iD n1), .d (colsD cols)])]) rfl (p1) rfl ?_ rfl ?_ ?_ rfl rfl rfl rfl rfl ?_ rfl rfl; (focus repeat' (first | exact trivial | exact rfl | refine And.intro ?_ ?_)); (focus repeat' (first | exact trivial | exact inB_px rfl | refine And.intro ?_ ?_)); (focus repeat' (first | exact trivial | exact inB_px rfl | refine And.intro ?_ ?_)); (focus repeat' (first | exact trivial | exact inB_px rfl | refine And.intro ?_ ?_))); exact lapp_nil _) | ((with_reducible apply rpL); (refine does_callX [(1000, 19)] [(1000, 19)] (ups := [(19, .var 80 [.d (rawsD (l.take 40)), .d (iD ((n1 + cols.length : Nat))), .d (colsD cols)])]) rfl (rw1) rfl ?_ rfl ?_ ?_ rfl rfl rfl rfl rfl ?_ rfl rfl; (focus repeat' (first | exact trivial | exact rfl | refine And.intro ?_ ?_)); (focus repeat' (first | exact trivial | exact inB_px rfl | refine And.intro ?_ ?_)); (focus repeat' (first | exact trivial | exact inB_px rfl | refine And.intro ?_ ?_)); (focus repeat' (first | exact trivial | exact inB_px rfl | refine And.intro ?_ ?_))); exact lapp_nil _) | ((with_reducible apply aw_cond); exact rfl; (focus (intro hd; (cases hd; done))); (intro hd; clear hd)) | ((first | (with_reducible apply rpGP) | (with_reducible apply drGP)); exact rfl; (first | exact gval_t rfl | exact gval_gf rfl); (focus repeat' (first | exact trivial | exact fun h => h | refine And.intro ?_ ?_ | (intro h; simp_all))); (intro hgd; have hgd0 := hgd; (try simp only [decide_eq_true_eq, Bool.and_eq_true, Bool.not_eq_true', beq_iff_eq] at hgd); first | ((with_reducible apply does_or); exact rfl; exact rfl; exact rfl; (first | exact fun h => h | (intro h; (rw [hgd0, h]; rfl)))) | ((with_reducible apply does_and); exact rfl; exact rfl; exact rfl; (first | exact fun h => h | (intro h; (rw [hgd0, h]; rfl)))))))
    (with_reducible apply ret_ok); (focus (repeat' (first | (with_reducible apply rv_nil) | (with_reducible apply rv_cons) | ((with_reducible apply rv_tmp); exact rfl)))); exact rfl; refine SubD.of_eq ?_
    refine congrArg bD (a₂ := true) ?_
    simp
theorem rep_bool (w : World) (b : Bool) : RepD (Lt w) w (bD b) (.bool b) := ⟨rfl, rfl⟩
theorem evalShort_walk (A : Option Addr) (l : List Raw) (c : Nat) (a : Int) (b : Bool) (w : World) (h : RdR w w.heap.size A l) (hc : l.length ≤ c) (_ : c * 40 ≤ 140737488351232) (hr : ∀ r ∈ l, r.ok) (ha : I64 a) (hg : GlOk (Lt w) w) : Calls Tryd.prog 10 #[.slice A l.length c, .int .i64 a, .bool b] w fun e w' => e = .returned (.bool true) ∧ Below w.heap.size w w' :=
  calls_of_pc (short_rest l a b) (rep_cons (rep_raws h hc) (rep_cons (rep_int w a) (rep_cons (rep_bool w b) rfl))) hg
end Go.Proofs.YtnkpnnphmimagaaDoor

