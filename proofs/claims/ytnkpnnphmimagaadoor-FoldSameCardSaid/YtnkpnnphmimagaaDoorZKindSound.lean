/-
  KindSound: what has a kind has values of that kind in each row that fits, or null, if it may be; and no kinds clash. No condition.
-/
import Derived.Test.YtnkpnnphmimagaaDoorZExprOf
import Derived.Test.YtnkpnnphmimagaaDoorZHeapR
import Derived.Test.YtnkpnnphmimagaaDoorZEvK
import Derived.Test.YtnkpnnphmimagaaDoorZEvH
namespace Go.Proofs.YtnkpnnphmimagaaDoor
set_option linter.unusedSimpArgs false
set_option linter.unusedVariables false
open Go.RowKit
open Go.Lib

theorem colsH_l4 (l : List Raw) : (colsH l).length ≤ 4 := by
  unfold colsH colsF
  rw [List.length_cons, clsF_len, List.length_take]
  omega
theorem colsF_0 (l : List Raw) : ∀ c, (colsF l)[0]? = some c → c.kind = 2 := fun c h => by
  unfold colsF at h
  simp only [List.getElem?_cons_zero, Option.some.injEq] at h
  rw [← h]
set_option maxHeartbeats 4000000 in
theorem kindSound_pc (l : List Raw) (kind key : Int) : PC Tryd.prog 14 [rawsD l, iD kind, iD key] (bD true) := by
  obtain ⟨x, n', hg, hn', g1⟩ := exprOf_pg l kind
  have hc : ColsOk (colsH l) := colsF_ok _
  have hl4 := colsH_l4 l
  have hok := hg.ok hc.name
  have hdp := hg.deep
  have hnm : x.num + 1 ≤ 2 ^ 4 := hg.num
  have hkd := hg.kind hc.once
  have hr := rowF_fit (l.take 40) n' key hc (colsF_0 _)
  have rw1 := row_px (l.take 40) n' (colsH l) (by omega) (fun c h => (hc.kind c h).2) key (by omega)
  have hs := hg.sound hc.once (fun c h => (hc.kind c h).1) hr
  have o1 := kOf_pc (colsH l) hc x hok (by omega) (by omega) hkd.1
  have e1 := evalX_pc (colsH l) hc _ hr x hok (by omega) (by omega)
  have k1 := kRow_pc _ (colsH l) hc hr
  have tl := evalTells_pc
  unfold hpB at rw1
  clear hg hc hok hdp hnm hkd hr
  generalize colsH l = cols at *
  generalize rowF (l.take 40) n' key 0 cols = row at *
  generalize evF cols row x = t at *
  generalize ofF cols x = s at *
  have hxl := x.cs_eq
  generalize x.cs = c at *
  subst hxl
  obtain ⟨se, sk, sn⟩ := s
  obtain ⟨⟨tk, tn, tb, tt⟩, te⟩ := t
  obtain ⟨h1, h2, h3, _⟩ := hs
  dsimp only at *
  unfold tvD Vl.cs at *
  dsimp only at *
  refine pc_of_aw Tryd.func14 rfl (by kernel_rfl) mixed (by kernel_rfl) (by rw [Tryd.ntmps14]; exact Nat.le_of_ble_eq_true rfl) Tryd.results14 ?_
  repeat (first | (with_reducible first | apply aw_seq | apply aw_reg | apply rp_nil | apply ae_norm | apply aw_skip) | ((first | (with_reducible apply rp) | ((with_reducible apply rpG); exact rfl; exact gval_f rfl; (focus repeat' (first | exact trivial | exact fun h => h | refine And.intro ?_ ?_)); intro hgd; have hgd0 := hgd; (try simp only [decide_eq_true_eq, Bool.and_eq_true, Bool.not_eq_true', beq_iff_eq] at hgd))); first | ((with_reducible apply does_call_flat); exact rfl; exact rfl; exact (o1); exact rfl) | ((with_reducible apply does_call_flat); exact rfl; exact rfl; exact (e1); exact rfl) | ((with_reducible apply does_call_flat); exact rfl; exact rfl; exact (k1); exact rfl) | ((with_reducible apply does_call_flat); exact rfl; exact rfl; exact (tl); exact rfl) | ((with_reducible apply does_move); (conv => lhs; whnf)) | ((with_reducible apply does_assign); (conv => lhs; whnf)) | ((with_reducible apply does_or); exact rfl; exact rfl; exact rfl; exact fun h => h) | ((with_reducible apply does_load_row); exact tyOk rfl; exact rfl; exact rfl; exact rfl; exact Nat.le_of_ble_eq_true rfl; exact rfl) | ((with_reducible apply does_ne); exact rfl; exact rfl) | ((with_reducible apply does_not); exact rfl) | ((with_reducible apply does_extract); exact rfl; exact rfl) | ((with_reducible apply does_extractA); exact rfl; exact rfl)) | ((with_reducible apply rp1); ((with_reducible apply does_alloc); exact tyOk rfl; exact rfl)) | ((with_reducible apply rpN); ((with_reducible apply does_store_whole); exact tyOk rfl; exact rfl; exact rfl; exact rfl; exact rfl; exact rfl)) | ((with_reducible apply rpL); (refine does_callG' [] [(2000, 19)] (ups := [(19, .var 80 [.d (rawsD (l.take 40)), .d (iD n'), .d (colsD cols)])]) (v := (.tu [.d (.ag [iD x.op, iD x.val.k, iD x.val.n, qD x.val.b, strD x.val.t, strD x.nam, .sl 7 (x.args.map Ex.cs)]), .d (colsD cols), .px 19 0])) rfl (g1) rfl ?_ rfl ?_ ?_ rfl rfl rfl rfl rfl ?_ ?_ rfl rfl rfl; (focus repeat' (first | exact trivial | exact rfl | refine And.intro ?_ ?_)); (focus repeat' (first | exact trivial | exact inB_px rfl | refine And.intro ?_ ?_)); (focus repeat' (first | exact trivial | exact inB_px rfl | refine And.intro ?_ ?_)); (focus repeat' (first | exact trivial | exact inB_px rfl | refine And.intro ?_ ?_)); (focus repeat' (first | exact trivial | exact inB_px rfl | refine And.intro ?_ ?_))); exact lapp_nil _) | ((with_reducible apply rpL); (refine does_callX [(1000, 19)] [(1000, 19)] (ups := [(19, .var 80 [.d (rawsD (l.take 40)), .d (iD ((n' + cols.length : Nat))), .d (colsD cols)])]) rfl (rw1) rfl ?_ rfl ?_ ?_ rfl rfl rfl rfl rfl ?_ rfl rfl; (focus repeat' (first | exact trivial | exact rfl | refine And.intro ?_ ?_)); (focus repeat' (first | exact trivial | exact inB_px rfl | refine And.intro ?_ ?_)); (focus repeat' (first | exact trivial | exact inB_px rfl | refine And.intro ?_ ?_)); (focus repeat' (first | exact trivial | exact inB_px rfl | refine And.intro ?_ ?_))); exact lapp_nil _) | ((with_reducible apply aw_cond); exact rfl; (focus (intro hd; (cases hd; done))); (intro hd; clear hd)))
  by_cases he : te = 0
  · subst he
    repeat (first | (with_reducible first | apply aw_seq | apply aw_reg | apply rp_nil | apply ae_norm | apply aw_ret | apply re_ret | apply aw_skip) | ((first | (with_reducible apply rp) | ((with_reducible apply rpG); exact rfl; (first | exact gval_f rfl | exact gval_gt rfl); (focus repeat' (first | exact trivial | exact fun h => h | refine And.intro ?_ ?_ | (intro h; simp_all))); intro hgd; have hgd0 := hgd; (try simp only [decide_eq_true_eq, Bool.and_eq_true, Bool.not_eq_true', beq_iff_eq] at hgd))); first | ((with_reducible apply does_move); (conv => lhs; whnf)) | ((with_reducible apply does_assign); (conv => lhs; whnf)) | ((with_reducible apply does_and); exact rfl; exact rfl; exact rfl; (first | exact trivial | exact fun h => h)) | ((with_reducible apply does_or); exact rfl; exact rfl; exact rfl; (first | exact trivial | exact fun h => h)) | ((with_reducible apply does_fieldAddr); exact tyOk rfl; exact rfl; exact rfl; decide; exact rfl) | ((with_reducible apply does_load_var); exact tyOk rfl; exact rfl; exact rfl; exact rfl; exact rfl) | ((with_reducible apply does_eq); exact rfl; exact rfl)) | ((with_reducible apply aw_cond); exact rfl; (focus (intro hd; (cases hd; done))); (intro hd; clear hd)))
    (with_reducible apply ret_ok); (focus (repeat' (first | (with_reducible apply rv_nil) | (with_reducible apply rv_cons) | ((with_reducible apply rv_tmp); exact rfl)))); exact rfl; refine SubD.of_eq ?_
    refine congrArg bD (a₂ := true) ?_
    have := h2 rfl
    simp only [Bool.and_eq_true, Bool.or_eq_true, beq_iff_eq]
    exact this
  · have hne : ((te : Int) != 0) = true := bne_iff_ne.2 (by omega)
    refine aw_cond rfl (fun _ => ?_) (fun hd => absurd (hne.symm.trans hd) (by decide))
    repeat (first | (with_reducible first | apply aw_seq | apply aw_reg | apply rp_nil | apply ae_norm | apply aw_ret | apply ae_ret | apply re_ret) | ((first | (with_reducible apply rp) | ((with_reducible apply rpG); exact rfl; exact gval_f rfl; (focus repeat' (first | exact trivial | exact fun h => h | refine And.intro ?_ ?_)); intro hgd; have hgd0 := hgd; (try simp only [decide_eq_true_eq, Bool.and_eq_true, Bool.not_eq_true', beq_iff_eq] at hgd))); first | ((with_reducible apply does_move); (conv => lhs; whnf)) | ((with_reducible apply does_assign); (conv => lhs; whnf)) | ((with_reducible apply does_or); exact rfl; exact rfl; exact rfl; exact fun h => h) | ((with_reducible apply does_eq); exact rfl; exact rfl)))
    (with_reducible apply ret_ok); (focus (repeat' (first | (with_reducible apply rv_nil) | (with_reducible apply rv_cons) | ((with_reducible apply rv_tmp); exact rfl)))); exact rfl; refine SubD.of_eq ?_
    refine congrArg bD (a₂ := true) ?_
    simp only [Bool.and_eq_true, Bool.or_eq_true, beq_iff_eq]
    omega
theorem kindSound_walk (A : Option Addr) (l : List Raw) (c : Nat) (a b : Int) (w : World) (h : RdR w w.heap.size A l) (hc : l.length ≤ c) (_ : c * 40 ≤ 140737488351232) (hr : ∀ r ∈ l, r.ok) (ha : I64 a) (hb : I64 b) (hg : GlOk (Lt w) w) : Calls Tryd.prog 14 #[.slice A l.length c, .int .i64 a, .int .i64 b] w fun e w' => e = .returned (.bool true) ∧ Below w.heap.size w w' :=
  calls_of_pc (kindSound_pc l a b) (rep_cons (rep_raws h hc) (rep_cons (rep_int w a) (rep_cons (rep_int w b) rfl))) hg
end Go.Proofs.YtnkpnnphmimagaaDoor

