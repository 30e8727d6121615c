/-
  FoldSame: what is reckoned ahead says the same in each row, and fails where the other fails. No condition.
-/
import Derived.Test.YtnkpnnphmimagaaDoorZKindSound
import Derived.Test.YtnkpnnphmimagaaDoorZFold2
namespace Go.Proofs.YtnkpnnphmimagaaDoor
set_option linter.unusedSimpArgs false
set_option linter.unusedVariables false
open Go.RowKit
open Go.Lib

set_option maxHeartbeats 4000000 in
theorem foldSame_pc (l : List Raw) (kind key : Int) : PC Tryd.prog 13 [rawsD l, iD kind, iD key] (bD true) := by
  obtain ⟨x, n', hg, hn', g1⟩ := exprOf_pg l kind
  have hc : ColsOk (colsH l) := colsF_ok _
  have hl4 := colsH_l4 l
  have hok := hg.ok hc.name
  have hdp := hg.deep
  have hnm : x.num + 1 ≤ 2 ^ 4 := hg.num
  have hr := rowF_fit (l.take 40) n' key hc (colsF_0 _)
  have rw1 := row_px (l.take 40) n' (colsH l) (by omega) (fun c h => (hc.kind c h).2) key (by omega)
  have oky := foldF_ok hok
  have dy := foldF_deep x
  have ny := foldF_num x
  have fd1 := fold_pc x hok (by omega) (by omega)
  have fd2 := fold_pc (foldF x) oky (by omega) (by omega)
  rw [fold_twice hok] at fd2
  have e1 := evalX_pc (colsH l) hc _ hr x hok (by omega) (by omega)
  have e2 := evalX_pc (colsH l) hc _ hr (foldF x) oky (by omega) (by omega)
  rw [fold_ev _ _ hok] at e2
  have s1 := same_pc (foldF x)
  have h0 := ok_op oky
  have tl := evalTells_pc
  unfold hpB at rw1
  clear hg hc hok hdp hnm hr oky dy ny
  generalize colsH l = cols at *
  generalize rowF (l.take 40) n' key 0 cols = row at *
  generalize evF cols row x = t at *
  generalize foldF x = y at *
  have hxl := x.cs_eq
  generalize x.cs = c at *
  subst hxl
  have hyl := y.cs_eq
  generalize y.cs = d at *
  subst hyl
  obtain ⟨⟨tk, tn, tb, tt⟩, te⟩ := t
  unfold tvD Vl.cs at *
  dsimp only at *
  have hne : ((y.op : Int) != 0) = true := bne_iff_ne.2 (by omega)
  refine pc_of_aw Tryd.func13 rfl (by kernel_rfl) mixed (by kernel_rfl) (by rw [Tryd.ntmps13]; exact Nat.le_of_ble_eq_true rfl) Tryd.results13 ?_
  repeat (first | (with_reducible first | apply aw_seq | apply aw_reg | apply rp_nil | apply ae_norm | apply aw_ret | apply re_ret) | ((first | (with_reducible apply rp) | ((with_reducible apply rpG); exact rfl; exact gval_t rfl; (focus repeat' (first | exact trivial | exact fun h => h | refine And.intro ?_ ?_)); intro hgd; have hgd0 := hgd; (try simp only [decide_eq_true_eq, Bool.and_eq_true, Bool.not_eq_true', beq_iff_eq] at hgd))); first | ((with_reducible apply does_call'); exact rfl; exact rfl; exact rfl; exact (fd1)) | ((with_reducible apply does_call'); exact rfl; exact rfl; exact rfl; exact (fd2)) | ((with_reducible apply does_call_flat); exact rfl; exact rfl; exact (e1); exact rfl) | ((with_reducible apply does_call_flat); exact rfl; exact rfl; exact (e2); exact rfl) | ((with_reducible apply does_call_flat); exact rfl; exact rfl; exact (s1); exact rfl) | ((with_reducible apply does_call_flat); exact rfl; exact rfl; exact (tl); exact rfl) | ((with_reducible apply does_move); (conv => lhs; whnf)) | ((with_reducible apply does_assign); (conv => lhs; whnf)) | ((with_reducible apply does_and); exact rfl; exact rfl; exact rfl; exact fun h => h) | ((with_reducible apply does_fieldAddr); exact tyOk rfl; exact rfl; exact rfl; decide; exact rfl) | ((with_reducible apply does_load_var); exact tyOk rfl; exact rfl; exact rfl; exact rfl; exact rfl) | ((with_reducible apply does_load_row); exact tyOk rfl; exact rfl; exact rfl; exact rfl; exact Nat.le_of_ble_eq_true rfl; exact rfl) | ((with_reducible apply does_eq); exact rfl; exact rfl) | ((with_reducible apply does_ne); exact rfl; exact rfl) | ((with_reducible apply does_eqS); exact rfl; exact rfl; exact tgOk rfl; exact rfl) | ((with_reducible apply does_extract); exact rfl; exact rfl) | ((with_reducible apply does_extractA); exact rfl; exact rfl)) | ((with_reducible apply rp1); ((with_reducible apply does_alloc); exact tyOk rfl; exact rfl)) | ((with_reducible apply rpN); ((with_reducible apply does_store_whole); exact tyOk rfl; exact rfl; exact rfl; exact rfl; exact rfl; exact rfl)) | ((with_reducible apply rpL); (refine does_callG' [] [(2000, 22)] (ups := [(22, .var 80 [.d (rawsD (l.take 40)), .d (iD n'), .d (colsD cols)])]) (v := (.tu [.d (.ag [iD x.op, iD x.val.k, iD x.val.n, qD x.val.b, strD x.val.t, strD x.nam, .sl 7 (x.args.map Ex.cs)]), .d (colsD cols), .px 22 0])) rfl (g1) rfl ?_ rfl ?_ ?_ rfl rfl rfl rfl rfl ?_ ?_ rfl rfl rfl; (focus repeat' (first | exact trivial | exact rfl | refine And.intro ?_ ?_)); (focus repeat' (first | exact trivial | exact inB_px rfl | refine And.intro ?_ ?_)); (focus repeat' (first | exact trivial | exact inB_px rfl | refine And.intro ?_ ?_)); (focus repeat' (first | exact trivial | exact inB_px rfl | refine And.intro ?_ ?_)); (focus repeat' (first | exact trivial | exact inB_px rfl | refine And.intro ?_ ?_))); exact lapp_nil _) | ((with_reducible apply rpL); (refine does_callX [(1000, 22)] [(1000, 22)] (ups := [(22, .var 80 [.d (rawsD (l.take 40)), .d (iD ((n' + cols.length : Nat))), .d (colsD cols)])]) rfl (rw1) rfl ?_ rfl ?_ ?_ rfl rfl rfl rfl rfl ?_ rfl rfl; (focus repeat' (first | exact trivial | exact rfl | refine And.intro ?_ ?_)); (focus repeat' (first | exact trivial | exact inB_px rfl | refine And.intro ?_ ?_)); (focus repeat' (first | exact trivial | exact inB_px rfl | refine And.intro ?_ ?_)); (focus repeat' (first | exact trivial | exact inB_px rfl | refine And.intro ?_ ?_))); exact lapp_nil _))
  (with_reducible apply ret_ok); (focus (repeat' (first | (with_reducible apply rv_nil) | (with_reducible apply rv_cons) | ((with_reducible apply rv_tmp); exact rfl)))); exact rfl; refine SubD.of_eq ?_
  refine congrArg bD (a₂ := true) ?_
  rw [hne]
  simp
theorem foldSame_walk (A : Option Addr) (l : List Raw) (c : Nat) (a b : Int) (w : World) (h : RdR w w.heap.size A l) (hc : l.length ≤ c) (_ : c * 40 ≤ 140737488351232) (hr : ∀ r ∈ l, r.ok) (ha : I64 a) (hb : I64 b) (hg : GlOk (Lt w) w) : Calls Tryd.prog 13 #[.slice A l.length c, .int .i64 a, .int .i64 b] w fun e w' => e = .returned (.bool true) ∧ Below w.heap.size w w' :=
  calls_of_pc (foldSame_pc l a b) (rep_cons (rep_raws h hc) (rep_cons (rep_int w a) (rep_cons (rep_int w b) rfl))) hg
end Go.Proofs.YtnkpnnphmimagaaDoor

