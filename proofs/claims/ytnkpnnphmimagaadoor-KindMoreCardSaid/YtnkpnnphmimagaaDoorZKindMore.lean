/-
  KindMore: a column more says nothing of an expression that does not name it. No condition.
-/
import Derived.Test.YtnkpnnphmimagaaDoorZExprOf
import Derived.Test.YtnkpnnphmimagaaDoorZKindO
import Derived.Test.YtnkpnnphmimagaaDoorZJoinD
namespace Go.Proofs.YtnkpnnphmimagaaDoor
set_option linter.unusedSimpArgs false
set_option linter.unusedVariables false
open Go.RowKit

theorem findC_none {n : ByteArray} : ∀ {cols : List Cl}, (∀ c ∈ cols, c.name ≠ n) → findC n cols = .bad 5
  | [], _ => rfl
  | c :: l, h => by
    show (if c.name = n then _ else findC n l) = _
    rw [if_neg (h c List.mem_cons_self)]
    exact findC_none fun d hd => h d (List.mem_cons_of_mem _ hd)
theorem colsH_len (l : List Raw) : (colsH l).length ≤ 4 := by
  unfold colsH colsF
  rw [List.length_cons, clsF_len, List.length_take]
  omega
theorem cols_zz {cols : List Cl} (h : ColsOk cols) (hl : cols.length ≤ 4) (hz : ∀ c ∈ cols, c.name ≠ zzN) : ColsOk (cols ++ [(⟨zzN, 4, false⟩ : Cl)]) := by
  refine ⟨by rw [List.length_append, List.length_singleton]; omega, fun c hc => ?_, fun c hc => ?_, ?_⟩
  · rcases List.mem_append.1 hc with hc | hc
    · exact h.name c hc
    · rw [List.mem_singleton] at hc
      subst hc
      decide
  · rcases List.mem_append.1 hc with hc | hc
    · exact h.kind c hc
    · rw [List.mem_singleton] at hc
      subst hc
      exact ⟨by decide, by decide⟩
  · rw [List.pairwise_append]
    refine ⟨h.once, List.pairwise_singleton _ _, fun c hc d hd => ?_⟩
    rw [List.mem_singleton] at hd
    subst hd
    exact hz c hc
set_option maxHeartbeats 2000000 in
theorem kindMore_pc (l : List Raw) (kind : Int) : PC Tryd.prog 3 [rawsD l, iD kind] (bD true) := by
  obtain ⟨x, n', hg, hn', g1⟩ := exprOf_pg l kind
  have hc : ColsOk (colsH l) := colsF_ok _
  have hz : ∀ c ∈ colsH l, c.name ≠ zzN := colsF_zz _
  have hl4 := colsH_len l
  have hkd := hg.kind hc.once
  have hok := hg.ok hc.name
  have hdp := hg.deep
  have hnm : x.num + 1 ≤ 2 ^ 4 := hg.num
  have hfr := ofF_more (k := 4) (b := false) (colsH l) x (hg.free hz)
  have o1 := kOf_pc (colsH l) hc x hok (by omega) (by omega) hkd.1
  have o2 := kOf_pc (colsH l ++ [(⟨zzN, 4, false⟩ : Cl)]) (cols_zz hc hl4 hz) x hok (by omega) (by omega) (by rw [hfr]; exact hkd.1)
  rw [hfr] at o2
  have o3 := kOf_bad (colsH l) hc (.bi 5 (.col zzN) x) ⟨by unfold bi2; omega, by show NameOk zzN; decide, hok⟩ (by simp only [Ex.deep]; omega) (by simp only [Ex.num]; omega) (by rw [ofF, show ofF (colsH l) (.col zzN) = .bad 5 from findC_none hz]; rfl)
  have q1 : PC Tryd.prog 19 [iD 5, .ag [iD 2, iD 0, iD 0, qD 0, strD .empty, strD zzN, .nl], .ag x.cs] (.ag (Ex.bi 5 (.col zzN) x).cs) :=
    (op2_pc 5 (.col zzN) x).args (SubDs.cons (SubD.refl _) (fun h => h) (SubDs.cons (nil_sub (iD 2)) (fun h => h) (SubDs.cons (SubD.refl _) (fun h => h) SubDs.nil)))
  have p4 := picked_pc kind 4 (by omega) (by omega)
  obtain ⟨u, hu⟩ : ∃ u : Nat, (kind % 4).toNat = u := ⟨_, rfl⟩
  rw [show kind % ((4 : Nat) : Int) = (u : Int) by omega] at p4
  have hu4 : u < 4 := by omega
  rw [hu] at hkd
  obtain ⟨_, hk⟩ := hkd
  have hcs : (colsH l ++ [(⟨zzN, 4, false⟩ : Cl)]).map Cl.cs = (colsH l).map Cl.cs ++ [[strD zzN, iD 4, bD false]] := by rw [List.map_append]; rfl
  have o4 : PC Tryd.prog 18 [.ag x.cs, .sl 3 ((colsH l).map Cl.cs ++ [[strD zzN, iD 4, bD false]])] (.tu [iD (ofF (colsH l) x).k, bD (ofF (colsH l) x).n, iD 0]) := by rw [← hcs]; exact o2
  have hfin : ((ofF (colsH l) x).k == ((1 + u : Nat) : Int) || (ofF (colsH l) x).k == 0) = true := by
    rw [Bool.or_eq_true, beq_iff_eq, beq_iff_eq]
    exact hk
  clear hg hc hz hok hdp hnm hfr o2 hk hu hcs
  have hcl : (colsH l).length ≤ 4 := hl4
  generalize colsH l = cols at *
  generalize (Ex.bi 5 (.col zzN) x).cs = c5 at *
  generalize ofF cols x = so at *
  have hxl := x.cs_eq
  generalize x.cs = c at *
  subst hxl
  obtain ⟨se, sk, sn⟩ := so
  dsimp only at *
  refine pc_of_aw Tryd.func3 rfl (by kernel_rfl) mixed (by kernel_rfl) (by rw [Tryd.ntmps3]; exact Nat.le_of_ble_eq_true rfl) Tryd.results3 ?_
  repeat (first | (with_reducible apply aw_seq) | (with_reducible apply aw_reg) | (with_reducible apply rp_nil) | (with_reducible apply ae_norm) | (with_reducible apply aw_regD) | (with_reducible apply aw_ret) | (with_reducible apply re_ret) | ((with_reducible apply be_other); exact rfl) | ((with_reducible apply dr_nil); first | kernel_rfl | exact rfl) | ((first | (with_reducible apply rp) | (with_reducible apply dr) | ((first | (with_reducible apply rpG) | (with_reducible apply drG)); exact rfl; (first | exact gval_t rfl | exact gval_f rfl | exact gval_gt rfl | exact gval_gf rfl); (focus repeat' (first | exact trivial | exact fun h => h | refine And.intro ?_ ?_ | (intro h; first | exact h | (simp only [Bool.and_eq_true] at h; first | exact h.1 | exact h.1.1 | exact h.1.1.1 | exact h.2) | (rw [h]; rfl) | (rw [hgd0, h]; rfl) | simp_all))); intro hgd; have hgd0 := hgd; (try simp only [decide_eq_true_eq, Bool.and_eq_true, Bool.not_eq_true', beq_iff_eq] at hgd))); first | ((with_reducible apply does_call_flat); exact rfl; exact rfl; exact (o1); exact rfl) | ((with_reducible apply does_call_flat); exact rfl; exact rfl; exact (o4); exact rfl) | ((with_reducible apply does_call_flat); exact rfl; exact rfl; exact (o3); exact rfl) | ((with_reducible apply does_call'); exact rfl; exact rfl; exact rfl; exact (q1)) | ((with_reducible apply does_call_flat); exact rfl; exact rfl; exact (p4); exact rfl) | (exact does_add_to (z := ((1 + u : Nat) : Int)) rfl rfl (by omega) (by omega) (by omega)) | ((with_reducible apply does_move); (conv => lhs; whnf)) | ((with_reducible apply does_assign); (conv => lhs; whnf)) | ((with_reducible apply does_and); exact rfl; exact rfl; exact rfl; (first | exact trivial | exact fun h => h | (intro h; first | exact h | (simp only [Bool.and_eq_true] at h; first | exact h.1 | exact h.1.1 | exact h.1.1.1 | exact h.2) | (rw [h]; rfl) | (rw [hgd0, h]; rfl) | simp_all))) | ((with_reducible apply does_or); exact rfl; exact rfl; exact rfl; (first | exact trivial | exact fun h => h | (intro h; first | exact h | (simp only [Bool.and_eq_true] at h; first | exact h.1 | exact h.1.1 | exact h.1.1.1 | exact h.2) | (rw [h]; rfl) | (rw [hgd0, h]; rfl) | simp_all))) | ((with_reducible apply does_load_var); exact tyOk rfl; exact rfl; exact rfl; exact rfl; exact rfl) | ((with_reducible apply does_load_elem); exact tyOk rfl; exact rfl; exact rfl; (first | assumption | exact map_get (by assumption) | exact rfl); exact rfl) | ((with_reducible apply does_load_own); exact tyOk rfl; exact rfl; exact rfl; exact rfl; (first | assumption | exact map_get (by assumption) | exact rfl); exact rfl) | ((with_reducible apply does_load_row); exact tyOk rfl; exact rfl; exact rfl; exact rfl; (first | exact Nat.le_of_ble_eq_true rfl | omega | (simp; omega)); exact rfl) | ((with_reducible apply does_eq); exact rfl; exact rfl) | ((with_reducible apply does_seq); exact rfl; exact rfl) | ((with_reducible apply does_eqS); exact rfl; exact rfl; exact tgOk rfl; exact rfl) | ((with_reducible apply does_beq); exact tyOk rfl; exact rfl; exact rfl; exact rfl; exact rfl) | ((with_reducible apply does_extract); exact rfl; exact rfl) | ((with_reducible apply does_extractA); exact rfl; exact rfl) | ((with_reducible apply does_build); exact tyOk rfl; exact rfl; exact rfl; (focus repeat' (first | exact rfl | refine ⟨_, _, rfl, rfl, Nat.le_of_ble_eq_true rfl, rfl, ?_⟩)); exact rfl)) | ((first | (with_reducible apply rp1) | (with_reducible apply dr1)); first | ((with_reducible apply does_alloc); exact tyOk rfl; exact rfl) | ((with_reducible apply does_buildSlice); exact tyOk rfl; exact rfl; exact tyOk rfl; exact rfl; exact rfl; (focus repeat' (first | exact trivial | refine And.intro rfl (And.intro rfl ?_))); decide; decide; exact rfl) | ((with_reducible apply does_append_nil); exact tyOk rfl; exact rfl; exact tyOk rfl; exact rfl; exact rfl; decide; (first | omega | (dsimp only; omega) | (dsimp only; simp only [List.length_map, List.length_append, List.length_cons, List.length_nil] at *; omega) | (simp only [List.length_map, List.length_append, List.length_cons, List.length_nil] at *; omega) | (simp; omega)); (first | omega | (dsimp only; omega) | (dsimp only; simp only [List.length_map, List.length_append, List.length_cons, List.length_nil] at *; omega) | (simp only [List.length_map, List.length_append, List.length_cons, List.length_nil] at *; omega) | (simp; omega)); exact rfl)) | ((first | (with_reducible apply rp2) | (with_reducible apply dr2)); first | ((with_reducible apply does_append_own); exact tyOk rfl; exact rfl; exact tyOk rfl; exact rfl; exact rfl; exact rfl; decide; (first | omega | (dsimp only; omega) | (dsimp only; simp only [List.length_map, List.length_append, List.length_cons, List.length_nil] at *; omega) | (simp only [List.length_map, List.length_append, List.length_cons, List.length_nil] at *; omega) | (simp; omega)); (first | omega | (dsimp only; omega) | (dsimp only; simp only [List.length_map, List.length_append, List.length_cons, List.length_nil] at *; omega) | (simp only [List.length_map, List.length_append, List.length_cons, List.length_nil] at *; omega) | (simp; omega)); exact rfl)) | ((first | (with_reducible apply rpN) | (with_reducible apply drN)); first | ((with_reducible apply does_store); exact tyOk rfl; exact rfl; exact rfl; (conv => lhs; whnf); exact rfl; exact rfl; (first | exact Nat.le_of_ble_eq_true rfl | omega | (simp; omega))) | ((with_reducible apply does_store_whole); exact tyOk rfl; exact rfl; exact rfl; exact rfl; exact rfl; exact rfl)) | ((first | (with_reducible apply rpL) | (with_reducible apply drL) | (with_reducible apply rpNL) | (with_reducible apply drNL)); (refine does_callG' [] [(2000, 20)] (ups := [(20, .var 80 [.d (rawsD (l.take 40)), .d (iD n'), .d (colsD cols)])]) (v := (.tu [.d (.ag [iD x.op, iD x.val.k, iD x.val.n, qD x.val.b, strD x.val.t, strD x.nam, .sl 7 (x.args.map Ex.cs)]), .d (colsD cols), .px 20 0])) rfl (g1) rfl ?_ rfl ?_ ?_ rfl rfl rfl rfl rfl ?_ ?_ rfl rfl rfl; (focus repeat' (first | exact trivial | exact rfl | exact kb_d rfl | refine And.intro ?_ ?_)); (focus repeat' (first | exact trivial | exact insB_map _ | exact inB_ow rfl | exact inB_px rfl | exact inB_pr rfl | exact inB_sx rfl | refine And.intro ?_ ?_)); (focus repeat' (first | exact trivial | exact insB_map _ | exact inB_ow rfl | exact inB_px rfl | exact inB_pr rfl | exact inB_sx rfl | refine And.intro ?_ ?_)); (focus repeat' (first | exact trivial | exact insB_map _ | exact inB_ow rfl | exact inB_px rfl | exact inB_pr rfl | exact inB_sx rfl | refine And.intro ?_ ?_)); (focus repeat' (first | exact trivial | exact insB_map _ | exact inB_ow rfl | exact inB_px rfl | exact inB_pr rfl | exact inB_sx rfl | refine And.intro ?_ ?_))); (first | exact lapp_nil _ | exact lapp_1 _ _ | exact lapp_2 _ _ _ | exact lapp_3 _ _ _ _ | exact lapp_4 _ _ _ _ _ | exact lapp_5 _ _ _ _ _ _ | exact lapp_6 _ _ _ _ _ _ _ | exact lapp_7 _ _ _ _ _ _ _ _ | exact lapp_8 _ _ _ _ _ _ _ _ _ | exact lapp_9 _ _ _ _ _ _ _ _ _ _)) | ((first | (with_reducible apply rpGP) | (with_reducible apply drGP)); exact rfl; (first | exact gval_t rfl | exact gval_f rfl | exact gval_gt rfl | exact gval_gf rfl); (focus repeat' (first | exact trivial | exact fun h => h | refine And.intro ?_ ?_ | (intro h; first | exact h | (simp only [Bool.and_eq_true] at h; first | exact h.1 | exact h.1.1 | exact h.1.1.1 | exact h.2) | (rw [h]; rfl) | (rw [hgd0, h]; rfl) | simp_all))); (intro hgd; have hgd0 := hgd; (try simp only [decide_eq_true_eq, Bool.and_eq_true, Bool.not_eq_true', beq_iff_eq] at hgd); first | ((with_reducible apply does_or); exact rfl; exact rfl; exact rfl; (first | exact trivial | exact fun h => h | (intro h; first | exact h | (simp only [Bool.and_eq_true] at h; first | exact h.1 | exact h.1.1 | exact h.1.1.1 | exact h.2) | (rw [h]; rfl) | (rw [hgd0, h]; rfl) | simp_all))) | ((with_reducible apply does_and); exact rfl; exact rfl; exact rfl; (first | exact trivial | exact fun h => h | (intro h; first | exact h | (simp only [Bool.and_eq_true] at h; first | exact h.1 | exact h.1.1 | exact h.1.1.1 | exact h.2) | (rw [h]; rfl) | (rw [hgd0, h]; rfl) | simp_all))))))
  (with_reducible apply ret_ok); (focus (repeat' (first | (with_reducible apply rv_nil) | (with_reducible apply rv_cons) | ((with_reducible apply rv_tmp); exact rfl) | ((with_reducible apply rv_cell); exact rfl; exact rfl; exact tyOk rfl; exact rfl; exact rfl) | ((with_reducible apply rv_rowd); exact rfl; exact rfl; exact tyOk rfl; exact rfl; (first | (with_reducible assumption) | exact rfl | ((try simp only [List.length_map]); first | assumption | omega) | (simp; omega))) | ((with_reducible apply rv_row); exact rfl; exact rfl; exact tyOk rfl; exact rfl; (first | exact Nat.le_of_ble_eq_true rfl | omega | (simp; omega)))))); (first | exact rfl | (focus repeat' (first | exact frzVs_one (frzV_map _ _) | exact rfl | (apply frzVs_cons; (first | exact frzV_map _ _ | exact rfl))))); refine SubD.of_eq ?_
  rw [show (sk == ((1 + u : Nat) : Int) || sk == 0) = true from hfin]
  simp
  rfl
theorem kindMore_walk (A : Option Addr) (l : List Raw) (c : Nat) (a : Int) (w : World) (h : RdR w w.heap.size A l) (hc : l.length ≤ c) (_ : c * 40 ≤ 140737488351232) (hr : ∀ r ∈ l, r.ok) (ha : I64 a) (hg : GlOk (Lt w) w) : Calls Tryd.prog 3 #[.slice A l.length c, .int .i64 a] w fun e w' => e = .returned (.bool true) ∧ Below w.heap.size w w' :=
  calls_of_pc (kindMore_pc l a) (rep_cons (rep_raws h hc) (rep_cons (rep_int w a) rfl)) hg
end Go.Proofs.YtnkpnnphmimagaaDoor

