/-
  KindStrict: where columns are never null less is null. No condition.
-/
import Derived.Test.YtnkpnnphmimagaaDoorZExprOf
import Derived.Test.YtnkpnnphmimagaaDoorZKindO
import Derived.Test.YtnkpnnphmimagaaDoorZJoinD
namespace Go.Proofs.YtnkpnnphmimagaaDoor
set_option linter.unusedSimpArgs false
set_option linter.unusedVariables false
open Go.RowKit

theorem colsH_len4 (l : List Raw) : (colsH l).length ≤ 4 := by
  unfold colsH colsF
  rw [List.length_cons, clsF_len, List.length_take]
  omega
theorem cols_strict {cols : List Cl} (h : ColsOk cols) : ColsOk (cols.map strictC) := by
  refine ⟨by rw [List.length_map]; exact h.len, fun c hc => ?_, fun c hc => ?_, ?_⟩
  · obtain ⟨d, hd, rfl⟩ := List.mem_map.1 hc
    exact h.name d hd
  · obtain ⟨d, hd, rfl⟩ := List.mem_map.1 hc
    exact h.kind d hd
  · rw [List.pairwise_map]
    exact h.once
def strK (cols : List Cl) (k : Nat) : List (List D) := (cols.take k).map (fun c => (strictC c).cs) ++ (cols.drop k).map Cl.cs
theorem strK_len (cols : List Cl) (k : Nat) (h : k ≤ cols.length) : (strK cols k).length = cols.length := by
  unfold strK
  rw [List.length_append, List.length_map, List.length_map, List.length_take, List.length_drop]
  omega
theorem strK_get {cols : List Cl} {k : Nat} {c : Cl} (h : cols[k]? = some c) : (strK cols k)[k]? = some c.cs := by
  obtain ⟨hk, rfl⟩ := List.getElem?_eq_some_iff.1 h
  unfold strK
  rw [List.getElem?_append_right (by rw [List.length_map, List.length_take]; omega), List.length_map, List.length_take, List.getElem?_map, List.getElem?_drop]
  rw [show k + (k - min k cols.length) = k by omega, h]
  rfl
theorem strK_set {cols : List Cl} {k : Nat} {c : Cl} (h : cols[k]? = some c) : (strK cols k).set k [strD c.name, iD c.kind, bD false] = strK cols (k + 1) := by
  obtain ⟨hk, he⟩ := List.getElem?_eq_some_iff.1 h
  unfold strK
  have e1 : cols.drop k = c :: cols.drop (k + 1) := by rw [List.drop_eq_getElem_cons hk, he]
  have e2 : cols.take (k + 1) = cols.take k ++ [c] := by rw [List.take_add_one, h]; rfl
  have e3 : ((cols.take k).map fun c => (strictC c).cs).length = k := by rw [List.length_map, List.length_take]; omega
  rw [List.set_append_right _ _ (by omega), e3, Nat.sub_self, e1, e2, List.map_append, List.append_assoc]
  rfl
theorem strK_all (cols : List Cl) : strK cols cols.length = (cols.map strictC).map Cl.cs := by
  unfold strK
  rw [List.take_length, List.drop_length, List.map_nil, List.append_nil, List.map_map]
  rfl
set_option maxHeartbeats 2000000 in
theorem kindStrict_pc (l : List Raw) (kind : Int) : PC Tryd.prog 4 [rawsD l, iD kind] (bD true) := by
  obtain ⟨x, n', hg, hn', g1⟩ := exprOf_pg l kind
  have hc : ColsOk (colsH l) := colsF_ok _
  have hl4 := colsH_len4 l
  have hkd := hg.kind hc.once
  have hok := hg.ok hc.name
  have hdp := hg.deep
  have hnm : x.num + 1 ≤ 2 ^ 4 := hg.num
  have hls := less_of (colsH l) x
  have o1 := kOf_pc (colsH l) hc x hok (by omega) (by omega) hkd.1
  have o2 := kOf_pc ((colsH l).map strictC) (cols_strict hc) x hok (by omega) (by omega) (hls.1.trans hkd.1)
  have o2 : PC Tryd.prog 18 [.ag x.cs, .sl 3 (strK (colsH l) (colsH l).length)] (.tu [iD (ofF ((colsH l).map strictC) x).k, bD (ofF ((colsH l).map strictC) x).n, iD 0]) := by rw [strK_all]; exact o2
  have o3 := kOf_pc [] ⟨by simp, by simp, by simp, List.Pairwise.nil⟩ (.lit ⟨2, 0, 0, .empty⟩) ⟨.int 0, Int.le_refl _⟩ (by simp only [Ex.deep]; omega) (by simp only [Ex.num]; omega) rfl
  have o3 : PC Tryd.prog 18 [.ag [iD 1, iD 2, iD 0, qD 0, strD .empty, strD .empty, .nl], .nl] (.tu [iD 2, bD false, iD 0]) :=
    o3.args (SubDs.cons (nil_sub (iD 1)) (fun h => h) (SubDs.cons (SubD.nil 3) (fun h => h) SubDs.nil))
  obtain ⟨_, hkk, hnn⟩ := hls
  rw [hkk] at o2
  clear hg hc hok hdp hnm hkd hkk
  generalize hcq : colsH l = cols at *
  generalize ofF (cols.map strictC) x = so2 at *
  generalize ofF cols x = so at *
  have hxl := x.cs_eq
  generalize x.cs = c at *
  subst hxl
  obtain ⟨se, sk, sn⟩ := so
  obtain ⟨se2, sk2, sn2⟩ := so2
  dsimp only at *
  refine pc_of_aw Tryd.func4 rfl (by kernel_rfl) mixed (by kernel_rfl) (by rw [Tryd.ntmps4]; exact Nat.le_of_ble_eq_true rfl) Tryd.results4 ?_
  repeat (first | (with_reducible apply aw_seq) | (with_reducible apply aw_reg) | (with_reducible apply rp_nil) | (with_reducible apply ae_norm) | (with_reducible apply aw_block) | ((with_reducible apply be_other); exact rfl) | ((with_reducible apply dr_nil); first | kernel_rfl | exact rfl) | ((first | (with_reducible apply rp) | (with_reducible apply dr)); first | ((with_reducible apply does_call_flat); exact rfl; exact rfl; exact (o1); exact rfl) | ((with_reducible apply does_move); (conv => lhs; whnf)) | ((with_reducible apply does_assign); (conv => lhs; whnf)) | ((with_reducible apply does_load_var); exact tyOk rfl; exact rfl; exact rfl; exact rfl; exact rfl) | ((with_reducible apply does_load_elem); exact tyOk rfl; exact rfl; exact rfl; (first | assumption | exact map_get (by assumption) | exact rfl); exact rfl) | ((with_reducible apply does_load_own); exact tyOk rfl; exact rfl; exact rfl; exact rfl; (first | assumption | exact map_get (by assumption) | exact rfl); exact rfl) | ((with_reducible apply does_load_row); exact tyOk rfl; exact rfl; exact rfl; exact rfl; (first | exact Nat.le_of_ble_eq_true rfl | omega | (simp; omega)); exact rfl) | ((with_reducible apply does_extract); exact rfl; exact rfl) | ((with_reducible apply does_extractA); exact rfl; exact rfl) | ((with_reducible apply does_len_map); exact tyOk rfl; exact rfl; exact rfl) | ((with_reducible apply does_len_sl); exact tyOk rfl; exact rfl; exact rfl) | ((with_reducible apply does_len_ow); exact tyOk rfl; exact rfl; exact rfl)) | ((first | (with_reducible apply rp1) | (with_reducible apply dr1)); first | ((with_reducible apply does_alloc); exact tyOk rfl; exact rfl) | ((with_reducible apply does_buildSlice); exact tyOk rfl; exact rfl; exact tyOk rfl; exact rfl; exact rfl; (focus repeat' (first | exact trivial | refine And.intro rfl (And.intro rfl ?_))); decide; decide; exact rfl) | ((with_reducible apply does_append_nil); exact tyOk rfl; exact rfl; exact tyOk rfl; exact rfl; exact rfl; decide; (first | omega | (dsimp only; omega) | (dsimp only; simp only [List.length_map, List.length_append, List.length_cons, List.length_nil] at *; omega) | (simp only [List.length_map, List.length_append, List.length_cons, List.length_nil] at *; omega) | (simp; omega)); (first | omega | (dsimp only; omega) | (dsimp only; simp only [List.length_map, List.length_append, List.length_cons, List.length_nil] at *; omega) | (simp only [List.length_map, List.length_append, List.length_cons, List.length_nil] at *; omega) | (simp; omega)); exact rfl)) | ((first | (with_reducible apply rp2) | (with_reducible apply dr2)); first | ((with_reducible apply does_append_own); exact tyOk rfl; exact rfl; exact tyOk rfl; exact rfl; exact rfl; exact rfl; decide; (first | omega | (dsimp only; omega) | (dsimp only; simp only [List.length_map, List.length_append, List.length_cons, List.length_nil] at *; omega) | (simp only [List.length_map, List.length_append, List.length_cons, List.length_nil] at *; omega) | (simp; omega)); (first | omega | (dsimp only; omega) | (dsimp only; simp only [List.length_map, List.length_append, List.length_cons, List.length_nil] at *; omega) | (simp only [List.length_map, List.length_append, List.length_cons, List.length_nil] at *; omega) | (simp; omega)); exact rfl)) | ((first | (with_reducible apply rpN) | (with_reducible apply drN)); first | ((with_reducible apply does_store); exact tyOk rfl; exact rfl; exact rfl; (conv => lhs; whnf); exact rfl; exact rfl; (first | exact Nat.le_of_ble_eq_true rfl | omega | (simp; omega))) | ((with_reducible apply does_store_whole); exact tyOk rfl; exact rfl; exact rfl; exact rfl; exact rfl; exact rfl)) | ((first | (with_reducible apply rpL) | (with_reducible apply drL) | (with_reducible apply rpNL) | (with_reducible apply drNL)); (refine does_callG' [] [(2000, 22)] (ups := [(22, .var 80 [.d (rawsD (l.take 40)), .d (iD n'), .d (colsD cols)])]) (v := (.tu [.d (.ag [iD x.op, iD x.val.k, iD x.val.n, qD x.val.b, strD x.val.t, strD x.nam, .sl 7 (x.args.map Ex.cs)]), .d (colsD cols), .px 22 0])) rfl (g1) rfl ?_ rfl ?_ ?_ rfl rfl rfl rfl rfl ?_ ?_ rfl rfl rfl; (focus repeat' (first | exact trivial | exact rfl | exact kb_d rfl | refine And.intro ?_ ?_)); (focus repeat' (first | exact trivial | exact insB_map _ | exact inB_ow rfl | exact inB_px rfl | exact inB_pr rfl | exact inB_sx rfl | refine And.intro ?_ ?_)); (focus repeat' (first | exact trivial | exact insB_map _ | exact inB_ow rfl | exact inB_px rfl | exact inB_pr rfl | exact inB_sx rfl | refine And.intro ?_ ?_)); (focus repeat' (first | exact trivial | exact insB_map _ | exact inB_ow rfl | exact inB_px rfl | exact inB_pr rfl | exact inB_sx rfl | refine And.intro ?_ ?_)); (focus repeat' (first | exact trivial | exact insB_map _ | exact inB_ow rfl | exact inB_px rfl | exact inB_pr rfl | exact inB_sx rfl | refine And.intro ?_ ?_))); (first | exact lapp_nil _ | exact lapp_1 _ _ | exact lapp_2 _ _ _ | exact lapp_3 _ _ _ _ | exact lapp_4 _ _ _ _ _ | exact lapp_5 _ _ _ _ _ _ | exact lapp_6 _ _ _ _ _ _ _ | exact lapp_7 _ _ _ _ _ _ _ _ | exact lapp_8 _ _ _ _ _ _ _ _ _ | exact lapp_9 _ _ _ _ _ _ _ _ _ _)))
  refine aw_loop (fun m s => ∃ k, k ≤ cols.length ∧ m = cols.length - k ∧ s = ⟨[(5, .px 5 0), (8, .d (iD sk)), (9, .d (bD sn)), (10, .d (iD 0)), (11, .ow 1000 cols.length), (37, .d (iD cols.length)), (38, .d (iD k))], [(5, .var 28 [.d (iD x.op), .d (iD x.val.k), .d (iD x.val.n), .d (qD x.val.b), .d (strD x.val.t), .d (strD x.nam), .d (.sl 7 (x.args.map Ex.cs))]), (1000, .row 37 3 (strK cols k))]⟩) _ _ ?_ ⟨0, by omega, rfl, rfl⟩ ?_
  · refine forget_of [(1000, 35)] (by repeat' (first | exact ks_nil | (refine ks_cons rfl (by first | exact SubA.refl _ | exact SubA.d (SubD.nil _) | exact subA_ow (by first | rfl | (simp; done) | (simp; omega)) | exact subA_i (by first | rfl | (simp; done) | (simp; omega) | omega) | (refine SubA.of_eq ?_; first | rfl | (simp; done) | (simp; omega))) ?_))) ?_ rfl (by repeat' (first | exact trivial | exact insB_map _ | exact inB_ow rfl | exact inB_px rfl | exact inB_pr rfl | exact inB_sx rfl | refine And.intro ?_ ?_)) (by repeat' (first | exact trivial | exact insB_map _ | exact inB_ow rfl | exact inB_px rfl | exact inB_pr rfl | exact inB_sx rfl | refine And.intro ?_ ?_))
    exact kb_cons rfl rfl (kb_cons rfl (row_eq rfl) kb_nil)
  · rintro m s ⟨k, hk, rfl, rfl⟩
    repeat (first | (with_reducible apply aw_seq) | (with_reducible apply aw_reg) | (with_reducible apply rp_nil) | (with_reducible apply ae_norm) | ((with_reducible apply be_other); exact rfl) | ((with_reducible apply dr_nil); first | kernel_rfl | exact rfl) | ((first | (with_reducible apply rp) | (with_reducible apply dr)); first | ((with_reducible apply does_lt); exact rfl; exact rfl)))
    refine aw_cond rfl (fun hd => ?_) (fun hd => ?_)
    · have hlt : k < cols.length := by simp at hd; omega
      clear hd
      obtain ⟨cl, hcl⟩ : ∃ c, cols[k]? = some c := ⟨_, List.getElem?_eq_getElem hlt⟩
      have hget := strK_get hcl
      have hset := strK_set hcl
      have hlen := strK_len cols k (by omega)
      obtain ⟨cn, ck, cb⟩ := cl
      unfold Cl.cs at hget
      dsimp only at *
      repeat (first | (with_reducible apply aw_seq) | (with_reducible apply aw_reg) | (with_reducible apply rp_nil) | (with_reducible apply ae_norm) | (with_reducible apply aw_block) | (with_reducible apply be_norm) | (with_reducible apply aw_skip) | ((with_reducible apply be_other); exact rfl) | ((with_reducible apply dr_nil); first | kernel_rfl | exact rfl) | ((first | (with_reducible apply rp) | (with_reducible apply dr)); first | ((with_reducible apply does_move); (conv => lhs; whnf)) | ((with_reducible apply does_assign); (conv => lhs; whnf)) | ((with_reducible apply does_fieldAddr); exact tyOk rfl; exact rfl; exact rfl; decide; exact rfl) | ((with_reducible apply does_index_sl); exact tyOk rfl; exact rfl; exact tyOk rfl; exact rfl; exact rfl; exact rfl; exact rfl; (first | omega | (dsimp only; omega) | (dsimp only; simp only [List.length_map, List.length_append, List.length_cons, List.length_nil] at *; omega) | (simp only [List.length_map, List.length_append, List.length_cons, List.length_nil] at *; omega) | (simp; omega))) | ((with_reducible apply does_index_own); exact tyOk rfl; exact rfl; exact tyOk rfl; exact rfl; exact rfl; exact rfl; (first | omega | (dsimp only; omega) | (dsimp only; simp only [List.length_map, List.length_append, List.length_cons, List.length_nil] at *; omega) | (simp only [List.length_map, List.length_append, List.length_cons, List.length_nil] at *; omega) | (simp; omega))) | ((with_reducible apply does_add); exact rfl; exact rfl; omega; omega)) | ((first | (with_reducible apply rpN) | (with_reducible apply drN)); first | ((with_reducible apply does_store); exact tyOk rfl; exact rfl; exact rfl; (conv => lhs; whnf); exact rfl; exact rfl; (first | exact Nat.le_of_ble_eq_true rfl | omega | (simp; omega))) | ((with_reducible apply does_store_whole); exact tyOk rfl; exact rfl; exact rfl; exact rfl; exact rfl; exact rfl) | ((with_reducible apply does_store_rowD); exact tyOk rfl; exact rfl; exact rfl; exact rfl; exact rfl; (first | exact Nat.le_of_ble_eq_true rfl | omega | (simp; omega))) | ((with_reducible apply does_store_wholeA); exact tyOk rfl; exact rfl; exact rfl; exact rfl; exact rfl; exact rfl) | ((with_reducible apply does_store_own); exact tyOk rfl; exact rfl; exact rfl; exact rfl; exact rfl; (first | assumption | exact map_get (by assumption) | exact rfl); exact rfl; (first | exact Nat.le_of_ble_eq_true rfl | omega | (simp; omega)))))
      refine ⟨_, _, ?_, ?_, k + 1, by omega, rfl, rfl⟩
      · omega
      · refine forget_of [] (by repeat' (first | exact ks_nil | (refine ks_cons rfl (by first | exact SubA.refl _ | exact SubA.d (SubD.nil _) | exact subA_ow (by first | rfl | (simp; done) | (simp; omega)) | exact subA_i (by first | rfl | (simp; done) | (simp; omega) | omega) | (refine SubA.of_eq ?_; first | rfl | (simp; done) | (simp; omega))) ?_))) ?_ rfl (by repeat' (first | exact trivial | exact insB_map _ | exact inB_ow rfl | exact inB_px rfl | exact inB_pr rfl | exact inB_sx rfl | refine And.intro ?_ ?_)) (by repeat' (first | exact trivial | exact insB_map _ | exact inB_ow rfl | exact inB_px rfl | exact inB_pr rfl | exact inB_sx rfl | refine And.intro ?_ ?_))
        exact kb_cons rfl rfl (kb_cons rfl (row_eq hset) kb_nil)
    · have hke : k = cols.length := by simp at hd; omega
      clear hd
      subst hke
      repeat (first | (with_reducible apply aw_seq) | (with_reducible apply aw_reg) | (with_reducible apply rp_nil) | (with_reducible apply ae_norm) | (with_reducible apply aw_exit) | (with_reducible apply ae_exit) | (with_reducible apply be_exit) | (with_reducible apply aw_ret) | (with_reducible apply re_ret) | ((with_reducible apply be_other); exact rfl) | ((with_reducible apply dr_nil); first | kernel_rfl | exact rfl) | ((first | (with_reducible apply rp) | (with_reducible apply dr) | ((first | (with_reducible apply rpG) | (with_reducible apply drG)); exact rfl; (first | exact gval_t rfl | exact gval_f rfl | exact gval_gt rfl | exact gval_gf rfl); (focus repeat' (first | exact trivial | exact fun h => h | refine And.intro ?_ ?_ | (intro h; first | exact h | (simp only [Bool.and_eq_true] at h; first | exact h.1 | exact h.1.1 | exact h.1.1.1 | exact h.2) | (rw [h]; rfl) | (rw [hgd0, h]; rfl) | simp_all))); intro hgd; have hgd0 := hgd; (try simp only [decide_eq_true_eq, Bool.and_eq_true, Bool.not_eq_true', beq_iff_eq] at hgd))); first | ((with_reducible apply does_call_flat); exact rfl; exact rfl; exact (o2); exact rfl) | ((with_reducible apply does_call_flat); exact rfl; exact rfl; exact (o3); exact rfl) | ((with_reducible apply does_move); (conv => lhs; whnf)) | ((with_reducible apply does_assign); (conv => lhs; whnf)) | ((with_reducible apply does_and); exact rfl; exact rfl; exact rfl; (first | exact trivial | exact fun h => h | (intro h; first | exact h | (simp only [Bool.and_eq_true] at h; first | exact h.1 | exact h.1.1 | exact h.1.1.1 | exact h.2) | (rw [h]; rfl) | (rw [hgd0, h]; rfl) | simp_all))) | ((with_reducible apply does_or); exact rfl; exact rfl; exact rfl; (first | exact trivial | exact fun h => h | (intro h; first | exact h | (simp only [Bool.and_eq_true] at h; first | exact h.1 | exact h.1.1 | exact h.1.1.1 | exact h.2) | (rw [h]; rfl) | (rw [hgd0, h]; rfl) | simp_all))) | ((with_reducible apply does_load_var); exact tyOk rfl; exact rfl; exact rfl; exact rfl; exact rfl) | ((with_reducible apply does_load_elem); exact tyOk rfl; exact rfl; exact rfl; (first | assumption | exact map_get (by assumption) | exact rfl); exact rfl) | ((with_reducible apply does_load_own); exact tyOk rfl; exact rfl; exact rfl; exact rfl; (first | assumption | exact map_get (by assumption) | exact rfl); exact rfl) | ((with_reducible apply does_load_row); exact tyOk rfl; exact rfl; exact rfl; exact rfl; (first | exact Nat.le_of_ble_eq_true rfl | omega | (simp; omega)); exact rfl) | ((with_reducible apply does_eq); exact rfl; exact rfl) | ((with_reducible apply does_not); exact rfl) | ((with_reducible apply does_extract); exact rfl; exact rfl) | ((with_reducible apply does_build); exact tyOk rfl; exact rfl; exact rfl; (focus repeat' (first | exact rfl | refine ⟨_, _, rfl, rfl, Nat.le_of_ble_eq_true rfl, rfl, ?_⟩)); exact rfl)) | ((first | (with_reducible apply rpGP) | (with_reducible apply drGP)); exact rfl; (first | exact gval_t rfl | exact gval_f rfl | exact gval_gt rfl | exact gval_gf rfl); (focus repeat' (first | exact trivial | exact fun h => h | refine And.intro ?_ ?_ | (intro h; first | exact h | (simp only [Bool.and_eq_true] at h; first | exact h.1 | exact h.1.1 | exact h.1.1.1 | exact h.2) | (rw [h]; rfl) | (rw [hgd0, h]; rfl) | simp_all))); (intro hgd; have hgd0 := hgd; (try simp only [decide_eq_true_eq, Bool.and_eq_true, Bool.not_eq_true', beq_iff_eq] at hgd); first | ((with_reducible apply does_or); exact rfl; exact rfl; exact rfl; (first | exact trivial | exact fun h => h | (intro h; first | exact h | (simp only [Bool.and_eq_true] at h; first | exact h.1 | exact h.1.1 | exact h.1.1.1 | exact h.2) | (rw [h]; rfl) | (rw [hgd0, h]; rfl) | simp_all))) | ((with_reducible apply does_and); exact rfl; exact rfl; exact rfl; (first | exact trivial | exact fun h => h | (intro h; first | exact h | (simp only [Bool.and_eq_true] at h; first | exact h.1 | exact h.1.1 | exact h.1.1.1 | exact h.2) | (rw [h]; rfl) | (rw [hgd0, h]; rfl) | simp_all))))))
      (with_reducible apply ret_ok); (focus (repeat' (first | (with_reducible apply rv_nil) | (with_reducible apply rv_cons) | ((with_reducible apply rv_tmp); exact rfl) | ((with_reducible apply rv_cell); exact rfl; exact rfl; exact tyOk rfl; exact rfl; exact rfl) | ((with_reducible apply rv_rowd); exact rfl; exact rfl; exact tyOk rfl; exact rfl; (first | (with_reducible assumption) | exact rfl | ((try simp only [List.length_map]); first | assumption | omega) | (simp; omega))) | ((with_reducible apply rv_row); exact rfl; exact rfl; exact tyOk rfl; exact rfl; (first | exact Nat.le_of_ble_eq_true rfl | omega | (simp; omega)))))); (first | exact rfl | (focus repeat' (first | exact frzVs_one (frzV_map _ _) | exact rfl | (apply frzVs_cons; (first | exact frzV_map _ _ | exact rfl))))); refine SubD.of_eq ?_
      have hfin : (sn || !sn2) = true := by cases sn2 with
        | true => rw [hnn rfl]; rfl
        | false => cases sn <;> rfl
      rw [hfin]
      simp
      rfl
theorem kindStrict_walk (A : Option Addr) (l : List Raw) (c : Nat) (a : Int) (w : World) (h : RdR w w.heap.size A l) (hc : l.length ≤ c) (_ : c * 40 ≤ 140737488351232) (hr : ∀ r ∈ l, r.ok) (ha : I64 a) (hg : GlOk (Lt w) w) : Calls Tryd.prog 4 #[.slice A l.length c, .int .i64 a] w fun e w' => e = .returned (.bool true) ∧ Below w.heap.size w w' :=
  calls_of_pc (kindStrict_pc l a) (rep_cons (rep_raws h hc) (rep_cons (rep_int w a) rfl)) hg
end Go.Proofs.YtnkpnnphmimagaaDoor

