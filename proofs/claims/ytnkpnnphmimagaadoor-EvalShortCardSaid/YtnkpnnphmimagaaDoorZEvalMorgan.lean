/-
  EvalMorgan: not both is the one not or the other not, in each row, wherever both are looked at. No condition.
-/
import Derived.Test.YtnkpnnphmimagaaDoorZKindSound
namespace Go.Proofs.YtnkpnnphmimagaaDoor
set_option linter.unusedSimpArgs false
set_option linter.unusedVariables false
open Go.RowKit
open Go.Lib

theorem bool3 {v : Vl} (h : Gd v) (hk : v.k = 1 ∨ v.k = 0) : v = nullV ∨ v = ⟨1, 0, 0, .empty⟩ ∨ v = ⟨1, 1, 0, .empty⟩ := by
  rcases hk with hk | hk
  · obtain ⟨n, hn, e⟩ := h.bool_n hk
    rw [e]
    rcases hn with hn | hn
    · subst hn; exact .inr (.inl rfl)
    · subst hn; exact .inr (.inr rfl)
  · exact .inl (h.null_n hk)
theorem morgan {cols : List Cl} {row : List Vl} {x y : Ex} (hx : (evF cols row x).e = 0 → (evF cols row x).v.k = 1 ∨ (evF cols row x).v.k = 0) (hy : (evF cols row y).e = 0 → (evF cols row y).v.k = 1 ∨ (evF cols row y).v.k = 0)
    (gx : Gd (evF cols row x).v) (gy : Gd (evF cols row y).v) : evF cols row (.un 4 (.bi 15 x y)) = evF cols row (.bi 16 (.un 4 x) (.un 4 y)) := by
  rw [evF, evF, evF, evF, evF]
  generalize evF cols row x = s at *
  generalize evF cols row y = t at *
  obtain ⟨v, e⟩ := s
  obtain ⟨w, f⟩ := t
  dsimp only at *
  by_cases he : e = 0
  · subst he
    by_cases hf : f = 0
    · subst hf
      rcases bool3 gx (hx rfl) with rfl | rfl | rfl <;> rcases bool3 gy (hy rfl) with rfl | rfl | rfl <;> rfl
    · simp only [if_neg hf]
      rcases bool3 gx (hx rfl) with rfl | rfl | rfl <;> simp [shortB, oneF, w64, IntKind.wrap, hf, Tv.bad, truI] <;> first | rfl | decide
  · simp [if_neg he, he, Tv.bad]
set_option maxHeartbeats 4000000 in
theorem evalMorgan_pc (l : List Raw) (key : Int) : PC Tryd.prog 11 [rawsD l, iD key] (bD true) := by
  have hc : ColsOk (colsH l) := colsF_ok _
  have hl4 := colsH_l4 l
  have g1 := heapOf_pg l
  obtain ⟨x, n1, hx, _, hn1, p1⟩ := expr_pc (l.take 40) (colsH l) (by omega) 2 1 0 (by omega) (by omega) (by omega) (by decide)
  obtain ⟨y, n2, hy, _, hn2, p2⟩ := expr_pc (l.take 40) (colsH l) (by omega) 2 1 n1 (by omega) (by omega) (by omega) (by have : n1 + 1 ≤ 0 + 2 ^ 3 := hn1; have : 2 ^ 3 = 8 := rfl; omega)
  have hn1 : n1 + 1 ≤ 0 + 8 := hn1
  have hn2 : n2 + 1 ≤ n1 + 8 := hn2
  have rw1 := row_px (l.take 40) n2 (colsH l) (by omega) (fun c h => (hc.kind c h).2) key (by omega)
  have hr := rowF_fit (l.take 40) n2 key hc (colsF_0 _)
  have okx := hx.ok hc.name
  have oky := hy.ok hc.name
  have dx := hx.deep
  have dy := hy.deep
  have nx : x.num + 1 ≤ 8 := hx.num
  have ny : y.num + 1 ≤ 8 := hy.num
  have kx := hx.kind hc.once
  have ky := hy.kind hc.once
  have sx := hx.sound hc.once (fun c h => (hc.kind c h).1) hr
  have sy := hy.sound hc.once (fun c h => (hc.kind c h).1) hr
  have hm := morgan (x := x) (y := y) (sx.kd kx) (sy.kd ky) sx.gd sy.gd
  have q1 := op2_pc 15 x y
  have q2 := op1_pc 4 (.bi 15 x y)
  have q3 := op1_pc 4 x
  have q4 := op1_pc 4 y
  have q5 := op2_pc 16 (.un 4 x) (.un 4 y)
  have e1 := evalX_pc (colsH l) hc _ hr (.un 4 (.bi 15 x y)) ⟨by unfold un1; omega, by unfold bi2; omega, okx, oky⟩ (by simp only [Ex.deep]; omega) (by simp only [Ex.num]; omega)
  have e2 := evalX_pc (colsH l) hc _ hr (.bi 16 (.un 4 x) (.un 4 y)) ⟨by unfold bi2; omega, ⟨by unfold un1; omega, okx⟩, by unfold un1; omega, oky⟩ (by simp only [Ex.deep]; omega) (by simp only [Ex.num]; omega)
  rw [← hm] at e2
  have tl := evalTells_pc
  unfold hpB at *
  clear hx hy hc okx oky dx dy nx ny kx ky sx sy hm hr
  have hcc : colsF (l.take (l.length % 4)) = colsH l := rfl
  rw [hcc] at g1
  generalize colsH l = cols at *
  generalize rowF (l.take 40) n2 key 0 cols = row at *
  generalize evF cols row _ = t at *
  obtain ⟨⟨tk, tn, tb, tt⟩, te⟩ := t
  unfold tvD Vl.cs at *
  dsimp only at *
  have hl1 := (Ex.un 4 (.bi 15 x y)).cs_eq
  generalize (Ex.un 4 (.bi 15 x y)).cs = c1 at *
  have hl2 := (Ex.bi 16 (.un 4 x) (.un 4 y)).cs_eq
  generalize (Ex.bi 16 (.un 4 x) (.un 4 y)).cs = c2 at *
  generalize (Ex.bi 15 x y).cs = c3 at *
  generalize (Ex.un 4 x).cs = c4 at *
  generalize (Ex.un 4 y).cs = c5 at *
  clear hl1 hl2
  have hxl := x.cs_eq
  generalize x.cs = c at *
  subst hxl
  have hyl := y.cs_eq
  generalize y.cs = d at *
  subst hyl
  refine pc_of_aw Tryd.func11 rfl (by kernel_rfl) mixed (by kernel_rfl) (by rw [Tryd.ntmps11]; exact Nat.le_of_ble_eq_true rfl) Tryd.results11 ?_
  repeat (first | (with_reducible first | apply aw_seq | apply aw_reg | apply rp_nil | apply ae_norm | apply aw_regD | apply aw_ret | apply re_ret) | ((with_reducible apply dr_nil); (first | kernel_rfl | exact rfl)) | ((first | (with_reducible first | apply rp | apply dr) | ((with_reducible apply rpG); exact rfl; exact gval_t rfl; (focus repeat' (first | exact trivial | exact fun h => h | refine And.intro ?_ ?_)); intro hgd; have hgd0 := hgd; (try simp only [decide_eq_true_eq, Bool.and_eq_true, Bool.not_eq_true', beq_iff_eq] at hgd))); first | ((with_reducible apply does_call'); exact rfl; exact rfl; exact rfl; exact (q1)) | ((with_reducible apply does_call'); exact rfl; exact rfl; exact rfl; exact (q2)) | ((with_reducible apply does_call'); exact rfl; exact rfl; exact rfl; exact (q3)) | ((with_reducible apply does_call'); exact rfl; exact rfl; exact rfl; exact (q4)) | ((with_reducible apply does_call'); exact rfl; exact rfl; exact rfl; exact (q5)) | ((with_reducible apply does_call_flat); exact rfl; exact rfl; exact (e1); exact rfl) | ((with_reducible apply does_call_flat); exact rfl; exact rfl; exact (e2); exact rfl) | ((with_reducible apply does_call_flat); exact rfl; exact rfl; exact (tl); exact rfl) | ((with_reducible apply does_move); (conv => lhs; whnf)) | ((with_reducible apply does_assign); (conv => lhs; whnf)) | ((with_reducible apply does_and); exact rfl; exact rfl; exact rfl; exact fun h => h) | ((with_reducible apply does_fieldAddr); exact tyOk rfl; exact rfl; exact rfl; decide; exact rfl) | ((with_reducible apply does_load_var); exact tyOk rfl; exact rfl; exact rfl; exact rfl; exact rfl) | ((with_reducible apply does_load_row); exact tyOk rfl; exact rfl; exact rfl; exact rfl; exact Nat.le_of_ble_eq_true rfl; exact rfl) | ((with_reducible apply does_eq); exact rfl; exact rfl) | ((with_reducible apply does_eqS); exact rfl; exact rfl; exact tgOk rfl; exact rfl) | ((with_reducible apply does_extract); exact rfl; exact rfl) | ((with_reducible apply does_nilCheck); exact rfl)) | ((with_reducible first | apply rp1 | apply dr1); ((with_reducible apply does_alloc); exact tyOk rfl; exact rfl)) | ((with_reducible first | apply rpN | apply drN); ((with_reducible apply does_store_whole); exact tyOk rfl; exact rfl; exact rfl; exact rfl; exact rfl; exact rfl)) | ((with_reducible apply rpL); (refine does_callG' [] [(2000, 14)] (ups := [(14, .var 80 [.d (rawsD (l.take 40)), .d (iD 0), .d (colsD cols)])]) (v := (.px 14 0)) rfl (g1) rfl ?_ rfl ?_ ?_ rfl rfl rfl rfl rfl ?_ ?_ rfl rfl rfl; (focus repeat' (first | exact trivial | exact rfl | refine And.intro ?_ ?_)); (focus repeat' (first | exact trivial | exact inB_px rfl | refine And.intro ?_ ?_)); (focus repeat' (first | exact trivial | exact inB_px rfl | refine And.intro ?_ ?_)); (focus repeat' (first | exact trivial | exact inB_px rfl | refine And.intro ?_ ?_)); (focus repeat' (first | exact trivial | exact inB_px rfl | refine And.intro ?_ ?_))); exact lapp_nil _) | ((with_reducible apply rpL); (refine does_callX [(1000, 14)] [(1000, 14)] (ups := [(14, .var 80 [.d (rawsD (l.take 40)), .d (iD n1), .d (colsD cols)])]) rfl (p1) rfl ?_ rfl ?_ ?_ rfl rfl rfl rfl rfl ?_ rfl rfl; (focus repeat' (first | exact trivial | exact rfl | refine And.intro ?_ ?_)); (focus repeat' (first | exact trivial | exact inB_px rfl | refine And.intro ?_ ?_)); (focus repeat' (first | exact trivial | exact inB_px rfl | refine And.intro ?_ ?_)); (focus repeat' (first | exact trivial | exact inB_px rfl | refine And.intro ?_ ?_))); exact lapp_nil _) | ((with_reducible apply rpL); (refine does_callX [(1000, 14)] [(1000, 14)] (ups := [(14, .var 80 [.d (rawsD (l.take 40)), .d (iD n2), .d (colsD cols)])]) rfl (p2) rfl ?_ rfl ?_ ?_ rfl rfl rfl rfl rfl ?_ rfl rfl; (focus repeat' (first | exact trivial | exact rfl | refine And.intro ?_ ?_)); (focus repeat' (first | exact trivial | exact inB_px rfl | refine And.intro ?_ ?_)); (focus repeat' (first | exact trivial | exact inB_px rfl | refine And.intro ?_ ?_)); (focus repeat' (first | exact trivial | exact inB_px rfl | refine And.intro ?_ ?_))); exact lapp_nil _) | ((with_reducible apply rpL); (refine does_callX [(1000, 14)] [(1000, 14)] (ups := [(14, .var 80 [.d (rawsD (l.take 40)), .d (iD ((n2 + cols.length : Nat))), .d (colsD cols)])]) rfl (rw1) rfl ?_ rfl ?_ ?_ rfl rfl rfl rfl rfl ?_ rfl rfl; (focus repeat' (first | exact trivial | exact rfl | refine And.intro ?_ ?_)); (focus repeat' (first | exact trivial | exact inB_px rfl | refine And.intro ?_ ?_)); (focus repeat' (first | exact trivial | exact inB_px rfl | refine And.intro ?_ ?_)); (focus repeat' (first | exact trivial | exact inB_px rfl | refine And.intro ?_ ?_))); exact lapp_nil _))
  (with_reducible apply ret_ok); (focus (repeat' (first | (with_reducible apply rv_nil) | (with_reducible apply rv_cons) | ((with_reducible apply rv_tmp); exact rfl)))); exact rfl; refine SubD.of_eq ?_
  refine congrArg bD (a₂ := true) ?_
  simp
theorem evalMorgan_walk (A : Option Addr) (l : List Raw) (c : Nat) (a : Int) (w : World) (h : RdR w w.heap.size A l) (hc : l.length ≤ c) (_ : c * 40 ≤ 140737488351232) (hr : ∀ r ∈ l, r.ok) (ha : I64 a) (hg : GlOk (Lt w) w) : Calls Tryd.prog 11 #[.slice A l.length c, .int .i64 a] w fun e w' => e = .returned (.bool true) ∧ Below w.heap.size w w' :=
  calls_of_pc (evalMorgan_pc l a) (rep_cons (rep_raws h hc) (rep_cons (rep_int w a) rfl)) hg
end Go.Proofs.YtnkpnnphmimagaaDoor

