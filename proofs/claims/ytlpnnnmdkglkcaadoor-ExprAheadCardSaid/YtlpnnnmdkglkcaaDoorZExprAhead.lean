/-
  ExprAhead: an expression is read to its end, wherever it begins, and not beyond.
-/
import Derived.Test.YtlpnnnmdkglkcaaDoorZExprBack
import Derived.Test.YtlpnnnmdkglkcaaDoorZTokL
namespace Go.Proofs.YtlpnnnmdkglkcaaDoor
set_option linter.unusedSimpArgs false
set_option linter.unusedVariables false
open Go.RowKit

section
variable {P : Program} {dst : Option Nat} {ty : TypeId} {e : Operand → A} {β : Bx} {T T' : TypeId} {x y : Operand} {m n : Int} {b : Bool} {k : IntKind}
theorem does_eq_bA (hd : (m == n) = b) (hx : e x = .d (.sc (.int k m))) (hy : e y = .d (.sc (.int k n))) : Does P dst (.binOp .eql T x y T') ty e β (.d (bD b)) [] [] := by
  subst hd; exact does_eq hx hy
end
theorem here_mid (a b c : List Tk) : Here (a ++ b ++ c) a.length b := fun n hn => by
  rw [List.append_assoc, List.getElem?_append_right (by omega), Nat.add_sub_cancel_left, List.getElem?_append_left hn]
set_option maxHeartbeats 4000000 in
theorem exprAhead_pc (l : List Raw) (kind : Int) (before : List Raw) : PC Tryd.prog 8 [rawsD l, iD kind, rawsD before] (bD true) := by
  obtain ⟨x, n', hx, hd, hn, hn', g1⟩ := exprOf_toks l kind
  obtain ⟨B, hB, hBl, b1⟩ := tokensOf_ex before 5 (by decide)
  have hl := shw_len x 1
  have h0 := shw_pos x 1
  have s1 := showE_pc x hx hd (by omega)
  have m1 := sameE_pc x
  have hT : (B ++ shw x 1 ++ [cmT, (⟨3, .empty, 0, 0⟩ : Tk)]).length = B.length + (shw x 1).length + 2 := by rw [List.length_append, List.length_append]; rfl
  have htok : ∀ t ∈ B ++ shw x 1 ++ [cmT, (⟨3, .empty, 0, 0⟩ : Tk)], TkOk t := by
    intro t ht
    rcases List.mem_append.1 ht with ht | ht
    · rcases List.mem_append.1 ht with ht | ht
      · exact hB t ht
      · rw [shw_one] at ht
        exact shwB_toks x hx t ht
    · simp only [List.mem_cons, List.not_mem_nil, or_false] at ht
      rcases ht with rfl | rfl
      · exact cmT_ok
      · exact .num 0 (by decide)
  have hread : ∃ f, rd (B ++ shw x 1 ++ [cmT, (⟨3, .empty, 0, 0⟩ : Tk)]) f 1 B.length = .ok x (B.length + (shw x 1).length) := by
    obtain ⟨f0, h⟩ := (shown x hx).1 1 (B ++ shw x 1 ++ [cmT, (⟨3, .empty, 0, 0⟩ : Tk)]) B.length (Nat.le_refl 1) (by decide) (here_mid _ _ _) (stop_cm (by
      rw [List.getElem?_append_right (by rw [List.length_append]; omega), List.length_append, Nat.sub_self]
      rfl))
    exact ⟨f0, h f0 (Nat.le_refl _)⟩
  have a1 := ahead_pc _ (by rw [hT]; omega) htok B.length (B.length + (shw x 1).length) (by rw [hT]; omega) x hread
  have e1 : (B ++ shw x 1 ++ [cmT, (⟨3, .empty, 0, 0⟩ : Tk)]).map Tk.cs = [] ++ B.map Tk.cs ++ (shw x 1).map Tk.cs ++ [[iD 6, strD ⟨#[44]⟩, iD 0, qD 0], [iD 3, strD .empty, iD 0, qD 0]] := by
    rw [List.map_append, List.map_append]
    rfl
  have a1 : PC Tryd.prog 24 [.sl 4 ((B ++ shw x 1 ++ [cmT, (⟨3, .empty, 0, 0⟩ : Tk)]).map Tk.cs), iD B.length] (.tu [exD x, iD (B.length + (shw x 1).length : Nat), iD 0, iD 0]) := a1
  rw [e1] at a1
  have s1 : PC Tryd.prog 23 [exD x] (.tu [.sl 4 ((shw x 1).map Tk.cs), iD 0]) := s1
  have b1 : PC Tryd.prog 13 [rawsD before, iD (5 : Nat)] (.sl 4 (B.map Tk.cs)) := b1
  have lb : (B.map Tk.cs).length = B.length := List.length_map _
  have lt : ((shw x 1).map Tk.cs).length = (shw x 1).length := List.length_map _
  rw [← lb, ← lt] at a1
  rw [← lt] at h0 hl
  rw [← lb] at hBl
  clear e1 hread htok hT lb lt hB
  generalize B.map Tk.cs = bs at *
  generalize (shw x 1).map Tk.cs = ts at *
  generalize colsH l = cols at *
  have hgt : decide ((ts.length : Int) > 0) = true := decide_eq_true (by omega)
  have heq : (((bs.length + ts.length : Nat) : Int) == (bs.length : Int) + (ts.length : Int)) = true := by rw [beq_iff_eq]; omega
  refine pc_of_aw Tryd.func8 rfl (by kernel_rfl) mixed (by kernel_rfl) (by rw [Tryd.ntmps8]; exact Nat.le_of_ble_eq_true rfl) Tryd.results8 ?_
  repeat (first | ((first | (with_reducible apply rpGT) | (with_reducible apply drGT) | (with_reducible apply rpGTN) | (with_reducible apply drGTN)); exact rfl; exact gval_t rfl; (first | exact rfl | assumption | decide); (focus repeat' (first | exact trivial | refine And.intro ?_ ?_)); (first | ((refine does_callG' [] [(2000, 21)] (ups := [(21, .var 83 [.d (rawsD (l.take 40)), .d (iD n'), .d (colsD cols)])]) (v := (.tu [.d (exD x), .d (colsD cols), .px 21 0])) rfl (g1) rfl ?_ rfl ?_ ?_ rfl rfl rfl rfl rfl ?_ ?_ rfl rfl rfl; (focus repeat' exact trivial); (focus repeat' (first | exact trivial | exact inB_px rfl | refine And.intro ?_ ?_)); (focus repeat' (first | exact trivial | exact inB_px rfl | refine And.intro ?_ ?_)); (focus repeat' (first | exact trivial | exact inB_px rfl | refine And.intro ?_ ?_)); (focus repeat' (first | exact trivial | exact inB_px rfl | refine And.intro ?_ ?_))); (first | exact lapp_nil _ | exact lapp_1 _ _ | exact lapp_2 _ _ _ | exact lapp_3 _ _ _ _)) | ((first | ((with_reducible apply does_call'); exact rfl; exact rfl; exact rfl; exact (s1)) | ((with_reducible apply does_call'); exact rfl; exact rfl; exact rfl; exact (b1)) | ((with_reducible apply does_call1); exact rfl; exact rfl; exact rfl; exact (a1)) | ((with_reducible apply does_call_flat); exact rfl; exact rfl; exact (m1); exact rfl) | (exact does_gt_b hgt rfl rfl) | (exact does_eq_bA heq rfl rfl) | (exact does_add_to (z := (bs.length : Int) + (ts.length : Int)) rfl rfl rfl (by omega) (by omega)) | ((with_reducible apply does_move); (conv => lhs; whnf)) | ((with_reducible apply does_assign); (conv => lhs; whnf)) | ((with_reducible apply does_and); exact rfl; exact rfl; exact rfl; exact trivial) | ((with_reducible apply does_load_row); exact tyOk rfl; exact rfl; exact rfl; exact rfl; exact Nat.le_of_ble_eq_true rfl; exact rfl) | ((with_reducible apply does_eq); exact rfl; exact rfl) | ((with_reducible apply does_extract); exact rfl; exact rfl) | ((with_reducible apply does_extractA); exact rfl; exact rfl) | ((with_reducible apply does_len_sl); exact tyOk rfl; exact rfl; exact rfl) | ((with_reducible apply does_build); exact tyOk rfl; exact rfl; exact rfl; (focus repeat' (first | exact rfl | refine ⟨_, _, rfl, rfl, Nat.le_of_ble_eq_true rfl, rfl, ?_⟩)); exact rfl) | ((with_reducible apply does_alloc); exact tyOk rfl; exact rfl) | ((with_reducible apply does_buildSlice); exact tyOk rfl; exact rfl; exact tyOk rfl; exact rfl; exact rfl; (focus repeat' (first | exact trivial | refine And.intro rfl (And.intro rfl ?_))); decide; decide; exact rfl) | ((with_reducible apply does_append_own); exact tyOk rfl; exact rfl; exact tyOk rfl; exact rfl; exact rfl; exact rfl; decide; (first | (dsimp only; simp only [List.length_map, List.length_append, List.length_cons, List.length_nil] at *; omega) | (simp only [List.length_map, List.length_append, List.length_cons, List.length_nil] at *; omega)); (first | (dsimp only; simp only [List.length_map, List.length_append, List.length_cons, List.length_nil] at *; omega) | (simp only [List.length_map, List.length_append, List.length_cons, List.length_nil] at *; omega)); exact rfl) | ((with_reducible apply does_store_whole); exact tyOk rfl; exact rfl; exact rfl; exact rfl; exact rfl; exact rfl)); (first | exact lapp_nil _ | exact lapp_1 _ _ | exact lapp_2 _ _ _ | exact lapp_3 _ _ _ _)))) | (with_reducible first | apply aw_seq | apply aw_reg | apply rp_nil | apply ae_norm | apply aw_ret | apply re_ret) | ((with_reducible apply rp); first | ((with_reducible apply does_call'); exact rfl; exact rfl; exact rfl; exact (s1)) | ((with_reducible apply does_call'); exact rfl; exact rfl; exact rfl; exact (b1)) | ((with_reducible apply does_call_flat); exact rfl; exact rfl; exact (m1); exact rfl) | (exact does_gt_b hgt rfl rfl) | (exact does_eq_bA heq rfl rfl) | (exact does_add_to (z := (bs.length : Int) + (ts.length : Int)) rfl rfl rfl (by omega) (by omega)) | ((with_reducible apply does_move); (conv => lhs; whnf)) | ((with_reducible apply does_assign); (conv => lhs; whnf)) | ((with_reducible apply does_and); exact rfl; exact rfl; exact rfl; exact trivial) | ((with_reducible apply does_load_row); exact tyOk rfl; exact rfl; exact rfl; exact rfl; exact Nat.le_of_ble_eq_true rfl; exact rfl) | ((with_reducible apply does_eq); exact rfl; exact rfl) | ((with_reducible apply does_extract); exact rfl; exact rfl) | ((with_reducible apply does_extractA); exact rfl; exact rfl) | ((with_reducible apply does_len_sl); exact tyOk rfl; exact rfl; exact rfl) | ((with_reducible apply does_build); exact tyOk rfl; exact rfl; exact rfl; (focus repeat' (first | exact rfl | refine ⟨_, _, rfl, rfl, Nat.le_of_ble_eq_true rfl, rfl, ?_⟩)); exact rfl)) | ((with_reducible apply rp1); first | ((with_reducible apply does_call1); exact rfl; exact rfl; exact rfl; exact (a1)) | ((with_reducible apply does_alloc); exact tyOk rfl; exact rfl) | ((with_reducible apply does_buildSlice); exact tyOk rfl; exact rfl; exact tyOk rfl; exact rfl; exact rfl; (focus repeat' (first | exact trivial | refine And.intro rfl (And.intro rfl ?_))); decide; decide; exact rfl)) | ((with_reducible apply rp2); ((with_reducible apply does_append_own); exact tyOk rfl; exact rfl; exact tyOk rfl; exact rfl; exact rfl; exact rfl; decide; (first | (dsimp only; simp only [List.length_map, List.length_append, List.length_cons, List.length_nil] at *; omega) | (simp only [List.length_map, List.length_append, List.length_cons, List.length_nil] at *; omega)); (first | (dsimp only; simp only [List.length_map, List.length_append, List.length_cons, List.length_nil] at *; omega) | (simp only [List.length_map, List.length_append, List.length_cons, List.length_nil] at *; omega)); exact rfl)) | ((with_reducible apply rpN); ((with_reducible apply does_store_whole); exact tyOk rfl; exact rfl; exact rfl; exact rfl; exact rfl; exact rfl)) | ((with_reducible apply rpL); (refine does_callG' [] [(2000, 21)] (ups := [(21, .var 83 [.d (rawsD (l.take 40)), .d (iD n'), .d (colsD cols)])]) (v := (.tu [.d (exD x), .d (colsD cols), .px 21 0])) rfl (g1) rfl ?_ rfl ?_ ?_ rfl rfl rfl rfl rfl ?_ ?_ rfl rfl rfl; (focus repeat' exact trivial); (focus repeat' (first | exact trivial | exact inB_px rfl | refine And.intro ?_ ?_)); (focus repeat' (first | exact trivial | exact inB_px rfl | refine And.intro ?_ ?_)); (focus repeat' (first | exact trivial | exact inB_px rfl | refine And.intro ?_ ?_)); (focus repeat' (first | exact trivial | exact inB_px rfl | refine And.intro ?_ ?_))); exact lapp_nil _))
  (with_reducible apply ret_ok); (focus (repeat' (first | (with_reducible apply rv_nil) | (with_reducible apply rv_cons) | ((with_reducible apply rv_tmp); exact rfl)))); exact rfl; refine SubD.of_eq ?_
  rfl
theorem exprAhead_walk (A : Option Addr) (l : List Raw) (c : Nat) (kind : Int) (B : Option Addr) (q : List Raw) (d : Nat) (w : World) (h : RdR w w.heap.size A l) (hc : l.length ≤ c) (_ : c * 40 ≤ 140737488351232) (hr : ∀ r ∈ l, r.ok) (hd : I64 kind) (h2 : RdR w w.heap.size B q) (hc2 : q.length ≤ d) (_ : d * 40 ≤ 140737488351232) (hr2 : ∀ r ∈ q, r.ok) (hg : GlOk (Lt w) w) :
    Calls Tryd.prog 8 #[.slice A l.length c, .int .i64 kind, .slice B q.length d] w fun e w' => e = .returned (.bool true) ∧ Below w.heap.size w w' :=
  calls_of_pc (exprAhead_pc l kind q) (rep_cons (rep_raws h hc) (rep_cons (rep_int w kind) (rep_cons (rep_raws h2 hc2) rfl))) hg
end Go.Proofs.YtlpnnnmdkglkcaaDoor

