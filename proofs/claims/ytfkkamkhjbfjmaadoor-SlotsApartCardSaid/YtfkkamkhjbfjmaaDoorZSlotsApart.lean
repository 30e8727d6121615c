/-
  The law SlotsApart returns true. No condition.
-/
import Derived.Test.YtfkkamkhjbfjmaaDoorZSlotL
import Derived.Test.YtfkkamkhjbfjmaaDoorZJoinD
namespace Go.Proofs.YtfkkamkhjbfjmaaDoor
set_option linter.unusedSimpArgs false
set_option linter.unusedVariables false
open Go.RowKit

theorem set_row {s : List Sl3} {i : Nat} {z el : Sl3} : (s.map Sl3.cs).set i (putAt el.cs 0 z.cs) = (s.set i z).map Sl3.cs := by
  rw [List.map_set]; rfl
set_option maxHeartbeats 1000000 in
theorem slotsApart_pc (l : List Raw) (at_ : Int) (o : Raw) : PC Tryd.prog 3 [rawsD l, iD at_, .ag o.cs] (bD true) := by
  have q1 := slotsOf_pc l
  have hl := slF_len l
  have hok := slF_ok l
  generalize slF l = s at *
  have hs0 : 0 < s.length := by omega
  obtain ⟨i, hi, p1⟩ := picked_nat at_ s.length hs0 (by omega)
  have z1 := slotOf_pc o
  have hz := slotR_ok o
  generalize slotR o = z at *
  obtain ⟨x, hx⟩ : ∃ x, s[i]? = some x := ⟨_, List.getElem?_eq_getElem hi⟩
  have htl : (s.set i z).length = s.length := by simp
  have htok : ∀ t ∈ s.set i z, t.ok := fun t ht => by
    rcases List.mem_or_eq_of_mem_set ht with h | rfl
    · exact hok t h
    · exact hz
  have r1 := sroot_pc 2 (.inr rfl) s hl hok
  have r2 := sroot_pc 2 (.inr rfl) (s.set i z) (by rw [htl]; exact hl) htok
  have hp := rootSF_pos 2 hl
  have s1 := sameSlot_pc x z
  have hiff : (x.full == z.full && x.salt == z.salt && x.data == z.data) = true ↔ rootSF 2 s = rootSF 2 (s.set i z) := by
    constructor
    · intro h
      simp only [Bool.and_eq_true, beq_iff_eq] at h
      have hxz : x = z := by
        obtain ⟨f, sa, d⟩ := x
        obtain ⟨f', sa', d'⟩ := z
        simp only at h
        rw [h.1.1, h.1.2, h.2]
      have : s.set i z = s := by
        apply List.ext_getElem?
        intro j
        rw [List.getElem?_set]
        by_cases hj : i = j
        · subst hj
          rw [if_pos rfl, if_pos hi, hx, hxz]
        · rw [if_neg hj]
      rw [this]
    · intro h
      have := rootSF_inj hl htl hok htok h
      have hxz : s[i]? = some z := by rw [this, List.getElem?_set, if_pos rfl, if_pos hi]
      rw [hx] at hxz
      injection hxz with hxz
      rw [hxz]; simp
  have hti : (s.set i z)[i]? = some z := by rw [List.getElem?_set, if_pos rfl, if_pos hi]
  generalize (x.full == z.full && x.salt == z.salt && x.data == z.data) = c at *
  generalize rootSF 2 s = ra at *
  generalize rootSF 2 (s.set i z) = rb at *
  have hsl : s.length ≤ 16 := by omega
  clear hl hok hz htok
  have e2 : D.sl 3 (([] ++ s.map Sl3.cs).set i (putAt x.cs 0 (D.ag z.cs).cells)) = slotsD (s.set i z) := congrArg (D.sl 3) set_row
  rw [← e2] at r2
  have ht2 : (([] ++ s.map Sl3.cs).set i (putAt x.cs 0 (D.ag z.cs).cells))[i]? = some z.cs := by
    show ((s.map Sl3.cs).set i (putAt x.cs 0 z.cs))[i]? = _
    rw [set_row, List.getElem?_map, hti]; rfl
  have ht3 : (([] ++ s.map Sl3.cs).set i (putAt x.cs 0 (D.ag z.cs).cells)).length = s.length := by simp
  have hra : decide ((ra.length : Int) > 0) = true := decide_eq_true (by omega)
  clear e2 hti htl
  refine pc_of_aw Tryd.func3 rfl (by kernel_rfl) mixed (by kernel_rfl) (by rw [Tryd.ntmps3]; exact Nat.le_of_ble_eq_true rfl) Tryd.results3 ?_
  repeat (first | (with_reducible apply aw_seq) | (with_reducible apply aw_reg) | (with_reducible apply rp_nil) | (with_reducible apply ae_norm) | (with_reducible apply aw_regD) | (with_reducible apply aw_ret) | (with_reducible apply re_ret) | ((with_reducible apply be_other); exact rfl) | ((with_reducible apply dr_nil); first | kernel_rfl | exact rfl) | ((first | (with_reducible apply rp) | (with_reducible apply dr) | ((first | (with_reducible apply rpG) | (with_reducible apply drG)); exact rfl; (first | exact gval_t rfl | exact gval_f rfl | exact gval_gt rfl | exact gval_gf rfl); (focus repeat' (first | exact trivial | exact fun h => h | refine And.intro ?_ ?_ | (intro h; first | exact h | (simp only [Bool.and_eq_true] at h; first | exact h.1 | exact h.1.1 | exact h.1.1.1 | exact h.2) | simp_all))); intro hgd; (try simp only [decide_eq_true_eq, Bool.and_eq_true, Bool.not_eq_true', beq_iff_eq] at hgd))); first | ((with_reducible apply does_call_flat); exact rfl; exact rfl; exact (q1); exact rfl) | ((with_reducible apply does_call'); exact rfl; exact rfl; exact rfl; exact (q1)) | ((with_reducible apply does_call_flat); exact rfl; exact rfl; exact (p1); exact rfl) | ((with_reducible apply does_call'); exact rfl; exact rfl; exact rfl; exact (p1)) | ((with_reducible apply does_call_flat); exact rfl; exact rfl; exact (z1); exact rfl) | ((with_reducible apply does_call'); exact rfl; exact rfl; exact rfl; exact (z1)) | ((with_reducible apply does_call_flat); exact rfl; exact rfl; exact (r1); exact rfl) | ((with_reducible apply does_call'); exact rfl; exact rfl; exact rfl; exact (r1)) | ((with_reducible apply does_call_flat); exact rfl; exact rfl; exact (r2); exact rfl) | ((with_reducible apply does_call'); exact rfl; exact rfl; exact rfl; exact (r2)) | (exact does_seq_by rfl rfl hiff) | ((with_reducible apply does_call_flat); exact rfl; exact rfl; exact (s1); exact rfl) | ((with_reducible apply does_call'); exact rfl; exact rfl; exact rfl; exact (s1)) | ((with_reducible apply does_move); (conv => lhs; whnf)) | ((with_reducible apply does_assign); (conv => lhs; whnf)) | ((with_reducible apply does_and); exact rfl; exact rfl; exact rfl; (first | exact trivial | exact fun h => h | (intro h; first | exact h | (simp only [Bool.and_eq_true] at h; first | exact h.1 | exact h.1.1 | exact h.1.1.1 | exact h.2) | simp_all))) | ((with_reducible apply does_load_var); exact tyOk rfl; exact rfl; exact rfl; exact rfl; exact rfl) | ((with_reducible apply does_load_elem); exact tyOk rfl; exact rfl; exact rfl; (first | assumption | exact map_get (by assumption) | exact rfl); exact rfl) | ((with_reducible apply does_load_own); exact tyOk rfl; exact rfl; exact rfl; exact rfl; (first | assumption | exact map_get (by assumption) | exact rfl); exact rfl) | ((with_reducible apply does_load_row); exact tyOk rfl; exact rfl; exact rfl; exact rfl; (first | exact Nat.le_of_ble_eq_true rfl | omega | (simp; omega)); exact rfl) | ((with_reducible apply does_load_elem_whole); exact tyOk rfl; exact rfl; exact rfl; (first | assumption | exact map_get (by assumption) | exact rfl); exact rfl) | ((with_reducible apply does_load_own_whole); exact tyOk rfl; exact rfl; exact rfl; exact rfl; (first | assumption | exact map_get (by assumption) | exact rfl); exact rfl) | ((with_reducible apply does_index_sl); exact tyOk rfl; exact rfl; exact tyOk rfl; exact rfl; exact rfl; exact rfl; exact rfl; (first | omega | (dsimp only; omega) | (dsimp only; simp only [List.length_map, List.length_append, List.length_cons, List.length_nil] at *; omega) | (simp only [List.length_map, List.length_append, List.length_cons, List.length_nil] at *; omega) | (simp; omega))) | ((with_reducible apply does_index_own); exact tyOk rfl; exact rfl; exact tyOk rfl; exact rfl; exact rfl; exact rfl; (first | omega | (dsimp only; omega) | (dsimp only; simp only [List.length_map, List.length_append, List.length_cons, List.length_nil] at *; omega) | (simp only [List.length_map, List.length_append, List.length_cons, List.length_nil] at *; omega) | (simp; omega))) | ((with_reducible apply does_eq); exact rfl; exact rfl) | ((with_reducible apply does_gt); exact rfl; exact rfl) | ((with_reducible apply does_seq); exact rfl; exact rfl) | ((with_reducible apply does_eqS); exact rfl; exact rfl; exact tgOk rfl; exact rfl) | ((with_reducible apply does_beq); exact tyOk rfl; exact rfl; exact rfl; exact rfl; exact rfl) | ((with_reducible apply does_extract); exact rfl; exact rfl) | ((with_reducible apply does_len_map); exact tyOk rfl; exact rfl; exact rfl) | ((with_reducible apply does_conv_i64); exact tyOk rfl; exact tyOk rfl; exact rfl; exact rfl; omega; omega) | ((with_reducible apply does_conv_int); exact tyOk rfl; exact tyOk rfl; exact rfl; exact rfl) | ((with_reducible apply does_conv_str); exact tyOk rfl; exact tyOk rfl; exact rfl; exact rfl) | ((with_reducible apply does_conv_bs); exact tyOk rfl; exact rfl; exact tyOk rfl; exact rfl; exact tyOk rfl; exact rfl; exact rfl)) | ((first | (with_reducible apply rp1) | (with_reducible apply dr1)); first | ((with_reducible apply does_call1); exact rfl; exact rfl; exact rfl; exact (q1)) | ((with_reducible apply does_call1); exact rfl; exact rfl; exact rfl; exact (p1)) | ((with_reducible apply does_call1); exact rfl; exact rfl; exact rfl; exact (z1)) | ((with_reducible apply does_call1); exact rfl; exact rfl; exact rfl; exact (r1)) | ((with_reducible apply does_call1); exact rfl; exact rfl; exact rfl; exact (r2)) | (exact does_seq_by rfl rfl hiff) | ((with_reducible apply does_call1); exact rfl; exact rfl; exact rfl; exact (s1)) | ((with_reducible apply does_box_ag); exact rfl; exact rfl) | ((with_reducible apply does_buildSlice); exact tyOk rfl; exact rfl; exact tyOk rfl; exact rfl; exact rfl; (focus repeat' (first | exact trivial | refine And.intro rfl (And.intro rfl ?_))); decide; decide; exact rfl) | ((with_reducible apply does_append_nil); exact tyOk rfl; exact rfl; exact tyOk rfl; exact rfl; exact rfl; decide; (first | omega | (dsimp only; omega) | (dsimp only; simp only [List.length_map, List.length_append, List.length_cons, List.length_nil] at *; omega) | (simp only [List.length_map, List.length_append, List.length_cons, List.length_nil] at *; omega) | (simp; omega)); (first | omega | (dsimp only; omega) | (dsimp only; simp only [List.length_map, List.length_append, List.length_cons, List.length_nil] at *; omega) | (simp only [List.length_map, List.length_append, List.length_cons, List.length_nil] at *; omega) | (simp; omega)); exact rfl)) | ((first | (with_reducible apply rp2) | (with_reducible apply dr2)); first | (exact does_seq_by rfl rfl hiff) | ((with_reducible apply does_append_own); exact tyOk rfl; exact rfl; exact tyOk rfl; exact rfl; exact rfl; exact rfl; decide; (first | omega | (dsimp only; omega) | (dsimp only; simp only [List.length_map, List.length_append, List.length_cons, List.length_nil] at *; omega) | (simp only [List.length_map, List.length_append, List.length_cons, List.length_nil] at *; omega) | (simp; omega)); (first | omega | (dsimp only; omega) | (dsimp only; simp only [List.length_map, List.length_append, List.length_cons, List.length_nil] at *; omega) | (simp only [List.length_map, List.length_append, List.length_cons, List.length_nil] at *; omega) | (simp; omega)); exact rfl)) | ((first | (with_reducible apply rpN) | (with_reducible apply drN)); first | (exact does_seq_by rfl rfl hiff) | ((with_reducible apply does_store); exact tyOk rfl; exact rfl; exact rfl; (conv => lhs; whnf); exact rfl; exact rfl; (first | exact Nat.le_of_ble_eq_true rfl | omega | (simp; omega))) | ((with_reducible apply does_store_whole); exact tyOk rfl; exact rfl; exact rfl; exact rfl; exact rfl; exact rfl) | ((with_reducible apply does_store_rowD); exact tyOk rfl; exact rfl; exact rfl; exact rfl; exact rfl; (first | exact Nat.le_of_ble_eq_true rfl | omega | (simp; omega))) | ((with_reducible apply does_store_wholeA); exact tyOk rfl; exact rfl; exact rfl; exact rfl; exact rfl; exact rfl) | ((with_reducible apply does_store_own); exact tyOk rfl; exact rfl; exact rfl; exact rfl; exact rfl; (first | assumption | exact map_get (by assumption) | exact rfl); exact rfl; (first | exact Nat.le_of_ble_eq_true rfl | omega | (simp; omega)))))
  (with_reducible apply ret_ok); (focus (repeat' (first | (with_reducible apply rv_nil) | (with_reducible apply rv_cons) | ((with_reducible apply rv_tmp); exact rfl) | ((with_reducible apply rv_cell); exact rfl; exact rfl; exact tyOk rfl; exact rfl; exact rfl) | ((with_reducible apply rv_rowd); exact rfl; exact rfl; exact tyOk rfl; exact rfl; (first | (with_reducible assumption) | exact rfl | ((try simp only [List.length_map]); first | assumption | omega) | (simp; omega))) | ((with_reducible apply rv_row); exact rfl; exact rfl; exact tyOk rfl; exact rfl; (first | exact Nat.le_of_ble_eq_true rfl | omega | (simp; omega)))))); (first | exact rfl | (focus repeat' (first | exact frzVs_one (frzV_map _ _) | exact rfl | (apply frzVs_cons; (first | exact frzV_map _ _ | exact rfl))))); refine SubD.of_eq ?_
  rw [hra]
  cases c <;> rfl
theorem slotsApart_walk (A : Option Addr) (l : List Raw) (c : Nat) (a : Int) (r : Raw) (w : World) (h : RdR w w.heap.size A l) (hc : l.length ≤ c) (_ : c * 40 ≤ 140737488351232) (_ : ∀ r ∈ l, r.ok) (ha : I64 a) (_ : r.ok) (hg : GlOk (Lt w) w) : Calls Tryd.prog 3 #[.slice A l.length c, .int .i64 a, .agg #[.int .i64 r.kind, .int .i64 r.a, .int .i64 r.b, .string r.text]] w fun e w' => e = .returned (.bool true) ∧ Below w.heap.size w w' :=
  calls_of_pc (slotsApart_pc l a r) (rep_cons (rep_raws h hc) (rep_cons (rep_int w a) (rep_cons (rep_raw w r) rfl))) hg
end Go.Proofs.YtfkkamkhjbfjmaaDoor
