/-
  TapeOn: behind a fall a tape goes on, as if nothing had been.
-/
import Derived.Test.YtpaccaojgbfjdaaZTapeKeeps
namespace Go.Proofs.Ytpaccaojgbfjdaa
set_option linter.unusedSimpArgs false
set_option linter.unusedVariables false
open Go.RowKit

set_option maxHeartbeats 8000000 in
theorem tapeOn_pc (l : List Raw) (r s : List UInt8) (after keep : Int) : PC Try.prog 5 [rawsD l, byD r, byD s, iD after, iD keep] (bD true) := by
  obtain ⟨lasts, hl30, ht, t1⟩ := taped_pc l
  have hrl : ((l.take 8).map recR).length ≤ 8 := by rw [List.length_map, List.length_take]; omega
  have hb := recsB_le 61 ((l.take 8).map recR) fun x hx => by
    obtain ⟨y, _, rfl⟩ := List.mem_map.1 hx; exact recR_len y
  generalize (l.take 8).map recR = recs at *
  obtain ⟨b, hbq⟩ : ∃ b : List UInt8, 9 :: r.take 100 = b := ⟨_, rfl⟩
  have hbl : b.length ≤ 101 ∧ 1 ≤ b.length := by rw [← hbq, List.length_cons, List.length_take]; omega
  have hro : RecOk b := ⟨hbl.2, by omega⟩
  obtain ⟨c, hcq⟩ : ∃ c : List UInt8, 8 :: s.take 100 = c := ⟨_, rfl⟩
  have hcl : c.length ≤ 101 ∧ 1 ≤ c.length := by rw [← hcq, List.length_cons, List.length_take]; omega
  have hco : RecOk c := ⟨hcl.2, by omega⟩
  have hal := app_len recs b
  have hfit : (recsB (recs ++ [b])).length ≤ (lasts.length - 1) * 32 := by rw [hl30, hal]; omega
  obtain ⟨v, hv⟩ : ∃ v : Nat, after % ((12 : Nat) : Int) = v := ⟨(after % 12).toNat, by omega⟩
  have p12 := picked_pc after 12 (by omega) (by omega)
  rw [hv] at p12
  have hv12 : v < 12 := by omega
  have a1 := append_pc lasts recs ht b hro hfit (v : Int) v (.inr ⟨rfl, by omega⟩)
  obtain ⟨kp, c1⟩ := crash_pc _ (steps_ok ht hro hfit v) keep
  obtain ⟨rs, hY, hrs, hsz⟩ : ∃ rs, Tape (crashF kp (stepsF ⟨lasts, []⟩ recs b v)) rs ∧ rs.length ≤ 9 ∧ (recsB rs).length ≤ 67 * 8 + 107 := by
    rcases crash_tape ht hro hfit kp v with hc | ⟨_, hc⟩
    · exact ⟨_, hc, by rw [List.length_append, List.length_singleton]; omega, by rw [hal]; omega⟩
    · exact ⟨_, hc, by omega, by omega⟩
  have hY30 : (crashF kp (stepsF ⟨lasts, []⟩ recs b v)).lasts.length = 30 := by
    show (fallL _ _ _ _).length = 30
    rw [fallL_len, steps_len]
    exact hl30
  have o1 := open_pc _ _ hY
  have hYw : (crashF kp (stepsF ⟨lasts, []⟩ recs b v)).writes = [] := rfl
  generalize crashF kp (stepsF ⟨lasts, []⟩ recs b v) = Y at *
  generalize stepsF ⟨lasts, []⟩ recs b v = S at *
  obtain ⟨yl, yw⟩ := Y
  dsimp only at hYw hY30
  subst hYw
  have hal2 := app_len rs c
  obtain ⟨l2, _, ht2, a2⟩ := append_ok hY hco (by rw [hY30, hal2]; omega)
  have o2 := open_pc _ _ ht2
  have s1 := sameLists_pc (rs ++ [c]) (rs ++ [c]) (by rw [List.length_append, List.length_singleton]; omega)
  rw [beq_self_eq_true] at s1
  have hes : b.map (fun c => [u8D c]) = [[D.sc (.int .u8 9)]] ++ ((r.take 100).map fun c => [u8D c]) := by rw [← hbq]; rfl
  have hes3 : [[D.sc (.int .u8 8)]] ++ ((s.take 100).map fun c => [u8D c]) = c.map fun c => [u8D c] := by rw [← hcq]; rfl
  have htk := take_min' r 100
  have htk2 := take_min' s 100
  have hr100 : (r.take 100).length ≤ 100 := by rw [List.length_take]; omega
  have hs100 : (s.take 100).length ≤ 100 := by rw [List.length_take]; omega
  obtain ⟨es, hes2⟩ : ∃ es, rs.map (fun p => [byD p]) = es := ⟨_, rfl⟩
  have hel : es.length ≤ 9 := by rw [← hes2, List.length_map]; exact hrs
  have hby : byL rs = .sl 1 es := by unfold byL; rw [hes2]
  have hby2 : byL (rs ++ [c]) = .sl 1 (es ++ [[byD c]]) := by unfold byL; rw [List.map_append, hes2]; rfl
  have hdk : ∀ d : Dk, dkD d = .ag [lastsD d.lasts, putsD d.writes] := fun d => rfl
  rw [hby2] at s1 o2
  rw [hby] at o1
  generalize decide (deedsF recs b ≤ v) = dn at *
  generalize byL recs = rl at *
  simp only [hdk] at t1 a1 c1 o1 a2 o2
  unfold byD at a1
  rw [hes] at a1
  clear hfit hal hb hro hbq hv hl30 hcq hco hal2 hsz hY hes2 hby hby2 hdk ht ht2 hrl hes
  generalize lastsD S.lasts = S1 at *
  generalize putsD S.writes = S2 at *
  generalize lastsD yl = Y1 at *
  generalize lastsD l2 = Z1 at *
  refine pc_of_aw Try.func5 rfl (by kernel_rfl) mixed (by kernel_rfl) (by rw [Try.ntmps5]; exact Nat.le_of_ble_eq_true rfl) Try.results5 ?_
  repeat (first | ((with_reducible apply rp1); exact does_assign_by (t := 65) (b := c) rfl rfl hes3) | ((first | (with_reducible apply rpGT) | (with_reducible apply drGT) | (with_reducible apply rpGTN) | (with_reducible apply drGTN)); exact rfl; exact gval_t rfl; (first | exact rfl | assumption | decide); (focus repeat' (first | exact trivial | refine And.intro ?_ ?_)); ((first | ((with_reducible apply does_call'); exact rfl; exact rfl; exact rfl; exact (t1)) | (exact does_min_nat (a := r.length) (b := 100) rfl rfl rfl rfl) | (exact does_min_nat (a := s.length) (b := 100) rfl rfl rfl rfl) | (exact does_slice_bl (l := 0) (h := min r.length 100) (c := r.take 100) (tyOk rfl) rfl (tyOk rfl) rfl rfl rfl ⟨_, _, rfl, rfl⟩ (by omega) (by omega) htk) | (exact does_slice_bl (l := 0) (h := min s.length 100) (c := s.take 100) (tyOk rfl) rfl (tyOk rfl) rfl rfl rfl ⟨_, _, rfl, rfl⟩ (by omega) (by omega) htk2) | ((with_reducible apply does_call_flat); exact rfl; exact rfl; exact (p12); exact rfl) | ((with_reducible apply does_call1); exact rfl; exact rfl; exact rfl; exact (a1)) | ((with_reducible apply does_call'); exact rfl; exact rfl; exact rfl; exact (c1)) | ((with_reducible apply does_call'); exact rfl; exact rfl; exact rfl; exact (o1)) | ((with_reducible apply does_call'); exact rfl; exact rfl; exact rfl; exact (a2)) | ((with_reducible apply does_call'); exact rfl; exact rfl; exact rfl; exact (o2)) | ((with_reducible apply does_call_flat); exact rfl; exact rfl; exact (s1); exact rfl) | ((with_reducible apply does_move); (conv => lhs; whnf)) | ((with_reducible apply does_assign); (conv => lhs; whnf)) | ((with_reducible apply does_and); exact rfl; exact rfl; exact rfl; exact trivial) | ((with_reducible apply does_fieldAddr); exact tyOk rfl; exact rfl; exact rfl; decide; exact rfl) | ((with_reducible apply does_load_var); exact tyOk rfl; exact rfl; exact rfl; exact rfl; exact rfl) | ((with_reducible apply does_load_row); exact tyOk rfl; exact rfl; exact rfl; exact rfl; exact Nat.le_of_ble_eq_true rfl; exact rfl) | ((with_reducible apply does_eq); exact rfl; exact rfl) | ((with_reducible apply does_extract); exact rfl; exact rfl) | ((with_reducible apply does_len_map); exact tyOk rfl; exact rfl; exact rfl) | ((with_reducible apply does_alloc); exact tyOk rfl; exact rfl) | ((with_reducible apply does_buildSlice); exact tyOk rfl; exact rfl; exact tyOk rfl; exact rfl; exact rfl; (focus repeat' (first | exact trivial | refine And.intro rfl (And.intro rfl ?_))); decide; decide; exact rfl) | ((with_reducible apply does_append_own); exact tyOk rfl; exact rfl; exact tyOk rfl; exact rfl; exact rfl; exact rfl; decide; (first | (dsimp only; simp only [List.length_map, List.length_append, List.length_cons, List.length_nil] at *; omega) | (simp only [List.length_map, List.length_append, List.length_cons, List.length_nil] at *; omega)); (first | (dsimp only; simp only [List.length_map, List.length_append, List.length_cons, List.length_nil] at *; omega) | (simp only [List.length_map, List.length_append, List.length_cons, List.length_nil] at *; omega)); exact rfl) | ((with_reducible apply does_store_whole); exact tyOk rfl; exact rfl; exact rfl; exact rfl; exact rfl; exact rfl)); (first | exact lapp_nil _ | exact lapp_1 _ _ | exact lapp_2 _ _ _ | exact lapp_3 _ _ _ _))) | (with_reducible first | apply aw_seq | apply aw_reg | apply rp_nil | apply ae_norm | apply aw_regD | apply aw_ret | apply re_ret) | ((with_reducible apply dr_nil); (first | kernel_rfl | exact rfl)) | ((with_reducible first | apply rp | apply dr); first | ((with_reducible apply does_call'); exact rfl; exact rfl; exact rfl; exact (t1)) | (exact does_min_nat (a := r.length) (b := 100) rfl rfl rfl rfl) | (exact does_min_nat (a := s.length) (b := 100) rfl rfl rfl rfl) | (exact does_slice_bl (l := 0) (h := min r.length 100) (c := r.take 100) (tyOk rfl) rfl (tyOk rfl) rfl rfl rfl ⟨_, _, rfl, rfl⟩ (by omega) (by omega) htk) | (exact does_slice_bl (l := 0) (h := min s.length 100) (c := s.take 100) (tyOk rfl) rfl (tyOk rfl) rfl rfl rfl ⟨_, _, rfl, rfl⟩ (by omega) (by omega) htk2) | ((with_reducible apply does_call_flat); exact rfl; exact rfl; exact (p12); exact rfl) | ((with_reducible apply does_call'); exact rfl; exact rfl; exact rfl; exact (c1)) | ((with_reducible apply does_call'); exact rfl; exact rfl; exact rfl; exact (o1)) | ((with_reducible apply does_call'); exact rfl; exact rfl; exact rfl; exact (a2)) | ((with_reducible apply does_call'); exact rfl; exact rfl; exact rfl; exact (o2)) | ((with_reducible apply does_call_flat); exact rfl; exact rfl; exact (s1); exact rfl) | ((with_reducible apply does_move); (conv => lhs; whnf)) | ((with_reducible apply does_assign); (conv => lhs; whnf)) | ((with_reducible apply does_and); exact rfl; exact rfl; exact rfl; exact trivial) | ((with_reducible apply does_fieldAddr); exact tyOk rfl; exact rfl; exact rfl; decide; exact rfl) | ((with_reducible apply does_load_var); exact tyOk rfl; exact rfl; exact rfl; exact rfl; exact rfl) | ((with_reducible apply does_load_row); exact tyOk rfl; exact rfl; exact rfl; exact rfl; exact Nat.le_of_ble_eq_true rfl; exact rfl) | ((with_reducible apply does_eq); exact rfl; exact rfl) | ((with_reducible apply does_extract); exact rfl; exact rfl) | ((with_reducible apply does_len_map); exact tyOk rfl; exact rfl; exact rfl)) | ((with_reducible first | apply rp1 | apply dr1); first | ((with_reducible apply does_call1); exact rfl; exact rfl; exact rfl; exact (a1)) | ((with_reducible apply does_alloc); exact tyOk rfl; exact rfl) | ((with_reducible apply does_buildSlice); exact tyOk rfl; exact rfl; exact tyOk rfl; exact rfl; exact rfl; (focus repeat' (first | exact trivial | refine And.intro rfl (And.intro rfl ?_))); decide; decide; exact rfl)) | ((with_reducible first | apply rp2 | apply dr2); ((with_reducible apply does_append_own); exact tyOk rfl; exact rfl; exact tyOk rfl; exact rfl; exact rfl; exact rfl; decide; (first | (dsimp only; simp only [List.length_map, List.length_append, List.length_cons, List.length_nil] at *; omega) | (simp only [List.length_map, List.length_append, List.length_cons, List.length_nil] at *; omega)); (first | (dsimp only; simp only [List.length_map, List.length_append, List.length_cons, List.length_nil] at *; omega) | (simp only [List.length_map, List.length_append, List.length_cons, List.length_nil] at *; omega)); exact rfl)) | ((with_reducible first | apply rpN | apply drN); ((with_reducible apply does_store_whole); exact tyOk rfl; exact rfl; exact rfl; exact rfl; exact rfl; exact rfl)))
  (with_reducible apply ret_ok); (focus (repeat' (first | (with_reducible apply rv_nil) | (with_reducible apply rv_cons) | ((with_reducible apply rv_tmp); exact rfl)))); exact rfl; refine SubD.of_eq ?_
  rfl
theorem tapeOn_walk (A : Option Addr) (l : List Raw) (c : Nat) (B : Option Addr) (b : List UInt8) (d : Nat) (C : Option Addr) (s : List UInt8) (f : Nat) (x y : Int) (w : World) (h : RdR w w.heap.size A l) (hc : l.length ≤ c) (_ : c * 40 ≤ 140737488351232) (_ : ∀ r ∈ l, r.ok) (hb : RdB w w.heap.size B b) (hd : b.length ≤ d) (_ : b.length ≤ 140737488355328) (hs : RdB w w.heap.size C s) (hf : s.length ≤ f) (_ : s.length ≤ 140737488355328) (hx : I64 x) (hy : I64 y) : Calls Try.prog 5 #[.slice A l.length c, .slice B b.length d, .slice C s.length f, .int .i64 x, .int .i64 y] w fun e w' => e = .returned (.bool true) ∧ Below w.heap.size w w' :=
  calls_of_pc (tapeOn_pc l b s x y) (rep_cons (rep_raws h hc) (rep_cons (rep_by hb hd) (rep_cons (rep_by hs hf) (rep_cons (rep_int w x) (rep_cons (rep_int w y) rfl)))))
end Go.Proofs.Ytpaccaojgbfjdaa

