/-
  TapeKeeps: a record is there whole or not at all, wherever all falls, whatever lasts; those ahead of it are there.
-/
import Derived.Test.YtpaccaojgbfjdaaZTap9
import Derived.Test.YtpaccaojgbfjdaaZJoinD
namespace Go.Proofs.Ytpaccaojgbfjdaa
set_option linter.unusedSimpArgs false
set_option linter.unusedVariables false
open Go.RowKit

theorem crash_ok {lasts : List (List UInt8)} {d : Dk} (h : DkOk d) (z : Int) (hl : d.lasts = lasts) : ∃ keep, PC Try.prog 16 [dkD d, iD z] (.tu [dkD (crashF keep d), iD 0]) := crash_pc d h z
/-- The disk behind some deeds may be. -/
theorem steps_ok {lasts recs : List (List UInt8)} (h : Tape ⟨lasts, []⟩ recs) {r : List UInt8} (hr : RecOk r) (hf : (recsB (recs ++ [r])).length ≤ (lasts.length - 1) * 32) (k : Nat) : DkOk (stepsF ⟨lasts, []⟩ recs r k) := by
  have hl := app_len recs r
  have h1 := h.one
  have h2 := h.most
  have hw := tape_some h r (fun _ => true) (manyF (recsB recs).length (recsB (recs ++ [r])).length)
  have ha := tape_all h hr hf
  dsimp only at h1 h2
  unfold RecOk at hr
  unfold stepsF
  dsimp only
  split
  · rename_i hk
    unfold manyF at hk
    exact ws_ok h _ (by omega) (by omega)
  · split
    · exact hw.ok
    · split
      · have k2 := hw.ok
        refine ⟨k2.one, k2.most, by show 1 ≤ 60; omega, fun w hw => ?_, k2.sec, fun w hw => ?_⟩
        · rw [List.mem_singleton] at hw
          subst hw
          have := k2.one
          exact this
        · rw [List.mem_singleton] at hw
          subst hw
          exact headS_len _
      · exact ha.ok
theorem take_min' {α : Type} (l : List α) (m : Nat) : (l.take (min l.length m)).drop 0 = l.take m := by rw [List.drop_zero, take_min]
set_option maxHeartbeats 8000000 in
theorem tapeKeeps_pc (l : List Raw) (r : List UInt8) (after keep : Int) : PC Try.prog 4 [rawsD l, byD r, iD after, iD keep] (bD true) := by
  obtain ⟨lasts, hl30, ht, t1⟩ := taped_pc l
  have hrl : ((l.take 8).map recR).length ≤ 8 := by rw [List.length_map, List.length_take]; omega
  have hb := recsB_le 61 ((l.take 8).map recR) fun x hx => by
    obtain ⟨y, _, rfl⟩ := List.mem_map.1 hx; exact recR_len y
  generalize (l.take 8).map recR = recs at *
  obtain ⟨b, hbq⟩ : ∃ b : List UInt8, 9 :: r.take 100 = b := ⟨_, rfl⟩
  have hbl : b.length ≤ 101 ∧ 1 ≤ b.length := by rw [← hbq, List.length_cons, List.length_take]; omega
  have hro : RecOk b := ⟨hbl.2, by omega⟩
  have hal := app_len recs b
  have hfit : (recsB (recs ++ [b])).length ≤ (lasts.length - 1) * 32 := by rw [hl30, hal]; omega
  obtain ⟨v, hv⟩ : ∃ v : Nat, after % ((12 : Nat) : Int) = v := ⟨(after % 12).toNat, by omega⟩
  have p12 := picked_pc after 12 (by omega) (by omega)
  rw [hv] at p12
  have hv12 : v < 12 := by omega
  have a1 := append_pc lasts recs ht b hro hfit (v : Int) v (.inr ⟨rfl, by omega⟩)
  obtain ⟨kp, c1⟩ := crash_pc _ (steps_ok ht hro hfit v) keep
  have hc := crash_tape ht hro hfit kp v
  have hes : [[D.sc (.int .u8 9)]] ++ ((r.take 100).map fun c => [u8D c]) = b.map fun c => [u8D c] := by rw [← hbq]; rfl
  have htk := take_min' r 100
  clear hfit hal hb hro hbq hv hl30
  have hdk : ∀ d : Dk, dkD d = .ag [lastsD d.lasts, putsD d.writes] := fun d => rfl
  have hne : (recs == recs ++ [b]) = false := beq_eq_false_iff_ne.2 fun e => by
    have := congrArg List.length e
    simp at this
  obtain ⟨es, hes2⟩ : ∃ es, recs.map (fun p => [byD p]) = es := ⟨_, rfl⟩
  have hel : es.length ≤ 8 := by rw [← hes2, List.length_map]; exact hrl
  have hby : byL recs = .sl 1 es := by unfold byL; rw [hes2]
  have hby2 : byL (recs ++ [b]) = .sl 1 (es ++ [[byD b]]) := by unfold byL; rw [List.map_append, hes2]; rfl
  have hr100 : (r.take 100).length ≤ 100 := by rw [List.length_take]; omega
  rcases hc with hc | ⟨hlt, hc⟩
  · have o1 := open_pc _ _ hc
    have s1 := sameLists_pc (recs ++ [b]) (recs ++ [b]) (by rw [List.length_append, List.length_singleton]; omega)
    rw [beq_self_eq_true, hby2] at s1
    rw [hby2] at o1
    rw [hby] at t1
    generalize crashF kp (stepsF ⟨lasts, []⟩ recs b v) = Y at *
    generalize stepsF ⟨lasts, []⟩ recs b v = S at *
    generalize decide (deedsF recs b ≤ v) = dn at *
    simp only [hdk] at t1 a1 c1 o1
    clear hc hne hes2 hby hby2 hdk ht
    generalize lastsD Y.lasts = Y1 at *
    generalize putsD Y.writes = Y2 at *
    generalize lastsD S.lasts = S1 at *
    generalize putsD S.writes = S2 at *
    refine pc_of_aw Try.func4 rfl (by kernel_rfl) mixed (by kernel_rfl) (by rw [Try.ntmps4]; exact Nat.le_of_ble_eq_true rfl) Try.results4 ?_
    repeat (first | ((with_reducible apply rp1); exact does_assign_by (t := 34) (b := b) rfl rfl hes) | ((first | (with_reducible apply rpGT) | (with_reducible apply drGT) | (with_reducible apply rpGTN) | (with_reducible apply drGTN)); exact rfl; (first | exact gval_f rfl | exact gval_gt rfl); (first | exact rfl | assumption | decide); (focus repeat' (first | exact trivial | exact fun h => h | refine And.intro ?_ ?_)); ((first | ((with_reducible apply does_call'); exact rfl; exact rfl; exact rfl; exact (t1)) | (exact does_min_nat (a := r.length) (b := 100) rfl rfl rfl rfl) | (exact does_slice_bl (l := 0) (h := min r.length 100) (c := r.take 100) (tyOk rfl) rfl (tyOk rfl) rfl rfl rfl ⟨_, _, rfl, rfl⟩ (by omega) (by omega) htk) | ((with_reducible apply does_call_flat); exact rfl; exact rfl; exact (p12); exact rfl) | ((with_reducible apply does_call'); exact rfl; exact rfl; exact rfl; exact (a1)) | ((with_reducible apply does_call'); exact rfl; exact rfl; exact rfl; exact (c1)) | ((with_reducible apply does_call'); exact rfl; exact rfl; exact rfl; exact (o1)) | ((with_reducible apply does_call_flat); exact rfl; exact rfl; exact (s1); exact rfl) | ((with_reducible apply does_move); (conv => lhs; whnf)) | ((with_reducible apply does_assign); (conv => lhs; whnf)) | ((with_reducible apply does_and); exact rfl; exact rfl; exact rfl; exact trivial) | ((with_reducible apply does_pickT); exact rfl; (first | assumption | decide); (conv => lhs; whnf)) | ((with_reducible apply does_load_row); exact tyOk rfl; exact rfl; exact rfl; exact rfl; exact Nat.le_of_ble_eq_true rfl; exact rfl) | ((with_reducible apply does_ne); exact rfl; exact rfl) | ((with_reducible apply does_not); exact rfl) | ((with_reducible apply does_extract); exact rfl; exact rfl) | ((with_reducible apply does_len_map); exact tyOk rfl; exact rfl; exact rfl) | ((with_reducible apply does_alloc); exact tyOk rfl; exact rfl) | ((with_reducible apply does_buildSlice); exact tyOk rfl; exact rfl; exact tyOk rfl; exact rfl; exact rfl; (focus repeat' (first | exact trivial | refine And.intro rfl (And.intro rfl ?_))); decide; decide; exact rfl) | ((with_reducible apply does_append_own); exact tyOk rfl; exact rfl; exact tyOk rfl; exact rfl; exact rfl; exact rfl; decide; (first | (dsimp only; simp only [List.length_map, List.length_append, List.length_cons, List.length_nil] at *; omega) | (simp only [List.length_map, List.length_append, List.length_cons, List.length_nil] at *; omega)); (first | (dsimp only; simp only [List.length_map, List.length_append, List.length_cons, List.length_nil] at *; omega) | (simp only [List.length_map, List.length_append, List.length_cons, List.length_nil] at *; omega)); exact rfl) | ((with_reducible apply does_store_whole); exact tyOk rfl; exact rfl; exact rfl; exact rfl; exact rfl; exact rfl)); (first | exact lapp_nil _ | exact lapp_1 _ _ | exact lapp_2 _ _ _ | exact lapp_3 _ _ _ _))) | (with_reducible first | apply aw_seq | apply aw_reg | apply rp_nil | apply ae_norm | apply aw_ret | apply re_ret | apply aw_skip) | ((first | (with_reducible apply rp) | ((with_reducible apply rpG); exact rfl; (first | exact gval_f rfl | exact gval_gt rfl); (focus repeat' (first | exact trivial | exact fun h => h | refine And.intro ?_ ?_)); intro hgd; have hgd0 := hgd; (try simp only [decide_eq_true_eq, Bool.and_eq_true, Bool.not_eq_true', beq_iff_eq] at hgd))); first | ((with_reducible apply does_call'); exact rfl; exact rfl; exact rfl; exact (t1)) | (exact does_min_nat (a := r.length) (b := 100) rfl rfl rfl rfl) | (exact does_slice_bl (l := 0) (h := min r.length 100) (c := r.take 100) (tyOk rfl) rfl (tyOk rfl) rfl rfl rfl ⟨_, _, rfl, rfl⟩ (by omega) (by omega) htk) | ((with_reducible apply does_call_flat); exact rfl; exact rfl; exact (p12); exact rfl) | ((with_reducible apply does_call'); exact rfl; exact rfl; exact rfl; exact (a1)) | ((with_reducible apply does_call'); exact rfl; exact rfl; exact rfl; exact (c1)) | ((with_reducible apply does_call'); exact rfl; exact rfl; exact rfl; exact (o1)) | ((with_reducible apply does_call_flat); exact rfl; exact rfl; exact (s1); exact rfl) | ((with_reducible apply does_move); (conv => lhs; whnf)) | ((with_reducible apply does_assign); (conv => lhs; whnf)) | ((with_reducible apply does_and); exact rfl; exact rfl; exact rfl; exact trivial) | ((with_reducible apply does_pickT); exact rfl; (first | assumption | decide); (conv => lhs; whnf)) | ((with_reducible apply does_load_row); exact tyOk rfl; exact rfl; exact rfl; exact rfl; exact Nat.le_of_ble_eq_true rfl; exact rfl) | ((with_reducible apply does_ne); exact rfl; exact rfl) | ((with_reducible apply does_not); exact rfl) | ((with_reducible apply does_extract); exact rfl; exact rfl) | ((with_reducible apply does_len_map); exact tyOk rfl; exact rfl; exact rfl)) | ((with_reducible apply rp1); first | ((with_reducible apply does_alloc); exact tyOk rfl; exact rfl) | ((with_reducible apply does_buildSlice); exact tyOk rfl; exact rfl; exact tyOk rfl; exact rfl; exact rfl; (focus repeat' (first | exact trivial | refine And.intro rfl (And.intro rfl ?_))); decide; decide; exact rfl)) | ((with_reducible apply rp2); ((with_reducible apply does_append_own); exact tyOk rfl; exact rfl; exact tyOk rfl; exact rfl; exact rfl; exact rfl; decide; (first | (dsimp only; simp only [List.length_map, List.length_append, List.length_cons, List.length_nil] at *; omega) | (simp only [List.length_map, List.length_append, List.length_cons, List.length_nil] at *; omega)); (first | (dsimp only; simp only [List.length_map, List.length_append, List.length_cons, List.length_nil] at *; omega) | (simp only [List.length_map, List.length_append, List.length_cons, List.length_nil] at *; omega)); exact rfl)) | ((with_reducible apply rpN); ((with_reducible apply does_store_whole); exact tyOk rfl; exact rfl; exact rfl; exact rfl; exact rfl; exact rfl)) | ((with_reducible apply aw_cond); exact rfl; (focus (intro hd; (cases hd; done))); (intro hd; clear hd)) | ((first | (with_reducible apply rpGF) | (with_reducible apply drGF)); exact rfl; (first | exact gval_f rfl | exact gval_gt rfl); (first | assumption | decide | exact rfl); (focus repeat' (first | exact trivial | exact fun h => h | refine And.intro ?_ ?_))))
    (with_reducible apply ret_ok); (focus (repeat' (first | (with_reducible apply rv_nil) | (with_reducible apply rv_cons) | ((with_reducible apply rv_tmp); exact rfl)))); exact rfl; refine SubD.of_eq ?_
    rfl
  · have o1 := open_pc _ _ hc
    have s1 := sameLists_pc recs (recs ++ [b]) (by omega)
    have s2 := sameLists_pc recs recs (by omega)
    rw [hne, hby, hby2] at s1
    rw [beq_self_eq_true, hby] at s2
    rw [hby] at o1
    rw [decide_eq_false (by omega)] at a1
    rw [hby] at t1
    generalize crashF kp (stepsF ⟨lasts, []⟩ recs b v) = Y at *
    generalize stepsF ⟨lasts, []⟩ recs b v = S at *
    simp only [hdk] at t1 a1 c1 o1
    clear hc hne hes2 hby hby2 hdk ht
    generalize lastsD Y.lasts = Y1 at *
    generalize putsD Y.writes = Y2 at *
    generalize lastsD S.lasts = S1 at *
    generalize putsD S.writes = S2 at *
    refine pc_of_aw Try.func4 rfl (by kernel_rfl) mixed (by kernel_rfl) (by rw [Try.ntmps4]; exact Nat.le_of_ble_eq_true rfl) Try.results4 ?_
    repeat (first | ((with_reducible apply rp1); exact does_assign_by (t := 34) (b := b) rfl rfl hes) | ((first | (with_reducible apply rpGT) | (with_reducible apply drGT) | (with_reducible apply rpGTN) | (with_reducible apply drGTN)); exact rfl; (first | exact gval_t rfl | exact gval_f rfl); (first | exact rfl | assumption | decide); (focus repeat' (first | exact trivial | refine And.intro ?_ ?_)); ((first | ((with_reducible apply does_call'); exact rfl; exact rfl; exact rfl; exact (t1)) | (exact does_min_nat (a := r.length) (b := 100) rfl rfl rfl rfl) | (exact does_slice_bl (l := 0) (h := min r.length 100) (c := r.take 100) (tyOk rfl) rfl (tyOk rfl) rfl rfl rfl ⟨_, _, rfl, rfl⟩ (by omega) (by omega) htk) | ((with_reducible apply does_call_flat); exact rfl; exact rfl; exact (p12); exact rfl) | ((with_reducible apply does_call'); exact rfl; exact rfl; exact rfl; exact (a1)) | ((with_reducible apply does_call'); exact rfl; exact rfl; exact rfl; exact (c1)) | ((with_reducible apply does_call'); exact rfl; exact rfl; exact rfl; exact (o1)) | ((with_reducible apply does_call_flat); exact rfl; exact rfl; exact (s1); exact rfl) | ((with_reducible apply does_call_flat); exact rfl; exact rfl; exact (s2); exact rfl) | ((with_reducible apply does_move); (conv => lhs; whnf)) | ((with_reducible apply does_assign); (conv => lhs; whnf)) | ((with_reducible apply does_and); exact rfl; exact rfl; exact rfl; exact trivial) | ((with_reducible apply does_or); exact rfl; exact rfl; exact rfl; exact trivial) | ((with_reducible apply does_load_row); exact tyOk rfl; exact rfl; exact rfl; exact rfl; exact Nat.le_of_ble_eq_true rfl; exact rfl) | ((with_reducible apply does_ne); exact rfl; exact rfl) | ((with_reducible apply does_not); exact rfl) | ((with_reducible apply does_extract); exact rfl; exact rfl) | ((with_reducible apply does_len_map); exact tyOk rfl; exact rfl; exact rfl) | ((with_reducible apply does_alloc); exact tyOk rfl; exact rfl) | ((with_reducible apply does_buildSlice); exact tyOk rfl; exact rfl; exact tyOk rfl; exact rfl; exact rfl; (focus repeat' (first | exact trivial | refine And.intro rfl (And.intro rfl ?_))); decide; decide; exact rfl) | ((with_reducible apply does_append_own); exact tyOk rfl; exact rfl; exact tyOk rfl; exact rfl; exact rfl; exact rfl; decide; (first | (dsimp only; simp only [List.length_map, List.length_append, List.length_cons, List.length_nil] at *; omega) | (simp only [List.length_map, List.length_append, List.length_cons, List.length_nil] at *; omega)); (first | (dsimp only; simp only [List.length_map, List.length_append, List.length_cons, List.length_nil] at *; omega) | (simp only [List.length_map, List.length_append, List.length_cons, List.length_nil] at *; omega)); exact rfl) | ((with_reducible apply does_store_whole); exact tyOk rfl; exact rfl; exact rfl; exact rfl; exact rfl; exact rfl)); (first | exact lapp_nil _ | exact lapp_1 _ _ | exact lapp_2 _ _ _ | exact lapp_3 _ _ _ _))) | (with_reducible first | apply aw_seq | apply aw_reg | apply rp_nil | apply ae_norm | apply aw_ret | apply re_ret | apply aw_skip) | ((with_reducible apply rp); first | ((with_reducible apply does_call'); exact rfl; exact rfl; exact rfl; exact (t1)) | (exact does_min_nat (a := r.length) (b := 100) rfl rfl rfl rfl) | (exact does_slice_bl (l := 0) (h := min r.length 100) (c := r.take 100) (tyOk rfl) rfl (tyOk rfl) rfl rfl rfl ⟨_, _, rfl, rfl⟩ (by omega) (by omega) htk) | ((with_reducible apply does_call_flat); exact rfl; exact rfl; exact (p12); exact rfl) | ((with_reducible apply does_call'); exact rfl; exact rfl; exact rfl; exact (a1)) | ((with_reducible apply does_call'); exact rfl; exact rfl; exact rfl; exact (c1)) | ((with_reducible apply does_call'); exact rfl; exact rfl; exact rfl; exact (o1)) | ((with_reducible apply does_call_flat); exact rfl; exact rfl; exact (s1); exact rfl) | ((with_reducible apply does_call_flat); exact rfl; exact rfl; exact (s2); exact rfl) | ((with_reducible apply does_move); (conv => lhs; whnf)) | ((with_reducible apply does_assign); (conv => lhs; whnf)) | ((with_reducible apply does_and); exact rfl; exact rfl; exact rfl; exact trivial) | ((with_reducible apply does_or); exact rfl; exact rfl; exact rfl; exact trivial) | ((with_reducible apply does_load_row); exact tyOk rfl; exact rfl; exact rfl; exact rfl; exact Nat.le_of_ble_eq_true rfl; exact rfl) | ((with_reducible apply does_ne); exact rfl; exact rfl) | ((with_reducible apply does_not); exact rfl) | ((with_reducible apply does_extract); exact rfl; exact rfl) | ((with_reducible apply does_len_map); exact tyOk rfl; exact rfl; exact rfl)) | ((with_reducible apply rp1); first | ((with_reducible apply does_alloc); exact tyOk rfl; exact rfl) | ((with_reducible apply does_buildSlice); exact tyOk rfl; exact rfl; exact tyOk rfl; exact rfl; exact rfl; (focus repeat' (first | exact trivial | refine And.intro rfl (And.intro rfl ?_))); decide; decide; exact rfl)) | ((with_reducible apply rp2); ((with_reducible apply does_append_own); exact tyOk rfl; exact rfl; exact tyOk rfl; exact rfl; exact rfl; exact rfl; decide; (first | (dsimp only; simp only [List.length_map, List.length_append, List.length_cons, List.length_nil] at *; omega) | (simp only [List.length_map, List.length_append, List.length_cons, List.length_nil] at *; omega)); (first | (dsimp only; simp only [List.length_map, List.length_append, List.length_cons, List.length_nil] at *; omega) | (simp only [List.length_map, List.length_append, List.length_cons, List.length_nil] at *; omega)); exact rfl)) | ((with_reducible apply rpN); ((with_reducible apply does_store_whole); exact tyOk rfl; exact rfl; exact rfl; exact rfl; exact rfl; exact rfl)) | ((with_reducible apply aw_cond); exact rfl; (focus (intro hd; (cases hd; done))); (intro hd; clear hd)))
    (with_reducible apply ret_ok); (focus (repeat' (first | (with_reducible apply rv_nil) | (with_reducible apply rv_cons) | ((with_reducible apply rv_tmp); exact rfl)))); exact rfl; refine SubD.of_eq ?_
    rfl
theorem tapeKeeps_walk (A : Option Addr) (l : List Raw) (c : Nat) (B : Option Addr) (b : List UInt8) (d : Nat) (x y : Int) (w : World) (h : RdR w w.heap.size A l) (hc : l.length ≤ c) (_ : c * 40 ≤ 140737488351232) (_ : ∀ r ∈ l, r.ok) (hb : RdB w w.heap.size B b) (hd : b.length ≤ d) (_ : b.length ≤ 140737488355328) (hx : I64 x) (hy : I64 y) : Calls Try.prog 4 #[.slice A l.length c, .slice B b.length d, .int .i64 x, .int .i64 y] w fun e w' => e = .returned (.bool true) ∧ Below w.heap.size w w' :=
  calls_of_pc (tapeKeeps_pc l b x y) (rep_cons (rep_raws h hc) (rep_cons (rep_by hb hd) (rep_cons (rep_int w x) (rep_cons (rep_int w y) rfl))))
end Go.Proofs.Ytpaccaojgbfjdaa

