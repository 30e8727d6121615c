/-
  TreeFull answers true. No condition.
-/
import Derived.Test.YtobgjkkadnihjaaZTrDig
import Derived.Test.YtobgjkkadnihjaaZJoinD
namespace Go.Proofs.Ytobgjkkadnihjaa
set_option linter.unusedSimpArgs false
set_option linter.unusedVariables false
open Go.RowKit

theorem treeFull_pc (step one : Int) : PC Try.prog 3 [iD step, iD one] (bD true) := by
  obtain ⟨u, hu, pu⟩ := picked_nat step 6 (by decide) (by decide)
  obtain ⟨m, hm, pm⟩ := picked_nat one 100 (by decide) (by decide)
  obtain ⟨k, hk, hget⟩ : ∃ k : Nat, (k = 1 ∨ k = 3 ∨ k = 7 ∨ k = 9 ∨ k = 11 ∨ k = 99) ∧ ([[iD 1], [iD 3], [iD 7], [iD 9], [iD 11], [iD 99]] : List (List D))[u]? = some [iD k] := by
    have : u = 0 ∨ u = 1 ∨ u = 2 ∨ u = 3 ∨ u = 4 ∨ u = 5 := by omega
    rcases this with rfl | rfl | rfl | rfl | rfl | rfl
    · exact ⟨1, by omega, rfl⟩
    · exact ⟨3, by omega, rfl⟩
    · exact ⟨7, by omega, rfl⟩
    · exact ⟨9, by omega, rfl⟩
    · exact ⟨11, by omega, rfl⟩
    · exact ⟨99, by omega, rfl⟩
  obtain ⟨hinj, hsur⟩ := steps_inj k hk
  have hkb : k ≤ 99 := by omega
  clear hk
  refine pc_of_aw Try.func3 rfl (by kernel_rfl) mixed (by kernel_rfl) (by rw [Try.ntmps3]; exact Nat.le_of_ble_eq_true rfl) Try.results3 ?_
  repeat (with_reducible apply aw_seq)
  repeat (first | (refine aw_after (id := 2) mixed ?_; (with_reducible apply aw_reg)) | (with_reducible first | apply aw_seq | apply aw_reg | apply rp_nil | apply ae_norm) | ((with_reducible apply rp); first | ((with_reducible apply does_call_flat); exact rfl; exact rfl; exact (pu); exact rfl) | ((with_reducible apply does_move); (conv => lhs; whnf)) | ((with_reducible apply does_assign); (conv => lhs; whnf)) | ((with_reducible apply does_load_own); exact tyOk rfl; exact rfl; exact rfl; exact rfl; assumption; exact rfl) | ((with_reducible apply does_index_own); exact tyOk rfl; exact rfl; exact tyOk rfl; exact rfl; exact rfl; exact rfl; omega) | ((with_reducible apply does_zeroS); exact tyOk rfl; exact rfl; exact rfl)) | ((with_reducible apply rp1); first | ((with_reducible apply does_alloc); exact tyOk rfl; exact rfl) | ((with_reducible apply does_buildSlice); exact tyOk rfl; exact rfl; exact tyOk rfl; exact rfl; exact rfl; (focus repeat' (first | exact trivial | refine And.intro rfl (And.intro rfl ?_))); decide; decide; exact rfl)) | ((with_reducible apply rpN); ((with_reducible apply does_store_whole); exact tyOk rfl; exact rfl; exact rfl; exact rfl; exact rfl; exact rfl)))
  refine after1 (fun C ac w h => ent_nl 6 3 rfl h) ?_
  repeat (first | (with_reducible first | apply aw_seq | apply aw_reg | apply rp_nil | apply ae_norm | apply aw_block) | ((with_reducible apply rp); ((with_reducible apply does_move); (conv => lhs; whnf))))
  refine aw_loop (fun n s => ∃ i : Nat, i ≤ 100 ∧ n = 100 - i ∧ s = ⟨[(1, .d (iD one)), (5, .d (iD k)), (6, .px 6 0), (25, .d (iD i))], [(6, .var 26 [.d (nodesD (nodesO (stepF k i)))])]⟩) _ _ ?_ ⟨0, by omega, rfl, rfl⟩ ?_
  · refine forget_of [] (by repeat' (first | exact ks_nil | (refine ks_cons rfl (by exact SubA.refl _) ?_))) (by repeat' (first | exact trivial | exact rfl | refine And.intro ?_ ?_)) rfl (by repeat' (first | exact trivial | exact inB_px rfl | refine And.intro ?_ ?_)) (by repeat' (first | exact trivial | exact inB_px rfl | refine And.intro ?_ ?_))
  · rintro n s1 ⟨i, hi, rfl, rfl⟩
    repeat (first | (with_reducible first | apply aw_seq | apply aw_reg | apply rp_nil | apply ae_norm) | ((with_reducible apply rp); ((with_reducible apply does_lt); exact rfl; exact rfl)))
    refine aw_cond rfl (fun hd => ?_) (fun hd => ?_)
    · have hlt : i < 100 := by simp at hd; omega
      have hf := full_all hinj i (by omega)
      have p1 := put_good hf.good (key := dig (i * k % 100)) ((i * k % 100 : Nat) : Int) (Nat.le_of_ble_eq_true rfl) (.inr (by rw [hf.len]; exact hlt))
      have p1 : PC _ _ [treeD (nodesO (stepF k i)), strD (byS [chrB 48 (i * k % 100 / 10), chrB 48 (i * k % 100 % 10)]), iD ((i * k % 100 : Nat) : Int)] (.tu [treeD (nodesO (stepF k (i + 1))), iD 0]) := p1
      have hb : i * k ≤ 99 * 99 := Nat.mul_le_mul (by omega) hkb
      unfold treeD at p1
      generalize nodesD (nodesO (stepF k i)) = d1 at *
      generalize hd2 : nodesD (nodesO (stepF k (i + 1))) = d2 at *
      generalize hn : i * k % 100 = n at *
      have hn1 : n < 100 := by omega
      clear hf hd
      repeat (first | (with_reducible first | apply aw_seq | apply aw_reg | apply rp_nil | apply ae_norm | apply aw_block | apply be_norm | apply aw_skip) | ((with_reducible apply rp); first | (exact does_mul_to (z := ((i * k : Nat) : Int)) rfl rfl (Int.natCast_mul i k).symm (by omega) (by omega)) | (exact does_rem_to (m := i * k) (n := 100) rfl rfl rfl hn (by decide)) | (exact does_quo_to (m := n) (n := 10) rfl rfl rfl (by decide) (by omega)) | (exact does_rem_to (m := n) (n := 10) rfl rfl rfl rfl (by decide)) | (exact does_conv_chr (by omega) (tyOk rfl) (tyOk rfl) rfl rfl) | (exact does_chr (c := 48) (by omega) rfl rfl) | ((with_reducible apply does_call'); exact rfl; exact rfl; exact rfl; exact (p1)) | ((with_reducible apply does_move); (conv => lhs; whnf)) | ((with_reducible apply does_assign); (conv => lhs; whnf)) | ((with_reducible apply does_load_row); exact tyOk rfl; exact rfl; exact rfl; exact rfl; exact Nat.le_of_ble_eq_true rfl; exact rfl) | ((with_reducible apply does_ne); exact rfl; exact rfl) | ((with_reducible apply does_add); exact rfl; exact rfl; omega; omega) | ((with_reducible apply does_extract); exact rfl; exact rfl)) | ((with_reducible apply rp1); first | (exact does_frzT 42 rfl rfl (does_conv_bs (k := [_, _]) (tyOk rfl) rfl (tyOk rfl) rfl (tyOk rfl) rfl rfl)) | ((with_reducible apply does_alloc); exact tyOk rfl; exact rfl) | ((with_reducible apply does_buildSlice); exact tyOk rfl; exact rfl; exact tyOk rfl; exact rfl; exact rfl; (focus repeat' (first | exact trivial | refine And.intro rfl (And.intro rfl ?_))); decide; decide; exact rfl)) | ((with_reducible apply rpN); ((with_reducible apply does_store_whole); exact tyOk rfl; exact rfl; exact rfl; exact rfl; exact rfl; exact rfl)) | ((with_reducible apply aw_cond); exact rfl; (focus (intro hd; (cases hd; done))); (intro hd; clear hd)))
      refine ⟨100 - (i + 1), _, by omega, ?_, i + 1, by omega, rfl, rfl⟩
      rw [hd2]
      refine forget_of [] (by repeat' (first | exact ks_nil | (refine ks_cons rfl (by exact SubA.refl _) ?_))) (by repeat' (first | exact trivial | exact rfl | refine And.intro ?_ ?_)) rfl (by repeat' (first | exact trivial | exact inB_px rfl | refine And.intro ?_ ?_)) (by repeat' (first | exact trivial | exact inB_px rfl | refine And.intro ?_ ?_))
    · have hi2 : i = 100 := by simp at hd; omega
      subst hi2
      have hf := full_all hinj 100 (Nat.le_refl _)
      obtain ⟨j, hj, hjm⟩ := hsur m hm
      have hlook := hf.has j hj
      rw [hjm] at hlook
      have hnox : lookL kx (itemsO (stepF k 100)) = none := lookL_none fun p hp e => by
        obtain ⟨j, _, rfl⟩ := hf.of p hp
        exact two_kx rfl e
      have p1 := full_good hf.good (key := kx) 1 (by decide) hnox hf.len
      have p2 := put_good hf.good (key := dig m) 1000 (Nat.le_of_ble_eq_true rfl) (.inl (by rw [hlook]; rfl))
      have p3 := find_good hf.good (dig m)
      have p4 := check_good hf.good
      rw [hlook] at p3
      have p1 : PC _ _ [treeD (nodesO (stepF k 100)), strD ⟨#[120]⟩, iD 1] (.tu [.ag [.sl 3 []], iD 9]) := p1
      have p2 : PC _ _ [treeD (nodesO (stepF k 100)), strD (byS [chrB 48 (m / 10), chrB 48 (m % 10)]), iD 1000] (.tu [.ag [nodesD (nodesO (growO (dig m) 1000 (stepF k 100)))], iD 0]) := p2
      have p3 : PC _ _ [treeD (nodesO (stepF k 100)), strD (byS [chrB 48 (m / 10), chrB 48 (m % 10)])] (.tu [iD m, iD 0]) := p3
      have p4 : PC _ _ [treeD (nodesO (stepF k 100))] (iD 0) := p4
      generalize nodesD (nodesO (growO (dig m) 1000 (stepF k 100))) = d2 at *
      unfold treeD at *
      generalize nodesD (nodesO (stepF k 100)) = d1 at *
      clear hf hd hlook hnox hjm hj hi
      have hmm : ((m : Int) == (m : Int)) = true := by simp
      repeat (first | (refine aw_after (id := 14) mixed ?_; (with_reducible apply aw_reg)) | (with_reducible first | apply aw_seq | apply aw_reg | apply rp_nil | apply ae_norm | apply aw_exit | apply ae_exit | apply be_exit) | ((with_reducible apply rp); first | ((with_reducible apply does_call_flat); exact rfl; exact rfl; exact (pm); exact rfl) | (exact does_quo_to (m := m) (n := 10) rfl rfl rfl (by decide) (by omega)) | (exact does_rem_to (m := m) (n := 10) rfl rfl rfl rfl (by decide)) | (exact does_conv_chr (by omega) (tyOk rfl) (tyOk rfl) rfl rfl) | (exact does_chr (c := 48) (by omega) rfl rfl) | ((with_reducible apply does_call'); exact rfl; exact rfl; exact rfl; exact (p1)) | ((with_reducible apply does_move); (conv => lhs; whnf)) | ((with_reducible apply does_assign); (conv => lhs; whnf)) | ((with_reducible apply does_load_row); exact tyOk rfl; exact rfl; exact rfl; exact rfl; exact Nat.le_of_ble_eq_true rfl; exact rfl) | ((with_reducible apply does_extract); exact rfl; exact rfl)) | ((with_reducible apply rp1); first | (exact does_frzT 62 rfl rfl (does_conv_bs (k := [_, _]) (tyOk rfl) rfl (tyOk rfl) rfl (tyOk rfl) rfl rfl)) | ((with_reducible apply does_alloc); exact tyOk rfl; exact rfl) | ((with_reducible apply does_buildSlice); exact tyOk rfl; exact rfl; exact tyOk rfl; exact rfl; exact rfl; (focus repeat' (first | exact trivial | refine And.intro rfl (And.intro rfl ?_))); decide; decide; exact rfl)) | ((with_reducible apply rpN); ((with_reducible apply does_store_whole); exact tyOk rfl; exact rfl; exact rfl; exact rfl; exact rfl; exact rfl)))
      refine after1 (fun C ac w h => h) ?_
      repeat (first | (with_reducible first | apply aw_seq | apply aw_reg | apply rp_nil | apply ae_norm | apply aw_ret | apply re_ret) | ((first | (with_reducible apply rp) | ((with_reducible apply rpG); exact rfl; exact gval_t rfl; (focus repeat' (first | exact trivial | exact fun h => h | refine And.intro ?_ ?_)); intro hgd; have hgd0 := hgd; (try simp only [decide_eq_true_eq, Bool.and_eq_true, Bool.not_eq_true', beq_iff_eq] at hgd))); first | ((with_reducible apply does_call'); exact rfl; exact rfl; exact rfl; exact (p2)) | ((with_reducible apply does_call_flat); exact rfl; exact rfl; exact (p3); exact rfl) | ((with_reducible apply does_call_flat); exact rfl; exact rfl; exact (p4); exact rfl) | ((with_reducible apply does_move); (conv => lhs; whnf)) | ((with_reducible apply does_assign); (conv => lhs; whnf)) | ((with_reducible apply does_and); exact rfl; exact rfl; exact rfl; exact fun h => h) | ((with_reducible apply does_load_row); exact tyOk rfl; exact rfl; exact rfl; exact rfl; exact Nat.le_of_ble_eq_true rfl; exact rfl) | ((with_reducible apply does_eq); exact rfl; exact rfl) | ((with_reducible apply does_extract); exact rfl; exact rfl)) | ((with_reducible apply rp1); ((with_reducible apply does_alloc); exact tyOk rfl; exact rfl)) | ((with_reducible apply rpN); ((with_reducible apply does_store_whole); exact tyOk rfl; exact rfl; exact rfl; exact rfl; exact rfl; exact rfl)))
      (with_reducible apply ret_ok); (focus (repeat' (first | (with_reducible apply rv_nil) | (with_reducible apply rv_cons) | ((with_reducible apply rv_tmp); exact rfl)))); exact rfl; refine SubD.of_eq ?_
      refine congrArg bD (a₂ := true) ?_
      simp
theorem treeFull_walk (a b : Int) (w : World) (_ : I64 a) (_ : I64 b) : Calls Try.prog 3 #[.int .i64 a, .int .i64 b] w fun e w' => e = .returned (.bool true) ∧ Below w.heap.size w w' :=
  calls_of_pc (treeFull_pc a b) (rep_cons (rep_int w a) (rep_cons (rep_int w b) rfl))
end Go.Proofs.Ytobgjkkadnihjaa

