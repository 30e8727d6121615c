/-
  index.Build, index.Pick. No condition but the sizes.
-/
import Derived.Test.YtfplkakfakdfhaaDoorZM21
import Derived.Test.YtfplkakfakdfhaaDoorZM6
import Derived.Test.YtfplkakfakdfhaaDoorZM5
import Derived.Test.YtfplkakfakdfhaaDoorZM2
import Derived.Test.YtfplkakfakdfhaaDoorZC
namespace Go.Proofs.YtfplkakfakdfhaaDoor
set_option linter.unusedSimpArgs false
set_option linter.unusedVariables false
open Go.RowKit

section
variable {σ : Sl} {β : Bx} {C : Ctx} {a : Act} {w : World}
/-- nil is an empty row of data. -/
theorem ent_nlI (id sz : Nat) {T : TypeId} (hl : look id β = some (.var T [.d .nl])) (hat : At C ⟨σ, β⟩ a w) : At C ⟨σ, [(id, .var T [.d (.sl sz [])])] ++ β⟩ a w := by
  refine at_mem (fun ρ I hm => ?_) hat
  obtain ⟨g, us, h1, h2, x, u1, q1, o1, r1, q2⟩ := hm.box id _ hl
  refine (mem_regroup hm _ ρ (fun _ _ => rfl) (fun i b hi => ?_) (fun i b k hi hh => ?_) (fun i j b b' k hi hj hh hh' => ?_)).1
  · obtain ⟨rfl, rfl⟩ := look_one hi
    exact ⟨⟨g, us, h1, h2, x, u1, q1, fun _ => rfl, SubD.nil sz I w x r1, q2⟩, trivial, trivial⟩
  · obtain ⟨rfl, rfl⟩ := look_one hi
    exact ⟨i, _, hl, look_a, hh⟩
  · obtain ⟨rfl, rfl⟩ := look_one hi
    obtain ⟨rfl, rfl⟩ := look_one hj
    rfl
end
theorem flip_0 (c : UInt8) : flipB (opnB 0 0) c = c := by
  have : opnB 0 0 = false := by decide
  unfold flipB
  rw [this]
  rfl
theorem EI_eq (n : Int) : EI n = lowB 3 :: eightB (lowL n ^^^ topU) := by
  unfold EI encF
  rw [encF, List.append_nil]
  have h : ∀ l : List UInt8, l.map (flipB (opnB 0 0)) = l := fun l => by
    rw [List.map_congr_left (g := id) (fun c _ => flip_0 c), List.map_id]
  rw [h]
  rfl
theorem tells_EI : Tells EI := by
  refine ⟨fun n => ?_, fun n m h1 h2 h3 s t => ?_⟩
  · rw [EI_eq, List.length_cons, eightB, eightK_len]; omega
  · rw [EI_eq, EI_eq]
    have e1 := low_top (n := n) h1 (by omega)
    have e2 := low_top (n := m) (by omega) (by omega)
    have hb : LtB (eightB (lowL n ^^^ topU)) (eightB (lowL m ^^^ topU)) := eightB_lt (by omega)
    exact ((hb.cons (lowB 3)).tail s t).less
theorem build_pc (cols cs : List Cl) (rows : List (List Vl)) (N : List Int) (hc : ColsOk cols) (hcs : cols = ⟨kN, 2, false⟩ :: cs) (hl : rows.length ≤ 64) (hf : ∀ r ∈ rows, FitR r cols) (hN : ∀ i, I6 (N.getD i 0)) (hrow : ∀ (i : Nat) (r : List Vl), rows[i]? = some r → ∃ rest, r = numV (N.getD i 0) :: rest) :
    PC Tryd.prog 7 [colsD cols, .sl 1 (rows.map fun r => [valsD r]), strD kN] (.tu [treeO (ixO EI N rows.length), iD 0]) := by
  have f1 := fit_pc cols rows hc hl hf
  have n1 : PC Tryd.prog 14 [colsD cols, strD kN] (.tu [iD 0, iD 0]) := by rw [hcs]; exact number_pc kN false cs
  have hok := fun k hk => ix_ok tells_EI hN k hk
  have hg : ∀ {k : Nat} {r : List Vl}, rows[k]? = some r → (rows.map fun r => [valsD r])[k]? = some [.sl 4 (r.map Vl.cs)] := fun h => by rw [List.getElem?_map, h]; rfl
  have hel : (rows.map fun r => [valsD r]).length = rows.length := List.length_map _
  generalize (rows.map fun r => [valsD r]) = es at *
  have hel2 : es.length ≤ 64 := by omega
  generalize colsD cols = cd at *
  unfold treeO treeD
  refine pc_of_aw Tryd.func7 rfl (by kernel_rfl) mixed (by kernel_rfl) (by rw [Tryd.ntmps7]; exact Nat.le_of_ble_eq_true rfl) Tryd.results7 ?_
  repeat (with_reducible apply aw_seq)
  repeat (first | (refine aw_exR1 (id := 8) mixed (fun C ac w h => ent_nlI 11 3 rfl h) ?_; (with_reducible apply aw_reg)) | (with_reducible first | apply aw_seq | apply aw_reg | apply rp_nil | apply ae_norm | apply aw_block | apply aw_skip) | ((with_reducible apply rp); first | ((with_reducible apply does_call_flat); exact rfl; exact rfl; exact (f1); exact rfl) | ((with_reducible apply does_call_flat); exact rfl; exact rfl; exact (n1); exact rfl) | ((with_reducible apply does_move); (conv => lhs; whnf)) | ((with_reducible apply does_assign); (conv => lhs; whnf)) | ((with_reducible apply does_ne); exact rfl; exact rfl) | ((with_reducible apply does_extract); exact rfl; exact rfl) | ((with_reducible apply does_len_sl); exact tyOk rfl; exact rfl; exact rfl)) | ((with_reducible apply rp1); ((with_reducible apply does_alloc); exact tyOk rfl; exact rfl)) | ((with_reducible apply aw_cond); exact rfl; (focus (intro hd; (cases hd; done))); (intro hd; clear hd)))
  refine aw_loop (fun n s => ∃ k, k ≤ es.length ∧ n = es.length - k ∧ s = ⟨[(6, .px 6 0), (9, .d (iD 0)), (11, .px 11 0), (31, .d (.sl 1 es)), (32, .d (iD es.length)), (33, .d (iD k))], [(6, .var 34 [.d .nl]), (11, .var 34 [.d (nodesD (nodesO (ixO EI N k)))])]⟩) _ _ ?_ ⟨0, by omega, rfl, rfl⟩ ?_
  · refine forget_of [] (by repeat' (first | exact ks_nil | (refine ks_cons rfl (by exact SubA.refl _) ?_))) (by repeat' (first | exact trivial | exact rfl | refine And.intro ?_ ?_)) rfl (by repeat' (first | exact trivial | exact inB_px rfl | refine And.intro ?_ ?_)) (by repeat' (first | exact trivial | exact inB_px rfl | refine And.intro ?_ ?_))
  · rintro n s1 ⟨k, hk, rfl, rfl⟩
    repeat (first | (with_reducible first | apply aw_seq | apply aw_reg | apply rp_nil | apply ae_norm) | ((with_reducible apply rp); ((with_reducible apply does_lt); exact rfl; exact rfl)))
    refine aw_cond rfl (fun hd => ?_) (fun hd => ?_)
    · have hlt : k < es.length := by simpa using hd
      obtain ⟨r, hr⟩ : ∃ r, rows[k]? = some r := ⟨_, List.getElem?_eq_getElem (by omega)⟩
      have hr2 := hg hr
      obtain ⟨rest, hre⟩ := hrow k r hr
      have hr0 : (r.map Vl.cs)[0]? = some [iD 2, iD (N.getD k 0), qD 0, strD ByteArray.empty] := by rw [hre]; rfl
      have hrl : 0 < (r.map Vl.cs).length := by rw [hre]; simp
      have k1 := key_pc (N.getD k 0) k (by omega)
      have k1 : PC _ _ [.ag [iD 2, iD (N.getD k 0), qD 0, strD ByteArray.empty], iD k] _ := k1
      have hk1 := hok k (by omega)
      have p1 := put_good hk1.good (key := keyI EI (N.getD k 0) k) (k : Int) (key_size tells_EI _ _) (.inr (by rw [hk1.len]; omega))
      have p1 : PC _ _ [.ag [nodesD (nodesO (ixO EI N k))], strD (keyI EI (N.getD k 0) k), iD (k : Int)] (.tu [.ag [nodesD (nodesO (ixO EI N (k + 1)))], iD 0]) := p1
      generalize keyI EI (N.getD k 0) k = key at *
      generalize N.getD k 0 = nk at *
      generalize r.map Vl.cs = rc at *
      generalize nodesD (nodesO (ixO EI N k)) = d1 at *
      generalize hd2 : nodesD (nodesO (ixO EI N (k + 1))) = d2 at *
      clear hk1 hok
      repeat (first | (with_reducible first | apply aw_seq | apply aw_reg | apply rp_nil | apply ae_norm | apply aw_regD | apply aw_block | apply be_norm | apply aw_skip) | ((with_reducible apply dr_nil); (first | kernel_rfl | exact rfl)) | ((with_reducible first | apply rp | apply dr); first | ((with_reducible apply does_call_flat); exact rfl; exact rfl; exact (k1); exact rfl) | ((with_reducible apply does_call'); exact rfl; exact rfl; exact rfl; exact (p1)) | ((with_reducible apply does_move); (conv => lhs; whnf)) | ((with_reducible apply does_assign); (conv => lhs; whnf)) | ((with_reducible apply does_load_elem); exact tyOk rfl; exact rfl; exact rfl; assumption; exact rfl) | ((with_reducible apply does_load_row); exact tyOk rfl; exact rfl; exact rfl; exact rfl; exact Nat.le_of_ble_eq_true rfl; exact rfl) | ((with_reducible apply does_load_elem_whole); exact tyOk rfl; exact rfl; exact rfl; assumption; exact rfl) | ((with_reducible apply does_index_sl); exact tyOk rfl; exact rfl; exact tyOk rfl; exact rfl; exact rfl; exact rfl; exact rfl; omega) | ((with_reducible apply does_ne); exact rfl; exact rfl) | ((with_reducible apply does_add); exact rfl; exact rfl; omega; omega) | ((with_reducible apply does_extract); exact rfl; exact rfl)) | ((with_reducible apply drN); ((with_reducible apply does_store_whole); exact tyOk rfl; exact rfl; exact rfl; exact rfl; exact rfl; exact rfl)) | ((with_reducible apply aw_cond); exact rfl; (focus (intro hd; (cases hd; done))); (intro hd; clear hd)))
      refine ⟨es.length - (k + 1), _, by omega, ?_, k + 1, by omega, rfl, rfl⟩
      rw [hd2]
      refine forget_of [] (by repeat' (first | exact ks_nil | (refine ks_cons rfl (by exact SubA.refl _) ?_))) (by repeat' (first | exact trivial | exact rfl | refine And.intro ?_ ?_)) rfl (by repeat' (first | exact trivial | exact inB_px rfl | refine And.intro ?_ ?_)) (by repeat' (first | exact trivial | exact inB_px rfl | refine And.intro ?_ ?_))
    · have hkl : k = rows.length := by simp at hd; omega
      subst hkl
      repeat (first | (with_reducible first | apply aw_seq | apply aw_reg | apply rp_nil | apply ae_norm | apply aw_exit | apply ae_exit | apply be_exit | apply aw_ret | apply re_ret) | ((with_reducible apply rp); first | ((with_reducible apply does_assign); (conv => lhs; whnf)) | ((with_reducible apply does_load_row); exact tyOk rfl; exact rfl; exact rfl; exact rfl; exact Nat.le_of_ble_eq_true rfl; exact rfl)) | ((with_reducible apply rpN); ((with_reducible apply does_store_whole); exact tyOk rfl; exact rfl; exact rfl; exact rfl; exact rfl; exact rfl)))
      (with_reducible apply ret_ok); (focus (repeat' (first | (with_reducible apply rv_nil) | (with_reducible apply rv_cons) | ((with_reducible apply rv_tmp); exact rfl) | ((with_reducible apply rv_rowd); exact rfl; exact rfl; exact tyOk rfl; exact rfl; exact rfl)))); exact rfl; refine SubD.of_eq ?_
      rfl
theorem num_pc (n : Int) : PC Tryd.prog 17 [iD n] (.ag [iD 2, iD n, qD 0, strD ByteArray.empty]) := by
  refine pc_of_aw Tryd.func17 rfl (by kernel_rfl) mixed (by kernel_rfl) (by rw [Tryd.ntmps17]; exact Nat.le_of_ble_eq_true rfl) Tryd.results17 ?_
  repeat (first | (with_reducible first | apply aw_seq | apply aw_reg | apply rp_nil | apply ae_norm | apply aw_ret | apply re_ret) | ((with_reducible apply rp); first | ((with_reducible apply does_move); (conv => lhs; whnf)) | ((with_reducible apply does_build); exact tyOk rfl; exact rfl; exact rfl; (focus repeat' (first | exact rfl | refine ⟨_, _, rfl, rfl, Nat.le_of_ble_eq_true rfl, rfl, ?_⟩)); exact rfl)) | ((with_reducible apply rp1); ((with_reducible apply does_alloc); exact tyOk rfl; exact rfl)) | ((with_reducible apply rpN); ((with_reducible apply does_store_whole); exact tyOk rfl; exact rfl; exact rfl; exact rfl; exact rfl; exact rfl)))
  (with_reducible apply ret_ok); (focus (repeat' (first | (with_reducible apply rv_nil) | (with_reducible apply rv_cons) | ((with_reducible apply rv_rowd); exact rfl; exact rfl; exact tyOk rfl; exact rfl; exact rfl)))); exact rfl; refine SubD.of_eq ?_
  rfl
theorem pick_pc (N : List Int) (hN : ∀ i, I6 (N.getD i 0)) (k : Nat) (hk : k ≤ 100) (lo hi : Int) (hlh : lo ≤ hi) : PC Tryd.prog 8 [treeO (ixO EI N k), .ag [iD lo, iD hi]] (.tu [.sl 1 ((pickI EI N k lo hi).map fun p => [iD p.2]), iD 0]) := by
  have hok := ix_ok tells_EI hN k hk
  have l1 := list_good hok.good (keyI EI lo 0) (keyI EI hi 65535)
  have k1 := key_pc lo 0 (by decide)
  have k2 := key_pc hi 65535 (by decide)
  have k1 : PC _ _ [.ag [iD 2, iD lo, qD 0, strD ByteArray.empty], iD 0] _ := k1
  have k2 : PC _ _ [.ag [iD 2, iD hi, qD 0, strD ByteArray.empty], iD 65535] _ := k2
  have n1 := num_pc lo
  have n2 := num_pc hi
  have hgt : decide (lo > hi) = false := decide_eq_false (by omega)
  have l1 : PC _ _ _ (.tu [pairsD (pickI EI N k lo hi), iD 0]) := l1
  have hpl : (pickI EI N k lo hi).length ≤ 100 := by
    unfold pickI
    exact Nat.le_trans (List.length_filter_le _ _) (by rw [hok.len]; exact hk)
  clear hok
  generalize pickI EI N k lo hi = ps at *
  have hg : ∀ {j : Nat} {p : ByteArray × Int}, ps[j]? = some p → (ps.map pairE)[j]? = some [strD p.1, iD p.2] := fun h => by rw [List.getElem?_map, h]; rfl
  have hel : (ps.map pairE).length = ps.length := List.length_map _
  generalize keyI EI lo 0 = key1 at *
  generalize keyI EI hi 65535 = key2 at *
  unfold pairsD treeO treeD at *
  generalize nodesD (nodesO (ixO EI N k)) = d1 at *
  generalize ps.map pairE = es at *
  refine pc_of_aw Tryd.func8 rfl (by kernel_rfl) mixed (by kernel_rfl) (by rw [Tryd.ntmps8]; exact Nat.le_of_ble_eq_true rfl) Tryd.results8 ?_
  repeat (with_reducible apply aw_seq)
  repeat (first | (with_reducible first | apply aw_seq | apply aw_reg | apply rp_nil | apply ae_norm | apply aw_regD | apply aw_block | apply aw_skip) | ((with_reducible apply dr_nil); (first | kernel_rfl | exact rfl)) | ((with_reducible first | apply rp | apply dr); first | ((with_reducible apply does_call_flat); exact rfl; exact rfl; exact (n1); exact rfl) | ((with_reducible apply does_call_flat); exact rfl; exact rfl; exact (n2); exact rfl) | ((with_reducible apply does_call_flat); exact rfl; exact rfl; exact (k1); exact rfl) | ((with_reducible apply does_call_flat); exact rfl; exact rfl; exact (k2); exact rfl) | ((with_reducible apply does_call'); exact rfl; exact rfl; exact rfl; exact (l1)) | ((with_reducible apply does_move); (conv => lhs; whnf)) | ((with_reducible apply does_assign); (conv => lhs; whnf)) | ((with_reducible apply does_fieldAddr); exact tyOk rfl; exact rfl; exact rfl; decide; exact rfl) | ((with_reducible apply does_load_var); exact tyOk rfl; exact rfl; exact rfl; exact rfl; exact rfl) | ((with_reducible apply does_load_row); exact tyOk rfl; exact rfl; exact rfl; exact rfl; exact Nat.le_of_ble_eq_true rfl; exact rfl) | ((with_reducible apply does_ne); exact rfl; exact rfl) | ((with_reducible apply does_gt); exact rfl; exact rfl) | ((with_reducible apply does_extract); exact rfl; exact rfl) | ((with_reducible apply does_len_sl); exact tyOk rfl; exact rfl; exact rfl)) | ((with_reducible apply rp1); ((with_reducible apply does_box_ag); exact rfl; exact rfl)) | ((with_reducible apply aw_cond); exact rfl; (focus (intro hd; (first | (cases hd; done) | (exfalso; simp at hd; omega)))); (intro hd; clear hd)))
  refine aw_loop (fun n s => ∃ (j : Nat) (R : List (List D)), j ≤ es.length ∧ n = es.length - j ∧ R = (ps.take j).map (fun p => [iD p.2]) ∧ s = ⟨[(9, .ow 2000 R.length), (37, .d (.sl 2 es)), (38, .d (iD es.length)), (39, .d (iD j))], [(2000, .row 3 1 R)]⟩) _ _ ?_ ⟨0, [], by omega, rfl, rfl, rfl⟩ ?_
  · refine Ent.trans (ent_nil 9 2000 3 1 rfl rfl) ?_
    refine forget_of [] (by repeat' (first | exact ks_nil | (refine ks_cons rfl (by exact SubA.refl _) ?_))) (by repeat' (first | exact trivial | exact rfl | refine And.intro ?_ ?_)) rfl (by repeat' (first | exact trivial | exact inB_ow rfl | refine And.intro ?_ ?_)) (by repeat' (first | exact trivial | exact inB_ow rfl | refine And.intro ?_ ?_))
  · rintro n s1 ⟨j, R, hj, rfl, hR, rfl⟩
    have hRl : R.length ≤ 100 := by rw [hR, List.length_map, List.length_take]; omega
    repeat (first | (with_reducible first | apply aw_seq | apply aw_reg | apply rp_nil | apply ae_norm) | ((with_reducible apply rp); ((with_reducible apply does_lt); exact rfl; exact rfl)))
    refine aw_cond rfl (fun hd => ?_) (fun hd => ?_)
    · have hlt : j < es.length := by simpa using hd
      obtain ⟨p, hp⟩ : ∃ p, ps[j]? = some p := ⟨_, List.getElem?_eq_getElem (by omega)⟩
      have hp2 := hg hp
      repeat (first | (with_reducible first | apply aw_seq | apply aw_reg | apply rp_nil | apply ae_norm | apply aw_block | apply be_norm | apply aw_skip) | ((with_reducible apply rp); first | ((with_reducible apply does_move); (conv => lhs; whnf)) | ((with_reducible apply does_assign); (conv => lhs; whnf)) | ((with_reducible apply does_fieldAddr); exact tyOk rfl; exact rfl; exact rfl; decide; exact rfl) | ((with_reducible apply does_load_var); exact tyOk rfl; exact rfl; exact rfl; exact rfl; exact rfl) | ((with_reducible apply does_load_elem_whole); exact tyOk rfl; exact rfl; exact rfl; assumption; exact rfl) | ((with_reducible apply does_index_sl); exact tyOk rfl; exact rfl; exact tyOk rfl; exact rfl; exact rfl; exact rfl; exact rfl; (first | omega | (dsimp only; simp only [List.length_map, List.length_append, List.length_cons, List.length_nil] at *; omega) | (simp only [List.length_map, List.length_append, List.length_cons, List.length_nil] at *; omega))) | ((with_reducible apply does_add); exact rfl; exact rfl; omega; omega)) | ((with_reducible apply rp1); first | ((with_reducible apply does_alloc); exact tyOk rfl; exact rfl) | ((with_reducible apply does_buildSlice); exact tyOk rfl; exact rfl; exact tyOk rfl; exact rfl; exact rfl; (focus repeat' (first | exact trivial | refine And.intro rfl (And.intro rfl ?_))); decide; decide; exact rfl)) | ((with_reducible apply rp2); ((with_reducible apply does_append_own); exact tyOk rfl; exact rfl; exact tyOk rfl; exact rfl; exact rfl; exact rfl; decide; (first | omega | (dsimp only; simp only [List.length_map, List.length_append, List.length_cons, List.length_nil] at *; omega) | (simp only [List.length_map, List.length_append, List.length_cons, List.length_nil] at *; omega)); (first | omega | (dsimp only; simp only [List.length_map, List.length_append, List.length_cons, List.length_nil] at *; omega) | (simp only [List.length_map, List.length_append, List.length_cons, List.length_nil] at *; omega)); exact rfl)) | ((with_reducible apply rpN); ((with_reducible apply does_store_whole); exact tyOk rfl; exact rfl; exact rfl; exact rfl; exact rfl; exact rfl)))
      refine ⟨es.length - (j + 1), _, by omega, ?_, j + 1, R ++ [[iD p.2]], by omega, rfl, by rw [List.take_add_one, hp, List.map_append, ← hR]; rfl, rfl⟩
      refine forget_of [(2000, 47)] (by repeat' (first | exact ks_nil | (refine ks_cons rfl (by (first | exact SubA.refl _ | exact subA_ow (by (simp; done)))) ?_))) (by repeat' (first | exact trivial | exact rfl | refine And.intro ?_ ?_)) rfl (by repeat' (first | exact trivial | exact inB_ow rfl | refine And.intro ?_ ?_)) (by repeat' (first | exact trivial | exact inB_ow rfl | refine And.intro ?_ ?_))
    · have hjl : j = ps.length := by simp at hd; omega
      subst hjl
      rw [List.take_length] at hR
      subst hR
      repeat (first | (with_reducible first | apply aw_seq | apply aw_reg | apply rp_nil | apply ae_norm | apply aw_exit | apply ae_exit | apply be_exit | apply aw_ret | apply re_ret) | ((with_reducible apply rp); first | ((with_reducible apply does_move); (conv => lhs; whnf)) | ((with_reducible apply does_assign); (conv => lhs; whnf))))
      (with_reducible apply ret_ok); (focus (repeat' (first | (with_reducible apply rv_nil) | (with_reducible apply rv_cons) | ((with_reducible apply rv_tmp); exact rfl)))); exact rfl; refine SubD.of_eq ?_
      rfl
theorem pick_none_pc (N : List Int) (hN : ∀ i, I6 (N.getD i 0)) (k : Nat) (hk : k ≤ 100) (lo hi : Int) (hlh : hi < lo) : PC Tryd.prog 8 [treeO (ixO EI N k), .ag [iD lo, iD hi]] (.tu [.sl 1 [], iD 0]) := by
  have hok := ix_ok tells_EI hN k hk
  have c1 := check_good hok.good
  have hgt : decide (lo > hi) = true := decide_eq_true (by omega)
  clear hok
  unfold treeO treeD at *
  generalize nodesD (nodesO (ixO EI N k)) = d1 at *
  refine pc_of_aw Tryd.func8 rfl (by kernel_rfl) mixed (by kernel_rfl) (by rw [Tryd.ntmps8]; exact Nat.le_of_ble_eq_true rfl) Tryd.results8 ?_
  repeat (with_reducible apply aw_seq)
  repeat (first | (with_reducible first | apply aw_seq | apply aw_reg | apply rp_nil | apply ae_norm | apply aw_ret | apply ae_ret | apply re_ret) | ((with_reducible apply rp); first | ((with_reducible apply does_call_flat); exact rfl; exact rfl; exact (c1); exact rfl) | ((with_reducible apply does_assign); (conv => lhs; whnf)) | ((with_reducible apply does_fieldAddr); exact tyOk rfl; exact rfl; exact rfl; decide; exact rfl) | ((with_reducible apply does_load_var); exact tyOk rfl; exact rfl; exact rfl; exact rfl; exact rfl) | ((with_reducible apply does_load_row); exact tyOk rfl; exact rfl; exact rfl; exact rfl; exact Nat.le_of_ble_eq_true rfl; exact rfl) | ((with_reducible apply does_gt); exact rfl; exact rfl)) | ((with_reducible apply rp1); ((with_reducible apply does_box_ag); exact rfl; exact rfl)) | ((with_reducible apply aw_cond); exact rfl; rotate_left; (focus (intro hd; (exfalso; simp at hd; omega))); (intro hd; clear hd)))
  (with_reducible apply ret_ok); (focus (repeat' (first | (with_reducible apply rv_nil) | (with_reducible apply rv_cons) | ((with_reducible apply rv_tmp); exact rfl)))); exact rfl
  exact SubD.tu (SubDs.cons (SubD.nil 1) (fun _ => rfl) (SubDs.refl _))
end Go.Proofs.YtfplkakfakdfhaaDoor


/-
  The rows of an index's law, as plain lists. No condition.
-/
namespace Go.Proofs.YtfplkakfakdfhaaDoor
set_option linter.unusedSimpArgs false
set_option linter.unusedVariables false
open Go.RowKit

def setN (r : List Vl) (n : Int) : List Vl := numV n :: r.tail
def modL (N : Nat → Int) : Nat → List (List Vl) → List (List Vl)
  | _, [] => []
  | j, r :: rs => setN r (N j) :: modL N (j + 1) rs
theorem modL_len (N : Nat → Int) : ∀ (j : Nat) (rs : List (List Vl)), (modL N j rs).length = rs.length
  | _, [] => rfl
  | j, r :: rs => by rw [modL, List.length_cons, List.length_cons, modL_len N (j + 1) rs]
theorem modL_get (N : Nat → Int) : ∀ (j : Nat) (rs : List (List Vl)) (i : Nat), (modL N j rs)[i]? = (rs[i]?).map fun r => setN r (N (j + i))
  | _, [], i => by simp [modL]
  | j, r :: rs, 0 => rfl
  | j, r :: rs, i + 1 => by rw [modL, List.getElem?_cons_succ, modL_get N (j + 1) rs i, List.getElem?_cons_succ, show j + 1 + i = j + (i + 1) by omega]
theorem rowsF_get (l : List Raw) (n : Nat) (cols : List Cl) : ∀ (m i : Nat), i < m → (rowsF l n cols m)[i]? = some (rowF l (n + i * cols.length) (i : Int) 0 cols)
  | 0, i, h => by omega
  | m + 1, i, h => by
    rw [rowsF]
    by_cases hi : i < m
    · rw [List.getElem?_append_left (by rw [rowsF_len]; exact hi), rowsF_get l n cols m i hi]
    · have : i = m := by omega
      subst this
      rw [List.getElem?_append_right (by rw [rowsF_len]; exact Nat.le_refl _), rowsF_len, Nat.sub_self]
      rfl
/-- A row of columns of which the first is of whole numbers. -/
theorem rowF_head (l : List Raw) (n : Nat) (key : Int) (c : Cl) (cs : List Cl) : ∃ rest, rowF l n key 0 (c :: cs) = numV key :: rest := by
  refine ⟨rowF l n key 1 cs, ?_⟩
  rw [rowF]
  unfold cellF
  rw [if_pos rfl]
theorem setN_fit {r : List Vl} {cols : List Cl} (h : FitR r cols) (h0 : ∀ c, cols[0]? = some c → c.kind = 2) (hr : r ≠ []) (n : Int) : FitR (setN r n) cols := by
  obtain ⟨v, rest, rfl⟩ := List.exists_cons_of_ne_nil hr
  refine ⟨h.len, fun i w c hw hc => ?_⟩
  cases i with
  | zero =>
    have hw : some (numV n) = some w := hw
    injection hw with hw
    subst hw
    exact ⟨.int n, .inl (by rw [h0 c hc]; rfl)⟩
  | succ i => exact h.fit (i + 1) w c hw hc
theorem take_drop_mid {α : Type} {M R : List α} {i : Nat} {a b : α} (hM : M[i]? = some a) (hR : R[i]? = some b) : M.take i ++ R.drop i = M.take i ++ b :: R.drop (i + 1) ∧ M.take (i + 1) ++ R.drop (i + 1) = M.take i ++ a :: R.drop (i + 1) := by
  obtain ⟨h1, h2⟩ := List.getElem?_eq_some_iff.1 hR
  refine ⟨by rw [List.drop_eq_getElem_cons h1, h2], ?_⟩
  rw [List.take_add_one, hM, Option.toList_some, List.append_assoc]
  rfl
end Go.Proofs.YtfplkakfakdfhaaDoor


/-
  What an index finds, by places; comparisons with a known answer. No condition.
-/
namespace Go.Proofs.YtfplkakfakdfhaaDoor
set_option linter.unusedSimpArgs false
set_option linter.unusedVariables false
open Go.RowKit

theorem pick_any (N : List Int) (hN : ∀ i, I6 (N.getD i 0)) (k : Nat) (hk : k ≤ 100) (lo hi : Int) (hlo : I6 lo) (hhi : I6 hi) : ∃ g : List Nat, PC Tryd.prog 8 [treeO (ixO EI N k), .ag [iD lo, iD hi]] (.tu [.sl 1 (g.map fun i => [iD (i : Nat)]), iD 0]) ∧
    (∀ i ∈ g, i < k ∧ lo ≤ N.getD i 0 ∧ N.getD i 0 ≤ hi) ∧ g.length = ((List.range k).filter fun i => decide (lo ≤ N.getD i 0) && decide (N.getD i 0 ≤ hi)).length ∧ g.Pairwise fun i j => N.getD i 0 < N.getD j 0 ∨ (N.getD i 0 = N.getD j 0 ∧ i < j) := by
  by_cases hlh : lo ≤ hi
  · have hof := pick_of tells_EI hN hk hlo hhi
    have hasc := pick_asc tells_EI hN hk (lo := lo) (hi := hi)
    have hlen := pick_len tells_EI hN hk hlo hhi
    have hpc := pick_pc N hN k hk lo hi hlh
    generalize pickI EI N k lo hi = ps at *
    refine ⟨ps.map fun p => p.2.toNat, ?_, fun i hi2 => ?_, by rw [List.length_map, hlen], ?_⟩
    · have he : ((ps.map fun p => p.2.toNat).map fun i => [iD (i : Nat)]) = ps.map fun p => [iD p.2] := by
        rw [List.map_map]
        refine List.map_congr_left fun p hp => ?_
        obtain ⟨i, _, rfl, _⟩ := hof p hp
        rfl
      rw [he]
      exact hpc
    · obtain ⟨p, hp, rfl⟩ := List.mem_map.1 hi2
      obtain ⟨i, h1, rfl, h2, h3⟩ := hof p hp
      exact ⟨h1, h2, h3⟩
    · rw [List.pairwise_map]
      refine List.Pairwise.imp_of_mem (fun {p q} hp hq h => ?_) hasc
      obtain ⟨i, h1, rfl, _⟩ := hof p hp
      obtain ⟨j, h2, rfl, _⟩ := hof q hq
      exact pick_next tells_EI hN (by omega) (by omega) h
  · refine ⟨[], pick_none_pc N hN k hk lo hi (by omega), fun i hi2 => (by cases hi2), ?_, List.Pairwise.nil⟩
    rw [List.filter_eq_nil_iff.2 fun i _ => ?_]
    simp only [Bool.and_eq_true, decide_eq_true_eq]
    omega
theorem pick_all (N : List Int) (hN : ∀ i, I6 (N.getD i 0)) (k : Nat) : ((List.range k).filter fun i => decide ((-9223372036854775808 : Int) ≤ N.getD i 0) && decide (N.getD i 0 ≤ 9223372036854775807)).length = k := by
  rw [List.filter_eq_self.2 fun i _ => ?_, List.length_range]
  obtain ⟨h1, h2⟩ := hN i
  rw [decide_eq_true h1, decide_eq_true h2]
  rfl
theorem nodes_one (N : List Int) : nodesO (ixO EI N 1) = [⟨[keyI EI (N.getD 0 0) 0], [0], []⟩] := rfl
section
variable {P : Program} {dst : Option Nat} {ty : TypeId} {e : Operand → A} {β : Bx} {T T' : TypeId} {x y : Operand} {k : IntKind} {m n : Int} {b : Bool}
theorem does_lt_i (hd : decide (m < n) = b) (hx : e x = .d (.sc (.int k m))) (hy : e y = .d (.sc (.int k n))) : Does P dst (.binOp .lss T x y T') ty e β (.d (bD b)) [] [] := by subst hd; exact does_lt hx hy
theorem does_le_i (hd : decide (m ≤ n) = b) (hx : e x = .d (.sc (.int k m))) (hy : e y = .d (.sc (.int k n))) : Does P dst (.binOp .leq T x y T') ty e β (.d (bD b)) [] [] := by subst hd; exact does_le hx hy
theorem does_gt_i (hd : decide (m > n) = b) (hx : e x = .d (.sc (.int k m))) (hy : e y = .d (.sc (.int k n))) : Does P dst (.binOp .gtr T x y T') ty e β (.d (bD b)) [] [] := by subst hd; exact does_gt hx hy
theorem does_ge_i (hd : decide (m ≥ n) = b) (hx : e x = .d (.sc (.int k m))) (hy : e y = .d (.sc (.int k n))) : Does P dst (.binOp .geq T x y T') ty e β (.d (bD b)) [] [] := by subst hd; exact does_ge hx hy
theorem does_eq_i (hd : (m == n) = b) (hx : e x = .d (.sc (.int k m))) (hy : e y = .d (.sc (.int k n))) : Does P dst (.binOp .eql T x y T') ty e β (.d (bD b)) [] [] := by subst hd; exact does_eq hx hy
end
end Go.Proofs.YtfplkakfakdfhaaDoor


/-
  From a contract of the pure layer to a call on the machine. No condition.
-/
namespace Go.Proofs.YtfplkakfakdfhaaDoor
set_option linter.unusedSimpArgs false
set_option linter.unusedVariables false
open Go.RowKit

abbrev Lt (w : World) : Nat → Prop := fun g => g < w.heap.size
theorem repR_raws (I : Nat → Prop) (w : World) : ∀ l : List Raw, RepR I w 4 (l.map Raw.cs) (l.flatMap Raw.cells)
  | [] => rfl
  | r :: l => ⟨r.cells, l.flatMap Raw.cells, rfl, rfl, ⟨_, _, rfl, fun _ => rfl, ⟨rfl, rfl⟩, _, _, rfl, fun _ => rfl, ⟨rfl, rfl⟩, _, _, rfl, fun _ => rfl, ⟨rfl, rfl⟩, _, _, rfl, fun _ => rfl, ⟨rfl, rfl⟩, rfl⟩, repR_raws I w l⟩
theorem rep_raws {w : World} {A : Option Addr} {l : List Raw} {c : Nat} (h : RdR w w.heap.size A l) (hc : l.length ≤ c) : RepD (Lt w) w (.sl 4 (l.map Raw.cs)) (.slice A l.length c) := by
  refine ⟨A, c, l.flatMap Raw.cells, by rw [List.length_map], by rw [List.length_map]; exact hc, repR_raws _ _ l, fun h0 => ?_⟩
  rw [List.length_map] at h0
  have hlen : (l.flatMap Raw.cells).length = l.length * 4 := h.1
  obtain ⟨b, off, e, hb, _, hj⟩ := Reads.cell h (j := 0) (by omega)
  refine ⟨b, off, e, hb, fun j u hu => ?_⟩
  obtain ⟨hlt, _⟩ := List.getElem?_eq_some_iff.1 hu
  rw [hj j hlt, hu]
theorem repR_by (I : Nat → Prop) (w : World) : ∀ l : List UInt8, RepR I w 1 (l.map fun c => [u8D c]) (l.map B8)
  | [] => rfl
  | c :: l => ⟨[B8 c], l.map B8, rfl, rfl, ⟨_, _, rfl, fun _ => rfl, ⟨rfl, rfl⟩, rfl⟩, repR_by I w l⟩
theorem rep_by {w : World} {A : Option Addr} {l : List UInt8} {c : Nat} (h : RdB w w.heap.size A l) (hc : l.length ≤ c) : RepD (Lt w) w (byD l) (.slice A l.length c) := by
  refine ⟨A, c, l.map B8, by rw [List.length_map], by rw [List.length_map]; exact hc, repR_by _ _ l, fun h0 => ?_⟩
  rw [List.length_map] at h0
  have hlen : (l.map B8).length = l.length * 1 := h.1
  obtain ⟨b, off, e, hb, _, hj⟩ := Reads.cell h (j := 0) (by omega)
  refine ⟨b, off, e, hb, fun j u hu => ?_⟩
  obtain ⟨hlt, _⟩ := List.getElem?_eq_some_iff.1 hu
  rw [hj j hlt, hu]
theorem rep_raw (w : World) (r : Raw) : RepD (Lt w) w (.ag r.cs) (.agg #[.int .i64 r.kind, .int .i64 r.a, .int .i64 r.b, .string r.text]) :=
  ⟨_, rfl, ⟨_, _, rfl, fun _ => rfl, ⟨rfl, rfl⟩, _, _, rfl, fun _ => rfl, ⟨rfl, rfl⟩, _, _, rfl, fun _ => rfl, ⟨rfl, rfl⟩, _, _, rfl, fun _ => rfl, ⟨rfl, rfl⟩, rfl⟩⟩
theorem rep_int (w : World) (n : Int) : RepD (Lt w) w (iD n) (.int .i64 n) := ⟨rfl, rfl⟩
theorem rep_cons {w : World} {d : D} {v : Value} {ds : List D} {vs : List Value} (h : RepD (Lt w) w d v) (h2 : RepC (Lt w) w false ds vs) : RepC (Lt w) w false (d :: ds) (v :: vs) := ⟨v, vs, rfl, fun h => (by cases h), h, h2⟩
theorem calls_of_pc {P : Program} {f : FuncId} {ds : List D} {vs : Array Value} {w : World} (h : PC P f ds (bD true)) (hr : RepC (Lt w) w false ds vs.toList) (hg : GlOk (Lt w) w := by exact ⟨fun g cs h => (by cases h), fun g h => absurd h List.not_mem_nil, fun g h => absurd h List.not_mem_nil⟩) : Calls P f vs w fun e w' => e = .returned (.bool true) ∧ Below w.heap.size w w' :=
  (h.calls (Lt w) w vs ⟨fun g h => h, hg⟩ hr).mono fun e w' ⟨v, he, hv, hb⟩ => ⟨by rw [he, hv.1], hb⟩
end Go.Proofs.YtfplkakfakdfhaaDoor

