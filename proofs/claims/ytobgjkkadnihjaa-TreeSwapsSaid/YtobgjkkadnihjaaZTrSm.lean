/-
  samePairs, treeTells. No condition but the lengths.
-/
import Derived.Test.YtobgjkkadnihjaaZTrFs
namespace Go.Proofs.Ytobgjkkadnihjaa
set_option linter.unusedSimpArgs false
set_option linter.unusedVariables false
open Go.RowKit

theorem pairs_get {l : Pairs} {k : Nat} {p : ByteArray × Int} (h : l[k]? = some p) : (l.map pairE)[k]? = some [strD p.1, iD p.2] := by rw [List.getElem?_map, h]; rfl
theorem samePairs_pc (l : Pairs) (hl : l.length ≤ 100000) : PC Try.prog 15 [pairsD l, pairsD l] (bD true) := by
  unfold pairsD
  have hg : ∀ {k : Nat} {p : ByteArray × Int}, l[k]? = some p → (l.map pairE)[k]? = some [strD p.1, iD p.2] := fun h => pairs_get h
  have hel : (l.map pairE).length = l.length := List.length_map _
  generalize l.map pairE = es at *
  have hne : ((es.length : Int) != (es.length : Int)) = false := by simp
  refine pc_of_aw Try.func15 rfl (by kernel_rfl) mixed (by kernel_rfl) (by rw [Try.ntmps15]; exact Nat.le_of_ble_eq_true rfl) Try.results15 ?_
  repeat (first | (with_reducible first | apply aw_seq | apply aw_reg | apply rp_nil | apply ae_norm | apply aw_block | apply aw_skip) | ((with_reducible apply rp); first | ((with_reducible apply does_move); (conv => lhs; whnf)) | ((with_reducible apply does_assign); (conv => lhs; whnf)) | ((with_reducible apply does_ne); exact rfl; exact rfl) | ((with_reducible apply does_len_sl); exact tyOk rfl; exact rfl; exact rfl)) | ((with_reducible apply aw_cond); exact rfl; (focus (intro hd; (exfalso; simp at hd; done))); (intro hd; clear hd)))
  refine aw_loop (fun n s => ∃ k, k ≤ es.length ∧ n = es.length - k ∧ s = ⟨[(0, .d (.sl 2 es)), (1, .d (.sl 2 es)), (12, .d (iD es.length)), (13, .d (iD k))], []⟩) _ _ ?_ ⟨0, by omega, rfl, rfl⟩ ?_
  · refine forget_of [] (by repeat' (first | exact ks_nil | (refine ks_cons rfl (by exact SubA.refl _) ?_))) (by repeat' exact trivial) rfl (by repeat' (first | exact trivial | refine And.intro ?_ ?_)) (by repeat' (first | exact trivial | refine And.intro ?_ ?_))
  · rintro n s1 ⟨k, hk, rfl, rfl⟩
    repeat (first | (with_reducible first | apply aw_seq | apply aw_reg | apply rp_nil | apply ae_norm) | ((with_reducible apply rp); ((with_reducible apply does_lt); exact rfl; exact rfl)))
    refine aw_cond rfl (fun hd => ?_) (fun hd => ?_)
    · have hlt : k < es.length := by simpa using hd
      obtain ⟨p, hp⟩ : ∃ p, l[k]? = some p := ⟨_, List.getElem?_eq_getElem (by omega)⟩
      have hp2 := hg hp
      have hsame : (!(p.1.toList == p.1.toList && p.2 == p.2)) = false := by simp
      repeat (first | (with_reducible first | apply aw_seq | apply aw_reg | apply rp_nil | apply ae_norm | apply aw_regD | apply aw_block | apply be_norm | apply aw_skip) | ((with_reducible apply dr_nil); (first | kernel_rfl | exact rfl)) | ((with_reducible first | apply rp | apply dr); first | (exact does_ne_pair rfl rfl) | ((with_reducible apply does_move); (conv => lhs; whnf)) | ((with_reducible apply does_assign); (conv => lhs; whnf)) | ((with_reducible apply does_load_elem_whole); exact tyOk rfl; exact rfl; exact rfl; assumption; exact rfl) | ((with_reducible apply does_index_sl); exact tyOk rfl; exact rfl; exact tyOk rfl; exact rfl; exact rfl; exact rfl; exact rfl; omega) | ((with_reducible apply does_add); exact rfl; exact rfl; omega; omega)) | ((with_reducible apply aw_cond); exact rfl; (focus (intro hd; (exfalso; simp at hd; done))); (intro hd; clear hd)))
      refine ⟨es.length - (k + 1), _, by omega, ?_, k + 1, by omega, rfl, rfl⟩
      refine forget_of [] (by repeat' (first | exact ks_nil | (refine ks_cons rfl (by exact SubA.refl _) ?_))) (by repeat' exact trivial) rfl (by repeat' (first | exact trivial | refine And.intro ?_ ?_)) (by repeat' (first | exact trivial | refine And.intro ?_ ?_))
    · repeat (first | (with_reducible first | apply aw_seq | apply aw_reg | apply rp_nil | apply ae_norm | apply aw_exit | apply ae_exit | apply be_exit | apply aw_ret | apply re_ret) | ((with_reducible apply rp); ((with_reducible apply does_assign); (conv => lhs; whnf))))
      (with_reducible apply ret_ok); (focus (repeat' (first | (with_reducible apply rv_nil) | (with_reducible apply rv_cons) | ((with_reducible apply rv_tmp); exact rfl)))); exact rfl; refine SubD.of_eq ?_
      rfl
def kx : ByteArray := ⟨#[120]⟩
theorem treeTells_pc : PC Try.prog 13 [] (bD true) := by
  have p1 := put_good good_nil (key := kx) 5 (by decide) (.inr (by decide))
  have g1 := good_put good_nil (key := kx) 5 (by decide) (.inr (by decide))
  have f1 := find_good g1 kx
  have hi : lookL kx (itemsO (growO kx 5 none)) = some 5 := by rw [growO_items kx 5 none good_nil.sh good_nil.asc]; exact putL_look
  rw [hi] at f1
  unfold treeO treeD nodesD at *
  generalize (nodesO (growO kx 5 none)).map nodeC = cs at *
  have p1 : PC _ _ [.ag [.sl 3 []], strD ⟨#[120]⟩, iD 5] (.tu [.ag [.sl 3 cs], iD 0]) := p1
  have f1 : PC _ _ [.ag [.sl 3 cs], strD ⟨#[120]⟩] (.tu [iD 5, iD 0]) := f1
  have p1 := p1.args (ds' := [.ag [.nl], strD ⟨#[120]⟩, iD 5]) (SubDs.cons (SubD.ag (SubDs.cons (SubD.nil 3) (fun _ => rfl) SubDs.nil)) id (SubDs.refl _))
  refine pc_of_aw Try.func13 rfl (by kernel_rfl) mixed (by kernel_rfl) (by rw [Try.ntmps13]; exact Nat.le_of_ble_eq_true rfl) Try.results13 ?_
  repeat (first | (with_reducible first | apply aw_seq | apply aw_reg | apply rp_nil | apply ae_norm | apply aw_ret | apply re_ret) | ((first | (with_reducible apply rp) | ((with_reducible apply rpG); exact rfl; exact gval_t rfl; (focus repeat' (first | exact trivial | exact fun h => h | refine And.intro ?_ ?_)); intro hgd; have hgd0 := hgd; (try simp only [decide_eq_true_eq, Bool.and_eq_true, Bool.not_eq_true', beq_iff_eq] at hgd))); first | ((with_reducible apply does_call'); exact rfl; exact rfl; exact rfl; exact (p1)) | ((with_reducible apply does_call_flat); exact rfl; exact rfl; exact (f1); exact rfl) | ((with_reducible apply does_move); (conv => lhs; whnf)) | ((with_reducible apply does_assign); (conv => lhs; whnf)) | ((with_reducible apply does_and); exact rfl; exact rfl; exact rfl; exact fun h => h) | ((with_reducible apply does_load_row); exact tyOk rfl; exact rfl; exact rfl; exact rfl; exact Nat.le_of_ble_eq_true rfl; exact rfl) | ((with_reducible apply does_eq); exact rfl; exact rfl) | ((with_reducible apply does_extract); exact rfl; exact rfl) | ((with_reducible apply does_zeroS); exact tyOk rfl; exact rfl; exact rfl)) | ((with_reducible apply rp1); ((with_reducible apply does_alloc); exact tyOk rfl; exact rfl)) | ((with_reducible apply rpN); ((with_reducible apply does_store_whole); exact tyOk rfl; exact rfl; exact rfl; exact rfl; exact rfl; exact rfl)))
  (with_reducible apply ret_ok); (focus (repeat' (first | (with_reducible apply rv_nil) | (with_reducible apply rv_cons) | ((with_reducible apply rv_tmp); exact rfl)))); exact rfl; refine SubD.of_eq ?_
  rfl
end Go.Proofs.Ytobgjkkadnihjaa

