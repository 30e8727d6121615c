/-
  orderly: nodes that are in order. No condition but that they are.
-/
import Derived.Test.YtobgjkkadnihjaaZTrNs
import Derived.Test.YtobgjkkadnihjaaZTrEr
namespace Go.Proofs.Ytobgjkkadnihjaa
set_option linter.unusedSimpArgs false
set_option linter.unusedVariables false
open Go.RowKit

def depE (n : Nat) (dep : List Nat) : List (List D) := (List.range n).map fun j => natE (dep.getD j 0)
theorem depE_len (n : Nat) (dep : List Nat) : (depE n dep).length = n := by unfold depE; simp
theorem depE_get {n : Nat} {dep : List Nat} {j : Nat} (h : j < n) : (depE n dep)[j]? = some [iD ((dep.getD j 0 : Nat) : Int)] := by
  unfold depE
  rw [List.getElem?_map, List.getElem?_range h]
  rfl
theorem orderly_pc (ns : List Nd) (dep : List Nat) (h : Nat) (t : Tn) (ho : NsOk ns dep h) (hs : Sh h t) (hl : Lies ns 0 t) (hr : (foldS (fun s k _ => rise s k) (true, true, ByteArray.empty) (items t)).1 = true) : PC Try.prog 23 [treeD ns, .sl 1 (depE ns.length dep)] (iD 0) := by
  have r1 := root_pg ns h t hs hl
  have e1 := each_r h t hs (true, true, ByteArray.empty) trivial
  unfold EachPX_r at e1
  have hdl := depE_len ns.length dep
  have hdg : ∀ {j : Nat}, j < ns.length → (depE ns.length dep)[j]? = some [iD ((dep.getD j 0 : Nat) : Int)] := fun h => depE_get h
  have hcl : (ns.map nodeC).length = ns.length := List.length_map _
  have hcg : ∀ {j : Nat} {n : Nd}, ns[j]? = some n → (ns.map nodeC)[j]? = some [.sl 1 (n.ks.map strE), .sl 1 (n.vs.map intE), .sl 1 (n.kids.map natE)] := fun h => by rw [List.getElem?_map, h]; rfl
  unfold treeD nodesD at *
  generalize hcs : ns.map nodeC = cs at *
  generalize hde : depE ns.length dep = de at *
  generalize hfold : foldS (fun s k _ => rise s k) (true, true, ByteArray.empty) (items t) = s9 at *
  have hfew := ho.few
  refine pc_of_aw Try.func23 rfl (by kernel_rfl) mixed (by kernel_rfl) (by rw [Try.ntmps23]; exact Nat.le_of_ble_eq_true rfl) Try.results23 ?_
  repeat (with_reducible apply aw_seq)
  repeat (first | (with_reducible first | apply aw_seq | apply aw_reg | apply rp_nil | apply ae_norm | apply aw_block) | ((with_reducible apply rp); first | ((with_reducible apply does_move); (conv => lhs; whnf)) | ((with_reducible apply does_assign); (conv => lhs; whnf)) | ((with_reducible apply does_fieldAddr); exact tyOk rfl; exact rfl; exact rfl; decide; exact rfl) | ((with_reducible apply does_load_var); exact tyOk rfl; exact rfl; exact rfl; exact rfl; exact rfl) | ((with_reducible apply does_len_sl); exact tyOk rfl; exact rfl; exact rfl)) | ((with_reducible apply rp1); ((with_reducible apply does_box_ag); exact rfl; exact rfl)))
  refine aw_loop (fun n s => ∃ (k : Nat) (lf : Int), k ≤ cs.length ∧ n = cs.length - k ∧ (lf = -1 ∨ lf = h) ∧ s = ⟨[(1, .d (.sl 1 de)), (2, .px 2 0), (5, .d (iD lf)), (12, .d (.sl 3 cs)), (13, .d (iD cs.length)), (14, .d (iD k))], [(2, .var 26 [.d (.sl 3 cs)])]⟩) _ _ ?_ ⟨0, -1, by omega, rfl, .inl rfl, rfl⟩ ?_
  · refine forget_of [] (by repeat' (first | exact ks_nil | (refine ks_cons rfl (by exact SubA.refl _) ?_))) (by repeat' (first | exact trivial | exact rfl | refine And.intro ?_ ?_)) rfl (by repeat' (first | exact trivial | exact inB_px rfl | refine And.intro ?_ ?_)) (by repeat' (first | exact trivial | exact inB_px rfl | refine And.intro ?_ ?_))
  · rintro n s1 ⟨k, lf, hk, rfl, hlf, rfl⟩
    repeat (first | (with_reducible first | apply aw_seq | apply aw_reg | apply rp_nil | apply ae_norm) | ((with_reducible apply rp); ((with_reducible apply does_lt); exact rfl; exact rfl)))
    refine aw_cond rfl (fun hd => ?_) (fun hd => ?_)
    · have hlt : k < cs.length := by simpa using hd
      obtain ⟨n, hn⟩ : ∃ n, ns[k]? = some n := ⟨_, List.getElem?_eq_getElem (by omega)⟩
      have hg := hcg hn
      have hdk := hdg (j := k) (by omega)
      have hltd : k < de.length := by omega
      have hA : (decide ((k : Int) > 0) && (((dep.getD k 0 : Nat) : Int) == 0)) = false := by
        by_cases h0 : k = 0
        · subst h0; rfl
        · obtain ⟨m, hm, hkm⟩ := List.mem_flatMap.1 (ho.each k (by omega) (by omega))
          obtain ⟨p, hp⟩ := List.getElem?_of_mem hm
          have := (ho.kid p m hp k hkm).2.2
          rw [Bool.and_eq_false_iff]
          right
          rw [beq_eq_false_iff_ne]
          omega
      have hlfn : n.kids = [] → dep.getD k 0 = h := ho.leaf k n hn
      generalize dep.getD k 0 = dk at *
      generalize hkd : n.kids.map natE = kd at *
      repeat (first | (with_reducible first | apply aw_seq | apply aw_reg | apply rp_nil | apply ae_norm | apply aw_block | apply aw_skip) | ((first | (with_reducible apply rp) | ((with_reducible apply rpG); exact rfl; exact gval_t rfl; (focus repeat' (first | exact trivial | exact fun h => h | refine And.intro ?_ ?_)); intro hgd; have hgd0 := hgd; (try simp only [decide_eq_true_eq, Bool.and_eq_true, Bool.not_eq_true', beq_iff_eq] at hgd))); first | ((with_reducible apply does_move); (conv => lhs; whnf)) | ((with_reducible apply does_assign); (conv => lhs; whnf)) | ((with_reducible apply does_and); exact rfl; exact rfl; exact rfl; exact fun h => h) | ((with_reducible apply does_fieldAddr); exact tyOk rfl; exact rfl; exact rfl; decide; exact rfl) | ((with_reducible apply does_load_var); exact tyOk rfl; exact rfl; exact rfl; exact rfl; exact rfl) | ((with_reducible apply does_load_elem); exact tyOk rfl; exact rfl; exact rfl; assumption; exact rfl) | ((with_reducible apply does_load_elem_whole); exact tyOk rfl; exact rfl; exact rfl; assumption; exact rfl) | ((with_reducible apply does_index_sl); exact tyOk rfl; exact rfl; exact tyOk rfl; exact rfl; exact rfl; exact rfl; exact rfl; omega) | ((with_reducible apply does_eq); exact rfl; exact rfl) | ((with_reducible apply does_gt); exact rfl; exact rfl) | ((with_reducible apply does_len_sl); exact tyOk rfl; exact rfl; exact rfl)) | ((with_reducible apply rp1); ((with_reducible apply does_alloc); exact tyOk rfl; exact rfl)) | ((with_reducible apply rpN); ((with_reducible apply does_store_whole); exact tyOk rfl; exact rfl; exact rfl; exact rfl; exact rfl; exact rfl)) | ((with_reducible apply aw_cond); exact rfl; (focus (intro hd; (exact absurd (hd.symm.trans (by assumption : _ = false)) (by decide)))); (intro hd; clear hd)))
      refine aw_cond rfl (fun hz => ?_) (fun hz => ?_)
      · have hkd0 : n.kids = [] := by
          have : kd.length = 0 := by have h3 : (kd.length : Int) = 0 := eq_of_beq hz; omega
          rw [← hkd, List.length_map] at this
          exact List.length_eq_zero_iff.1 this
        have hdkh := hlfn hkd0
        have hB : (decide (lf ≥ 0) && !((dk : Int) == lf)) = false := by
          rcases hlf with rfl | rfl
          · rfl
          · rw [hdkh]; simp
        repeat (first | (with_reducible first | apply aw_seq | apply aw_reg | apply rp_nil | apply ae_norm | apply be_norm | apply aw_skip) | ((first | (with_reducible apply rp) | ((with_reducible apply rpG); exact rfl; exact gval_t rfl; (focus repeat' (first | exact trivial | exact fun h => h | refine And.intro ?_ ?_)); intro hgd; have hgd0 := hgd; (try simp only [decide_eq_true_eq, Bool.and_eq_true, Bool.not_eq_true', beq_iff_eq] at hgd))); first | ((with_reducible apply does_move); (conv => lhs; whnf)) | ((with_reducible apply does_assign); (conv => lhs; whnf)) | ((with_reducible apply does_and); exact rfl; exact rfl; exact rfl; exact fun h => h) | ((with_reducible apply does_load_elem); exact tyOk rfl; exact rfl; exact rfl; assumption; exact rfl) | ((with_reducible apply does_index_sl); exact tyOk rfl; exact rfl; exact tyOk rfl; exact rfl; exact rfl; exact rfl; exact rfl; omega) | ((with_reducible apply does_ne); exact rfl; exact rfl) | ((with_reducible apply does_ge); exact rfl; exact rfl) | ((with_reducible apply does_add); exact rfl; exact rfl; omega; omega)) | ((with_reducible apply aw_cond); exact rfl; (focus (intro hd; (exfalso; simp at hd; omega))); (intro hd; clear hd)))
        refine ⟨cs.length - (k + 1), _, by omega, ?_, k + 1, (dk : Int), by omega, rfl, .inr (by rw [hdkh]), rfl⟩
        refine forget_of [] (by repeat' (first | exact ks_nil | (refine ks_cons rfl (by exact SubA.refl _) ?_))) (by repeat' (first | exact trivial | exact rfl | refine And.intro ?_ ?_)) rfl (by repeat' (first | exact trivial | exact inB_px rfl | refine And.intro ?_ ?_)) (by repeat' (first | exact trivial | exact inB_px rfl | refine And.intro ?_ ?_))
      · repeat (first | (with_reducible first | apply aw_reg | apply rp_nil | apply ae_norm | apply be_norm | apply aw_skip) | ((with_reducible apply rp); first | ((with_reducible apply does_move); (conv => lhs; whnf)) | ((with_reducible apply does_add); exact rfl; exact rfl; omega; omega)))
        refine ⟨cs.length - (k + 1), _, by omega, ?_, k + 1, lf, by omega, rfl, hlf, rfl⟩
        refine forget_of [] (by repeat' (first | exact ks_nil | (refine ks_cons rfl (by exact SubA.refl _) ?_))) (by repeat' (first | exact trivial | exact rfl | refine And.intro ?_ ?_)) rfl (by repeat' (first | exact trivial | exact inB_px rfl | refine And.intro ?_ ?_)) (by repeat' (first | exact trivial | exact inB_px rfl | refine And.intro ?_ ?_))
    · have hr2 : (!s9.1) = false := by rw [hr]; rfl
      repeat (first | (with_reducible first | apply aw_seq | apply aw_reg | apply rp_nil | apply ae_norm | apply aw_exit | apply ae_exit | apply be_exit | apply aw_ret | apply re_ret | apply aw_skip) | ((with_reducible apply rp); first | ((with_reducible apply does_assign); (conv => lhs; whnf)) | ((with_reducible apply does_load_var); exact tyOk rfl; exact rfl; exact rfl; exact rfl; exact rfl) | ((with_reducible apply does_load_row); exact tyOk rfl; exact rfl; exact rfl; exact rfl; exact Nat.le_of_ble_eq_true rfl; exact rfl) | ((with_reducible apply does_not); exact rfl) | ((with_reducible apply does_makeFunc_l); (focus repeat' (first | exact evs_nil rfl | (apply evs_cons; exact rfl; (conv => lhs; whnf)))); (focus repeat' (first | exact evs_nil rfl | (apply evs_cons; exact rfl; (conv => lhs; whnf)))))) | ((with_reducible apply rp1); ((with_reducible apply does_alloc); exact tyOk rfl; exact rfl)) | ((with_reducible apply rpN); ((with_reducible apply does_store); exact tyOk rfl; exact rfl; exact rfl; (conv => lhs; whnf); exact rfl; exact rfl; exact Nat.le_of_ble_eq_true rfl)) | ((with_reducible apply rpL); (refine does_callG' [] [(2000, 48)] (ups := [(48, .res (treeR TQ t))]) (v := (.px 48 0)) rfl (r1) rfl ?_ rfl ?_ ?_ rfl rfl rfl rfl rfl ?_ ?_ rfl rfl rfl; (focus repeat' (first | exact trivial | exact rfl | refine And.intro ?_ ?_)); (focus repeat' (first | exact trivial | exact inB_px rfl | refine And.intro ?_ ?_)); (focus repeat' (first | exact trivial | exact inB_px rfl | refine And.intro ?_ ?_)); (focus repeat' (first | exact trivial | exact inB_px rfl | refine And.intro ?_ ?_)); (focus repeat' (first | exact trivial | exact inB_px rfl | refine And.intro ?_ ?_))); exact lapp_nil _) | ((with_reducible apply rpL); (refine does_callX [(1000, 48), (1001, 10), (1002, 9), (1003, 8)] [(1000, 48), (1001, 10), (1002, 9), (1003, 8)] (ups := [(48, .res (treeR TQ t)), (10, .var 4 [.d (bD s9.1)]), (9, .var 4 [.d (bD s9.2.1)]), (8, .var 9 [.d (strD s9.2.2)])]) rfl (e1) rfl ?_ rfl ?_ ?_ rfl rfl rfl rfl rfl ?_ rfl rfl; (focus repeat' (first | exact trivial | exact rfl | refine And.intro ?_ ?_)); (focus repeat' (first | exact trivial | exact inB_px rfl | refine And.intro ?_ ?_)); (focus repeat' (first | exact trivial | exact inB_px rfl | refine And.intro ?_ ?_)); (focus repeat' (first | exact trivial | exact inB_px rfl | refine And.intro ?_ ?_))); exact lapp_nil _) | ((with_reducible apply aw_cond); exact rfl; (focus (intro hd; (exact absurd (hd.symm.trans (by assumption : _ = false)) (by decide)))); (intro hd; clear hd)))
      (with_reducible apply ret_ok); (focus (repeat' (first | (with_reducible apply rv_nil) | (with_reducible apply rv_cons) | ((with_reducible apply rv_tmp); exact rfl)))); exact rfl; refine SubD.of_eq ?_
      rfl
theorem orderly_nil : PC Try.prog 23 [treeD [], .sl 1 []] (iD 0) := by
  have r1 := root_nil
  have e1 := each_r_nil (true, true, ByteArray.empty)
  unfold treeD nodesD at *
  have r1 : PG _ _ [.d (.ag [.sl 3 []])] _ _ _ _ _ := r1
  show PC _ _ [.ag [.sl 3 []], .sl 1 []] _
  refine pc_of_aw Try.func23 rfl (by kernel_rfl) mixed (by kernel_rfl) (by rw [Try.ntmps23]; exact Nat.le_of_ble_eq_true rfl) Try.results23 ?_
  repeat (with_reducible apply aw_seq)
  repeat (first | (with_reducible first | apply aw_seq | apply aw_reg | apply rp_nil | apply ae_norm | apply aw_block) | ((with_reducible apply rp); first | ((with_reducible apply does_move); (conv => lhs; whnf)) | ((with_reducible apply does_assign); (conv => lhs; whnf)) | ((with_reducible apply does_fieldAddr); exact tyOk rfl; exact rfl; exact rfl; decide; exact rfl) | ((with_reducible apply does_load_var); exact tyOk rfl; exact rfl; exact rfl; exact rfl; exact rfl) | ((with_reducible apply does_len_sl); exact tyOk rfl; exact rfl; exact rfl)) | ((with_reducible apply rp1); ((with_reducible apply does_box_ag); exact rfl; exact rfl)))
  refine aw_loop (fun n s => n = 0 ∧ s = ⟨[(1, .d (.sl 1 [])), (2, .px 2 0), (12, .d (.sl 3 [])), (13, .d (iD 0)), (14, .d (iD 0))], [(2, .var 26 [.d (.sl 3 [])])]⟩) _ _ ?_ ⟨rfl, rfl⟩ ?_
  · refine forget_of [] (by repeat' (first | exact ks_nil | (refine ks_cons rfl (by exact SubA.refl _) ?_))) (by repeat' (first | exact trivial | exact rfl | refine And.intro ?_ ?_)) rfl (by repeat' (first | exact trivial | exact inB_px rfl | refine And.intro ?_ ?_)) (by repeat' (first | exact trivial | exact inB_px rfl | refine And.intro ?_ ?_))
  · rintro n s1 ⟨rfl, rfl⟩
    repeat (first | (with_reducible first | apply aw_seq | apply aw_reg | apply rp_nil | apply ae_norm | apply aw_exit | apply ae_exit | apply be_exit | apply aw_ret | apply re_ret | apply aw_skip) | ((with_reducible apply rp); first | ((with_reducible apply does_assign); (conv => lhs; whnf)) | ((with_reducible apply does_load_var); exact tyOk rfl; exact rfl; exact rfl; exact rfl; exact rfl) | ((with_reducible apply does_load_row); exact tyOk rfl; exact rfl; exact rfl; exact rfl; exact Nat.le_of_ble_eq_true rfl; exact rfl) | ((with_reducible apply does_lt); exact rfl; exact rfl) | ((with_reducible apply does_not); exact rfl) | ((with_reducible apply does_makeFunc_l); (focus repeat' (first | exact evs_nil rfl | (apply evs_cons; exact rfl; (conv => lhs; whnf)))); (focus repeat' (first | exact evs_nil rfl | (apply evs_cons; exact rfl; (conv => lhs; whnf)))))) | ((with_reducible apply rp1); ((with_reducible apply does_alloc); exact tyOk rfl; exact rfl)) | ((with_reducible apply rpN); ((with_reducible apply does_store); exact tyOk rfl; exact rfl; exact rfl; (conv => lhs; whnf); exact rfl; exact rfl; exact Nat.le_of_ble_eq_true rfl)) | ((with_reducible apply rpL); (refine does_callG' [] [] (ups := []) (v := (.d (.sc (.pointer none)))) rfl (r1) rfl ?_ rfl ?_ ?_ rfl rfl rfl rfl rfl ?_ ?_ rfl rfl rfl; (focus repeat' (first | exact trivial | exact rfl | refine And.intro ?_ ?_)); (focus repeat' (first | exact trivial | exact inB_px rfl | refine And.intro ?_ ?_)); (focus repeat' (first | exact trivial | exact inB_px rfl | refine And.intro ?_ ?_)); (focus repeat' (first | exact trivial | exact inB_px rfl | refine And.intro ?_ ?_)); (focus repeat' (first | exact trivial | exact inB_px rfl | refine And.intro ?_ ?_))); exact lapp_nil _) | ((with_reducible apply rpL); (refine does_callX [(1001, 10), (1002, 9), (1003, 8)] [(1001, 10), (1002, 9), (1003, 8)] (ups := [(10, .var 4 [.d (bD true)]), (9, .var 4 [.d (bD true)]), (8, .var 9 [.d (strD ByteArray.empty)])]) rfl (e1) rfl ?_ rfl ?_ ?_ rfl rfl rfl rfl rfl ?_ rfl rfl; (focus repeat' (first | exact trivial | exact rfl | refine And.intro ?_ ?_)); (focus repeat' (first | exact trivial | exact inB_px rfl | refine And.intro ?_ ?_)); (focus repeat' (first | exact trivial | exact inB_px rfl | refine And.intro ?_ ?_)); (focus repeat' (first | exact trivial | exact inB_px rfl | refine And.intro ?_ ?_))); exact lapp_nil _) | ((with_reducible apply aw_cond); exact rfl; (focus (intro hd; (cases hd; done))); (intro hd; clear hd)))
    (with_reducible apply ret_ok); (focus (repeat' (first | (with_reducible apply rv_nil) | (with_reducible apply rv_cons) | ((with_reducible apply rv_tmp); exact rfl)))); exact rfl; refine SubD.of_eq ?_
    rfl
end Go.Proofs.Ytobgjkkadnihjaa

