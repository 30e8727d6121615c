/-
  Check: nodes that are in order. No condition but that they are.
-/
import Derived.Test.YtfplkakfakdfhaaDoorZM16
namespace Go.Proofs.YtfplkakfakdfhaaDoor
set_option linter.unusedSimpArgs false
set_option linter.unusedVariables false
open Go.RowKit

theorem seen_dep {ns : List Nd} {dep : List Nat} {h : Nat} (ho : NsOk ns dep h) : seenE ns.length dep (ns.flatMap (·.kids)) = depE ns.length dep := by
  unfold seenE depE
  refine List.map_congr_left fun j hj => ?_
  rw [seenE_all ho j (by simpa using hj)]
theorem chk_pc (ns : List Nd) (dep : List Nat) (h : Nat) (t : Tn) (ho : NsOk ns dep h) (hs : Sh h t) (hl : Lies ns 0 t) (hr : (foldS (fun s k _ => rise s k) (true, true, ByteArray.empty) (items t)).1 = true) : PC Tryd.prog 10 [treeD ns] (iD 0) := by
  have o1 := orderly_pc ns dep h t ho hs hl hr
  rw [← seen_dep ho] at o1
  have hvd := fun i hi => vis_dep ho i hi
  have hcl : (ns.map nodeC).length = ns.length := List.length_map _
  have hcg : ∀ {j : Nat} {n : Nd}, ns[j]? = some n → (ns.map nodeC)[j]? = some [.sl 1 (n.ks.map strE), .sl 1 (n.vs.map intE), .sl 1 (n.kids.map natE)] := fun h => by rw [List.getElem?_map, h]; rfl
  unfold treeD nodesD at *
  generalize hcs : ns.map nodeC = cs at *
  have hfew := ho.few
  have htot := ho.total
  have hsum : ∀ k, ((ns.take k).map fun n => n.ks.length).sum ≤ 100 := fun k => Nat.le_trans (sum_take_le (ns := ns) _ ns k) htot
  have hcfew : cs.length ≤ 100 := by omega
  refine pc_of_aw Tryd.func10 rfl (by kernel_rfl) mixed (by kernel_rfl) (by rw [Tryd.ntmps10]; exact Nat.le_of_ble_eq_true rfl) Tryd.results10 ?_
  repeat (with_reducible apply aw_seq)
  repeat (first | (with_reducible first | apply aw_seq | apply aw_reg | apply rp_nil | apply ae_norm | apply aw_block | apply aw_skip) | ((with_reducible apply rp); first | ((with_reducible apply does_move); (conv => lhs; whnf)) | ((with_reducible apply does_assign); (conv => lhs; whnf)) | ((with_reducible apply does_fieldAddr); exact tyOk rfl; exact rfl; exact rfl; decide; exact rfl) | ((with_reducible apply does_load_var); exact tyOk rfl; exact rfl; exact rfl; exact rfl; exact rfl) | ((with_reducible apply does_gt); exact rfl; exact rfl) | ((with_reducible apply does_len_sl); exact tyOk rfl; exact rfl; exact rfl)) | ((with_reducible apply rp1); ((with_reducible apply does_box_ag); exact rfl; exact rfl)) | ((with_reducible apply aw_cond); exact rfl; (focus (intro hd; (exfalso; simp at hd; omega))); (intro hd; clear hd)))
  refine aw_loop (fun n s => ∃ (k all : Nat), k ≤ cs.length ∧ n = cs.length - k ∧ all = ((ns.take k).map fun n => n.ks.length).sum ∧ s = ⟨[(1, .px 1 0), (3, .d (iD all)), (18, .d (.sl 3 cs)), (19, .d (iD cs.length)), (20, .d (iD k))], [(1, .var 34 [.d (.sl 3 cs)])]⟩) _ _ ?_ ⟨0, 0, by omega, rfl, rfl, rfl⟩ ?_
  · refine forget_of [] (by repeat' (first | exact ks_nil | (refine ks_cons rfl (by exact SubA.refl _) ?_))) (by repeat' (first | exact trivial | exact rfl | refine And.intro ?_ ?_)) rfl (by repeat' (first | exact trivial | exact inB_px rfl | refine And.intro ?_ ?_)) (by repeat' (first | exact trivial | exact inB_px rfl | refine And.intro ?_ ?_))
  · rintro n s1 ⟨k, all, hk, rfl, hall, rfl⟩
    have hallb : all ≤ 100 := by rw [hall]; exact hsum k
    repeat (first | (with_reducible first | apply aw_seq | apply aw_reg | apply rp_nil | apply ae_norm) | ((with_reducible apply rp); ((with_reducible apply does_lt); exact rfl; exact rfl)))
    refine aw_cond rfl (fun hd => ?_) (fun hd => ?_)
    · have hlt : k < cs.length := by simpa using hd
      obtain ⟨n, hn⟩ : ∃ n, ns[k]? = some n := ⟨_, List.getElem?_eq_getElem (by omega)⟩
      have hnm := List.mem_of_getElem? hn
      have hg := hcg hn
      have hnext : ((ns.take (k + 1)).map fun n => n.ks.length).sum = all + n.ks.length := by rw [List.take_add_one, hn, hall]; simp
      have hnb := hsum (k + 1)
      rw [hnext] at hnb
      have hkg : ∀ {j : Nat} {key : ByteArray}, n.ks[j]? = some key → (n.ks.map strE)[j]? = some [strD key] := fun h => by rw [List.getElem?_map, h]; rfl
      have hkl : (n.ks.map strE).length = n.ks.length := List.length_map _
      generalize hkd : n.ks.map strE = kd at *
      have hkdb : all + kd.length ≤ 100 := by omega
      repeat (first | (with_reducible first | apply aw_seq | apply aw_reg | apply rp_nil | apply ae_norm | apply aw_block | apply aw_skip) | ((with_reducible apply rp); first | ((with_reducible apply does_move); (conv => lhs; whnf)) | ((with_reducible apply does_fieldAddr); exact tyOk rfl; exact rfl; exact rfl; decide; exact rfl) | ((with_reducible apply does_load_var); exact tyOk rfl; exact rfl; exact rfl; exact rfl; exact rfl) | ((with_reducible apply does_load_elem_whole); exact tyOk rfl; exact rfl; exact rfl; assumption; exact rfl) | ((with_reducible apply does_index_sl); exact tyOk rfl; exact rfl; exact tyOk rfl; exact rfl; exact rfl; exact rfl; exact rfl; omega) | ((with_reducible apply does_len_sl); exact tyOk rfl; exact rfl; exact rfl)) | ((with_reducible apply rp1); ((with_reducible apply does_alloc); exact tyOk rfl; exact rfl)) | ((with_reducible apply rpN); ((with_reducible apply does_store_whole); exact tyOk rfl; exact rfl; exact rfl; exact rfl; exact rfl; exact rfl)))
      refine aw_loop (fun m s => ∃ (j : Nat), j ≤ kd.length ∧ m = kd.length - j ∧ s = ⟨[(1, .px 1 0), (3, .d (iD all)), (5, .px 5 0), (18, .d (.sl 3 cs)), (19, .d (iD cs.length)), (20, .d (iD k)), (25, .d (.sl 1 kd)), (26, .d (iD kd.length)), (27, .d (iD j))], [(1, .var 34 [.d (.sl 3 cs)]), (5, .var 68 [.d (.sl 1 kd), .d (.sl 1 (n.vs.map intE)), .d (.sl 1 (n.kids.map natE))])]⟩) _ _ ?_ ⟨0, by omega, rfl, rfl⟩ ?_
      · refine forget_of [] (by repeat' (first | exact ks_nil | (refine ks_cons rfl (by exact SubA.refl _) ?_))) (by repeat' (first | exact trivial | exact rfl | refine And.intro ?_ ?_)) rfl (by repeat' (first | exact trivial | exact inB_px rfl | refine And.intro ?_ ?_)) (by repeat' (first | exact trivial | exact inB_px rfl | refine And.intro ?_ ?_))
      · rintro m s2 ⟨j, hj, rfl, rfl⟩
        repeat (first | (with_reducible first | apply aw_seq | apply aw_reg | apply rp_nil | apply ae_norm) | ((with_reducible apply rp); ((with_reducible apply does_lt); exact rfl; exact rfl)))
        refine aw_cond rfl (fun hd2 => ?_) (fun hd2 => ?_)
        · have hlt2 : j < kd.length := by simpa using hd2
          obtain ⟨key, hkey⟩ : ∃ key, n.ks[j]? = some key := ⟨_, List.getElem?_eq_getElem (by omega)⟩
          have hkey2 := hkg hkey
          have hsz := ho.keys n hnm key (List.mem_of_getElem? hkey)
          have hszb : decide ((key.size : Int) > 60) = false := decide_eq_false (by omega)
          repeat (first | (with_reducible first | apply aw_seq | apply aw_reg | apply rp_nil | apply ae_norm | apply aw_block | apply be_norm | apply aw_skip) | ((with_reducible apply rp); first | ((with_reducible apply does_move); (conv => lhs; whnf)) | ((with_reducible apply does_assign); (conv => lhs; whnf)) | ((with_reducible apply does_load_elem); exact tyOk rfl; exact rfl; exact rfl; assumption; exact rfl) | ((with_reducible apply does_index_sl); exact tyOk rfl; exact rfl; exact tyOk rfl; exact rfl; exact rfl; exact rfl; exact rfl; omega) | ((with_reducible apply does_gt); exact rfl; exact rfl) | ((with_reducible apply does_add); exact rfl; exact rfl; omega; omega) | ((with_reducible apply does_len_str); exact tyOk rfl; exact rfl; exact rfl)) | ((with_reducible apply aw_cond); exact rfl; (focus (intro hd; (exfalso; simp at hd; omega))); (intro hd; clear hd)))
          refine ⟨kd.length - (j + 1), _, by omega, ?_, j + 1, by omega, rfl, rfl⟩
          refine forget_of [] (by repeat' (first | exact ks_nil | (refine ks_cons rfl (by exact SubA.refl _) ?_))) (by repeat' (first | exact trivial | exact rfl | refine And.intro ?_ ?_)) rfl (by repeat' (first | exact trivial | exact inB_px rfl | refine And.intro ?_ ?_)) (by repeat' (first | exact trivial | exact inB_px rfl | refine And.intro ?_ ?_))
        · repeat (first | (with_reducible first | apply aw_seq | apply aw_reg | apply rp_nil | apply ae_norm | apply aw_exit | apply ae_exit | apply be_exit | apply be_norm | apply aw_skip) | ((with_reducible apply rp); first | ((with_reducible apply does_move); (conv => lhs; whnf)) | ((with_reducible apply does_assign); (conv => lhs; whnf)) | ((with_reducible apply does_fieldAddr); exact tyOk rfl; exact rfl; exact rfl; decide; exact rfl) | ((with_reducible apply does_load_var); exact tyOk rfl; exact rfl; exact rfl; exact rfl; exact rfl) | ((with_reducible apply does_gt); exact rfl; exact rfl) | ((with_reducible apply does_add); exact rfl; exact rfl; omega; omega) | ((with_reducible apply does_len_sl); exact tyOk rfl; exact rfl; exact rfl)) | ((with_reducible apply aw_cond); exact rfl; (focus (intro hd; (exfalso; simp at hd; omega))); (intro hd; clear hd)))
          refine ⟨cs.length - (k + 1), _, by omega, ?_, k + 1, all + n.ks.length, by omega, rfl, hnext.symm, rfl⟩
          refine forget_of [] (by repeat' (first | exact ks_nil | (refine ks_cons rfl (by (first | exact SubA.refl _ | exact subA_i (by (simp; omega)))) ?_))) (by repeat' (first | exact trivial | exact rfl | refine And.intro ?_ ?_)) rfl (by repeat' (first | exact trivial | exact inB_px rfl | refine And.intro ?_ ?_)) (by repeat' (first | exact trivial | exact inB_px rfl | refine And.intro ?_ ?_))
    · have hkc : k = cs.length := by simp at hd; omega
      clear hall
      repeat (first | (with_reducible first | apply aw_seq | apply aw_reg | apply rp_nil | apply ae_norm | apply aw_block | apply aw_exit | apply ae_exit | apply be_exit | apply aw_skip) | ((with_reducible apply rp); first | ((with_reducible apply does_move); (conv => lhs; whnf)) | ((with_reducible apply does_assign); (conv => lhs; whnf)) | ((with_reducible apply does_fieldAddr); exact tyOk rfl; exact rfl; exact rfl; decide; exact rfl) | ((with_reducible apply does_load_var); exact tyOk rfl; exact rfl; exact rfl; exact rfl; exact rfl) | ((with_reducible apply does_gt); exact rfl; exact rfl) | ((with_reducible apply does_len_sl); exact tyOk rfl; exact rfl; exact rfl)) | ((with_reducible apply rp1); ((with_reducible apply does_make); exact tyOk rfl; exact rfl; exact tyOk rfl; exact rfl; exact rfl; exact rfl; exact rfl; decide; (first | omega | (dsimp only; omega)); (first | omega | (dsimp only; omega)); exact rfl)) | ((with_reducible apply aw_cond); exact rfl; (focus (intro hd; (exfalso; simp at hd; omega))); (intro hd; clear hd)))
      rw [← hcl] at o1
      refine aw_loop (fun m s => ∃ (k : Nat) (es : List (List D)), k ≤ cs.length ∧ m = cs.length - k ∧ es = seenE cs.length dep ((ns.take k).flatMap (·.kids)) ∧ s = ⟨[(1, .px 1 0), (8, .ow 50 cs.length), (52, .d (.sl 3 cs)), (53, .d (iD cs.length)), (54, .d (iD k))], [(50, .row 3 1 es), (1, .var 34 [.d (.sl 3 cs)])]⟩) _ _ ?_ ⟨0, List.replicate cs.length [iD 0], by omega, rfl, by rw [List.take_zero]; exact (seenE_nil _ _).symm, rfl⟩ ?_
      · refine forget_of [] (by repeat' (first | exact ks_nil | (refine ks_cons rfl (by exact SubA.refl _) ?_))) (by repeat' (first | exact trivial | exact rfl | refine And.intro ?_ ?_)) rfl (by repeat' (first | exact trivial | exact inB_ow rfl | exact inB_px rfl | refine And.intro ?_ ?_)) (by repeat' (first | exact trivial | exact inB_ow rfl | exact inB_px rfl | refine And.intro ?_ ?_))
      · clear hd hkc hk
        rintro m s2 ⟨k, es, hk, rfl, hes, rfl⟩
        have hel : es.length = cs.length := by rw [hes, seenE_len]
        repeat (first | (with_reducible first | apply aw_seq | apply aw_reg | apply rp_nil | apply ae_norm) | ((with_reducible apply rp); ((with_reducible apply does_lt); exact rfl; exact rfl)))
        refine aw_cond rfl (fun hd => ?_) (fun hd => ?_)
        · have hlt : k < cs.length := by simpa using hd
          obtain ⟨n, hn⟩ : ∃ n, ns[k]? = some n := ⟨_, List.getElem?_eq_getElem (by omega)⟩
          have hnm := List.mem_of_getElem? hn
          have hg := hcg hn
          obtain ⟨q1, q2, q3, q4⟩ := ho.shape n hnm
          have hkid := ho.kid k n hn
          have hkl : (n.ks.map strE).length = n.ks.length := List.length_map _
          have hvl : (n.vs.map intE).length = n.vs.length := List.length_map _
          have hdl : (n.kids.map natE).length = n.kids.length := List.length_map _
          have hdg : ∀ {j q : Nat}, n.kids[j]? = some q → (n.kids.map natE)[j]? = some [iD q] := fun h => by rw [List.getElem?_map, h]; rfl
          generalize n.ks.map strE = kl at *
          generalize n.vs.map intE = vl at *
          generalize n.kids.map natE = kd at *
          have hkdb : kd.length ≤ 4 := by omega
          have hcond : (decide ((kl.length : Int) < 1) || decide ((kl.length : Int) > 3) || (vl.length : Int) != (kl.length : Int) || (kd.length : Int) != 0 && (kd.length : Int) != (kl.length : Int) + 1) = false := by
            have a1 : decide ((kl.length : Int) < 1) = false := decide_eq_false (by omega)
            have a2 : decide ((kl.length : Int) > 3) = false := decide_eq_false (by omega)
            have a3 : ((vl.length : Int) != (kl.length : Int)) = false := by rw [bne_eq_false_iff_eq]; omega
            rw [a1, a2, a3]
            rcases q4 with q4 | q4
            · have a4 : ((kd.length : Int) != 0) = false := by rw [bne_eq_false_iff_eq]; omega
              rw [a4]; rfl
            · have a5 : ((kd.length : Int) != (kl.length : Int) + 1) = false := by rw [bne_eq_false_iff_eq]; omega
              rw [a5, Bool.and_false]; rfl
          repeat (first | (with_reducible first | apply aw_seq | apply aw_reg | apply rp_nil | apply ae_norm | apply aw_block | apply aw_skip) | ((first | (with_reducible apply rp) | ((with_reducible apply rpG); exact rfl; (first | exact gval_f rfl | exact gval_gt rfl); (focus repeat' (first | exact trivial | exact fun h => h | refine And.intro ?_ ?_ | (intro h; simp_all))); intro hgd; have hgd0 := hgd; (try simp only [decide_eq_true_eq, Bool.and_eq_true, Bool.not_eq_true', beq_iff_eq] at hgd))); first | ((with_reducible apply does_move); (conv => lhs; whnf)) | ((with_reducible apply does_assign); (conv => lhs; whnf)) | ((with_reducible apply does_and); exact rfl; exact rfl; exact rfl; (first | exact fun h => h | (intro h; (rw [hgd0, h]; rfl)))) | ((with_reducible apply does_or); exact rfl; exact rfl; exact rfl; (first | exact fun h => h | (intro h; (rw [hgd0, h]; rfl)))) | ((with_reducible apply does_fieldAddr); exact tyOk rfl; exact rfl; exact rfl; decide; exact rfl) | ((with_reducible apply does_load_var); exact tyOk rfl; exact rfl; exact rfl; exact rfl; exact rfl) | ((with_reducible apply does_load_elem_whole); exact tyOk rfl; exact rfl; exact rfl; assumption; exact rfl) | ((with_reducible apply does_index_sl); exact tyOk rfl; exact rfl; exact tyOk rfl; exact rfl; exact rfl; exact rfl; exact rfl; omega) | ((with_reducible apply does_ne); exact rfl; exact rfl) | ((with_reducible apply does_lt); exact rfl; exact rfl) | ((with_reducible apply does_gt); exact rfl; exact rfl) | ((with_reducible apply does_add); exact rfl; exact rfl; omega; omega) | ((with_reducible apply does_len_sl); exact tyOk rfl; exact rfl; exact rfl)) | ((with_reducible apply rp1); ((with_reducible apply does_alloc); exact tyOk rfl; exact rfl)) | ((with_reducible apply rpN); ((with_reducible apply does_store_whole); exact tyOk rfl; exact rfl; exact rfl; exact rfl; exact rfl; exact rfl)) | ((with_reducible apply aw_cond); exact rfl; (focus (intro hd; (exact absurd (hd.symm.trans (by assumption : _ = false)) (by decide)))); (intro hd; clear hd)) | ((first | (with_reducible apply rpGP) | (with_reducible apply drGP)); exact rfl; (first | exact gval_f rfl | exact gval_gt rfl); (focus repeat' (first | exact trivial | exact fun h => h | refine And.intro ?_ ?_ | (intro h; simp_all))); (intro hgd; have hgd0 := hgd; (try simp only [decide_eq_true_eq, Bool.and_eq_true, Bool.not_eq_true', beq_iff_eq] at hgd); first | ((with_reducible apply does_or); exact rfl; exact rfl; exact rfl; (first | exact fun h => h | (intro h; (rw [hgd0, h]; rfl)))) | ((with_reducible apply does_and); exact rfl; exact rfl; exact rfl; (first | exact fun h => h | (intro h; (rw [hgd0, h]; rfl)))))))
          refine aw_loop (fun m s => ∃ (c : Nat) (es : List (List D)), c ≤ kd.length ∧ m = kd.length - c ∧ es = seenE cs.length dep ((ns.take k).flatMap (·.kids) ++ n.kids.take c) ∧ s = ⟨[(1, .px 1 0), (8, .ow 50 cs.length), (9, .d (iD k)), (52, .d (.sl 3 cs)), (53, .d (iD cs.length)), (54, .d (iD k)), (95, .d (.sl 1 kd)), (96, .d (iD kd.length)), (97, .d (iD c))], [(50, .row 3 1 es), (1, .var 34 [.d (.sl 3 cs)])]⟩) _ _ ?_ ⟨0, es, by omega, rfl, by rw [List.take_zero, List.append_nil]; exact hes, rfl⟩ ?_
          · refine forget_of [] (by repeat' (first | exact ks_nil | (refine ks_cons rfl (by exact SubA.refl _) ?_))) (by repeat' (first | exact trivial | exact rfl | refine And.intro ?_ ?_)) rfl (by repeat' (first | exact trivial | exact inB_ow rfl | exact inB_px rfl | refine And.intro ?_ ?_)) (by repeat' (first | exact trivial | exact inB_ow rfl | exact inB_px rfl | refine And.intro ?_ ?_))
          · clear hes hel
            rintro m s3 ⟨c, es, hc, rfl, hes, rfl⟩
            have hel : es.length = cs.length := by rw [hes, seenE_len]
            repeat (first | (with_reducible first | apply aw_seq | apply aw_reg | apply rp_nil | apply ae_norm) | ((with_reducible apply rp); ((with_reducible apply does_lt); exact rfl; exact rfl)))
            refine aw_cond rfl (fun hd2 => ?_) (fun hd2 => ?_)
            · have hltc : c < kd.length := by simpa using hd2
              obtain ⟨q, hq⟩ : ∃ q, n.kids[c]? = some q := ⟨_, List.getElem?_eq_getElem (by omega)⟩
              have hq2 := hdg hq
              obtain ⟨z1, z2, z3⟩ := hkid q (List.mem_of_getElem? hq)
              have hnew := vis_new ho hn hq
              have hqe : es.length > q := by omega
              have hke : es.length > k := by omega
              have hsq : es[q]? = some [iD 0] := by rw [hes, seenE_get (by omega), if_neg hnew]; rfl
              have hold : k ∉ n.kids.take c := fun hm => by have := (hkid k (List.mem_of_mem_take hm)).1; omega
              have hsk : es[k]? = some [iD (dep.getD k 0 : Nat)] := by
                rw [hes, seenE_get (by omega)]
                have := hvd k (by omega)
                by_cases hm : k ∈ (ns.take k).flatMap (·.kids)
                · rw [if_pos (List.mem_append_left _ hm)]
                · rw [if_neg hm] at this
                  rw [if_neg (fun h => (List.mem_append.1 h).elim hm hold)]
                  exact congrArg (fun m : Nat => some [iD (m : Int)]) this
              have hset : es.set q [iD (dep.getD q 0 : Nat)] = seenE cs.length dep ((ns.take k).flatMap (·.kids) ++ n.kids.take (c + 1)) := by
                rw [hes, seenE_set (by omega), List.append_assoc, List.take_add_one, hq]; rfl
              have hadd : ((dep.getD k 0 : Nat) : Int) + 1 = ((dep.getD q 0 : Nat) : Int) := by omega
              have hdb : dep.getD q 0 ≤ 1000 := ho.deep q
              generalize dep.getD q 0 = dq at *
              generalize dep.getD k 0 = dk at *
              repeat (first | (with_reducible first | apply aw_seq | apply aw_reg | apply rp_nil | apply ae_norm | apply aw_block | apply be_norm | apply aw_skip) | ((first | (with_reducible apply rp) | ((with_reducible apply rpG); exact rfl; exact gval_f rfl; (focus repeat' (first | exact trivial | exact fun h => h | refine And.intro ?_ ?_)); intro hgd; have hgd0 := hgd; (try simp only [decide_eq_true_eq, Bool.and_eq_true, Bool.not_eq_true', beq_iff_eq] at hgd))); first | (exact does_add_to rfl rfl hadd (by omega) (by omega)) | ((with_reducible apply does_move); (conv => lhs; whnf)) | ((with_reducible apply does_assign); (conv => lhs; whnf)) | ((with_reducible apply does_or); exact rfl; exact rfl; exact rfl; exact fun h => h) | ((with_reducible apply does_fieldAddr); exact tyOk rfl; exact rfl; exact rfl; decide; exact rfl) | ((with_reducible apply does_load_var); exact tyOk rfl; exact rfl; exact rfl; exact rfl; exact rfl) | ((with_reducible apply does_load_elem); exact tyOk rfl; exact rfl; exact rfl; assumption; exact rfl) | ((with_reducible apply does_load_own); exact tyOk rfl; exact rfl; exact rfl; exact rfl; assumption; exact rfl) | ((with_reducible apply does_index_sl); exact tyOk rfl; exact rfl; exact tyOk rfl; exact rfl; exact rfl; exact rfl; exact rfl; omega) | ((with_reducible apply does_index_own); exact tyOk rfl; exact rfl; exact tyOk rfl; exact rfl; exact rfl; exact rfl; omega) | ((with_reducible apply does_le); exact rfl; exact rfl) | ((with_reducible apply does_gt); exact rfl; exact rfl) | ((with_reducible apply does_ge); exact rfl; exact rfl) | ((with_reducible apply does_add); exact rfl; exact rfl; omega; omega) | ((with_reducible apply does_len_sl); exact tyOk rfl; exact rfl; exact rfl)) | ((with_reducible apply rpN); ((with_reducible apply does_store_own); exact tyOk rfl; exact rfl; exact rfl; exact rfl; exact rfl; assumption; exact rfl; exact Nat.le_of_ble_eq_true rfl)) | ((with_reducible apply aw_cond); exact rfl; (focus (intro hd; (exfalso; simp at hd; omega))); (intro hd; clear hd)))
              refine ⟨kd.length - (c + 1), _, by omega, ?_, c + 1, es.set q [iD dq], by omega, rfl, hset, rfl⟩
              refine forget_of [] (by repeat' (first | exact ks_nil | (refine ks_cons rfl (by exact SubA.refl _) ?_))) (by repeat' (first | exact trivial | exact rfl | refine And.intro ?_ ?_)) rfl (by repeat' (first | exact trivial | exact inB_ow rfl | exact inB_px rfl | refine And.intro ?_ ?_)) (by repeat' (first | exact trivial | exact inB_ow rfl | exact inB_px rfl | refine And.intro ?_ ?_))
            · repeat (first | (with_reducible first | apply aw_reg | apply rp_nil | apply ae_norm | apply aw_exit | apply ae_exit | apply be_exit | apply be_norm) | ((with_reducible apply rp); first | ((with_reducible apply does_move); (conv => lhs; whnf)) | ((with_reducible apply does_add); exact rfl; exact rfl; omega; omega)))
              refine ⟨cs.length - (k + 1), _, by omega, ?_, k + 1, es, by omega, rfl, ?_, rfl⟩
              · refine forget_of [] (by repeat' (first | exact ks_nil | (refine ks_cons rfl (by exact SubA.refl _) ?_))) (by repeat' (first | exact trivial | exact rfl | refine And.intro ?_ ?_)) rfl (by repeat' (first | exact trivial | exact inB_ow rfl | exact inB_px rfl | refine And.intro ?_ ?_)) (by repeat' (first | exact trivial | exact inB_ow rfl | exact inB_px rfl | refine And.intro ?_ ?_))
              · rw [hes, take_flat hn, show n.kids.take c = n.kids from List.take_of_length_le (by simp at hd2; omega)]
        · have hkc : k = cs.length := by simp at hd; omega
          have hes2 : es = seenE cs.length dep (ns.flatMap (·.kids)) := by rw [hes, hkc, List.take_of_length_le (by omega)]
          rw [← hes2] at o1
          repeat (first | (with_reducible first | apply aw_seq | apply aw_reg | apply rp_nil | apply ae_norm | apply aw_exit | apply ae_exit | apply be_exit | apply aw_ret | apply re_ret) | ((with_reducible apply rp); first | ((with_reducible apply does_call_flat); exact rfl; exact rfl; exact (o1); exact rfl) | ((with_reducible apply does_move); (conv => lhs; whnf)) | ((with_reducible apply does_assign); (conv => lhs; whnf)) | ((with_reducible apply does_load_row); exact tyOk rfl; exact rfl; exact rfl; exact rfl; exact Nat.le_of_ble_eq_true rfl; exact rfl)))
          (with_reducible apply ret_ok); (focus (repeat' (first | (with_reducible apply rv_nil) | (with_reducible apply rv_cons) | ((with_reducible apply rv_tmp); exact rfl)))); exact rfl; refine SubD.of_eq ?_
          rfl
theorem check_nil : PC Tryd.prog 10 [treeD []] (iD 0) := by
  have o1 := orderly_nil
  unfold treeD nodesD at *
  have o1 : PC _ _ [.ag [.sl 3 []], .sl 1 []] _ := o1
  show PC _ _ [.ag [.sl 3 []]] _
  refine pc_of_aw Tryd.func10 rfl (by kernel_rfl) mixed (by kernel_rfl) (by rw [Tryd.ntmps10]; exact Nat.le_of_ble_eq_true rfl) Tryd.results10 ?_
  repeat (with_reducible apply aw_seq)
  repeat (first | (with_reducible first | apply aw_seq | apply aw_reg | apply rp_nil | apply ae_norm | apply aw_block | apply aw_skip) | ((with_reducible apply rp); first | ((with_reducible apply does_move); (conv => lhs; whnf)) | ((with_reducible apply does_assign); (conv => lhs; whnf)) | ((with_reducible apply does_fieldAddr); exact tyOk rfl; exact rfl; exact rfl; decide; exact rfl) | ((with_reducible apply does_load_var); exact tyOk rfl; exact rfl; exact rfl; exact rfl; exact rfl) | ((with_reducible apply does_gt); exact rfl; exact rfl) | ((with_reducible apply does_len_sl); exact tyOk rfl; exact rfl; exact rfl)) | ((with_reducible apply rp1); ((with_reducible apply does_box_ag); exact rfl; exact rfl)) | ((with_reducible apply aw_cond); exact rfl; (focus (intro hd; (cases hd; done))); (intro hd; clear hd)))
  refine aw_loop (fun n s => n = 0 ∧ s = ⟨[(1, .px 1 0), (3, .d (iD 0)), (18, .d (.sl 3 [])), (19, .d (iD 0)), (20, .d (iD 0))], [(1, .var 34 [.d (.sl 3 [])])]⟩) _ _ ?_ ⟨rfl, rfl⟩ ?_
  · refine forget_of [] (by repeat' (first | exact ks_nil | (refine ks_cons rfl (by exact SubA.refl _) ?_))) (by repeat' (first | exact trivial | exact rfl | refine And.intro ?_ ?_)) rfl (by repeat' (first | exact trivial | exact inB_px rfl | refine And.intro ?_ ?_)) (by repeat' (first | exact trivial | exact inB_px rfl | refine And.intro ?_ ?_))
  · rintro n s1 ⟨rfl, rfl⟩
    repeat (first | (with_reducible first | apply aw_seq | apply aw_reg | apply rp_nil | apply ae_norm | apply aw_block | apply aw_exit | apply ae_exit | apply be_exit | apply aw_skip) | ((with_reducible apply rp); first | ((with_reducible apply does_move); (conv => lhs; whnf)) | ((with_reducible apply does_assign); (conv => lhs; whnf)) | ((with_reducible apply does_fieldAddr); exact tyOk rfl; exact rfl; exact rfl; decide; exact rfl) | ((with_reducible apply does_load_var); exact tyOk rfl; exact rfl; exact rfl; exact rfl; exact rfl) | ((with_reducible apply does_lt); exact rfl; exact rfl) | ((with_reducible apply does_gt); exact rfl; exact rfl) | ((with_reducible apply does_len_sl); exact tyOk rfl; exact rfl; exact rfl)) | ((with_reducible apply rp1); ((with_reducible apply does_make); exact tyOk rfl; exact rfl; exact tyOk rfl; exact rfl; exact rfl; exact rfl; exact rfl; decide; (first | (dsimp only; simp only [List.length_map, List.length_append, List.length_cons, List.length_nil] at *; omega) | (simp only [List.length_map, List.length_append, List.length_cons, List.length_nil] at *; omega)); (first | (dsimp only; simp only [List.length_map, List.length_append, List.length_cons, List.length_nil] at *; omega) | (simp only [List.length_map, List.length_append, List.length_cons, List.length_nil] at *; omega)); exact rfl)) | ((with_reducible apply aw_cond); exact rfl; (focus (intro hd; (cases hd; done))); (intro hd; clear hd)))
    refine aw_loop (fun n s => n = 0 ∧ s = ⟨[(1, .px 1 0), (8, .ow 50 0), (52, .d (.sl 3 [])), (53, .d (iD 0)), (54, .d (iD 0))], [(50, .row 3 1 []), (1, .var 34 [.d (.sl 3 [])])]⟩) _ _ ?_ ⟨rfl, rfl⟩ ?_
    · refine forget_of [] (by repeat' (first | exact ks_nil | (refine ks_cons rfl (by exact SubA.refl _) ?_))) (by repeat' (first | exact trivial | exact rfl | refine And.intro ?_ ?_)) rfl (by repeat' (first | exact trivial | exact inB_ow rfl | exact inB_px rfl | refine And.intro ?_ ?_)) (by repeat' (first | exact trivial | exact inB_ow rfl | exact inB_px rfl | refine And.intro ?_ ?_))
    · rintro n s1 ⟨rfl, rfl⟩
      repeat (first | (with_reducible first | apply aw_seq | apply aw_reg | apply rp_nil | apply ae_norm | apply aw_exit | apply ae_exit | apply be_exit | apply aw_ret | apply re_ret) | ((with_reducible apply rp); first | ((with_reducible apply does_call_flat); exact rfl; exact rfl; exact (o1); exact rfl) | ((with_reducible apply does_move); (conv => lhs; whnf)) | ((with_reducible apply does_assign); (conv => lhs; whnf)) | ((with_reducible apply does_load_row); exact tyOk rfl; exact rfl; exact rfl; exact rfl; exact Nat.le_of_ble_eq_true rfl; exact rfl) | ((with_reducible apply does_lt); exact rfl; exact rfl)) | ((with_reducible apply aw_cond); exact rfl; (focus (intro hd; (cases hd; done))); (intro hd; clear hd)))
      (with_reducible apply ret_ok); (focus (repeat' (first | (with_reducible apply rv_nil) | (with_reducible apply rv_cons) | ((with_reducible apply rv_tmp); exact rfl)))); exact rfl; refine SubD.of_eq ?_
      rfl
end Go.Proofs.YtfplkakfakdfhaaDoor


/-
  Find. No condition but that the nodes are in order.
-/
namespace Go.Proofs.YtfplkakfakdfhaaDoor
set_option linter.unusedSimpArgs false
set_option linter.unusedVariables false
open Go.RowKit

def findH (key : ByteArray) : Nat → Tn → Option Int
  | h, .node ks vs ts =>
    if (seekF key ks).2 = true then some (vs.getD (seekF key ks).1 0)
    else match h with
      | 0 => none
      | h + 1 => findH key h (ts.getD (seekF key ks).1 noTn)
def resF : Option Int → D
  | some v => .tu [iD v, iD 0]
  | none => .tu [iD 0, iD 5]
theorem find_nil (key : ByteArray) : PC Tryd.prog 24 [treeD [], strD key] (resF none) := by
  have c1 := check_nil
  have r1 := root_nil
  unfold treeD nodesD at *
  have c1 : PC _ _ [.ag [.sl 3 []]] _ := c1
  have r1 : PG _ _ [.d (.ag [.sl 3 []])] _ _ _ _ _ := r1
  show PC _ _ [.ag [.sl 3 []], strD key] (.tu [iD 0, iD 5])
  refine pc_of_aw Tryd.func24 rfl (by kernel_rfl) mixed (by kernel_rfl) (by rw [Tryd.ntmps24]; exact Nat.le_of_ble_eq_true rfl) Tryd.results24 ?_
  repeat (with_reducible apply aw_seq)
  repeat (first | (with_reducible first | apply aw_seq | apply aw_reg | apply rp_nil | apply ae_norm | apply aw_block | apply aw_skip) | ((with_reducible apply rp); first | ((with_reducible apply does_call_flat); exact rfl; exact rfl; exact (c1); exact rfl) | ((with_reducible apply does_move); (conv => lhs; whnf)) | ((with_reducible apply does_assign); (conv => lhs; whnf)) | ((with_reducible apply does_load_row); exact tyOk rfl; exact rfl; exact rfl; exact rfl; exact Nat.le_of_ble_eq_true rfl; exact rfl) | ((with_reducible apply does_ne); exact rfl; exact rfl)) | ((with_reducible apply rp1); ((with_reducible apply does_box_ag); exact rfl; exact rfl)) | ((with_reducible apply rpL); (refine does_callG' [] [] (ups := []) (v := (.d (.sc (.pointer none)))) rfl (r1) rfl ?_ rfl ?_ ?_ rfl rfl rfl rfl rfl ?_ ?_ rfl rfl rfl; (focus repeat' exact trivial); (focus repeat' (first | exact trivial | refine And.intro ?_ ?_)); (focus repeat' (first | exact trivial | refine And.intro ?_ ?_)); (focus repeat' (first | exact trivial | refine And.intro ?_ ?_)); (focus repeat' (first | exact trivial | refine And.intro ?_ ?_))); exact lapp_nil _) | ((with_reducible apply aw_cond); exact rfl; (focus (intro hd; (cases hd; done))); (intro hd; clear hd)))
  refine aw_loop (fun n s => n = 0 ∧ s = ⟨[(1, .d (strD key)), (7, .d (.sc (.pointer none)))], []⟩) _ _ ?_ ⟨rfl, rfl⟩ ?_
  · refine forget_of [] (by repeat' (first | exact ks_nil | (refine ks_cons rfl (by exact SubA.refl _) ?_))) (by repeat' exact trivial) rfl (by repeat' (first | exact trivial | refine And.intro ?_ ?_)) (by repeat' (first | exact trivial | refine And.intro ?_ ?_))
  · rintro n s1 ⟨rfl, rfl⟩
    repeat (first | (with_reducible first | apply aw_seq | apply aw_reg | apply rp_nil | apply ae_norm | apply aw_exit | apply ae_exit | apply be_exit | apply aw_ret | apply re_ret) | ((with_reducible apply rp); first | (exact does_ne_nn ptrNode rfl rfl) | ((with_reducible apply does_move); (conv => lhs; whnf)) | ((with_reducible apply does_assign); (conv => lhs; whnf))) | ((with_reducible apply aw_cond); exact rfl; (focus (intro hd; (cases hd; done))); (intro hd; clear hd)))
    (with_reducible apply ret_ok); (focus (repeat' (first | (with_reducible apply rv_nil) | (with_reducible apply rv_cons) | ((with_reducible apply rv_tmp); exact rfl)))); exact rfl; refine SubD.of_eq ?_
    rfl
theorem find_pc (key : ByteArray) (ns : List Nd) (h : Nat) (t : Tn) (c1 : PC Tryd.prog 10 [treeD ns] (iD 0)) (hs : Sh h t) (hl : Lies ns 0 t) : PC Tryd.prog 24 [treeD ns, strD key] (resF (findH key h t)) := by
  have r1 := root_pg ns h t hs hl
  unfold treeD nodesD at *
  generalize hcs : ns.map nodeC = cs at *
  refine pc_of_aw Tryd.func24 rfl (by kernel_rfl) mixed (by kernel_rfl) (by rw [Tryd.ntmps24]; exact Nat.le_of_ble_eq_true rfl) Tryd.results24 ?_
  repeat (with_reducible apply aw_seq)
  repeat (first | (with_reducible first | apply aw_seq | apply aw_reg | apply rp_nil | apply ae_norm | apply aw_block | apply aw_skip) | ((with_reducible apply rp); first | ((with_reducible apply does_call_flat); exact rfl; exact rfl; exact (c1); exact rfl) | ((with_reducible apply does_move); (conv => lhs; whnf)) | ((with_reducible apply does_assign); (conv => lhs; whnf)) | ((with_reducible apply does_load_row); exact tyOk rfl; exact rfl; exact rfl; exact rfl; exact Nat.le_of_ble_eq_true rfl; exact rfl) | ((with_reducible apply does_ne); exact rfl; exact rfl)) | ((with_reducible apply rp1); ((with_reducible apply does_box_ag); exact rfl; exact rfl)) | ((with_reducible apply rpL); (refine does_callG' [] [(2000, 16)] (ups := [(16, .res (treeR TQ t))]) (v := (.px 16 0)) rfl (r1) rfl ?_ rfl ?_ ?_ rfl rfl rfl rfl rfl ?_ ?_ rfl rfl rfl; (focus repeat' exact trivial); (focus repeat' (first | exact trivial | exact inB_px rfl | refine And.intro ?_ ?_)); (focus repeat' (first | exact trivial | exact inB_px rfl | refine And.intro ?_ ?_)); (focus repeat' (first | exact trivial | exact inB_px rfl | refine And.intro ?_ ?_)); (focus repeat' (first | exact trivial | exact inB_px rfl | refine And.intro ?_ ?_))); exact lapp_nil _) | ((with_reducible apply aw_cond); exact rfl; (focus (intro hd; (cases hd; done))); (intro hd; clear hd)))
  refine aw_loop (fun n s => ∃ g t2, n = g ∧ Sh g t2 ∧ findH key g t2 = findH key h t ∧ s = ⟨[(1, .d (strD key)), (7, .px 2000 0)], [(2000, .res (treeR TQ t2))]⟩) _ _ ?_ ⟨h, t, rfl, hs, rfl, rfl⟩ ?_
  · refine forget_of [(2000, 16)] (by repeat' (first | exact ks_nil | (refine ks_cons rfl (by exact SubA.refl _) ?_))) (by repeat' (first | exact trivial | exact rfl | refine And.intro ?_ ?_)) rfl (by repeat' (first | exact trivial | exact inB_px rfl | refine And.intro ?_ ?_)) (by repeat' (first | exact trivial | exact inB_px rfl | refine And.intro ?_ ?_))
  · rintro n s1 ⟨g, t2, rfl, hs2, hf, rfl⟩
    obtain ⟨ks, vs, ts⟩ := t2
    have hks : ks.length ≤ 3 ∧ vs.length = ks.length := by
      cases n with
      | zero => exact ⟨hs2.2.2.1, hs2.1⟩
      | succ n => exact ⟨hs2.2.2.1, hs2.1⟩
    obtain ⟨hks, hvs⟩ := hks
    have s1 := seek_pc ks key (by omega)
    have hle := seekF_le key ks
    have hltS := seekF_lt key ks
    have e0 : ∀ ts, (seekF key ks).2 = false → findH key 0 (.node ks vs ts) = none := fun ts hb => by rw [findH, hb]; rfl
    have e1 : ∀ g, (seekF key ks).2 = false → findH key (g + 1) (.node ks vs ts) = findH key g (ts.getD (seekF key ks).1 noTn) := fun g hb => by rw [findH, hb]; rfl
    have e2 : ∀ g, (seekF key ks).2 = true → findH key g (.node ks vs ts) = some (vs.getD (seekF key ks).1 0) := fun g hb => by cases g <;> rw [findH, if_pos hb]
    rcases hb : (seekF key ks).2 with _ | _
    · rw [hb] at s1
      generalize (seekF key ks).1 = i at *
      cases n with
      | zero =>
        have hts : ts = [] := hs2.2.2.2
        subst hts
        repeat (first | (refine aw_exR1 (id := 6) mixed (fun C ac w h => ent_open (Q := TQ) 2000 3001 3002 3003 rfl rfl rfl rfl (by decide) (by decide) (by decide) h) ?_; (with_reducible apply aw_reg)) | (with_reducible first | apply aw_seq | apply aw_reg | apply rp_nil | apply ae_norm | apply aw_exit | apply ae_exit | apply be_exit | apply aw_ret | apply re_ret | apply aw_skip) | ((with_reducible apply be_other); exact rfl) | ((with_reducible apply rp); first | (exact does_ne_px ptrNode rfl rfl) | ((with_reducible apply does_call_flat); exact rfl; exact rfl; exact (s1); exact rfl) | ((with_reducible apply does_move); (conv => lhs; whnf)) | ((with_reducible apply does_assign); (conv => lhs; whnf)) | ((with_reducible apply does_fieldAddr); exact tyOk rfl; exact rfl; exact rfl; decide; exact rfl) | ((with_reducible apply does_load_var); exact tyOk rfl; exact rfl; exact rfl; exact rfl; exact rfl) | ((with_reducible apply does_eq); exact rfl; exact rfl) | ((with_reducible apply does_extract); exact rfl; exact rfl) | ((with_reducible apply does_len_ow); exact tyOk rfl; exact rfl; exact rfl) | ((with_reducible apply does_nilCheck); exact rfl)) | ((with_reducible apply aw_cond); exact rfl; (focus (intro hd; (cases hd; done))); (intro hd; clear hd)) | ((with_reducible apply aw_cond); exact rfl; rotate_left; (focus (intro hd; (cases hd; done))); (intro hd; clear hd)))
        (with_reducible apply ret_ok); (focus (repeat' (first | (with_reducible apply rv_nil) | (with_reducible apply rv_cons) | ((with_reducible apply rv_tmp); exact rfl)))); exact rfl; refine SubD.of_eq ?_
        rw [← hf, e0 [] hb]
        rfl
      | succ g =>
        obtain ⟨_, _, _, h4, h5⟩ := hs2
        have hlt : i < ts.length := by omega
        obtain ⟨l1, t0, l2, hts, hl1⟩ := split_at hlt
        have hget : ts.getD i noTn = t0 := by rw [hts, ← hl1]; simp
        have hne : ((ts.length : Int) == 0) = false := by rw [beq_eq_false_iff_ne]; omega
        repeat (first | (refine aw_exR1 (id := 6) mixed (fun C ac w h => ent_open (Q := TQ) 2000 3001 3002 3003 rfl rfl rfl rfl (by decide) (by decide) (by decide) h) ?_; (with_reducible apply aw_reg)) | (with_reducible first | apply aw_seq | apply aw_reg | apply rp_nil | apply ae_norm | apply be_norm | apply aw_skip) | ((with_reducible apply rp); first | (exact does_ne_px ptrNode rfl rfl) | ((with_reducible apply does_call_flat); exact rfl; exact rfl; exact (s1); exact rfl) | ((with_reducible apply does_move); (conv => lhs; whnf)) | ((with_reducible apply does_assign); (conv => lhs; whnf)) | ((with_reducible apply does_fieldAddr); exact tyOk rfl; exact rfl; exact rfl; decide; exact rfl) | ((with_reducible apply does_load_var); exact tyOk rfl; exact rfl; exact rfl; exact rfl; exact rfl) | ((with_reducible apply does_index_own); exact tyOk rfl; exact rfl; exact tyOk rfl; exact rfl; exact rfl; exact rfl; omega) | ((with_reducible apply does_eq); exact rfl; exact rfl) | ((with_reducible apply does_extract); exact rfl; exact rfl) | ((with_reducible apply does_len_ow); exact tyOk rfl; exact rfl; exact rfl) | ((with_reducible apply does_nilCheck); exact rfl)) | ((with_reducible apply rp2); (exact does_load_kid (Q := TQ) (l1 := l1) (l2 := l2) (t0 := t0) (tyOk rfl) rfl rfl (by rw [← hts]; exact rfl) hl1 rfl)) | ((with_reducible apply aw_cond); exact rfl; (focus (intro hd; (first | (cases hd; done) | (exact absurd (hd.symm.trans (by assumption : _ = false)) (by decide))))); (intro hd; clear hd)) | ((with_reducible apply aw_cond); exact rfl; rotate_left; (focus (intro hd; (first | (cases hd; done) | (exact absurd (hd.symm.trans (by assumption : _ = false)) (by decide))))); (intro hd; clear hd)))
        refine ⟨g, _, by omega, ?_, g, t0, rfl, h5 t0 (by rw [hts]; simp), ?_, rfl⟩
        · refine forget_of [(2000, 48)] (by repeat' (first | exact ks_nil | (refine ks_cons rfl (by exact SubA.refl _) ?_))) (by repeat' (first | exact trivial | exact rfl | refine And.intro ?_ ?_)) rfl (by repeat' (first | exact trivial | exact inB_px rfl | refine And.intro ?_ ?_)) (by repeat' (first | exact trivial | exact inB_px rfl | refine And.intro ?_ ?_))
        · rw [← hf, e1 g hb, hget]
    · rw [hb] at s1
      have hlt := hltS hb
      have e2 := e2 n hb
      generalize (seekF key ks).1 = i at *
      obtain ⟨v, hv⟩ : ∃ v, vs[i]? = some v := ⟨_, List.getElem?_eq_getElem (by omega)⟩
      rw [List.getD_eq_getElem?_getD, hv, Option.getD_some] at e2
      repeat (first | (refine aw_exR1 (id := 6) mixed (fun C ac w h => ent_open (Q := TQ) 2000 3001 3002 3003 rfl rfl rfl rfl (by decide) (by decide) (by decide) h) ?_; (with_reducible apply aw_reg)) | (with_reducible first | apply aw_seq | apply aw_reg | apply rp_nil | apply ae_norm | apply aw_ret | apply ae_ret | apply be_ret | apply re_ret) | ((with_reducible apply rp); first | (exact does_ne_px ptrNode rfl rfl) | ((with_reducible apply does_call_flat); exact rfl; exact rfl; exact (s1); exact rfl) | ((with_reducible apply does_move); (conv => lhs; whnf)) | ((with_reducible apply does_assign); (conv => lhs; whnf)) | ((with_reducible apply does_fieldAddr); exact tyOk rfl; exact rfl; exact rfl; decide; exact rfl) | ((with_reducible apply does_load_var); exact tyOk rfl; exact rfl; exact rfl; exact rfl; exact rfl) | ((with_reducible apply does_load_own); exact tyOk rfl; exact rfl; exact rfl; exact rfl; exact map_get (by assumption); exact rfl) | ((with_reducible apply does_index_own); exact tyOk rfl; exact rfl; exact tyOk rfl; exact rfl; exact rfl; exact rfl; omega) | ((with_reducible apply does_extract); exact rfl; exact rfl) | ((with_reducible apply does_nilCheck); exact rfl)) | ((with_reducible apply aw_cond); exact rfl; rotate_left; (focus (intro hd; (cases hd; done))); (intro hd; clear hd)))
      (with_reducible apply ret_ok); (focus (repeat' (first | (with_reducible apply rv_nil) | (with_reducible apply rv_cons) | ((with_reducible apply rv_tmp); exact rfl)))); exact rfl; refine SubD.of_eq ?_
      rw [← hf, e2]
      rfl
end Go.Proofs.YtfplkakfakdfhaaDoor

