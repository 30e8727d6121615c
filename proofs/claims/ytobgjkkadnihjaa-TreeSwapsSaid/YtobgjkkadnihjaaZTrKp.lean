/-
  grown: a tree of raw things. No condition but the length.
-/
import Derived.Test.YtobgjkkadnihjaaZTrKpL
namespace Go.Proofs.Ytobgjkkadnihjaa
set_option linter.unusedSimpArgs false
set_option linter.unusedVariables false
open Go.RowKit

/-- Behind a region: one state. -/
theorem aw_to {P : Program} {Q : Exit → St → Prop} (hmx : P.follows .mixedOrders = true) {id : Nat} {ops : Array Oper} {d : Bool} {s s9 : St} (h : AW P (.region id ops d) (fun e s1 => e = .normal ∧ Ent s1 s9) s) (hq : Q .normal s9) : AW P (.region id ops d) Q s := by
  have hs : SemWP P (.region id ops d) Q s := fun C a w hc hat => by
    refine wp_mono (aw_sound hmx _ _ _ a w hc h hat) fun e a' w' hq' => ?_
    obtain ⟨s1, ⟨he, h1⟩, ha⟩ := hq'
    exact ⟨s9, he ▸ hq, h1 C a' w' ha⟩
  cases d <;> exact .inr hs
/-- Here the walk stops for a while. -/
structure Halt (p : Prop) : Prop where
  go : p
theorem aw_halt {P : Program} {Q : Exit → St → Prop} {id : Nat} {ops : Array Oper} {d : Bool} {s : St} (h : Halt (AW P (.region id ops d) Q s)) : AW P (.region id ops d) Q s := h.go
theorem emod_nat (n : Int) (m : Nat) (hm : 0 < m) : n % (m : Int) = ((n % (m : Int)).toNat : Int) := by
  have := Int.emod_nonneg n (by omega : (m : Int) ≠ 0)
  omega
theorem picked_to (n : Int) (m u : Nat) (hm : 0 < m) (hm2 : m ≤ 4611686018427387904) (hu : (n % (m : Int)).toNat = u) : PC Try.prog 8 [iD n, iD m] (iD u) := by
  have := picked_pc n m hm hm2
  rw [emod_nat n m hm, hu] at this
  exact this
set_option maxHeartbeats 8000000 in
theorem grown_pc (l : List Raw) (m : Nat) (hl : l.length ≤ 4611686018427387904) (hm : m ≤ 60) : PC Try.prog 12 [.sl 4 (l.map Raw.cs), iD m] (.tu [treeO (grownO (l.take m)), pairsD (itemsO (grownO (l.take m))), bD true]) := by
  have s1 := somet_pc l m hl
  have hgok := gok_take (l.take m)
  have htl : (l.take m).length ≤ 60 := by rw [List.length_take]; omega
  generalize l.take m = rs at *
  have hrl : (rs.map Raw.cs).length = rs.length := List.length_map _
  have hrg : ∀ {k : Nat} {r : Raw}, rs[k]? = some r → (rs.map Raw.cs)[k]? = some [iD r.kind, iD r.a, iD r.b, strD r.text] := fun h => by rw [List.getElem?_map, h]; rfl
  generalize hrc : rs.map Raw.cs = rc at *
  refine pc_of_aw Try.func12 rfl (by kernel_rfl) mixed (by kernel_rfl) (by rw [Try.ntmps12]; exact Nat.le_of_ble_eq_true rfl) Try.results12 ?_
  repeat (with_reducible apply aw_seq)
  repeat (first | (refine aw_after (id := 2) mixed ?_; (with_reducible apply aw_reg)) | (with_reducible first | apply aw_seq | apply aw_reg | apply rp_nil | apply ae_norm) | ((with_reducible apply rp); first | ((with_reducible apply does_call'); exact rfl; exact rfl; exact rfl; exact (s1)) | ((with_reducible apply does_move); (conv => lhs; whnf)) | ((with_reducible apply does_assign); (conv => lhs; whnf)) | ((with_reducible apply does_len_sl); exact tyOk rfl; exact rfl; exact rfl) | ((with_reducible apply does_zeroS); exact tyOk rfl; exact rfl; exact rfl)) | ((with_reducible apply rp1); ((with_reducible apply does_alloc); exact tyOk rfl; exact rfl)) | ((with_reducible apply rpN); ((with_reducible apply does_store_whole); exact tyOk rfl; exact rfl; exact rfl; exact rfl; exact rfl; exact rfl)))
  refine after1 (fun C ac w h => ent_nl 7 3 rfl h) ?_
  repeat (first | (with_reducible first | apply ae_norm | apply aw_block))
  refine aw_loop (fun n s => ∃ k : Nat, k ≤ rc.length ∧ n = rc.length - k ∧ s = ⟨[(4, .px 4 0), (7, .px 7 0), (8, .d (pairsD (itemsO (grownO (rs.take k))))), (9, .d (bD true)), (21, .d (.sl 4 rc)), (22, .d (iD rc.length)), (23, .d (iD k))], [(4, .var 26 [.d .nl]), (7, .var 26 [.d (nodesD (nodesO (grownO (rs.take k))))])]⟩) _ _ ?_ ⟨0, by omega, rfl, rfl⟩ ?_
  · refine forget_of [] (by repeat' (first | exact ks_nil | (refine ks_cons rfl (by (first | exact SubA.refl _ | exact SubA.d (SubD.nil _))) ?_))) (by repeat' (first | exact trivial | exact rfl | refine And.intro ?_ ?_)) rfl (by repeat' (first | exact trivial | exact inB_px rfl | refine And.intro ?_ ?_)) (by repeat' (first | exact trivial | exact inB_px rfl | refine And.intro ?_ ?_))
  · rintro n s2 ⟨k, hk, rfl, rfl⟩
    repeat (first | (with_reducible first | apply aw_seq | apply aw_reg | apply rp_nil | apply ae_norm) | ((with_reducible apply rp); ((with_reducible apply does_lt); exact rfl; exact rfl)))
    refine aw_cond rfl (fun hd => ?_) (fun hd => ?_)
    · have hlt : k < rc.length := by simpa using hd
      obtain ⟨r, hr⟩ : ∃ r, rs[k]? = some r := ⟨_, List.getElem?_eq_getElem (by omega)⟩
      have hr2 := hrg hr
      have hG := hgok k (by omega)
      have hnext : grownO (rs.take (k + 1)) = stepO (grownO (rs.take k)) r := by
        rw [List.take_add_one, hr, Option.toList_some]
        unfold grownO
        rw [List.foldl_append]
        rfl
      generalize grownO (rs.take k) = o at *
      have hof := hG.few
      have hasc := hG.good.asc
      obtain ⟨want, hw⟩ : ∃ want, itemsO o = want := ⟨_, rfl⟩
      have hwg : ∀ {j : Nat} {p : ByteArray × Int}, want[j]? = some p → (want.map pairE)[j]? = some [strD p.1, iD p.2] := fun h => pairs_get h
      have hwl : (want.map pairE).length = want.length := List.length_map _
      rw [hw] at hof hasc ⊢
      have pu := picked_to r.a 5 (nU r) (by decide) (by decide) rfl
      have pv := picked_to r.b 6 (nV r) (by decide) (by decide) rfl
      have pk := picked_to r.kind 4 (nK r) (by decide) (by decide) rfl
      have hkey : keyR r = byS [chrB 97 (nU r), chrB 97 (nV r)] := rfl
      have hu5 := nU_lt r
      have hv6 := nV_lt r
      unfold pairsD
      generalize hes : want.map pairE = es at *
      clear hd
      repeat (first | (with_reducible first | apply aw_seq | apply aw_reg | apply rp_nil | apply ae_norm | apply aw_regD | apply aw_block | apply aw_skip) | ((with_reducible apply dr_nil); (first | kernel_rfl | exact rfl)) | ((with_reducible first | apply rp | apply dr); first | ((with_reducible apply does_call_flat); exact rfl; exact rfl; exact (pu); exact rfl) | ((with_reducible apply does_call_flat); exact rfl; exact rfl; exact (pv); exact rfl) | (exact does_conv_chr (by omega) (tyOk rfl) (tyOk rfl) rfl rfl) | (exact does_chr (c := 97) (by omega) rfl rfl) | ((with_reducible apply does_assign); (conv => lhs; whnf)) | ((with_reducible apply does_fieldAddr); exact tyOk rfl; exact rfl; exact rfl; decide; exact rfl) | ((with_reducible apply does_load_var); exact tyOk rfl; exact rfl; exact rfl; exact rfl; exact rfl) | ((with_reducible apply does_load_elem_whole); exact tyOk rfl; exact rfl; exact rfl; assumption; exact rfl) | ((with_reducible apply does_index_sl); exact tyOk rfl; exact rfl; exact tyOk rfl; exact rfl; exact rfl; exact rfl; exact rfl; omega)) | ((with_reducible first | apply rp1 | apply dr1); first | (exact does_frzT 37 rfl rfl (does_conv_bs (k := [_, _]) (tyOk rfl) rfl (tyOk rfl) rfl (tyOk rfl) rfl rfl)) | ((with_reducible apply does_alloc); exact tyOk rfl; exact rfl) | ((with_reducible apply does_buildSlice); exact tyOk rfl; exact rfl; exact tyOk rfl; exact rfl; exact rfl; (focus repeat' (first | exact trivial | refine And.intro rfl (And.intro rfl ?_))); decide; decide; exact rfl)) | ((with_reducible apply rpN); ((with_reducible apply does_store_whole); exact tyOk rfl; exact rfl; exact rfl; exact rfl; exact rfl; exact rfl)))
      rw [← hkey]
      have hal := atL_le (keyR r) want
      have halt : ∀ {j : Nat}, j < atL (keyR r) want → ∃ p, want[j]? = some p ∧ ltB p.1 (keyR r) = true := fun h => atL_lt h
      have haat : ∀ {p : ByteArray × Int}, want[atL (keyR r) want]? = some p → ltB p.1 (keyR r) = false := fun h => atL_at h
      have hall := fun val => at_all (key := keyR r) (val := val) hasc
      generalize hat : atL (keyR r) want = at0 at *
      generalize hkk : keyR r = key at *
      generalize hdo : nodesD (nodesO o) = dO at *
      refine aw_loop (fun n s => ∃ j : Nat, j ≤ at0 ∧ n = at0 - j ∧ s = ⟨[(4, .px 4 0), (7, .px 7 0), (8, .d (.sl 2 es)), (9, .d (bD true)), (11, .px 11 0), (12, .d (strD key)), (13, .d (iD j)), (21, .d (.sl 4 rc)), (22, .d (iD rc.length)), (23, .d (iD k))], [(4, .var 26 [.d .nl]), (7, .var 26 [.d dO]), (11, .var 48 [.d (iD r.kind), .d (iD r.a), .d (iD r.b), .d (strD r.text)])]⟩) _ _ ?_ ⟨0, by omega, rfl, rfl⟩ ?_
      · refine forget_of [] (by repeat' (first | exact ks_nil | (refine ks_cons rfl (by exact SubA.refl _) ?_))) (by repeat' (first | exact trivial | exact rfl | refine And.intro ?_ ?_)) rfl (by repeat' (first | exact trivial | exact inB_px rfl | refine And.intro ?_ ?_)) (by repeat' (first | exact trivial | exact inB_px rfl | refine And.intro ?_ ?_))
      · rintro n s3 ⟨j, hj, rfl, rfl⟩
        by_cases hjl : j < at0
        · obtain ⟨p, hp, hpk⟩ := halt hjl
          have hp2 := hwg hp
          have hjb : j < es.length := by omega
          have hcond : (decide ((j : Int) < (es.length : Int)) && Op.bytesLess p.1.toList key.toList) = true := by rw [decide_eq_true (by omega), show Op.bytesLess p.1.toList key.toList = true from hpk]; rfl
          have hkb : at0 ≤ 100 := by omega
          repeat (first | (with_reducible first | apply aw_seq | apply aw_reg | apply rp_nil | apply ae_norm | apply aw_block | apply be_norm | apply aw_skip) | ((first | (with_reducible apply rp) | ((with_reducible apply rpG); exact rfl; exact gval_t rfl; (focus repeat' (first | exact trivial | exact fun h => h | refine And.intro ?_ ?_)); intro hgd; have hgd0 := hgd; (try simp only [decide_eq_true_eq, Bool.and_eq_true, Bool.not_eq_true', beq_iff_eq] at hgd))); first | ((with_reducible apply does_move); (conv => lhs; whnf)) | ((with_reducible apply does_assign); (conv => lhs; whnf)) | ((with_reducible apply does_and); exact rfl; exact rfl; exact rfl; exact fun h => h) | ((with_reducible apply does_fieldAddr); exact tyOk rfl; exact rfl; exact rfl; decide; exact rfl) | ((with_reducible apply does_load_elem); exact tyOk rfl; exact rfl; exact rfl; assumption; exact rfl) | ((with_reducible apply does_index_sl); exact tyOk rfl; exact rfl; exact tyOk rfl; exact rfl; exact rfl; exact rfl; exact rfl; omega) | ((with_reducible apply does_lt); exact rfl; exact rfl) | ((with_reducible apply does_add); exact rfl; exact rfl; omega; omega) | ((with_reducible apply does_slt); exact rfl; exact rfl) | ((with_reducible apply does_len_sl); exact tyOk rfl; exact rfl; exact rfl)) | ((with_reducible apply aw_cond); exact rfl; rotate_left; (focus (intro hd; (exact absurd (hd.symm.trans (by assumption : _ = true)) (by decide)))); (intro hd; clear hd)))
          refine ⟨at0 - (j + 1), _, by omega, ?_, j + 1, by omega, rfl, rfl⟩
          refine forget_of [] (by repeat' (first | exact ks_nil | (refine ks_cons rfl (by exact SubA.refl _) ?_))) (by repeat' (first | exact trivial | exact rfl | refine And.intro ?_ ?_)) rfl (by repeat' (first | exact trivial | exact inB_px rfl | refine And.intro ?_ ?_)) (by repeat' (first | exact trivial | exact inB_px rfl | refine And.intro ?_ ?_))
        · have hje : j = at0 := by omega
          subst hje
          have hth : ((lookL key want).isSome = true ∧ ∃ v, want[j]? = some (key, v)) ∨ ((lookL key want).isSome = false ∧ ∀ p, want[j]? = some p → p.1 ≠ key) := by
            rcases hwj : want[j]? with _ | ⟨pk, pv⟩
            · exact .inr ⟨by rw [((hall 0).2 (fun p h => by rw [hwj] at h; cases h)).1]; rfl, fun p h => by cases h⟩
            · by_cases hpk : pk = key
              · subst hpk
                exact .inl ⟨by rw [((hall 0).1 pv hwj).1]; rfl, pv, rfl⟩
              · have : ∀ p, want[j]? = some p → p.1 ≠ key := fun p h => by rw [hwj] at h; injection h with h; rw [← h]; exact hpk
                refine .inr ⟨by rw [((hall 0).2 this).1]; rfl, fun p h => ?_⟩
                injection h with h
                rw [← h]; exact hpk
          generalize hthe : (lookL key want).isSome = th at *
          repeat (with_reducible apply aw_seq)
          refine aw_to (id := 7) mixed (s9 := ⟨[(51, .d (bD false)), (4, .px 4 0), (7, .px 7 0), (8, .d (.sl 2 es)), (9, .d (bD true)), (11, .px 11 0), (12, .d (strD key)), (13, .d (iD j)), (21, .d (.sl 4 rc)), (22, .d (iD rc.length)), (23, .d (iD k))], [(4, .var 26 [.d .nl]), (7, .var 26 [.d dO]), (11, .var 48 [.d (iD r.kind), .d (iD r.a), .d (iD r.b), .d (strD r.text)])]⟩) ?_ ?_
          · rcases hwj : want[j]? with _ | p
            · have hjn := List.getElem?_eq_none_iff.1 hwj
              have hgf : decide ((j : Int) < (es.length : Int)) = false := decide_eq_false (by omega)
              repeat (first | (with_reducible first | apply aw_reg | apply rp_nil) | ((first | (with_reducible apply rp) | ((with_reducible apply rpG); exact rfl; exact gval_t rfl; (focus repeat' (first | exact trivial | exact fun h => h | refine And.intro ?_ ?_)); intro hgd; have hgd0 := hgd; (try simp only [decide_eq_true_eq, Bool.and_eq_true, Bool.not_eq_true', beq_iff_eq] at hgd))); first | ((with_reducible apply does_move); (conv => lhs; whnf)) | ((with_reducible apply does_pickF); exact rfl; (first | assumption | decide); (conv => lhs; whnf)) | ((with_reducible apply does_fieldAddr); exact tyOk rfl; exact rfl; exact rfl; decide; exact rfl) | ((with_reducible apply does_index_sl); exact tyOk rfl; exact rfl; exact tyOk rfl; exact rfl; exact rfl; exact rfl; exact rfl; omega) | ((with_reducible apply does_lt); exact rfl; exact rfl) | ((with_reducible apply does_len_sl); exact tyOk rfl; exact rfl; exact rfl)) | ((first | (with_reducible apply rpGF) | (with_reducible apply drGF)); exact rfl; exact gval_t rfl; (first | assumption | decide | exact rfl); (focus repeat' (first | exact trivial | exact fun h => h | refine And.intro ?_ ?_))))
              refine ⟨rfl, ?_⟩
              refine forget_of [] (by repeat' (first | exact ks_nil | (refine ks_cons rfl (by exact SubA.refl _) ?_))) (by repeat' (first | exact trivial | exact rfl | refine And.intro ?_ ?_)) rfl (by repeat' (first | exact trivial | exact inB_px rfl | refine And.intro ?_ ?_)) (by repeat' (first | exact trivial | exact inB_px rfl | refine And.intro ?_ ?_))
            · have hp2 := hwg hwj
              have hjb : j < es.length := by have := (List.getElem?_eq_some_iff.1 hwj).1; omega
              have hcond : (decide ((j : Int) < (es.length : Int)) && Op.bytesLess p.1.toList key.toList) = false := by rw [show Op.bytesLess p.1.toList key.toList = false from haat hwj, Bool.and_false]
              repeat (first | (with_reducible first | apply aw_reg | apply rp_nil) | ((first | (with_reducible apply rp) | ((with_reducible apply rpG); exact rfl; exact gval_t rfl; (focus repeat' (first | exact trivial | exact fun h => h | refine And.intro ?_ ?_)); intro hgd; have hgd0 := hgd; (try simp only [decide_eq_true_eq, Bool.and_eq_true, Bool.not_eq_true', beq_iff_eq] at hgd))); first | ((with_reducible apply does_move); (conv => lhs; whnf)) | ((with_reducible apply does_and); exact rfl; exact rfl; exact rfl; exact fun h => h) | ((with_reducible apply does_fieldAddr); exact tyOk rfl; exact rfl; exact rfl; decide; exact rfl) | ((with_reducible apply does_load_elem); exact tyOk rfl; exact rfl; exact rfl; assumption; exact rfl) | ((with_reducible apply does_index_sl); exact tyOk rfl; exact rfl; exact tyOk rfl; exact rfl; exact rfl; exact rfl; exact rfl; omega) | ((with_reducible apply does_lt); exact rfl; exact rfl) | ((with_reducible apply does_slt); exact rfl; exact rfl) | ((with_reducible apply does_len_sl); exact tyOk rfl; exact rfl; exact rfl)))
              refine ⟨rfl, ?_⟩
              rw [hcond]
              refine forget_of [] (by repeat' (first | exact ks_nil | (refine ks_cons rfl (by exact SubA.refl _) ?_))) (by repeat' (first | exact trivial | exact rfl | refine And.intro ?_ ?_)) rfl (by repeat' (first | exact trivial | exact inB_px rfl | refine And.intro ?_ ?_)) (by repeat' (first | exact trivial | exact inB_px rfl | refine And.intro ?_ ?_))
          · repeat (first | (with_reducible apply ae_norm))
            refine aw_cond rfl (fun h => absurd h (by decide)) (fun _ => ?_)
            repeat (first | (refine aw_halt (id := 9) ?_))
            refine ⟨?_⟩
            refine aw_to (id := 9) mixed (s9 := ⟨[(14, .d (bD th)), (4, .px 4 0), (7, .px 7 0), (8, .d (.sl 2 es)), (9, .d (bD true)), (11, .px 11 0), (12, .d (strD key)), (13, .d (iD j)), (21, .d (.sl 4 rc)), (22, .d (iD rc.length)), (23, .d (iD k))], [(4, .var 26 [.d .nl]), (7, .var 26 [.d dO]), (11, .var 48 [.d (iD r.kind), .d (iD r.a), .d (iD r.b), .d (strD r.text)])]⟩) ?_ ?_
            · rcases hwj : want[j]? with _ | p
              · have hjn := List.getElem?_eq_none_iff.1 hwj
                have hgf : decide ((j : Int) < (es.length : Int)) = false := decide_eq_false (by omega)
                have hthf : th = false := by
                  rcases hth with ⟨_, v, hv⟩ | ⟨h, _⟩
                  · rw [hwj] at hv; cases hv
                  · exact h
                subst hthf
                repeat (first | (with_reducible first | apply aw_reg | apply rp_nil) | ((first | (with_reducible apply rp) | ((with_reducible apply rpG); exact rfl; exact gval_t rfl; (focus repeat' (first | exact trivial | exact fun h => h | refine And.intro ?_ ?_)); intro hgd; have hgd0 := hgd; (try simp only [decide_eq_true_eq, Bool.and_eq_true, Bool.not_eq_true', beq_iff_eq] at hgd))); first | ((with_reducible apply does_move); (conv => lhs; whnf)) | ((with_reducible apply does_assign); (conv => lhs; whnf)) | ((with_reducible apply does_pickF); exact rfl; (first | assumption | decide); (conv => lhs; whnf)) | ((with_reducible apply does_fieldAddr); exact tyOk rfl; exact rfl; exact rfl; decide; exact rfl) | ((with_reducible apply does_index_sl); exact tyOk rfl; exact rfl; exact tyOk rfl; exact rfl; exact rfl; exact rfl; exact rfl; omega) | ((with_reducible apply does_lt); exact rfl; exact rfl) | ((with_reducible apply does_len_sl); exact tyOk rfl; exact rfl; exact rfl)) | ((first | (with_reducible apply rpGF) | (with_reducible apply drGF)); exact rfl; exact gval_t rfl; (first | assumption | decide | exact rfl); (focus repeat' (first | exact trivial | exact fun h => h | refine And.intro ?_ ?_))))
                refine ⟨rfl, ?_⟩
                refine forget_of [] (by repeat' (first | exact ks_nil | (refine ks_cons rfl (by exact SubA.refl _) ?_))) (by repeat' (first | exact trivial | exact rfl | refine And.intro ?_ ?_)) rfl (by repeat' (first | exact trivial | exact inB_px rfl | refine And.intro ?_ ?_)) (by repeat' (first | exact trivial | exact inB_px rfl | refine And.intro ?_ ?_))
              · have hp2 := hwg hwj
                have hjb : j < es.length := by have := (List.getElem?_eq_some_iff.1 hwj).1; omega
                have hcond : (decide ((j : Int) < (es.length : Int)) && (p.1.toList == key.toList)) = th := by
                  rw [decide_eq_true (by omega), Bool.true_and]
                  rcases hth with ⟨h, v, hv⟩ | ⟨h, hv⟩
                  · rw [hwj] at hv
                    injection hv with hv
                    rw [hv, h]; simp
                  · rw [h, beq_eq_false_iff_ne]
                    exact fun e => hv p hwj (key_eq e)
                repeat (first | (with_reducible first | apply aw_reg | apply rp_nil) | ((first | (with_reducible apply rp) | ((with_reducible apply rpG); exact rfl; exact gval_t rfl; (focus repeat' (first | exact trivial | exact fun h => h | refine And.intro ?_ ?_)); intro hgd; have hgd0 := hgd; (try simp only [decide_eq_true_eq, Bool.and_eq_true, Bool.not_eq_true', beq_iff_eq] at hgd))); first | ((with_reducible apply does_move); (conv => lhs; whnf)) | ((with_reducible apply does_assign); (conv => lhs; whnf)) | ((with_reducible apply does_and); exact rfl; exact rfl; exact rfl; exact fun h => h) | ((with_reducible apply does_fieldAddr); exact tyOk rfl; exact rfl; exact rfl; decide; exact rfl) | ((with_reducible apply does_load_elem); exact tyOk rfl; exact rfl; exact rfl; assumption; exact rfl) | ((with_reducible apply does_index_sl); exact tyOk rfl; exact rfl; exact tyOk rfl; exact rfl; exact rfl; exact rfl; exact rfl; omega) | ((with_reducible apply does_lt); exact rfl; exact rfl) | ((with_reducible apply does_seq); exact rfl; exact rfl) | ((with_reducible apply does_len_sl); exact tyOk rfl; exact rfl; exact rfl)))
                refine ⟨rfl, ?_⟩
                rw [hcond]
                refine forget_of [] (by repeat' (first | exact ks_nil | (refine ks_cons rfl (by exact SubA.refl _) ?_))) (by repeat' (first | exact trivial | exact rfl | refine And.intro ?_ ?_)) rfl (by repeat' (first | exact trivial | exact inB_px rfl | refine And.intro ?_ ?_)) (by repeat' (first | exact trivial | exact inB_px rfl | refine And.intro ?_ ?_))
            · clear hwg halt haat hjl hj
              repeat (first | (with_reducible first | apply aw_seq | apply aw_reg | apply rp_nil | apply ae_norm) | ((with_reducible apply rp); first | ((with_reducible apply does_call_flat); exact rfl; exact rfl; exact (pk); exact rfl) | ((with_reducible apply does_assign); (conv => lhs; whnf)) | ((with_reducible apply does_fieldAddr); exact tyOk rfl; exact rfl; exact rfl; decide; exact rfl) | ((with_reducible apply does_load_var); exact tyOk rfl; exact rfl; exact rfl; exact rfl; exact rfl) | ((with_reducible apply does_load_row); exact tyOk rfl; exact rfl; exact rfl; exact rfl; exact Nat.le_of_ble_eq_true rfl; exact rfl) | ((with_reducible apply does_eq); exact rfl; exact rfl)) | ((with_reducible apply rp1); ((with_reducible apply does_alloc); exact tyOk rfl; exact rfl)) | ((with_reducible apply rpN); ((with_reducible apply does_store_whole); exact tyOk rfl; exact rfl; exact rfl; exact rfl; exact rfl; exact rfl)))
              have hsl : ∀ i, i ≤ es.length → (es.take i).length = i := fun i hi => by rw [List.length_take]; omega
              have hjl : j ≤ es.length := by omega
              have hel : es.length ≤ 100 := by omega
              have hkey2 : ∀ a : Int, [strD key, iD a] = pairE (key, a) := fun a => rfl
              refine aw_cond rfl (fun hz => ?_) (fun hz => ?_)
              · have hz0 : nK r = 0 := by have h9 : (nK r : Int) = 0 := eq_of_beq hz; omega
                rcases hth with ⟨rfl, v, hv⟩ | ⟨rfl, hv⟩
                · obtain ⟨e1, _, e3⟩ := (hall 0).1 v hv
                  have c1 := cut_good hG.good (key := key) (v := v) (by rw [hw]; exact e1)
                  have hst : stepO o r = cutO key o := by unfold stepO; rw [if_pos hz0, hkk, hw, if_pos hthe]
                  have hit : itemsO (cutO key o) = cutL key want := by rw [(cutO_items hG.good key).2, hw]
                  rw [hst] at hnext
                  have c1 : PC _ _ [.ag [nodesD (nodesO o)], strD key] (.tu [.ag [nodesD (nodesO (cutO key o))], iD 0]) := c1
                  rw [hdo] at c1
                  have hj1 : j + 1 ≤ es.length := by have := (List.getElem?_eq_some_iff.1 hv).1; omega
                  obtain ⟨A1, hA⟩ : ∃ A1, (es.take j).drop 0 = A1 := ⟨_, rfl⟩
                  obtain ⟨B1, hB⟩ : ∃ B1, (es.take es.length).drop (j + 1) = B1 := ⟨_, rfl⟩
                  have hAl : A1.length ≤ 100 := by rw [← hA, List.drop_zero, List.length_take]; omega
                  have hBl : B1.length ≤ 100 := by rw [← hB, List.length_drop, List.take_length]; omega
                  have hfin : (itemsO (cutO key o)).map pairE = [] ++ A1 ++ B1 := by
                    rw [hit, e3, List.map_append, List.map_take, List.map_drop, hes, ← hA, ← hB, List.drop_zero, List.take_length]; rfl
                  clear hall
                  repeat (first | (refine aw_after (id := 16) mixed ?_; (with_reducible apply aw_regD)) | (with_reducible first | apply aw_seq | apply aw_reg | apply rp_nil | apply ae_norm | apply aw_skip) | ((with_reducible apply dr_nil); (first | kernel_rfl | exact rfl)) | ((with_reducible first | apply rp | apply dr); first | ((with_reducible apply does_call'); exact rfl; exact rfl; exact rfl; exact (c1)) | (exact does_slice_e (tyOk rfl) rfl (tyOk rfl) rfl rfl rfl ⟨_, _, rfl, rfl⟩ (by omega) (by omega) hA) | (exact does_slice_e (tyOk rfl) rfl (tyOk rfl) rfl rfl ⟨_, _, rfl, rfl⟩ rfl (by omega) (by omega) hB) | ((with_reducible apply does_move); (conv => lhs; whnf)) | ((with_reducible apply does_assign); (conv => lhs; whnf)) | ((with_reducible apply does_load_row); exact tyOk rfl; exact rfl; exact rfl; exact rfl; exact Nat.le_of_ble_eq_true rfl; exact rfl) | ((with_reducible apply does_eq); exact rfl; exact rfl) | ((with_reducible apply does_add); exact rfl; exact rfl; omega; omega) | ((with_reducible apply does_bne); exact tyOk rfl; exact rfl; exact rfl; exact rfl; exact rfl) | ((with_reducible apply does_extract); exact rfl; exact rfl)) | ((with_reducible apply dr1); ((with_reducible apply does_buildSlice); exact tyOk rfl; exact rfl; exact tyOk rfl; exact rfl; exact rfl; (focus repeat' (first | exact trivial | refine And.intro rfl (And.intro rfl ?_))); decide; decide; exact rfl)) | ((with_reducible apply dr2); (exact does_append_own (tyOk rfl) rfl (tyOk rfl) rfl rfl rfl (by decide) (by simp; omega) (by simp; omega) rfl)) | ((with_reducible apply rpN); ((with_reducible apply does_store_whole); exact tyOk rfl; exact rfl; exact rfl; exact rfl; exact rfl; exact rfl)) | ((with_reducible apply aw_cond); exact rfl; (focus (intro hd; (cases hd; done))); (intro hd; clear hd)) | ((with_reducible apply aw_cond); exact rfl; rotate_left; (focus (intro hd; (cases hd; done))); (intro hd; clear hd)))
                  refine after1 (fun C ac w h => ent_frz (E := 50) (sz := 2) (es := [] ++ A1 ++ B1) 8 92 _ rfl rfl h) ?_
                  repeat (first | (with_reducible first | apply aw_seq | apply aw_reg | apply rp_nil | apply ae_norm | apply be_norm) | ((with_reducible apply rp); first | ((with_reducible apply does_move); (conv => lhs; whnf)) | ((with_reducible apply does_load_row); exact tyOk rfl; exact rfl; exact rfl; exact rfl; exact Nat.le_of_ble_eq_true rfl; exact rfl) | ((with_reducible apply does_eq); exact rfl; exact rfl) | ((with_reducible apply does_add); exact rfl; exact rfl; omega; omega)) | ((with_reducible apply rpN); ((with_reducible apply does_store_whole); exact tyOk rfl; exact rfl; exact rfl; exact rfl; exact rfl; exact rfl)) | ((with_reducible apply aw_cond); exact rfl; rotate_left; (focus (intro hd; (cases hd; done))); (intro hd; clear hd)))
                  refine ⟨rc.length - (k + 1), _, by omega, ?_, k + 1, by omega, rfl, rfl⟩
                  rw [hnext]
                  rw [hfin]
                  refine forget_of [] (by repeat' (first | exact ks_nil | (refine ks_cons rfl (by exact SubA.refl _) ?_))) (by repeat' (first | exact trivial | exact rfl | refine And.intro ?_ ?_)) rfl (by repeat' (first | exact trivial | exact inB_px rfl | refine And.intro ?_ ?_)) (by repeat' (first | exact trivial | exact inB_px rfl | refine And.intro ?_ ?_))
                · obtain ⟨e1, _⟩ := (hall 0).2 hv
                  have c1 := cut_miss hG.good (key := key) (by rw [hw]; exact e1)
                  have hst : stepO o r = o := by unfold stepO; rw [if_pos hz0, hkk, hw, if_neg (by rw [hthe]; decide)]
                  rw [hst] at hnext
                  have c1 : PC _ _ [.ag [nodesD (nodesO o)], strD key] (.tu [.ag [nodesD []], iD 5]) := c1
                  rw [hdo] at c1
                  clear hall
                  repeat (first | (with_reducible first | apply aw_seq | apply aw_reg | apply rp_nil | apply ae_norm | apply be_norm | apply aw_skip) | ((with_reducible apply rp); first | ((with_reducible apply does_call'); exact rfl; exact rfl; exact rfl; exact (c1)) | ((with_reducible apply does_move); (conv => lhs; whnf)) | ((with_reducible apply does_assign); (conv => lhs; whnf)) | ((with_reducible apply does_load_row); exact tyOk rfl; exact rfl; exact rfl; exact rfl; exact Nat.le_of_ble_eq_true rfl; exact rfl) | ((with_reducible apply does_eq); exact rfl; exact rfl) | ((with_reducible apply does_add); exact rfl; exact rfl; omega; omega) | ((with_reducible apply does_bne); exact tyOk rfl; exact rfl; exact rfl; exact rfl; exact rfl) | ((with_reducible apply does_extract); exact rfl; exact rfl)) | ((with_reducible apply rpN); ((with_reducible apply does_store_whole); exact tyOk rfl; exact rfl; exact rfl; exact rfl; exact rfl; exact rfl)) | ((with_reducible apply aw_cond); exact rfl; (focus (intro hd; (cases hd; done))); (intro hd; clear hd)))
                  refine ⟨rc.length - (k + 1), _, by omega, ?_, k + 1, by omega, rfl, rfl⟩
                  rw [hnext]
                  rw [hw, hes, hdo]
                  refine forget_of [] (by repeat' (first | exact ks_nil | (refine ks_cons rfl (by exact SubA.refl _) ?_))) (by repeat' (first | exact trivial | exact rfl | refine And.intro ?_ ?_)) rfl (by repeat' (first | exact trivial | exact inB_px rfl | refine And.intro ?_ ?_)) (by repeat' (first | exact trivial | exact inB_px rfl | refine And.intro ?_ ?_))
              · have hz0 : ¬ nK r = 0 := fun h => by rw [h] at hz; cases hz
                have p1 := put_good hG.good (key := key) r.a (by rw [← hkk]; exact Nat.le_of_ble_eq_true rfl) (.inr (by rw [hw]; omega))
                have hst : stepO o r = growO key r.a o := by unfold stepO; rw [if_neg hz0, hkk]
                have hit : itemsO (growO key r.a o) = putL key r.a want := by rw [growO_items key r.a o hG.good.sh hG.good.asc, hw]
                rw [hst] at hnext
                have p1 : PC _ _ [.ag [nodesD (nodesO o)], strD key, iD r.a] (.tu [.ag [nodesD (nodesO (growO key r.a o))], iD 0]) := p1
                rw [hdo] at p1
                obtain ⟨A1, hA⟩ : ∃ A1, es.take j = A1 := ⟨_, rfl⟩
                obtain ⟨B1, hB⟩ : ∃ B1, (es.take es.length).drop j = B1 := ⟨_, rfl⟩
                have hAl : A1.length ≤ 100 := by rw [← hA, List.length_take]; omega
                have hBl : B1.length ≤ 100 := by rw [← hB, List.length_drop, List.take_length]; omega
                have hBl2 : B1.length = es.length - j := by rw [← hB, List.length_drop, List.take_length]
                rcases hth with ⟨rfl, v, hv⟩ | ⟨rfl, hv⟩
                · obtain ⟨_, e2, _⟩ := (hall r.a).1 v hv
                  have hj1 : j + 1 ≤ es.length := by have := (List.getElem?_eq_some_iff.1 hv).1; omega
                  obtain ⟨R1, hR⟩ : ∃ R1, (([] ++ B1).take ([] ++ B1).length).drop 1 = R1 := ⟨_, rfl⟩
                  have hRl : R1.length ≤ 100 := by rw [← hR, List.length_drop, List.take_length, List.nil_append]; omega
                  have hB1 : 1 ≤ ([] ++ B1).length := by rw [List.nil_append]; omega
                  have hfin : (itemsO (growO key r.a o)).map pairE = A1 ++ [[strD key, iD r.a]] ++ R1 := by
                    rw [hit, e2, List.map_append, List.map_cons, List.map_take, List.map_drop, hes, ← hA, ← hR, ← hB, List.take_length, List.nil_append, List.take_length, List.drop_drop, List.append_assoc]; rfl
                  clear hall
                  repeat (first | (refine aw_after (id := 19) mixed ?_; (with_reducible apply aw_reg)) | (with_reducible first | apply aw_seq | apply aw_reg | apply rp_nil | apply ae_norm) | ((first | (with_reducible apply rp) | ((with_reducible apply rpG); exact rfl; exact gval_t rfl; (focus repeat' (first | exact trivial | exact fun h => h | refine And.intro ?_ ?_)); intro hgd; have hgd0 := hgd; (try simp only [decide_eq_true_eq, Bool.and_eq_true, Bool.not_eq_true', beq_iff_eq] at hgd))); first | ((with_reducible apply does_call'); exact rfl; exact rfl; exact rfl; exact (p1)) | (exact does_slice_e (tyOk rfl) rfl (tyOk rfl) rfl rfl ⟨_, _, rfl, rfl⟩ rfl (by omega) (by omega) hB) | ((with_reducible apply does_move); (conv => lhs; whnf)) | ((with_reducible apply does_assign); (conv => lhs; whnf)) | ((with_reducible apply does_and); exact rfl; exact rfl; exact rfl; exact fun h => h) | ((with_reducible apply does_fieldAddr); exact tyOk rfl; exact rfl; exact rfl; decide; exact rfl) | ((with_reducible apply does_load_var); exact tyOk rfl; exact rfl; exact rfl; exact rfl; exact rfl) | ((with_reducible apply does_load_row); exact tyOk rfl; exact rfl; exact rfl; exact rfl; exact Nat.le_of_ble_eq_true rfl; exact rfl) | ((with_reducible apply does_eq); exact rfl; exact rfl) | ((with_reducible apply does_extract); exact rfl; exact rfl)) | ((with_reducible apply rp1); ((with_reducible apply does_buildSlice); exact tyOk rfl; exact rfl; exact tyOk rfl; exact rfl; exact rfl; (focus repeat' (first | exact trivial | refine And.intro rfl (And.intro rfl ?_))); decide; decide; exact rfl)) | ((with_reducible apply rp2); ((with_reducible apply does_append_own); exact tyOk rfl; exact rfl; exact tyOk rfl; exact rfl; exact rfl; exact rfl; decide; (first | (dsimp only; simp only [List.length_map, List.length_append, List.length_cons, List.length_nil] at *; omega) | (simp only [List.length_map, List.length_append, List.length_cons, List.length_nil] at *; omega)); (first | (dsimp only; simp only [List.length_map, List.length_append, List.length_cons, List.length_nil] at *; omega) | (simp only [List.length_map, List.length_append, List.length_cons, List.length_nil] at *; omega)); exact rfl)) | ((with_reducible apply rpN); ((with_reducible apply does_store_whole); exact tyOk rfl; exact rfl; exact rfl; exact rfl; exact rfl; exact rfl)))
                  refine after1 (fun C ac w h => ent_frz (E := 50) (sz := 2) (es := [] ++ B1) 17 110 _ rfl rfl h) ?_
                  repeat (first | (refine aw_after (id := 22) mixed ?_; (with_reducible apply aw_regD)) | (with_reducible first | apply aw_seq | apply aw_reg | apply rp_nil | apply ae_norm) | ((with_reducible apply dr_nil); (first | kernel_rfl | exact rfl)) | ((with_reducible first | apply rp | apply dr); first | (exact does_slice_e (tyOk rfl) rfl (tyOk rfl) rfl rfl ⟨_, _, rfl, rfl⟩ rfl hB1 (Nat.le_refl _) hR) | (exact does_slice3_fs (h := j) (tyOk rfl) rfl (tyOk rfl) rfl rfl rfl rfl rfl rfl rfl hjl hA) | ((with_reducible apply does_move); (conv => lhs; whnf)) | ((with_reducible apply does_assign); (conv => lhs; whnf)) | ((with_reducible apply does_fieldAddr); exact tyOk rfl; exact rfl; exact rfl; decide; exact rfl) | ((with_reducible apply does_load_var); exact tyOk rfl; exact rfl; exact rfl; exact rfl; exact rfl) | ((with_reducible apply does_build); exact tyOk rfl; exact rfl; exact rfl; (focus repeat' (first | exact rfl | refine ⟨_, _, rfl, rfl, Nat.le_of_ble_eq_true rfl, rfl, ?_⟩)); exact rfl)) | ((with_reducible apply dr1); first | (exact does_append_fsx (tyOk rfl) rfl (tyOk rfl) rfl rfl (Nat.le_of_ble_eq_true rfl) (by decide) (by simp; omega) (by simp; omega) rfl) | ((with_reducible apply does_buildSlice); exact tyOk rfl; exact rfl; exact tyOk rfl; exact rfl; exact rfl; (focus repeat' (first | exact trivial | refine And.intro rfl (And.intro rfl ?_))); decide; decide; exact rfl)) | ((with_reducible apply dr2); (exact does_append_own (tyOk rfl) rfl (tyOk rfl) rfl rfl rfl (by decide) (by simp; omega) (by simp; omega) rfl)) | ((with_reducible apply aw_cond); exact rfl; rotate_left; (focus (intro hd; (cases hd; done))); (intro hd; clear hd)))
                  refine after1 (fun C ac w h => ent_frz (E := 50) (sz := 2) (es := A1 ++ [[strD key, iD r.a]] ++ R1) 8 125 _ rfl rfl h) ?_
                  repeat (first | (with_reducible first | apply aw_seq | apply aw_reg | apply rp_nil | apply ae_norm | apply be_norm) | ((with_reducible apply rp); first | ((with_reducible apply does_move); (conv => lhs; whnf)) | ((with_reducible apply does_load_row); exact tyOk rfl; exact rfl; exact rfl; exact rfl; exact Nat.le_of_ble_eq_true rfl; exact rfl) | ((with_reducible apply does_eq); exact rfl; exact rfl) | ((with_reducible apply does_add); exact rfl; exact rfl; omega; omega)) | ((with_reducible apply rpN); ((with_reducible apply does_store_whole); exact tyOk rfl; exact rfl; exact rfl; exact rfl; exact rfl; exact rfl)) | ((with_reducible apply aw_cond); exact rfl; rotate_left; (focus (intro hd; (cases hd; done))); (intro hd; clear hd)))
                  refine ⟨rc.length - (k + 1), _, by omega, ?_, k + 1, by omega, rfl, rfl⟩
                  rw [hnext]
                  rw [hfin]
                  refine forget_of [] (by repeat' (first | exact ks_nil | (refine ks_cons rfl (by exact SubA.refl _) ?_))) (by repeat' (first | exact trivial | exact rfl | refine And.intro ?_ ?_)) rfl (by repeat' (first | exact trivial | exact inB_px rfl | refine And.intro ?_ ?_)) (by repeat' (first | exact trivial | exact inB_px rfl | refine And.intro ?_ ?_))
                · obtain ⟨_, e2⟩ := (hall r.a).2 hv
                  have hfin : (itemsO (growO key r.a o)).map pairE = A1 ++ [[strD key, iD r.a]] ++ ([] ++ B1) := by
                    rw [hit, e2, List.map_append, List.map_cons, List.map_take, List.map_drop, hes, ← hA, ← hB, List.take_length, List.nil_append, List.append_assoc]; rfl
                  clear hall
                  repeat (first | (refine aw_after (id := 19) mixed ?_; (with_reducible apply aw_reg)) | (with_reducible first | apply aw_seq | apply aw_reg | apply rp_nil | apply ae_norm) | ((first | (with_reducible apply rp) | ((with_reducible apply rpG); exact rfl; exact gval_t rfl; (focus repeat' (first | exact trivial | exact fun h => h | refine And.intro ?_ ?_)); intro hgd; have hgd0 := hgd; (try simp only [decide_eq_true_eq, Bool.and_eq_true, Bool.not_eq_true', beq_iff_eq] at hgd))); first | ((with_reducible apply does_call'); exact rfl; exact rfl; exact rfl; exact (p1)) | (exact does_slice_e (tyOk rfl) rfl (tyOk rfl) rfl rfl ⟨_, _, rfl, rfl⟩ rfl (by omega) (by omega) hB) | ((with_reducible apply does_move); (conv => lhs; whnf)) | ((with_reducible apply does_assign); (conv => lhs; whnf)) | ((with_reducible apply does_and); exact rfl; exact rfl; exact rfl; exact fun h => h) | ((with_reducible apply does_fieldAddr); exact tyOk rfl; exact rfl; exact rfl; decide; exact rfl) | ((with_reducible apply does_load_var); exact tyOk rfl; exact rfl; exact rfl; exact rfl; exact rfl) | ((with_reducible apply does_load_row); exact tyOk rfl; exact rfl; exact rfl; exact rfl; exact Nat.le_of_ble_eq_true rfl; exact rfl) | ((with_reducible apply does_eq); exact rfl; exact rfl) | ((with_reducible apply does_extract); exact rfl; exact rfl)) | ((with_reducible apply rp1); ((with_reducible apply does_buildSlice); exact tyOk rfl; exact rfl; exact tyOk rfl; exact rfl; exact rfl; (focus repeat' (first | exact trivial | refine And.intro rfl (And.intro rfl ?_))); decide; decide; exact rfl)) | ((with_reducible apply rp2); ((with_reducible apply does_append_own); exact tyOk rfl; exact rfl; exact tyOk rfl; exact rfl; exact rfl; exact rfl; decide; (first | (dsimp only; simp only [List.length_map, List.length_append, List.length_cons, List.length_nil] at *; omega) | (simp only [List.length_map, List.length_append, List.length_cons, List.length_nil] at *; omega)); (first | (dsimp only; simp only [List.length_map, List.length_append, List.length_cons, List.length_nil] at *; omega) | (simp only [List.length_map, List.length_append, List.length_cons, List.length_nil] at *; omega)); exact rfl)) | ((with_reducible apply rpN); ((with_reducible apply does_store_whole); exact tyOk rfl; exact rfl; exact rfl; exact rfl; exact rfl; exact rfl)))
                  refine after1 (fun C ac w h => ent_frz (E := 50) (sz := 2) (es := [] ++ B1) 17 110 _ rfl rfl h) ?_
                  repeat (first | (refine aw_after (id := 22) mixed ?_; (with_reducible apply aw_regD)) | (with_reducible first | apply aw_seq | apply aw_reg | apply rp_nil | apply ae_norm) | ((with_reducible apply dr_nil); (first | kernel_rfl | exact rfl)) | ((with_reducible first | apply rp | apply dr); first | (exact does_slice3_fs (h := j) (tyOk rfl) rfl (tyOk rfl) rfl rfl rfl rfl rfl rfl rfl hjl hA) | ((with_reducible apply does_move); (conv => lhs; whnf)) | ((with_reducible apply does_assign); (conv => lhs; whnf)) | ((with_reducible apply does_fieldAddr); exact tyOk rfl; exact rfl; exact rfl; decide; exact rfl) | ((with_reducible apply does_load_var); exact tyOk rfl; exact rfl; exact rfl; exact rfl; exact rfl) | ((with_reducible apply does_build); exact tyOk rfl; exact rfl; exact rfl; (focus repeat' (first | exact rfl | refine ⟨_, _, rfl, rfl, Nat.le_of_ble_eq_true rfl, rfl, ?_⟩)); exact rfl)) | ((with_reducible apply dr1); first | (exact does_append_fsx (tyOk rfl) rfl (tyOk rfl) rfl rfl (Nat.le_of_ble_eq_true rfl) (by decide) (by simp; omega) (by simp; omega) rfl) | ((with_reducible apply does_buildSlice); exact tyOk rfl; exact rfl; exact tyOk rfl; exact rfl; exact rfl; (focus repeat' (first | exact trivial | refine And.intro rfl (And.intro rfl ?_))); decide; decide; exact rfl)) | ((with_reducible apply dr2); (exact does_append_own (tyOk rfl) rfl (tyOk rfl) rfl rfl rfl (by decide) (by simp; omega) (by simp; omega) rfl)) | ((with_reducible apply aw_cond); exact rfl; (focus (intro hd; (cases hd; done))); (intro hd; clear hd)))
                  refine after1 (fun C ac w h => ent_frz (E := 50) (sz := 2) (es := A1 ++ [[strD key, iD r.a]] ++ ([] ++ B1)) 8 125 _ rfl rfl h) ?_
                  repeat (first | (with_reducible first | apply aw_seq | apply aw_reg | apply rp_nil | apply ae_norm | apply be_norm) | ((with_reducible apply rp); first | ((with_reducible apply does_move); (conv => lhs; whnf)) | ((with_reducible apply does_load_row); exact tyOk rfl; exact rfl; exact rfl; exact rfl; exact Nat.le_of_ble_eq_true rfl; exact rfl) | ((with_reducible apply does_eq); exact rfl; exact rfl) | ((with_reducible apply does_add); exact rfl; exact rfl; omega; omega)) | ((with_reducible apply rpN); ((with_reducible apply does_store_whole); exact tyOk rfl; exact rfl; exact rfl; exact rfl; exact rfl; exact rfl)) | ((with_reducible apply aw_cond); exact rfl; rotate_left; (focus (intro hd; (cases hd; done))); (intro hd; clear hd)))
                  refine ⟨rc.length - (k + 1), _, by omega, ?_, k + 1, by omega, rfl, rfl⟩
                  rw [hnext]
                  rw [hfin]
                  refine forget_of [] (by repeat' (first | exact ks_nil | (refine ks_cons rfl (by exact SubA.refl _) ?_))) (by repeat' (first | exact trivial | exact rfl | refine And.intro ?_ ?_)) rfl (by repeat' (first | exact trivial | exact inB_px rfl | refine And.intro ?_ ?_)) (by repeat' (first | exact trivial | exact inB_px rfl | refine And.intro ?_ ?_))
    · have hkr : k = rs.length := by simp at hd; omega
      subst hkr
      rw [List.take_length]
      repeat (first | (with_reducible first | apply aw_seq | apply aw_reg | apply rp_nil | apply ae_norm | apply aw_exit | apply ae_exit | apply be_exit | apply aw_ret | apply re_ret) | ((with_reducible apply rp); first | ((with_reducible apply does_move); (conv => lhs; whnf)) | ((with_reducible apply does_assign); (conv => lhs; whnf)) | ((with_reducible apply does_load_row); exact tyOk rfl; exact rfl; exact rfl; exact rfl; exact Nat.le_of_ble_eq_true rfl; exact rfl)) | ((with_reducible apply rpN); ((with_reducible apply does_store_whole); exact tyOk rfl; exact rfl; exact rfl; exact rfl; exact rfl; exact rfl)))
      (with_reducible apply ret_ok); (focus (repeat' (first | (with_reducible apply rv_nil) | (with_reducible apply rv_cons) | ((with_reducible apply rv_tmp); exact rfl) | ((with_reducible apply rv_rowd); exact rfl; exact rfl; exact tyOk rfl; exact rfl; exact rfl)))); exact rfl
      exact SubD.refl _
end Go.Proofs.Ytobgjkkadnihjaa

