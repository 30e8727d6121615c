/-
  InsertThere: a row that is put in is there, in its drawer alone, and all others are as they were.
-/
import Derived.Test.YtpaccaojgbfjdaaDoorZRiseL
import Derived.Test.YtpaccaojgbfjdaaDoorZHeapR
namespace Go.Proofs.YtpaccaojgbfjdaaDoor
set_option linter.unusedSimpArgs false
set_option linter.unusedVariables false
open Go.RowKit

theorem freeN_free (d : List Ce) : ∀ (k n : Nat), freeN d k = (n : Int) → n < k ∧ (d.getD n ⟨true, []⟩).full = false
  | 0, n, h => by unfold freeN at h; omega
  | k + 1, n, h => by
    unfold freeN at h
    split at h
    · rename_i hc
      have : k = n := by omega
      subst this
      exact ⟨by omega, hc.2⟩
    · have := freeN_free d k n h
      exact ⟨by omega, this.2⟩
theorem set_mem {d : List Ce} {n : Nat} {r x : List Vl} (h : n < d.length) (hf : (d.getD n ⟨true, []⟩).full = false) : (∃ c ∈ d.set n ⟨true, r⟩, c.full = true ∧ c.row = x) ↔ x = r ∨ ∃ c ∈ d, c.full = true ∧ c.row = x := by
  have hg : d.getD n ⟨true, []⟩ = d[n] := by rw [List.getD_eq_getElem?_getD, List.getElem?_eq_getElem h]; rfl
  rw [hg] at hf
  constructor
  · rintro ⟨c, hc, h1, rfl⟩
    rcases List.mem_or_eq_of_mem_set hc with hc | rfl
    · exact .inr ⟨c, hc, h1, rfl⟩
    · exact .inl rfl
  · rintro (rfl | ⟨c, hc, h1, rfl⟩)
    · refine ⟨⟨true, x⟩, ?_, rfl, rfl⟩
      rw [List.mem_iff_getElem]
      exact ⟨n, by rw [List.length_set]; exact h, List.getElem_set_self _⟩
    · obtain ⟨j, hj, rfl⟩ := List.mem_iff_getElem.1 hc
      have hne : n ≠ j := by
        intro e
        subst e
        rw [hf] at h1
        cases h1
      refine ⟨d[j], ?_, h1, rfl⟩
      rw [List.mem_iff_getElem]
      exact ⟨j, by rw [List.length_set]; exact hj, List.getElem_set_ne hne _⟩
theorem step_put {cols : List Cl} {d : List Ce} {n : Nat} {r : List Vl} (h : DrOk cols d) (h2 : DrOk cols (d.set n ⟨true, r⟩)) (hn : n < d.length) (hf : (d.getD n ⟨true, []⟩).full = false) (hlt : ∀ c ∈ d, c.full = true → keyN c.row < keyN r) : stepF true (d.set n ⟨true, r⟩) [] = stepF true d [] ++ [r] := by
  refine rise_eq (step_rise h2).1 ?_ fun x => ?_
  · unfold Rise
    rw [List.pairwise_append]
    refine ⟨(step_rise h).1, List.pairwise_singleton _ _, fun p hp q hq => ?_⟩
    rw [List.mem_singleton] at hq
    subst hq
    obtain ⟨c, hc, hcf, rfl⟩ := ((step_rise h).2 p).1 hp
    exact hlt c hc hcf
  · rw [(step_rise h2).2, set_mem hn hf, List.mem_append, (step_rise h).2, List.mem_singleton]
    exact Or.comm
theorem one_both {i : Nat} (hi : i < 2) : ∃ (oa ob : Bool) (j : Nat), j < 2 ∧ (1 : Int) - (i : Int) = (j : Int) ∧ PC Tryd.prog 15 [iD i] (.ag [bD oa, bD ob]) ∧ PC Tryd.prog 15 [iD j] (.ag [bD ob, bD oa]) ∧
    (∀ a b : List Ce, accF a b oa ob 2 = stepF true (drF a b i) []) ∧ (∀ a b : List Ce, accF a b ob oa 2 = stepF true (drF a b j) []) ∧
    (∀ (t : Tb) (n : Nat) (r : List Vl), drF (t.put i n r).a (t.put i n r).b i = (drF t.a t.b i).set n ⟨true, r⟩ ∧ drF (t.put i n r).a (t.put i n r).b j = drF t.a t.b j) := by
  rcases (by omega : i = 0 ∨ i = 1) with rfl | rfl
  · exact ⟨true, false, 1, by omega, rfl, one0_pc, one1_pc, fun a b => rfl, fun a b => rfl, fun t n r => ⟨rfl, rfl⟩⟩
  · exact ⟨false, true, 0, by omega, rfl, one1_pc, one0_pc, fun a b => rfl, fun a b => rfl, fun t n r => ⟨rfl, rfl⟩⟩
theorem TbOk.dr {t : Tb} (h : TbOk t) (i : Nat) : DrOk t.cols (drF t.a t.b i) := by unfold drF; split; exact h.a; exact h.b
theorem KeysLt.dr {t : Tb} {K : Int} (h : KeysLt t K) (i : Nat) : ∀ c ∈ drF t.a t.b i, c.full = true → keyN c.row < K := by
  intro c hc hf
  unfold drF at hc
  split at hc
  · exact h c (.inl hc) hf
  · exact h c (.inr hc) hf
set_option maxHeartbeats 8000000 in
theorem insertThere_pc (l : List Raw) (dz key : Int) : PC Tryd.prog 3 [rawsD l, iD dz, iD key] (bD true) := by
  have g1 := tabled_pg l
  have hc := colsF_ok (l.take (l.length % 4))
  have hk : ∃ n l', colsH l = ⟨n, 2, false⟩ :: l' := ⟨_, _, rfl⟩
  have h0 : ∀ c, (colsH l)[0]? = some c → c.kind = 2 := fun c h => by injection h with h; subst h; rfl
  obtain ⟨ht, htc, hkt⟩ := tabF_ok (l.take 40) (cols := colsH l) hc hk h0 (l.length % 8)
  have hs := tabC_sub (l.take 40) (colsH l) (l.length % 8)
  have hcl : (tabC (l.take 40) (colsH l) (l.length % 8)).length = 19 := by
    unfold tabC
    split
    · rfl
    · exact Tb.len ht
  have hL8 : l.length % 8 < 8 := Nat.mod_lt _ (by decide)
  have hl5 := hc.len
  have hnn : l.length % 8 * ((colsH l).length + 1) ≤ 8 * 6 := Nat.mul_le_mul (by omega) (by unfold colsH; omega)
  obtain ⟨i, hi⟩ : ∃ i : Nat, dz % ((2 : Nat) : Int) = i := ⟨(dz % 2).toNat, by omega⟩
  have hi2 : i < 2 := by omega
  obtain ⟨v, hv⟩ : ∃ v : Nat, key % ((1000 : Nat) : Int) = v := ⟨(key % 1000).toNat, by omega⟩
  have p2 := picked_pc dz 2 (by omega) (by omega)
  have p1000 := picked_pc key 1000 (by omega) (by omega)
  rw [hi] at p2
  rw [hv] at p1000
  have r1 := row_px (l.take 40) (l.length % 8 * ((colsH l).length + 1)) (colsH l) hl5 (fun c h => (hc.kind c h).2) (((10 + v : Nat) : Int)) (by omega)
  have hr := rowF_fit (l.take 40) (l.length % 8 * ((colsH l).length + 1)) (((10 + v : Nat) : Int)) hc h0
  have hkey : keyN (rowF (l.take 40) (l.length % 8 * ((colsH l).length + 1)) (((10 + v : Nat) : Int)) 0 (colsH l)) = ((10 + v : Nat) : Int) := rowF_key hk
  unfold hpB at r1
  have hkt2 := hkt.mono (L := 10) (by omega)
  have hv3 : v < 1000 := by omega
  clear hkt hi hv
  generalize rowF (l.take 40) (l.length % 8 * ((colsH l).length + 1)) (((10 + v : Nat) : Int)) 0 (colsH l) = r at *
  generalize tabC (l.take 40) (colsH l) (l.length % 8) = cs at *
  generalize tabF (l.take 40) (colsH l) (l.length % 8) = t at *
  generalize l.length % 8 * ((colsH l).length + 1) = nn at *
  have hrt : FitR r t.cols := by rw [htc]; exact hr
  have hr5 : r.length ≤ 5 := by have := hr.len; have h5 : (colsH l).length ≤ 5 := hl5; omega
  obtain ⟨oa, ob, j, hj2, hj, c1, c2, e1, e2, e3⟩ := one_both hi2
  have hnt := hkt2.not (r := r) (by omega) i
  have i1 := insert_sub hs ht i hi2 r hrt
  have tt := tableTells_pc
  unfold insD at i1
  rw [if_neg hnt] at i1
  by_cases hf : freeN (drF t.a t.b i) 4 < 0
  · rw [if_pos hf] at i1
    unfold tb0 at i1
    clear hs ht htc hkt2 hrt hr hr5 hnt hf e1 e2 e3 hc hk h0 hkey c1 c2
    generalize colsH l = cols at *
    generalize l.take 40 = q at *
    refine pc_of_aw Tryd.func3 rfl (by kernel_rfl) mixed (by kernel_rfl) (by rw [Tryd.ntmps3]; exact Nat.le_of_ble_eq_true rfl) Tryd.results3 ?_
    repeat (first | ((first | (with_reducible apply rpGT) | (with_reducible apply drGT) | (with_reducible apply rpGTN) | (with_reducible apply drGTN)); exact rfl; exact gval_t rfl; (first | exact rfl | assumption | decide); (focus repeat' (first | exact trivial | refine And.intro ?_ ?_)); (first | (refine does_callG' [] [(2000, 26)] (ups := [(26, .var 50 [.d (rawsD q), .d (iD nn), .d (colsD cols)])]) (v := (.tu [.d (.ag cs), .px 26 0, .d (bD true)])) rfl (g1) rfl ?_ rfl ?_ ?_ rfl rfl rfl rfl rfl ?_ ?_ rfl rfl rfl; (focus repeat' (first | exact trivial | exact rfl | refine And.intro ?_ ?_)); (focus repeat' (first | exact trivial | exact inB_px rfl | refine And.intro ?_ ?_)); (focus repeat' (first | exact trivial | exact inB_px rfl | refine And.intro ?_ ?_)); (focus repeat' (first | exact trivial | exact inB_px rfl | refine And.intro ?_ ?_)); (focus repeat' (first | exact trivial | exact inB_px rfl | refine And.intro ?_ ?_))) | (exact does_load_allD (tyOk rfl) rfl rfl rfl hcl) | (exact does_store_whole (tyOk rfl) rfl rfl rfl hcl hcl) | ((with_reducible apply does_call_flat); exact rfl; exact rfl; exact (p2); exact rfl) | ((with_reducible apply does_call_flat); exact rfl; exact rfl; exact (p1000); exact rfl) | (exact does_add_to (z := ((10 + v : Nat) : Int)) rfl rfl (by omega) (by omega) (by omega)) | (refine does_callX [(1000, 26)] [(1000, 26)] (ups := [(26, .var 50 [.d (rawsD q), .d (iD (nn + cols.length : Nat)), .d (colsD cols)])]) rfl (r1) rfl ?_ rfl ?_ ?_ rfl rfl rfl rfl rfl ?_ rfl rfl; (focus repeat' (first | exact trivial | exact rfl | refine And.intro ?_ ?_)); (focus repeat' (first | exact trivial | exact inB_px rfl | refine And.intro ?_ ?_)); (focus repeat' (first | exact trivial | exact inB_px rfl | refine And.intro ?_ ?_)); (focus repeat' (first | exact trivial | exact inB_px rfl | refine And.intro ?_ ?_))) | ((with_reducible apply does_call_flat); exact rfl; exact rfl; exact (i1); exact rfl) | ((with_reducible apply does_call_flat); exact rfl; exact rfl; exact (tt); exact rfl) | ((with_reducible apply does_move); (conv => lhs; whnf)) | ((with_reducible apply does_assign); (conv => lhs; whnf)) | ((with_reducible apply does_and); exact rfl; exact rfl; exact rfl; exact trivial) | ((with_reducible apply does_fieldAddr); exact tyOk rfl; exact rfl; exact rfl; decide; exact rfl) | ((with_reducible apply does_load_var); exact tyOk rfl; exact rfl; exact rfl; exact rfl; exact rfl) | ((with_reducible apply does_eq); exact rfl; exact rfl) | ((with_reducible apply does_ne); exact rfl; exact rfl) | ((with_reducible apply does_beq); exact tyOk rfl; exact rfl; exact rfl; exact rfl; exact rfl) | ((with_reducible apply does_extract); exact rfl; exact rfl) | ((with_reducible apply does_extractA); exact rfl; exact rfl) | ((with_reducible apply does_alloc); exact tyOk rfl; exact rfl) | ((with_reducible apply does_store_whole); exact tyOk rfl; exact rfl; exact rfl; exact rfl; exact rfl; exact rfl)); (first | exact lapp_nil _ | exact lapp_1 _ _ | exact lapp_2 _ _ _ | exact lapp_3 _ _ _ _)) | (with_reducible first | apply aw_seq | apply aw_reg | apply rp_nil | apply ae_norm | apply aw_ret | apply ae_ret | apply re_ret) | ((with_reducible apply rp); first | (exact does_load_allD (tyOk rfl) rfl rfl rfl hcl) | ((with_reducible apply does_call_flat); exact rfl; exact rfl; exact (p2); exact rfl) | ((with_reducible apply does_call_flat); exact rfl; exact rfl; exact (p1000); exact rfl) | (exact does_add_to (z := ((10 + v : Nat) : Int)) rfl rfl (by omega) (by omega) (by omega)) | ((with_reducible apply does_call_flat); exact rfl; exact rfl; exact (i1); exact rfl) | ((with_reducible apply does_call_flat); exact rfl; exact rfl; exact (tt); exact rfl) | ((with_reducible apply does_move); (conv => lhs; whnf)) | ((with_reducible apply does_assign); (conv => lhs; whnf)) | ((with_reducible apply does_and); exact rfl; exact rfl; exact rfl; exact trivial) | ((with_reducible apply does_fieldAddr); exact tyOk rfl; exact rfl; exact rfl; decide; exact rfl) | ((with_reducible apply does_load_var); exact tyOk rfl; exact rfl; exact rfl; exact rfl; exact rfl) | ((with_reducible apply does_eq); exact rfl; exact rfl) | ((with_reducible apply does_ne); exact rfl; exact rfl) | ((with_reducible apply does_beq); exact tyOk rfl; exact rfl; exact rfl; exact rfl; exact rfl) | ((with_reducible apply does_extract); exact rfl; exact rfl) | ((with_reducible apply does_extractA); exact rfl; exact rfl)) | ((with_reducible apply rp1); ((with_reducible apply does_alloc); exact tyOk rfl; exact rfl)) | ((with_reducible apply rpN); first | (exact does_store_whole (tyOk rfl) rfl rfl rfl hcl hcl) | ((with_reducible apply does_store_whole); exact tyOk rfl; exact rfl; exact rfl; exact rfl; exact rfl; exact rfl)) | ((with_reducible apply rpL); (refine does_callG' [] [(2000, 26)] (ups := [(26, .var 50 [.d (rawsD q), .d (iD nn), .d (colsD cols)])]) (v := (.tu [.d (.ag cs), .px 26 0, .d (bD true)])) rfl (g1) rfl ?_ rfl ?_ ?_ rfl rfl rfl rfl rfl ?_ ?_ rfl rfl rfl; (focus repeat' (first | exact trivial | exact rfl | refine And.intro ?_ ?_)); (focus repeat' (first | exact trivial | exact inB_px rfl | refine And.intro ?_ ?_)); (focus repeat' (first | exact trivial | exact inB_px rfl | refine And.intro ?_ ?_)); (focus repeat' (first | exact trivial | exact inB_px rfl | refine And.intro ?_ ?_)); (focus repeat' (first | exact trivial | exact inB_px rfl | refine And.intro ?_ ?_))); exact lapp_nil _) | ((with_reducible apply rpL); (refine does_callX [(1000, 26)] [(1000, 26)] (ups := [(26, .var 50 [.d (rawsD q), .d (iD (nn + cols.length : Nat)), .d (colsD cols)])]) rfl (r1) rfl ?_ rfl ?_ ?_ rfl rfl rfl rfl rfl ?_ rfl rfl; (focus repeat' (first | exact trivial | exact rfl | refine And.intro ?_ ?_)); (focus repeat' (first | exact trivial | exact inB_px rfl | refine And.intro ?_ ?_)); (focus repeat' (first | exact trivial | exact inB_px rfl | refine And.intro ?_ ?_)); (focus repeat' (first | exact trivial | exact inB_px rfl | refine And.intro ?_ ?_))); exact lapp_nil _) | ((with_reducible apply aw_cond); exact rfl; rotate_left; (focus (intro hd; (cases hd; done))); (intro hd; clear hd)))
    (with_reducible apply ret_ok); (focus (repeat' (first | (with_reducible apply rv_nil) | (with_reducible apply rv_cons) | ((with_reducible apply rv_tmp); exact rfl)))); exact rfl; refine SubD.of_eq ?_
    rfl
  · rw [if_neg hf] at i1
    obtain ⟨n, hn4, hfn⟩ : ∃ n : Nat, n < 4 ∧ freeN (drF t.a t.b i) 4 = n := by
      rcases freeN_lt (drF t.a t.b i) 4 with h | h
      · exact absurd h hf
      · exact h
    rw [hfn, Int.toNat_natCast] at i1
    obtain ⟨_, hfree⟩ := freeN_free _ 4 n hfn
    have hu := ht.put (n := n) hrt hi2 hnt
    obtain ⟨d1, d2⟩ := e3 t n r
    have hput : stepF true (drF (t.put i n r).a (t.put i n r).b i) [] = stepF true (drF t.a t.b i) [] ++ [r] := by
      rw [d1]
      refine step_put (ht.dr i) ?_ (by rw [(ht.dr i).len]; exact hn4) hfree fun c hc hcf => ?_
      · have := hu.dr i
        rw [Tb.put_cols, d1] at this
        exact this
      · have := hkt2.dr i c hc hcf
        omega
    have sub : ∀ o : D, SubDs [.ag cs, o] [.ag t.cs, o] := fun o => SubDs.cons (SubD.ag hs) id (SubDs.refl _)
    have rA := (rows_pco t ht oa ob).args (sub _)
    have rC := (rows_pc t ht ob oa).args (sub _)
    have rB := rows_pc _ hu oa ob
    have rX := rows_pc _ hu ob oa
    rw [e1] at rA rB
    rw [e2, d2] at rX
    rw [e2] at rC
    rw [hput] at rB
    have h5a := step_len5 ht.cols (ht.dr i)
    have h5c := step_len5 ht.cols (ht.dr j)
    have oA := (stepF_ok ht.key true (ht.dr i).ok (acc := []) (fun p hp => absurd hp (by simp))).2
    have oC := (stepF_ok ht.key true (ht.dr j).ok (acc := []) (fun p hp => absurd hp (by simp))).2
    rw [(ht.dr i).len] at oA
    rw [(ht.dr j).len] at oC
    have i2 := insert_pc _ hu i hi2 r (by rw [Tb.put_cols]; exact hrt)
    have htw : twiceB (drF (t.put i n r).a (t.put i n r).b i) r = true := by
      rw [d1]
      unfold twiceB
      rw [List.any_eq_true]
      refine ⟨⟨true, r⟩, ?_, by simp⟩
      rw [List.mem_iff_getElem]
      exact ⟨n, by rw [List.length_set, (ht.dr i).len]; exact hn4, List.getElem_set_self _⟩
    unfold insD at i2
    rw [if_pos htw] at i2
    have k1 := check_tb _ hu
    have hul := Tb.len hu
    generalize stepF true (drF t.a t.b i) [] = A at *
    generalize stepF true (drF t.a t.b j) [] = C at *
    simp only [List.length_nil, Nat.zero_add] at oA oC
    have s1 := sameRows_pc (A ++ [r]) (by rw [List.length_append, List.length_singleton]; omega) (fun x hx => by
      rcases List.mem_append.1 hx with hx | hx
      · exact h5a x hx
      · rw [List.mem_singleton] at hx; subst hx; exact hr5)
    have s2 := sameRows_pc C (by omega) h5c
    obtain ⟨es, hes⟩ : ∃ es, A.map rowC = es := ⟨_, rfl⟩
    have hel4 : es.length ≤ 4 := by rw [← hes, List.length_map]; exact oA
    unfold rowsS at rB s1
    rw [List.map_append, hes] at rB s1
    rw [hes] at rA
    have hrc : [r].map rowC = [[valsD r]] := rfl
    rw [hrc] at rB s1
    unfold tb0 at i2
    generalize (t.put i n r).cs = us at *
    clear hs ht hu htc hkt2 hrt hr hr5 hnt hf hfn hfree hput htw d1 d2 e1 e2 e3 hc hk h0 hkey sub h5a h5c
    generalize colsH l = cols at *
    generalize l.take 40 = q at *
    refine pc_of_aw Tryd.func3 rfl (by kernel_rfl) mixed (by kernel_rfl) (by rw [Tryd.ntmps3]; exact Nat.le_of_ble_eq_true rfl) Tryd.results3 ?_
    repeat (first | ((first | (with_reducible apply rpGT) | (with_reducible apply drGT) | (with_reducible apply rpGTN) | (with_reducible apply drGTN)); exact rfl; exact gval_t rfl; (first | exact rfl | assumption | decide); (focus repeat' (first | exact trivial | refine And.intro ?_ ?_)); (first | (refine does_callG' [] [(2000, 26)] (ups := [(26, .var 50 [.d (rawsD q), .d (iD nn), .d (colsD cols)])]) (v := (.tu [.d (.ag cs), .px 26 0, .d (bD true)])) rfl (g1) rfl ?_ rfl ?_ ?_ rfl rfl rfl rfl rfl ?_ ?_ rfl rfl rfl; (focus repeat' (first | exact trivial | exact rfl | refine And.intro ?_ ?_)); (focus repeat' (first | exact trivial | exact inB_px rfl | refine And.intro ?_ ?_)); (focus repeat' (first | exact trivial | exact inB_px rfl | refine And.intro ?_ ?_)); (focus repeat' (first | exact trivial | exact inB_px rfl | refine And.intro ?_ ?_)); (focus repeat' (first | exact trivial | exact inB_px rfl | refine And.intro ?_ ?_))) | (exact does_load_allD (tyOk rfl) rfl rfl rfl hcl) | (exact does_load_allD (tyOk rfl) rfl rfl rfl hul) | (exact does_store_whole (tyOk rfl) rfl rfl rfl hcl hcl) | (exact does_store_whole (tyOk rfl) rfl rfl rfl hul hul) | ((with_reducible apply does_call_flat); exact rfl; exact rfl; exact (p2); exact rfl) | ((with_reducible apply does_call_flat); exact rfl; exact rfl; exact (p1000); exact rfl) | (exact does_add_to (z := ((10 + v : Nat) : Int)) rfl rfl (by omega) (by omega) (by omega)) | (exact does_sub_to (z := (j : Int)) rfl rfl hj (by omega) (by omega)) | (refine does_callX [(1000, 26)] [(1000, 26)] (ups := [(26, .var 50 [.d (rawsD q), .d (iD (nn + cols.length : Nat)), .d (colsD cols)])]) rfl (r1) rfl ?_ rfl ?_ ?_ rfl rfl rfl rfl rfl ?_ rfl rfl; (focus repeat' (first | exact trivial | exact rfl | refine And.intro ?_ ?_)); (focus repeat' (first | exact trivial | exact inB_px rfl | refine And.intro ?_ ?_)); (focus repeat' (first | exact trivial | exact inB_px rfl | refine And.intro ?_ ?_)); (focus repeat' (first | exact trivial | exact inB_px rfl | refine And.intro ?_ ?_))) | ((with_reducible apply does_call'); exact rfl; exact rfl; exact rfl; exact (i1)) | ((with_reducible apply does_call_flat); exact rfl; exact rfl; exact (i2); exact rfl) | ((with_reducible apply does_call_flat); exact rfl; exact rfl; exact (c1); exact rfl) | ((with_reducible apply does_call_flat); exact rfl; exact rfl; exact (c2); exact rfl) | ((with_reducible apply does_callO'); exact rfl; exact rfl; exact rfl; exact (rA); (first | exact rfl | (simp; done) | (simp; omega)); exact rfl; (conv => lhs; whnf)) | ((with_reducible apply does_call'); exact rfl; exact rfl; exact rfl; exact (rB)) | ((with_reducible apply does_call'); exact rfl; exact rfl; exact rfl; exact (rC)) | ((with_reducible apply does_call'); exact rfl; exact rfl; exact rfl; exact (rX)) | ((with_reducible apply does_call_flat); exact rfl; exact rfl; exact (k1); exact rfl) | ((with_reducible apply does_call_flat); exact rfl; exact rfl; exact (s1); exact rfl) | ((with_reducible apply does_call_flat); exact rfl; exact rfl; exact (s2); exact rfl) | ((with_reducible apply does_call_flat); exact rfl; exact rfl; exact (tt); exact rfl) | ((with_reducible apply does_move); (conv => lhs; whnf)) | ((with_reducible apply does_assign); (conv => lhs; whnf)) | ((with_reducible apply does_and); exact rfl; exact rfl; exact rfl; exact trivial) | ((with_reducible apply does_eq); exact rfl; exact rfl) | ((with_reducible apply does_ne); exact rfl; exact rfl) | ((with_reducible apply does_extract); exact rfl; exact rfl) | ((with_reducible apply does_extractA); exact rfl; exact rfl) | ((with_reducible apply does_alloc); exact tyOk rfl; exact rfl) | ((with_reducible apply does_buildSlice); exact tyOk rfl; exact rfl; exact tyOk rfl; exact rfl; exact rfl; (focus repeat' (first | exact trivial | refine And.intro rfl (And.intro rfl ?_))); decide; decide; exact rfl) | ((with_reducible apply does_append_own); exact tyOk rfl; exact rfl; exact tyOk rfl; exact rfl; exact rfl; exact rfl; decide; (first | (dsimp only; simp only [List.length_map, List.length_append, List.length_cons, List.length_nil] at *; omega) | (simp only [List.length_map, List.length_append, List.length_cons, List.length_nil] at *; omega)); (first | (dsimp only; simp only [List.length_map, List.length_append, List.length_cons, List.length_nil] at *; omega) | (simp only [List.length_map, List.length_append, List.length_cons, List.length_nil] at *; omega)); exact rfl) | ((with_reducible apply does_store_whole); exact tyOk rfl; exact rfl; exact rfl; exact rfl; exact rfl; exact rfl)); (first | exact lapp_nil _ | exact lapp_1 _ _ | exact lapp_2 _ _ _ | exact lapp_3 _ _ _ _)) | (with_reducible first | apply aw_seq | apply aw_reg | apply rp_nil | apply ae_norm | apply aw_regD | apply aw_ret | apply re_ret | apply aw_skip) | ((with_reducible apply dr_nil); (first | kernel_rfl | exact rfl)) | ((with_reducible first | apply rp | apply dr); first | (exact does_load_allD (tyOk rfl) rfl rfl rfl hcl) | (exact does_load_allD (tyOk rfl) rfl rfl rfl hul) | ((with_reducible apply does_call_flat); exact rfl; exact rfl; exact (p2); exact rfl) | ((with_reducible apply does_call_flat); exact rfl; exact rfl; exact (p1000); exact rfl) | (exact does_add_to (z := ((10 + v : Nat) : Int)) rfl rfl (by omega) (by omega) (by omega)) | (exact does_sub_to (z := (j : Int)) rfl rfl hj (by omega) (by omega)) | ((with_reducible apply does_call'); exact rfl; exact rfl; exact rfl; exact (i1)) | ((with_reducible apply does_call_flat); exact rfl; exact rfl; exact (i2); exact rfl) | ((with_reducible apply does_call_flat); exact rfl; exact rfl; exact (c1); exact rfl) | ((with_reducible apply does_call_flat); exact rfl; exact rfl; exact (c2); exact rfl) | ((with_reducible apply does_call'); exact rfl; exact rfl; exact rfl; exact (rB)) | ((with_reducible apply does_call'); exact rfl; exact rfl; exact rfl; exact (rC)) | ((with_reducible apply does_call'); exact rfl; exact rfl; exact rfl; exact (rX)) | ((with_reducible apply does_call_flat); exact rfl; exact rfl; exact (k1); exact rfl) | ((with_reducible apply does_call_flat); exact rfl; exact rfl; exact (s1); exact rfl) | ((with_reducible apply does_call_flat); exact rfl; exact rfl; exact (s2); exact rfl) | ((with_reducible apply does_call_flat); exact rfl; exact rfl; exact (tt); exact rfl) | ((with_reducible apply does_move); (conv => lhs; whnf)) | ((with_reducible apply does_assign); (conv => lhs; whnf)) | ((with_reducible apply does_and); exact rfl; exact rfl; exact rfl; exact trivial) | ((with_reducible apply does_eq); exact rfl; exact rfl) | ((with_reducible apply does_ne); exact rfl; exact rfl) | ((with_reducible apply does_extract); exact rfl; exact rfl) | ((with_reducible apply does_extractA); exact rfl; exact rfl)) | ((with_reducible first | apply rp1 | apply dr1); first | ((with_reducible apply does_callO'); exact rfl; exact rfl; exact rfl; exact (rA); (first | exact rfl | (simp; done) | (simp; omega)); exact rfl; (conv => lhs; whnf)) | ((with_reducible apply does_alloc); exact tyOk rfl; exact rfl) | ((with_reducible apply does_buildSlice); exact tyOk rfl; exact rfl; exact tyOk rfl; exact rfl; exact rfl; (focus repeat' (first | exact trivial | refine And.intro rfl (And.intro rfl ?_))); decide; decide; exact rfl)) | ((with_reducible apply rp2); ((with_reducible apply does_append_own); exact tyOk rfl; exact rfl; exact tyOk rfl; exact rfl; exact rfl; exact rfl; decide; (first | (dsimp only; simp only [List.length_map, List.length_append, List.length_cons, List.length_nil] at *; omega) | (simp only [List.length_map, List.length_append, List.length_cons, List.length_nil] at *; omega)); (first | (dsimp only; simp only [List.length_map, List.length_append, List.length_cons, List.length_nil] at *; omega) | (simp only [List.length_map, List.length_append, List.length_cons, List.length_nil] at *; omega)); exact rfl)) | ((with_reducible apply rpN); first | (exact does_store_whole (tyOk rfl) rfl rfl rfl hcl hcl) | (exact does_store_whole (tyOk rfl) rfl rfl rfl hul hul) | ((with_reducible apply does_store_whole); exact tyOk rfl; exact rfl; exact rfl; exact rfl; exact rfl; exact rfl)) | ((with_reducible apply rpL); (refine does_callG' [] [(2000, 26)] (ups := [(26, .var 50 [.d (rawsD q), .d (iD nn), .d (colsD cols)])]) (v := (.tu [.d (.ag cs), .px 26 0, .d (bD true)])) rfl (g1) rfl ?_ rfl ?_ ?_ rfl rfl rfl rfl rfl ?_ ?_ rfl rfl rfl; (focus repeat' (first | exact trivial | exact rfl | refine And.intro ?_ ?_)); (focus repeat' (first | exact trivial | exact inB_px rfl | refine And.intro ?_ ?_)); (focus repeat' (first | exact trivial | exact inB_px rfl | refine And.intro ?_ ?_)); (focus repeat' (first | exact trivial | exact inB_px rfl | refine And.intro ?_ ?_)); (focus repeat' (first | exact trivial | exact inB_px rfl | refine And.intro ?_ ?_))); exact lapp_nil _) | ((with_reducible apply rpL); (refine does_callX [(1000, 26)] [(1000, 26)] (ups := [(26, .var 50 [.d (rawsD q), .d (iD (nn + cols.length : Nat)), .d (colsD cols)])]) rfl (r1) rfl ?_ rfl ?_ ?_ rfl rfl rfl rfl rfl ?_ rfl rfl; (focus repeat' (first | exact trivial | exact rfl | refine And.intro ?_ ?_)); (focus repeat' (first | exact trivial | exact inB_px rfl | refine And.intro ?_ ?_)); (focus repeat' (first | exact trivial | exact inB_px rfl | refine And.intro ?_ ?_)); (focus repeat' (first | exact trivial | exact inB_px rfl | refine And.intro ?_ ?_))); exact lapp_nil _) | ((with_reducible apply aw_cond); exact rfl; (focus (intro hd; (cases hd; done))); (intro hd; clear hd)))
    (with_reducible apply ret_ok); (focus (repeat' (first | (with_reducible apply rv_nil) | (with_reducible apply rv_cons) | ((with_reducible apply rv_tmp); exact rfl)))); exact rfl; refine SubD.of_eq ?_
    rfl
theorem insertThere_walk (A : Option Addr) (l : List Raw) (c : Nat) (dz key : Int) (w : World) (h : RdR w w.heap.size A l) (hc : l.length ≤ c) (_ : c * 40 ≤ 140737488351232) (hr : ∀ r ∈ l, r.ok) (hd : I64 dz) (hk : I64 key) (hg : GlOk (Lt w) w) : Calls Tryd.prog 3 #[.slice A l.length c, .int .i64 dz, .int .i64 key] w fun e w' => e = .returned (.bool true) ∧ Below w.heap.size w w' :=
  calls_of_pc (insertThere_pc l dz key) (rep_cons (rep_raws h hc) (rep_cons (rep_int w dz) (rep_cons (rep_int w key) rfl))) hg
end Go.Proofs.YtpaccaojgbfjdaaDoor

