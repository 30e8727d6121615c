/-
  InsertDelete: what is put in and deleted again leaves all as it was.
-/
import Derived.Test.YtpaccaojgbfjdaaDoorZInsertL
import Derived.Test.YtpaccaojgbfjdaaDoorZTbE
import Derived.Test.YtpaccaojgbfjdaaDoorZHeapR
namespace Go.Proofs.YtpaccaojgbfjdaaDoor
set_option linter.unusedSimpArgs false
set_option linter.unusedVariables false
open Go.RowKit

theorem numberT_pc (n : Int) : PC Tryd.prog 29 [iD n] (.ag (Ex.lit (numV n)).cs) := by
  refine pc_of_aw Tryd.func29 rfl (by kernel_rfl) mixed (by kernel_rfl) (by rw [Tryd.ntmps29]; exact Nat.le_of_ble_eq_true rfl) Tryd.results29 ?_
  repeat (first | ((first | (with_reducible apply rpGT) | (with_reducible apply drGT) | (with_reducible apply rpGTN) | (with_reducible apply drGTN)); exact rfl; (first | exact gval_t rfl | exact gval_f rfl | exact gval_gt rfl | exact gval_gf rfl); (first | exact rfl | assumption | decide); (focus repeat' (first | exact trivial | exact fun h => h | refine And.intro ?_ ?_ | (intro h; (first | exact h | (simp only [Bool.and_eq_true] at h; (first | exact h.1 | exact h.1.1 | exact h.1.1.1 | exact h.2)) | (rw [h]; rfl) | (rw [hgd0, h]; rfl) | simp_all)))); ((first | ((with_reducible apply does_move); (conv => lhs; whnf)) | ((with_reducible apply does_build); exact tyOk rfl; exact rfl; exact rfl; (focus repeat' (first | exact rfl | refine ⟨_, _, rfl, rfl, Nat.le_of_ble_eq_true rfl, rfl, ?_⟩)); exact rfl) | ((with_reducible apply does_alloc); exact tyOk rfl; exact rfl) | ((with_reducible apply does_store_whole); exact tyOk rfl; exact rfl; exact rfl; exact rfl; exact rfl; exact rfl)); (first | exact lapp_nil _ | exact lapp_1 _ _ | exact lapp_2 _ _ _ | exact lapp_3 _ _ _ _))) | (with_reducible first | apply aw_seq | apply aw_reg | apply rp_nil | apply ae_norm | apply aw_ret | apply re_ret) | ((with_reducible apply rp); first | ((with_reducible apply does_move); (conv => lhs; whnf)) | ((with_reducible apply does_build); exact tyOk rfl; exact rfl; exact rfl; (focus repeat' (first | exact rfl | refine ⟨_, _, rfl, rfl, Nat.le_of_ble_eq_true rfl, rfl, ?_⟩)); exact rfl)) | ((with_reducible apply rp1); ((with_reducible apply does_alloc); exact tyOk rfl; exact rfl)) | ((with_reducible apply rpN); ((with_reducible apply does_store_whole); exact tyOk rfl; exact rfl; exact rfl; exact rfl; exact rfl; exact rfl)))
  (with_reducible apply ret_ok); (focus (repeat' (first | (with_reducible apply rv_nil) | (with_reducible apply rv_cons) | ((with_reducible apply rv_rowd); exact rfl; exact rfl; exact tyOk rfl; exact rfl; exact rfl)))); exact rfl
  exact nil_sub _
/-! ### the condition on the key -/
abbrev keyX (K : Int) : Ex := .bi 9 (.col kN) (.lit (numV K))
theorem ordT_int (a b : Int) : ordV (numV a) (numV b) = if a < b then -1 else if a > b then 1 else 0 := by
  unfold ordV
  rw [less_n (a := numV a) (b := numV b) rfl (by show ¬ (2 : Int) = 3; omega) (by show ¬ (2 : Int) = 4; omega), more_n (a := numV a) (b := numV b) rfl (by show ¬ (2 : Int) = 3; omega) (by show ¬ (2 : Int) = 4; omega)]
  simp only [decide_eq_true_eq]
theorem comp_9 (a b : Int) : compF 9 (numV a) (numV b) = ⟨⟨1, if a = b then 1 else 0, 0, .empty⟩, 0⟩ := by
  unfold compF
  rw [if_neg (by show ¬ ((2 : Int) = 0 ∨ (2 : Int) = 0); omega), if_pos rfl]
  have key : cmpT 9 (numV a) (numV b) = if a = b then 2 else 0 := by
    unfold cmpT
    rw [if_pos rfl, ordT_int]
    unfold yesI
    by_cases h : a = b
    · subst h
      simp
    · rw [if_neg h]
      rcases Int.lt_or_gt_of_ne h with h1 | h1
      · simp [h1]
      · have h2 : ¬ a < b := by omega
        have h3 : b < a := h1
        simp [h2, h3]
  rw [key]
  by_cases h : a = b
  · rw [if_pos h, if_pos h]; rfl
  · rw [if_neg h, if_neg h]; rfl
theorem key_ev {cols : List Cl} (hk : ∃ l, cols = ⟨kN, 2, false⟩ :: l) {row : List Vl} (hr : FitR row cols) (K : Int) : evF cols row (keyX K) = ⟨⟨1, if keyN row = K then 1 else 0, 0, .empty⟩, 0⟩ := by
  obtain ⟨kr, lr, rfl⟩ := fit_key hr (by obtain ⟨l, h⟩ := hk; exact ⟨_, l, h⟩)
  obtain ⟨l, rfl⟩ := hk
  have hf : findI kN 0 (⟨kN, 2, false⟩ :: l) = some 0 := by
    show (if kN = kN then some 0 else _) = _
    rw [if_pos rfl]
  have h1 : evF (⟨kN, 2, false⟩ :: l) (numV kr :: lr) (.col kN) = ⟨numV kr, 0⟩ := by
    unfold evF
    rw [hf]
    rfl
  have h2 : evF (⟨kN, 2, false⟩ :: l) (numV kr :: lr) (.lit (numV K)) = ⟨numV K, 0⟩ := rfl
  show evF _ _ (.bi 9 _ _) = _
  rw [evF, h1, h2]
  show (if (0 : Nat) = 0 then (if shortB 9 (numV kr) = true then _ else if (0 : Nat) = 0 then twoF 9 (numV kr) (numV K) else _) else _) = _
  rw [if_pos rfl, if_neg (by show ¬ false = true; decide), if_pos rfl]
  show compF 9 (numV kr) (numV K) = _
  rw [comp_9]
  rfl
theorem key_ok {K : Int} (h : 0 ≤ K) : (keyX K).ok := ⟨by unfold bi2; omega, (by show NameOk kN; decide), .int _, h⟩
theorem key_kd {cols : List Cl} (hk : ∃ l, cols = ⟨kN, 2, false⟩ :: l) (K : Int) : Kd (ofF cols (keyX K)) 1 := by
  obtain ⟨l, rfl⟩ := hk
  have hf : findC kN (⟨kN, 2, false⟩ :: l) = ⟨0, 2, false⟩ := by
    show (if kN = kN then _ else _) = _
    rw [if_pos rfl]
    rfl
  have h1 : ofF (⟨kN, 2, false⟩ :: l) (.col kN) = ⟨0, 2, false⟩ := hf
  show Kd (ofF _ (.bi 9 (.col kN) (.lit (numV K)))) 1
  rw [ofF, h1]
  exact ⟨rfl, .inl rfl⟩
/-! ### what goes is what came -/
theorem go_key {t : Tb} (h : TbOk t) (hk : ∃ l, t.cols = ⟨kN, 2, false⟩ :: l) {i : Nat} {c : Ce} (hc : c ∈ drF t.a t.b i) (K : Int) : (c.full = true → (evF t.cols c.row (keyX K)).e = 0) ∧ goB (fun r => holF t.cols r (keyX K)) c = (c.full && decide (keyN c.row = K)) := by
  have hco : CeOk t.cols c := by
    unfold drF at hc
    split at hc
    · exact h.a.ok c hc
    · exact h.b.ok c hc
  cases hf : c.full with
  | false => exact ⟨fun h => (by cases h), by unfold goB; rw [hf]; rfl⟩
  | true =>
    have he := key_ev hk (hco.fit hf) K
    refine ⟨fun _ => by rw [he], ?_⟩
    have e2 : goB (fun r => holF t.cols r (keyX K)) c = (c.full && ((evF t.cols c.row (keyX K)).e == 0 && (evF t.cols c.row (keyX K)).v.n == 1)) := rfl
    rw [e2, hf, he]
    by_cases hkk : keyN c.row = K
    · rw [if_pos hkk, decide_eq_true hkk]; rfl
    · rw [if_neg hkk, decide_eq_false hkk]; rfl
theorem del_back {t : Tb} (h : TbOk t) {i n : Nat} (hi : i < 2) (hn : n < 4) {r : List Vl} {K : Int} (hfree : ((drF t.a t.b i).getD n ⟨true, []⟩).full = false) (hlt : ∀ c ∈ drF t.a t.b i, c.full = true → keyN c.row < K) (hr : keyN r = K) {y : List Vl → Bool}
    (hy : ∀ c ∈ (drF t.a t.b i).set n ⟨true, r⟩, goB y c = (c.full && decide (keyN c.row = K))) (hput : drF (t.put i n r).a (t.put i n r).b i = (drF t.a t.b i).set n ⟨true, r⟩) :
    (t.put i n r).dr i (delD y (drF (t.put i n r).a (t.put i n r).b i) 4) = t ∧ delN y (drF (t.put i n r).a (t.put i n r).b i) 4 = 1 := by
  have hdr : DrOk t.cols (drF t.a t.b i) := by
    unfold drF
    split
    · exact h.a
    · exact h.b
  have hl := hdr.len
  have hback : (t.put i n r).dr i (drF t.a t.b i) = t := by
    unfold Tb.put Tb.dr drF
    rcases (by omega : i = 0 ∨ i = 1) with rfl | rfl <;> rfl
  rw [hput]
  generalize drF t.a t.b i = d at *
  have hnl : n < d.length := by omega
  have hg : d.getD n ⟨true, []⟩ = d[n] := by rw [List.getD_eq_getElem?_getD, List.getElem?_eq_getElem hnl]; rfl
  rw [hg] at hfree
  have hdn : d[n] = ⟨false, []⟩ := by
    have := (hdr.ok d[n] (List.getElem_mem hnl)).none hfree
    cases hdd : d[n] with
    | mk f w =>
      rw [hdd] at hfree this
      dsimp only at hfree this
      rw [hfree, this]
  have hset : d.set n ⟨true, r⟩ = d.take n ++ ⟨true, r⟩ :: d.drop (n + 1) := List.set_eq_take_append_cons_drop .. |>.trans (if_pos hnl)
  have hd0 : d = d.take n ++ ⟨false, []⟩ :: d.drop (n + 1) := by
    rw [← hdn, ← List.drop_eq_getElem_cons hnl, List.take_append_drop]
  have hoth : ∀ c, c ∈ d.take n ∨ c ∈ d.drop (n + 1) → goB y c = false := fun c hc => by
    have hm : c ∈ d := hc.elim List.mem_of_mem_take List.mem_of_mem_drop
    have hm2 : c ∈ d.set n ⟨true, r⟩ := by
      rw [hset]
      rcases hc with hc | hc
      · exact List.mem_append_left _ hc
      · exact List.mem_append_right _ (List.mem_cons_of_mem _ hc)
    rw [hy c hm2]
    cases hf : c.full with
    | false => rfl
    | true =>
      rw [decide_eq_false (by have := hlt c hm hf; omega)]
      rfl
  have hgo : goB y ⟨true, r⟩ = true := by
    rw [hy _ (by rw [hset]; exact List.mem_append_right _ List.mem_cons_self)]
    show (true && decide (keyN r = K)) = true
    rw [decide_eq_true hr]
    rfl
  have hid : ∀ l : List Ce, (∀ c ∈ l, goB y c = false) → l.map (delC y) = l := fun l hl => by
    have : l.map (delC y) = l.map id := List.map_congr_left fun c hc => by
      show delC y c = c
      unfold delC
      rw [if_neg (by rw [hl c hc]; decide)]
    rw [this, List.map_id]
  have hno : ∀ l : List Ce, (∀ c ∈ l, goB y c = false) → l.filter (goB y) = [] := fun l hl => List.filter_eq_nil_iff.2 fun c hc => by rw [hl c hc]; decide
  have hl2 : (d.set n ⟨true, r⟩).length = 4 := by rw [List.length_set]; exact hl
  constructor
  · have e : delD y (d.set n ⟨true, r⟩) 4 = d := by
      unfold delD
      rw [List.take_of_length_le (by omega), List.drop_eq_nil_of_le (by omega), List.append_nil, hset, List.map_append, List.map_cons, hid _ fun c hc => hoth c (.inl hc), hid _ fun c hc => hoth c (.inr hc)]
      have hdc : delC y ⟨true, r⟩ = ⟨false, []⟩ := by unfold delC; rw [if_pos hgo]
      rw [hdc]
      exact hd0.symm
    rw [e]
    exact hback
  · unfold delN
    rw [List.take_of_length_le (by omega), hset, List.filter_append, List.filter_cons_of_pos hgo, hno _ fun c hc => hoth c (.inl hc), hno _ fun c hc => hoth c (.inr hc)]
    rfl
set_option maxHeartbeats 8000000 in
theorem insertDelete_pc (l : List Raw) (dz key : Int) : PC Tryd.prog 7 [rawsD l, iD dz, iD key] (bD true) := by
  have g1 := tabled_pg l
  have hc := colsF_ok (l.take (l.length % 4))
  have hk : ∃ n l', colsH l = ⟨n, 2, false⟩ :: l' := ⟨_, _, rfl⟩
  have hkN : ∃ l', colsH l = ⟨kN, 2, false⟩ :: l' := ⟨_, rfl⟩
  have h0 : ∀ c, (colsH l)[0]? = some c → c.kind = 2 := fun c h => by injection h with h; subst h; rfl
  obtain ⟨ht, htc, hkt⟩ := tabF_ok (l.take 40) (cols := colsH l) hc hk h0 (l.length % 8)
  have hs := tabC_sub (l.take 40) (colsH l) (l.length % 8)
  have hcl : (tabC (l.take 40) (colsH l) (l.length % 8)).length = 19 := by
    unfold tabC
    split
    · rfl
    · exact Tb.len ht
  have hL8 : l.length % 8 < 8 := Nat.mod_lt _ (by decide)
  have hl5 := hc.len
  have hnn : l.length % 8 * ((colsH l).length + 1) ≤ 8 * 6 := Nat.mul_le_mul (by omega) (by unfold colsH; omega)
  obtain ⟨i, hi⟩ : ∃ i : Nat, dz % ((2 : Nat) : Int) = i := ⟨(dz % 2).toNat, by omega⟩
  have hi2 : i < 2 := by omega
  obtain ⟨v, hv⟩ : ∃ v : Nat, key % ((1000 : Nat) : Int) = v := ⟨(key % 1000).toNat, by omega⟩
  have p2 := picked_pc dz 2 (by omega) (by omega)
  have p1000 := picked_pc key 1000 (by omega) (by omega)
  rw [hi] at p2
  rw [hv] at p1000
  have r1 := row_px (l.take 40) (l.length % 8 * ((colsH l).length + 1)) (colsH l) hl5 (fun c h => (hc.kind c h).2) (((10 + v : Nat) : Int)) (by omega)
  have hr := rowF_fit (l.take 40) (l.length % 8 * ((colsH l).length + 1)) (((10 + v : Nat) : Int)) hc h0
  have hkey : keyN (rowF (l.take 40) (l.length % 8 * ((colsH l).length + 1)) (((10 + v : Nat) : Int)) 0 (colsH l)) = ((10 + v : Nat) : Int) := rowF_key hk
  unfold hpB at r1
  have hkt2 := hkt.mono (L := 10) (by omega)
  have hv3 : v < 1000 := by omega
  clear hkt hi hv
  generalize rowF (l.take 40) (l.length % 8 * ((colsH l).length + 1)) (((10 + v : Nat) : Int)) 0 (colsH l) = r at *
  generalize tabC (l.take 40) (colsH l) (l.length % 8) = cs at *
  generalize tabF (l.take 40) (colsH l) (l.length % 8) = t at *
  generalize l.length % 8 * ((colsH l).length + 1) = nn at *
  have hrt : FitR r t.cols := by rw [htc]; exact hr
  have hr5 : r.length ≤ 5 := by have := hr.len; have h5 : (colsH l).length ≤ 5 := hl5; omega
  obtain ⟨_, _, _, _, _, _, _, _, _, e3⟩ := one_both hi2
  have hnt := hkt2.not (r := r) (by omega) i
  have i1 := insert_sub hs ht i hi2 r hrt
  have tt := tableTells_pc
  unfold insD at i1
  rw [if_neg hnt] at i1
  by_cases hf : freeN (drF t.a t.b i) 4 < 0
  · rw [if_pos hf] at i1
    unfold tb0 at i1
    clear hs ht htc hkt2 hrt hr hr5 hnt hf e3 hc hk hkN h0 hkey
    generalize colsH l = cols at *
    generalize l.take 40 = q at *
    refine pc_of_aw Tryd.func7 rfl (by kernel_rfl) mixed (by kernel_rfl) (by rw [Tryd.ntmps7]; exact Nat.le_of_ble_eq_true rfl) Tryd.results7 ?_
    repeat (first | ((first | (with_reducible apply rpGT) | (with_reducible apply drGT) | (with_reducible apply rpGTN) | (with_reducible apply drGTN)); exact rfl; exact gval_t rfl; (first | exact rfl | assumption | decide); (focus repeat' (first | exact trivial | refine And.intro ?_ ?_)); (first | ((refine does_callG' [] [(2000, 26)] (ups := [(26, .var 50 [.d (rawsD q), .d (iD nn), .d (colsD cols)])]) (v := (.tu [.d (.ag cs), .px 26 0, .d (bD true)])) rfl (g1) rfl ?_ rfl ?_ ?_ rfl rfl rfl rfl rfl ?_ ?_ rfl rfl rfl; (focus repeat' (first | exact trivial | exact rfl | refine And.intro ?_ ?_)); (focus repeat' (first | exact trivial | exact inB_px rfl | refine And.intro ?_ ?_)); (focus repeat' (first | exact trivial | exact inB_px rfl | refine And.intro ?_ ?_)); (focus repeat' (first | exact trivial | exact inB_px rfl | refine And.intro ?_ ?_)); (focus repeat' (first | exact trivial | exact inB_px rfl | refine And.intro ?_ ?_))); (first | exact lapp_nil _ | exact lapp_1 _ _ | exact lapp_2 _ _ _ | exact lapp_3 _ _ _ _)) | ((refine does_callX [(1000, 26)] [(1000, 26)] (ups := [(26, .var 50 [.d (rawsD q), .d (iD (nn + cols.length : Nat)), .d (colsD cols)])]) rfl (r1) rfl ?_ rfl ?_ ?_ rfl rfl rfl rfl rfl ?_ rfl rfl; (focus repeat' (first | exact trivial | exact rfl | refine And.intro ?_ ?_)); (focus repeat' (first | exact trivial | exact inB_px rfl | refine And.intro ?_ ?_)); (focus repeat' (first | exact trivial | exact inB_px rfl | refine And.intro ?_ ?_)); (focus repeat' (first | exact trivial | exact inB_px rfl | refine And.intro ?_ ?_))); (first | exact lapp_nil _ | exact lapp_1 _ _ | exact lapp_2 _ _ _ | exact lapp_3 _ _ _ _)) | ((first | (exact does_load_allD (tyOk rfl) rfl rfl rfl hcl) | (exact does_store_whole (tyOk rfl) rfl rfl rfl hcl hcl) | ((with_reducible apply does_call_flat); exact rfl; exact rfl; exact (p2); exact rfl) | ((with_reducible apply does_call_flat); exact rfl; exact rfl; exact (p1000); exact rfl) | (exact does_add_to (z := ((10 + v : Nat) : Int)) rfl rfl (by omega) (by omega) (by omega)) | ((with_reducible apply does_call_flat); exact rfl; exact rfl; exact (i1); exact rfl) | ((with_reducible apply does_call_flat); exact rfl; exact rfl; exact (tt); exact rfl) | ((with_reducible apply does_move); (conv => lhs; whnf)) | ((with_reducible apply does_assign); (conv => lhs; whnf)) | ((with_reducible apply does_and); exact rfl; exact rfl; exact rfl; exact trivial) | ((with_reducible apply does_eq); exact rfl; exact rfl) | ((with_reducible apply does_ne); exact rfl; exact rfl) | ((with_reducible apply does_extract); exact rfl; exact rfl) | ((with_reducible apply does_extractA); exact rfl; exact rfl) | ((with_reducible apply does_alloc); exact tyOk rfl; exact rfl) | ((with_reducible apply does_store_whole); exact tyOk rfl; exact rfl; exact rfl; exact rfl; exact rfl; exact rfl)); (first | exact lapp_nil _ | exact lapp_1 _ _ | exact lapp_2 _ _ _ | exact lapp_3 _ _ _ _)))) | (with_reducible first | apply aw_seq | apply aw_reg | apply rp_nil | apply ae_norm | apply aw_regD | apply aw_ret | apply ae_ret | apply re_ret) | ((with_reducible apply dr_nil); (first | kernel_rfl | exact rfl)) | ((with_reducible first | apply rp | apply dr); first | (exact does_load_allD (tyOk rfl) rfl rfl rfl hcl) | ((with_reducible apply does_call_flat); exact rfl; exact rfl; exact (p2); exact rfl) | ((with_reducible apply does_call_flat); exact rfl; exact rfl; exact (p1000); exact rfl) | (exact does_add_to (z := ((10 + v : Nat) : Int)) rfl rfl (by omega) (by omega) (by omega)) | ((with_reducible apply does_call_flat); exact rfl; exact rfl; exact (i1); exact rfl) | ((with_reducible apply does_call_flat); exact rfl; exact rfl; exact (tt); exact rfl) | ((with_reducible apply does_move); (conv => lhs; whnf)) | ((with_reducible apply does_assign); (conv => lhs; whnf)) | ((with_reducible apply does_and); exact rfl; exact rfl; exact rfl; exact trivial) | ((with_reducible apply does_eq); exact rfl; exact rfl) | ((with_reducible apply does_ne); exact rfl; exact rfl) | ((with_reducible apply does_extract); exact rfl; exact rfl) | ((with_reducible apply does_extractA); exact rfl; exact rfl)) | ((with_reducible first | apply rp1 | apply dr1); ((with_reducible apply does_alloc); exact tyOk rfl; exact rfl)) | ((with_reducible first | apply rpN | apply drN); first | (exact does_store_whole (tyOk rfl) rfl rfl rfl hcl hcl) | ((with_reducible apply does_store_whole); exact tyOk rfl; exact rfl; exact rfl; exact rfl; exact rfl; exact rfl)) | ((with_reducible first | apply rpL | apply drL); (refine does_callG' [] [(2000, 26)] (ups := [(26, .var 50 [.d (rawsD q), .d (iD nn), .d (colsD cols)])]) (v := (.tu [.d (.ag cs), .px 26 0, .d (bD true)])) rfl (g1) rfl ?_ rfl ?_ ?_ rfl rfl rfl rfl rfl ?_ ?_ rfl rfl rfl; (focus repeat' (first | exact trivial | exact rfl | refine And.intro ?_ ?_)); (focus repeat' (first | exact trivial | exact inB_px rfl | refine And.intro ?_ ?_)); (focus repeat' (first | exact trivial | exact inB_px rfl | refine And.intro ?_ ?_)); (focus repeat' (first | exact trivial | exact inB_px rfl | refine And.intro ?_ ?_)); (focus repeat' (first | exact trivial | exact inB_px rfl | refine And.intro ?_ ?_))); exact lapp_nil _) | ((with_reducible first | apply rpL | apply drL); (refine does_callX [(1000, 26)] [(1000, 26)] (ups := [(26, .var 50 [.d (rawsD q), .d (iD (nn + cols.length : Nat)), .d (colsD cols)])]) rfl (r1) rfl ?_ rfl ?_ ?_ rfl rfl rfl rfl rfl ?_ rfl rfl; (focus repeat' (first | exact trivial | exact rfl | refine And.intro ?_ ?_)); (focus repeat' (first | exact trivial | exact inB_px rfl | refine And.intro ?_ ?_)); (focus repeat' (first | exact trivial | exact inB_px rfl | refine And.intro ?_ ?_)); (focus repeat' (first | exact trivial | exact inB_px rfl | refine And.intro ?_ ?_))); exact lapp_nil _) | ((with_reducible apply aw_cond); exact rfl; rotate_left; (focus (intro hd; (cases hd; done))); (intro hd; clear hd)))
    (with_reducible apply ret_ok); (focus (repeat' (first | (with_reducible apply rv_nil) | (with_reducible apply rv_cons) | ((with_reducible apply rv_tmp); exact rfl)))); exact rfl; refine SubD.of_eq ?_
    rfl
  · rw [if_neg hf] at i1
    obtain ⟨n, hn4, hfn⟩ : ∃ n : Nat, n < 4 ∧ freeN (drF t.a t.b i) 4 = n := by
      rcases freeN_lt (drF t.a t.b i) 4 with h | h
      · exact absurd h hf
      · exact h
    rw [hfn, Int.toNat_natCast] at i1
    obtain ⟨_, hfree⟩ := freeN_free _ 4 n hfn
    have hu := ht.put (n := n) hrt hi2 hnt
    obtain ⟨d1, d2⟩ := e3 t n r
    have hkT : ∃ l', (t.put i n r).cols = ⟨kN, 2, false⟩ :: l' := by rw [Tb.put_cols, htc]; exact hkN
    have hgo := fun c hc => go_key hu hkT (i := i) (c := c) hc ((10 + v : Nat) : Int)
    have hall := fun c hc => (hgo c hc).1
    have hx := key_ok (K := ((10 + v : Nat) : Int)) (by omega)
    have dl := delete_ok _ hu i hi2 (keyX ((10 + v : Nat) : Int)) hx (show 2 ≤ 7 by omega) (show 3 ≤ 40 by omega) (key_kd hkT _) hall
    obtain ⟨hb1, hb2⟩ := del_back (y := fun r' => holF (t.put i n r).cols r' (keyX ((10 + v : Nat) : Int))) ht hi2 hn4 hfree (fun c hc hcf => by have := hkt2.dr i c hc hcf; omega) hkey (fun c hc => (hgo c (by rw [d1]; exact hc)).2) d1
    obtain ⟨q1, _, _, q4⟩ := delL_spec (fun r' => holF (t.put i n r).cols r' (keyX ((10 + v : Nat) : Int))) hu hi2 4 (Nat.le_refl _)
    rw [hb1] at q4
    rw [hb2] at dl
    have sub : ∀ o : D, SubDs [.ag cs, o] [.ag t.cs, o] := fun o => SubDs.cons (SubD.ag hs) id (SubDs.refl _)
    have rA := (rows_pc t ht true true).args (sub _)
    have sub2 : ∀ o : D, SubDs [.ag (delL (fun r' => holF (t.put i n r).cols r' (keyX ((10 + v : Nat) : Int))) (drF (t.put i n r).a (t.put i n r).b i) i (t.put i n r).cs 4), o] [.ag t.cs, o] := fun o => SubDs.cons (SubD.ag q4) id (SubDs.refl _)
    have rB := (rows_pc t ht true true).args (sub2 _)
    have h5a := step_len5 ht.cols ht.a
    have h5b := step_len5 ht.cols ht.b
    have oA := (stepF_ok ht.key true ht.a.ok (acc := []) (fun p hp => absurd hp (by simp))).2
    have oB := (stepF_ok ht.key true ht.b.ok (acc := []) (fun p hp => absurd hp (by simp))).2
    rw [show accF t.a t.b true true 2 = stepF true t.a [] ++ stepF true t.b [] from step_app ht.b _] at rA rB
    rw [ht.a.len] at oA
    rw [ht.b.len] at oB
    simp only [List.length_nil, Nat.zero_add] at oA oB
    have s1 := sameRows_pc (stepF true t.a [] ++ stepF true t.b []) (by rw [List.length_append]; omega) (fun r hr => by
      rcases List.mem_append.1 hr with hr | hr
      · exact h5a r hr
      · exact h5b r hr)
    have b1 := bothD_pc
    have hul := Tb.len hu
    have n1 := numberT_pc ((10 + v : Nat) : Int)
    have hca : (Ex.col kN).cs = [iD 2, iD 0, iD 0, qD 0, strD .empty, strD kN, .sl 7 []] := rfl
    have hla : (Ex.lit (numV ((10 + v : Nat) : Int))).cs = [iD 1, iD 2, iD ((10 + v : Nat) : Int), qD 0, strD .empty, strD .empty, .sl 7 []] := rfl
    have x1 : PC Tryd.prog 21 [iD 9, .ag [iD 2, iD 0, iD 0, qD 0, strD .empty, strD kN, .nl], .ag (Ex.lit (numV ((10 + v : Nat) : Int))).cs] (.ag (keyX ((10 + v : Nat) : Int)).cs) := (op2_pc 9 (.col kN) (.lit (numV ((10 + v : Nat) : Int)))).args (SubDs.cons (SubD.refl _) id (SubDs.cons (nil_sub _) id (SubDs.refl _)))
    generalize delL (fun r' => holF (t.put i n r).cols r' (keyX ((10 + v : Nat) : Int))) (drF (t.put i n r).a (t.put i n r).b i) i (t.put i n r).cs 4 = dL at *
    have hxl := (keyX ((10 + v : Nat) : Int)).cs_len
    rw [hla] at n1 x1
    generalize (keyX ((10 + v : Nat) : Int)).cs = xc at *
    generalize stepF true t.a [] ++ stepF true t.b [] = rs at *
    unfold rowsS at rA rB s1
    generalize rs.map rowC = es at *
    generalize (t.put i n r).cs = us at *
    clear hs ht hu htc hkt2 hrt hr hr5 hnt hf hfn hfree d1 d2 e3 hc hk hkN h0 hkey sub sub2 h5a h5b hkT hgo hall hx hb1 hb2 q4 hca hla
    generalize colsH l = cols at *
    generalize l.take 40 = q at *
    refine pc_of_aw Tryd.func7 rfl (by kernel_rfl) mixed (by kernel_rfl) (by rw [Tryd.ntmps7]; exact Nat.le_of_ble_eq_true rfl) Tryd.results7 ?_
    repeat (first | ((first | (with_reducible apply rpGT) | (with_reducible apply drGT) | (with_reducible apply rpGTN) | (with_reducible apply drGTN)); exact rfl; exact gval_t rfl; (first | exact rfl | assumption | decide); (focus repeat' (first | exact trivial | refine And.intro ?_ ?_)); (first | ((refine does_callG' [] [(2000, 25)] (ups := [(25, .var 50 [.d (rawsD q), .d (iD nn), .d (colsD cols)])]) (v := (.tu [.d (.ag cs), .px 25 0, .d (bD true)])) rfl (g1) rfl ?_ rfl ?_ ?_ rfl rfl rfl rfl rfl ?_ ?_ rfl rfl rfl; (focus repeat' (first | exact trivial | exact rfl | refine And.intro ?_ ?_)); (focus repeat' (first | exact trivial | exact inB_px rfl | refine And.intro ?_ ?_)); (focus repeat' (first | exact trivial | exact inB_px rfl | refine And.intro ?_ ?_)); (focus repeat' (first | exact trivial | exact inB_px rfl | refine And.intro ?_ ?_)); (focus repeat' (first | exact trivial | exact inB_px rfl | refine And.intro ?_ ?_))); (first | exact lapp_nil _ | exact lapp_1 _ _ | exact lapp_2 _ _ _ | exact lapp_3 _ _ _ _)) | ((refine does_callX [(1000, 25)] [(1000, 25)] (ups := [(25, .var 50 [.d (rawsD q), .d (iD (nn + cols.length : Nat)), .d (colsD cols)])]) rfl (r1) rfl ?_ rfl ?_ ?_ rfl rfl rfl rfl rfl ?_ rfl rfl; (focus repeat' (first | exact trivial | exact rfl | refine And.intro ?_ ?_)); (focus repeat' (first | exact trivial | exact inB_px rfl | refine And.intro ?_ ?_)); (focus repeat' (first | exact trivial | exact inB_px rfl | refine And.intro ?_ ?_)); (focus repeat' (first | exact trivial | exact inB_px rfl | refine And.intro ?_ ?_))); (first | exact lapp_nil _ | exact lapp_1 _ _ | exact lapp_2 _ _ _ | exact lapp_3 _ _ _ _)) | ((first | (exact does_load_allD (tyOk rfl) rfl rfl rfl hcl) | (exact does_load_allD (tyOk rfl) rfl rfl rfl hul) | (exact does_load_allD (tyOk rfl) rfl rfl rfl q1) | (exact does_store_whole (tyOk rfl) rfl rfl rfl hcl hcl) | (exact does_store_whole (tyOk rfl) rfl rfl rfl hul hul) | (exact does_store_whole (tyOk rfl) rfl rfl rfl q1 q1) | ((with_reducible apply does_call_flat); exact rfl; exact rfl; exact (p2); exact rfl) | ((with_reducible apply does_call_flat); exact rfl; exact rfl; exact (p1000); exact rfl) | (exact does_add_to (z := ((10 + v : Nat) : Int)) rfl rfl (by omega) (by omega) (by omega)) | ((with_reducible apply does_call'); exact rfl; exact rfl; exact rfl; exact (i1)) | ((with_reducible apply does_call'); exact rfl; exact rfl; exact rfl; exact (n1)) | ((with_reducible apply does_call'); exact rfl; exact rfl; exact rfl; exact (x1)) | ((with_reducible apply does_call'); exact rfl; exact rfl; exact rfl; exact (dl)) | ((with_reducible apply does_call_flat); exact rfl; exact rfl; exact (b1); exact rfl) | ((with_reducible apply does_call'); exact rfl; exact rfl; exact rfl; exact (rA)) | ((with_reducible apply does_call'); exact rfl; exact rfl; exact rfl; exact (rB)) | ((with_reducible apply does_call_flat); exact rfl; exact rfl; exact (s1); exact rfl) | ((with_reducible apply does_call_flat); exact rfl; exact rfl; exact (tt); exact rfl) | ((with_reducible apply does_move); (conv => lhs; whnf)) | ((with_reducible apply does_assign); (conv => lhs; whnf)) | ((with_reducible apply does_and); exact rfl; exact rfl; exact rfl; exact trivial) | ((with_reducible apply does_eq); exact rfl; exact rfl) | ((with_reducible apply does_ne); exact rfl; exact rfl) | ((with_reducible apply does_extract); exact rfl; exact rfl) | ((with_reducible apply does_extractA); exact rfl; exact rfl) | ((with_reducible apply does_build); exact tyOk rfl; exact rfl; exact rfl; (focus repeat' (first | exact rfl | refine ⟨_, _, rfl, rfl, Nat.le_of_ble_eq_true rfl, rfl, ?_⟩)); exact rfl) | ((with_reducible apply does_alloc); exact tyOk rfl; exact rfl)); (first | exact lapp_nil _ | exact lapp_1 _ _ | exact lapp_2 _ _ _ | exact lapp_3 _ _ _ _)))) | (with_reducible first | apply aw_seq | apply aw_reg | apply rp_nil | apply ae_norm | apply aw_regD | apply aw_ret | apply re_ret | apply aw_skip) | ((with_reducible apply dr_nil); (first | kernel_rfl | exact rfl)) | ((with_reducible first | apply rp | apply dr); first | (exact does_load_allD (tyOk rfl) rfl rfl rfl hcl) | (exact does_load_allD (tyOk rfl) rfl rfl rfl hul) | (exact does_load_allD (tyOk rfl) rfl rfl rfl q1) | ((with_reducible apply does_call_flat); exact rfl; exact rfl; exact (p2); exact rfl) | ((with_reducible apply does_call_flat); exact rfl; exact rfl; exact (p1000); exact rfl) | (exact does_add_to (z := ((10 + v : Nat) : Int)) rfl rfl (by omega) (by omega) (by omega)) | ((with_reducible apply does_call'); exact rfl; exact rfl; exact rfl; exact (i1)) | ((with_reducible apply does_call'); exact rfl; exact rfl; exact rfl; exact (n1)) | ((with_reducible apply does_call'); exact rfl; exact rfl; exact rfl; exact (x1)) | ((with_reducible apply does_call'); exact rfl; exact rfl; exact rfl; exact (dl)) | ((with_reducible apply does_call_flat); exact rfl; exact rfl; exact (b1); exact rfl) | ((with_reducible apply does_call'); exact rfl; exact rfl; exact rfl; exact (rA)) | ((with_reducible apply does_call'); exact rfl; exact rfl; exact rfl; exact (rB)) | ((with_reducible apply does_call_flat); exact rfl; exact rfl; exact (s1); exact rfl) | ((with_reducible apply does_call_flat); exact rfl; exact rfl; exact (tt); exact rfl) | ((with_reducible apply does_move); (conv => lhs; whnf)) | ((with_reducible apply does_assign); (conv => lhs; whnf)) | ((with_reducible apply does_and); exact rfl; exact rfl; exact rfl; exact trivial) | ((with_reducible apply does_eq); exact rfl; exact rfl) | ((with_reducible apply does_ne); exact rfl; exact rfl) | ((with_reducible apply does_extract); exact rfl; exact rfl) | ((with_reducible apply does_extractA); exact rfl; exact rfl) | ((with_reducible apply does_build); exact tyOk rfl; exact rfl; exact rfl; (focus repeat' (first | exact rfl | refine ⟨_, _, rfl, rfl, Nat.le_of_ble_eq_true rfl, rfl, ?_⟩)); exact rfl)) | ((with_reducible first | apply rp1 | apply dr1); ((with_reducible apply does_alloc); exact tyOk rfl; exact rfl)) | ((with_reducible first | apply rpN | apply drN); first | (exact does_store_whole (tyOk rfl) rfl rfl rfl hcl hcl) | (exact does_store_whole (tyOk rfl) rfl rfl rfl hul hul) | (exact does_store_whole (tyOk rfl) rfl rfl rfl q1 q1)) | ((with_reducible first | apply rpL | apply drL); (refine does_callG' [] [(2000, 25)] (ups := [(25, .var 50 [.d (rawsD q), .d (iD nn), .d (colsD cols)])]) (v := (.tu [.d (.ag cs), .px 25 0, .d (bD true)])) rfl (g1) rfl ?_ rfl ?_ ?_ rfl rfl rfl rfl rfl ?_ ?_ rfl rfl rfl; (focus repeat' (first | exact trivial | exact rfl | refine And.intro ?_ ?_)); (focus repeat' (first | exact trivial | exact inB_px rfl | refine And.intro ?_ ?_)); (focus repeat' (first | exact trivial | exact inB_px rfl | refine And.intro ?_ ?_)); (focus repeat' (first | exact trivial | exact inB_px rfl | refine And.intro ?_ ?_)); (focus repeat' (first | exact trivial | exact inB_px rfl | refine And.intro ?_ ?_))); exact lapp_nil _) | ((with_reducible first | apply rpL | apply drL); (refine does_callX [(1000, 25)] [(1000, 25)] (ups := [(25, .var 50 [.d (rawsD q), .d (iD (nn + cols.length : Nat)), .d (colsD cols)])]) rfl (r1) rfl ?_ rfl ?_ ?_ rfl rfl rfl rfl rfl ?_ rfl rfl; (focus repeat' (first | exact trivial | exact rfl | refine And.intro ?_ ?_)); (focus repeat' (first | exact trivial | exact inB_px rfl | refine And.intro ?_ ?_)); (focus repeat' (first | exact trivial | exact inB_px rfl | refine And.intro ?_ ?_)); (focus repeat' (first | exact trivial | exact inB_px rfl | refine And.intro ?_ ?_))); exact lapp_nil _) | ((with_reducible apply aw_cond); exact rfl; (focus (intro hd; (cases hd; done))); (intro hd; clear hd)))
    (with_reducible apply ret_ok); (focus (repeat' (first | (with_reducible apply rv_nil) | (with_reducible apply rv_cons) | ((with_reducible apply rv_tmp); exact rfl)))); exact rfl; refine SubD.of_eq ?_
    rfl
theorem insertDelete_walk (A : Option Addr) (l : List Raw) (c : Nat) (dz key : Int) (w : World) (h : RdR w w.heap.size A l) (hc : l.length ≤ c) (_ : c * 40 ≤ 140737488351232) (hr : ∀ r ∈ l, r.ok) (hd : I64 dz) (hk : I64 key) (hg : GlOk (Lt w) w) : Calls Tryd.prog 7 #[.slice A l.length c, .int .i64 dz, .int .i64 key] w fun e w' => e = .returned (.bool true) ∧ Below w.heap.size w w' :=
  calls_of_pc (insertDelete_pc l dz key) (rep_cons (rep_raws h hc) (rep_cons (rep_int w dz) (rep_cons (rep_int w key) rfl))) hg
end Go.Proofs.YtpaccaojgbfjdaaDoor

