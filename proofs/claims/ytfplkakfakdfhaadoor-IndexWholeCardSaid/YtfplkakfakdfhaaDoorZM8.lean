/-
  kinds.Row as a contract. No condition but that the columns and the row may be.
-/
import Derived.Test.YtfplkakfakdfhaaDoorZM7
import Derived.Test.YtfplkakfakdfhaaDoorZM5
import Derived.Test.YtfplkakfakdfhaaDoorZM4
import Derived.Test.YtfplkakfakdfhaaDoorZG
namespace Go.Proofs.YtfplkakfakdfhaaDoor
set_option linter.unusedSimpArgs false
set_option linter.unusedVariables false
open Go.RowKit
open Go.Lib

/-- A value that fits a column. -/
def FitC (v : Vl) (c : Cl) : Prop := Gd v ∧ (v.k = c.kind ∨ (v.k = 0 ∧ c.null = true))
/-- A row that fits columns. -/
structure FitR (row : List Vl) (cols : List Cl) : Prop where
  len : row.length = cols.length
  fit : ∀ (i : Nat) (v : Vl) (c : Cl), row[i]? = some v → cols[i]? = some c → FitC v c
theorem FitR.gd {row : List Vl} {cols : List Cl} (h : FitR row cols) : ∀ v ∈ row, Gd v := fun v hv => by
  obtain ⟨i, hi⟩ := List.getElem?_of_mem hv
  have hlt : i < cols.length := by have := h.len; have := (List.getElem?_eq_some_iff.1 hi).1; omega
  exact (h.fit i v _ hi (List.getElem?_eq_getElem hlt)).1
set_option maxHeartbeats 2000000 in
theorem fits_row_pc (row : List Vl) (cols : List Cl) (hc : ColsOk cols) (h : FitR row cols) : PC Tryd.prog 36 [valsD row, colsD cols] (iD 0) := by
  have c1 := columns_pc cols hc
  have hl5 := hc.len
  have hlen := h.len
  refine pc_of_aw Tryd.func36 rfl (by kernel_rfl) mixed (by kernel_rfl) (by rw [Tryd.ntmps36]; exact Nat.le_of_ble_eq_true rfl) Tryd.results36 ?_
  repeat (first | (with_reducible first | apply aw_seq | apply aw_reg | apply rp_nil | apply ae_norm | apply aw_block | apply aw_skip) | ((with_reducible apply rp); first | ((with_reducible apply does_call_flat); exact rfl; exact rfl; exact (c1); exact rfl) | ((with_reducible apply does_move); (conv => lhs; whnf)) | ((with_reducible apply does_assign); (conv => lhs; whnf)) | ((with_reducible apply does_ne); exact rfl; exact rfl) | ((with_reducible apply does_len_map); exact tyOk rfl; exact rfl; exact rfl)) | ((with_reducible apply aw_cond); exact rfl; (focus (intro hd; (first | (cases hd; done) | (exfalso; simp at hd; omega)))); (intro hd; clear hd)))
  refine aw_loop (fun m s => ∃ k, k ≤ row.length ∧ m = row.length - k ∧ s = ⟨[(1, .d (colsD cols)), (19, .d (valsD row)), (20, .d (iD row.length)), (21, .d (iD k))], []⟩) _ _ ?_ ⟨0, by omega, rfl, rfl⟩ ?_
  · refine forget_of [] (by repeat' (first | exact ks_nil | (refine ks_cons rfl (by exact SubA.refl _) ?_))) (by repeat' exact trivial) rfl (by repeat' (first | exact trivial | refine And.intro ?_ ?_)) (by repeat' (first | exact trivial | refine And.intro ?_ ?_))
  · rintro m s ⟨k, hk, rfl, rfl⟩
    repeat (first | (with_reducible first | apply aw_seq | apply aw_reg | apply rp_nil | apply ae_norm) | ((with_reducible apply rp); ((with_reducible apply does_lt); exact rfl; exact rfl)))
    refine aw_cond rfl (fun hd => ?_) (fun hd => ?_)
    · have hlt : k < row.length := by simp at hd; omega
      clear hd
      obtain ⟨v, hv⟩ : ∃ v, row[k]? = some v := ⟨_, List.getElem?_eq_getElem hlt⟩
      obtain ⟨c, hcc⟩ : ∃ c, cols[k]? = some c := ⟨_, List.getElem?_eq_getElem (by omega)⟩
      have hv2 : (row.map Vl.cs)[k]? = some v.cs := by rw [List.getElem?_map, hv]; rfl
      have hc2 : (cols.map Cl.cs)[k]? = some c.cs := by rw [List.getElem?_map, hcc]; rfl
      obtain ⟨hgd, hfit⟩ := h.fit k v c hv hcc
      have v1 := check_pc v (Nat.le_trans hgd.size (by omega))
      rw [hgd.chk] at v1
      have q1 : (v.k == 0 && !c.null) = false := by
        rw [Bool.and_eq_false_iff]
        rcases hfit with hf | ⟨_, hf⟩
        · have := hc.kind c (List.mem_of_getElem? hcc)
          exact .inl (beq_eq_false_iff_ne.2 (by omega))
        · exact .inr (by rw [hf]; rfl)
      have q2 : (v.k != 0 && v.k != (c.kind : Int)) = false := by
        rw [Bool.and_eq_false_iff]
        rcases hfit with hf | ⟨hf, _⟩
        · exact .inr (by rw [hf]; simp)
        · exact .inl (by rw [hf]; rfl)
      clear hgd hfit c1
      obtain ⟨vk, vn, vb, vt⟩ := v
      obtain ⟨cn, ck, cb⟩ := c
      unfold Vl.cs at *
      unfold Cl.cs at hc2
      dsimp only at *
      repeat (first | (with_reducible first | apply aw_seq | apply aw_reg | apply rp_nil | apply ae_norm | apply aw_block | apply aw_skip) | ((with_reducible apply rp); first | ((with_reducible apply does_call_flat); exact rfl; exact rfl; exact (v1); exact rfl) | ((with_reducible apply does_move); (conv => lhs; whnf)) | ((with_reducible apply does_assign); (conv => lhs; whnf)) | ((with_reducible apply does_load_row); exact tyOk rfl; exact rfl; exact rfl; exact rfl; exact Nat.le_of_ble_eq_true rfl; exact rfl) | ((with_reducible apply does_load_elem_whole); exact tyOk rfl; exact rfl; exact rfl; assumption; exact rfl) | ((with_reducible apply does_index_sl); exact tyOk rfl; exact rfl; exact tyOk rfl; exact rfl; exact rfl; exact rfl; exact rfl; (simp only [List.length_map, List.length_append, List.length_cons, List.length_nil] at *; omega)) | ((with_reducible apply does_ne); exact rfl; exact rfl)) | ((with_reducible apply rp1); ((with_reducible apply does_alloc); exact tyOk rfl; exact rfl)) | ((with_reducible apply rpN); ((with_reducible apply does_store_whole); exact tyOk rfl; exact rfl; exact rfl; exact rfl; exact rfl; exact rfl)))
      refine aw_cond rfl (fun hd => absurd hd (by decide)) (fun _ => ?_)
      repeat (first | (with_reducible first | apply aw_seq | apply aw_reg | apply rp_nil | apply ae_norm | apply aw_block | apply aw_skip) | ((first | (with_reducible apply rp) | ((with_reducible apply rpG); exact rfl; exact gval_t rfl; (focus repeat' (first | exact trivial | exact fun h => h | refine And.intro ?_ ?_)); intro hgd; have hgd0 := hgd; (try simp only [decide_eq_true_eq, Bool.and_eq_true, Bool.not_eq_true', beq_iff_eq] at hgd))); first | ((with_reducible apply does_move); (conv => lhs; whnf)) | ((with_reducible apply does_assign); (conv => lhs; whnf)) | ((with_reducible apply does_and); exact rfl; exact rfl; exact rfl; exact fun h => h) | ((with_reducible apply does_fieldAddr); exact tyOk rfl; exact rfl; exact rfl; decide; exact rfl) | ((with_reducible apply does_load_var); exact tyOk rfl; exact rfl; exact rfl; exact rfl; exact rfl) | ((with_reducible apply does_load_elem); exact tyOk rfl; exact rfl; exact rfl; assumption; exact rfl) | ((with_reducible apply does_index_sl); exact tyOk rfl; exact rfl; exact tyOk rfl; exact rfl; exact rfl; exact rfl; exact rfl; (simp only [List.length_map, List.length_append, List.length_cons, List.length_nil] at *; omega)) | ((with_reducible apply does_eq); exact rfl; exact rfl) | ((with_reducible apply does_not); exact rfl)))
      refine aw_cond rfl (fun hd => absurd (q1.symm.trans hd) (by decide)) (fun hd => ?_)
      clear hd
      repeat (first | (with_reducible first | apply aw_seq | apply ae_norm | apply aw_regD) | ((with_reducible apply dr_nil); (first | kernel_rfl | exact rfl)) | ((first | (with_reducible apply dr) | ((with_reducible apply drG); exact rfl; exact gval_t rfl; (focus repeat' (first | exact trivial | exact fun h => h | refine And.intro ?_ ?_)); intro hgd; have hgd0 := hgd; (try simp only [decide_eq_true_eq, Bool.and_eq_true, Bool.not_eq_true', beq_iff_eq] at hgd))); first | ((with_reducible apply does_move); (conv => lhs; whnf)) | ((with_reducible apply does_assign); (conv => lhs; whnf)) | ((with_reducible apply does_and); exact rfl; exact rfl; exact rfl; exact fun h => h) | ((with_reducible apply does_fieldAddr); exact tyOk rfl; exact rfl; exact rfl; decide; exact rfl) | ((with_reducible apply does_load_var); exact tyOk rfl; exact rfl; exact rfl; exact rfl; exact rfl) | ((with_reducible apply does_load_elem); exact tyOk rfl; exact rfl; exact rfl; assumption; exact rfl) | ((with_reducible apply does_index_sl); exact tyOk rfl; exact rfl; exact tyOk rfl; exact rfl; exact rfl; exact rfl; exact rfl; (simp only [List.length_map, List.length_append, List.length_cons, List.length_nil] at *; omega)) | ((with_reducible apply does_ne); exact rfl; exact rfl)))
      refine aw_cond rfl (fun hd => absurd (q2.symm.trans hd) (by decide)) (fun hd => ?_)
      clear hd
      repeat (first | (with_reducible first | apply aw_reg | apply rp_nil | apply ae_norm | apply be_norm | apply aw_skip) | ((with_reducible apply rp); first | ((with_reducible apply does_move); (conv => lhs; whnf)) | ((with_reducible apply does_add); exact rfl; exact rfl; omega; omega)))
      refine ⟨_, _, ?_, ?_, k + 1, by omega, rfl, rfl⟩
      · omega
      · refine forget_of [] (by repeat' (first | exact ks_nil | (refine ks_cons rfl (by exact SubA.refl _) ?_))) (by repeat' exact trivial) rfl (by repeat' (first | exact trivial | refine And.intro ?_ ?_)) (by repeat' (first | exact trivial | refine And.intro ?_ ?_))
    · have hke : k = row.length := by simp at hd; omega
      clear hd
      subst hke
      repeat (first | (with_reducible first | apply aw_seq | apply aw_reg | apply rp_nil | apply ae_norm | apply aw_exit | apply ae_exit | apply be_exit | apply aw_ret | apply re_ret) | ((with_reducible apply rp); ((with_reducible apply does_assign); (conv => lhs; whnf))))
      (with_reducible apply ret_ok); (focus (repeat' (first | (with_reducible apply rv_nil) | (with_reducible apply rv_cons) | ((with_reducible apply rv_tmp); exact rfl)))); exact rfl; refine SubD.of_eq ?_
      rfl
theorem kRow_pc (row : List Vl) (cols : List Cl) (hc : ColsOk cols) (h : FitR row cols) : PC Tryd.prog 23 [valsD row, colsD cols] (iD 0) := by
  have c1 := fits_row_pc row cols hc h
  refine pc_of_aw Tryd.func23 rfl (by kernel_rfl) mixed (by kernel_rfl) (by rw [Tryd.ntmps23]; exact Nat.le_of_ble_eq_true rfl) Tryd.results23 ?_
  repeat (first | (with_reducible first | apply aw_seq | apply aw_reg | apply rp_nil | apply ae_norm | apply aw_ret | apply re_ret) | ((with_reducible apply rp); first | ((with_reducible apply does_call_flat); exact rfl; exact rfl; exact (c1); exact rfl) | ((with_reducible apply does_move); (conv => lhs; whnf)) | ((with_reducible apply does_assign); (conv => lhs; whnf))))
  (with_reducible apply ret_ok); (focus (repeat' (first | (with_reducible apply rv_nil) | (with_reducible apply rv_cons) | ((with_reducible apply rv_tmp); exact rfl)))); exact rfl; refine SubD.of_eq ?_
  rfl
end Go.Proofs.YtfplkakfakdfhaaDoor


/-
  Values by name.
-/
namespace Go.Proofs.YtfplkakfakdfhaaDoor
abbrev nullV : Vl := ⟨0, 0, 0, .empty⟩
abbrev numV (n : Int) : Vl := ⟨2, n, 0, .empty⟩
abbrev txtV (t : ByteArray) : Vl := ⟨4, 0, 0, t⟩
end Go.Proofs.YtfplkakfakdfhaaDoor


/-
  chirographkeep's heap of raw things: row. No condition but the sizes.
-/
namespace Go.Proofs.YtfplkakfakdfhaaDoor
set_option linter.unusedSimpArgs false
set_option linter.unusedVariables false
open Go.RowKit

open Classical in
noncomputable def voF (k : Nat) (r : Raw) : Vl := if h : k ≤ 4 then Classical.choose (valOf_pc k h r) else nullV
theorem voF_ok {k : Nat} (h : k ≤ 4) (r : Raw) : Gd (voF k r) ∧ (voF k r).k = k ∧ PC Tryd.prog 21 [iD k, .ag r.cs] (.ag (voF k r).cs) := by
  unfold voF
  rw [dif_pos h]
  exact Classical.choose_spec (valOf_pc k h r)
noncomputable def cellF (key : Int) (i : Nat) (c : Cl) (r : Raw) : Vl := if i = 0 then numV key else if c.null = true ∧ r.b % 4 = 0 then nullV else if c.kind = 2 then numV (r.a % 40 - 10) else voF c.kind r
noncomputable def rowF (l : List Raw) (n : Nat) (key : Int) : Nat → List Cl → List Vl
  | _, [] => []
  | i, c :: cs => cellF key i c (nextF l (n + i)) :: rowF l n key (i + 1) cs
theorem rowF_len (l : List Raw) (n : Nat) (key : Int) : ∀ (i : Nat) (cs : List Cl), (rowF l n key i cs).length = cs.length
  | _, [] => rfl
  | i, c :: cs => by rw [rowF, List.length_cons, List.length_cons, rowF_len l n key (i + 1) cs]
theorem rowF_get (l : List Raw) (n : Nat) (key : Int) : ∀ (i : Nat) (cs : List Cl) (k : Nat), (rowF l n key i cs)[k]? = (cs[k]?).map fun c => cellF key (i + k) c (nextF l (n + (i + k)))
  | _, [], k => by simp [rowF]
  | i, c :: cs, 0 => rfl
  | i, c :: cs, k + 1 => by
    rw [rowF, List.getElem?_cons_succ, rowF_get l n key (i + 1) cs k, List.getElem?_cons_succ, show i + 1 + k = i + (k + 1) by omega]
theorem rowF_take (l : List Raw) (n : Nat) (key : Int) {cs : List Cl} {k : Nat} {c : Cl} (h : cs[k]? = some c) : rowF l n key 0 (cs.take (k + 1)) = rowF l n key 0 (cs.take k) ++ [cellF key k c (nextF l (n + k))] := by
  have hk := (List.getElem?_eq_some_iff.1 h).1
  apply List.ext_getElem?
  intro j
  rw [rowF_get, List.getElem?_take]
  by_cases hj : j < k
  · rw [if_pos (by omega), List.getElem?_append_left (by rw [rowF_len, List.length_take]; omega), rowF_get, List.getElem?_take, if_pos hj]
  · by_cases hj2 : j = k
    · subst hj2
      rw [if_pos (by omega), h, List.getElem?_append_right (by rw [rowF_len, List.length_take]; omega), rowF_len, List.length_take, show j - min j cs.length = 0 by omega, Nat.zero_add]
      rfl
    · rw [if_neg (by omega), List.getElem?_eq_none (by rw [List.length_append, rowF_len, List.length_take, List.length_singleton]; omega)]
      rfl
theorem cellF_fit (key : Int) {i : Nat} {c : Cl} (r : Raw) (h4 : c.kind ≤ 4) (h0 : i = 0 → c.kind = 2) : FitC (cellF key i c r) c := by
  unfold cellF
  by_cases hi : i = 0
  · rw [if_pos hi]
    exact ⟨.int _, .inl (by rw [h0 hi]; rfl)⟩
  · rw [if_neg hi]
    by_cases hn : c.null = true ∧ r.b % 4 = 0
    · rw [if_pos hn]
      exact ⟨.null, .inr ⟨rfl, hn.1⟩⟩
    · rw [if_neg hn]
      by_cases hk : c.kind = 2
      · rw [if_pos hk]
        exact ⟨.int _, .inl (by rw [hk]; rfl)⟩
      · rw [if_neg hk]
        obtain ⟨h1, h2, _⟩ := voF_ok h4 r
        exact ⟨h1, .inl h2⟩
theorem rowF_fit (l : List Raw) (n : Nat) (key : Int) {cols : List Cl} (hc : ColsOk cols) (h0 : ∀ c, cols[0]? = some c → c.kind = 2) : FitR (rowF l n key 0 cols) cols := by
  refine ⟨rowF_len l n key 0 cols, fun i v c hv hcc => ?_⟩
  rw [rowF_get, hcc] at hv
  simp only [Option.map_some, Option.some.injEq] at hv
  subst hv
  rw [Nat.zero_add]
  exact cellF_fit key _ (hc.kind c (List.mem_of_getElem? hcc)).2 fun hi => by subst hi; exact h0 c hcc
set_option maxHeartbeats 2000000 in
theorem row_px (l : List Raw) (n : Nat) (cols : List Cl) (hl5 : cols.length ≤ 5) (hk4 : ∀ c ∈ cols, c.kind ≤ 4) (key : Int) (hn : n ≤ 1000000) : PX Tryd.prog 12 [.px 1000 0, .d (iD key)] [hpB l n cols] [] (valsD (rowF l n key 0 cols)) [hpB l (n + cols.length) cols] [] := by
  unfold hpB
  refine pxf_of_aw Tryd.func12 rfl (by kernel_rfl) mixed (by kernel_rfl) (by rw [Tryd.ntmps12]; exact Nat.le_of_ble_eq_true rfl) Tryd.results12 rfl ?_
  repeat (first | (with_reducible first | apply aw_seq | apply aw_reg | apply rp_nil | apply ae_norm | apply aw_block) | ((with_reducible apply rp); first | ((with_reducible apply does_move); (conv => lhs; whnf)) | ((with_reducible apply does_assign); (conv => lhs; whnf)) | ((with_reducible apply does_fieldAddr); exact tyOk rfl; exact rfl; exact rfl; decide; exact rfl) | ((with_reducible apply does_load_var); exact tyOk rfl; exact rfl; exact rfl; exact rfl; exact rfl) | ((with_reducible apply does_len_map); exact tyOk rfl; exact rfl; exact rfl) | ((with_reducible apply does_nilCheck); exact rfl)))
  refine aw_loop (fun m s => ∃ k, k ≤ cols.length ∧ m = cols.length - k ∧ s = ⟨[(0, .px 1000 0), (1, .d (iD key)), (5, .ow 2000 k), (12, .d (colsD cols)), (13, .d (iD cols.length)), (14, .d (iD k))], [(1000, .var 40 [.d (rawsD l), .d (iD (n + k : Nat)), .d (colsD cols)]), (2000, .row 30 4 ((rowF l n key 0 (cols.take k)).map Vl.cs))]⟩) _ _ ?_ ⟨0, by omega, rfl, rfl⟩ ?_
  · refine Ent.trans (ent_nil 5 2000 30 4 rfl rfl) ?_
    refine forget_of [] (by repeat' (first | exact ks_nil | (refine ks_cons rfl (by exact SubA.refl _) ?_))) (by repeat' (first | exact trivial | exact rfl | refine And.intro ?_ ?_)) rfl (by repeat' (first | exact trivial | exact inB_ow rfl | exact inB_px rfl | refine And.intro ?_ ?_)) (by repeat' (first | exact trivial | exact inB_ow rfl | exact inB_px rfl | refine And.intro ?_ ?_))
  · rintro m s ⟨k, hk, rfl, rfl⟩
    repeat (first | (with_reducible first | apply aw_seq | apply aw_reg | apply rp_nil | apply ae_norm) | ((with_reducible apply rp); ((with_reducible apply does_lt); exact rfl; exact rfl)))
    refine aw_cond rfl (fun hd => ?_) (fun hd => ?_)
    · have hlt : k < cols.length := by simp at hd; omega
      clear hd
      obtain ⟨c, hcc⟩ : ∃ c, cols[k]? = some c := ⟨_, List.getElem?_eq_getElem hlt⟩
      have hc2 : (cols.map Cl.cs)[k]? = some c.cs := by rw [List.getElem?_map, hcc]; rfl
      have h4 := hk4 c (List.mem_of_getElem? hcc)
      have n1 := next_px l (n + k) cols (by omega)
      have e1 : (rowF l n key 0 (cols.take (k + 1))).map Vl.cs = (rowF l n key 0 (cols.take k)).map Vl.cs ++ [(cellF key k c (nextF l (n + k))).cs] := by rw [rowF_take l n key hcc, List.map_append]; rfl
      have l1 : ((rowF l n key 0 (cols.take k)).map Vl.cs).length = k := by rw [List.length_map, rowF_len, List.length_take]; omega
      generalize (rowF l n key 0 (cols.take k)).map Vl.cs = o at *
      unfold hpB at n1
      generalize nextF l (n + k) = r at *
      obtain ⟨_, _, v1⟩ := voF_ok h4 r
      have p4 := picked_pc r.b 4 (by omega) (by omega)
      have p40 := picked_pc r.a 40 (by omega) (by omega)
      unfold cellF at e1
      by_cases h0 : k = 0
      · rw [if_pos h0] at e1
        have hk0 : ((k : Int) == 0) = true := by rw [h0]; rfl
        clear v1 p4 p40
        obtain ⟨rk, ra, rb, rt⟩ := r
        obtain ⟨cn, ck, cb⟩ := c
        unfold Raw.cs Cl.cs at *
        dsimp only at *
        repeat (first | (with_reducible first | apply aw_seq | apply aw_reg | apply rp_nil | apply ae_norm | apply aw_block | apply aw_skip) | ((with_reducible apply rp); first | ((with_reducible apply does_move); (conv => lhs; whnf)) | ((with_reducible apply does_assign); (conv => lhs; whnf)) | ((with_reducible apply does_load_elem_whole); exact tyOk rfl; exact rfl; exact rfl; assumption; exact rfl) | ((with_reducible apply does_index_sl); exact tyOk rfl; exact rfl; exact tyOk rfl; exact rfl; exact rfl; exact rfl; exact rfl; (simp only [List.length_map, List.length_append, List.length_cons, List.length_nil] at *; omega)) | ((with_reducible apply does_eq); exact rfl; exact rfl)) | ((with_reducible apply rp1); ((with_reducible apply does_alloc); exact tyOk rfl; exact rfl)) | ((with_reducible apply rpN); ((with_reducible apply does_store_whole); exact tyOk rfl; exact rfl; exact rfl; exact rfl; exact rfl; exact rfl)) | ((with_reducible apply rpL); (refine does_callX [] [] (ups := [(1000, .var 40 [.d (rawsD l), .d (iD (n + k + 1 : Nat)), .d (colsD cols)])]) rfl (n1) rfl ?_ rfl ?_ ?_ rfl rfl rfl rfl rfl ?_ rfl rfl; (focus repeat' (first | exact trivial | exact rfl | refine And.intro ?_ ?_)); (focus repeat' (first | exact trivial | exact inB_px rfl | refine And.intro ?_ ?_)); (focus repeat' (first | exact trivial | exact inB_px rfl | refine And.intro ?_ ?_)); (focus repeat' (first | exact trivial | exact inB_px rfl | refine And.intro ?_ ?_))); exact lapp_nil _))
        refine aw_cond rfl (fun _ => ?_) (fun hd => absurd (hk0.symm.trans hd) (by decide))
        repeat (first | (with_reducible first | apply aw_reg | apply rp_nil | apply ae_norm | apply be_norm) | ((with_reducible apply rp); first | ((with_reducible apply does_move); (conv => lhs; whnf)) | ((with_reducible apply does_assign); (conv => lhs; whnf)) | ((with_reducible apply does_add); exact rfl; exact rfl; omega; omega) | ((with_reducible apply does_build); exact tyOk rfl; exact rfl; exact rfl; (focus repeat' (first | exact rfl | refine ⟨_, _, rfl, rfl, Nat.le_of_ble_eq_true rfl, rfl, ?_⟩)); exact rfl)) | ((with_reducible apply rp1); ((with_reducible apply does_buildSlice); exact tyOk rfl; exact rfl; exact tyOk rfl; exact rfl; exact rfl; (focus repeat' (first | exact trivial | refine And.intro rfl (And.intro rfl ?_))); decide; decide; exact rfl)) | ((with_reducible apply rp2); ((with_reducible apply does_append_own); exact tyOk rfl; exact rfl; exact tyOk rfl; exact rfl; exact rfl; exact rfl; decide; (first | (dsimp only; simp only [List.length_map, List.length_append, List.length_cons, List.length_nil] at *; omega) | (simp only [List.length_map, List.length_append, List.length_cons, List.length_nil] at *; omega)); (first | (dsimp only; simp only [List.length_map, List.length_append, List.length_cons, List.length_nil] at *; omega) | (simp only [List.length_map, List.length_append, List.length_cons, List.length_nil] at *; omega)); exact rfl)))
        refine ⟨_, _, ?_, ?_, k + 1, by omega, rfl, rfl⟩
        · omega
        · rw [e1]
          refine forget_of [(2000, 35)] (by repeat' (first | exact ks_nil | (refine ks_cons rfl (by (first | exact SubA.refl _ | exact subA_ow (by (simp; omega)))) ?_))) ?_ rfl (by repeat' (first | exact trivial | exact inB_ow rfl | exact inB_px rfl | refine And.intro ?_ ?_)) (by repeat' (first | exact trivial | exact inB_ow rfl | exact inB_px rfl | refine And.intro ?_ ?_))
          exact kb_cons rfl rfl (kb_cons rfl (row_eq rfl) kb_nil)
      · rw [if_neg h0] at e1
        have hk0 : ((k : Int) == 0) = false := beq_eq_false_iff_ne.2 (by omega)
        by_cases hn : c.null = true ∧ r.b % 4 = 0
        · rw [if_pos hn] at e1
          have hq : (c.null && (r.b % ((4 : Nat) : Int) == 0)) = true := by
            rw [Bool.and_eq_true, beq_iff_eq]; exact ⟨hn.1, hn.2⟩
          clear v1 p40 hn
          obtain ⟨rk, ra, rb, rt⟩ := r
          obtain ⟨cn, ck, cb⟩ := c
          unfold Raw.cs Cl.cs at *
          dsimp only at *
          repeat (first | (with_reducible first | apply aw_seq | apply aw_reg | apply rp_nil | apply ae_norm | apply aw_block | apply aw_skip) | ((with_reducible apply rp); first | ((with_reducible apply does_move); (conv => lhs; whnf)) | ((with_reducible apply does_assign); (conv => lhs; whnf)) | ((with_reducible apply does_load_elem_whole); exact tyOk rfl; exact rfl; exact rfl; assumption; exact rfl) | ((with_reducible apply does_index_sl); exact tyOk rfl; exact rfl; exact tyOk rfl; exact rfl; exact rfl; exact rfl; exact rfl; (simp only [List.length_map, List.length_append, List.length_cons, List.length_nil] at *; omega)) | ((with_reducible apply does_eq); exact rfl; exact rfl)) | ((with_reducible apply rp1); ((with_reducible apply does_alloc); exact tyOk rfl; exact rfl)) | ((with_reducible apply rpN); ((with_reducible apply does_store_whole); exact tyOk rfl; exact rfl; exact rfl; exact rfl; exact rfl; exact rfl)) | ((with_reducible apply rpL); (refine does_callX [] [] (ups := [(1000, .var 40 [.d (rawsD l), .d (iD (n + k + 1 : Nat)), .d (colsD cols)])]) rfl (n1) rfl ?_ rfl ?_ ?_ rfl rfl rfl rfl rfl ?_ rfl rfl; (focus repeat' (first | exact trivial | exact rfl | refine And.intro ?_ ?_)); (focus repeat' (first | exact trivial | exact inB_px rfl | refine And.intro ?_ ?_)); (focus repeat' (first | exact trivial | exact inB_px rfl | refine And.intro ?_ ?_)); (focus repeat' (first | exact trivial | exact inB_px rfl | refine And.intro ?_ ?_))); exact lapp_nil _))
          refine aw_cond rfl (fun hd => absurd (hk0.symm.trans hd) (by decide)) (fun hd => ?_)
          clear hd
          repeat (first | (with_reducible first | apply aw_seq | apply aw_reg | apply rp_nil | apply ae_norm) | ((first | (with_reducible apply rp) | ((with_reducible apply rpG); exact rfl; exact gval_t rfl; (focus repeat' (first | exact trivial | exact fun h => h | refine And.intro ?_ ?_)); intro hgd; have hgd0 := hgd; (try simp only [decide_eq_true_eq, Bool.and_eq_true, Bool.not_eq_true', beq_iff_eq] at hgd))); first | ((with_reducible apply does_call_flat); exact rfl; exact rfl; exact (p4); exact rfl) | ((with_reducible apply does_move); (conv => lhs; whnf)) | ((with_reducible apply does_assign); (conv => lhs; whnf)) | ((with_reducible apply does_and); exact rfl; exact rfl; exact rfl; exact fun h => h) | ((with_reducible apply does_fieldAddr); exact tyOk rfl; exact rfl; exact rfl; decide; exact rfl) | ((with_reducible apply does_load_var); exact tyOk rfl; exact rfl; exact rfl; exact rfl; exact rfl) | ((with_reducible apply does_eq); exact rfl; exact rfl)))
          refine aw_cond rfl (fun _ => ?_) (fun hd => absurd (hq.symm.trans hd) (by decide))
          repeat (first | (with_reducible first | apply aw_reg | apply rp_nil | apply ae_norm | apply be_norm) | ((with_reducible apply rp); first | ((with_reducible apply does_move); (conv => lhs; whnf)) | ((with_reducible apply does_assign); (conv => lhs; whnf)) | ((with_reducible apply does_add); exact rfl; exact rfl; omega; omega) | ((with_reducible apply does_zeroS); exact tyOk rfl; exact rfl; exact rfl)) | ((with_reducible apply rp1); ((with_reducible apply does_buildSlice); exact tyOk rfl; exact rfl; exact tyOk rfl; exact rfl; exact rfl; (focus repeat' (first | exact trivial | refine And.intro rfl (And.intro rfl ?_))); decide; decide; exact rfl)) | ((with_reducible apply rp2); ((with_reducible apply does_append_own); exact tyOk rfl; exact rfl; exact tyOk rfl; exact rfl; exact rfl; exact rfl; decide; (dsimp only; simp only [List.length_map, List.length_append, List.length_cons, List.length_nil] at *; omega); (dsimp only; simp only [List.length_map, List.length_append, List.length_cons, List.length_nil] at *; omega); exact rfl)))
          refine ⟨_, _, ?_, ?_, k + 1, by omega, rfl, rfl⟩
          · omega
          · rw [e1]
            refine forget_of [(2000, 48)] (by repeat' (first | exact ks_nil | (refine ks_cons rfl (by (first | exact SubA.refl _ | exact subA_ow (by (simp; omega)))) ?_))) ?_ rfl (by repeat' (first | exact trivial | exact inB_ow rfl | exact inB_px rfl | refine And.intro ?_ ?_)) (by repeat' (first | exact trivial | exact inB_ow rfl | exact inB_px rfl | refine And.intro ?_ ?_))
            exact kb_cons rfl rfl (kb_cons rfl (row_eq rfl) kb_nil)
        · rw [if_neg hn] at e1
          have hq : (c.null && (r.b % ((4 : Nat) : Int) == 0)) = false := by
            rw [Bool.and_eq_false_iff]
            by_cases hb : c.null = true
            · exact .inr (beq_eq_false_iff_ne.2 fun h => hn ⟨hb, h⟩)
            · exact .inl (eq_false_of_ne_true hb)
          clear hn
          by_cases hk2 : c.kind = 2
          · rw [if_pos hk2] at e1
            have hq2 : ((c.kind : Int) == 2) = true := by rw [hk2]; rfl
            obtain ⟨u, hu⟩ : ∃ u : Nat, r.a % ((40 : Nat) : Int) = u := ⟨(r.a % 40).toNat, by omega⟩
            have hu2 : r.a % 40 - 10 = (u : Int) - 10 := by have : r.a % 40 = (u : Int) := hu; omega
            have hu3 : u < 40 := by omega
            rw [hu] at p40
            rw [hu2] at e1
            clear v1
            obtain ⟨rk, ra, rb, rt⟩ := r
            obtain ⟨cn, ck, cb⟩ := c
            unfold Raw.cs Cl.cs at *
            dsimp only at *
            repeat (first | (with_reducible first | apply aw_seq | apply aw_reg | apply rp_nil | apply ae_norm | apply aw_block | apply aw_skip) | ((with_reducible apply rp); first | ((with_reducible apply does_move); (conv => lhs; whnf)) | ((with_reducible apply does_assign); (conv => lhs; whnf)) | ((with_reducible apply does_load_elem_whole); exact tyOk rfl; exact rfl; exact rfl; assumption; exact rfl) | ((with_reducible apply does_index_sl); exact tyOk rfl; exact rfl; exact tyOk rfl; exact rfl; exact rfl; exact rfl; exact rfl; (simp only [List.length_map, List.length_append, List.length_cons, List.length_nil] at *; omega)) | ((with_reducible apply does_eq); exact rfl; exact rfl)) | ((with_reducible apply rp1); ((with_reducible apply does_alloc); exact tyOk rfl; exact rfl)) | ((with_reducible apply rpN); ((with_reducible apply does_store_whole); exact tyOk rfl; exact rfl; exact rfl; exact rfl; exact rfl; exact rfl)) | ((with_reducible apply rpL); (refine does_callX [] [] (ups := [(1000, .var 40 [.d (rawsD l), .d (iD (n + k + 1 : Nat)), .d (colsD cols)])]) rfl (n1) rfl ?_ rfl ?_ ?_ rfl rfl rfl rfl rfl ?_ rfl rfl; (focus repeat' (first | exact trivial | exact rfl | refine And.intro ?_ ?_)); (focus repeat' (first | exact trivial | exact inB_px rfl | refine And.intro ?_ ?_)); (focus repeat' (first | exact trivial | exact inB_px rfl | refine And.intro ?_ ?_)); (focus repeat' (first | exact trivial | exact inB_px rfl | refine And.intro ?_ ?_))); exact lapp_nil _))
            refine aw_cond rfl (fun hd => absurd (hk0.symm.trans hd) (by decide)) (fun hd => ?_)
            clear hd
            repeat (first | (with_reducible first | apply aw_seq | apply aw_reg | apply rp_nil | apply ae_norm) | ((first | (with_reducible apply rp) | ((with_reducible apply rpG); exact rfl; exact gval_t rfl; (focus repeat' (first | exact trivial | exact fun h => h | refine And.intro ?_ ?_)); intro hgd; have hgd0 := hgd; (try simp only [decide_eq_true_eq, Bool.and_eq_true, Bool.not_eq_true', beq_iff_eq] at hgd))); first | ((with_reducible apply does_call_flat); exact rfl; exact rfl; exact (p4); exact rfl) | ((with_reducible apply does_move); (conv => lhs; whnf)) | ((with_reducible apply does_assign); (conv => lhs; whnf)) | ((with_reducible apply does_and); exact rfl; exact rfl; exact rfl; exact fun h => h) | ((with_reducible apply does_fieldAddr); exact tyOk rfl; exact rfl; exact rfl; decide; exact rfl) | ((with_reducible apply does_load_var); exact tyOk rfl; exact rfl; exact rfl; exact rfl; exact rfl) | ((with_reducible apply does_eq); exact rfl; exact rfl)))
            refine aw_cond rfl (fun hd => absurd (hq.symm.trans hd) (by decide)) (fun hd => ?_)
            clear hd
            repeat (first | (with_reducible first | apply aw_seq | apply aw_reg | apply rp_nil | apply ae_norm) | ((with_reducible apply rp); first | ((with_reducible apply does_assign); (conv => lhs; whnf)) | ((with_reducible apply does_fieldAddr); exact tyOk rfl; exact rfl; exact rfl; decide; exact rfl) | ((with_reducible apply does_load_var); exact tyOk rfl; exact rfl; exact rfl; exact rfl; exact rfl) | ((with_reducible apply does_eq); exact rfl; exact rfl)))
            refine aw_cond rfl (fun _ => ?_) (fun hd => absurd (hq2.symm.trans hd) (by decide))
            repeat (first | (with_reducible first | apply aw_reg | apply rp_nil | apply ae_norm | apply be_norm) | ((with_reducible apply rp); first | ((with_reducible apply does_call_flat); exact rfl; exact rfl; exact (p40); exact rfl) | ((with_reducible apply does_move); (conv => lhs; whnf)) | ((with_reducible apply does_assign); (conv => lhs; whnf)) | ((with_reducible apply does_fieldAddr); exact tyOk rfl; exact rfl; exact rfl; decide; exact rfl) | ((with_reducible apply does_load_var); exact tyOk rfl; exact rfl; exact rfl; exact rfl; exact rfl) | ((with_reducible apply does_add); exact rfl; exact rfl; omega; omega) | ((with_reducible apply does_sub); exact rfl; exact rfl; omega; omega) | ((with_reducible apply does_build); exact tyOk rfl; exact rfl; exact rfl; (focus repeat' (first | exact rfl | refine ⟨_, _, rfl, rfl, Nat.le_of_ble_eq_true rfl, rfl, ?_⟩)); exact rfl)) | ((with_reducible apply rp1); ((with_reducible apply does_buildSlice); exact tyOk rfl; exact rfl; exact tyOk rfl; exact rfl; exact rfl; (focus repeat' (first | exact trivial | refine And.intro rfl (And.intro rfl ?_))); decide; decide; exact rfl)) | ((with_reducible apply rp2); ((with_reducible apply does_append_own); exact tyOk rfl; exact rfl; exact tyOk rfl; exact rfl; exact rfl; exact rfl; decide; (first | (dsimp only; simp only [List.length_map, List.length_append, List.length_cons, List.length_nil] at *; omega) | (simp only [List.length_map, List.length_append, List.length_cons, List.length_nil] at *; omega)); (first | (dsimp only; simp only [List.length_map, List.length_append, List.length_cons, List.length_nil] at *; omega) | (simp only [List.length_map, List.length_append, List.length_cons, List.length_nil] at *; omega)); exact rfl)))
            refine ⟨_, _, ?_, ?_, k + 1, by omega, rfl, rfl⟩
            · omega
            · rw [e1]
              refine forget_of [(2000, 60)] (by repeat' (first | exact ks_nil | (refine ks_cons rfl (by (first | exact SubA.refl _ | exact subA_ow (by (simp; omega)))) ?_))) ?_ rfl (by repeat' (first | exact trivial | exact inB_ow rfl | exact inB_px rfl | refine And.intro ?_ ?_)) (by repeat' (first | exact trivial | exact inB_ow rfl | exact inB_px rfl | refine And.intro ?_ ?_))
              exact kb_cons rfl rfl (kb_cons rfl (row_eq rfl) kb_nil)
          · rw [if_neg hk2] at e1
            have hq2 : ((c.kind : Int) == 2) = false := beq_eq_false_iff_ne.2 (by omega)
            generalize voF c.kind r = v at *
            obtain ⟨vk, vn, vb, vt⟩ := v
            obtain ⟨rk, ra, rb, rt⟩ := r
            obtain ⟨cn, ck, cb⟩ := c
            unfold Raw.cs Cl.cs Vl.cs at *
            dsimp only at *
            repeat (first | (with_reducible first | apply aw_seq | apply aw_reg | apply rp_nil | apply ae_norm | apply aw_block | apply aw_skip) | ((with_reducible apply rp); first | ((with_reducible apply does_move); (conv => lhs; whnf)) | ((with_reducible apply does_assign); (conv => lhs; whnf)) | ((with_reducible apply does_load_elem_whole); exact tyOk rfl; exact rfl; exact rfl; assumption; exact rfl) | ((with_reducible apply does_index_sl); exact tyOk rfl; exact rfl; exact tyOk rfl; exact rfl; exact rfl; exact rfl; exact rfl; (simp only [List.length_map, List.length_append, List.length_cons, List.length_nil] at *; omega)) | ((with_reducible apply does_eq); exact rfl; exact rfl)) | ((with_reducible apply rp1); ((with_reducible apply does_alloc); exact tyOk rfl; exact rfl)) | ((with_reducible apply rpN); ((with_reducible apply does_store_whole); exact tyOk rfl; exact rfl; exact rfl; exact rfl; exact rfl; exact rfl)) | ((with_reducible apply rpL); (refine does_callX [] [] (ups := [(1000, .var 40 [.d (rawsD l), .d (iD (n + k + 1 : Nat)), .d (colsD cols)])]) rfl (n1) rfl ?_ rfl ?_ ?_ rfl rfl rfl rfl rfl ?_ rfl rfl; (focus repeat' (first | exact trivial | exact rfl | refine And.intro ?_ ?_)); (focus repeat' (first | exact trivial | exact inB_px rfl | refine And.intro ?_ ?_)); (focus repeat' (first | exact trivial | exact inB_px rfl | refine And.intro ?_ ?_)); (focus repeat' (first | exact trivial | exact inB_px rfl | refine And.intro ?_ ?_))); exact lapp_nil _))
            refine aw_cond rfl (fun hd => absurd (hk0.symm.trans hd) (by decide)) (fun hd => ?_)
            clear hd
            repeat (first | (with_reducible first | apply aw_seq | apply aw_reg | apply rp_nil | apply ae_norm) | ((first | (with_reducible apply rp) | ((with_reducible apply rpG); exact rfl; exact gval_t rfl; (focus repeat' (first | exact trivial | exact fun h => h | refine And.intro ?_ ?_)); intro hgd; have hgd0 := hgd; (try simp only [decide_eq_true_eq, Bool.and_eq_true, Bool.not_eq_true', beq_iff_eq] at hgd))); first | ((with_reducible apply does_call_flat); exact rfl; exact rfl; exact (p4); exact rfl) | ((with_reducible apply does_move); (conv => lhs; whnf)) | ((with_reducible apply does_assign); (conv => lhs; whnf)) | ((with_reducible apply does_and); exact rfl; exact rfl; exact rfl; exact fun h => h) | ((with_reducible apply does_fieldAddr); exact tyOk rfl; exact rfl; exact rfl; decide; exact rfl) | ((with_reducible apply does_load_var); exact tyOk rfl; exact rfl; exact rfl; exact rfl; exact rfl) | ((with_reducible apply does_eq); exact rfl; exact rfl)))
            refine aw_cond rfl (fun hd => absurd (hq.symm.trans hd) (by decide)) (fun hd => ?_)
            clear hd
            repeat (first | (with_reducible first | apply aw_seq | apply aw_reg | apply rp_nil | apply ae_norm) | ((with_reducible apply rp); first | ((with_reducible apply does_assign); (conv => lhs; whnf)) | ((with_reducible apply does_fieldAddr); exact tyOk rfl; exact rfl; exact rfl; decide; exact rfl) | ((with_reducible apply does_load_var); exact tyOk rfl; exact rfl; exact rfl; exact rfl; exact rfl) | ((with_reducible apply does_eq); exact rfl; exact rfl)))
            refine aw_cond rfl (fun hd => absurd (hq2.symm.trans hd) (by decide)) (fun hd => ?_)
            clear hd
            repeat (first | (with_reducible first | apply aw_reg | apply rp_nil | apply ae_norm | apply be_norm) | ((with_reducible apply rp); first | ((with_reducible apply does_call_flat); exact rfl; exact rfl; exact (v1); exact rfl) | ((with_reducible apply does_move); (conv => lhs; whnf)) | ((with_reducible apply does_assign); (conv => lhs; whnf)) | ((with_reducible apply does_fieldAddr); exact tyOk rfl; exact rfl; exact rfl; decide; exact rfl) | ((with_reducible apply does_load_var); exact tyOk rfl; exact rfl; exact rfl; exact rfl; exact rfl) | ((with_reducible apply does_load_row); exact tyOk rfl; exact rfl; exact rfl; exact rfl; exact Nat.le_of_ble_eq_true rfl; exact rfl) | ((with_reducible apply does_add); exact rfl; exact rfl; omega; omega)) | ((with_reducible apply rp1); ((with_reducible apply does_buildSlice); exact tyOk rfl; exact rfl; exact tyOk rfl; exact rfl; exact rfl; (focus repeat' (first | exact trivial | refine And.intro rfl (And.intro rfl ?_))); decide; decide; exact rfl)) | ((with_reducible apply rp2); ((with_reducible apply does_append_own); exact tyOk rfl; exact rfl; exact tyOk rfl; exact rfl; exact rfl; exact rfl; decide; (first | (dsimp only; simp only [List.length_map, List.length_append, List.length_cons, List.length_nil] at *; omega) | (simp only [List.length_map, List.length_append, List.length_cons, List.length_nil] at *; omega)); (first | (dsimp only; simp only [List.length_map, List.length_append, List.length_cons, List.length_nil] at *; omega) | (simp only [List.length_map, List.length_append, List.length_cons, List.length_nil] at *; omega)); exact rfl)))
            refine ⟨_, _, ?_, ?_, k + 1, by omega, rfl, rfl⟩
            · omega
            · rw [e1]
              refine forget_of [(2000, 27)] (by repeat' (first | exact ks_nil | (refine ks_cons rfl (by (first | exact SubA.refl _ | exact subA_ow (by (simp; omega)))) ?_))) ?_ rfl (by repeat' (first | exact trivial | exact inB_ow rfl | exact inB_px rfl | refine And.intro ?_ ?_)) (by repeat' (first | exact trivial | exact inB_ow rfl | exact inB_px rfl | refine And.intro ?_ ?_))
              exact kb_cons rfl rfl (kb_cons rfl (row_eq rfl) kb_nil)
    · have hke : k = cols.length := by simp at hd; omega
      clear hd
      subst hke
      rw [List.take_length]
      repeat (first | (with_reducible first | apply aw_seq | apply aw_reg | apply rp_nil | apply ae_norm | apply aw_exit | apply ae_exit | apply be_exit | apply aw_ret | apply xf_ret) | ((with_reducible apply rp); first | ((with_reducible apply does_move); (conv => lhs; whnf)) | ((with_reducible apply does_assign); (conv => lhs; whnf))))
      (with_reducible apply retxf_ok (l := [])); (focus (repeat' (first | (with_reducible apply rv_nil) | (with_reducible apply rv_cons) | ((with_reducible apply rv_tmp); exact rfl)))); exact rfl; exact SubD.refl _; refine ⟨(by repeat' (first | exact ks_nil | (refine ks_cons rfl (by exact SubA.refl _) ?_))), (by repeat' (first | exact trivial | exact rfl | refine And.intro ?_ ?_)), rfl, (by repeat' (first | exact trivial | exact inB_px rfl | refine And.intro ?_ ?_)), (by repeat' (first | exact trivial | exact inB_px rfl | refine And.intro ?_ ?_))⟩
end Go.Proofs.YtfplkakfakdfhaaDoor


/-
  The pure layer: contracts whose result has slices of its own in it, new ones (PG, with nothing frozen). No condition.
-/
namespace Go.Proofs.YtfplkakfakdfhaaDoor
set_option linter.unusedSimpArgs false
set_option linter.unusedVariables false
open Go.RowKit

def RetH (P : Program) (rs : List ResultVar) (r : A) (al : List A) (V' R' : Bx) (s : St) : Prop := ∃ vs l, resVs P s rs vs ∧ SubA (resA1 vs) (r.ren (renOf l)) ∧ Forget l s ⟨keptSF 0 al, V' ++ R'⟩
def retH (P : Program) (rs : List ResultVar) (r : A) (al : List A) (V' R' : Bx) : Exit → St → Prop
  | .normal, s => RetH P rs r al V' R' s
  | .ret, s => RetH P rs r al V' R' s
  | _, _ => False
section
variable {P : Program}
theorem ph_of_aw {f : FuncId} {fn : Func} {c : Code} {al : List A} {V R V' R' : Bx} {r : A} {rs : List ResultVar} (hf : P.funcs[f]? = some fn) (hb : fn.body = some c) (hn : (fn.name == "runtime.NumGoroutine") = false) (hmx : P.follows .mixedOrders = true) (hok : codeOk (keptKF al) fn.ntmps c = true) (hds : al.length ≤ fn.ntmps)
    (hrs : fn.results = rs.toArray) (hV : V'.all (fun p => hasPxF p.1 al) = true) (h : AW P c (retH P rs r al V' R') ⟨argA 0 al, V ++ R⟩) : PG P f al V R r V' R' := by
  refine ⟨enters_of hf hb hn, fun ρ I w vs hm hin hr => ?_⟩
  refine calls_of_wp hf hb ?_
  have hvl := repAs_len hr
  rw [Array.length_toList] at hvl
  have hget : ∀ {i : Nat} {v : A}, al[i]? = some v → ∃ u, vs[i]? = some u ∧ RepA ρ I w v u ∧ (vs ++ Array.replicate (fn.ntmps - vs.size) undef).getD i undef = u ∧ i < vs.size := fun {i v} hi => by
    obtain ⟨u, h3, h4, _⟩ := repAs_get hr hi
    have hlt : i < vs.size := by rw [← Array.length_toList]; exact (List.getElem?_eq_some_iff.1 h3).1
    have h5 : vs[i]? = some u := by simpa using h3
    refine ⟨u, h5, h4, ?_, hlt⟩
    rw [Array.getD_eq_getD_getElem?, Array.getElem?_append_left hlt, h5]; rfl
  let C : Ctx := { w0 := w, PB := PBof (V ++ R) ρ w, I0 := I, N := fn.ntmps, K := keptKF al, args := fun t => (vs ++ Array.replicate (fn.ntmps - vs.size) undef).getD t undef }
  have hm' : Mem C (V ++ R) ρ I w := hm.ctx rfl rfl rfl
  have hat : At C ⟨argA 0 al, V ++ R⟩ { tmps := vs ++ Array.replicate (fn.ntmps - vs.size) undef, defers := [] } w := by
    refine ⟨ρ, I, hm', rfl, ?_, fun t _ => rfl, fun t v ht => ?_⟩
    · show (vs ++ Array.replicate (fn.ntmps - vs.size) undef).size = fn.ntmps
      simp; omega
    · obtain ⟨i, h1, h2⟩ := argA_look ht
      rw [Nat.zero_add] at h1
      subst h1
      obtain ⟨u, h3, h4, h5, h6⟩ := hget h2
      refine ⟨by show t < fn.ntmps; omega, A.insB_mem hin v (List.mem_of_getElem? h2), ?_⟩
      show RepA ρ I w v ((vs ++ Array.replicate (fn.ntmps - vs.size) undef).getD t undef)
      rw [h5]; exact h4
  have hfin : ∀ s a' w', RetH P rs r al V' R' s → At C s a' w' → a'.defers = [] ∧ ∃ v, (results fn a'.tmps).run P w' = .ok v w' ∧
      (∃ v' ρ' I', Ending.returned v = .returned v' ∧ (∀ p ∈ V', ρ' p.1 = ρ p.1) ∧ Mem (ctxOf (V ++ R) ρ I w) (V' ++ R') ρ' I' w' ∧ RepA ρ' I' w' r v') := by
    rintro s a' w' ⟨vs', l, h1, hsub, hfg⟩ ⟨ρ2, J, hm2, hfr⟩
    obtain ⟨us, k1, k2, r1⟩ := resVs_run hm2 hfr h1
    have m2 := hfg.mem hm2
    have f2 := hfg.fr hfr
    refine ⟨hfr.defers, (if h : us.toArray.size = 1 then us.toArray[0] else .tuple us.toArray), ?_, _, _, J, rfl, fun p hp => ?_, m2.ctx rfl rfl rfl, ?_⟩
    · have hrm : ∀ fn' : Func, fn'.results = rs.toArray → results fn' a'.tmps = (do
          let vs ← rs.toArray.mapM (resRun a'.tmps)
          pure (if h : vs.size = 1 then vs[0] else .tuple vs)) := fun fn' h' => by
        unfold results
        rw [h']
        congr 1
      rw [hrm fn hrs, List.mapM_toArray]
      simp only [map_eq_pure_bind, bind_assoc, pure_bind, Sem.run_bind, k1, Result.andThen_ok, Sem.run_pure]
    · obtain ⟨i, a0, hi, hk0, hid⟩ := hasPxF_get (List.all_eq_true.1 hV p hp)
      obtain ⟨_, _, q2⟩ := f2.val i a0 (by have := keptSF_look (k := 0) hi hk0; rwa [Nat.zero_add] at this)
      obtain ⟨u, _, z2, z3, _⟩ := hget hi
      have hk := hfr.keep i (by show keptKF al i = true; unfold keptKF; rw [hi]; exact hk0)
      have hk : a'.tmps.getD i undef = u := by rw [hk]; exact z3
      rw [hk] at q2
      exact (pxIn_same hid z2 q2).symm
    · exact RepA.ren _ r _ (hsub _ _ _ _ (repA_res r1))
  refine wp_mono (aw_sound hmx c _ _ _ w (C := C) hok h hat) fun en a' w' hq => ?_
  obtain ⟨s, hq, ha⟩ := hq
  cases en with
  | normal => exact hfin s a' w' hq ha
  | ret => exact hfin s a' w' hq ha
  | _ => exact hq.elim
variable {rs : List ResultVar} {s : St} {r : A} {al : List A} {V' R' : Bx}
theorem xh_ret (h : RetH P rs r al V' R' s) : retH P rs r al V' R' .ret s := h
theorem reth_ok {vs : List A} {l : List (Nat × Nat)} (h1 : resVs P s rs vs) (h2 : SubA (resA1 vs) (r.ren (renOf l))) (h4 : Forget l s ⟨keptSF 0 al, V' ++ R'⟩) : RetH P rs r al V' R' s := ⟨vs, l, h1, h2, h4⟩
end
end Go.Proofs.YtfplkakfakdfhaaDoor

