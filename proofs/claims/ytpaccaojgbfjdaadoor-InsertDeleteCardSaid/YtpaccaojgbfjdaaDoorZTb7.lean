/-
  chirographkeep.tabled as a contract. No condition.
-/
import Derived.Test.YtpaccaojgbfjdaaDoorZTbP
import Derived.Test.YtpaccaojgbfjdaaDoorZTb6
import Derived.Test.YtpaccaojgbfjdaaDoorZHeapO
import Derived.Test.YtpaccaojgbfjdaaDoorZHeapR
namespace Go.Proofs.YtpaccaojgbfjdaaDoor
set_option linter.unusedSimpArgs false
set_option linter.unusedVariables false
open Go.RowKit

abbrev tN : ByteArray := { data := #[116] }
def nxtT (t : Tb) (d : Nat) (r : List Vl) : Tb := if freeN (drF t.a t.b d) 4 < 0 then t else t.put d (freeN (drF t.a t.b d) 4).toNat r
def dwF (q : List Raw) (n : Nat) : Nat := ((nextF q n).a % 2).toNat
noncomputable def tabF (q : List Raw) (cols : List Cl) : Nat → Tb
  | 0 => tbN tN cols
  | i + 1 => nxtT (tabF q cols i) (dwF q (i * (cols.length + 1))) (rowF q (i * (cols.length + 1) + 1) ((i : Int) - 3) 0 cols)
noncomputable def tabC (q : List Raw) (cols : List Cl) (i : Nat) : List D := if i = 0 then tbNl tN cols else (tabF q cols i).cs
theorem dwF_lt (q : List Raw) (n : Nat) : dwF q n < 2 := by unfold dwF; omega
theorem rowF_key {q : List Raw} {n : Nat} {key : Int} {cols : List Cl} (hk : ∃ n l, cols = ⟨n, 2, false⟩ :: l) : keyN (rowF q n key 0 cols) = key := by
  obtain ⟨m, l, rfl⟩ := hk
  rfl
theorem tabF_ok (q : List Raw) {cols : List Cl} (hc : ColsOk cols) (hk : ∃ n l, cols = ⟨n, 2, false⟩ :: l) (h0 : ∀ c, cols[0]? = some c → c.kind = 2) : ∀ i : Nat, TbOk (tabF q cols i) ∧ (tabF q cols i).cols = cols ∧ KeysLt (tabF q cols i) ((i : Int) - 3)
  | 0 => ⟨tbN_ok (by decide) hc hk, rfl, tbN_keys _ _ _⟩
  | i + 1 => by
    obtain ⟨h1, h2, h3⟩ := tabF_ok q hc hk h0 i
    have hr := rowF_fit q (i * (cols.length + 1) + 1) ((i : Int) - 3) hc h0
    have hkey : keyN (rowF q (i * (cols.length + 1) + 1) ((i : Int) - 3) 0 cols) = (i : Int) - 3 := rowF_key hk
    have hd := dwF_lt q (i * (cols.length + 1))
    rw [tabF]
    generalize rowF q (i * (cols.length + 1) + 1) ((i : Int) - 3) 0 cols = r at *
    generalize dwF q (i * (cols.length + 1)) = d at *
    unfold nxtT
    split
    · exact ⟨h1, h2, h3.mono (by omega)⟩
    · refine ⟨h1.put (by rw [h2]; exact hr) hd (h3.not (by omega) d), by rw [Tb.put_cols, h2], KeysLt.put (h3.mono (by omega)) (by omega) d _⟩
theorem tabC_sub (q : List Raw) (cols : List Cl) (i : Nat) : SubDs (tabC q cols i) (tabF q cols i).cs := by
  unfold tabC
  split
  · rename_i h
    subst h
    exact tbN_sub _ _
  · exact SubDs.refl _
theorem frz1sU_map (β : Bx) : ∀ ds : List D, frz1sU β (ds.map A.d) = []
  | [] => rfl
  | d :: ds => by rw [List.map_cons, frz1sU, frz1sU_map β ds]; rfl
theorem frzX_map (β : Bx) (ds : List D) : frzX β (.ag (ds.map A.d)) = .d (.ag ds) := by unfold frzX; rw [frzV_map]
theorem frzXU_map (β : Bx) (ds : List D) : frzXU β (.ag (ds.map A.d)) = [] := by unfold frzXU; rw [frzV_map]; exact frz1sU_map β ds
theorem frzXsU_three (β : Bx) (ds : List D) (i : Nat) (d : D) (h : frzXU β (.d d) = []) : frzXsU β [.ag (ds.map A.d), .px i 0, .d d] = [] := by
  show ((([] ++ frzXU β (.d d)) ++ frzXU β (.px i 0)) ++ frzXU β (.ag (ds.map A.d))) = []
  rw [frzXU_map, h]
  rfl
set_option maxHeartbeats 4000000 in
theorem tabled_pg (l : List Raw) : PG Tryd.prog 9 [.d (rawsD l)] [] [] (.tu [.d (.ag (tabC (l.take 40) (colsH l) (l.length % 8))), .px 2000 0, .d (bD true)]) []
    [(2000, .var 50 [.d (rawsD (l.take 40)), .d (iD (l.length % 8 * ((colsH l).length + 1) : Nat)), .d (colsD (colsH l))])] := by
  have g1 := heapOf_pg l
  have hc := colsF_ok (l.take (l.length % 4))
  have hk : ∃ n l', colsH l = ⟨n, 2, false⟩ :: l' := ⟨_, _, rfl⟩
  have h0 : ∀ c, (colsH l)[0]? = some c → c.kind = 2 := fun c h => by injection h with h; subst h; rfl
  have p8 := picked_pc (l.length : Int) 8 (by omega) (by omega)
  rw [show (l.length : Int) % ((8 : Nat) : Int) = ((l.length % 8 : Nat) : Int) by omega] at p8
  have hL8 : l.length % 8 < 8 := Nat.mod_lt _ (by decide)
  unfold colsH at *
  generalize colsF (l.take (l.length % 4)) = cols at *
  have hl5 := hc.len
  generalize l.take 40 = q at *
  obtain ⟨L, hL⟩ : ∃ L, l.length % 8 = L := ⟨_, rfl⟩
  rw [hL] at p8 hL8 ⊢
  clear hL
  have htok := tabF_ok q hc hk h0
  have hsub := tabC_sub q cols
  have hclen : ∀ i, (tabC q cols i).length = 19 := fun i => by
    unfold tabC
    split
    · rfl
    · exact Tb.len (htok i).1
  have hrow := fun (n : Nat) (hn : n ≤ 1000000) (key : Int) => row_px q n cols hl5 (fun c h => (hc.kind c h).2) key hn
  have hnx := fun (n : Nat) (hn : n ≤ 4611686018427387904) => next_px q n cols hn
  unfold hpB at *
  refine pg_of_aw Tryd.func9 rfl (by kernel_rfl) mixed (by kernel_rfl) (by rw [Tryd.ntmps9]; exact Nat.le_of_ble_eq_true rfl) Tryd.results9 rfl ?_
  repeat (first | (with_reducible first | apply aw_seq | apply aw_reg | apply rp_nil | apply ae_norm | apply aw_block) | ((with_reducible apply rp); first | ((with_reducible apply does_call_flat); exact rfl; exact rfl; exact (p8); exact rfl) | ((with_reducible apply does_move); (conv => lhs; whnf)) | ((with_reducible apply does_assign); (conv => lhs; whnf)) | ((with_reducible apply does_fieldAddr); exact tyOk rfl; exact rfl; exact rfl; decide; exact rfl) | ((with_reducible apply does_load_var); exact tyOk rfl; exact rfl; exact rfl; exact rfl; exact rfl) | ((with_reducible apply does_len_map); exact tyOk rfl; exact rfl; exact rfl) | ((with_reducible apply does_build); exact tyOk rfl; exact rfl; exact rfl; (focus repeat' (first | exact rfl | refine ⟨_, _, rfl, rfl, Nat.le_of_ble_eq_true rfl, rfl, ?_⟩)); exact rfl) | ((with_reducible apply does_nilCheck); exact rfl)) | ((with_reducible apply rp1); ((with_reducible apply does_alloc); exact tyOk rfl; exact rfl)) | ((with_reducible apply rpN); ((with_reducible apply does_store_whole); exact tyOk rfl; exact rfl; exact rfl; exact rfl; exact rfl; exact rfl)) | ((with_reducible apply rpL); (refine does_callG' [] [(2000, 13)] (ups := [(13, .var 50 [.d (rawsD q), .d (iD 0), .d (colsD cols)])]) (v := (.px 13 0)) rfl (g1) rfl ?_ rfl ?_ ?_ rfl rfl rfl rfl rfl ?_ ?_ rfl rfl rfl; (focus repeat' exact trivial); (focus repeat' (first | exact trivial | exact inB_px rfl | refine And.intro ?_ ?_)); (focus repeat' (first | exact trivial | exact inB_px rfl | refine And.intro ?_ ?_)); (focus repeat' (first | exact trivial | exact inB_px rfl | refine And.intro ?_ ?_)); (focus repeat' (first | exact trivial | exact inB_px rfl | refine And.intro ?_ ?_))); exact lapp_nil _))
  refine aw_loop (fun m s => ∃ i, i ≤ L ∧ m = L - i ∧ s = ⟨[(2, .px 2 0), (5, .px 2000 0), (6, .px 6 0), (7, .d (bD true)), (21, .d (iD L)), (22, .d (iD i))], [(2, .var 30 (tb0.map .d)), (6, .var 30 ((tabC q cols i).map .d)), (2000, .var 50 [.d (rawsD q), .d (iD (i * (cols.length + 1) : Nat)), .d (colsD cols)])]⟩) _ _ ?_ ⟨0, by omega, rfl, rfl⟩ ?_
  · rw [Nat.zero_mul]
    refine forget_of [(2000, 13)] (by repeat' (first | exact ks_nil | (refine ks_cons rfl (by exact SubA.refl _) ?_))) (by repeat' (first | exact trivial | exact rfl | refine And.intro ?_ ?_)) rfl (by repeat' (first | exact trivial | exact insB_map _ | exact inB_px rfl | refine And.intro ?_ ?_)) (by repeat' (first | exact trivial | exact insB_map _ | exact inB_px rfl | refine And.intro ?_ ?_))
  · rintro m s ⟨i, hiL, rfl, rfl⟩
    repeat (first | (with_reducible first | apply aw_seq | apply aw_reg | apply rp_nil | apply ae_norm) | ((with_reducible apply rp); ((with_reducible apply does_lt); exact rfl; exact rfl)))
    refine aw_cond rfl (fun hd => ?_) (fun hd => ?_)
    · have hlt : i < L := by simp at hd; omega
      clear hd
      obtain ⟨o1, o2, o3⟩ := htok i
      have hb : i * (cols.length + 1) ≤ 8 * 6 := Nat.mul_le_mul (by omega) (by omega)
      have hn2 : (i + 1) * (cols.length + 1) = i * (cols.length + 1) + 1 + cols.length := by rw [Nat.succ_mul]; omega
      have hr := rowF_fit q (i * (cols.length + 1) + 1) ((i : Int) - 3) hc h0
      have hkey : keyN (rowF q (i * (cols.length + 1) + 1) ((i : Int) - 3) 0 cols) = (i : Int) - 3 := rowF_key hk
      have hdl := dwF_lt q (i * (cols.length + 1))
      have hF : tabF q cols (i + 1) = nxtT (tabF q cols i) (dwF q (i * (cols.length + 1))) (rowF q (i * (cols.length + 1) + 1) ((i : Int) - 3) 0 cols) := rfl
      have hC : tabC q cols (i + 1) = (tabF q cols (i + 1)).cs := by unfold tabC; rw [if_neg (by omega)]
      have hC0 : tabC q cols i = (tabF q cols i).cs ∨ freeN (drF (tabF q cols i).a (tabF q cols i).b (dwF q (i * (cols.length + 1)))) 4 = 0 := by
        unfold tabC
        by_cases hi : i = 0
        · right
          subst hi
          unfold drF
          split <;> rfl
        · left
          rw [if_neg hi]
      have i1 := insert_sub (hsub i) o1 _ hdl _ (by rw [o2]; exact hr)
      have hnt := o3.not (r := rowF q (i * (cols.length + 1) + 1) ((i : Int) - 3) 0 cols) (by omega) (dwF q (i * (cols.length + 1)))
      have hput := fun n => Tb.len (o1.put (n := n) (by rw [o2]; exact hr) hdl hnt)
      have r1 := hrow (i * (cols.length + 1) + 1) (by omega) ((i : Int) - 3)
      have n1 := hnx (i * (cols.length + 1)) (by omega)
      have hcl := hclen i
      clear htok hsub hclen hrow hnx
      unfold insD at i1
      rw [if_neg hnt] at i1
      have hdw : (nextF q (i * (cols.length + 1))).a % ((2 : Nat) : Int) = (dwF q (i * (cols.length + 1)) : Nat) := by unfold dwF; omega
      have p2 := picked_pc (nextF q (i * (cols.length + 1))).a 2 (by omega) (by omega)
      rw [hdw] at p2
      clear hdw hnt hkey hr o2 o3
      generalize nextF q (i * (cols.length + 1)) = rr at *
      generalize rowF q (i * (cols.length + 1) + 1) ((i : Int) - 3) 0 cols = r at *
      generalize dwF q (i * (cols.length + 1)) = d at *
      generalize tabF q cols i = t at *
      obtain ⟨rk, ra, rb, rt⟩ := rr
      unfold Raw.cs at n1
      dsimp only at *
      generalize i * (cols.length + 1) = n at *
      generalize hcs : tabC q cols i = cs at *
      by_cases hf : freeN (drF t.a t.b d) 4 < 0
      · have hCe : tabC q cols (i + 1) = cs := by
          rcases hC0 with h | h
          · rw [hC, hF]
            unfold nxtT
            rw [if_pos hf, h]
          · omega
        rw [if_pos hf] at i1
        unfold tb0 at i1
        repeat (first | (with_reducible first | apply aw_seq | apply aw_reg | apply rp_nil | apply ae_norm | apply aw_regD | apply aw_block | apply be_norm | apply aw_skip) | ((with_reducible apply dr_nil); (first | kernel_rfl | exact rfl)) | ((first | (with_reducible first | apply rp | apply dr) | ((with_reducible apply rpG); exact rfl; (first | exact gval_t rfl | exact gval_gf rfl); (focus repeat' (first | exact trivial | exact fun h => h | refine And.intro ?_ ?_)); intro hgd; have hgd0 := hgd; (try simp only [decide_eq_true_eq, Bool.and_eq_true, Bool.not_eq_true', beq_iff_eq] at hgd))); first | (exact does_load_allD (tyOk rfl) rfl rfl rfl hcl) | ((with_reducible apply does_call_flat); exact rfl; exact rfl; exact (p2); exact rfl) | ((with_reducible apply does_call_flat); exact rfl; exact rfl; exact (i1); exact rfl) | ((with_reducible apply does_move); (conv => lhs; whnf)) | ((with_reducible apply does_assign); (conv => lhs; whnf)) | ((with_reducible apply does_and); exact rfl; exact rfl; exact rfl; (first | exact trivial | exact fun h => h)) | ((with_reducible apply does_or); exact rfl; exact rfl; exact rfl; (first | exact trivial | exact fun h => h)) | ((with_reducible apply does_fieldAddr); exact tyOk rfl; exact rfl; exact rfl; decide; exact rfl) | ((with_reducible apply does_load_var); exact tyOk rfl; exact rfl; exact rfl; exact rfl; exact rfl) | ((with_reducible apply does_eq); exact rfl; exact rfl) | ((with_reducible apply does_add); exact rfl; exact rfl; omega; omega) | ((with_reducible apply does_sub); exact rfl; exact rfl; omega; omega) | ((with_reducible apply does_extract); exact rfl; exact rfl)) | ((with_reducible first | apply rp1 | apply dr1); ((with_reducible apply does_alloc); exact tyOk rfl; exact rfl)) | ((with_reducible first | apply rpN | apply drN); ((with_reducible apply does_store_whole); exact tyOk rfl; exact rfl; exact rfl; exact rfl; exact rfl; exact rfl)) | ((with_reducible first | apply rpL | apply drL); (refine does_callX [(1000, 2000)] [(1000, 2000)] (ups := [(2000, .var 50 [.d (rawsD q), .d (iD (n + 1 : Nat)), .d (colsD cols)])]) rfl (n1) rfl ?_ rfl ?_ ?_ rfl rfl rfl rfl rfl ?_ rfl rfl; (focus repeat' (first | exact trivial | exact rfl | refine And.intro ?_ ?_)); (focus repeat' (first | exact trivial | exact inB_px rfl | refine And.intro ?_ ?_)); (focus repeat' (first | exact trivial | exact inB_px rfl | refine And.intro ?_ ?_)); (focus repeat' (first | exact trivial | exact inB_px rfl | refine And.intro ?_ ?_))); exact lapp_nil _) | ((with_reducible first | apply rpL | apply drL); (refine does_callX [(1000, 2000)] [(1000, 2000)] (ups := [(2000, .var 50 [.d (rawsD q), .d (iD (n + 1 + cols.length : Nat)), .d (colsD cols)])]) rfl (r1) rfl ?_ rfl ?_ ?_ rfl rfl rfl rfl rfl ?_ rfl rfl; (focus repeat' (first | exact trivial | exact rfl | refine And.intro ?_ ?_)); (focus repeat' (first | exact trivial | exact inB_px rfl | refine And.intro ?_ ?_)); (focus repeat' (first | exact trivial | exact inB_px rfl | refine And.intro ?_ ?_)); (focus repeat' (first | exact trivial | exact inB_px rfl | refine And.intro ?_ ?_))); exact lapp_nil _) | ((with_reducible apply aw_cond); exact rfl; (focus (intro hd; (cases hd; done))); (intro hd; clear hd)))
        refine ⟨_, _, ?_, ?_, i + 1, by omega, rfl, rfl⟩
        · omega
        · rw [hn2, hCe]
          refine forget_of [] (by repeat' (first | exact ks_nil | (refine ks_cons rfl (by exact SubA.refl _) ?_))) (by repeat' (first | exact trivial | exact rfl | exact kb_d rfl | refine And.intro ?_ ?_)) rfl (by repeat' (first | exact trivial | exact insB_map _ | exact inB_px rfl | refine And.intro ?_ ?_)) (by repeat' (first | exact trivial | exact insB_map _ | exact inB_px rfl | refine And.intro ?_ ?_))
      · have hCe : tabC q cols (i + 1) = (t.put d (freeN (drF t.a t.b d) 4).toNat r).cs := by
          rw [hC, hF]
          unfold nxtT
          rw [if_neg hf]
        have hpl := hput (freeN (drF t.a t.b d) 4).toNat
        rw [if_neg hf] at i1
        generalize (t.put d (freeN (drF t.a t.b d) 4).toNat r).cs = ps at *
        have hpm : ps.length = (cs.map A.d).length := by rw [List.length_map, hcl, hpl]
        repeat (first | (with_reducible first | apply aw_seq | apply aw_reg | apply rp_nil | apply ae_norm | apply aw_regD | apply aw_block | apply be_norm | apply aw_skip) | ((with_reducible apply dr_nil); (first | kernel_rfl | exact rfl)) | ((first | (with_reducible first | apply rp | apply dr) | ((with_reducible apply rpG); exact rfl; (first | exact gval_t rfl | exact gval_gf rfl); (focus repeat' (first | exact trivial | exact fun h => h | refine And.intro ?_ ?_ | (intro h; simp_all))); intro hgd; have hgd0 := hgd; (try simp only [decide_eq_true_eq, Bool.and_eq_true, Bool.not_eq_true', beq_iff_eq] at hgd))); first | (exact does_load_allD (tyOk rfl) rfl rfl rfl hcl) | (exact does_load_allD (tyOk rfl) rfl rfl rfl hpl) | ((with_reducible apply does_call_flat); exact rfl; exact rfl; exact (p2); exact rfl) | ((with_reducible apply does_call'); exact rfl; exact rfl; exact rfl; exact (i1)) | ((with_reducible apply does_move); (conv => lhs; whnf)) | ((with_reducible apply does_assign); (conv => lhs; whnf)) | ((with_reducible apply does_and); exact rfl; exact rfl; exact rfl; exact fun h => h) | ((with_reducible apply does_or); exact rfl; exact rfl; exact rfl; exact fun h => h) | ((with_reducible apply does_fieldAddr); exact tyOk rfl; exact rfl; exact rfl; decide; exact rfl) | ((with_reducible apply does_load_var); exact tyOk rfl; exact rfl; exact rfl; exact rfl; exact rfl) | ((with_reducible apply does_eq); exact rfl; exact rfl) | ((with_reducible apply does_add); exact rfl; exact rfl; omega; omega) | ((with_reducible apply does_sub); exact rfl; exact rfl; omega; omega) | ((with_reducible apply does_extract); exact rfl; exact rfl)) | ((with_reducible first | apply rp1 | apply dr1); ((with_reducible apply does_alloc); exact tyOk rfl; exact rfl)) | ((with_reducible first | apply rpN | apply drN); first | (exact does_store_whole (tyOk rfl) rfl rfl rfl hpl hpl) | (exact does_store_whole (tyOk rfl) rfl rfl rfl hpl hpm) | ((with_reducible apply does_store_whole); exact tyOk rfl; exact rfl; exact rfl; exact rfl; exact rfl; exact rfl)) | ((with_reducible first | apply rpL | apply drL); (refine does_callX [(1000, 2000)] [(1000, 2000)] (ups := [(2000, .var 50 [.d (rawsD q), .d (iD (n + 1 : Nat)), .d (colsD cols)])]) rfl (n1) rfl ?_ rfl ?_ ?_ rfl rfl rfl rfl rfl ?_ rfl rfl; (focus repeat' (first | exact trivial | exact rfl | refine And.intro ?_ ?_)); (focus repeat' (first | exact trivial | exact inB_px rfl | refine And.intro ?_ ?_)); (focus repeat' (first | exact trivial | exact inB_px rfl | refine And.intro ?_ ?_)); (focus repeat' (first | exact trivial | exact inB_px rfl | refine And.intro ?_ ?_))); exact lapp_nil _) | ((with_reducible first | apply rpL | apply drL); (refine does_callX [(1000, 2000)] [(1000, 2000)] (ups := [(2000, .var 50 [.d (rawsD q), .d (iD (n + 1 + cols.length : Nat)), .d (colsD cols)])]) rfl (r1) rfl ?_ rfl ?_ ?_ rfl rfl rfl rfl rfl ?_ rfl rfl; (focus repeat' (first | exact trivial | exact rfl | refine And.intro ?_ ?_)); (focus repeat' (first | exact trivial | exact inB_px rfl | refine And.intro ?_ ?_)); (focus repeat' (first | exact trivial | exact inB_px rfl | refine And.intro ?_ ?_)); (focus repeat' (first | exact trivial | exact inB_px rfl | refine And.intro ?_ ?_))); exact lapp_nil _) | ((with_reducible apply aw_cond); exact rfl; rotate_left; (focus (intro hd; (cases hd; done))); (intro hd; clear hd)) | ((first | (with_reducible apply rpGP) | (with_reducible apply drGP)); exact rfl; (first | exact gval_t rfl | exact gval_gf rfl); (focus repeat' (first | exact trivial | exact fun h => h | refine And.intro ?_ ?_ | (intro h; simp_all))); (intro hgd; have hgd0 := hgd; (try simp only [decide_eq_true_eq, Bool.and_eq_true, Bool.not_eq_true', beq_iff_eq] at hgd); first | ((with_reducible apply does_or); exact rfl; exact rfl; exact rfl; exact fun h => h) | ((with_reducible apply does_and); exact rfl; exact rfl; exact rfl; exact fun h => h))))
        refine ⟨_, _, ?_, ?_, i + 1, by omega, rfl, rfl⟩
        · omega
        · rw [hn2, hCe]
          refine forget_of [] (by repeat' (first | exact ks_nil | (refine ks_cons rfl (by exact SubA.refl _) ?_))) (by repeat' (first | exact trivial | exact rfl | exact kb_d rfl | refine And.intro ?_ ?_)) rfl (by repeat' (first | exact trivial | exact insB_map _ | exact inB_px rfl | refine And.intro ?_ ?_)) (by repeat' (first | exact trivial | exact insB_map _ | exact inB_px rfl | refine And.intro ?_ ?_))
    · have hke : i = L := by simp at hd; omega
      clear hd
      subst hke
      have hcl := hclen i
      generalize tabC q cols i = cs at *
      repeat (first | (with_reducible first | apply aw_seq | apply aw_reg | apply rp_nil | apply ae_norm | apply aw_exit | apply ae_exit | apply be_exit | apply aw_ret | apply xg_ret) | ((with_reducible apply rp); first | (exact does_load_allD (tyOk rfl) rfl rfl rfl hcl) | ((with_reducible apply does_move); (conv => lhs; whnf)) | ((with_reducible apply does_assign); (conv => lhs; whnf))) | ((with_reducible apply rpN); (exact does_store_whole (tyOk rfl) rfl rfl rfl hcl hcl)))
      refine retg_ok (vs := [.ag (cs.map A.d), .px 2000 0, .d (bD true)]) (l := [(2000, 2000)]) ?_ ?_ ?_
      · exact rv_cons (rv_rowd rfl rfl (tyOk rfl) rfl hcl) (rv_cons (rv_tmp rfl) (rv_cons (rv_tmp rfl) rv_nil))
      · refine SubA.of_eq ?_
        rw [List.map_cons, frzX_map]
        rfl
      · rw [frzXsU_three _ _ _ _ rfl]
        exact ⟨trivial, ⟨rfl, trivial⟩, rfl, trivial, by repeat' (first | exact trivial | exact inB_px rfl | refine And.intro ?_ ?_)⟩
end Go.Proofs.YtpaccaojgbfjdaaDoor

