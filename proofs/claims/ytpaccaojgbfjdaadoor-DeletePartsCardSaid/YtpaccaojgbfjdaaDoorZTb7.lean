/-
  chirographkeep.tabled as a contract. No condition.
-/
import Derived.Test.YtpaccaojgbfjdaaDoorZTbP
import Derived.Test.YtpaccaojgbfjdaaDoorZTb6
import Derived.Test.YtpaccaojgbfjdaaDoorZHeapO
import Derived.Test.YtpaccaojgbfjdaaDoorZHeapR
set_option linter.unusedSimpArgs false
set_option linter.unusedVariables false
namespace Go.Proofs.YtpaccaojgbfjdaaDoor
open Go.RowKit

abbrev tN : ByteArray := { data := #[116] }
def nxtT (t : Tb) (d : Nat) (r : List Vl) : Tb := if qB3 (drF t.a t.b d) 4 < 0 then t else t.put d (qB3 (drF t.a t.b d) 4).toNat r
def dwF (q : List Raw) (n : Nat) : Nat := ((qA8 q n).a % 2).toNat
noncomputable def tabF (q : List Raw) (cols : List Cl) : Nat → Tb
  | 0 => tbN tN cols
  | i + 1 => nxtT (tabF q cols i) (dwF q (i * (cols.length + 1))) (rowF q (i * (cols.length + 1) + 1) ((i : Int) - 3) 0 cols)
noncomputable def tabC (q : List Raw) (cols : List Cl) (i : Nat) : List D := if i = 0 then tbNl tN cols else (tabF q cols i).cs
theorem dwF_lt (q : List Raw) (n : Nat) : dwF q n < 2 := by unfold dwF; omega
theorem rowF_key {q : List Raw} {n : Nat} {key : Int} {cols : List Cl} (hk : ∃ n l, cols = ⟨n, 2, false⟩ :: l) : keyN (rowF q n key 0 cols) = key := by
  obtain ⟨m, l, rfl⟩ := hk
  rfl
theorem tabF_ok (q : List Raw) {cols : List Cl} (hc : ColsOk cols) (hk : ∃ n l, cols = ⟨n, 2, false⟩ :: l) (h0 : ∀ c, cols[0]? = some c → c.kind = 2) : ∀ i : Nat, TbOk (tabF q cols i) ∧ (tabF q cols i).cols = cols ∧ qDl (tabF q cols i) ((i : Int) - 3)
  | 0 => ⟨tbN_ok (by decide) hc hk, rfl, tbN_keys _ _ _⟩
  | i + 1 => by
    obtain ⟨h1, h2, h3⟩ := tabF_ok q hc hk h0 i
    have hr := rowF_fit q (i * (cols.length + 1) + 1) ((i : Int) - 3) hc h0
    have hkey : keyN (rowF q (i * (cols.length + 1) + 1) ((i : Int) - 3) 0 cols) = (i : Int) - 3 := rowF_key hk
    have hd := dwF_lt q (i * (cols.length + 1))
    rw [tabF]
    generalize rowF q (i * (cols.length + 1) + 1) ((i : Int) - 3) 0 cols = r at *
    generalize dwF q (i * (cols.length + 1)) = d at *
    unfold nxtT
    split
    · exact ⟨h1, h2, h3.mono (by omega)⟩
    · refine ⟨h1.put (by rw [h2]; exact hr) hd (h3.not (by omega) d), by rw [Tb.put_cols, h2], qDl.put (h3.mono (by omega)) (by omega) d _⟩
theorem tabC_sub (q : List Raw) (cols : List Cl) (i : Nat) : qBC (tabC q cols i) (tabF q cols i).cs := by
  unfold tabC
  split
  · rename_i h
    subst h
    exact tbN_sub _ _
  · exact qBC.refl _
theorem frz1sU_map (β : Bx) : ∀ ds : List D, qDe β (ds.map A.d) = []
  | [] => rfl
  | d :: ds => by rw [List.map_cons, qDe, frz1sU_map β ds]; rfl
theorem frzX_map (β : Bx) (ds : List D) : frzX β (.ag (ds.map A.d)) = .d (.ag ds) := by unfold frzX; rw [qCV]
theorem frzXU_map (β : Bx) (ds : List D) : qC9 β (.ag (ds.map A.d)) = [] := by unfold qC9; rw [qCV]; exact frz1sU_map β ds
theorem frzXsU_three (β : Bx) (ds : List D) (i : Nat) (d : D) (h : qC9 β (.d d) = []) : qB9 β [.ag (ds.map A.d), .px i 0, .d d] = [] := by
  show ((([] ++ qC9 β (.d d)) ++ qC9 β (.px i 0)) ++ qC9 β (.ag (ds.map A.d))) = []
  rw [frzXU_map, h]
  rfl
set_option maxHeartbeats 4000000 in
theorem tabled_pg (l : List Raw) : PG Tryd.prog 9 [.d (qBi l)] [] [] (.tu [.d (.ag (tabC (l.take 40) (qCA l) (l.length % 8))), .px 2000 0, .d (bD true)]) []
    [(2000, .var 50 [.d (qBi (l.take 40)), .d (iD (l.length % 8 * ((qCA l).length + 1) : Nat)), .d (qAY (qCA l))])] := by
  have g1 := heapOf_pg l
  have hc := colsF_ok (l.take (l.length % 4))
  have hk : ∃ n l', qCA l = ⟨n, 2, false⟩ :: l' := ⟨_, _, rfl⟩
  have h0 : ∀ c, (qCA l)[0]? = some c → c.kind = 2 := fun c h => by injection h with h; subst h; rfl
  have p8 := qAO (l.length : Int) 8 (by omega) (by omega)
  rw [show (l.length : Int) % ((8 : Nat) : Int) = ((l.length % 8 : Nat) : Int) by omega] at p8
  have hL8 : l.length % 8 < 8 := Nat.mod_lt _ (by decide)
  unfold qCA at *
  generalize qDs (l.take (l.length % 4)) = cols at *
  have hl5 := hc.len
  generalize l.take 40 = q at *
  obtain ⟨L, hL⟩ : ∃ L, l.length % 8 = L := ⟨_, rfl⟩
  rw [hL] at p8 hL8 ⊢
  clear hL
  have htok := tabF_ok q hc hk h0
  have hsub := tabC_sub q cols
  have hclen : ∀ i, (tabC q cols i).length = 19 := fun i => by
    unfold tabC
    split
    · rfl
    · exact Tb.len (htok i).1
  have hrow := fun (n : Nat) (hn : n ≤ 1000000) (key : Int) => row_px q n cols hl5 (fun c h => (hc.kind c h).2) key hn
  have hnx := fun (n : Nat) (hn : n ≤ 4611686018427387904) => qBQ q n cols hn
  unfold hpB at *
  refine pg_of_aw Tryd.func9 rfl (by kernel_rfl) mixed (by kernel_rfl) (qle (by kernel_rfl)) Tryd.results9 rfl ?_
  repeat (first | (with_reducible first | apply qAj | apply qAh | apply qAi | apply qAg | apply qAq) | ((with_reducible apply rp); first | ((with_reducible apply qAf); exact rfl; exact rfl; exact (p8); exact rfl) | ((with_reducible apply qAd); (conv => lhs; whnf)) | ((with_reducible apply qAa); (conv => lhs; whnf)) | ((with_reducible apply qAc); exact tyOk rfl; exact rfl; exact rfl; decide; exact rfl) | ((with_reducible apply qAe); exact tyOk rfl; (iterate 4 exact rfl)) | ((with_reducible apply qA3); exact tyOk rfl; exact rfl; exact rfl) | ((with_reducible apply qAT); exact tyOk rfl; exact rfl; exact rfl; (focus repeat' (first | exact rfl | refine ⟨_, _, rfl, rfl, qle rfl, rfl, ?_⟩)); exact rfl) | ((with_reducible apply qBf); exact rfl)) | ((with_reducible apply rp1); ((with_reducible apply qAk); exact tyOk rfl; exact rfl)) | ((with_reducible apply rpN); ((with_reducible apply qAb); exact tyOk rfl; (iterate 5 exact rfl))) | ((with_reducible apply rpL); (refine qEb [] [(2000, 13)] (ups := [(13, .var 50 [.d (qBi q), .d (iD 0), .d (qAY cols)])]) (v := (.px 13 0)) rfl (g1) rfl ?_ rfl ?_ ?_ rfl rfl rfl rfl rfl ?_ ?_ rfl rfl rfl; (focus repeat' exact trivial); (iterate 4 (focus repeat' (first | exact trivial | exact qAp rfl | refine And.intro ?_ ?_)))); exact qAE _))
  refine qBn (fun m s => ∃ i, i ≤ L ∧ m = L - i ∧ s = ⟨[(2, .px 2 0), (5, .px 2000 0), (6, .px 6 0), (7, .d (bD true)), (21, .d (iD L)), (22, .d (iD i))], [(2, .var 30 (tb0.map .d)), (6, .var 30 ((tabC q cols i).map .d)), (2000, .var 50 [.d (qBi q), .d (iD (i * (cols.length + 1) : Nat)), .d (qAY cols)])]⟩) _ _ ?_ ⟨0, by omega, rfl, rfl⟩ ?_
  · rw [Nat.zero_mul]
    refine qAx [(2000, 13)] (by repeat' (first | exact qAI | (refine qAD rfl (by exact SubA.refl _) ?_))) (by repeat' (first | exact trivial | exact rfl | refine And.intro ?_ ?_)) rfl (by repeat' (first | exact trivial | exact qAH _ | exact qAp rfl | refine And.intro ?_ ?_)) (by repeat' (first | exact trivial | exact qAH _ | exact qAp rfl | refine And.intro ?_ ?_))
  · rintro m s ⟨i, hiL, rfl, rfl⟩
    repeat (first | (with_reducible first | apply qAj | apply qAh | apply qAi | apply qAg) | ((with_reducible apply rp); ((with_reducible apply qAU); exact rfl; exact rfl)))
    refine qAo rfl (fun hd => ?_) (fun hd => ?_)
    · have hlt : i < L := by simp at hd; omega
      clear hd
      obtain ⟨o1, o2, o3⟩ := htok i
      have hb : i * (cols.length + 1) ≤ 8 * 6 := Nat.mul_le_mul (by omega) (by omega)
      have hn2 : (i + 1) * (cols.length + 1) = i * (cols.length + 1) + 1 + cols.length := by rw [Nat.succ_mul]; omega
      have hr := rowF_fit q (i * (cols.length + 1) + 1) ((i : Int) - 3) hc h0
      have hkey : keyN (rowF q (i * (cols.length + 1) + 1) ((i : Int) - 3) 0 cols) = (i : Int) - 3 := rowF_key hk
      have hdl := dwF_lt q (i * (cols.length + 1))
      have hF : tabF q cols (i + 1) = nxtT (tabF q cols i) (dwF q (i * (cols.length + 1))) (rowF q (i * (cols.length + 1) + 1) ((i : Int) - 3) 0 cols) := rfl
      have hC : tabC q cols (i + 1) = (tabF q cols (i + 1)).cs := by unfold tabC; rw [if_neg (by omega)]
      have hC0 : tabC q cols i = (tabF q cols i).cs ∨ qB3 (drF (tabF q cols i).a (tabF q cols i).b (dwF q (i * (cols.length + 1)))) 4 = 0 := by
        unfold tabC
        by_cases hi : i = 0
        · right
          subst hi
          unfold drF
          split <;> rfl
        · left
          rw [if_neg hi]
      have i1 := insert_sub (hsub i) o1 _ hdl _ (by rw [o2]; exact hr)
      have hnt := o3.not (r := rowF q (i * (cols.length + 1) + 1) ((i : Int) - 3) 0 cols) (by omega) (dwF q (i * (cols.length + 1)))
      have hput := fun n => Tb.len (o1.put (n := n) (by rw [o2]; exact hr) hdl hnt)
      have r1 := hrow (i * (cols.length + 1) + 1) (by omega) ((i : Int) - 3)
      have n1 := hnx (i * (cols.length + 1)) (by omega)
      have hcl := hclen i
      clear htok hsub hclen hrow hnx
      unfold insD at i1
      rw [if_neg hnt] at i1
      have hdw : (qA8 q (i * (cols.length + 1))).a % ((2 : Nat) : Int) = (dwF q (i * (cols.length + 1)) : Nat) := by unfold dwF; omega
      have p2 := qAO (qA8 q (i * (cols.length + 1))).a 2 (by omega) (by omega)
      rw [hdw] at p2
      clear hdw hnt hkey hr o2 o3
      generalize qA8 q (i * (cols.length + 1)) = rr at *
      generalize rowF q (i * (cols.length + 1) + 1) ((i : Int) - 3) 0 cols = r at *
      generalize dwF q (i * (cols.length + 1)) = d at *
      generalize tabF q cols i = t at *
      obtain ⟨rk, ra, rb, rt⟩ := rr
      unfold Raw.cs at n1
      dsimp only at *
      generalize i * (cols.length + 1) = n at *
      generalize hcs : tabC q cols i = cs at *
      by_cases hf : qB3 (drF t.a t.b d) 4 < 0
      · have hCe : tabC q cols (i + 1) = cs := by
          rcases hC0 with h | h
          · rw [hC, hF]
            unfold nxtT
            rw [if_pos hf, h]
          · omega
        rw [if_pos hf] at i1
        unfold tb0 at i1
        repeat (first | (with_reducible first | apply qAj | apply qAh | apply qAi | apply qAg | apply qA5 | apply qAq | apply qAF | apply qAm) | ((with_reducible apply qBh); (first | kernel_rfl | exact rfl)) | ((first | (with_reducible first | apply rp | apply dr) | ((with_reducible apply rpG); exact rfl; (first | exact qAZ rfl | exact qBu rfl); (focus repeat' (first | exact trivial | exact fun h => h | refine And.intro ?_ ?_)); intro hgd; have hgd0 := hgd; (try simp only [decide_eq_true_eq, Bool.and_eq_true, Bool.not_eq_true', beq_iff_eq] at hgd))); first | (exact qA0 (tyOk rfl) rfl rfl rfl hcl) | ((with_reducible apply qAf); exact rfl; exact rfl; (first | exact (p2) | exact (i1)); exact rfl) | ((with_reducible first | apply qAd | apply qAa); (conv => lhs; whnf)) | ((with_reducible apply qAQ); (iterate 3 exact rfl); (first | exact trivial | exact fun h => h)) | ((with_reducible apply qAK); (iterate 3 exact rfl); (first | exact trivial | exact fun h => h)) | ((with_reducible first | apply qAc | apply qAe | apply qAt | apply qAv) <;> first | ((with_reducible apply tyOk); exact rfl) | exact rfl | decide) | ((with_reducible apply qAJ); exact rfl; exact rfl; omega; omega) | ((with_reducible apply qCM); exact rfl; exact rfl; omega; omega)) | ((with_reducible first | apply rp1 | apply dr1); ((with_reducible apply qAk); exact tyOk rfl; exact rfl)) | ((with_reducible first | apply rpN | apply drN); ((with_reducible apply qAb); exact tyOk rfl; (iterate 5 exact rfl))) | ((with_reducible first | apply rpL | apply drL); (refine qAC [(1000, 2000)] [(1000, 2000)] (ups := [(2000, .var 50 [.d (qBi q), .d (iD (n + 1 : Nat)), .d (qAY cols)])]) rfl (n1) rfl ?_ rfl ?_ ?_ rfl rfl rfl rfl rfl ?_ rfl rfl; (focus repeat' (first | exact trivial | exact rfl | refine And.intro ?_ ?_)); (iterate 3 (focus repeat' (first | exact trivial | exact qAp rfl | refine And.intro ?_ ?_)))); exact qAE _) | ((with_reducible first | apply rpL | apply drL); (refine qAC [(1000, 2000)] [(1000, 2000)] (ups := [(2000, .var 50 [.d (qBi q), .d (iD (n + 1 + cols.length : Nat)), .d (qAY cols)])]) rfl (r1) rfl ?_ rfl ?_ ?_ rfl rfl rfl rfl rfl ?_ rfl rfl; (focus repeat' (first | exact trivial | exact rfl | refine And.intro ?_ ?_)); (iterate 3 (focus repeat' (first | exact trivial | exact qAp rfl | refine And.intro ?_ ?_)))); exact qAE _) | ((with_reducible apply qA9); exact rfl; exact rfl))
        refine ⟨_, _, ?_, ?_, i + 1, by omega, rfl, rfl⟩
        · omega
        · rw [hn2, hCe]
          refine qAx [] (by repeat' (first | exact qAI | (refine qAD rfl (by exact SubA.refl _) ?_))) (by repeat' (first | exact trivial | exact rfl | exact kb_d rfl | refine And.intro ?_ ?_)) rfl (by repeat' (first | exact trivial | exact qAH _ | exact qAp rfl | refine And.intro ?_ ?_)) (by repeat' (first | exact trivial | exact qAH _ | exact qAp rfl | refine And.intro ?_ ?_))
      · have hCe : tabC q cols (i + 1) = (t.put d (qB3 (drF t.a t.b d) 4).toNat r).cs := by
          rw [hC, hF]
          unfold nxtT
          rw [if_neg hf]
        have hpl := hput (qB3 (drF t.a t.b d) 4).toNat
        rw [if_neg hf] at i1
        generalize (t.put d (qB3 (drF t.a t.b d) 4).toNat r).cs = ps at *
        have hpm : ps.length = (cs.map A.d).length := by rw [List.length_map, hcl, hpl]
        repeat (first | (with_reducible first | apply qAj | apply qAh | apply qAi | apply qAg | apply qA5 | apply qAq | apply qAF | apply qAm) | ((with_reducible apply qBh); (first | kernel_rfl | exact rfl)) | ((first | (with_reducible first | apply rp | apply dr) | ((with_reducible apply rpG); exact rfl; (first | exact qAZ rfl | exact qBu rfl); (focus repeat' (first | exact trivial | exact fun h => h | refine And.intro ?_ ?_ | (intro h; simp_all))); intro hgd; have hgd0 := hgd; (try simp only [decide_eq_true_eq, Bool.and_eq_true, Bool.not_eq_true', beq_iff_eq] at hgd))); first | (exact qA0 (tyOk rfl) rfl rfl rfl hcl) | (exact qA0 (tyOk rfl) rfl rfl rfl hpl) | ((with_reducible apply qAf); exact rfl; exact rfl; exact (p2); exact rfl) | ((with_reducible apply qAP); (iterate 3 exact rfl); exact (i1)) | ((with_reducible first | apply qAd | apply qAa); (conv => lhs; whnf)) | ((with_reducible first | apply qAQ | apply qAK | apply qAc | apply qAe | apply qAt | apply qAv) <;> first | ((with_reducible apply tyOk); exact rfl) | exact rfl | exact fun h => h | decide) | ((with_reducible apply qAJ); exact rfl; exact rfl; omega; omega) | ((with_reducible apply qCM); exact rfl; exact rfl; omega; omega)) | ((with_reducible first | apply rp1 | apply dr1); ((with_reducible apply qAk); exact tyOk rfl; exact rfl)) | ((with_reducible first | apply rpN | apply drN); first | (exact qAb (tyOk rfl) rfl rfl rfl hpl hpl) | (exact qAb (tyOk rfl) rfl rfl rfl hpl hpm) | ((with_reducible apply qAb); exact tyOk rfl; (iterate 5 exact rfl))) | ((with_reducible first | apply rpL | apply drL); (refine qAC [(1000, 2000)] [(1000, 2000)] (ups := [(2000, .var 50 [.d (qBi q), .d (iD (n + 1 : Nat)), .d (qAY cols)])]) rfl (n1) rfl ?_ rfl ?_ ?_ rfl rfl rfl rfl rfl ?_ rfl rfl; (focus repeat' (first | exact trivial | exact rfl | refine And.intro ?_ ?_)); (iterate 3 (focus repeat' (first | exact trivial | exact qAp rfl | refine And.intro ?_ ?_)))); exact qAE _) | ((with_reducible first | apply rpL | apply drL); (refine qAC [(1000, 2000)] [(1000, 2000)] (ups := [(2000, .var 50 [.d (qBi q), .d (iD (n + 1 + cols.length : Nat)), .d (qAY cols)])]) rfl (r1) rfl ?_ rfl ?_ ?_ rfl rfl rfl rfl rfl ?_ rfl rfl; (focus repeat' (first | exact trivial | exact rfl | refine And.intro ?_ ?_)); (iterate 3 (focus repeat' (first | exact trivial | exact qAp rfl | refine And.intro ?_ ?_)))); exact qAE _) | ((with_reducible apply qBo); exact rfl; exact rfl) | ((first | (with_reducible apply rpGP) | (with_reducible apply drGP)); exact rfl; (first | exact qAZ rfl | exact qBu rfl); (focus repeat' (first | exact trivial | exact fun h => h | refine And.intro ?_ ?_ | (intro h; simp_all))); (intro hgd; have hgd0 := hgd; (try simp only [decide_eq_true_eq, Bool.and_eq_true, Bool.not_eq_true', beq_iff_eq] at hgd); first | ((with_reducible first | apply qAK | apply qAQ) <;> first | exact rfl | exact fun h => h))))
        refine ⟨_, _, ?_, ?_, i + 1, by omega, rfl, rfl⟩
        · omega
        · rw [hn2, hCe]
          refine qAx [] (by repeat' (first | exact qAI | (refine qAD rfl (by exact SubA.refl _) ?_))) (by repeat' (first | exact trivial | exact rfl | exact kb_d rfl | refine And.intro ?_ ?_)) rfl (by repeat' (first | exact trivial | exact qAH _ | exact qAp rfl | refine And.intro ?_ ?_)) (by repeat' (first | exact trivial | exact qAH _ | exact qAp rfl | refine And.intro ?_ ?_))
    · have hke : i = L := by simp at hd; omega
      clear hd
      subst hke
      have hcl := hclen i
      generalize tabC q cols i = cs at *
      repeat (first | (with_reducible first | apply qAj | apply qAh | apply qAi | apply qAg | apply qBd | apply qBa | apply qBc | apply qAu | apply xg_ret) | ((with_reducible apply rp); first | (exact qA0 (tyOk rfl) rfl rfl rfl hcl) | ((with_reducible apply qAd); (conv => lhs; whnf)) | ((with_reducible apply qAa); (conv => lhs; whnf))) | ((with_reducible apply rpN); (exact qAb (tyOk rfl) rfl rfl rfl hcl hcl)))
      refine retg_ok (vs := [.ag (cs.map A.d), .px 2000 0, .d (bD true)]) (l := [(2000, 2000)]) ?_ ?_ ?_
      · exact qAr (qAA rfl rfl (tyOk rfl) rfl hcl) (qAr (qAB rfl) (qAr (qAB rfl) qAw))
      · refine SubA.of_eq ?_
        rw [List.map_cons, frzX_map]
        rfl
      · rw [frzXsU_three _ _ _ _ rfl]
        exact ⟨trivial, ⟨rfl, trivial⟩, rfl, trivial, by repeat' (first | exact trivial | exact qAp rfl | refine And.intro ?_ ?_)⟩
end Go.Proofs.YtpaccaojgbfjdaaDoor

