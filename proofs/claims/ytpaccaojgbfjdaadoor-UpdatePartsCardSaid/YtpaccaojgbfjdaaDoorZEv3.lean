/-
  chirograph/eval: an expression made ready, and what it says of a row, as contracts. No condition but that the expression and the row may be.
-/
import Derived.Test.YtpaccaojgbfjdaaDoorZEv2
import Derived.Test.YtpaccaojgbfjdaaDoorZG
set_option linter.unusedSimpArgs false
set_option linter.unusedVariables false
namespace Go.Proofs.YtpaccaojgbfjdaaDoor
open Go.RowKit
open Go.Lib

def thF (cols : List Cl) : Ex → Value
  | .lit v => .iface 154 (.agg #[.int .i64 v.k, .int .i64 v.n, .int .u64 (v.b : Int), .string v.t])
  | .col n => match qF7 n 0 cols with
    | some i => .iface 156 (.agg #[.int .i64 (i : Int)])
    | none => .iface 158 (.agg #[])
  | .un op a => .iface 150 (.agg #[.int .i64 (op : Int), thF cols a])
  | .bi op a b => .iface 152 (.agg #[.int .i64 (op : Int), thF cols a, thF cols b])
theorem qER (cols : List Cl) (x : Ex) : (thF cols x).oneCell' = true := by
  cases x with
  | col n => unfold thF; split <;> rfl
  | _ => rfl
theorem findI_drop {n : ByteArray} {k : Nat} {c : Cl} {cols : List Cl} (h : cols[k]? = some c) : qF7 n k (cols.drop k) = if c.name = n then some k else qF7 n (k + 1) (cols.drop (k + 1)) := by
  obtain ⟨hk, rfl⟩ := List.getElem?_eq_some_iff.1 h
  rw [List.drop_eq_getElem_cons hk]
  rfl
set_option maxHeartbeats 2000000 in
theorem thing_lit (cols : List Cl) (v : Vl) : PC Tryd.prog 52 [.ag (Ex.lit v).cs, qAW cols] (.sc (thF cols (.lit v))) := by
  obtain ⟨k, n, b, t⟩ := v
  unfold Ex.cs thF
  dsimp only
  refine qAs Tryd.func52 rfl (by kernel_rfl) mixed (by kernel_rfl) (qle (by kernel_rfl)) Tryd.results52 ?_
  repeat (first | (with_reducible first | apply qAj | apply qAi | apply qAh | apply qAf | apply qAo | apply qAF | apply qAu | apply qAS | apply qAz | apply qAm) | ((with_reducible apply rp); first | (exact qCn rfl rfl (by kernel_rfl)) | ((with_reducible apply qAa); (conv => lhs; whnf)) | ((with_reducible apply qAc); exact tyOk rfl; eq_refl; eq_refl; decide; eq_refl) | ((with_reducible apply qAe); exact tyOk rfl; (iterate 4 eq_refl)) | ((with_reducible apply qAl); exact tyOk rfl; (iterate 3 eq_refl); exact qle rfl; eq_refl) | ((with_reducible apply qAr); eq_refl; eq_refl) | ((with_reducible apply qBw); exact tyOk rfl; eq_refl; eq_refl) | ((with_reducible apply qAR); exact tyOk rfl; eq_refl; eq_refl; (focus repeat' (first | eq_refl | refine ⟨_, _, rfl, rfl, qle rfl, rfl, ?_⟩)); eq_refl)) | ((with_reducible apply rp1); ((with_reducible apply qAp); eq_refl; eq_refl)) | ((with_reducible apply qA6); eq_refl; eq_refl) | ((with_reducible apply qBq); eq_refl; eq_refl))
  (with_reducible apply qAA); (focus (repeat' (first | (with_reducible apply qAv) | (with_reducible apply qAq) | ((with_reducible apply qAD); eq_refl)))); eq_refl; refine SubD.of_eq ?_
  rfl
set_option maxHeartbeats 2000000 in
theorem thing_un (cols : List Cl) (op : Nat) (a : Ex) (h : PC Tryd.prog 52 [.ag a.cs, qAW cols] (.sc (thF cols a))) : PC Tryd.prog 52 [.ag (Ex.un op a).cs, qAW cols] (.sc (thF cols (.un op a))) := by
  have h1 := qER cols a
  unfold Ex.cs thF
  generalize thF cols a = th at *
  have hxl := a.cs_eq
  generalize a.cs = ca at *
  subst hxl
  have hga : [[iD a.op, iD a.val.k, iD a.val.n, qD a.val.b, strD a.val.t, strD a.nam, .sl 7 (a.args.map Ex.cs)]][0]? = some [iD a.op, iD a.val.k, iD a.val.n, qD a.val.b, strD a.val.t, strD a.nam, .sl 7 (a.args.map Ex.cs)] := rfl
  refine qAs Tryd.func52 rfl (by kernel_rfl) mixed (by kernel_rfl) (qle (by kernel_rfl)) Tryd.results52 ?_
  repeat (first | (with_reducible first | apply qAj | apply qAi | apply qAh | apply qAf | apply qA4 | apply qAo | apply qAu | apply qAS | apply qBc | apply qAz) | ((with_reducible apply qBg); (first | kernel_rfl | eq_refl)) | ((with_reducible first | apply rp | apply dr); first | ((with_reducible apply qAg); eq_refl; eq_refl; exact (h); eq_refl) | (exact qCn rfl rfl (by kernel_rfl)) | ((with_reducible first | apply qAd | apply qAa); (conv => lhs; whnf)) | ((with_reducible first | apply qAc | apply qAe | apply qAr | apply qBw) <;> first | ((with_reducible apply tyOk); eq_refl) | eq_refl | decide) | ((with_reducible apply qAE); exact tyOk rfl; eq_refl; eq_refl; assumption; eq_refl) | ((with_reducible apply qAH); exact tyOk rfl; eq_refl; exact tyOk rfl; (iterate 4 eq_refl); (dsimp only; simp only [List.length_map, List.length_append, List.length_cons, List.length_nil] at *; omega)) | ((with_reducible apply qAR); exact tyOk rfl; eq_refl; eq_refl; (focus repeat' (first | eq_refl | refine ⟨_, _, rfl, rfl, qle rfl, rfl, ?_⟩)); eq_refl)) | ((with_reducible apply rp1); ((with_reducible apply qAp); eq_refl; eq_refl)) | ((with_reducible apply qBq); eq_refl; eq_refl))
  (with_reducible apply qAA); (focus (repeat' (first | (with_reducible apply qAv) | (with_reducible apply qAq) | ((with_reducible apply qAD); eq_refl)))); eq_refl; refine SubD.of_eq ?_
  rfl
set_option maxHeartbeats 2000000 in
theorem thing_bi (cols : List Cl) (op : Nat) (a b : Ex) (h : PC Tryd.prog 52 [.ag a.cs, qAW cols] (.sc (thF cols a))) (h' : PC Tryd.prog 52 [.ag b.cs, qAW cols] (.sc (thF cols b))) : PC Tryd.prog 52 [.ag (Ex.bi op a b).cs, qAW cols] (.sc (thF cols (.bi op a b))) := by
  have h1 := qER cols a
  have h2 := qER cols b
  unfold Ex.cs thF
  generalize thF cols a = th at *
  generalize thF cols b = th' at *
  have hxl := a.cs_eq
  generalize a.cs = ca at *
  subst hxl
  have hyl := b.cs_eq
  generalize b.cs = cb at *
  subst hyl
  have hga : [[iD a.op, iD a.val.k, iD a.val.n, qD a.val.b, strD a.val.t, strD a.nam, .sl 7 (a.args.map Ex.cs)], [iD b.op, iD b.val.k, iD b.val.n, qD b.val.b, strD b.val.t, strD b.nam, .sl 7 (b.args.map Ex.cs)]][0]? = some [iD a.op, iD a.val.k, iD a.val.n, qD a.val.b, strD a.val.t, strD a.nam, .sl 7 (a.args.map Ex.cs)] := rfl
  have hgb : [[iD a.op, iD a.val.k, iD a.val.n, qD a.val.b, strD a.val.t, strD a.nam, .sl 7 (a.args.map Ex.cs)], [iD b.op, iD b.val.k, iD b.val.n, qD b.val.b, strD b.val.t, strD b.nam, .sl 7 (b.args.map Ex.cs)]][1]? = some [iD b.op, iD b.val.k, iD b.val.n, qD b.val.b, strD b.val.t, strD b.nam, .sl 7 (b.args.map Ex.cs)] := rfl
  refine qAs Tryd.func52 rfl (by kernel_rfl) mixed (by kernel_rfl) (qle (by kernel_rfl)) Tryd.results52 ?_
  repeat (first | (with_reducible first | apply qAj | apply qAi | apply qAh | apply qAf | apply qA4 | apply qAo | apply qAu | apply qAS | apply qBc | apply qAz) | ((with_reducible apply qBg); (first | kernel_rfl | eq_refl)) | ((with_reducible first | apply rp | apply dr); first | ((with_reducible apply qAg); eq_refl; eq_refl; (first | exact (h) | exact (h')); eq_refl) | (exact qCn rfl rfl (by kernel_rfl)) | ((with_reducible first | apply qAd | apply qAa); (conv => lhs; whnf)) | ((with_reducible first | apply qAc | apply qAe | apply qAr | apply qBw) <;> first | ((with_reducible apply tyOk); eq_refl) | eq_refl | decide) | ((with_reducible apply qAE); exact tyOk rfl; eq_refl; eq_refl; assumption; eq_refl) | ((with_reducible apply qAH); exact tyOk rfl; eq_refl; exact tyOk rfl; (iterate 4 eq_refl); (dsimp only; simp only [List.length_map, List.length_append, List.length_cons, List.length_nil] at *; omega)) | ((with_reducible apply qAR); exact tyOk rfl; eq_refl; eq_refl; (focus repeat' (first | eq_refl | refine ⟨_, _, rfl, rfl, qle rfl, rfl, ?_⟩)); eq_refl)) | ((with_reducible apply rp1); ((with_reducible apply qAp); eq_refl; eq_refl)) | ((with_reducible apply qA6); eq_refl; eq_refl) | ((with_reducible apply qBq); eq_refl; eq_refl))
  (with_reducible apply qAA); (focus (repeat' (first | (with_reducible apply qAv) | (with_reducible apply qAq) | ((with_reducible apply qAD); eq_refl)))); eq_refl; refine SubD.of_eq ?_
  rfl
set_option maxHeartbeats 2000000 in
theorem thing_col (cols : List Cl) (hl : cols.length ≤ 1000000) (n : ByteArray) : PC Tryd.prog 52 [.ag (Ex.col n).cs, qAW cols] (.sc (thF cols (.col n))) := by
  unfold Ex.cs thF
  refine qAs Tryd.func52 rfl (by kernel_rfl) mixed (by kernel_rfl) (qle (by kernel_rfl)) Tryd.results52 ?_
  repeat (first | (with_reducible first | apply qAj | apply qAi | apply qAh | apply qAf | apply qAo | apply qAF | apply qAm) | ((with_reducible apply rp); first | ((with_reducible apply qAd); (conv => lhs; whnf)) | ((with_reducible apply qAa); (conv => lhs; whnf)) | ((with_reducible apply qAc); exact tyOk rfl; eq_refl; eq_refl; decide; eq_refl) | ((with_reducible apply qAe); exact tyOk rfl; (iterate 4 eq_refl)) | ((with_reducible apply qAr); eq_refl; eq_refl) | ((with_reducible apply qA7); exact tyOk rfl; eq_refl; eq_refl) | ((with_reducible apply qBw); exact tyOk rfl; eq_refl; eq_refl)) | ((with_reducible apply rp1); ((with_reducible apply qAp); eq_refl; eq_refl)) | ((with_reducible apply qA6); eq_refl; eq_refl))
  refine qBf (fun m s => ∃ k, k ≤ cols.length ∧ m = cols.length - k ∧ qF7 n k (cols.drop k) = qF7 n 0 cols ∧ s = ⟨[(1, .d (qAW cols)), (2, .px 2 0), (47, .d (qAW cols)), (48, .d (iD cols.length)), (49, .d (iD k))], [(2, .var 58 [.d (iD 2), .d (iD 0), .d (iD 0), .d (qD 0), .d (strD .empty), .d (strD n), .d (.sl 7 [])])]⟩) _ _ ?_ ⟨0, by omega, rfl, rfl, rfl⟩ ?_
  · refine qAw [] (by repeat' (first | exact qAG | (refine qAx rfl (by exact SubA.refl _) ?_))) (kpX rfl) rfl (insS rfl) (insX rfl)
  · rintro m s ⟨k, hk, rfl, he, rfl⟩
    repeat (first | (with_reducible first | apply qAj | apply qAi | apply qAh | apply qAf) | ((with_reducible apply rp); ((with_reducible apply qAN); eq_refl; eq_refl)))
    refine qAn rfl (fun hd => ?_) (fun hd => ?_)
    · have hlt : k < cols.length := by simp at hd; omega
      clear hd
      obtain ⟨c, hc⟩ : ∃ c, cols[k]? = some c := ⟨_, List.getElem?_eq_getElem hlt⟩
      have hc2 : (cols.map Cl.cs)[k]? = some c.cs := by rw [List.getElem?_map, hc]; rfl
      rw [findI_drop hc] at he
      obtain ⟨cn, ck, cb⟩ := c
      unfold Cl.cs at hc2
      dsimp only at *
      by_cases hn : cn = n
      · subst hn
        rw [if_pos rfl] at he
        rw [← he]
        have h1 : (cn.toList == cn.toList) = true := beq_self_eq_true _
        repeat (first | (with_reducible first | apply qAj | apply qAi | apply qAh | apply qAf | apply qAo | apply qAu | apply qAS | apply qBc | apply qAz | apply qAm) | ((with_reducible apply rp); first | (exact qCn rfl rfl (by kernel_rfl)) | ((with_reducible apply qAd); (conv => lhs; whnf)) | ((with_reducible apply qAa); (conv => lhs; whnf)) | ((with_reducible apply qAc); exact tyOk rfl; eq_refl; eq_refl; decide; eq_refl) | ((with_reducible apply qAe); exact tyOk rfl; (iterate 4 eq_refl)) | ((with_reducible apply qAE); exact tyOk rfl; eq_refl; eq_refl; assumption; eq_refl) | ((with_reducible apply qAH); exact tyOk rfl; eq_refl; exact tyOk rfl; (iterate 4 eq_refl); (simp only [List.length_map, List.length_append, List.length_cons, List.length_nil] at *; omega)) | ((with_reducible apply qDV); eq_refl; eq_refl) | ((with_reducible apply qAR); exact tyOk rfl; eq_refl; eq_refl; (focus repeat' (first | eq_refl | refine ⟨_, _, rfl, rfl, qle rfl, rfl, ?_⟩)); eq_refl)) | ((with_reducible apply rp1); ((with_reducible apply qAk); exact tyOk rfl; eq_refl)) | ((with_reducible apply rpN); ((with_reducible apply qAb); exact tyOk rfl; (iterate 5 eq_refl))) | ((with_reducible apply qAn); eq_refl; rotate_left; (focus (intro hd; (exfalso; simp at hd; done))); (intro hd; clear hd)))
        (with_reducible apply qAA); (focus (repeat' (first | (with_reducible apply qAv) | (with_reducible apply qAq) | ((with_reducible apply qAD); eq_refl)))); eq_refl; refine SubD.of_eq ?_
        rfl
      · rw [if_neg hn] at he
        have h1 : (cn.toList == n.toList) = false := beq_eq_false_iff_ne.2 fun h => hn (ba_eq h)
        repeat (first | (with_reducible first | apply qAj | apply qAi | apply qAh | apply qAf | apply qAo | apply qAm) | ((with_reducible apply rp); first | ((with_reducible apply qAd); (conv => lhs; whnf)) | ((with_reducible apply qAa); (conv => lhs; whnf)) | ((with_reducible apply qAc); exact tyOk rfl; eq_refl; eq_refl; decide; eq_refl) | ((with_reducible apply qAe); exact tyOk rfl; (iterate 4 eq_refl)) | ((with_reducible apply qAE); exact tyOk rfl; eq_refl; eq_refl; assumption; eq_refl) | ((with_reducible apply qAH); exact tyOk rfl; eq_refl; exact tyOk rfl; (iterate 4 eq_refl); (simp only [List.length_map, List.length_append, List.length_cons, List.length_nil] at *; omega)) | ((with_reducible apply qDV); eq_refl; eq_refl)) | ((with_reducible apply rp1); ((with_reducible apply qAk); exact tyOk rfl; eq_refl)) | ((with_reducible apply rpN); ((with_reducible apply qAb); exact tyOk rfl; (iterate 5 eq_refl))))
        refine qAn rfl (fun hd => absurd (h1.symm.trans hd) (by decide)) (fun hd => ?_)
        clear hd
        repeat (first | (with_reducible first | apply qAi | apply qAh | apply qAf | apply qAF | apply qAm) | ((with_reducible apply rp); first | ((with_reducible apply qAd); (conv => lhs; whnf)) | ((with_reducible apply qAI); eq_refl; eq_refl; omega; omega)))
        refine ⟨_, _, ?_, ?_, k + 1, by omega, rfl, he, rfl⟩
        · omega
        · refine qAw [] (by repeat' (first | exact qAG | (refine qAx rfl (by exact SubA.refl _) ?_))) (kpX rfl) rfl (insS rfl) (insX rfl)
    · have hke : k = cols.length := by simp at hd; omega
      clear hd
      subst hke
      rw [List.drop_length] at he
      rw [← he]
      repeat (first | (with_reducible first | apply qAj | apply qAi | apply qAh | apply qAf | apply qA5 | apply qA9 | apply qA8 | apply qAu | apply qAz) | ((with_reducible apply rp); first | (exact qCn rfl rfl (by kernel_rfl)) | ((with_reducible apply qAa); (conv => lhs; whnf)) | ((with_reducible apply qAV); exact tyOk rfl; eq_refl; eq_refl)))
      (with_reducible apply qAA); (focus (repeat' (first | (with_reducible apply qAv) | (with_reducible apply qAq) | ((with_reducible apply qAD); eq_refl)))); eq_refl; refine SubD.of_eq ?_
      rfl
theorem qDL (cols : List Cl) (hl : cols.length ≤ 1000000) : ∀ x : Ex, PC Tryd.prog 52 [.ag x.cs, qAW cols] (.sc (thF cols x))
  | .lit v => thing_lit cols v
  | .col n => thing_col cols hl n
  | .un op a => thing_un cols op a (qDL cols hl a)
  | .bi op a b => thing_bi cols op a b (qDL cols hl a) (qDL cols hl b)
end Go.Proofs.YtpaccaojgbfjdaaDoor

