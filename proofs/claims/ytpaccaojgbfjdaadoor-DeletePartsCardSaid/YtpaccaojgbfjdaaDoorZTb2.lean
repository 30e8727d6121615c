/-
  chirograph/table: Check as a contract. No condition but that the table may be.
-/
import Derived.Test.YtpaccaojgbfjdaaDoorZTb1
import Derived.Test.YtpaccaojgbfjdaaDoorZK
set_option linter.unusedSimpArgs false
set_option linter.unusedVariables false
namespace Go.Proofs.YtpaccaojgbfjdaaDoor
open Go.RowKit

def drF (a b : List Ce) (i : Nat) : List Ce := if i = 0 then a else b
section
variable {P : Program} {dst : Option Nat} {ty : TypeId} {e : Operand → A} {β : Bx} {T T0 el : TypeId} {x y : Operand}
theorem qDf {t te : TyI} {len esz i : Nat} {er : Bool} {k : IntKind} {n : Int} {a b : List Ce} (ht : mkTy P T = some t) (hk : t.kind = .array len el esz er) (hte : mkTy P el = some te) (hr : te.row = true) (h2 : te.size = 8) (h3 : len = 2) (hx : e x = .d (.ag (a.flatMap Ce.cs ++ b.flatMap Ce.cs))) (hy : e y = .d (.sc (.int k n))) (hn : n = (i : Nat)) (hi : i < 2) (ha : a.length = 4) (hb : b.length = 4) :
    Does P dst (.index T x y) ty e β (.d (.ag ((drF a b i).flatMap Ce.cs))) [] [] := by
  have la : (a.flatMap Ce.cs).length = 8 := by rw [qBJ, ha]
  have lb : (b.flatMap Ce.cs).length = 8 := by rw [qBJ, hb]
  have h := qD4 (P := P) (dst := dst) (ty := ty) (e := e) (β := β) (x := x) (y := y) ht hk hte hr hx hy hn (by omega) (by rw [List.length_append, la, lb, h2, h3])
  rw [h2] at h
  rcases (by omega : i = 0 ∨ i = 1) with rfl | rfl
  · rw [Nat.zero_mul, List.drop_zero, List.take_append_of_le_length (by omega), List.take_of_length_le (by omega)] at h
    exact h
  · rw [Nat.one_mul, show (8 : Nat) = (a.flatMap Ce.cs).length from la.symm, List.drop_left, List.take_of_length_le (by omega)] at h
    exact h
theorem qEi {t : TyI} {id : Nat} {pre : List D} {a b : List Ce} (ht : mkTy P T = some t) (hr : t.row = true) (h2 : t.size = 16) (hx : e x = .px id 3) (hl : look id β = some (.var T0 ((pre ++ (a.flatMap Ce.cs ++ b.flatMap Ce.cs)).map .d))) (hp : pre.length = 3) (ha : a.length = 4) (hb : b.length = 4) : Does P dst (.load T x) ty e β (.d (.ag (a.flatMap Ce.cs ++ b.flatMap Ce.cs))) [] [id] := by
  have la : (a.flatMap Ce.cs).length = 8 := by rw [qBJ, ha]
  have lb : (b.flatMap Ce.cs).length = 8 := by rw [qBJ, hb]
  have ll : (a.flatMap Ce.cs ++ b.flatMap Ce.cs).length = 16 := by rw [List.length_append, la, lb]
  refine qAl ht hr hx hl (by rw [List.length_map, List.length_append, ll, hp, h2]; omega) ?_
  rw [h2, ← List.map_drop, show (3 : Nat) = pre.length from hp.symm, List.drop_left, List.take_of_length_le (by rw [List.length_map, ll]; omega)]
  exact qC6 _
end
set_option maxHeartbeats 4000000 in
theorem check_tb (t : Tb) (h : TbOk t) : PC Tryd.prog 16 [.ag t.cs] (iD 0) := by
  obtain ⟨tn, tc, a, b⟩ := t
  obtain ⟨hn, hc, hk, ha, hb⟩ := h
  dsimp only at *
  have n1 := name_pc tn hn
  have c1 := qDQ tc hc
  have hl5 := hc.len
  have ha4 := ha.len
  have hb4 := hb.len
  obtain ⟨kn, kl, rfl⟩ := hk
  have hlen : ((⟨kn, 2, false⟩ :: kl : List Cl).map Cl.cs).length = kl.length + 1 := by simp
  have hg0 : ((⟨kn, 2, false⟩ :: kl : List Cl).map Cl.cs)[0]? = some [strD kn, iD 2, bD false] := rfl
  unfold Tb.cs
  dsimp only
  refine qAs Tryd.func16 rfl (by kernel_rfl) mixed (by kernel_rfl) (qle (by kernel_rfl)) Tryd.results16 ?_
  repeat (first | (with_reducible first | apply qAj | apply qAh | apply qAi | apply qAg | apply qAq | apply qAm) | ((first | (with_reducible apply rp) | ((with_reducible apply rpG); exact rfl; exact qAR rfl; (focus repeat' (first | exact trivial | exact fun h => h | refine And.intro ?_ ?_)); intro hgd; have hgd0 := hgd; (try simp only [decide_eq_true_eq, Bool.and_eq_true, Bool.not_eq_true', beq_iff_eq] at hgd))); first | ((with_reducible apply qAf); exact rfl; exact rfl; (first | exact (n1) | exact (c1)); exact rfl) | (exact qEi (a := a) (b := b) (pre := [bD true, strD tn, qAY (⟨kn, 2, false⟩ :: kl)]) (tyOk rfl) rfl rfl rfl rfl rfl ha4 hb4) | ((with_reducible first | apply qAd | apply qAa); (conv => lhs; whnf)) | ((with_reducible first | apply qAK | apply qAc | apply qAe | apply qAt | apply qAV | apply qAX | apply qA3) <;> first | ((with_reducible apply tyOk); exact rfl) | exact rfl | exact fun h => h | decide) | ((with_reducible apply qBB); exact tyOk rfl; exact rfl; exact rfl; assumption; exact rfl) | ((with_reducible apply qAM); exact tyOk rfl; exact rfl; exact tyOk rfl; (iterate 4 exact rfl); (dsimp only; omega)) | ((with_reducible apply qAT); exact tyOk rfl; exact rfl; exact rfl; (focus repeat' (first | exact rfl | refine ⟨_, _, rfl, rfl, qle rfl, rfl, ?_⟩)); exact rfl)) | ((with_reducible apply rp1); ((with_reducible apply qAn); exact rfl; exact rfl)) | ((with_reducible apply qA9); exact rfl; exact rfl))
  clear hg0 hlen n1
  generalize htc : (⟨kn, 2, false⟩ :: kl : List Cl) = tc at *
  refine qBn (fun m s => ∃ i, i ≤ 2 ∧ m = 2 - i ∧ s = ⟨[(1, .px 1 0), (44, .d (.ag (a.flatMap Ce.cs ++ b.flatMap Ce.cs))), (45, .d (iD i))], [(1, .var 30 (([bD true, strD tn, qAY tc] ++ (a.flatMap Ce.cs ++ b.flatMap Ce.cs)).map .d))]⟩) _ _ ?_ ⟨0, by omega, rfl, rfl⟩ ?_
  · refine qAx [] (by repeat' (first | exact qAI | (refine qAD rfl (by exact SubA.refl _) ?_))) (by repeat' (first | exact trivial | exact kb_d rfl | refine And.intro ?_ ?_)) rfl (by repeat' (first | exact trivial | exact qAH _ | exact qAp rfl | refine And.intro ?_ ?_)) (by repeat' (first | exact trivial | exact qAH _ | exact qAp rfl | refine And.intro ?_ ?_))
  · rintro m s ⟨i, hi2, rfl, rfl⟩
    repeat (first | (with_reducible first | apply qAj | apply qAh | apply qAi | apply qAg) | ((with_reducible apply rp); ((with_reducible apply qAU); exact rfl; exact rfl)))
    refine qAo rfl (fun hd => ?_) (fun hd => ?_)
    · have hlt : i < 2 := by simp at hd; omega
      clear hd
      obtain ⟨d, hd⟩ : ∃ d, drF a b i = d := ⟨_, rfl⟩
      have hdo : DrOk tc d := by rw [← hd]; unfold drF; split; exact ha; exact hb
      have h4 := hdo.len
      have h8 : (d.flatMap Ce.cs).length = 8 := by rw [qBJ, h4]
      have k1 := keys_pc tc ⟨kn, kl, htc.symm⟩ d hdo
      have ix := fun (P : Program) (dst : Option Nat) (ty : TypeId) (e : Operand → A) (β : Bx) (T el : TypeId) (x y : Operand) (t te : TyI) (len esz : Nat) (er : Bool) (k : IntKind) (n : Int) (h1 : mkTy P T = some t) (h2 : t.kind = .array len el esz er) (h3 : mkTy P el = some te) (h4 : te.row = true) (h5 : te.size = 8) (h6 : len = 2) (h7 : e x = .d (.ag (a.flatMap Ce.cs ++ b.flatMap Ce.cs))) (h8 : e y = .d (.sc (.int k n))) (h9 : n = (i : Nat)) => by
        have := qDf (P := P) (dst := dst) (ty := ty) (e := e) (β := β) (x := x) (y := y) h1 h2 h3 h4 h5 h6 h7 h8 h9 hlt ha4 hb4
        rw [hd] at this
        exact this
      repeat (first | (with_reducible first | apply qAj | apply qAh | apply qAi | apply qAg | apply qAq | apply qAm) | ((with_reducible apply rp); first | (exact ix _ _ _ _ _ _ _ _ _ _ _ _ _ _ _ _ (tyOk rfl) rfl (tyOk rfl) rfl rfl rfl rfl rfl rfl) | (exact qCa (tyOk rfl) rfl rfl rfl rfl h4) | ((with_reducible apply qAd); (conv => lhs; whnf))) | ((with_reducible apply rp1); ((with_reducible apply qAk); exact tyOk rfl; exact rfl)) | ((with_reducible apply rpN); (exact qAb (tyOk rfl) rfl rfl rfl h8 h8)))
      refine qBn (fun m s => ∃ k, k ≤ 4 ∧ m = 4 - k ∧ s = ⟨[(1, .px 1 0), (5, .px 5 0), (44, .d (.ag (a.flatMap Ce.cs ++ b.flatMap Ce.cs))), (45, .d (iD i)), (48, .d (.ag (d.flatMap Ce.cs))), (49, .d (iD k))], [(1, .var 30 (([bD true, strD tn, qAY tc] ++ (a.flatMap Ce.cs ++ b.flatMap Ce.cs)).map .d)), (5, .var 27 ((d.flatMap Ce.cs).map .d))]⟩) _ _ ?_ ⟨0, by omega, rfl, rfl⟩ ?_
      · refine qAx [] (by repeat' (first | exact qAI | (refine qAD rfl (by exact SubA.refl _) ?_))) (by repeat' (first | exact trivial | exact kb_d rfl | refine And.intro ?_ ?_)) rfl (by repeat' (first | exact trivial | exact qAH _ | exact qAp rfl | refine And.intro ?_ ?_)) (by repeat' (first | exact trivial | exact qAH _ | exact qAp rfl | refine And.intro ?_ ?_))
      · rintro m s ⟨k, hk4, rfl, rfl⟩
        repeat (first | (with_reducible first | apply qAj | apply qAh | apply qAi | apply qAg) | ((with_reducible apply rp); ((with_reducible apply qAU); exact rfl; exact rfl)))
        refine qAo rfl (fun hd => ?_) (fun hd => ?_)
        · have hlt4 : k < 4 := by simp at hd; omega
          clear hd
          obtain ⟨c, hcc⟩ : ∃ c, d[k]? = some c := ⟨_, List.getElem?_eq_getElem (by omega)⟩
          have hco := hdo.ok c (List.mem_of_getElem? hcc)
          obtain ⟨cf, cr⟩ := c
          cases cf with
          | true =>
            have r1 := qFW cr tc hc (hco.fit rfl)
            repeat (first | (with_reducible first | apply qAj | apply qAh | apply qAi | apply qAg | apply qAq | apply qAF | apply qAm) | ((first | (with_reducible apply rp) | ((with_reducible apply rpG); exact rfl; exact qAZ rfl; (focus repeat' (first | exact trivial | exact fun h => h | refine And.intro ?_ ?_)); intro hgd; have hgd0 := hgd; (try simp only [decide_eq_true_eq, Bool.and_eq_true, Bool.not_eq_true', beq_iff_eq] at hgd))); first | (exact qBr (d := d) (c := ⟨true, cr⟩) (tyOk rfl) rfl (tyOk rfl) rfl rfl rfl rfl rfl h4 hcc) | ((with_reducible apply qAf); exact rfl; exact rfl; exact (r1); exact rfl) | ((with_reducible first | apply qAd | apply qAa); (conv => lhs; whnf)) | ((with_reducible first | apply qAQ | apply qAc | apply qAe | apply qAV | apply qBH | apply qAX | apply qA3) <;> first | ((with_reducible apply tyOk); exact rfl) | exact rfl | exact fun h => h | decide) | ((with_reducible apply qAJ); exact rfl; exact rfl; omega; omega)) | ((with_reducible apply rp1); ((with_reducible apply qAk); exact tyOk rfl; exact rfl)) | ((with_reducible apply rpN); ((with_reducible apply qAb); exact tyOk rfl; (iterate 5 exact rfl))) | ((with_reducible apply qA9); exact rfl; exact rfl))
            refine ⟨_, _, ?_, ?_, k + 1, by omega, rfl, rfl⟩
            · omega
            · refine qAx [] (by repeat' (first | exact qAI | (refine qAD rfl (by exact SubA.refl _) ?_))) (by repeat' (first | exact trivial | exact kb_d rfl | refine And.intro ?_ ?_)) rfl (by repeat' (first | exact trivial | exact qAH _ | exact qAp rfl | refine And.intro ?_ ?_)) (by repeat' (first | exact trivial | exact qAH _ | exact qAp rfl | refine And.intro ?_ ?_))
          | false =>
            have hr0 : cr = [] := hco.none rfl
            subst hr0
            repeat (first | (with_reducible first | apply qAj | apply qAh | apply qAi | apply qAg | apply qAq | apply qBd | apply qBa | apply qBc | apply qAm) | ((first | (with_reducible apply rp) | ((with_reducible apply rpG); exact rfl; exact qAZ rfl; (focus repeat' (first | exact trivial | exact fun h => h | refine And.intro ?_ ?_)); intro hgd; have hgd0 := hgd; (try simp only [decide_eq_true_eq, Bool.and_eq_true, Bool.not_eq_true', beq_iff_eq] at hgd))); first | (exact qBr (d := d) (c := ⟨false, []⟩) (tyOk rfl) rfl (tyOk rfl) rfl rfl rfl rfl rfl h4 hcc) | ((with_reducible apply qAd); (conv => lhs; whnf)) | ((with_reducible first | apply qAQ | apply qAc | apply qAe | apply qBH | apply qAX | apply qA3) <;> first | ((with_reducible apply tyOk); exact rfl) | exact rfl | exact fun h => h | decide) | ((with_reducible apply qAJ); exact rfl; exact rfl; omega; omega)) | ((with_reducible apply rp1); ((with_reducible apply qAk); exact tyOk rfl; exact rfl)) | ((with_reducible apply rpN); ((with_reducible apply qAb); exact tyOk rfl; (iterate 5 exact rfl))) | ((with_reducible apply qA9); exact rfl; exact rfl) | ((with_reducible apply qBo); exact rfl; exact rfl))
            refine ⟨_, _, ?_, ?_, k + 1, by omega, rfl, rfl⟩
            · omega
            · refine qAx [] (by repeat' (first | exact qAI | (refine qAD rfl (by exact SubA.refl _) ?_))) (by repeat' (first | exact trivial | exact kb_d rfl | refine And.intro ?_ ?_)) rfl (by repeat' (first | exact trivial | exact qAH _ | exact qAp rfl | refine And.intro ?_ ?_)) (by repeat' (first | exact trivial | exact qAH _ | exact qAp rfl | refine And.intro ?_ ?_))
        · have hke : k = 4 := by simp at hd; omega
          clear hd
          subst hke
          repeat (first | (with_reducible first | apply qAj | apply qAh | apply qAi | apply qAg | apply qBd | apply qBa | apply qBc | apply qAF | apply qAm) | ((with_reducible apply rp); first | (exact qCa (tyOk rfl) rfl rfl rfl rfl h4) | ((with_reducible apply qAf); exact rfl; exact rfl; exact (k1); exact rfl) | ((with_reducible apply qAd); (conv => lhs; whnf)) | ((with_reducible apply qAa); (conv => lhs; whnf)) | ((with_reducible apply qAV); exact rfl; exact rfl) | ((with_reducible apply qAJ); exact rfl; exact rfl; omega; omega)) | ((with_reducible apply qA9); exact rfl; exact rfl))
          refine ⟨_, _, ?_, ?_, i + 1, by omega, rfl, rfl⟩
          · omega
          · refine qAx [] (by repeat' (first | exact qAI | (refine qAD rfl (by exact SubA.refl _) ?_))) (by repeat' (first | exact trivial | exact kb_d rfl | refine And.intro ?_ ?_)) rfl (by repeat' (first | exact trivial | exact qAH _ | exact qAp rfl | refine And.intro ?_ ?_)) (by repeat' (first | exact trivial | exact qAH _ | exact qAp rfl | refine And.intro ?_ ?_))
    · have hke : i = 2 := by simp at hd; omega
      clear hd
      subst hke
      repeat (first | (with_reducible first | apply qAj | apply qAh | apply qAi | apply qAg | apply qBd | apply qBa | apply qBc | apply qAu | apply qAy) | ((with_reducible apply rp); ((with_reducible apply qAa); (conv => lhs; whnf))))
      (with_reducible apply qAz); (focus (repeat' (first | (with_reducible apply qAw) | (with_reducible apply qAr) | ((with_reducible apply qAB); exact rfl)))); exact rfl; refine SubD.of_eq ?_
      rfl
end Go.Proofs.YtpaccaojgbfjdaaDoor

