/-
  chirograph/table: Update of the first column as a contract. No condition but that the table and the expressions may be.
-/
import Derived.Test.YtpaccaojgbfjdaaDoorZTbU
import Derived.Test.YtpaccaojgbfjdaaDoorZTbE
set_option linter.unusedSimpArgs false
set_option linter.unusedVariables false
namespace Go.Proofs.YtpaccaojgbfjdaaDoor
open Go.RowKit

section
variable {P : Program} {dst : Option Nat} {ty : TypeId} {e : Operand → A} {β : Bx} {T T0 : TypeId} {x y : Operand} {t : TyI}
theorem does_store_one {id off : Nat} {L : List D} {v : D} (ht : mkTy P T = some t) (hs : t.size = 1) (hx : e x = .px id off) (hy : e y = .d v) (h1 : (A.d v).one = true) (hl : look id β = some (.var T0 (L.map .d))) (hoff : off < L.length) :
    Does P dst (.store T x y) ty e β .un [(id, .var T0 ((L.set off v).map .d))] [id] := by
  have h := qBj (P := P) (dst := dst) (ty := ty) ht hs hx hy h1 hl (by rw [List.length_map]; exact hoff)
  rwa [← List.map_set] at h
theorem qD1 {id off : Nat} {L l : List D} (ht : mkTy P T = some t) (hr : t.row = true) (hx : e x = .px id off) (hl : look id β = some (.var T0 (L.map .d))) (h2 : off + t.size ≤ L.length) (h3 : (L.drop off).take t.size = l) : Does P dst (.load T x) ty e β (.d (.ag l)) [] [id] := by
  refine qAl ht hr hx hl (by rw [List.length_map]; exact h2) ?_
  rw [← List.map_drop, ← List.map_take, h3]
  exact qCN _
end
def updR (t : Tb) (i : Nat) (y : List Vl → Bool) (er kd : Nat) : D :=
  if er ≠ 0 then .tu [.ag tb0, iD 0, iD er] else if kd ≠ 0 then .tu [.ag tb0, iD 0, iD kd] else .tu [.ag (t.dr i (updD y (drF t.a t.b i) 4)).cs, iD (delN y (drF t.a t.b i) 4), iD 0]
set_option maxHeartbeats 8000000 in
theorem update_pc (t : Tb) (h : TbOk t) (i : Nat) (hi : i < 2) (x : Ex) (hok : x.ok) (hd : x.deep ≤ 7) (hn : x.num ≤ 40) (hk : Kd (ofF t.cols x) 1) (S : D) (kd : Nat)
    (s1 : PC Tryd.prog 55 [S, qAW t.cols] (iD 0))
    (hch : ∀ c ∈ drF t.a t.b i, c.full = true → PC Tryd.prog 56 [qBx c.row, qAW t.cols, S] (.tu [qBx (key3 c.row), iD 0]))
    (hkd : PC Tryd.prog 44 [.ag ((updD (fun r => holF t.cols r x) (drF t.a t.b i) 4).flatMap Ce.cs)] (iD kd)) :
    PC Tryd.prog 30 [.ag t.cs, iD i, .ag x.cs, S] (updR t i (fun r => holF t.cols r x) (errF (fun r => (evF t.cols r x).e) (drF t.a t.b i)) kd) := by
  have b1 := begun_pc t h i hi
  have c1 := cond_pc t.cols h.cols x hok hd hn hk
  have hp : ∀ c ∈ drF t.a t.b i, c.full = true → PC Tryd.prog 28 [.ag x.cs, qAW t.cols, qBx c.row] (.tu [bD (holF t.cols c.row x), iD (evF t.cols c.row x).e]) := fun c hc hf => by
    have hfit : CeOk t.cols c := by
      unfold drF at hc
      split at hc
      · exact h.a.ok c hc
      · exact h.b.ok c hc
    exact holds_pc t.cols h.cols x hok hd hn hk c.row (hfit.fit hf)
  have hdl : (drF t.a t.b i).length = 4 := by
    unfold drF
    split
    · exact h.a.len
    · exact h.b.len
  have hla := h.a.len
  have hlb := h.b.len
  have ht0 : t.dr i (updD (fun r => holF t.cols r x) (drF t.a t.b i) 0) = t := by
    show t.dr i (drF t.a t.b i) = t
    unfold Tb.dr drF
    split <;> rfl
  have hlen := Tb.len h
  have hcol : t.cs[2]? = some (qAW t.cols) := rfl
  have hxl := x.cs_len
  clear h hok hd hn hk
  unfold updR
  generalize drF t.a t.b i = d at *
  have hy0 : ∀ r, (evF t.cols r x).e ≠ 0 → holF t.cols r x = false := fun r hr => by unfold holF; rw [beq_eq_false_iff_ne.2 hr]; rfl
  generalize hyy : (fun r => holF t.cols r x) = y at *
  generalize hee : (fun r => (evF t.cols r x).e) = ev at *
  have hp1 : ∀ c ∈ d, c.full = true → PC Tryd.prog 28 [.ag x.cs, qAW t.cols, qBx c.row] (.tu [bD (y c.row), iD (ev c.row)]) := fun c hc hf => by
    rw [← hyy, ← hee]
    exact hp c hc hf
  clear hp hyy hee hy0
  have hspec : ∀ k, (t.dr i (updD y d k)).cs.length = 19 ∧ (t.dr i (updD y d k)).cs[2]? = some (qAW t.cols) := fun k => dr_len hla hlb i (by rw [updD_len]; exact hdl)
  have hget : ∀ k c, d[k]? = some c → (t.dr i (updD y d k)).cs[3 + i * 8 + k * 2]? = some (bD c.full) ∧ (t.dr i (updD y d k)).cs[3 + i * 8 + k * 2 + 1]? = some (qBx c.row) := fun k c hc => dr_get hla hi (updD_succ y hc).2.2
  have hput : ∀ k c, d[k]? = some c → (t.dr i (updD y d (k + 1))).cs = if goB y c = true then (t.dr i (updD y d k)).cs.set (3 + i * 8 + k * 2 + 1) (qBx (key3 c.row)) else (t.dr i (updD y d k)).cs := fun k c hc => by
    obtain ⟨u1, u2, u3⟩ := updD_succ y hc
    split
    · rename_i hg
      have hf : c.full = true := by unfold goB at hg; rw [Bool.and_eq_true] at hg; exact hg.1
      have hu : updC y c = ⟨true, key3 c.row⟩ := if_pos hg
      rw [u1, hu, dr_row hla hlb hi (by rw [updD_len]; exact hdl) u3 hf]
    · rename_i hg
      rw [u2 (if_neg hg)]
  have hpart := dr_part (t := t) hla hi (d := updD y d 4) (by rw [updD_len]; exact hdl)
  generalize hUU : (fun k => (t.dr i (updD y d k)).cs) = U at *
  have hU : ∀ k, (t.dr i (updD y d k)).cs = U k := fun k => by rw [← hUU]
  simp only [hU] at hspec hget hput hpart ⊢
  have hcs : t.cs = U 0 := by rw [← hU 0, ht0]
  generalize (updD y d 4).flatMap Ce.cs = D4 at *
  generalize x.cs = xc at *
  generalize t.cols = cols at *
  rw [hcs] at b1 hlen hcol ⊢
  clear hcs ht0 hU hUU hla hlb
  have hcolA : ((U 0).map A.d)[2]? = some (.d (qAW cols)) := qF3 hcol
  have herr : ∀ k c, d[k]? = some c → errF ev (d.drop k) = if c.full = true ∧ ev c.row ≠ 0 then ev c.row else errF ev (d.drop (k + 1)) := fun k c hc => errF_drop ev hc
  have herr0 : errF ev (d.drop 0) = errF ev d := rfl
  have herr4 : errF ev (d.drop 4) = 0 := by rw [List.drop_eq_nil_of_le (by omega)]; rfl
  generalize errF ev d = er at *
  refine qAs Tryd.func30 rfl (by kernel_rfl) mixed (by kernel_rfl) (qle (by kernel_rfl)) Tryd.results30 ?_
  repeat (first | (with_reducible first | apply qAj | apply qAi | apply qAh | apply qAf | apply qAo | apply qAm) | ((with_reducible apply rp); first | (exact qA3 (tyOk rfl) rfl rfl rfl hlen) | (exact qA3 (tyOk rfl) rfl rfl rfl hxl) | ((with_reducible apply qAK); (iterate 3 eq_refl); exact (b1)) | (exact qAe (tyOk rfl) rfl rfl rfl hcolA) | ((with_reducible apply qAg); eq_refl; eq_refl; exact (c1); eq_refl) | ((with_reducible apply qAg); eq_refl; eq_refl; exact (s1); eq_refl) | ((with_reducible apply qAd); (conv => lhs; whnf)) | ((with_reducible apply qAa); (conv => lhs; whnf)) | ((with_reducible apply qAc); exact tyOk rfl; eq_refl; eq_refl; decide; eq_refl) | ((with_reducible apply qAr); eq_refl; eq_refl) | ((with_reducible apply qAU); eq_refl; eq_refl) | ((with_reducible apply qAt); eq_refl; eq_refl)) | ((with_reducible apply rp1); first | ((with_reducible apply qAp); eq_refl; eq_refl) | ((with_reducible apply qAk); exact tyOk rfl; eq_refl)) | ((with_reducible apply rpN); (exact qAb (tyOk rfl) rfl rfl rfl hlen (by rw [List.length_map]))) | ((with_reducible apply qA6); eq_refl; eq_refl) | ((with_reducible apply qBq); eq_refl; eq_refl))
  refine qBf (fun m s => ∃ k, k ≤ 4 ∧ errF ev (d.drop k) = er ∧ m = 4 - k ∧ s = ⟨[(1, .d (iD i)), (3, .d S), (4, .px 4 0), (6, .px 6 0), (8, .px 8 0), (12, .d (iD (delN y d k))), (40, .d (iD k))], [(4, .var 30 ((U k).map .d)), (6, .var 58 (xc.map .d)), (8, .var 30 (tb0.map .d))]⟩) _ _ ?_ ⟨0, by omega, herr0, rfl, rfl⟩ ?_
  · refine qAw [] (by repeat' (first | exact qAG | (refine qAx rfl (by exact SubA.refl _) ?_))) (by repeat' (first | exact trivial | eq_refl | exact kb_d rfl | apply And.intro)) rfl (insS rfl) (by repeat' (first | exact trivial | exact qA0 _ | exact qAX rfl | apply And.intro))
  · rintro m s ⟨k, hk4, hke, rfl, rfl⟩
    repeat (first | (with_reducible first | apply qAj | apply qAi | apply qAh | apply qAf) | ((with_reducible apply rp); ((with_reducible apply qAN); eq_refl; eq_refl)))
    refine qAn rfl (fun hd => ?_) (fun hd => ?_)
    · have hlt4 : k < 4 := by simp at hd; omega
      clear hd
      obtain ⟨c, hcc⟩ : ∃ c, d[k]? = some c := ⟨_, List.getElem?_eq_getElem (by omega)⟩
      have hm := List.mem_of_getElem? hcc
      obtain ⟨q1, q2⟩ := hspec k
      obtain ⟨q4, q5⟩ := hget k c hcc
      have hns := delN_succ y hcc
      have hnext := hput k c hcc
      have hen := herr k c hcc
      have hN : delN y d k ≤ 4 := by
        unfold delN
        have := List.length_filter_le (goB y) (d.take k)
        rw [List.length_take] at this
        omega
      generalize delN y d k = cnt at *
      generalize U k = L at *
      have g2 : (L.map A.d)[2]? = some (.d (qAW cols)) := qF3 q2
      have g4 : (L.map A.d)[3 + i * 8 + k * 2]? = some (.d (bD c.full)) := qF3 q4
      have g5 : (L.map A.d)[3 + i * 8 + k * 2 + 1]? = some (.d (qBx c.row)) := qF3 q5
      cases hcf : c.full with
      | true =>
        have hp2 := hp1 c hm hcf
        have hc2 := hch c hm hcf
        rw [hcf] at g4
        have hgo : goB y c = y c.row := by unfold goB; rw [hcf, Bool.true_and]
        rw [hgo] at hns hnext
        by_cases hev : ev c.row = 0
        · rw [hev] at hp2
          rw [if_neg (fun h => h.2 hev), hke] at hen
          repeat (first | (with_reducible first | apply qAj | apply qAi | apply qAh | apply qAf | apply qA4 | apply qAo | apply qAm) | ((with_reducible apply qBg); (first | kernel_rfl | eq_refl)) | ((first | (with_reducible first | apply rp | apply dr) | ((with_reducible apply rpG); eq_refl; exact qAT rfl; (focus repeat' (first | exact trivial | apply And.intro)); intro zg; have zh := zg; (try simp only [zs1, zs2, zs3, zs4] at zg))); first | (exact qAe (tyOk rfl) rfl rfl rfl g4) | (exact qAe (tyOk rfl) rfl rfl rfl g5) | (exact qAe (tyOk rfl) rfl rfl rfl g2) | (exact qA3 (tyOk rfl) rfl rfl rfl hxl) | ((with_reducible apply qAg); eq_refl; eq_refl; exact (hp2); eq_refl) | ((with_reducible first | apply qAd | apply qAa); (conv => lhs; whnf)) | ((with_reducible first | apply qAM | apply qAc | apply qAr | apply qAZ | apply qAt | apply qBn) <;> first | ((with_reducible apply tyOk); eq_refl) | eq_refl | exact id | decide) | ((with_reducible apply qAL); exact tyOk rfl; (iterate 3 eq_refl); omega; decide; eq_refl)) | ((with_reducible apply qA6); eq_refl; eq_refl))
          cases hy : y c.row with
          | true =>
            rw [hy, if_pos rfl] at hns hnext
            refine qAn rfl (fun _ => ?_) (fun hc => (by cases hc))
            repeat (first | (with_reducible first | apply qAj | apply qAi | apply qAh | apply qAf | apply qA4 | apply qAF | apply qAm) | ((with_reducible apply qBg); (first | kernel_rfl | eq_refl)) | ((with_reducible first | apply rp | apply dr); first | (exact qAe (tyOk rfl) rfl rfl rfl g2) | (exact qAe (tyOk rfl) rfl rfl rfl g5) | (exact qBE (z := ((cnt + 1 : Nat) : Int)) rfl rfl (by omega) (by omega) (by omega)) | ((with_reducible apply qAK); (iterate 3 eq_refl); exact (hc2)) | ((with_reducible first | apply qAd | apply qAa); (conv => lhs; whnf)) | ((with_reducible first | apply qAc | apply qAU | apply qAt | apply qBn) <;> first | ((with_reducible apply tyOk); eq_refl) | eq_refl | decide) | ((with_reducible apply qAI); eq_refl; eq_refl; omega; omega)) | ((with_reducible apply drN); (exact does_store_one (tyOk rfl) rfl rfl rfl rfl rfl (by rw [q1]; omega))) | ((with_reducible apply qA6); eq_refl; eq_refl))
            refine ⟨_, _, ?_, ?_, k + 1, by omega, hen.symm, rfl, rfl⟩
            · omega
            · rw [hns, hnext]
              refine qAw [] (by repeat' (first | exact qAG | (refine qAx rfl (by exact SubA.refl _) ?_))) (by repeat' (first | exact trivial | eq_refl | exact kb_d rfl | apply And.intro)) rfl (insS rfl) (by repeat' (first | exact trivial | exact qA0 _ | exact qAX rfl | apply And.intro))
          | false =>
            rw [hy, if_neg (by decide)] at hns hnext
            refine qAn rfl (fun hc => (by cases hc)) (fun _ => ?_)
            repeat (first | (with_reducible first | apply qAj | apply qAi | apply qAh | apply qAf | apply qAF | apply qAm) | ((with_reducible apply rp); first | ((with_reducible apply qAd); (conv => lhs; whnf)) | ((with_reducible apply qAU); eq_refl; eq_refl) | ((with_reducible apply qAI); eq_refl; eq_refl; omega; omega)) | ((with_reducible apply qA6); eq_refl; eq_refl))
            refine ⟨_, _, ?_, ?_, k + 1, by omega, hen.symm, rfl, rfl⟩
            · omega
            · rw [hns, hnext]
              refine qAw [] (by repeat' (first | exact qAG | (refine qAx rfl (by exact SubA.refl _) ?_))) (by repeat' (first | exact trivial | eq_refl | exact kb_d rfl | apply And.intro)) rfl (insS rfl) (by repeat' (first | exact trivial | exact qA0 _ | exact qAX rfl | apply And.intro))
        · rw [if_pos ⟨hcf, hev⟩, hke] at hen
          rw [← hen] at hp2
          have hn2 : ((er : Int) != 0) = true := by rw [hen]; simpa using hev
          have hn3 : ((er : Int) == 0) = false := by rw [hen]; simpa using hev
          rw [if_pos (by rw [hen]; exact hev)]
          clear hc2 hns hnext
          repeat (first | (with_reducible first | apply qAj | apply qAi | apply qAh | apply qAf | apply qA4 | apply qAo | apply qAu | apply qAS | apply qBc | apply qAz | apply qAm) | ((with_reducible apply qBg); (first | kernel_rfl | eq_refl)) | ((first | (with_reducible first | apply rp | apply dr) | ((with_reducible apply rpG); eq_refl; exact qAT rfl; (focus repeat' (first | exact trivial | apply And.intro)); intro zg; have zh := zg; (try simp only [zs1, zs2, zs3, zs4] at zg))); first | (exact qAe (tyOk rfl) rfl rfl rfl g4) | (exact qAe (tyOk rfl) rfl rfl rfl g5) | (exact qAe (tyOk rfl) rfl rfl rfl g2) | (exact qA3 (tyOk rfl) rfl rfl rfl hxl) | ((with_reducible apply qAg); eq_refl; eq_refl; exact (hp2); eq_refl) | (exact qDd hn3 rfl rfl) | (exact qEm hn2 rfl rfl) | ((with_reducible first | apply qAd | apply qAa); (conv => lhs; whnf)) | ((with_reducible first | apply qAM | apply qAc | apply qAZ | apply qAt | apply qAV | apply qBn) <;> first | ((with_reducible apply tyOk); eq_refl) | eq_refl | exact id | decide) | ((with_reducible apply qAL); exact tyOk rfl; (iterate 3 eq_refl); omega; decide; eq_refl)) | ((with_reducible apply rpN); ((with_reducible apply qAb); exact tyOk rfl; (iterate 5 eq_refl))) | ((with_reducible apply qA6); eq_refl; eq_refl) | ((with_reducible apply qBq); eq_refl; eq_refl))
          (with_reducible apply qAA); (focus (repeat' (first | (with_reducible apply qAv) | (with_reducible apply qAq) | ((with_reducible apply qAD); eq_refl) | ((with_reducible apply qAy); eq_refl; eq_refl; exact tyOk rfl; eq_refl; eq_refl)))); eq_refl; refine SubD.of_eq ?_
          rfl
      | false =>
        rw [hcf] at g4
        have hgo : goB y c = false := by unfold goB; rw [hcf]; rfl
        rw [hgo, if_neg (by decide)] at hns hnext
        rw [if_neg (fun h => by rw [hcf] at h; cases h.1), hke] at hen
        repeat (first | (with_reducible first | apply qAj | apply qAi | apply qAh | apply qAf | apply qAo | apply qA5 | apply qA9 | apply qA8 | apply qAm) | ((with_reducible apply rp); first | (exact qAe (tyOk rfl) rfl rfl rfl g4) | ((with_reducible apply qAd); (conv => lhs; whnf)) | ((with_reducible apply qAa); (conv => lhs; whnf)) | ((with_reducible apply qAc); exact tyOk rfl; eq_refl; eq_refl; decide; eq_refl) | ((with_reducible apply qAL); exact tyOk rfl; (iterate 3 eq_refl); omega; decide; eq_refl) | ((with_reducible apply qAI); eq_refl; eq_refl; omega; omega) | ((with_reducible apply qAZ); eq_refl) | ((with_reducible apply qBn); eq_refl)) | ((with_reducible apply qBq); eq_refl; eq_refl))
        refine ⟨_, _, ?_, ?_, k + 1, by omega, hen.symm, rfl, rfl⟩
        · omega
        · rw [hns, hnext]
          refine qAw [] (by repeat' (first | exact qAG | (refine qAx rfl (by exact SubA.refl _) ?_))) (by repeat' (first | exact trivial | eq_refl | exact kb_d rfl | apply And.intro)) rfl (insS rfl) (by repeat' (first | exact trivial | exact qA0 _ | exact qAX rfl | apply And.intro))
    · have hke4 : k = 4 := by simp at hd; omega
      clear hd
      subst hke4
      rw [herr4] at hke
      subst hke
      rw [if_neg (by decide)]
      obtain ⟨q1, _⟩ := hspec 4
      generalize U 4 = L at *
      generalize delN y d 4 = cnt at *
      by_cases hz : kd = 0
      · subst hz
        rw [if_neg (by decide)]
        repeat (first | (with_reducible first | apply qAj | apply qAi | apply qAh | apply qAf | apply qA5 | apply qA9 | apply qA8 | apply qAu | apply qAz | apply qAm) | ((with_reducible apply rp); first | (exact qD1 (tyOk rfl) rfl rfl rfl (by rw [q1]; show 3 + i * 8 + 8 ≤ 19; omega) hpart) | ((with_reducible apply qAg); eq_refl; eq_refl; exact (hkd); eq_refl) | (exact qA3 (tyOk rfl) rfl rfl rfl q1) | ((with_reducible apply qAd); (conv => lhs; whnf)) | ((with_reducible apply qAa); (conv => lhs; whnf)) | ((with_reducible apply qAc); exact tyOk rfl; eq_refl; eq_refl; decide; eq_refl) | ((with_reducible apply qAL); exact tyOk rfl; (iterate 3 eq_refl); omega; decide; eq_refl) | ((with_reducible apply qAU); eq_refl; eq_refl)) | ((with_reducible apply rpN); (exact qAb (tyOk rfl) rfl rfl rfl q1 q1)) | ((with_reducible apply qA6); eq_refl; eq_refl))
        (with_reducible apply qAA); (focus (repeat' (first | (with_reducible apply qAv) | (with_reducible apply qAq) | ((with_reducible apply qAD); eq_refl) | ((with_reducible apply qAy); eq_refl; eq_refl; exact tyOk rfl; eq_refl; (with_reducible assumption))))); (focus repeat' (first | eq_refl | (apply qDi; exact qCV _ _))); refine SubD.of_eq ?_
        rfl
      · rw [if_pos hz]
        have hn2 : ((kd : Int) != 0) = true := by simpa using hz
        repeat (first | (with_reducible first | apply qAj | apply qAi | apply qAh | apply qAf | apply qA5 | apply qA9 | apply qA8 | apply qAu | apply qAS | apply qAz) | ((with_reducible apply rp); first | (exact qD1 (tyOk rfl) rfl rfl rfl (by rw [q1]; show 3 + i * 8 + 8 ≤ 19; omega) hpart) | ((with_reducible apply qAg); eq_refl; eq_refl; exact (hkd); eq_refl) | (exact qEm hn2 rfl rfl) | ((with_reducible apply qAd); (conv => lhs; whnf)) | ((with_reducible apply qAa); (conv => lhs; whnf)) | ((with_reducible apply qAc); exact tyOk rfl; eq_refl; eq_refl; decide; eq_refl) | ((with_reducible apply qAL); exact tyOk rfl; (iterate 3 eq_refl); omega; decide; eq_refl) | ((with_reducible apply qAV); exact tyOk rfl; eq_refl; eq_refl)) | ((with_reducible apply rpN); ((with_reducible apply qAb); exact tyOk rfl; (iterate 5 eq_refl))) | ((with_reducible apply qBq); eq_refl; eq_refl))
        (with_reducible apply qAA); (focus (repeat' (first | (with_reducible apply qAv) | (with_reducible apply qAq) | ((with_reducible apply qAD); eq_refl) | ((with_reducible apply qAy); eq_refl; eq_refl; exact tyOk rfl; eq_refl; eq_refl)))); eq_refl; refine SubD.of_eq ?_
        rfl
end Go.Proofs.YtpaccaojgbfjdaaDoor

