/-
  chirographkeep's heap of raw things: row. No condition but the sizes.
-/
import Derived.Test.YtpaccaojgbfjdaaDoorZI
import Derived.Test.YtpaccaojgbfjdaaDoorZEv5R
import Derived.Test.YtpaccaojgbfjdaaDoorZV
set_option linter.unusedSimpArgs false
set_option linter.unusedVariables false
namespace Go.Proofs.YtpaccaojgbfjdaaDoor
open Go.RowKit

open Classical in
noncomputable def voF (k : Nat) (r : Raw) : Vl := if h : k ≤ 4 then Classical.choose (valOf_pc k h r) else nullV
theorem voF_ok {k : Nat} (h : k ≤ 4) (r : Raw) : Gd (voF k r) ∧ (voF k r).k = k ∧ PC Tryd.prog 38 [iD k, .ag r.cs] (.ag (voF k r).cs) := by
  unfold voF
  rw [dif_pos h]
  exact Classical.choose_spec (valOf_pc k h r)
noncomputable def cellF (key : Int) (i : Nat) (c : Cl) (r : Raw) : Vl := if i = 0 then numV key else if c.null = true ∧ r.b % 4 = 0 then nullV else if c.kind = 2 then numV (r.a % 40 - 10) else voF c.kind r
noncomputable def rowF (l : List Raw) (n : Nat) (key : Int) : Nat → List Cl → List Vl
  | _, [] => []
  | i, c :: cs => cellF key i c (qBa l (n + i)) :: rowF l n key (i + 1) cs
theorem qDq (l : List Raw) (n : Nat) (key : Int) : ∀ (i : Nat) (cs : List Cl), (rowF l n key i cs).length = cs.length
  | _, [] => rfl
  | i, c :: cs => by rw [rowF, List.length_cons, List.length_cons, qDq l n key (i + 1) cs]
theorem qFm (l : List Raw) (n : Nat) (key : Int) : ∀ (i : Nat) (cs : List Cl) (k : Nat), (rowF l n key i cs)[k]? = (cs[k]?).map fun c => cellF key (i + k) c (qBa l (n + (i + k)))
  | _, [], k => by simp [rowF]
  | i, c :: cs, 0 => rfl
  | i, c :: cs, k + 1 => by
    rw [rowF, List.getElem?_cons_succ, qFm l n key (i + 1) cs k, List.getElem?_cons_succ, show i + 1 + k = i + (k + 1) by omega]
theorem rowF_take (l : List Raw) (n : Nat) (key : Int) {cs : List Cl} {k : Nat} {c : Cl} (h : cs[k]? = some c) : rowF l n key 0 (cs.take (k + 1)) = rowF l n key 0 (cs.take k) ++ [cellF key k c (qBa l (n + k))] := by
  have hk := (List.getElem?_eq_some_iff.1 h).1
  apply List.ext_getElem?
  intro j
  rw [qFm, List.getElem?_take]
  by_cases hj : j < k
  · rw [if_pos (by omega), List.getElem?_append_left (by rw [qDq, List.length_take]; omega), qFm, List.getElem?_take, if_pos hj]
  · by_cases hj2 : j = k
    · subst hj2
      rw [if_pos (by omega), h, List.getElem?_append_right (by rw [qDq, List.length_take]; omega), qDq, List.length_take, show j - min j cs.length = 0 by omega, Nat.zero_add]
      rfl
    · rw [if_neg (by omega), List.getElem?_eq_none (by rw [List.length_append, qDq, List.length_take, List.length_singleton]; omega)]
      rfl
theorem cellF_fit (key : Int) {i : Nat} {c : Cl} (r : Raw) (h4 : c.kind ≤ 4) (h0 : i = 0 → c.kind = 2) : FitC (cellF key i c r) c := by
  unfold cellF
  by_cases hi : i = 0
  · rw [if_pos hi]
    exact ⟨.int _, .inl (by rw [h0 hi]; rfl)⟩
  · rw [if_neg hi]
    by_cases hn : c.null = true ∧ r.b % 4 = 0
    · rw [if_pos hn]
      exact ⟨.null, .inr ⟨rfl, hn.1⟩⟩
    · rw [if_neg hn]
      by_cases hk : c.kind = 2
      · rw [if_pos hk]
        exact ⟨.int _, .inl (by rw [hk]; rfl)⟩
      · rw [if_neg hk]
        obtain ⟨h1, h2, _⟩ := voF_ok h4 r
        exact ⟨h1, .inl h2⟩
theorem rowF_fit (l : List Raw) (n : Nat) (key : Int) {cols : List Cl} (hc : ColsOk cols) (h0 : ∀ c, cols[0]? = some c → c.kind = 2) : FitR (rowF l n key 0 cols) cols := by
  refine ⟨qDq l n key 0 cols, fun i v c hv hcc => ?_⟩
  rw [qFm, hcc] at hv
  simp only [Option.map_some, Option.some.injEq] at hv
  subst hv
  rw [Nat.zero_add]
  exact cellF_fit key _ (hc.kind c (List.mem_of_getElem? hcc)).2 fun hi => by subst hi; exact h0 c hcc
set_option maxHeartbeats 2000000 in
theorem row_px (l : List Raw) (n : Nat) (cols : List Cl) (hl5 : cols.length ≤ 5) (hk4 : ∀ c ∈ cols, c.kind ≤ 4) (key : Int) (hn : n ≤ 1000000) : PX Tryd.prog 11 [.px 1000 0, .d (iD key)] [hpB l n cols] [] (qBx (rowF l n key 0 cols)) [hpB l (n + cols.length) cols] [] := by
  unfold hpB
  refine qBe Tryd.func11 rfl (by kernel_rfl) mixed (by kernel_rfl) (qle (by kernel_rfl)) Tryd.results11 rfl ?_
  repeat (first | (with_reducible first | apply qAj | apply qAi | apply qAh | apply qAf | apply qAo) | ((with_reducible apply rp); first | ((with_reducible apply qAd); (conv => lhs; whnf)) | ((with_reducible apply qAa); (conv => lhs; whnf)) | ((with_reducible apply qAc); exact tyOk rfl; eq_refl; eq_refl; decide; eq_refl) | ((with_reducible apply qAe); exact tyOk rfl; (iterate 4 eq_refl)) | ((with_reducible apply qA7); exact tyOk rfl; eq_refl; eq_refl) | ((with_reducible apply qBn); eq_refl)))
  refine qBf (fun m s => ∃ k, k ≤ cols.length ∧ m = cols.length - k ∧ s = ⟨[(0, .px 1000 0), (1, .d (iD key)), (5, .ow 2000 k), (12, .d (qAW cols)), (13, .d (iD cols.length)), (14, .d (iD k))], [(1000, .var 50 [.d (qBh l), .d (iD (n + k : Nat)), .d (qAW cols)]), (2000, .row 55 4 ((rowF l n key 0 (cols.take k)).map Vl.cs))]⟩) _ _ ?_ ⟨0, by omega, rfl, rfl⟩ ?_
  · refine Ent.trans (ent_nil 5 2000 55 4 rfl rfl) ?_
    refine qAw [] (by repeat' (first | exact qAG | (refine qAx rfl (by exact SubA.refl _) ?_))) (kpX rfl) rfl (insS rfl) (insX rfl)
  · rintro m s ⟨k, hk, rfl, rfl⟩
    repeat (first | (with_reducible first | apply qAj | apply qAi | apply qAh | apply qAf) | ((with_reducible apply rp); ((with_reducible apply qAN); eq_refl; eq_refl)))
    refine qAn rfl (fun hd => ?_) (fun hd => ?_)
    · have hlt : k < cols.length := by simp at hd; omega
      clear hd
      obtain ⟨c, hcc⟩ : ∃ c, cols[k]? = some c := ⟨_, List.getElem?_eq_getElem hlt⟩
      have hc2 : (cols.map Cl.cs)[k]? = some c.cs := by rw [List.getElem?_map, hcc]; rfl
      have h4 := hk4 c (List.mem_of_getElem? hcc)
      have n1 := qBU l (n + k) cols (by omega)
      have e1 : (rowF l n key 0 (cols.take (k + 1))).map Vl.cs = (rowF l n key 0 (cols.take k)).map Vl.cs ++ [(cellF key k c (qBa l (n + k))).cs] := by rw [rowF_take l n key hcc, List.map_append]; rfl
      have l1 : ((rowF l n key 0 (cols.take k)).map Vl.cs).length = k := by rw [List.length_map, qDq, List.length_take]; omega
      generalize (rowF l n key 0 (cols.take k)).map Vl.cs = o at *
      unfold hpB at n1
      generalize qBa l (n + k) = r at *
      obtain ⟨_, _, v1⟩ := voF_ok h4 r
      have p4 := qAQ r.b 4 (by omega) (by omega)
      have p40 := qAQ r.a 40 (by omega) (by omega)
      unfold cellF at e1
      by_cases h0 : k = 0
      · rw [if_pos h0] at e1
        have hk0 : ((k : Int) == 0) = true := by rw [h0]; rfl
        clear v1 p4 p40
        obtain ⟨rk, ra, rb, rt⟩ := r
        obtain ⟨cn, ck, cb⟩ := c
        unfold Raw.cs Cl.cs at *
        dsimp only at *
        repeat (first | (with_reducible first | apply qAj | apply qAi | apply qAh | apply qAf | apply qAo | apply qAm) | ((with_reducible apply rp); first | ((with_reducible apply qAd); (conv => lhs; whnf)) | ((with_reducible apply qAa); (conv => lhs; whnf)) | ((with_reducible apply qAE); exact tyOk rfl; eq_refl; eq_refl; assumption; eq_refl) | ((with_reducible apply qAH); exact tyOk rfl; eq_refl; exact tyOk rfl; (iterate 4 eq_refl); (simp only [List.length_map, List.length_append, List.length_cons, List.length_nil] at *; omega)) | ((with_reducible apply qAr); eq_refl; eq_refl)) | ((with_reducible apply rp1); ((with_reducible apply qAk); exact tyOk rfl; eq_refl)) | ((with_reducible apply rpN); ((with_reducible apply qAb); exact tyOk rfl; (iterate 5 eq_refl))) | ((with_reducible apply rpL); (refine qAC [] [] (ups := [(1000, .var 50 [.d (qBh l), .d (iD (n + k + 1 : Nat)), .d (qAW cols)])]) rfl (n1) rfl (kpX rfl) rfl (insX rfl) (insQ rfl) rfl rfl rfl rfl rfl (insX rfl) rfl rfl); exact qAB _))
        refine qAn rfl (fun _ => ?_) (fun hd => absurd (hk0.symm.trans hd) (by decide))
        repeat (first | (with_reducible first | apply qAi | apply qAh | apply qAf | apply qAF) | ((with_reducible apply rp); first | ((with_reducible apply qAd); (conv => lhs; whnf)) | ((with_reducible apply qAa); (conv => lhs; whnf)) | ((with_reducible apply qAI); eq_refl; eq_refl; omega; omega) | ((with_reducible apply qAR); exact tyOk rfl; eq_refl; eq_refl; (focus repeat' (first | eq_refl | refine ⟨_, _, rfl, rfl, qle rfl, rfl, ?_⟩)); eq_refl)) | ((with_reducible apply rp1); ((with_reducible apply qA2); exact tyOk rfl; eq_refl; exact tyOk rfl; eq_refl; eq_refl; (focus repeat' (first | exact trivial | refine And.intro rfl (And.intro rfl ?_))); decide; decide; eq_refl)) | ((with_reducible apply rp2); ((with_reducible apply qBm); exact tyOk rfl; eq_refl; exact tyOk rfl; (iterate 3 eq_refl); decide; (first | (dsimp only; simp only [List.length_map, List.length_append, List.length_cons, List.length_nil] at *; omega) | (simp only [List.length_map, List.length_append, List.length_cons, List.length_nil] at *; omega)); (first | (dsimp only; simp only [List.length_map, List.length_append, List.length_cons, List.length_nil] at *; omega) | (simp only [List.length_map, List.length_append, List.length_cons, List.length_nil] at *; omega)); eq_refl)))
        refine ⟨_, _, ?_, ?_, k + 1, by omega, rfl, rfl⟩
        · omega
        · rw [e1]
          refine qAw [(2000, 35)] (by repeat' (first | exact qAG | (refine qAx rfl (by (first | exact SubA.refl _ | exact qDs (by (simp; omega)))) ?_))) ?_ rfl (by repeat' (first | exact trivial | exact qBJ rfl | exact qAX rfl | apply And.intro)) (by repeat' (first | exact trivial | exact qBJ rfl | exact qAX rfl | apply And.intro))
          exact qCB rfl rfl (qCB rfl (qEW rfl) qEY)
      · rw [if_neg h0] at e1
        have hk0 : ((k : Int) == 0) = false := beq_eq_false_iff_ne.2 (by omega)
        by_cases hn : c.null = true ∧ r.b % 4 = 0
        · rw [if_pos hn] at e1
          have hq : (c.null && (r.b % ((4 : Nat) : Int) == 0)) = true := by
            rw [Bool.and_eq_true, beq_iff_eq]; exact ⟨hn.1, hn.2⟩
          clear v1 p40 hn
          obtain ⟨rk, ra, rb, rt⟩ := r
          obtain ⟨cn, ck, cb⟩ := c
          unfold Raw.cs Cl.cs at *
          dsimp only at *
          repeat (first | (with_reducible first | apply qAj | apply qAi | apply qAh | apply qAf | apply qAo | apply qAm) | ((with_reducible apply rp); first | ((with_reducible apply qAd); (conv => lhs; whnf)) | ((with_reducible apply qAa); (conv => lhs; whnf)) | ((with_reducible apply qAE); exact tyOk rfl; eq_refl; eq_refl; assumption; eq_refl) | ((with_reducible apply qAH); exact tyOk rfl; eq_refl; exact tyOk rfl; (iterate 4 eq_refl); (simp only [List.length_map, List.length_append, List.length_cons, List.length_nil] at *; omega)) | ((with_reducible apply qAr); eq_refl; eq_refl)) | ((with_reducible apply rp1); ((with_reducible apply qAk); exact tyOk rfl; eq_refl)) | ((with_reducible apply rpN); ((with_reducible apply qAb); exact tyOk rfl; (iterate 5 eq_refl))) | ((with_reducible apply rpL); (refine qAC [] [] (ups := [(1000, .var 50 [.d (qBh l), .d (iD (n + k + 1 : Nat)), .d (qAW cols)])]) rfl (n1) rfl (kpX rfl) rfl (insX rfl) (insQ rfl) rfl rfl rfl rfl rfl (insX rfl) rfl rfl); exact qAB _))
          refine qAn rfl (fun hd => absurd (hk0.symm.trans hd) (by decide)) (fun hd => ?_)
          clear hd
          repeat (first | (with_reducible first | apply qAj | apply qAi | apply qAh | apply qAf) | ((first | (with_reducible apply rp) | ((with_reducible apply rpG); eq_refl; exact qAT rfl; (focus repeat' (first | exact trivial | exact id | apply And.intro)); intro zg; have zh := zg; (try simp only [zs1, zs2, zs3, zs4] at zg))); first | ((with_reducible apply qAg); eq_refl; eq_refl; exact (p4); eq_refl) | ((with_reducible first | apply qAd | apply qAa); (conv => lhs; whnf)) | ((with_reducible first | apply qAM | apply qAc | apply qAe | apply qAr) <;> first | ((with_reducible apply tyOk); eq_refl) | eq_refl | exact id | decide)))
          refine qAn rfl (fun _ => ?_) (fun hd => absurd (hq.symm.trans hd) (by decide))
          repeat (first | (with_reducible first | apply qAi | apply qAh | apply qAf | apply qAF) | ((with_reducible apply rp); first | ((with_reducible apply qAd); (conv => lhs; whnf)) | ((with_reducible apply qAa); (conv => lhs; whnf)) | ((with_reducible apply qAI); eq_refl; eq_refl; omega; omega) | ((with_reducible apply qAV); exact tyOk rfl; eq_refl; eq_refl)) | ((with_reducible apply rp1); ((with_reducible apply qA2); exact tyOk rfl; eq_refl; exact tyOk rfl; eq_refl; eq_refl; (focus repeat' (first | exact trivial | refine And.intro rfl (And.intro rfl ?_))); decide; decide; eq_refl)) | ((with_reducible apply rp2); ((with_reducible apply qBm); exact tyOk rfl; eq_refl; exact tyOk rfl; (iterate 3 eq_refl); decide; (dsimp only; simp only [List.length_map, List.length_append, List.length_cons, List.length_nil] at *; omega); (dsimp only; simp only [List.length_map, List.length_append, List.length_cons, List.length_nil] at *; omega); eq_refl)))
          refine ⟨_, _, ?_, ?_, k + 1, by omega, rfl, rfl⟩
          · omega
          · rw [e1]
            refine qAw [(2000, 48)] (by repeat' (first | exact qAG | (refine qAx rfl (by (first | exact SubA.refl _ | exact qDs (by (simp; omega)))) ?_))) ?_ rfl (by repeat' (first | exact trivial | exact qBJ rfl | exact qAX rfl | apply And.intro)) (by repeat' (first | exact trivial | exact qBJ rfl | exact qAX rfl | apply And.intro))
            exact qCB rfl rfl (qCB rfl (qEW rfl) qEY)
        · rw [if_neg hn] at e1
          have hq : (c.null && (r.b % ((4 : Nat) : Int) == 0)) = false := by
            rw [Bool.and_eq_false_iff]
            by_cases hb : c.null = true
            · exact .inr (beq_eq_false_iff_ne.2 fun h => hn ⟨hb, h⟩)
            · exact .inl (eq_false_of_ne_true hb)
          clear hn
          by_cases hk2 : c.kind = 2
          · rw [if_pos hk2] at e1
            have hq2 : ((c.kind : Int) == 2) = true := by rw [hk2]; rfl
            obtain ⟨u, hu⟩ : ∃ u : Nat, r.a % ((40 : Nat) : Int) = u := ⟨(r.a % 40).toNat, by omega⟩
            have hu2 : r.a % 40 - 10 = (u : Int) - 10 := by have : r.a % 40 = (u : Int) := hu; omega
            have hu3 : u < 40 := by omega
            rw [hu] at p40
            rw [hu2] at e1
            clear v1
            obtain ⟨rk, ra, rb, rt⟩ := r
            obtain ⟨cn, ck, cb⟩ := c
            unfold Raw.cs Cl.cs at *
            dsimp only at *
            repeat (first | (with_reducible first | apply qAj | apply qAi | apply qAh | apply qAf | apply qAo | apply qAm) | ((with_reducible apply rp); first | ((with_reducible apply qAd); (conv => lhs; whnf)) | ((with_reducible apply qAa); (conv => lhs; whnf)) | ((with_reducible apply qAE); exact tyOk rfl; eq_refl; eq_refl; assumption; eq_refl) | ((with_reducible apply qAH); exact tyOk rfl; eq_refl; exact tyOk rfl; (iterate 4 eq_refl); (simp only [List.length_map, List.length_append, List.length_cons, List.length_nil] at *; omega)) | ((with_reducible apply qAr); eq_refl; eq_refl)) | ((with_reducible apply rp1); ((with_reducible apply qAk); exact tyOk rfl; eq_refl)) | ((with_reducible apply rpN); ((with_reducible apply qAb); exact tyOk rfl; (iterate 5 eq_refl))) | ((with_reducible apply rpL); (refine qAC [] [] (ups := [(1000, .var 50 [.d (qBh l), .d (iD (n + k + 1 : Nat)), .d (qAW cols)])]) rfl (n1) rfl (kpX rfl) rfl (insX rfl) (insQ rfl) rfl rfl rfl rfl rfl (insX rfl) rfl rfl); exact qAB _))
            refine qAn rfl (fun hd => absurd (hk0.symm.trans hd) (by decide)) (fun hd => ?_)
            clear hd
            repeat (first | (with_reducible first | apply qAj | apply qAi | apply qAh | apply qAf) | ((first | (with_reducible apply rp) | ((with_reducible apply rpG); eq_refl; exact qAT rfl; (focus repeat' (first | exact trivial | exact id | apply And.intro)); intro zg; have zh := zg; (try simp only [zs1, zs2, zs3, zs4] at zg))); first | ((with_reducible apply qAg); eq_refl; eq_refl; exact (p4); eq_refl) | ((with_reducible first | apply qAd | apply qAa); (conv => lhs; whnf)) | ((with_reducible first | apply qAM | apply qAc | apply qAe | apply qAr) <;> first | ((with_reducible apply tyOk); eq_refl) | eq_refl | exact id | decide)))
            refine qAn rfl (fun hd => absurd (hq.symm.trans hd) (by decide)) (fun hd => ?_)
            clear hd
            repeat (first | (with_reducible first | apply qAj | apply qAi | apply qAh | apply qAf) | ((with_reducible apply rp); first | ((with_reducible apply qAa); (conv => lhs; whnf)) | ((with_reducible apply qAc); exact tyOk rfl; eq_refl; eq_refl; decide; eq_refl) | ((with_reducible apply qAe); exact tyOk rfl; (iterate 4 eq_refl)) | ((with_reducible apply qAr); eq_refl; eq_refl)))
            refine qAn rfl (fun _ => ?_) (fun hd => absurd (hq2.symm.trans hd) (by decide))
            repeat (first | (with_reducible first | apply qAi | apply qAh | apply qAf | apply qAF) | ((with_reducible apply rp); first | ((with_reducible apply qAg); eq_refl; eq_refl; exact (p40); eq_refl) | ((with_reducible apply qAd); (conv => lhs; whnf)) | ((with_reducible apply qAa); (conv => lhs; whnf)) | ((with_reducible apply qAc); exact tyOk rfl; eq_refl; eq_refl; decide; eq_refl) | ((with_reducible apply qAe); exact tyOk rfl; (iterate 4 eq_refl)) | ((with_reducible apply qAI); eq_refl; eq_refl; omega; omega) | ((with_reducible apply qCK); eq_refl; eq_refl; omega; omega) | ((with_reducible apply qAR); exact tyOk rfl; eq_refl; eq_refl; (focus repeat' (first | eq_refl | refine ⟨_, _, rfl, rfl, qle rfl, rfl, ?_⟩)); eq_refl)) | ((with_reducible apply rp1); ((with_reducible apply qA2); exact tyOk rfl; eq_refl; exact tyOk rfl; eq_refl; eq_refl; (focus repeat' (first | exact trivial | refine And.intro rfl (And.intro rfl ?_))); decide; decide; eq_refl)) | ((with_reducible apply rp2); ((with_reducible apply qBm); exact tyOk rfl; eq_refl; exact tyOk rfl; (iterate 3 eq_refl); decide; (first | (dsimp only; simp only [List.length_map, List.length_append, List.length_cons, List.length_nil] at *; omega) | (simp only [List.length_map, List.length_append, List.length_cons, List.length_nil] at *; omega)); (first | (dsimp only; simp only [List.length_map, List.length_append, List.length_cons, List.length_nil] at *; omega) | (simp only [List.length_map, List.length_append, List.length_cons, List.length_nil] at *; omega)); eq_refl)))
            refine ⟨_, _, ?_, ?_, k + 1, by omega, rfl, rfl⟩
            · omega
            · rw [e1]
              refine qAw [(2000, 60)] (by repeat' (first | exact qAG | (refine qAx rfl (by (first | exact SubA.refl _ | exact qDs (by (simp; omega)))) ?_))) ?_ rfl (by repeat' (first | exact trivial | exact qBJ rfl | exact qAX rfl | apply And.intro)) (by repeat' (first | exact trivial | exact qBJ rfl | exact qAX rfl | apply And.intro))
              exact qCB rfl rfl (qCB rfl (qEW rfl) qEY)
          · rw [if_neg hk2] at e1
            have hq2 : ((c.kind : Int) == 2) = false := beq_eq_false_iff_ne.2 (by omega)
            generalize voF c.kind r = v at *
            obtain ⟨vk, vn, vb, vt⟩ := v
            obtain ⟨rk, ra, rb, rt⟩ := r
            obtain ⟨cn, ck, cb⟩ := c
            unfold Raw.cs Cl.cs Vl.cs at *
            dsimp only at *
            repeat (first | (with_reducible first | apply qAj | apply qAi | apply qAh | apply qAf | apply qAo | apply qAm) | ((with_reducible apply rp); first | ((with_reducible apply qAd); (conv => lhs; whnf)) | ((with_reducible apply qAa); (conv => lhs; whnf)) | ((with_reducible apply qAE); exact tyOk rfl; eq_refl; eq_refl; assumption; eq_refl) | ((with_reducible apply qAH); exact tyOk rfl; eq_refl; exact tyOk rfl; (iterate 4 eq_refl); (simp only [List.length_map, List.length_append, List.length_cons, List.length_nil] at *; omega)) | ((with_reducible apply qAr); eq_refl; eq_refl)) | ((with_reducible apply rp1); ((with_reducible apply qAk); exact tyOk rfl; eq_refl)) | ((with_reducible apply rpN); ((with_reducible apply qAb); exact tyOk rfl; (iterate 5 eq_refl))) | ((with_reducible apply rpL); (refine qAC [] [] (ups := [(1000, .var 50 [.d (qBh l), .d (iD (n + k + 1 : Nat)), .d (qAW cols)])]) rfl (n1) rfl (kpX rfl) rfl (insX rfl) (insQ rfl) rfl rfl rfl rfl rfl (insX rfl) rfl rfl); exact qAB _))
            refine qAn rfl (fun hd => absurd (hk0.symm.trans hd) (by decide)) (fun hd => ?_)
            clear hd
            repeat (first | (with_reducible first | apply qAj | apply qAi | apply qAh | apply qAf) | ((first | (with_reducible apply rp) | ((with_reducible apply rpG); eq_refl; exact qAT rfl; (focus repeat' (first | exact trivial | exact id | apply And.intro)); intro zg; have zh := zg; (try simp only [zs1, zs2, zs3, zs4] at zg))); first | ((with_reducible apply qAg); eq_refl; eq_refl; exact (p4); eq_refl) | ((with_reducible first | apply qAd | apply qAa); (conv => lhs; whnf)) | ((with_reducible first | apply qAM | apply qAc | apply qAe | apply qAr) <;> first | ((with_reducible apply tyOk); eq_refl) | eq_refl | exact id | decide)))
            refine qAn rfl (fun hd => absurd (hq.symm.trans hd) (by decide)) (fun hd => ?_)
            clear hd
            repeat (first | (with_reducible first | apply qAj | apply qAi | apply qAh | apply qAf) | ((with_reducible apply rp); first | ((with_reducible apply qAa); (conv => lhs; whnf)) | ((with_reducible apply qAc); exact tyOk rfl; eq_refl; eq_refl; decide; eq_refl) | ((with_reducible apply qAe); exact tyOk rfl; (iterate 4 eq_refl)) | ((with_reducible apply qAr); eq_refl; eq_refl)))
            refine qAn rfl (fun hd => absurd (hq2.symm.trans hd) (by decide)) (fun hd => ?_)
            clear hd
            repeat (first | (with_reducible first | apply qAi | apply qAh | apply qAf | apply qAF) | ((with_reducible apply rp); first | ((with_reducible apply qAg); eq_refl; eq_refl; exact (v1); eq_refl) | ((with_reducible apply qAd); (conv => lhs; whnf)) | ((with_reducible apply qAa); (conv => lhs; whnf)) | ((with_reducible apply qAc); exact tyOk rfl; eq_refl; eq_refl; decide; eq_refl) | ((with_reducible apply qAe); exact tyOk rfl; (iterate 4 eq_refl)) | ((with_reducible apply qAl); exact tyOk rfl; (iterate 3 eq_refl); exact qle rfl; eq_refl) | ((with_reducible apply qAI); eq_refl; eq_refl; omega; omega)) | ((with_reducible apply rp1); ((with_reducible apply qA2); exact tyOk rfl; eq_refl; exact tyOk rfl; eq_refl; eq_refl; (focus repeat' (first | exact trivial | refine And.intro rfl (And.intro rfl ?_))); decide; decide; eq_refl)) | ((with_reducible apply rp2); ((with_reducible apply qBm); exact tyOk rfl; eq_refl; exact tyOk rfl; (iterate 3 eq_refl); decide; (first | (dsimp only; simp only [List.length_map, List.length_append, List.length_cons, List.length_nil] at *; omega) | (simp only [List.length_map, List.length_append, List.length_cons, List.length_nil] at *; omega)); (first | (dsimp only; simp only [List.length_map, List.length_append, List.length_cons, List.length_nil] at *; omega) | (simp only [List.length_map, List.length_append, List.length_cons, List.length_nil] at *; omega)); eq_refl)))
            refine ⟨_, _, ?_, ?_, k + 1, by omega, rfl, rfl⟩
            · omega
            · rw [e1]
              refine qAw [(2000, 27)] (by repeat' (first | exact qAG | (refine qAx rfl (by (first | exact SubA.refl _ | exact qDs (by (simp; omega)))) ?_))) ?_ rfl (by repeat' (first | exact trivial | exact qBJ rfl | exact qAX rfl | apply And.intro)) (by repeat' (first | exact trivial | exact qBJ rfl | exact qAX rfl | apply And.intro))
              exact qCB rfl rfl (qCB rfl (qEW rfl) qEY)
    · have hke : k = cols.length := by simp at hd; omega
      clear hd
      subst hke
      rw [List.take_length]
      repeat (first | (with_reducible first | apply qAj | apply qAi | apply qAh | apply qAf | apply qA5 | apply qA9 | apply qA8 | apply qAu | apply qBL) | ((with_reducible apply rp); first | ((with_reducible apply qAd); (conv => lhs; whnf)) | ((with_reducible apply qAa); (conv => lhs; whnf))))
      (with_reducible apply qBi (l := [])); (focus (repeat' (first | (with_reducible apply qAv) | (with_reducible apply qAq) | ((with_reducible apply qAD); eq_refl)))); eq_refl; exact SubD.refl _; refine ⟨(by repeat' (first | exact qAG | (refine qAx rfl (by exact SubA.refl _) ?_))), (by repeat' (first | exact trivial | eq_refl | apply And.intro)), rfl, insS rfl, (by repeat' (first | exact trivial | exact qAX rfl | apply And.intro))⟩
end Go.Proofs.YtpaccaojgbfjdaaDoor

