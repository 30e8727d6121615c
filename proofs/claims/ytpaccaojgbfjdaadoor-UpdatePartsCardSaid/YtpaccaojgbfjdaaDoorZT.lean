/-
  Tables whose rows lie in drawers. No program in sight.
-/
import Derived.Test.YtpaccaojgbfjdaaDoorZEv5R
import Derived.Test.YtpaccaojgbfjdaaDoorZV
import Derived.Test.YtpaccaojgbfjdaaDoorZPlAv
import Derived.Test.YtpaccaojgbfjdaaDoorZK
import Derived.Test.YtpaccaojgbfjdaaDoorZG
set_option linter.unusedSimpArgs false
set_option linter.unusedVariables false
namespace Go.Proofs.YtpaccaojgbfjdaaDoor

structure Ce where
  full : Bool
  row : List Vl
def Ce.cs (c : Ce) : List D := [bD c.full, qBx c.row]
def keyV (r : List Vl) : Vl := r.headD nullV
abbrev keyN (r : List Vl) : Int := (keyV r).n
structure Tb where
  name : ByteArray
  cols : List Cl
  a : List Ce
  b : List Ce
def Tb.cs (t : Tb) : List D := [bD true, strD t.name, qAW t.cols] ++ (t.a.flatMap Ce.cs ++ t.b.flatMap Ce.cs)
structure CeOk (cols : List Cl) (c : Ce) : Prop where
  fit : c.full = true → FitR c.row cols
  none : c.full = false → c.row = []
structure DrOk (cols : List Cl) (d : List Ce) : Prop where
  len : d.length = 4
  ok : ∀ c ∈ d, CeOk cols c
  keys : d.Pairwise fun c e => c.full = true → e.full = true → keyN c.row ≠ keyN e.row
structure TbOk (t : Tb) : Prop where
  name : qC8 t.name
  cols : ColsOk t.cols
  key : ∃ n l, t.cols = ⟨n, 2, false⟩ :: l
  a : DrOk t.cols t.a
  b : DrOk t.cols t.b
theorem qCm {cols : List Cl} {row : List Vl} (h : FitR row cols) (hk : ∃ n l, cols = ⟨n, 2, false⟩ :: l) : ∃ k l, row = numV k :: l := by
  obtain ⟨n, l, rfl⟩ := hk
  cases row with
  | nil => have := h.len; simp at this
  | cons v r =>
    obtain ⟨hg, hf⟩ := h.fit 0 v _ rfl rfl
    have hv : v.k = 2 := by
      rcases hf with hf | ⟨_, hf⟩
      · exact hf
      · cases hf
    exact ⟨v.n, r, by rw [← hg.int_n hv]⟩
def insJ (acc : List (List Vl)) (start : Nat) (r : List Vl) : Nat → List (List Vl)
  | 0 => r :: acc
  | j + 1 => if start < j + 1 ∧ keyN r < keyN (acc.getD j []) then insJ acc start r j else acc.take (j + 1) ++ r :: acc.drop (j + 1)
def insF (acc : List (List Vl)) (start : Nat) (r : List Vl) : List (List Vl) := insJ acc start r acc.length
def qE3 (start : Nat) : List (List Vl) → List Ce → List (List Vl)
  | acc, [] => acc
  | acc, c :: d => qE3 start (if c.full = true then insF acc start c.row else acc) d
def ordI (r : List Vl) : List (List Vl) → List (List Vl)
  | [] => [r]
  | p :: l => if keyN r < keyN p then r :: p :: l else p :: ordI r l
def Rise (l : List (List Vl)) : Prop := l.Pairwise fun p q => keyN p < keyN q
theorem qFk {r x : List Vl} : ∀ {l : List (List Vl)}, x ∈ ordI r l ↔ x = r ∨ x ∈ l
  | [] => by simp [ordI]
  | p :: l => by
    unfold ordI
    split
    · simp
    · rw [List.mem_cons, qFk (l := l), List.mem_cons]
      constructor
      · rintro (h | h | h)
        · exact .inr (.inl h)
        · exact .inl h
        · exact .inr (.inr h)
      · rintro (h | h | h)
        · exact .inr (.inl h)
        · exact .inl h
        · exact .inr (.inr h)
theorem ordI_rise {r : List Vl} : ∀ {l : List (List Vl)}, Rise l → (∀ p ∈ l, keyN p ≠ keyN r) → Rise (ordI r l)
  | [], _, _ => List.pairwise_singleton _ _
  | p :: l, h, hn => by
    unfold Rise at h
    rw [List.pairwise_cons] at h
    unfold ordI
    split
    · rename_i hlt
      unfold Rise
      rw [List.pairwise_cons, List.pairwise_cons]
      refine ⟨fun q hq => ?_, h.1, h.2⟩
      rcases List.mem_cons.1 hq with rfl | hq
      · exact hlt
      · have := h.1 q hq; omega
    · rename_i hlt
      have hp := hn p (by simp)
      unfold Rise
      rw [List.pairwise_cons]
      refine ⟨fun q hq => ?_, ordI_rise h.2 fun q hq => hn q (by simp [hq])⟩
      rcases qFk.1 hq with rfl | hq
      · omega
      · exact h.1 q hq
theorem ordI_snoc {r : List Vl} : ∀ {l : List (List Vl)}, (∀ p ∈ l, ¬ keyN r < keyN p) → ordI r l = l ++ [r]
  | [], _ => rfl
  | p :: l, h => by
    unfold ordI
    rw [if_neg (h p (by simp)), ordI_snoc fun q hq => h q (by simp [hq])]
    rfl
theorem ordI_app {r p : List Vl} (h : keyN r < keyN p) : ∀ l : List (List Vl), ordI r (l ++ [p]) = ordI r l ++ [p]
  | [] => by
    show ordI r [p] = [r] ++ [p]
    unfold ordI
    rw [if_pos h]
    rfl
  | q :: l => by
    rw [List.cons_append]
    unfold ordI
    split
    · rfl
    · rw [ordI_app h l]; rfl
theorem insJ_stop (acc : List (List Vl)) (r : List Vl) (j : Nat) : insJ acc j r j = acc.take j ++ r :: acc.drop j := by
  cases j with
  | zero => rfl
  | succ n => unfold insJ; rw [if_neg (by omega)]
theorem insJ_step {pre s : List (List Vl)} {r : List Vl} (hs : Rise s) : ∀ (j : Nat), j ≤ s.length → (∀ p ∈ s.drop j, keyN r < keyN p) → insJ (pre ++ s) pre.length r (pre.length + j) = pre ++ (ordI r (s.take j) ++ s.drop j)
  | 0, _, hall => by
    rw [Nat.add_zero, insJ_stop, List.take_left, List.drop_left]
    rfl
  | j + 1, hj, hall => by
    have hlt : j < s.length := by omega
    obtain ⟨p, hp⟩ : ∃ p, s[j]? = some p := ⟨_, List.getElem?_eq_getElem hlt⟩
    have hg : (pre ++ s).getD (pre.length + j) [] = p := by
      rw [List.getD_eq_getElem?_getD, List.getElem?_append_right (by omega), show pre.length + j - pre.length = j by omega, hp]
      rfl
    have ht : s.take (j + 1) = s.take j ++ [p] := by rw [List.take_add_one, hp]; rfl
    have hd : s.drop j = p :: s.drop (j + 1) := by
      rw [List.drop_eq_getElem_cons hlt]
      congr 1
      have := List.getElem?_eq_getElem hlt
      rw [hp] at this
      injection this with this
      exact this.symm
    show insJ (pre ++ s) pre.length r (pre.length + j + 1) = _
    rw [insJ, hg]
    by_cases h : keyN r < keyN p
    · rw [if_pos ⟨by omega, h⟩, insJ_step hs j (by omega) fun q hq => by
        rw [hd] at hq
        rcases List.mem_cons.1 hq with rfl | hq
        · exact h
        · exact hall q hq]
      rw [ht, ordI_app h, hd, List.append_assoc]
      rfl
    · rw [if_neg fun h2 => h h2.2]
      have e1 : (pre ++ s).take (pre.length + j + 1) = pre ++ s.take (j + 1) := by rw [Nat.add_assoc, List.take_length_add_append]
      have e2 : (pre ++ s).drop (pre.length + j + 1) = s.drop (j + 1) := by rw [Nat.add_assoc, List.drop_length_add_append]
      rw [e1, e2, ordI_snoc fun q hq => ?_, List.append_assoc, List.append_assoc]
      · rfl
      · rw [ht] at hq
        rcases List.mem_append.1 hq with hq | hq
        · obtain ⟨i, hi⟩ := List.getElem?_of_mem hq
          rw [List.getElem?_take] at hi
          split at hi
          · obtain ⟨l1, e1⟩ := List.getElem?_eq_some_iff.1 hi
            obtain ⟨l2, e2⟩ := List.getElem?_eq_some_iff.1 hp
            have := List.pairwise_iff_getElem.1 hs i j l1 l2 (by omega)
            rw [e1, e2] at this
            omega
          · cases hi
        · rw [List.mem_singleton] at hq
          subst hq
          exact h
theorem insF_ord {pre s : List (List Vl)} {r : List Vl} (hs : Rise s) : insF (pre ++ s) pre.length r = pre ++ ordI r s := by
  unfold insF
  rw [List.length_append, insJ_step hs s.length (Nat.le_refl _) (by rw [List.drop_length]; intro p hp; cases hp), List.take_length, List.drop_length, List.append_nil]
theorem qFN (pre : List (List Vl)) : ∀ (d : List Ce) (s : List (List Vl)), Rise s → (∀ c ∈ d, c.full = true → ∀ p ∈ s, keyN p ≠ keyN c.row) → (d.Pairwise fun c e => c.full = true → e.full = true → keyN c.row ≠ keyN e.row) →
    ∃ s', Rise s' ∧ qE3 pre.length (pre ++ s) d = pre ++ s' ∧ (∀ x, x ∈ s' ↔ x ∈ s ∨ ∃ c ∈ d, c.full = true ∧ c.row = x)
  | [], s, hs, _, _ => ⟨s, hs, rfl, fun x => by simp⟩
  | c :: d, s, hs, hn, hp => by
    rw [List.pairwise_cons] at hp
    by_cases hc : c.full = true
    · have h1 := ordI_rise hs (hn c (by simp) hc)
      obtain ⟨s', g1, g2, g3⟩ := qFN pre d (ordI c.row s) h1 (fun e he hf p hpm => by
        rcases qFk.1 hpm with rfl | hpm
        · exact hp.1 e he hc hf
        · exact hn e (by simp [he]) hf p hpm) hp.2
      refine ⟨s', g1, ?_, fun x => ?_⟩
      · unfold qE3
        rw [if_pos hc, insF_ord hs]
        exact g2
      · rw [g3, qFk]
        constructor
        · rintro ((h | h) | ⟨e, he, h⟩)
          · exact .inr ⟨c, by simp, hc, h.symm⟩
          · exact .inl h
          · exact .inr ⟨e, by simp [he], h⟩
        · rintro (h | ⟨e, he, h⟩)
          · exact .inl (.inr h)
          · rcases List.mem_cons.1 he with rfl | he
            · exact .inl (.inl h.2.symm)
            · exact .inr ⟨e, he, h⟩
    · obtain ⟨s', g1, g2, g3⟩ := qFN pre d s hs (fun e he => hn e (by simp [he])) hp.2
      refine ⟨s', g1, ?_, fun x => ?_⟩
      · unfold qE3
        rw [if_neg hc]
        exact g2
      · rw [g3]
        constructor
        · rintro (h | ⟨e, he, h⟩)
          · exact .inl h
          · exact .inr ⟨e, by simp [he], h⟩
        · rintro (h | ⟨e, he, h⟩)
          · exact .inl h
          · rcases List.mem_cons.1 he with rfl | he
            · exact absurd h.1 hc
            · exact .inr ⟨e, he, h⟩
end Go.Proofs.YtpaccaojgbfjdaaDoor


/-
  chirograph/table: row, keys as contracts. No condition but that the drawer may be.
-/
namespace Go.Proofs.YtpaccaojgbfjdaaDoor
open Go.RowKit

theorem qBA : ∀ d : List Ce, (d.flatMap Ce.cs).length = d.length * 2
  | [] => rfl
  | c :: d => by
    rw [List.flatMap_cons, List.length_append, qBA d, List.length_cons]
    show 2 + d.length * 2 = (d.length + 1) * 2
    omega
theorem qFf : ∀ (d : List Ce) (k : Nat) (c : Ce), d[k]? = some c → ((d.flatMap Ce.cs).drop (k * 2)).take 2 = c.cs
  | c :: d, 0, e, h => by
    simp only [List.getElem?_cons_zero, Option.some.injEq] at h
    subst h
    rfl
  | c :: d, k + 1, e, h => by
    rw [List.getElem?_cons_succ] at h
    rw [List.flatMap_cons, show (k + 1) * 2 = c.cs.length + k * 2 by show (k + 1) * 2 = 2 + k * 2; omega, List.drop_length_add_append]
    exact qFf d k e h
theorem qCN : ∀ l : List D, allD (l.map .d) = some l
  | [] => rfl
  | x :: l => by
    show (match allD (l.map A.d) with | some r => some (x :: r) | none => none) = _
    rw [qCN l]
section
variable {P : Program} {dst : Option Nat} {ty : TypeId} {e : Operand → A} {β : Bx} {T T0 el : TypeId} {x y : Operand}
theorem qBl {t te : TyI} {len esz i : Nat} {er : Bool} {k : IntKind} {n : Int} {d : List Ce} {c : Ce} (ht : mkTy P T = some t) (hk : t.kind = .array len el esz er) (hte : mkTy P el = some te) (hr : te.row = true) (h2 : te.size = 2) (hx : e x = .d (.ag (d.flatMap Ce.cs))) (hy : e y = .d (.sc (.int k n))) (hn : n = (i : Nat)) (hd : d.length = len) (hc : d[i]? = some c) :
    Does P dst (.index T x y) ty e β (.d (.ag c.cs)) [] [] := by
  have hi := (List.getElem?_eq_some_iff.1 hc).1
  have h := qD3 (P := P) (dst := dst) (ty := ty) (e := e) (β := β) (x := x) (y := y) ht hk hte hr hx hy hn (by omega) (by rw [qBA, h2, hd])
  rwa [h2, qFf d i c hc] at h
theorem qB6 {t : TyI} {id j : Nat} {d : List Ce} {c : Ce} (ht : mkTy P T = some t) (hr : t.row = true) (h2 : t.size = 2) (hx : e x = .px id (j * 2)) (hl : look id β = some (.var T0 ((d.flatMap Ce.cs).map .d))) (hc : d[j]? = some c) : Does P dst (.load T x) ty e β (.d (.ag c.cs)) [] [id] := by
  have hj := (List.getElem?_eq_some_iff.1 hc).1
  refine qAl ht hr hx hl (by rw [List.length_map, qBA, h2]; omega) ?_
  rw [h2, ← List.map_drop, ← List.map_take, qFf d j c hc]
  exact qCN _
theorem qB2 {t : TyI} {id : Nat} {d : List Ce} (ht : mkTy P T = some t) (hr : t.row = true) (h2 : t.size = 8) (hx : e x = .px id 0) (hl : look id β = some (.var T0 ((d.flatMap Ce.cs).map .d))) (hd : d.length = 4) : Does P dst (.load T x) ty e β (.d (.ag (d.flatMap Ce.cs))) [] [id] := by
  have hlen : (d.flatMap Ce.cs).length = 8 := by rw [qBA, hd]
  refine qAl ht hr hx hl (by rw [List.length_map, hlen, h2]; omega) ?_
  rw [h2, List.drop_zero, List.take_of_length_le (by rw [List.length_map, hlen]; omega)]
  exact qCN _
end
theorem qCQ (r : List Vl) (hr : r.length ≤ 1000000) : PC Tryd.prog 41 [qBx r] (qBx r) := by
  refine qAs Tryd.func41 rfl (by kernel_rfl) mixed (by kernel_rfl) (qle (by kernel_rfl)) Tryd.results41 ?_
  repeat (first | (with_reducible first | apply qAj | apply qAi | apply qAh | apply qAf | apply qAu | apply qAz) | ((with_reducible apply rp); first | ((with_reducible apply qAd); (conv => lhs; whnf)) | ((with_reducible apply qAa); (conv => lhs; whnf))) | ((with_reducible apply rp1); ((with_reducible apply qA2); exact tyOk rfl; eq_refl; exact tyOk rfl; eq_refl; eq_refl; (focus repeat' (first | exact trivial | refine And.intro rfl (And.intro rfl ?_))); decide; decide; eq_refl)) | ((with_reducible apply rp2); ((with_reducible apply qBm); exact tyOk rfl; eq_refl; exact tyOk rfl; (iterate 3 eq_refl); decide; (first | (dsimp only; simp only [List.length_map, List.length_append, List.length_cons, List.length_nil] at *; omega) | (simp only [List.length_map, List.length_append, List.length_cons, List.length_nil] at *; omega)); (first | (dsimp only; simp only [List.length_map, List.length_append, List.length_cons, List.length_nil] at *; omega) | (simp only [List.length_map, List.length_append, List.length_cons, List.length_nil] at *; omega)); eq_refl)))
  (with_reducible apply qAA); (focus (repeat' (first | (with_reducible apply qAv) | (with_reducible apply qAq) | ((with_reducible apply qAD); eq_refl)))); eq_refl; refine SubD.of_eq ?_
  rfl
set_option maxHeartbeats 4000000 in
theorem keys_pc (cols : List Cl) (hk : ∃ n l, cols = ⟨n, 2, false⟩ :: l) (d : List Ce) (h : DrOk cols d) : PC Tryd.prog 44 [.ag (d.flatMap Ce.cs)] (iD 0) := by
  have h4 := h.len
  refine qAs Tryd.func44 rfl (by kernel_rfl) mixed (by kernel_rfl) (qle (by kernel_rfl)) Tryd.results44 ?_
  repeat (first | (with_reducible first | apply qAj | apply qAi | apply qAh | apply qAf | apply qAo) | ((with_reducible apply rp); first | (exact qB2 (tyOk rfl) rfl rfl rfl rfl h4) | ((with_reducible apply qAd); (conv => lhs; whnf)) | ((with_reducible apply qAa); (conv => lhs; whnf))) | ((with_reducible apply rp1); ((with_reducible apply qAp); eq_refl; eq_refl)))
  refine qBf (fun m s => ∃ k, k ≤ 4 ∧ m = 4 - k ∧ s = ⟨[(1, .px 1 0), (7, .d (.ag (d.flatMap Ce.cs))), (8, .d (iD k))], [(1, .var 27 ((d.flatMap Ce.cs).map .d))]⟩) _ _ ?_ ⟨0, by omega, rfl, rfl⟩ ?_
  · refine qAw [] (by repeat' (first | exact qAG | (refine qAx rfl (by exact SubA.refl _) ?_))) (by repeat' (first | exact trivial | exact kb_d rfl | apply And.intro)) rfl (insS rfl) (by repeat' (first | exact trivial | exact qA0 _ | exact qAX rfl | apply And.intro))
  · rintro m s ⟨k, hk4, rfl, rfl⟩
    repeat (first | (with_reducible first | apply qAj | apply qAi | apply qAh | apply qAf) | ((with_reducible apply rp); ((with_reducible apply qAN); eq_refl; eq_refl)))
    refine qAn rfl (fun hd => ?_) (fun hd => ?_)
    · have hlt : k < 4 := by simp at hd; omega
      clear hd
      obtain ⟨c, hc⟩ : ∃ c, d[k]? = some c := ⟨_, List.getElem?_eq_getElem (by omega)⟩
      have hco := h.ok c (List.mem_of_getElem? hc)
      repeat (first | (with_reducible first | apply qAj | apply qAi | apply qAh | apply qAf | apply qAo | apply qAm) | ((with_reducible apply rp); first | (exact qBl (d := d) (c := c) (tyOk rfl) rfl (tyOk rfl) rfl rfl rfl rfl rfl h4 hc) | (exact qCc (h := k) (tyOk rfl) rfl (by decide) rfl ⟨_, _, rfl, rfl⟩ (by omega)) | (exact qCu (tyOk rfl) rfl rfl) | ((with_reducible apply qAd); (conv => lhs; whnf)) | ((with_reducible apply qAa); (conv => lhs; whnf))) | ((with_reducible apply rp1); ((with_reducible apply qAk); exact tyOk rfl; eq_refl)) | ((with_reducible apply rpN); ((with_reducible apply qAb); exact tyOk rfl; (iterate 5 eq_refl))))
      refine qBf (fun m s => ∃ j, j ≤ k ∧ m = k - j ∧ s = ⟨[(1, .px 1 0), (4, .px 4 0), (7, .d (.ag (d.flatMap Ce.cs))), (8, .d (iD k)), (13, .sx 1 k 4), (14, .d (iD k)), (15, .d (iD j))], [(1, .var 27 ((d.flatMap Ce.cs).map .d)), (4, .var 26 [.d (bD c.full), .d (qBx c.row)])]⟩) _ _ ?_ ⟨0, by omega, rfl, rfl⟩ ?_
      · refine qAw [] (by repeat' (first | exact qAG | (refine qAx rfl (by exact SubA.refl _) ?_))) (by repeat' (first | exact trivial | eq_refl | exact kb_d rfl | apply And.intro)) rfl (insS rfl) (by repeat' (first | exact trivial | exact qA0 _ | exact qAX rfl | exact qEU rfl | apply And.intro))
      · rintro m s ⟨j, hj, rfl, rfl⟩
        repeat (first | (with_reducible first | apply qAj | apply qAi | apply qAh | apply qAf) | ((with_reducible apply rp); ((with_reducible apply qAN); eq_refl; eq_refl)))
        refine qAn rfl (fun hd => ?_) (fun hd => ?_)
        · have hjk : j < k := by simp at hd; omega
          clear hd
          obtain ⟨b, hb⟩ : ∃ b, d[j]? = some b := ⟨_, List.getElem?_eq_getElem (by omega)⟩
          have hbo := h.ok b (List.mem_of_getElem? hb)
          have hne : b.full = true → c.full = true → keyN b.row ≠ keyN c.row := by
            obtain ⟨l1, e1⟩ := List.getElem?_eq_some_iff.1 hb
            obtain ⟨l2, e2⟩ := List.getElem?_eq_some_iff.1 hc
            have := List.pairwise_iff_getElem.1 h.keys j k l1 l2 hjk
            rw [e1, e2] at this
            exact this
          have hcase : (c.full = false ∨ b.full = false) ∨ (∃ kc lc kb lb, c = ⟨true, numV kc :: lc⟩ ∧ b = ⟨true, numV kb :: lb⟩ ∧ kb ≠ kc) := by
            by_cases hcf : c.full = true
            · by_cases hbf : b.full = true
              · right
                obtain ⟨kc, lc, ec⟩ := qCm (hco.fit hcf) hk
                obtain ⟨kb, lb, eb⟩ := qCm (hbo.fit hbf) hk
                have hn := hne hbf hcf
                refine ⟨kc, lc, kb, lb, ?_, ?_, ?_⟩
                · cases c; simp_all
                · cases b; simp_all
                · rw [ec, eb] at hn; exact hn
              · exact .inl (.inr (eq_false_of_ne_true hbf))
            · exact .inl (.inl (eq_false_of_ne_true hcf))
          rcases hcase with (hf | hf) | ⟨kc, lc, kb, lb, ec, eb, hkk⟩
          · obtain ⟨cf, cr⟩ := c
            dsimp only at hf
            subst hf
            have hff : (({ full := false, row := cr } : Ce).full && b.full) = false := rfl
            repeat (first | (with_reducible first | apply qAj | apply qAi | apply qAh | apply qAf | apply qA4 | apply qAo | apply qAm) | ((with_reducible apply qBg); (first | kernel_rfl | eq_refl)) | ((first | (with_reducible first | apply rp | apply dr) | ((with_reducible apply drG); eq_refl; exact qAT rfl; (focus repeat' (first | exact trivial | exact id | apply And.intro)); intro zg; have zh := zg; (try simp only [zs1, zs2, zs3, zs4] at zg))); first | (exact qBz (i := j) (tyOk rfl) rfl (tyOk rfl) rfl rfl rfl (by omega) rfl) | (exact qB6 (j := j) (d := d) (c := b) (tyOk rfl) rfl rfl rfl rfl hb) | ((with_reducible apply qAd); (conv => lhs; whnf)) | ((with_reducible first | apply qAM | apply qAc | apply qAe) <;> first | ((with_reducible apply tyOk); eq_refl) | eq_refl | exact id | decide) | ((with_reducible apply qB8); eq_refl; (first | assumption | decide); (conv => lhs; whnf))) | ((with_reducible apply rp1); ((with_reducible apply qAk); exact tyOk rfl; eq_refl)) | ((with_reducible apply rpN); ((with_reducible apply qAb); exact tyOk rfl; (iterate 5 eq_refl))) | ((first | (with_reducible apply rpGF) | (with_reducible apply drGF)); eq_refl; exact qAT rfl; (first | assumption | decide | eq_refl); (focus repeat' (first | exact trivial | exact id | apply And.intro))))
            refine qAn rfl (fun hd => absurd hd (by decide)) (fun _ => ?_)
            repeat (first | (with_reducible first | apply qAi | apply qAh | apply qAf | apply qAF | apply qAm) | ((with_reducible apply rp); first | ((with_reducible apply qAd); (conv => lhs; whnf)) | ((with_reducible apply qAI); eq_refl; eq_refl; omega; omega)))
            refine ⟨_, _, ?_, ?_, j + 1, by omega, rfl, rfl⟩
            · omega
            · refine qAw [] (by repeat' (first | exact qAG | (refine qAx rfl (by exact SubA.refl _) ?_))) (by repeat' (first | exact trivial | eq_refl | exact kb_d rfl | apply And.intro)) rfl (insS rfl) (by repeat' (first | exact trivial | exact qA0 _ | exact qAX rfl | exact qEU rfl | apply And.intro))
          · obtain ⟨cf, cr⟩ := c
            obtain ⟨bf, br⟩ := b
            dsimp only at hf
            subst hf
            have hff : (cf && false) = false := by cases cf <;> rfl
            repeat (first | (with_reducible first | apply qAj | apply qAi | apply qAh | apply qAf | apply qA4 | apply qAo | apply qAm) | ((with_reducible apply qBg); (first | kernel_rfl | eq_refl)) | ((first | (with_reducible first | apply rp | apply dr) | ((with_reducible apply drG); eq_refl; exact qAT rfl; (focus repeat' (first | exact trivial | exact id | apply And.intro)); intro zg; have zh := zg; (try simp only [zs1, zs2, zs3, zs4] at zg))); first | (exact qBz (i := j) (tyOk rfl) rfl (tyOk rfl) rfl rfl rfl (by omega) rfl) | (exact qB6 (j := j) (d := d) (c := ⟨false, br⟩) (tyOk rfl) rfl rfl rfl rfl hb) | ((with_reducible apply qAd); (conv => lhs; whnf)) | ((with_reducible first | apply qAM | apply qAc | apply qAe) <;> first | ((with_reducible apply tyOk); eq_refl) | eq_refl | exact id | decide) | ((with_reducible apply qB8); eq_refl; (first | assumption | decide); (conv => lhs; whnf))) | ((with_reducible apply rp1); ((with_reducible apply qAk); exact tyOk rfl; eq_refl)) | ((with_reducible apply rpN); ((with_reducible apply qAb); exact tyOk rfl; (iterate 5 eq_refl))) | ((first | (with_reducible apply rpGF) | (with_reducible apply drGF)); eq_refl; exact qAT rfl; (first | assumption | decide | eq_refl); (focus repeat' (first | exact trivial | exact id | apply And.intro))))
            refine qAn rfl (fun hd => absurd hd (by decide)) (fun _ => ?_)
            repeat (first | (with_reducible first | apply qAi | apply qAh | apply qAf | apply qAF | apply qAm) | ((with_reducible apply rp); first | ((with_reducible apply qAd); (conv => lhs; whnf)) | ((with_reducible apply qAI); eq_refl; eq_refl; omega; omega)))
            refine ⟨_, _, ?_, ?_, j + 1, by omega, rfl, rfl⟩
            · omega
            · refine qAw [] (by repeat' (first | exact qAG | (refine qAx rfl (by exact SubA.refl _) ?_))) (by repeat' (first | exact trivial | eq_refl | exact kb_d rfl | apply And.intro)) rfl (insS rfl) (by repeat' (first | exact trivial | exact qA0 _ | exact qAX rfl | exact qEU rfl | apply And.intro))
          · subst ec eb
            have hgc : ((numV kc :: lc).map Vl.cs)[0]? = some [iD 2, iD kc, qD 0, strD .empty] := rfl
            have hgb : ((numV kb :: lb).map Vl.cs)[0]? = some [iD 2, iD kb, qD 0, strD .empty] := rfl
            repeat (first | (with_reducible first | apply qAj | apply qAi | apply qAh | apply qAf | apply qA4 | apply qAo | apply qAm) | ((with_reducible apply qBg); (first | kernel_rfl | eq_refl)) | ((first | (with_reducible first | apply rp | apply dr) | ((with_reducible apply drG); eq_refl; exact qAT rfl; (focus repeat' (first | exact trivial | exact id | apply And.intro)); intro zg; have zh := zg; (try simp only [zs1, zs2, zs3, zs4] at zg))); first | (exact qBz (i := j) (tyOk rfl) rfl (tyOk rfl) rfl rfl rfl (by omega) rfl) | (exact qB6 (j := j) (d := d) (c := ⟨true, numV kb :: lb⟩) (tyOk rfl) rfl rfl rfl rfl hb) | ((with_reducible apply qAd); (conv => lhs; whnf)) | ((with_reducible first | apply qAM | apply qAc | apply qAe | apply qCk) <;> first | ((with_reducible apply tyOk); eq_refl) | ((with_reducible apply tgOk); eq_refl) | eq_refl | exact id | decide) | ((with_reducible apply qAE); exact tyOk rfl; eq_refl; eq_refl; assumption; eq_refl) | ((with_reducible apply qAH); exact tyOk rfl; eq_refl; exact tyOk rfl; (iterate 4 eq_refl); (dsimp only; simp only [List.length_map, List.length_append, List.length_cons, List.length_nil] at *; omega))) | ((with_reducible apply rp1); ((with_reducible apply qAk); exact tyOk rfl; eq_refl)) | ((with_reducible apply rpN); ((with_reducible apply qAb); exact tyOk rfl; (iterate 5 eq_refl))))
            refine qAn rfl (fun hd => ?_) (fun _ => ?_)
            · exfalso
              simp [hkk] at hd
            repeat (first | (with_reducible first | apply qAi | apply qAh | apply qAf | apply qAF | apply qAm) | ((with_reducible apply rp); first | ((with_reducible apply qAd); (conv => lhs; whnf)) | ((with_reducible apply qAI); eq_refl; eq_refl; omega; omega)))
            refine ⟨_, _, ?_, ?_, j + 1, by omega, rfl, rfl⟩
            · omega
            · refine qAw [] (by repeat' (first | exact qAG | (refine qAx rfl (by exact SubA.refl _) ?_))) (by repeat' (first | exact trivial | eq_refl | exact kb_d rfl | apply And.intro)) rfl (insS rfl) (by repeat' (first | exact trivial | exact qA0 _ | exact qAX rfl | exact qEU rfl | apply And.intro))
        · have hke : j = k := by simp at hd; omega
          clear hd
          subst hke
          repeat (first | (with_reducible first | apply qAi | apply qAh | apply qAf | apply qA5 | apply qA9 | apply qA8 | apply qAF) | ((with_reducible apply rp); first | ((with_reducible apply qAd); (conv => lhs; whnf)) | ((with_reducible apply qAI); eq_refl; eq_refl; omega; omega)))
          refine ⟨_, _, ?_, ?_, j + 1, by omega, rfl, rfl⟩
          · omega
          · refine qAw [] (by repeat' (first | exact qAG | (refine qAx rfl (by exact SubA.refl _) ?_))) (by repeat' (first | exact trivial | exact kb_d rfl | apply And.intro)) rfl (insS rfl) (by repeat' (first | exact trivial | exact qA0 _ | exact qAX rfl | apply And.intro))
    · have hke : k = 4 := by simp at hd; omega
      clear hd
      subst hke
      repeat (first | (with_reducible first | apply qAj | apply qAi | apply qAh | apply qAf | apply qA5 | apply qA9 | apply qA8 | apply qAu | apply qAz) | ((with_reducible apply rp); ((with_reducible apply qAa); (conv => lhs; whnf))))
      (with_reducible apply qAA); (focus (repeat' (first | (with_reducible apply qAv) | (with_reducible apply qAq) | ((with_reducible apply qAD); eq_refl)))); eq_refl; refine SubD.of_eq ?_
      rfl
end Go.Proofs.YtpaccaojgbfjdaaDoor


/-
  chirograph/table: Check as a contract. No condition but that the table may be.
-/
namespace Go.Proofs.YtpaccaojgbfjdaaDoor
open Go.RowKit

def drF (a b : List Ce) (i : Nat) : List Ce := if i = 0 then a else b
section
variable {P : Program} {dst : Option Nat} {ty : TypeId} {e : Operand → A} {β : Bx} {T T0 el : TypeId} {x y : Operand}
theorem qDb {t te : TyI} {len esz i : Nat} {er : Bool} {k : IntKind} {n : Int} {a b : List Ce} (ht : mkTy P T = some t) (hk : t.kind = .array len el esz er) (hte : mkTy P el = some te) (hr : te.row = true) (h2 : te.size = 8) (h3 : len = 2) (hx : e x = .d (.ag (a.flatMap Ce.cs ++ b.flatMap Ce.cs))) (hy : e y = .d (.sc (.int k n))) (hn : n = (i : Nat)) (hi : i < 2) (ha : a.length = 4) (hb : b.length = 4) :
    Does P dst (.index T x y) ty e β (.d (.ag ((drF a b i).flatMap Ce.cs))) [] [] := by
  have la : (a.flatMap Ce.cs).length = 8 := by rw [qBA, ha]
  have lb : (b.flatMap Ce.cs).length = 8 := by rw [qBA, hb]
  have h := qD3 (P := P) (dst := dst) (ty := ty) (e := e) (β := β) (x := x) (y := y) ht hk hte hr hx hy hn (by omega) (by rw [List.length_append, la, lb, h2, h3])
  rw [h2] at h
  rcases (by omega : i = 0 ∨ i = 1) with rfl | rfl
  · rw [Nat.zero_mul, List.drop_zero, List.take_append_of_le_length (by omega), List.take_of_length_le (by omega)] at h
    exact h
  · rw [Nat.one_mul, show (8 : Nat) = (a.flatMap Ce.cs).length from la.symm, List.drop_left, List.take_of_length_le (by omega)] at h
    exact h
theorem qEB {t : TyI} {id : Nat} {pre : List D} {a b : List Ce} (ht : mkTy P T = some t) (hr : t.row = true) (h2 : t.size = 16) (hx : e x = .px id 3) (hl : look id β = some (.var T0 ((pre ++ (a.flatMap Ce.cs ++ b.flatMap Ce.cs)).map .d))) (hp : pre.length = 3) (ha : a.length = 4) (hb : b.length = 4) : Does P dst (.load T x) ty e β (.d (.ag (a.flatMap Ce.cs ++ b.flatMap Ce.cs))) [] [id] := by
  have la : (a.flatMap Ce.cs).length = 8 := by rw [qBA, ha]
  have lb : (b.flatMap Ce.cs).length = 8 := by rw [qBA, hb]
  have ll : (a.flatMap Ce.cs ++ b.flatMap Ce.cs).length = 16 := by rw [List.length_append, la, lb]
  refine qAl ht hr hx hl (by rw [List.length_map, List.length_append, ll, hp, h2]; omega) ?_
  rw [h2, ← List.map_drop, show (3 : Nat) = pre.length from hp.symm, List.drop_left, List.take_of_length_le (by rw [List.length_map, ll]; omega)]
  exact qCN _
end
set_option maxHeartbeats 4000000 in
theorem check_tb (t : Tb) (h : TbOk t) : PC Tryd.prog 16 [.ag t.cs] (iD 0) := by
  obtain ⟨tn, tc, a, b⟩ := t
  obtain ⟨hn, hc, hk, ha, hb⟩ := h
  dsimp only at *
  have n1 := name_pc tn hn
  have c1 := qEJ tc hc
  have hl5 := hc.len
  have ha4 := ha.len
  have hb4 := hb.len
  obtain ⟨kn, kl, rfl⟩ := hk
  have hlen : ((⟨kn, 2, false⟩ :: kl : List Cl).map Cl.cs).length = kl.length + 1 := by simp
  have hg0 : ((⟨kn, 2, false⟩ :: kl : List Cl).map Cl.cs)[0]? = some [strD kn, iD 2, bD false] := rfl
  unfold Tb.cs
  dsimp only
  refine qAs Tryd.func16 rfl (by kernel_rfl) mixed (by kernel_rfl) (qle (by kernel_rfl)) Tryd.results16 ?_
  repeat (first | (with_reducible first | apply qAj | apply qAi | apply qAh | apply qAf | apply qAo | apply qAm) | ((first | (with_reducible apply rp) | ((with_reducible apply rpG); eq_refl; exact qAP rfl; (focus repeat' (first | exact trivial | exact id | apply And.intro)); intro zg; have zh := zg; (try simp only [zs1, zs2, zs3, zs4] at zg))); first | ((with_reducible apply qAg); eq_refl; eq_refl; (first | exact (n1) | exact (c1)); eq_refl) | (exact qEB (a := a) (b := b) (pre := [bD true, strD tn, qAW (⟨kn, 2, false⟩ :: kl)]) (tyOk rfl) rfl rfl rfl rfl rfl ha4 hb4) | ((with_reducible first | apply qAd | apply qAa); (conv => lhs; whnf)) | ((with_reducible first | apply qAJ | apply qAc | apply qAe | apply qAr | apply qAU | apply qAZ | apply qA7) <;> first | ((with_reducible apply tyOk); eq_refl) | eq_refl | exact id | decide) | ((with_reducible apply qBp); exact tyOk rfl; eq_refl; eq_refl; assumption; eq_refl) | ((with_reducible apply qAH); exact tyOk rfl; eq_refl; exact tyOk rfl; (iterate 4 eq_refl); (dsimp only; omega)) | ((with_reducible apply qAR); exact tyOk rfl; eq_refl; eq_refl; (focus repeat' (first | eq_refl | refine ⟨_, _, rfl, rfl, qle rfl, rfl, ?_⟩)); eq_refl)) | ((with_reducible apply rp1); ((with_reducible apply qAp); eq_refl; eq_refl)) | ((with_reducible apply qA6); eq_refl; eq_refl))
  clear hg0 hlen n1
  generalize htc : (⟨kn, 2, false⟩ :: kl : List Cl) = tc at *
  refine qBf (fun m s => ∃ i, i ≤ 2 ∧ m = 2 - i ∧ s = ⟨[(1, .px 1 0), (44, .d (.ag (a.flatMap Ce.cs ++ b.flatMap Ce.cs))), (45, .d (iD i))], [(1, .var 30 (([bD true, strD tn, qAW tc] ++ (a.flatMap Ce.cs ++ b.flatMap Ce.cs)).map .d))]⟩) _ _ ?_ ⟨0, by omega, rfl, rfl⟩ ?_
  · refine qAw [] (by repeat' (first | exact qAG | (refine qAx rfl (by exact SubA.refl _) ?_))) (by repeat' (first | exact trivial | exact kb_d rfl | apply And.intro)) rfl (insS rfl) (by repeat' (first | exact trivial | exact qA0 _ | exact qAX rfl | apply And.intro))
  · rintro m s ⟨i, hi2, rfl, rfl⟩
    repeat (first | (with_reducible first | apply qAj | apply qAi | apply qAh | apply qAf) | ((with_reducible apply rp); ((with_reducible apply qAN); eq_refl; eq_refl)))
    refine qAn rfl (fun hd => ?_) (fun hd => ?_)
    · have hlt : i < 2 := by simp at hd; omega
      clear hd
      obtain ⟨d, hd⟩ : ∃ d, drF a b i = d := ⟨_, rfl⟩
      have hdo : DrOk tc d := by rw [← hd]; unfold drF; split; exact ha; exact hb
      have h4 := hdo.len
      have h8 : (d.flatMap Ce.cs).length = 8 := by rw [qBA, h4]
      have k1 := keys_pc tc ⟨kn, kl, htc.symm⟩ d hdo
      have ix := fun (P : Program) (dst : Option Nat) (ty : TypeId) (e : Operand → A) (β : Bx) (T el : TypeId) (x y : Operand) (t te : TyI) (len esz : Nat) (er : Bool) (k : IntKind) (n : Int) (h1 : mkTy P T = some t) (h2 : t.kind = .array len el esz er) (h3 : mkTy P el = some te) (h4 : te.row = true) (h5 : te.size = 8) (h6 : len = 2) (h7 : e x = .d (.ag (a.flatMap Ce.cs ++ b.flatMap Ce.cs))) (h8 : e y = .d (.sc (.int k n))) (h9 : n = (i : Nat)) => by
        have := qDb (P := P) (dst := dst) (ty := ty) (e := e) (β := β) (x := x) (y := y) h1 h2 h3 h4 h5 h6 h7 h8 h9 hlt ha4 hb4
        rw [hd] at this
        exact this
      repeat (first | (with_reducible first | apply qAj | apply qAi | apply qAh | apply qAf | apply qAo | apply qAm) | ((with_reducible apply rp); first | (exact ix _ _ _ _ _ _ _ _ _ _ _ _ _ _ _ _ (tyOk rfl) rfl (tyOk rfl) rfl rfl rfl rfl rfl rfl) | (exact qB2 (tyOk rfl) rfl rfl rfl rfl h4) | ((with_reducible apply qAd); (conv => lhs; whnf))) | ((with_reducible apply rp1); ((with_reducible apply qAk); exact tyOk rfl; eq_refl)) | ((with_reducible apply rpN); (exact qAb (tyOk rfl) rfl rfl rfl h8 h8)))
      refine qBf (fun m s => ∃ k, k ≤ 4 ∧ m = 4 - k ∧ s = ⟨[(1, .px 1 0), (5, .px 5 0), (44, .d (.ag (a.flatMap Ce.cs ++ b.flatMap Ce.cs))), (45, .d (iD i)), (48, .d (.ag (d.flatMap Ce.cs))), (49, .d (iD k))], [(1, .var 30 (([bD true, strD tn, qAW tc] ++ (a.flatMap Ce.cs ++ b.flatMap Ce.cs)).map .d)), (5, .var 27 ((d.flatMap Ce.cs).map .d))]⟩) _ _ ?_ ⟨0, by omega, rfl, rfl⟩ ?_
      · refine qAw [] (by repeat' (first | exact qAG | (refine qAx rfl (by exact SubA.refl _) ?_))) (by repeat' (first | exact trivial | exact kb_d rfl | apply And.intro)) rfl (insS rfl) (by repeat' (first | exact trivial | exact qA0 _ | exact qAX rfl | apply And.intro))
      · rintro m s ⟨k, hk4, rfl, rfl⟩
        repeat (first | (with_reducible first | apply qAj | apply qAi | apply qAh | apply qAf) | ((with_reducible apply rp); ((with_reducible apply qAN); eq_refl; eq_refl)))
        refine qAn rfl (fun hd => ?_) (fun hd => ?_)
        · have hlt4 : k < 4 := by simp at hd; omega
          clear hd
          obtain ⟨c, hcc⟩ : ∃ c, d[k]? = some c := ⟨_, List.getElem?_eq_getElem (by omega)⟩
          have hco := hdo.ok c (List.mem_of_getElem? hcc)
          obtain ⟨cf, cr⟩ := c
          cases cf with
          | true =>
            have r1 := qFs cr tc hc (hco.fit rfl)
            repeat (first | (with_reducible first | apply qAj | apply qAi | apply qAh | apply qAf | apply qAo | apply qAF | apply qAm) | ((first | (with_reducible apply rp) | ((with_reducible apply rpG); eq_refl; exact qAT rfl; (focus repeat' (first | exact trivial | exact id | apply And.intro)); intro zg; have zh := zg; (try simp only [zs1, zs2, zs3, zs4] at zg))); first | (exact qBl (d := d) (c := ⟨true, cr⟩) (tyOk rfl) rfl (tyOk rfl) rfl rfl rfl rfl rfl h4 hcc) | ((with_reducible apply qAg); eq_refl; eq_refl; exact (r1); eq_refl) | ((with_reducible first | apply qAd | apply qAa); (conv => lhs; whnf)) | ((with_reducible first | apply qAM | apply qAc | apply qAe | apply qAU | apply qBH | apply qAZ | apply qA7) <;> first | ((with_reducible apply tyOk); eq_refl) | eq_refl | exact id | decide) | ((with_reducible apply qAI); eq_refl; eq_refl; omega; omega)) | ((with_reducible apply rp1); ((with_reducible apply qAk); exact tyOk rfl; eq_refl)) | ((with_reducible apply rpN); ((with_reducible apply qAb); exact tyOk rfl; (iterate 5 eq_refl))) | ((with_reducible apply qA6); eq_refl; eq_refl))
            refine ⟨_, _, ?_, ?_, k + 1, by omega, rfl, rfl⟩
            · omega
            · refine qAw [] (by repeat' (first | exact qAG | (refine qAx rfl (by exact SubA.refl _) ?_))) (by repeat' (first | exact trivial | exact kb_d rfl | apply And.intro)) rfl (insS rfl) (by repeat' (first | exact trivial | exact qA0 _ | exact qAX rfl | apply And.intro))
          | false =>
            have hr0 : cr = [] := hco.none rfl
            subst hr0
            repeat (first | (with_reducible first | apply qAj | apply qAi | apply qAh | apply qAf | apply qAo | apply qA5 | apply qA9 | apply qA8 | apply qAm) | ((first | (with_reducible apply rp) | ((with_reducible apply rpG); eq_refl; exact qAT rfl; (focus repeat' (first | exact trivial | exact id | apply And.intro)); intro zg; have zh := zg; (try simp only [zs1, zs2, zs3, zs4] at zg))); first | (exact qBl (d := d) (c := ⟨false, []⟩) (tyOk rfl) rfl (tyOk rfl) rfl rfl rfl rfl rfl h4 hcc) | ((with_reducible apply qAd); (conv => lhs; whnf)) | ((with_reducible first | apply qAM | apply qAc | apply qAe | apply qBH | apply qAZ | apply qA7) <;> first | ((with_reducible apply tyOk); eq_refl) | eq_refl | exact id | decide) | ((with_reducible apply qAI); eq_refl; eq_refl; omega; omega)) | ((with_reducible apply rp1); ((with_reducible apply qAk); exact tyOk rfl; eq_refl)) | ((with_reducible apply rpN); ((with_reducible apply qAb); exact tyOk rfl; (iterate 5 eq_refl))) | ((with_reducible apply qA6); eq_refl; eq_refl) | ((with_reducible apply qBq); eq_refl; eq_refl))
            refine ⟨_, _, ?_, ?_, k + 1, by omega, rfl, rfl⟩
            · omega
            · refine qAw [] (by repeat' (first | exact qAG | (refine qAx rfl (by exact SubA.refl _) ?_))) (by repeat' (first | exact trivial | exact kb_d rfl | apply And.intro)) rfl (insS rfl) (by repeat' (first | exact trivial | exact qA0 _ | exact qAX rfl | apply And.intro))
        · have hke : k = 4 := by simp at hd; omega
          clear hd
          subst hke
          repeat (first | (with_reducible first | apply qAj | apply qAi | apply qAh | apply qAf | apply qA5 | apply qA9 | apply qA8 | apply qAF | apply qAm) | ((with_reducible apply rp); first | (exact qB2 (tyOk rfl) rfl rfl rfl rfl h4) | ((with_reducible apply qAg); eq_refl; eq_refl; exact (k1); eq_refl) | ((with_reducible apply qAd); (conv => lhs; whnf)) | ((with_reducible apply qAa); (conv => lhs; whnf)) | ((with_reducible apply qAU); eq_refl; eq_refl) | ((with_reducible apply qAI); eq_refl; eq_refl; omega; omega)) | ((with_reducible apply qA6); eq_refl; eq_refl))
          refine ⟨_, _, ?_, ?_, i + 1, by omega, rfl, rfl⟩
          · omega
          · refine qAw [] (by repeat' (first | exact qAG | (refine qAx rfl (by exact SubA.refl _) ?_))) (by repeat' (first | exact trivial | exact kb_d rfl | apply And.intro)) rfl (insS rfl) (by repeat' (first | exact trivial | exact qA0 _ | exact qAX rfl | apply And.intro))
    · have hke : i = 2 := by simp at hd; omega
      clear hd
      subst hke
      repeat (first | (with_reducible first | apply qAj | apply qAi | apply qAh | apply qAf | apply qA5 | apply qA9 | apply qA8 | apply qAu | apply qAz) | ((with_reducible apply rp); ((with_reducible apply qAa); (conv => lhs; whnf))))
      (with_reducible apply qAA); (focus (repeat' (first | (with_reducible apply qAv) | (with_reducible apply qAq) | ((with_reducible apply qAD); eq_refl)))); eq_refl; refine SubD.of_eq ?_
      rfl
end Go.Proofs.YtpaccaojgbfjdaaDoor


/-
  chirograph/table: fresh, begun, Insert as contracts.
-/
namespace Go.Proofs.YtpaccaojgbfjdaaDoor
open Go.RowKit

def tb0 : List D := [bD false, strD .empty, .nl, bD false, .nl, bD false, .nl, bD false, .nl, bD false, .nl, bD false, .nl, bD false, .nl, bD false, .nl, bD false, .nl]
theorem qEP : ∀ {d : List Ce}, d.length = 4 → ∃ c0 c1 c2 c3, d = [c0, c1, c2, c3]
  | [c0, c1, c2, c3], _ => ⟨c0, c1, c2, c3, rfl⟩
theorem qDG {cols : List Cl} (hl : cols.length ≤ 5) {c : Ce} (h : CeOk cols c) : c.row.length ≤ 1000000 := by
  cases hf : c.full with
  | true => have := (h.fit hf).len; omega
  | false => rw [h.none hf]; simp
set_option maxHeartbeats 4000000 in
theorem fresh_pc (t : Tb) (h : TbOk t) : PC Tryd.prog 66 [.ag t.cs] (.ag t.cs) := by
  obtain ⟨tn, tc, a, b⟩ := t
  obtain ⟨hn, hc, hk, ha, hb⟩ := h
  dsimp only at *
  have hl5 := hc.len
  obtain ⟨a0, a1, a2, a3, rfl⟩ := qEP ha.len
  obtain ⟨b0, b1, b2, b3, rfl⟩ := qEP hb.len
  have p0 := qCQ a0.row (qDG hl5 (ha.ok a0 (by simp)))
  have p1 := qCQ a1.row (qDG hl5 (ha.ok a1 (by simp)))
  have p2 := qCQ a2.row (qDG hl5 (ha.ok a2 (by simp)))
  have p3 := qCQ a3.row (qDG hl5 (ha.ok a3 (by simp)))
  have q0 := qCQ b0.row (qDG hl5 (hb.ok b0 (by simp)))
  have q1 := qCQ b1.row (qDG hl5 (hb.ok b1 (by simp)))
  have q2 := qCQ b2.row (qDG hl5 (hb.ok b2 (by simp)))
  have q3 := qCQ b3.row (qDG hl5 (hb.ok b3 (by simp)))
  have htl : (tc.map Cl.cs).length ≤ 5 := by rw [List.length_map]; exact hl5
  clear ha hb hn hk hc
  obtain ⟨a0f, a0⟩ := a0
  obtain ⟨a1f, a1⟩ := a1
  obtain ⟨a2f, a2⟩ := a2
  obtain ⟨a3f, a3⟩ := a3
  obtain ⟨b0f, b0⟩ := b0
  obtain ⟨b1f, b1⟩ := b1
  obtain ⟨b2f, b2⟩ := b2
  obtain ⟨b3f, b3⟩ := b3
  dsimp only at *
  unfold Tb.cs
  dsimp only
  refine qAs Tryd.func66 rfl (by kernel_rfl) mixed (by kernel_rfl) (qle (by kernel_rfl)) Tryd.results66 ?_
  repeat (first | (with_reducible first | apply qAj | apply qAi | apply qAh | apply qAf | apply qAo) | ((with_reducible apply rp); first | ((with_reducible apply qAd); (conv => lhs; whnf)) | ((with_reducible apply qAc); exact tyOk rfl; eq_refl; eq_refl; decide; eq_refl) | ((with_reducible apply qAe); exact tyOk rfl; (iterate 4 eq_refl))) | ((with_reducible apply rp1); first | ((with_reducible apply qAp); eq_refl; eq_refl) | ((with_reducible apply qAk); exact tyOk rfl; eq_refl) | ((with_reducible apply qA2); exact tyOk rfl; eq_refl; exact tyOk rfl; eq_refl; eq_refl; (focus repeat' (first | exact trivial | refine And.intro rfl (And.intro rfl ?_))); decide; decide; eq_refl)) | ((with_reducible apply rp2); ((with_reducible apply qBm); exact tyOk rfl; eq_refl; exact tyOk rfl; (iterate 3 eq_refl); decide; (first | (dsimp only; simp only [List.length_map, List.length_append, List.length_cons, List.length_nil] at *; omega) | (simp only [List.length_map, List.length_append, List.length_cons, List.length_nil] at *; omega)); (first | (dsimp only; simp only [List.length_map, List.length_append, List.length_cons, List.length_nil] at *; omega) | (simp only [List.length_map, List.length_append, List.length_cons, List.length_nil] at *; omega)); eq_refl)) | ((with_reducible apply rpN); ((with_reducible apply qBj); exact tyOk rfl; eq_refl; eq_refl; (conv => lhs; whnf); eq_refl; eq_refl; exact qle rfl)))
  refine qBf (fun m s => ∃ i, i ≤ 2 ∧ m = 2 - i ∧ s = ⟨[(1, .px 1 0), (2, .px 2 0), (11, .d (iD i))], [(1, .var 30 [.d (bD true), .d (strD tn), .ow 9 (([] : List (List D)).length + (tc.map Cl.cs).length), .d (bD a0f), .d (qBx a0), .d (bD a1f), .d (qBx a1), .d (bD a2f), .d (qBx a2), .d (bD a3f), .d (qBx a3), .d (bD b0f), .d (qBx b0), .d (bD b1f), .d (qBx b1), .d (bD b2f), .d (qBx b2), .d (bD b3f), .d (qBx b3)]), (2, .var 30 (tb0.map .d)), (9, .row 52 3 ([] ++ tc.map Cl.cs))]⟩) _ _ ?_ ⟨0, by omega, rfl, rfl⟩ ?_
  · refine qAw [] (by repeat' (first | exact qAG | (refine qAx rfl (by exact SubA.refl _) ?_))) (by repeat' (first | exact trivial | eq_refl | apply And.intro)) rfl (insS rfl) (by repeat' (first | exact trivial | exact qA0 _ | exact qBJ rfl | exact qAX rfl | apply And.intro))
  · rintro m s ⟨i, hi2, rfl, rfl⟩
    repeat (first | (with_reducible first | apply qAj | apply qAi | apply qAh | apply qAf) | ((with_reducible apply rp); ((with_reducible apply qAN); eq_refl; eq_refl)))
    refine qAn rfl (fun hd => ?_) (fun hd => ?_)
    · have hlt : i < 2 := by simp at hd; omega
      clear hd
      rcases (by omega : i = 0 ∨ i = 1) with rfl | rfl
      · repeat (first | (with_reducible first | apply qAj | apply qAi | apply qAh | apply qAf | apply qAo | apply qAm) | ((with_reducible apply rp); first | ((with_reducible apply qAd); (conv => lhs; whnf)) | ((with_reducible apply qAa); (conv => lhs; whnf))))
        refine qBf (fun m s => ∃ k, k ≤ 4 ∧ m = 4 - k ∧ s = ⟨[(1, .px 1 0), (2, .px 2 0), (3, .d (iD 0)), (11, .d (iD 0)), (14, .d (iD k))], [(1, .var 30 [.d (bD true), .d (strD tn), .ow 9 (([] : List (List D)).length + (tc.map Cl.cs).length), .d (bD a0f), .d (qBx a0), .d (bD a1f), .d (qBx a1), .d (bD a2f), .d (qBx a2), .d (bD a3f), .d (qBx a3), .d (bD b0f), .d (qBx b0), .d (bD b1f), .d (qBx b1), .d (bD b2f), .d (qBx b2), .d (bD b3f), .d (qBx b3)]), (2, .var 30 (tb0.map .d)), (9, .row 52 3 ([] ++ tc.map Cl.cs))]⟩) _ _ ?_ ⟨0, by omega, rfl, rfl⟩ ?_
        · refine qAw [] (by repeat' (first | exact qAG | (refine qAx rfl (by exact SubA.refl _) ?_))) (by repeat' (first | exact trivial | eq_refl | apply And.intro)) rfl (insS rfl) (by repeat' (first | exact trivial | exact qA0 _ | exact qBJ rfl | exact qAX rfl | apply And.intro))
        · rintro m s ⟨k, hk4, rfl, rfl⟩
          repeat (first | (with_reducible first | apply qAj | apply qAi | apply qAh | apply qAf) | ((with_reducible apply rp); ((with_reducible apply qAN); eq_refl; eq_refl)))
          refine qAn rfl (fun hd => ?_) (fun hd => ?_)
          · have hlt4 : k < 4 := by simp at hd; omega
            clear hd
            rcases (by omega : k = 0 ∨ k = 1 ∨ k = 2 ∨ k = 3) with rfl | rfl | rfl | rfl
            · repeat (first | (with_reducible first | apply qAj | apply qAi | apply qAh | apply qAf | apply qAo | apply qAF | apply qAm) | ((with_reducible apply rp); first | ((with_reducible apply qAK); (iterate 3 eq_refl); exact (p0)) | ((with_reducible apply qAd); (conv => lhs; whnf)) | ((with_reducible apply qAa); (conv => lhs; whnf)) | ((with_reducible apply qAc); exact tyOk rfl; eq_refl; eq_refl; decide; eq_refl) | ((with_reducible apply qAe); exact tyOk rfl; (iterate 4 eq_refl)) | ((with_reducible apply qAL); exact tyOk rfl; (iterate 3 eq_refl); omega; decide; eq_refl) | ((with_reducible apply qAI); eq_refl; eq_refl; omega; omega) | ((with_reducible apply qBn); eq_refl)) | ((with_reducible apply rpN); ((with_reducible apply qBj); exact tyOk rfl; eq_refl; eq_refl; (conv => lhs; whnf); eq_refl; eq_refl; exact qle rfl)))
              refine ⟨_, _, ?_, ?_, 1, by omega, rfl, rfl⟩
              · omega
              · refine qAw [] (by repeat' (first | exact qAG | (refine qAx rfl (by exact SubA.refl _) ?_))) (by repeat' (first | exact trivial | eq_refl | apply And.intro)) rfl (insS rfl) (by repeat' (first | exact trivial | exact qA0 _ | exact qBJ rfl | exact qAX rfl | apply And.intro))
            · repeat (first | (with_reducible first | apply qAj | apply qAi | apply qAh | apply qAf | apply qAo | apply qAF | apply qAm) | ((with_reducible apply rp); first | ((with_reducible apply qAK); (iterate 3 eq_refl); exact (p1)) | ((with_reducible apply qAd); (conv => lhs; whnf)) | ((with_reducible apply qAa); (conv => lhs; whnf)) | ((with_reducible apply qAc); exact tyOk rfl; eq_refl; eq_refl; decide; eq_refl) | ((with_reducible apply qAe); exact tyOk rfl; (iterate 4 eq_refl)) | ((with_reducible apply qAL); exact tyOk rfl; (iterate 3 eq_refl); omega; decide; eq_refl) | ((with_reducible apply qAI); eq_refl; eq_refl; omega; omega) | ((with_reducible apply qBn); eq_refl)) | ((with_reducible apply rpN); ((with_reducible apply qBj); exact tyOk rfl; eq_refl; eq_refl; (conv => lhs; whnf); eq_refl; eq_refl; exact qle rfl)))
              refine ⟨_, _, ?_, ?_, 2, by omega, rfl, rfl⟩
              · omega
              · refine qAw [] (by repeat' (first | exact qAG | (refine qAx rfl (by exact SubA.refl _) ?_))) (by repeat' (first | exact trivial | eq_refl | apply And.intro)) rfl (insS rfl) (by repeat' (first | exact trivial | exact qA0 _ | exact qBJ rfl | exact qAX rfl | apply And.intro))
            · repeat (first | (with_reducible first | apply qAj | apply qAi | apply qAh | apply qAf | apply qAo | apply qAF | apply qAm) | ((with_reducible apply rp); first | ((with_reducible apply qAK); (iterate 3 eq_refl); exact (p2)) | ((with_reducible apply qAd); (conv => lhs; whnf)) | ((with_reducible apply qAa); (conv => lhs; whnf)) | ((with_reducible apply qAc); exact tyOk rfl; eq_refl; eq_refl; decide; eq_refl) | ((with_reducible apply qAe); exact tyOk rfl; (iterate 4 eq_refl)) | ((with_reducible apply qAL); exact tyOk rfl; (iterate 3 eq_refl); omega; decide; eq_refl) | ((with_reducible apply qAI); eq_refl; eq_refl; omega; omega) | ((with_reducible apply qBn); eq_refl)) | ((with_reducible apply rpN); ((with_reducible apply qBj); exact tyOk rfl; eq_refl; eq_refl; (conv => lhs; whnf); eq_refl; eq_refl; exact qle rfl)))
              refine ⟨_, _, ?_, ?_, 3, by omega, rfl, rfl⟩
              · omega
              · refine qAw [] (by repeat' (first | exact qAG | (refine qAx rfl (by exact SubA.refl _) ?_))) (by repeat' (first | exact trivial | eq_refl | apply And.intro)) rfl (insS rfl) (by repeat' (first | exact trivial | exact qA0 _ | exact qBJ rfl | exact qAX rfl | apply And.intro))
            · repeat (first | (with_reducible first | apply qAj | apply qAi | apply qAh | apply qAf | apply qAo | apply qAF | apply qAm) | ((with_reducible apply rp); first | ((with_reducible apply qAK); (iterate 3 eq_refl); exact (p3)) | ((with_reducible apply qAd); (conv => lhs; whnf)) | ((with_reducible apply qAa); (conv => lhs; whnf)) | ((with_reducible apply qAc); exact tyOk rfl; eq_refl; eq_refl; decide; eq_refl) | ((with_reducible apply qAe); exact tyOk rfl; (iterate 4 eq_refl)) | ((with_reducible apply qAL); exact tyOk rfl; (iterate 3 eq_refl); omega; decide; eq_refl) | ((with_reducible apply qAI); eq_refl; eq_refl; omega; omega) | ((with_reducible apply qBn); eq_refl)) | ((with_reducible apply rpN); ((with_reducible apply qBj); exact tyOk rfl; eq_refl; eq_refl; (conv => lhs; whnf); eq_refl; eq_refl; exact qle rfl)))
              refine ⟨_, _, ?_, ?_, 4, by omega, rfl, rfl⟩
              · omega
              · refine qAw [] (by repeat' (first | exact qAG | (refine qAx rfl (by exact SubA.refl _) ?_))) (by repeat' (first | exact trivial | eq_refl | apply And.intro)) rfl (insS rfl) (by repeat' (first | exact trivial | exact qA0 _ | exact qBJ rfl | exact qAX rfl | apply And.intro))
          · have hke : k = 4 := by simp at hd; omega
            clear hd
            subst hke
            repeat (first | (with_reducible first | apply qAi | apply qAh | apply qAf | apply qA5 | apply qA9 | apply qA8 | apply qAF) | ((with_reducible apply rp); first | ((with_reducible apply qAd); (conv => lhs; whnf)) | ((with_reducible apply qAI); eq_refl; eq_refl; omega; omega)))
            refine ⟨_, _, ?_, ?_, 1, by omega, rfl, rfl⟩
            · omega
            · refine qAw [] (by repeat' (first | exact qAG | (refine qAx rfl (by exact SubA.refl _) ?_))) (by repeat' (first | exact trivial | eq_refl | apply And.intro)) rfl (insS rfl) (by repeat' (first | exact trivial | exact qA0 _ | exact qBJ rfl | exact qAX rfl | apply And.intro))
      · repeat (first | (with_reducible first | apply qAj | apply qAi | apply qAh | apply qAf | apply qAo | apply qAm) | ((with_reducible apply rp); first | ((with_reducible apply qAd); (conv => lhs; whnf)) | ((with_reducible apply qAa); (conv => lhs; whnf))))
        refine qBf (fun m s => ∃ k, k ≤ 4 ∧ m = 4 - k ∧ s = ⟨[(1, .px 1 0), (2, .px 2 0), (3, .d (iD 1)), (11, .d (iD 1)), (14, .d (iD k))], [(1, .var 30 [.d (bD true), .d (strD tn), .ow 9 (([] : List (List D)).length + (tc.map Cl.cs).length), .d (bD a0f), .d (qBx a0), .d (bD a1f), .d (qBx a1), .d (bD a2f), .d (qBx a2), .d (bD a3f), .d (qBx a3), .d (bD b0f), .d (qBx b0), .d (bD b1f), .d (qBx b1), .d (bD b2f), .d (qBx b2), .d (bD b3f), .d (qBx b3)]), (2, .var 30 (tb0.map .d)), (9, .row 52 3 ([] ++ tc.map Cl.cs))]⟩) _ _ ?_ ⟨0, by omega, rfl, rfl⟩ ?_
        · refine qAw [] (by repeat' (first | exact qAG | (refine qAx rfl (by exact SubA.refl _) ?_))) (by repeat' (first | exact trivial | eq_refl | apply And.intro)) rfl (insS rfl) (by repeat' (first | exact trivial | exact qA0 _ | exact qBJ rfl | exact qAX rfl | apply And.intro))
        · rintro m s ⟨k, hk4, rfl, rfl⟩
          repeat (first | (with_reducible first | apply qAj | apply qAi | apply qAh | apply qAf) | ((with_reducible apply rp); ((with_reducible apply qAN); eq_refl; eq_refl)))
          refine qAn rfl (fun hd => ?_) (fun hd => ?_)
          · have hlt4 : k < 4 := by simp at hd; omega
            clear hd
            rcases (by omega : k = 0 ∨ k = 1 ∨ k = 2 ∨ k = 3) with rfl | rfl | rfl | rfl
            · repeat (first | (with_reducible first | apply qAj | apply qAi | apply qAh | apply qAf | apply qAo | apply qAF | apply qAm) | ((with_reducible apply rp); first | ((with_reducible apply qAK); (iterate 3 eq_refl); exact (q0)) | ((with_reducible apply qAd); (conv => lhs; whnf)) | ((with_reducible apply qAa); (conv => lhs; whnf)) | ((with_reducible apply qAc); exact tyOk rfl; eq_refl; eq_refl; decide; eq_refl) | ((with_reducible apply qAe); exact tyOk rfl; (iterate 4 eq_refl)) | ((with_reducible apply qAL); exact tyOk rfl; (iterate 3 eq_refl); omega; decide; eq_refl) | ((with_reducible apply qAI); eq_refl; eq_refl; omega; omega) | ((with_reducible apply qBn); eq_refl)) | ((with_reducible apply rpN); ((with_reducible apply qBj); exact tyOk rfl; eq_refl; eq_refl; (conv => lhs; whnf); eq_refl; eq_refl; exact qle rfl)))
              refine ⟨_, _, ?_, ?_, 1, by omega, rfl, rfl⟩
              · omega
              · refine qAw [] (by repeat' (first | exact qAG | (refine qAx rfl (by exact SubA.refl _) ?_))) (by repeat' (first | exact trivial | eq_refl | apply And.intro)) rfl (insS rfl) (by repeat' (first | exact trivial | exact qA0 _ | exact qBJ rfl | exact qAX rfl | apply And.intro))
            · repeat (first | (with_reducible first | apply qAj | apply qAi | apply qAh | apply qAf | apply qAo | apply qAF | apply qAm) | ((with_reducible apply rp); first | ((with_reducible apply qAK); (iterate 3 eq_refl); exact (q1)) | ((with_reducible apply qAd); (conv => lhs; whnf)) | ((with_reducible apply qAa); (conv => lhs; whnf)) | ((with_reducible apply qAc); exact tyOk rfl; eq_refl; eq_refl; decide; eq_refl) | ((with_reducible apply qAe); exact tyOk rfl; (iterate 4 eq_refl)) | ((with_reducible apply qAL); exact tyOk rfl; (iterate 3 eq_refl); omega; decide; eq_refl) | ((with_reducible apply qAI); eq_refl; eq_refl; omega; omega) | ((with_reducible apply qBn); eq_refl)) | ((with_reducible apply rpN); ((with_reducible apply qBj); exact tyOk rfl; eq_refl; eq_refl; (conv => lhs; whnf); eq_refl; eq_refl; exact qle rfl)))
              refine ⟨_, _, ?_, ?_, 2, by omega, rfl, rfl⟩
              · omega
              · refine qAw [] (by repeat' (first | exact qAG | (refine qAx rfl (by exact SubA.refl _) ?_))) (by repeat' (first | exact trivial | eq_refl | apply And.intro)) rfl (insS rfl) (by repeat' (first | exact trivial | exact qA0 _ | exact qBJ rfl | exact qAX rfl | apply And.intro))
            · repeat (first | (with_reducible first | apply qAj | apply qAi | apply qAh | apply qAf | apply qAo | apply qAF | apply qAm) | ((with_reducible apply rp); first | ((with_reducible apply qAK); (iterate 3 eq_refl); exact (q2)) | ((with_reducible apply qAd); (conv => lhs; whnf)) | ((with_reducible apply qAa); (conv => lhs; whnf)) | ((with_reducible apply qAc); exact tyOk rfl; eq_refl; eq_refl; decide; eq_refl) | ((with_reducible apply qAe); exact tyOk rfl; (iterate 4 eq_refl)) | ((with_reducible apply qAL); exact tyOk rfl; (iterate 3 eq_refl); omega; decide; eq_refl) | ((with_reducible apply qAI); eq_refl; eq_refl; omega; omega) | ((with_reducible apply qBn); eq_refl)) | ((with_reducible apply rpN); ((with_reducible apply qBj); exact tyOk rfl; eq_refl; eq_refl; (conv => lhs; whnf); eq_refl; eq_refl; exact qle rfl)))
              refine ⟨_, _, ?_, ?_, 3, by omega, rfl, rfl⟩
              · omega
              · refine qAw [] (by repeat' (first | exact qAG | (refine qAx rfl (by exact SubA.refl _) ?_))) (by repeat' (first | exact trivial | eq_refl | apply And.intro)) rfl (insS rfl) (by repeat' (first | exact trivial | exact qA0 _ | exact qBJ rfl | exact qAX rfl | apply And.intro))
            · repeat (first | (with_reducible first | apply qAj | apply qAi | apply qAh | apply qAf | apply qAo | apply qAF | apply qAm) | ((with_reducible apply rp); first | ((with_reducible apply qAK); (iterate 3 eq_refl); exact (q3)) | ((with_reducible apply qAd); (conv => lhs; whnf)) | ((with_reducible apply qAa); (conv => lhs; whnf)) | ((with_reducible apply qAc); exact tyOk rfl; eq_refl; eq_refl; decide; eq_refl) | ((with_reducible apply qAe); exact tyOk rfl; (iterate 4 eq_refl)) | ((with_reducible apply qAL); exact tyOk rfl; (iterate 3 eq_refl); omega; decide; eq_refl) | ((with_reducible apply qAI); eq_refl; eq_refl; omega; omega) | ((with_reducible apply qBn); eq_refl)) | ((with_reducible apply rpN); ((with_reducible apply qBj); exact tyOk rfl; eq_refl; eq_refl; (conv => lhs; whnf); eq_refl; eq_refl; exact qle rfl)))
              refine ⟨_, _, ?_, ?_, 4, by omega, rfl, rfl⟩
              · omega
              · refine qAw [] (by repeat' (first | exact qAG | (refine qAx rfl (by exact SubA.refl _) ?_))) (by repeat' (first | exact trivial | eq_refl | apply And.intro)) rfl (insS rfl) (by repeat' (first | exact trivial | exact qA0 _ | exact qBJ rfl | exact qAX rfl | apply And.intro))
          · have hke : k = 4 := by simp at hd; omega
            clear hd
            subst hke
            repeat (first | (with_reducible first | apply qAi | apply qAh | apply qAf | apply qA5 | apply qA9 | apply qA8 | apply qAF) | ((with_reducible apply rp); first | ((with_reducible apply qAd); (conv => lhs; whnf)) | ((with_reducible apply qAI); eq_refl; eq_refl; omega; omega)))
            refine ⟨_, _, ?_, ?_, 2, by omega, rfl, rfl⟩
            · omega
            · refine qAw [] (by repeat' (first | exact qAG | (refine qAx rfl (by exact SubA.refl _) ?_))) (by repeat' (first | exact trivial | eq_refl | apply And.intro)) rfl (insS rfl) (by repeat' (first | exact trivial | exact qA0 _ | exact qBJ rfl | exact qAX rfl | apply And.intro))
    · have hke : i = 2 := by simp at hd; omega
      clear hd
      subst hke
      repeat (first | (with_reducible first | apply qAj | apply qAi | apply qAh | apply qAf | apply qA5 | apply qA9 | apply qA8 | apply qAu | apply qAz) | ((with_reducible apply rp); (exact qE1 (tyOk rfl) rfl rfl rfl rfl)) | ((with_reducible apply rpN); (exact qEI (tyOk rfl) rfl rfl rfl rfl rfl)))
      (with_reducible apply qAA); (focus (repeat' (first | (with_reducible apply qAv) | (with_reducible apply qAq) | ((with_reducible apply rv_row); eq_refl; eq_refl; exact tyOk rfl; eq_refl; exact qle rfl)))); eq_refl; refine SubD.of_eq ?_
      rfl
end Go.Proofs.YtpaccaojgbfjdaaDoor


/-
  chirograph/table: begun, Insert as contracts.
-/
namespace Go.Proofs.YtpaccaojgbfjdaaDoor
open Go.RowKit

def qCe (d : List Ce) : Nat → Int
  | 0 => -1
  | k + 1 => if qCe d k < 0 ∧ (d.getD k ⟨true, []⟩).full = false then (k : Nat) else qCe d k
def qDC (d : List Ce) (r : List Vl) : Bool := d.any fun c => c.full && decide (keyN c.row = keyN r)
def Tb.put (t : Tb) (i n : Nat) (r : List Vl) : Tb := if i = 0 then { t with a := t.a.set n ⟨true, r⟩ } else { t with b := t.b.set n ⟨true, r⟩ }
def insD (t : Tb) (i : Nat) (r : List Vl) : D :=
  if qDC (drF t.a t.b i) r = true then .tu [.ag tb0, iD 8] else if qCe (drF t.a t.b i) 4 < 0 then .tu [.ag tb0, iD 9] else .tu [.ag (t.put i (qCe (drF t.a t.b i) 4).toNat r).cs, iD 0]
theorem freeN_lt (d : List Ce) : ∀ k, qCe d k < 0 ∨ ∃ n : Nat, n < k ∧ qCe d k = n
  | 0 => .inl (by unfold qCe; decide)
  | k + 1 => by
    unfold qCe
    split
    · exact .inr ⟨k, by omega, rfl⟩
    · rcases freeN_lt d k with h | ⟨n, h1, h2⟩
      · exact .inl h
      · exact .inr ⟨n, by omega, h2⟩
section
variable {P : Program} {dst : Option Nat} {ty : TypeId} {e : Operand → A} {β : Bx} {T T0 el : TypeId} {x y : Operand}
theorem does_load_dr0 {t : TyI} {id : Nat} {pre : List D} {a b : List Ce} (ht : mkTy P T = some t) (hr : t.row = true) (h2 : t.size = 8) (hx : e x = .px id 3) (hl : look id β = some (.var T0 ((pre ++ (a.flatMap Ce.cs ++ b.flatMap Ce.cs)).map .d))) (hp : pre.length = 3) (ha : a.length = 4) (hb : b.length = 4) : Does P dst (.load T x) ty e β (.d (.ag (a.flatMap Ce.cs))) [] [id] := by
  have la : (a.flatMap Ce.cs).length = 8 := by rw [qBA, ha]
  have lb : (b.flatMap Ce.cs).length = 8 := by rw [qBA, hb]
  refine qAl ht hr hx hl (by rw [List.length_map, List.length_append, List.length_append, la, lb, hp, h2]; omega) ?_
  rw [h2, ← List.map_drop, show (3 : Nat) = pre.length from hp.symm, List.drop_left, ← List.map_take, show (8 : Nat) = (a.flatMap Ce.cs).length from la.symm, List.take_left]
  exact qCN _
theorem does_load_dr1 {t : TyI} {id : Nat} {pre : List D} {a b : List Ce} (ht : mkTy P T = some t) (hr : t.row = true) (h2 : t.size = 8) (hx : e x = .px id 11) (hl : look id β = some (.var T0 ((pre ++ (a.flatMap Ce.cs ++ b.flatMap Ce.cs)).map .d))) (hp : pre.length = 3) (ha : a.length = 4) (hb : b.length = 4) : Does P dst (.load T x) ty e β (.d (.ag (b.flatMap Ce.cs))) [] [id] := by
  have la : (a.flatMap Ce.cs).length = 8 := by rw [qBA, ha]
  have lb : (b.flatMap Ce.cs).length = 8 := by rw [qBA, hb]
  refine qAl ht hr hx hl (by rw [List.length_map, List.length_append, List.length_append, la, lb, hp, h2]; omega) ?_
  rw [h2, ← List.map_drop, ← List.append_assoc, show (11 : Nat) = (pre ++ a.flatMap Ce.cs).length by rw [List.length_append, hp, la], List.drop_left, List.take_of_length_le (by rw [List.length_map, lb]; omega)]
  exact qCN _
theorem qA3 {t : TyI} {id : Nat} {l : List D} (ht : mkTy P T = some t) (hr : t.row = true) (hx : e x = .px id 0) (hl : look id β = some (.var T0 (l.map .d))) (h2 : l.length = t.size) : Does P dst (.load T x) ty e β (.d (.ag l)) [] [id] := by
  refine qAl ht hr hx hl (by rw [List.length_map, h2]; omega) ?_
  rw [List.drop_zero, List.take_of_length_le (by rw [List.length_map, h2]; omega)]
  exact qCN _
end
theorem Tb.len {t : Tb} (h : TbOk t) : t.cs.length = 19 := by
  unfold Tb.cs
  rw [List.length_append, List.length_append, qBA, qBA, h.a.len, h.b.len]
  rfl
set_option maxHeartbeats 4000000 in
theorem begun_pc (t : Tb) (h : TbOk t) (i : Nat) (hi : i < 2) : PC Tryd.prog 39 [.ag t.cs, iD i] (.tu [.ag t.cs, iD 0]) := by
  have c1 := check_tb t h
  have f1 := fresh_pc t h
  have hlen := Tb.len h
  rcases (by omega : i = 0 ∨ i = 1) with rfl | rfl
  · generalize t.cs = cs at *
    refine qAs Tryd.func39 rfl (by kernel_rfl) mixed (by kernel_rfl) (qle (by kernel_rfl)) Tryd.results39 ?_
    repeat (first | (with_reducible first | apply qAj | apply qAi | apply qAh | apply qAf | apply qAu | apply qAz | apply qAm) | ((first | (with_reducible apply rp) | ((with_reducible apply rpG); eq_refl; exact qAP rfl; (focus repeat' (first | exact trivial | exact id | apply And.intro)); intro zg; have zh := zg; (try simp only [zs1, zs2, zs3, zs4] at zg))); first | (exact qA3 (tyOk rfl) rfl rfl rfl hlen) | ((with_reducible apply qAg); eq_refl; eq_refl; exact (c1); eq_refl) | ((with_reducible apply qAK); (iterate 3 eq_refl); exact (f1)) | ((with_reducible first | apply qAd | apply qAa); (conv => lhs; whnf)) | ((with_reducible first | apply qAJ | apply qAU | apply qAN | apply qEL) <;> first | eq_refl | exact id)) | ((with_reducible apply rp1); first | ((with_reducible apply qAp); eq_refl; eq_refl) | ((with_reducible apply qAk); exact tyOk rfl; eq_refl)) | ((with_reducible apply rpN); (exact qAb (tyOk rfl) rfl rfl rfl hlen hlen)) | ((with_reducible apply qA6); eq_refl; eq_refl))
    (with_reducible apply qAA); (focus (repeat' (first | (with_reducible apply qAv) | (with_reducible apply qAq) | ((with_reducible apply qAD); eq_refl) | ((with_reducible apply qAy); eq_refl; eq_refl; exact tyOk rfl; eq_refl; (with_reducible assumption))))); (focus repeat' (first | eq_refl | (apply qDi; exact qCV _ _))); refine SubD.of_eq ?_
    rfl
  · generalize t.cs = cs at *
    refine qAs Tryd.func39 rfl (by kernel_rfl) mixed (by kernel_rfl) (qle (by kernel_rfl)) Tryd.results39 ?_
    repeat (first | (with_reducible first | apply qAj | apply qAi | apply qAh | apply qAf | apply qAu | apply qAz | apply qAm) | ((first | (with_reducible apply rp) | ((with_reducible apply rpG); eq_refl; exact qAP rfl; (focus repeat' (first | exact trivial | exact id | apply And.intro)); intro zg; have zh := zg; (try simp only [zs1, zs2, zs3, zs4] at zg))); first | (exact qA3 (tyOk rfl) rfl rfl rfl hlen) | ((with_reducible apply qAg); eq_refl; eq_refl; exact (c1); eq_refl) | ((with_reducible apply qAK); (iterate 3 eq_refl); exact (f1)) | ((with_reducible first | apply qAd | apply qAa); (conv => lhs; whnf)) | ((with_reducible first | apply qAJ | apply qAU | apply qAN | apply qEL) <;> first | eq_refl | exact id)) | ((with_reducible apply rp1); first | ((with_reducible apply qAp); eq_refl; eq_refl) | ((with_reducible apply qAk); exact tyOk rfl; eq_refl)) | ((with_reducible apply rpN); (exact qAb (tyOk rfl) rfl rfl rfl hlen hlen)) | ((with_reducible apply qA6); eq_refl; eq_refl))
    (with_reducible apply qAA); (focus (repeat' (first | (with_reducible apply qAv) | (with_reducible apply qAq) | ((with_reducible apply qAD); eq_refl) | ((with_reducible apply qAy); eq_refl; eq_refl; exact tyOk rfl; eq_refl; (with_reducible assumption))))); (focus repeat' (first | eq_refl | (apply qDi; exact qCV _ _))); refine SubD.of_eq ?_
    rfl
end Go.Proofs.YtpaccaojgbfjdaaDoor


/-
  chirograph/table: Insert as a contract.
-/
namespace Go.Proofs.YtpaccaojgbfjdaaDoor
open Go.RowKit

theorem drF_zero (a b : List Ce) : drF a b 0 = a := rfl
theorem drF_one (a b : List Ce) : drF a b 1 = b := rfl
set_option maxHeartbeats 8000000 in
theorem insert0_pc (t : Tb) (h : TbOk t) (r : List Vl) (hr : FitR r t.cols) : PC Tryd.prog 12 [.ag t.cs, iD 0, qBx r] (insD t 0 r) := by
  have b1 : PC Tryd.prog 39 [.ag t.cs, iD 0] (.tu [.ag t.cs, iD 0]) := begun_pc t h 0 (by omega)
  have k1 := qFs r t.cols h.cols hr
  have hlen := Tb.len h
  obtain ⟨tn, tc, a, b⟩ := t
  obtain ⟨hn, hc, hk, ha, hb⟩ := h
  have hl5 := hc.len
  have t1 := qCQ r (by have := hr.len; dsimp only at *; omega)
  obtain ⟨kr, lr, rfl⟩ := qCm hr hk
  have ha4 := ha.len
  have hb4 := hb.len
  have hcl := ha
  unfold insD
  rw [drF_zero]
  unfold Tb.cs at *
  dsimp only at *
  have hgr : ((numV kr :: lr).map Vl.cs)[0]? = some [iD 2, iD kr, qD 0, strD .empty] := rfl
  refine qAs Tryd.func12 rfl (by kernel_rfl) mixed (by kernel_rfl) (qle (by kernel_rfl)) Tryd.results12 ?_
  repeat (first | (with_reducible first | apply qAj | apply qAi | apply qAh | apply qAf | apply qAo | apply qAm) | ((with_reducible apply rp); first | (exact qA3 (tyOk rfl) rfl rfl rfl hlen) | ((with_reducible apply qAK); (iterate 3 eq_refl); exact (b1)) | ((with_reducible apply qAg); eq_refl; eq_refl; exact (k1); eq_refl) | (exact does_load_dr0 (a := a) (b := b) (pre := [bD true, strD tn, qAW tc]) (tyOk rfl) rfl rfl rfl rfl rfl ha4 hb4) | ((with_reducible apply qAd); (conv => lhs; whnf)) | ((with_reducible apply qAa); (conv => lhs; whnf)) | ((with_reducible apply qAc); exact tyOk rfl; eq_refl; eq_refl; decide; eq_refl) | ((with_reducible apply qAe); exact tyOk rfl; (iterate 4 eq_refl)) | ((with_reducible apply qAL); exact tyOk rfl; (iterate 3 eq_refl); (dsimp only; omega); decide; eq_refl) | ((with_reducible apply qAU); eq_refl; eq_refl) | ((with_reducible apply qAt); eq_refl; eq_refl)) | ((with_reducible apply rp1); first | ((with_reducible apply qAp); eq_refl; eq_refl) | ((with_reducible apply qAk); exact tyOk rfl; eq_refl)) | ((with_reducible apply rpN); (exact qAb (tyOk rfl) rfl rfl rfl hlen (List.length_map _).symm)) | ((with_reducible apply qA6); eq_refl; eq_refl))
  refine qBf (fun m s => ∃ k, k ≤ 4 ∧ m = 4 - k ∧ (∀ j c, j < k → a[j]? = some c → c.full = true → keyN c.row ≠ kr) ∧ s = ⟨[(1, .d (iD 0)), (2, .d (qBx (numV kr :: lr))), (3, .px 3 0), (6, .px 6 0), (10, .d (iD (qCe a k))), (34, .d (.ag (a.flatMap Ce.cs))), (35, .d (iD k))], [(3, .var 30 (([bD true, strD tn, qAW tc] ++ (a.flatMap Ce.cs ++ b.flatMap Ce.cs)).map .d)), (6, .var 30 (tb0.map .d))]⟩) _ _ ?_ ⟨0, by omega, rfl, fun _ _ h => absurd h (by omega), rfl⟩ ?_
  · refine qAw [] (by repeat' (first | exact qAG | (refine qAx rfl (by exact SubA.refl _) ?_))) (by repeat' (first | exact trivial | eq_refl | exact kb_d rfl | apply And.intro)) rfl (insS rfl) (by repeat' (first | exact trivial | exact qA0 _ | exact qAX rfl | apply And.intro))
  · rintro m s ⟨k, hk4, rfl, hall, rfl⟩
    repeat (first | (with_reducible first | apply qAj | apply qAi | apply qAh | apply qAf) | ((with_reducible apply rp); ((with_reducible apply qAN); eq_refl; eq_refl)))
    refine qAn rfl (fun hd => ?_) (fun hd => ?_)
    · have hlt4 : k < 4 := by simp at hd; omega
      clear hd
      obtain ⟨c, hcc⟩ : ∃ c, a[k]? = some c := ⟨_, List.getElem?_eq_getElem (by omega)⟩
      have hco := hcl.ok c (List.mem_of_getElem? hcc)
      have zg : a.getD k ⟨true, []⟩ = c := by rw [List.getD_eq_getElem?_getD, hcc]; rfl
      have hm := List.mem_of_getElem? hcc
      obtain ⟨cf, cr⟩ := c
      cases cf with
      | true =>
        obtain ⟨kc, lc, e1⟩ := qCm (hco.fit rfl) hk
        dsimp only at e1
        subst e1
        have hgc : ((numV kc :: lc).map Vl.cs)[0]? = some [iD 2, iD kc, qD 0, strD .empty] := rfl
        have hfn : qCe a (k + 1) = qCe a k := by
          conv => lhs; unfold qCe
          rw [zg, if_neg (by simp)]
        repeat (first | (with_reducible first | apply qAj | apply qAi | apply qAh | apply qAf | apply qA4 | apply qAo | apply qAm) | ((with_reducible apply qBg); (first | kernel_rfl | eq_refl)) | ((first | (with_reducible first | apply rp | apply dr) | ((with_reducible apply drG); eq_refl; exact qAT rfl; (focus repeat' (first | exact trivial | exact id | apply And.intro)); intro zg; have zh := zg; (try simp only [zs1, zs2, zs3, zs4] at zg))); first | (exact qBl (d := a) (c := ⟨true, numV kc :: lc⟩) (tyOk rfl) rfl (tyOk rfl) rfl rfl rfl rfl rfl ha4 hcc) | ((with_reducible first | apply qAd | apply qAa); (conv => lhs; whnf)) | ((with_reducible first | apply qAM | apply qAc | apply qAe | apply qCk) <;> first | ((with_reducible apply tyOk); eq_refl) | ((with_reducible apply tgOk); eq_refl) | eq_refl | exact id | decide) | ((with_reducible apply qAE); exact tyOk rfl; eq_refl; eq_refl; assumption; eq_refl) | ((with_reducible apply qAH); exact tyOk rfl; eq_refl; exact tyOk rfl; (iterate 4 eq_refl); (dsimp only; simp only [List.length_map, List.length_append, List.length_cons, List.length_nil] at *; omega))) | ((with_reducible apply rp1); ((with_reducible apply qAk); exact tyOk rfl; eq_refl)) | ((with_reducible apply rpN); ((with_reducible apply qAb); exact tyOk rfl; (iterate 5 eq_refl))))
        refine qAn rfl (fun hd => ?_) (fun hd => ?_)
        · have hkk : kc = kr := by simp at hd; exact hd
          clear hd
          rw [if_pos (by
            unfold qDC
            rw [List.any_eq_true]
            exact ⟨_, hm, by simpa [keyN, keyV, numV] using hkk⟩)]
          repeat (first | (with_reducible first | apply qAj | apply qAi | apply qAh | apply qAf | apply qAu | apply qAS | apply qBc | apply qAz) | ((with_reducible apply rp); first | ((with_reducible apply qAa); (conv => lhs; whnf)) | ((with_reducible apply qAV); exact tyOk rfl; eq_refl; eq_refl)) | ((with_reducible apply rpN); ((with_reducible apply qAb); exact tyOk rfl; (iterate 5 eq_refl))))
          (with_reducible apply qAA); (focus (repeat' (first | (with_reducible apply qAv) | (with_reducible apply qAq) | ((with_reducible apply qAD); eq_refl) | ((with_reducible apply qAy); eq_refl; eq_refl; exact tyOk rfl; eq_refl; eq_refl)))); eq_refl; refine SubD.of_eq ?_
          rfl
        · have hkk : kc ≠ kr := by intro e; subst e; simp at hd
          clear hd
          repeat (first | (with_reducible first | apply qAj | apply qAi | apply qAh | apply qAf | apply qAm) | ((first | (with_reducible apply rp) | ((with_reducible apply rpG); eq_refl; exact qAT rfl; (focus repeat' (first | exact trivial | exact id | apply And.intro)); intro zg; have zh := zg; (try simp only [zs1, zs2, zs3, zs4] at zg))); first | ((with_reducible apply qAd); (conv => lhs; whnf)) | ((with_reducible first | apply qAM | apply qAc | apply qAe | apply qAN | apply qAZ) <;> first | ((with_reducible apply tyOk); eq_refl) | eq_refl | exact id | decide)))
          refine qAn rfl (fun hd => absurd hd (by simp)) (fun hd => ?_)
          clear hd
          repeat (first | (with_reducible first | apply qAi | apply qAh | apply qAf | apply qAF | apply qAm) | ((with_reducible apply rp); first | ((with_reducible apply qAd); (conv => lhs; whnf)) | ((with_reducible apply qAI); eq_refl; eq_refl; omega; omega)))
          refine ⟨_, _, ?_, ?_, k + 1, by omega, rfl, fun j c hj hc hf => ?_, rfl⟩
          · omega
          · rw [hfn]
            refine qAw [] (by repeat' (first | exact qAG | (refine qAx rfl (by exact SubA.refl _) ?_))) (by repeat' (first | exact trivial | eq_refl | exact kb_d rfl | apply And.intro)) rfl (insS rfl) (by repeat' (first | exact trivial | exact qA0 _ | exact qAX rfl | apply And.intro))
          · rcases (by omega : j < k ∨ j = k) with h1 | rfl
            · exact hall j c h1 hc hf
            · rw [hcc] at hc
              injection hc with hc
              subst hc
              exact hkk
      | false =>
        have hr0 : cr = [] := hco.none rfl
        subst hr0
        repeat (first | (with_reducible first | apply qAj | apply qAi | apply qAh | apply qAf | apply qA4 | apply qAo | apply qAm) | ((with_reducible apply qBg); (first | kernel_rfl | eq_refl)) | ((first | (with_reducible first | apply rp | apply dr) | ((with_reducible apply drG); eq_refl; exact qAT rfl; (focus repeat' (first | exact trivial | exact id | apply And.intro)); intro zg; have zh := zg; (try simp only [zs1, zs2, zs3, zs4] at zg))); first | (exact qBl (d := a) (c := ⟨false, []⟩) (tyOk rfl) rfl (tyOk rfl) rfl rfl rfl rfl rfl ha4 hcc) | ((with_reducible first | apply qAd | apply qAa); (conv => lhs; whnf)) | ((with_reducible apply qB8); eq_refl; (first | assumption | decide); (conv => lhs; whnf)) | ((with_reducible first | apply qAc | apply qAe) <;> first | ((with_reducible apply tyOk); eq_refl) | eq_refl | decide) | ((with_reducible apply qAE); exact tyOk rfl; eq_refl; eq_refl; assumption; eq_refl) | ((with_reducible apply qAH); exact tyOk rfl; eq_refl; exact tyOk rfl; (iterate 4 eq_refl); (dsimp only; simp only [List.length_map, List.length_append, List.length_cons, List.length_nil] at *; omega))) | ((with_reducible apply rp1); ((with_reducible apply qAk); exact tyOk rfl; eq_refl)) | ((with_reducible apply rpN); ((with_reducible apply qAb); exact tyOk rfl; (iterate 5 eq_refl))) | ((first | (with_reducible apply rpGF) | (with_reducible apply drGF)); eq_refl; exact qAT rfl; (first | assumption | decide | eq_refl); (focus repeat' (first | exact trivial | exact id | apply And.intro))))
        refine qAn rfl (fun hd => absurd hd (by decide)) (fun hd => ?_)
        clear hd
        repeat (first | (with_reducible first | apply qAj | apply qAi | apply qAh | apply qAf | apply qAm) | ((first | (with_reducible apply rp) | ((with_reducible apply rpG); eq_refl; exact qAT rfl; (focus repeat' (first | exact trivial | exact id | apply And.intro)); intro zg; have zh := zg; (try simp only [zs1, zs2, zs3, zs4] at zg))); first | ((with_reducible apply qAd); (conv => lhs; whnf)) | ((with_reducible first | apply qAM | apply qAc | apply qAe | apply qAN | apply qAZ) <;> first | ((with_reducible apply tyOk); eq_refl) | eq_refl | exact id | decide)))
        refine qAn rfl (fun hd => ?_) (fun hd => ?_)
        · have hfl : qCe a k < 0 := by simpa using hd
          clear hd
          have hfn : qCe a (k + 1) = (k : Nat) := by
            conv => lhs; unfold qCe
            rw [zg, if_pos ⟨hfl, rfl⟩]
          repeat (first | (with_reducible first | apply qAi | apply qAh | apply qAf | apply qAF) | ((with_reducible apply rp); first | ((with_reducible apply qAd); (conv => lhs; whnf)) | ((with_reducible apply qAa); (conv => lhs; whnf)) | ((with_reducible apply qAI); eq_refl; eq_refl; omega; omega)))
          refine ⟨_, _, ?_, ?_, k + 1, by omega, rfl, fun j c hj hc hf => ?_, rfl⟩
          · omega
          · rw [hfn]
            refine qAw [] (by repeat' (first | exact qAG | (refine qAx rfl (by exact SubA.refl _) ?_))) (by repeat' (first | exact trivial | eq_refl | exact kb_d rfl | apply And.intro)) rfl (insS rfl) (by repeat' (first | exact trivial | exact qA0 _ | exact qAX rfl | apply And.intro))
          · rcases (by omega : j < k ∨ j = k) with h1 | rfl
            · exact hall j c h1 hc hf
            · rw [hcc] at hc
              injection hc with hc
              subst hc
              cases hf
        · have hfl : ¬ qCe a k < 0 := by simpa using hd
          clear hd
          have hfn : qCe a (k + 1) = qCe a k := by
            conv => lhs; unfold qCe
            rw [if_neg (by intro h; exact hfl h.1)]
          repeat (first | (with_reducible first | apply qAi | apply qAh | apply qAf | apply qAF | apply qAm) | ((with_reducible apply rp); first | ((with_reducible apply qAd); (conv => lhs; whnf)) | ((with_reducible apply qAI); eq_refl; eq_refl; omega; omega)))
          refine ⟨_, _, ?_, ?_, k + 1, by omega, rfl, fun j c hj hc hf => ?_, rfl⟩
          · omega
          · rw [hfn]
            refine qAw [] (by repeat' (first | exact qAG | (refine qAx rfl (by exact SubA.refl _) ?_))) (by repeat' (first | exact trivial | eq_refl | exact kb_d rfl | apply And.intro)) rfl (insS rfl) (by repeat' (first | exact trivial | exact qA0 _ | exact qAX rfl | apply And.intro))
          · rcases (by omega : j < k ∨ j = k) with h1 | rfl
            · exact hall j c h1 hc hf
            · rw [hcc] at hc
              injection hc with hc
              subst hc
              cases hf
    · have hke : k = 4 := by simp at hd; omega
      clear hd
      subst hke
      rw [if_neg (by
        unfold qDC
        rw [List.any_eq_true]
        rintro ⟨c, hm, hp⟩
        obtain ⟨j, hj⟩ := List.getElem?_of_mem hm
        have hjl := (List.getElem?_eq_some_iff.1 hj).1
        simp only [Bool.and_eq_true, decide_eq_true_eq] at hp
        exact hall j c (by omega) hj hp.1 hp.2)]
      clear hall
      rcases freeN_lt a 4 with hfr | ⟨n, hn4, hfr⟩
      · rw [if_pos hfr]
        repeat (first | (with_reducible first | apply qAj | apply qAi | apply qAh | apply qAf | apply qA5 | apply qA9 | apply qA8) | ((with_reducible apply rp); first | ((with_reducible apply qAd); (conv => lhs; whnf)) | ((with_reducible apply qAN); eq_refl; eq_refl)))
        refine qAn rfl (fun hd => ?_) (fun hd => ?_)
        · clear hd
          repeat (first | (with_reducible first | apply qAj | apply qAi | apply qAh | apply qAf | apply qAu | apply qAS | apply qAz) | ((with_reducible apply rp); first | ((with_reducible apply qAa); (conv => lhs; whnf)) | ((with_reducible apply qAV); exact tyOk rfl; eq_refl; eq_refl)) | ((with_reducible apply rpN); ((with_reducible apply qAb); exact tyOk rfl; (iterate 5 eq_refl))))
          (with_reducible apply qAA); (focus (repeat' (first | (with_reducible apply qAv) | (with_reducible apply qAq) | ((with_reducible apply qAD); eq_refl) | ((with_reducible apply qAy); eq_refl; eq_refl; exact tyOk rfl; eq_refl; eq_refl)))); eq_refl; refine SubD.of_eq ?_
          rfl
        · exfalso
          simp at hd
          omega
      · rw [if_neg (by omega), hfr]
        clear hfr
        rw [Int.toNat_natCast]
        obtain ⟨a0, a1, a2, a3, rfl⟩ := qEP ha4
        obtain ⟨b0, b1, b2, b3, rfl⟩ := qEP hb4
        rcases (by omega : n = 0 ∨ n = 1 ∨ n = 2 ∨ n = 3) with rfl | rfl | rfl | rfl
        · repeat (first | (with_reducible first | apply qAj | apply qAi | apply qAh | apply qAf | apply qA4 | apply qA5 | apply qA9 | apply qA8 | apply qAu | apply qAz | apply qAm) | ((with_reducible apply qBg); (first | kernel_rfl | eq_refl)) | ((with_reducible first | apply rp | apply dr); first | ((with_reducible apply qAK); (iterate 3 eq_refl); exact (t1)) | ((with_reducible first | apply qAd | apply qAa); (conv => lhs; whnf)) | ((with_reducible first | apply qAc | apply qAl | apply qAN) <;> first | ((with_reducible apply tyOk); eq_refl) | eq_refl | exact qle rfl | decide) | ((with_reducible apply qAL); exact tyOk rfl; (iterate 3 eq_refl); (first | omega | (dsimp only; omega)); decide; eq_refl) | ((with_reducible apply qAR); exact tyOk rfl; eq_refl; eq_refl; (focus repeat' (first | eq_refl | refine ⟨_, _, rfl, rfl, qle rfl, rfl, ?_⟩)); eq_refl)) | ((with_reducible first | apply rpN | apply drN); first | ((with_reducible apply qAb); exact tyOk rfl; (iterate 5 eq_refl)) | ((with_reducible apply qBt); exact tyOk rfl; (iterate 4 eq_refl); exact qle rfl)) | ((with_reducible apply qA6); eq_refl; eq_refl))
          (with_reducible apply qAA); (focus (repeat' (first | (with_reducible apply qAv) | (with_reducible apply qAq) | ((with_reducible apply qAD); eq_refl) | ((with_reducible apply qAy); eq_refl; eq_refl; exact tyOk rfl; eq_refl; eq_refl)))); eq_refl; refine SubD.of_eq ?_
          rfl
        · repeat (first | (with_reducible first | apply qAj | apply qAi | apply qAh | apply qAf | apply qA4 | apply qA5 | apply qA9 | apply qA8 | apply qAu | apply qAz | apply qAm) | ((with_reducible apply qBg); (first | kernel_rfl | eq_refl)) | ((with_reducible first | apply rp | apply dr); first | ((with_reducible apply qAK); (iterate 3 eq_refl); exact (t1)) | ((with_reducible first | apply qAd | apply qAa); (conv => lhs; whnf)) | ((with_reducible first | apply qAc | apply qAl | apply qAN) <;> first | ((with_reducible apply tyOk); eq_refl) | eq_refl | exact qle rfl | decide) | ((with_reducible apply qAL); exact tyOk rfl; (iterate 3 eq_refl); (first | omega | (dsimp only; omega)); decide; eq_refl) | ((with_reducible apply qAR); exact tyOk rfl; eq_refl; eq_refl; (focus repeat' (first | eq_refl | refine ⟨_, _, rfl, rfl, qle rfl, rfl, ?_⟩)); eq_refl)) | ((with_reducible first | apply rpN | apply drN); first | ((with_reducible apply qAb); exact tyOk rfl; (iterate 5 eq_refl)) | ((with_reducible apply qBt); exact tyOk rfl; (iterate 4 eq_refl); exact qle rfl)) | ((with_reducible apply qA6); eq_refl; eq_refl))
          (with_reducible apply qAA); (focus (repeat' (first | (with_reducible apply qAv) | (with_reducible apply qAq) | ((with_reducible apply qAD); eq_refl) | ((with_reducible apply qAy); eq_refl; eq_refl; exact tyOk rfl; eq_refl; eq_refl)))); eq_refl; refine SubD.of_eq ?_
          rfl
        · repeat (first | (with_reducible first | apply qAj | apply qAi | apply qAh | apply qAf | apply qA4 | apply qA5 | apply qA9 | apply qA8 | apply qAu | apply qAz | apply qAm) | ((with_reducible apply qBg); (first | kernel_rfl | eq_refl)) | ((with_reducible first | apply rp | apply dr); first | ((with_reducible apply qAK); (iterate 3 eq_refl); exact (t1)) | ((with_reducible first | apply qAd | apply qAa); (conv => lhs; whnf)) | ((with_reducible first | apply qAc | apply qAl | apply qAN) <;> first | ((with_reducible apply tyOk); eq_refl) | eq_refl | exact qle rfl | decide) | ((with_reducible apply qAL); exact tyOk rfl; (iterate 3 eq_refl); (first | omega | (dsimp only; omega)); decide; eq_refl) | ((with_reducible apply qAR); exact tyOk rfl; eq_refl; eq_refl; (focus repeat' (first | eq_refl | refine ⟨_, _, rfl, rfl, qle rfl, rfl, ?_⟩)); eq_refl)) | ((with_reducible first | apply rpN | apply drN); first | ((with_reducible apply qAb); exact tyOk rfl; (iterate 5 eq_refl)) | ((with_reducible apply qBt); exact tyOk rfl; (iterate 4 eq_refl); exact qle rfl)) | ((with_reducible apply qA6); eq_refl; eq_refl))
          (with_reducible apply qAA); (focus (repeat' (first | (with_reducible apply qAv) | (with_reducible apply qAq) | ((with_reducible apply qAD); eq_refl) | ((with_reducible apply qAy); eq_refl; eq_refl; exact tyOk rfl; eq_refl; eq_refl)))); eq_refl; refine SubD.of_eq ?_
          rfl
        · repeat (first | (with_reducible first | apply qAj | apply qAi | apply qAh | apply qAf | apply qA4 | apply qA5 | apply qA9 | apply qA8 | apply qAu | apply qAz | apply qAm) | ((with_reducible apply qBg); (first | kernel_rfl | eq_refl)) | ((with_reducible first | apply rp | apply dr); first | ((with_reducible apply qAK); (iterate 3 eq_refl); exact (t1)) | ((with_reducible first | apply qAd | apply qAa); (conv => lhs; whnf)) | ((with_reducible first | apply qAc | apply qAl | apply qAN) <;> first | ((with_reducible apply tyOk); eq_refl) | eq_refl | exact qle rfl | decide) | ((with_reducible apply qAL); exact tyOk rfl; (iterate 3 eq_refl); (first | omega | (dsimp only; omega)); decide; eq_refl) | ((with_reducible apply qAR); exact tyOk rfl; eq_refl; eq_refl; (focus repeat' (first | eq_refl | refine ⟨_, _, rfl, rfl, qle rfl, rfl, ?_⟩)); eq_refl)) | ((with_reducible first | apply rpN | apply drN); first | ((with_reducible apply qAb); exact tyOk rfl; (iterate 5 eq_refl)) | ((with_reducible apply qBt); exact tyOk rfl; (iterate 4 eq_refl); exact qle rfl)) | ((with_reducible apply qA6); eq_refl; eq_refl))
          (with_reducible apply qAA); (focus (repeat' (first | (with_reducible apply qAv) | (with_reducible apply qAq) | ((with_reducible apply qAD); eq_refl) | ((with_reducible apply qAy); eq_refl; eq_refl; exact tyOk rfl; eq_refl; eq_refl)))); eq_refl; refine SubD.of_eq ?_
          rfl
set_option maxHeartbeats 8000000 in
theorem insert1_pc (t : Tb) (h : TbOk t) (r : List Vl) (hr : FitR r t.cols) : PC Tryd.prog 12 [.ag t.cs, iD 1, qBx r] (insD t 1 r) := by
  have b1 : PC Tryd.prog 39 [.ag t.cs, iD 1] (.tu [.ag t.cs, iD 0]) := begun_pc t h 1 (by omega)
  have k1 := qFs r t.cols h.cols hr
  have hlen := Tb.len h
  obtain ⟨tn, tc, a, b⟩ := t
  obtain ⟨hn, hc, hk, ha, hb⟩ := h
  have hl5 := hc.len
  have t1 := qCQ r (by have := hr.len; dsimp only at *; omega)
  obtain ⟨kr, lr, rfl⟩ := qCm hr hk
  have ha4 := ha.len
  have hb4 := hb.len
  have hcl := hb
  unfold insD
  rw [drF_one]
  unfold Tb.cs at *
  dsimp only at *
  have hgr : ((numV kr :: lr).map Vl.cs)[0]? = some [iD 2, iD kr, qD 0, strD .empty] := rfl
  refine qAs Tryd.func12 rfl (by kernel_rfl) mixed (by kernel_rfl) (qle (by kernel_rfl)) Tryd.results12 ?_
  repeat (first | (with_reducible first | apply qAj | apply qAi | apply qAh | apply qAf | apply qAo | apply qAm) | ((with_reducible apply rp); first | (exact qA3 (tyOk rfl) rfl rfl rfl hlen) | ((with_reducible apply qAK); (iterate 3 eq_refl); exact (b1)) | ((with_reducible apply qAg); eq_refl; eq_refl; exact (k1); eq_refl) | (exact does_load_dr1 (a := a) (b := b) (pre := [bD true, strD tn, qAW tc]) (tyOk rfl) rfl rfl rfl rfl rfl ha4 hb4) | ((with_reducible apply qAd); (conv => lhs; whnf)) | ((with_reducible apply qAa); (conv => lhs; whnf)) | ((with_reducible apply qAc); exact tyOk rfl; eq_refl; eq_refl; decide; eq_refl) | ((with_reducible apply qAe); exact tyOk rfl; (iterate 4 eq_refl)) | ((with_reducible apply qAL); exact tyOk rfl; (iterate 3 eq_refl); (dsimp only; omega); decide; eq_refl) | ((with_reducible apply qAU); eq_refl; eq_refl) | ((with_reducible apply qAt); eq_refl; eq_refl)) | ((with_reducible apply rp1); first | ((with_reducible apply qAp); eq_refl; eq_refl) | ((with_reducible apply qAk); exact tyOk rfl; eq_refl)) | ((with_reducible apply rpN); (exact qAb (tyOk rfl) rfl rfl rfl hlen (List.length_map _).symm)) | ((with_reducible apply qA6); eq_refl; eq_refl))
  refine qBf (fun m s => ∃ k, k ≤ 4 ∧ m = 4 - k ∧ (∀ j c, j < k → b[j]? = some c → c.full = true → keyN c.row ≠ kr) ∧ s = ⟨[(1, .d (iD 1)), (2, .d (qBx (numV kr :: lr))), (3, .px 3 0), (6, .px 6 0), (10, .d (iD (qCe b k))), (34, .d (.ag (b.flatMap Ce.cs))), (35, .d (iD k))], [(3, .var 30 (([bD true, strD tn, qAW tc] ++ (a.flatMap Ce.cs ++ b.flatMap Ce.cs)).map .d)), (6, .var 30 (tb0.map .d))]⟩) _ _ ?_ ⟨0, by omega, rfl, fun _ _ h => absurd h (by omega), rfl⟩ ?_
  · refine qAw [] (by repeat' (first | exact qAG | (refine qAx rfl (by exact SubA.refl _) ?_))) (by repeat' (first | exact trivial | eq_refl | exact kb_d rfl | apply And.intro)) rfl (insS rfl) (by repeat' (first | exact trivial | exact qA0 _ | exact qAX rfl | apply And.intro))
  · rintro m s ⟨k, hk4, rfl, hall, rfl⟩
    repeat (first | (with_reducible first | apply qAj | apply qAi | apply qAh | apply qAf) | ((with_reducible apply rp); ((with_reducible apply qAN); eq_refl; eq_refl)))
    refine qAn rfl (fun hd => ?_) (fun hd => ?_)
    · have hlt4 : k < 4 := by simp at hd; omega
      clear hd
      obtain ⟨c, hcc⟩ : ∃ c, b[k]? = some c := ⟨_, List.getElem?_eq_getElem (by omega)⟩
      have hco := hcl.ok c (List.mem_of_getElem? hcc)
      have zg : b.getD k ⟨true, []⟩ = c := by rw [List.getD_eq_getElem?_getD, hcc]; rfl
      have hm := List.mem_of_getElem? hcc
      obtain ⟨cf, cr⟩ := c
      cases cf with
      | true =>
        obtain ⟨kc, lc, e1⟩ := qCm (hco.fit rfl) hk
        dsimp only at e1
        subst e1
        have hgc : ((numV kc :: lc).map Vl.cs)[0]? = some [iD 2, iD kc, qD 0, strD .empty] := rfl
        have hfn : qCe b (k + 1) = qCe b k := by
          conv => lhs; unfold qCe
          rw [zg, if_neg (by simp)]
        repeat (first | (with_reducible first | apply qAj | apply qAi | apply qAh | apply qAf | apply qA4 | apply qAo | apply qAm) | ((with_reducible apply qBg); (first | kernel_rfl | eq_refl)) | ((first | (with_reducible first | apply rp | apply dr) | ((with_reducible apply drG); eq_refl; exact qAT rfl; (focus repeat' (first | exact trivial | exact id | apply And.intro)); intro zg; have zh := zg; (try simp only [zs1, zs2, zs3, zs4] at zg))); first | (exact qBl (d := b) (c := ⟨true, numV kc :: lc⟩) (tyOk rfl) rfl (tyOk rfl) rfl rfl rfl rfl rfl hb4 hcc) | ((with_reducible first | apply qAd | apply qAa); (conv => lhs; whnf)) | ((with_reducible first | apply qAM | apply qAc | apply qAe | apply qCk) <;> first | ((with_reducible apply tyOk); eq_refl) | ((with_reducible apply tgOk); eq_refl) | eq_refl | exact id | decide) | ((with_reducible apply qAE); exact tyOk rfl; eq_refl; eq_refl; assumption; eq_refl) | ((with_reducible apply qAH); exact tyOk rfl; eq_refl; exact tyOk rfl; (iterate 4 eq_refl); (dsimp only; simp only [List.length_map, List.length_append, List.length_cons, List.length_nil] at *; omega))) | ((with_reducible apply rp1); ((with_reducible apply qAk); exact tyOk rfl; eq_refl)) | ((with_reducible apply rpN); ((with_reducible apply qAb); exact tyOk rfl; (iterate 5 eq_refl))))
        refine qAn rfl (fun hd => ?_) (fun hd => ?_)
        · have hkk : kc = kr := by simp at hd; exact hd
          clear hd
          rw [if_pos (by
            unfold qDC
            rw [List.any_eq_true]
            exact ⟨_, hm, by simpa [keyN, keyV, numV] using hkk⟩)]
          repeat (first | (with_reducible first | apply qAj | apply qAi | apply qAh | apply qAf | apply qAu | apply qAS | apply qBc | apply qAz) | ((with_reducible apply rp); first | ((with_reducible apply qAa); (conv => lhs; whnf)) | ((with_reducible apply qAV); exact tyOk rfl; eq_refl; eq_refl)) | ((with_reducible apply rpN); ((with_reducible apply qAb); exact tyOk rfl; (iterate 5 eq_refl))))
          (with_reducible apply qAA); (focus (repeat' (first | (with_reducible apply qAv) | (with_reducible apply qAq) | ((with_reducible apply qAD); eq_refl) | ((with_reducible apply qAy); eq_refl; eq_refl; exact tyOk rfl; eq_refl; eq_refl)))); eq_refl; refine SubD.of_eq ?_
          rfl
        · have hkk : kc ≠ kr := by intro e; subst e; simp at hd
          clear hd
          repeat (first | (with_reducible first | apply qAj | apply qAi | apply qAh | apply qAf | apply qAm) | ((first | (with_reducible apply rp) | ((with_reducible apply rpG); eq_refl; exact qAT rfl; (focus repeat' (first | exact trivial | exact id | apply And.intro)); intro zg; have zh := zg; (try simp only [zs1, zs2, zs3, zs4] at zg))); first | ((with_reducible apply qAd); (conv => lhs; whnf)) | ((with_reducible first | apply qAM | apply qAc | apply qAe | apply qAN | apply qAZ) <;> first | ((with_reducible apply tyOk); eq_refl) | eq_refl | exact id | decide)))
          refine qAn rfl (fun hd => absurd hd (by simp)) (fun hd => ?_)
          clear hd
          repeat (first | (with_reducible first | apply qAi | apply qAh | apply qAf | apply qAF | apply qAm) | ((with_reducible apply rp); first | ((with_reducible apply qAd); (conv => lhs; whnf)) | ((with_reducible apply qAI); eq_refl; eq_refl; omega; omega)))
          refine ⟨_, _, ?_, ?_, k + 1, by omega, rfl, fun j c hj hc hf => ?_, rfl⟩
          · omega
          · rw [hfn]
            refine qAw [] (by repeat' (first | exact qAG | (refine qAx rfl (by exact SubA.refl _) ?_))) (by repeat' (first | exact trivial | eq_refl | exact kb_d rfl | apply And.intro)) rfl (insS rfl) (by repeat' (first | exact trivial | exact qA0 _ | exact qAX rfl | apply And.intro))
          · rcases (by omega : j < k ∨ j = k) with h1 | rfl
            · exact hall j c h1 hc hf
            · rw [hcc] at hc
              injection hc with hc
              subst hc
              exact hkk
      | false =>
        have hr0 : cr = [] := hco.none rfl
        subst hr0
        repeat (first | (with_reducible first | apply qAj | apply qAi | apply qAh | apply qAf | apply qA4 | apply qAo | apply qAm) | ((with_reducible apply qBg); (first | kernel_rfl | eq_refl)) | ((first | (with_reducible first | apply rp | apply dr) | ((with_reducible apply drG); eq_refl; exact qAT rfl; (focus repeat' (first | exact trivial | exact id | apply And.intro)); intro zg; have zh := zg; (try simp only [zs1, zs2, zs3, zs4] at zg))); first | (exact qBl (d := b) (c := ⟨false, []⟩) (tyOk rfl) rfl (tyOk rfl) rfl rfl rfl rfl rfl hb4 hcc) | ((with_reducible first | apply qAd | apply qAa); (conv => lhs; whnf)) | ((with_reducible apply qB8); eq_refl; (first | assumption | decide); (conv => lhs; whnf)) | ((with_reducible first | apply qAc | apply qAe) <;> first | ((with_reducible apply tyOk); eq_refl) | eq_refl | decide) | ((with_reducible apply qAE); exact tyOk rfl; eq_refl; eq_refl; assumption; eq_refl) | ((with_reducible apply qAH); exact tyOk rfl; eq_refl; exact tyOk rfl; (iterate 4 eq_refl); (dsimp only; simp only [List.length_map, List.length_append, List.length_cons, List.length_nil] at *; omega))) | ((with_reducible apply rp1); ((with_reducible apply qAk); exact tyOk rfl; eq_refl)) | ((with_reducible apply rpN); ((with_reducible apply qAb); exact tyOk rfl; (iterate 5 eq_refl))) | ((first | (with_reducible apply rpGF) | (with_reducible apply drGF)); eq_refl; exact qAT rfl; (first | assumption | decide | eq_refl); (focus repeat' (first | exact trivial | exact id | apply And.intro))))
        refine qAn rfl (fun hd => absurd hd (by decide)) (fun hd => ?_)
        clear hd
        repeat (first | (with_reducible first | apply qAj | apply qAi | apply qAh | apply qAf | apply qAm) | ((first | (with_reducible apply rp) | ((with_reducible apply rpG); eq_refl; exact qAT rfl; (focus repeat' (first | exact trivial | exact id | apply And.intro)); intro zg; have zh := zg; (try simp only [zs1, zs2, zs3, zs4] at zg))); first | ((with_reducible apply qAd); (conv => lhs; whnf)) | ((with_reducible first | apply qAM | apply qAc | apply qAe | apply qAN | apply qAZ) <;> first | ((with_reducible apply tyOk); eq_refl) | eq_refl | exact id | decide)))
        refine qAn rfl (fun hd => ?_) (fun hd => ?_)
        · have hfl : qCe b k < 0 := by simpa using hd
          clear hd
          have hfn : qCe b (k + 1) = (k : Nat) := by
            conv => lhs; unfold qCe
            rw [zg, if_pos ⟨hfl, rfl⟩]
          repeat (first | (with_reducible first | apply qAi | apply qAh | apply qAf | apply qAF) | ((with_reducible apply rp); first | ((with_reducible apply qAd); (conv => lhs; whnf)) | ((with_reducible apply qAa); (conv => lhs; whnf)) | ((with_reducible apply qAI); eq_refl; eq_refl; omega; omega)))
          refine ⟨_, _, ?_, ?_, k + 1, by omega, rfl, fun j c hj hc hf => ?_, rfl⟩
          · omega
          · rw [hfn]
            refine qAw [] (by repeat' (first | exact qAG | (refine qAx rfl (by exact SubA.refl _) ?_))) (by repeat' (first | exact trivial | eq_refl | exact kb_d rfl | apply And.intro)) rfl (insS rfl) (by repeat' (first | exact trivial | exact qA0 _ | exact qAX rfl | apply And.intro))
          · rcases (by omega : j < k ∨ j = k) with h1 | rfl
            · exact hall j c h1 hc hf
            · rw [hcc] at hc
              injection hc with hc
              subst hc
              cases hf
        · have hfl : ¬ qCe b k < 0 := by simpa using hd
          clear hd
          have hfn : qCe b (k + 1) = qCe b k := by
            conv => lhs; unfold qCe
            rw [if_neg (by intro h; exact hfl h.1)]
          repeat (first | (with_reducible first | apply qAi | apply qAh | apply qAf | apply qAF | apply qAm) | ((with_reducible apply rp); first | ((with_reducible apply qAd); (conv => lhs; whnf)) | ((with_reducible apply qAI); eq_refl; eq_refl; omega; omega)))
          refine ⟨_, _, ?_, ?_, k + 1, by omega, rfl, fun j c hj hc hf => ?_, rfl⟩
          · omega
          · rw [hfn]
            refine qAw [] (by repeat' (first | exact qAG | (refine qAx rfl (by exact SubA.refl _) ?_))) (by repeat' (first | exact trivial | eq_refl | exact kb_d rfl | apply And.intro)) rfl (insS rfl) (by repeat' (first | exact trivial | exact qA0 _ | exact qAX rfl | apply And.intro))
          · rcases (by omega : j < k ∨ j = k) with h1 | rfl
            · exact hall j c h1 hc hf
            · rw [hcc] at hc
              injection hc with hc
              subst hc
              cases hf
    · have hke : k = 4 := by simp at hd; omega
      clear hd
      subst hke
      rw [if_neg (by
        unfold qDC
        rw [List.any_eq_true]
        rintro ⟨c, hm, hp⟩
        obtain ⟨j, hj⟩ := List.getElem?_of_mem hm
        have hjl := (List.getElem?_eq_some_iff.1 hj).1
        simp only [Bool.and_eq_true, decide_eq_true_eq] at hp
        exact hall j c (by omega) hj hp.1 hp.2)]
      clear hall
      rcases freeN_lt b 4 with hfr | ⟨n, hn4, hfr⟩
      · rw [if_pos hfr]
        repeat (first | (with_reducible first | apply qAj | apply qAi | apply qAh | apply qAf | apply qA5 | apply qA9 | apply qA8) | ((with_reducible apply rp); first | ((with_reducible apply qAd); (conv => lhs; whnf)) | ((with_reducible apply qAN); eq_refl; eq_refl)))
        refine qAn rfl (fun hd => ?_) (fun hd => ?_)
        · clear hd
          repeat (first | (with_reducible first | apply qAj | apply qAi | apply qAh | apply qAf | apply qAu | apply qAS | apply qAz) | ((with_reducible apply rp); first | ((with_reducible apply qAa); (conv => lhs; whnf)) | ((with_reducible apply qAV); exact tyOk rfl; eq_refl; eq_refl)) | ((with_reducible apply rpN); ((with_reducible apply qAb); exact tyOk rfl; (iterate 5 eq_refl))))
          (with_reducible apply qAA); (focus (repeat' (first | (with_reducible apply qAv) | (with_reducible apply qAq) | ((with_reducible apply qAD); eq_refl) | ((with_reducible apply qAy); eq_refl; eq_refl; exact tyOk rfl; eq_refl; eq_refl)))); eq_refl; refine SubD.of_eq ?_
          rfl
        · exfalso
          simp at hd
          omega
      · rw [if_neg (by omega), hfr]
        clear hfr
        rw [Int.toNat_natCast]
        obtain ⟨a0, a1, a2, a3, rfl⟩ := qEP ha4
        obtain ⟨b0, b1, b2, b3, rfl⟩ := qEP hb4
        rcases (by omega : n = 0 ∨ n = 1 ∨ n = 2 ∨ n = 3) with rfl | rfl | rfl | rfl
        · repeat (first | (with_reducible first | apply qAj | apply qAi | apply qAh | apply qAf | apply qA4 | apply qA5 | apply qA9 | apply qA8 | apply qAu | apply qAz | apply qAm) | ((with_reducible apply qBg); (first | kernel_rfl | eq_refl)) | ((with_reducible first | apply rp | apply dr); first | ((with_reducible apply qAK); (iterate 3 eq_refl); exact (t1)) | ((with_reducible first | apply qAd | apply qAa); (conv => lhs; whnf)) | ((with_reducible first | apply qAc | apply qAl | apply qAN) <;> first | ((with_reducible apply tyOk); eq_refl) | eq_refl | exact qle rfl | decide) | ((with_reducible apply qAL); exact tyOk rfl; (iterate 3 eq_refl); (first | omega | (dsimp only; omega)); decide; eq_refl) | ((with_reducible apply qAR); exact tyOk rfl; eq_refl; eq_refl; (focus repeat' (first | eq_refl | refine ⟨_, _, rfl, rfl, qle rfl, rfl, ?_⟩)); eq_refl)) | ((with_reducible first | apply rpN | apply drN); first | ((with_reducible apply qAb); exact tyOk rfl; (iterate 5 eq_refl)) | ((with_reducible apply qBt); exact tyOk rfl; (iterate 4 eq_refl); exact qle rfl)) | ((with_reducible apply qA6); eq_refl; eq_refl))
          (with_reducible apply qAA); (focus (repeat' (first | (with_reducible apply qAv) | (with_reducible apply qAq) | ((with_reducible apply qAD); eq_refl) | ((with_reducible apply qAy); eq_refl; eq_refl; exact tyOk rfl; eq_refl; eq_refl)))); eq_refl; refine SubD.of_eq ?_
          rfl
        · repeat (first | (with_reducible first | apply qAj | apply qAi | apply qAh | apply qAf | apply qA4 | apply qA5 | apply qA9 | apply qA8 | apply qAu | apply qAz | apply qAm) | ((with_reducible apply qBg); (first | kernel_rfl | eq_refl)) | ((with_reducible first | apply rp | apply dr); first | ((with_reducible apply qAK); (iterate 3 eq_refl); exact (t1)) | ((with_reducible first | apply qAd | apply qAa); (conv => lhs; whnf)) | ((with_reducible first | apply qAc | apply qAl | apply qAN) <;> first | ((with_reducible apply tyOk); eq_refl) | eq_refl | exact qle rfl | decide) | ((with_reducible apply qAL); exact tyOk rfl; (iterate 3 eq_refl); (first | omega | (dsimp only; omega)); decide; eq_refl) | ((with_reducible apply qAR); exact tyOk rfl; eq_refl; eq_refl; (focus repeat' (first | eq_refl | refine ⟨_, _, rfl, rfl, qle rfl, rfl, ?_⟩)); eq_refl)) | ((with_reducible first | apply rpN | apply drN); first | ((with_reducible apply qAb); exact tyOk rfl; (iterate 5 eq_refl)) | ((with_reducible apply qBt); exact tyOk rfl; (iterate 4 eq_refl); exact qle rfl)) | ((with_reducible apply qA6); eq_refl; eq_refl))
          (with_reducible apply qAA); (focus (repeat' (first | (with_reducible apply qAv) | (with_reducible apply qAq) | ((with_reducible apply qAD); eq_refl) | ((with_reducible apply qAy); eq_refl; eq_refl; exact tyOk rfl; eq_refl; eq_refl)))); eq_refl; refine SubD.of_eq ?_
          rfl
        · repeat (first | (with_reducible first | apply qAj | apply qAi | apply qAh | apply qAf | apply qA4 | apply qA5 | apply qA9 | apply qA8 | apply qAu | apply qAz | apply qAm) | ((with_reducible apply qBg); (first | kernel_rfl | eq_refl)) | ((with_reducible first | apply rp | apply dr); first | ((with_reducible apply qAK); (iterate 3 eq_refl); exact (t1)) | ((with_reducible first | apply qAd | apply qAa); (conv => lhs; whnf)) | ((with_reducible first | apply qAc | apply qAl | apply qAN) <;> first | ((with_reducible apply tyOk); eq_refl) | eq_refl | exact qle rfl | decide) | ((with_reducible apply qAL); exact tyOk rfl; (iterate 3 eq_refl); (first | omega | (dsimp only; omega)); decide; eq_refl) | ((with_reducible apply qAR); exact tyOk rfl; eq_refl; eq_refl; (focus repeat' (first | eq_refl | refine ⟨_, _, rfl, rfl, qle rfl, rfl, ?_⟩)); eq_refl)) | ((with_reducible first | apply rpN | apply drN); first | ((with_reducible apply qAb); exact tyOk rfl; (iterate 5 eq_refl)) | ((with_reducible apply qBt); exact tyOk rfl; (iterate 4 eq_refl); exact qle rfl)) | ((with_reducible apply qA6); eq_refl; eq_refl))
          (with_reducible apply qAA); (focus (repeat' (first | (with_reducible apply qAv) | (with_reducible apply qAq) | ((with_reducible apply qAD); eq_refl) | ((with_reducible apply qAy); eq_refl; eq_refl; exact tyOk rfl; eq_refl; eq_refl)))); eq_refl; refine SubD.of_eq ?_
          rfl
        · repeat (first | (with_reducible first | apply qAj | apply qAi | apply qAh | apply qAf | apply qA4 | apply qA5 | apply qA9 | apply qA8 | apply qAu | apply qAz | apply qAm) | ((with_reducible apply qBg); (first | kernel_rfl | eq_refl)) | ((with_reducible first | apply rp | apply dr); first | ((with_reducible apply qAK); (iterate 3 eq_refl); exact (t1)) | ((with_reducible first | apply qAd | apply qAa); (conv => lhs; whnf)) | ((with_reducible first | apply qAc | apply qAl | apply qAN) <;> first | ((with_reducible apply tyOk); eq_refl) | eq_refl | exact qle rfl | decide) | ((with_reducible apply qAL); exact tyOk rfl; (iterate 3 eq_refl); (first | omega | (dsimp only; omega)); decide; eq_refl) | ((with_reducible apply qAR); exact tyOk rfl; eq_refl; eq_refl; (focus repeat' (first | eq_refl | refine ⟨_, _, rfl, rfl, qle rfl, rfl, ?_⟩)); eq_refl)) | ((with_reducible first | apply rpN | apply drN); first | ((with_reducible apply qAb); exact tyOk rfl; (iterate 5 eq_refl)) | ((with_reducible apply qBt); exact tyOk rfl; (iterate 4 eq_refl); exact qle rfl)) | ((with_reducible apply qA6); eq_refl; eq_refl))
          (with_reducible apply qAA); (focus (repeat' (first | (with_reducible apply qAv) | (with_reducible apply qAq) | ((with_reducible apply qAD); eq_refl) | ((with_reducible apply qAy); eq_refl; eq_refl; exact tyOk rfl; eq_refl; eq_refl)))); eq_refl; refine SubD.of_eq ?_
          rfl
end Go.Proofs.YtpaccaojgbfjdaaDoor


/-
  The rows of a table as they are told. No program in sight.
-/
namespace Go.Proofs.YtpaccaojgbfjdaaDoor

def KeyL (l : List (List Vl)) : Prop := ∀ p ∈ l, ∃ k r, p = numV k :: r
def qBW (o : Bool) (d : List Ce) (acc : List (List Vl)) : List (List Vl) := if o = true then qE3 acc.length acc d else acc
def rowC (r : List Vl) : List D := [qBx r]
abbrev qD6 (l : List (List Vl)) : D := .sl 1 (l.map rowC)
theorem qEG (s : Nat) (c : Ce) : ∀ (d : List Ce) (acc : List (List Vl)), qE3 s acc (d ++ [c]) = if c.full = true then insF (qE3 s acc d) s c.row else qE3 s acc d
  | [], acc => rfl
  | e :: d, acc => by
    show qE3 s _ (d ++ [c]) = _
    rw [qEG s c d]
    rfl
theorem stepF_zero (o : Bool) (d : List Ce) (acc : List (List Vl)) : qBW o (d.take 0) acc = acc := by
  unfold qBW
  split <;> rfl
theorem take_one {d : List Ce} {c : Ce} {k : Nat} (h : d[k]? = some c) : d.take (k + 1) = d.take k ++ [c] := by rw [List.take_add_one, h]; rfl
theorem stepF_free {d : List Ce} {acc : List (List Vl)} {k : Nat} {r : List Vl} (h : d[k]? = some ⟨false, r⟩) : qBW true (d.take (k + 1)) acc = qBW true (d.take k) acc := by
  unfold qBW
  rw [if_pos rfl, if_pos rfl, take_one h, qEG]
  rfl
theorem stepF_full {d : List Ce} {acc : List (List Vl)} {k : Nat} {r : List Vl} (h : d[k]? = some ⟨true, r⟩) : qBW true (d.take (k + 1)) acc = insF (qBW true (d.take k) acc) acc.length r := by
  unfold qBW
  rw [if_pos rfl, if_pos rfl, take_one h, qEG]
  rfl
theorem insJ_len (acc : List (List Vl)) (s : Nat) (r : List Vl) : ∀ j, j ≤ acc.length → (insJ acc s r j).length = acc.length + 1
  | 0, _ => rfl
  | j + 1, h => by
    unfold insJ
    split
    · exact insJ_len acc s r j (by omega)
    · rw [List.length_append, List.length_cons, List.length_take, List.length_drop]
      omega
theorem insJ_mem (acc : List (List Vl)) (s : Nat) (r : List Vl) : ∀ j x, x ∈ insJ acc s r j → x = r ∨ x ∈ acc
  | 0, x, h => List.mem_cons.1 h
  | j + 1, x, h => by
    unfold insJ at h
    split at h
    · exact insJ_mem acc s r j x h
    · rcases List.mem_append.1 h with h | h
      · exact .inr (List.mem_of_mem_take h)
      · rcases List.mem_cons.1 h with h | h
        · exact .inl h
        · exact .inr (List.mem_of_mem_drop h)
theorem KeyL.ins {acc : List (List Vl)} {s : Nat} {r : List Vl} (h : KeyL acc) (hr : ∃ k l, r = numV k :: l) : KeyL (insF acc s r) := by
  intro p hp
  rcases insJ_mem _ _ _ _ _ hp with rfl | hp
  · exact hr
  · exact h p hp
theorem qE6 {cols : List Cl} (hk : ∃ n l, cols = ⟨n, 2, false⟩ :: l) (o : Bool) {d : List Ce} (hd : ∀ c ∈ d, CeOk cols c) {acc : List (List Vl)} (h : KeyL acc) : KeyL (qBW o d acc) ∧ (qBW o d acc).length ≤ acc.length + d.length := by
  unfold qBW
  split
  · have go : ∀ (s : Nat) (d : List Ce) (acc : List (List Vl)), (∀ c ∈ d, CeOk cols c) → KeyL acc → KeyL (qE3 s acc d) ∧ (qE3 s acc d).length ≤ acc.length + d.length := by
      intro s d
      induction d with
      | nil => intro acc _ h; exact ⟨h, Nat.le_refl _⟩
      | cons c d ih =>
        intro acc hd h
        unfold qE3
        rw [List.length_cons]
        split
        · rename_i hf
          have h2 := ih _ (fun e he => hd e (by simp [he])) (h.ins (s := s) (qCm ((hd c (by simp)).fit hf) hk))
          refine ⟨h2.1, Nat.le_trans h2.2 ?_⟩
          unfold insF
          rw [insJ_len _ _ _ _ (Nat.le_refl _)]
          omega
        · have h2 := ih _ (fun e he => hd e (by simp [he])) h
          exact ⟨h2.1, by omega⟩
    exact go _ d acc hd h
  · exact ⟨h, by omega⟩
def midF (q : List (List Vl)) (r : List Vl) (j : Nat) : List (List Vl) := q.take j ++ r :: q.drop j
theorem midF_end (q : List (List Vl)) (r : List Vl) : midF q r q.length = q ++ [r] := by unfold midF; rw [List.take_length, List.drop_length]
theorem midF_at {q : List (List Vl)} {r : List Vl} {j : Nat} (h : j ≤ q.length) : (midF q r j)[j]? = some r := by
  unfold midF
  rw [List.getElem?_append_right (by rw [List.length_take]; omega), List.length_take, show j - min j q.length = 0 by omega]
  rfl
theorem midF_pre {q : List (List Vl)} {r p : List Vl} {j : Nat} (h : q[j]? = some p) : (midF q r (j + 1))[j]? = some p := by
  have hl := (List.getElem?_eq_some_iff.1 h).1
  unfold midF
  rw [List.getElem?_append_left (by rw [List.length_take]; omega), List.getElem?_take, if_pos (by omega), h]
theorem qE4 {q : List (List Vl)} {r : List Vl} {j : Nat} (h : j ≤ q.length) : (midF q r j).length = q.length + 1 := by
  unfold midF
  rw [List.length_append, List.length_cons, List.length_take, List.length_drop]
  omega
theorem midF_swap {q : List (List Vl)} {r p : List Vl} {j : Nat} (h : q[j]? = some p) : ((midF q r (j + 1)).set (j + 1) p).set j r = midF q r j := by
  have hl := (List.getElem?_eq_some_iff.1 h).1
  have e1 : q.take (j + 1) = q.take j ++ [p] := by rw [List.take_add_one, h]; rfl
  have e2 : q.drop j = p :: q.drop (j + 1) := by
    rw [List.drop_eq_getElem_cons hl]
    congr 1
    have := List.getElem?_eq_getElem hl
    rw [h] at this
    injection this with this
    exact this.symm
  have hlt : (q.take j).length = j := by rw [List.length_take]; omega
  unfold midF
  rw [e1, e2]
  generalize q.take j = u at *
  subst hlt
  generalize q.drop (u.length + 1) = v
  clear e1 e2 h hl
  induction u with
  | nil => rfl
  | cons x u ih => exact congrArg (x :: ·) ih
theorem insJ_at {q : List (List Vl)} {s : Nat} {r : List Vl} {j : Nat} (h : ¬ s < j) : insJ q s r j = midF q r j := by
  cases j with
  | zero => rfl
  | succ j => unfold insJ; rw [if_neg (by omega)]; rfl
theorem insJ_here {q : List (List Vl)} {s : Nat} {r p : List Vl} {j : Nat} (h : q[j]? = some p) (hk : ¬ keyN r < keyN p) : insJ q s r (j + 1) = midF q r (j + 1) := by
  unfold insJ
  rw [if_neg (by rw [List.getD_eq_getElem?_getD, h]; exact fun h2 => hk h2.2)]
  rfl
theorem insJ_down {q : List (List Vl)} {s : Nat} {r p : List Vl} {j : Nat} (h : q[j]? = some p) (hs : s < j + 1) (hk : keyN r < keyN p) : insJ q s r (j + 1) = insJ q s r j := by
  conv => lhs; unfold insJ
  rw [if_pos (by rw [List.getD_eq_getElem?_getD, h]; exact ⟨hs, hk⟩)]
end Go.Proofs.YtpaccaojgbfjdaaDoor


/-
  Tables into which rows are put. No program in sight.
-/
namespace Go.Proofs.YtpaccaojgbfjdaaDoor

theorem twiceB_not {d : List Ce} {r : List Vl} (h : ¬ qDC d r = true) {c : Ce} (hc : c ∈ d) (hf : c.full = true) : keyN c.row ≠ keyN r := by
  intro e
  apply h
  unfold qDC
  rw [List.any_eq_true]
  exact ⟨c, hc, by rw [hf, e]; simp⟩
theorem DrOk.put {cols : List Cl} {d : List Ce} {n : Nat} {r : List Vl} (h : DrOk cols d) (hr : FitR r cols) (hn : ¬ qDC d r = true) : DrOk cols (d.set n ⟨true, r⟩) := by
  refine ⟨by rw [List.length_set, h.len], fun c hc => ?_, ?_⟩
  · rcases List.mem_or_eq_of_mem_set hc with hc | rfl
    · exact h.ok c hc
    · exact ⟨fun _ => hr, fun h => (by cases h)⟩
  · rw [List.pairwise_iff_getElem]
    intro i j hi hj hij
    rw [List.length_set] at hi hj
    rw [List.getElem_set, List.getElem_set]
    have hp := List.pairwise_iff_getElem.1 h.keys i j hi hj hij
    split
    · split
      · omega
      · intro _ hf e
        exact twiceB_not hn (List.getElem_mem hj) hf e.symm
    · split
      · intro hf _ e
        exact twiceB_not hn (List.getElem_mem hi) hf e
      · exact hp
theorem TbOk.put {t : Tb} {i n : Nat} {r : List Vl} (h : TbOk t) (hr : FitR r t.cols) (hi : i < 2) (hn : ¬ qDC (drF t.a t.b i) r = true) : TbOk (t.put i n r) := by
  rcases (by omega : i = 0 ∨ i = 1) with rfl | rfl
  · exact ⟨h.name, h.cols, h.key, h.a.put hr hn, h.b⟩
  · exact ⟨h.name, h.cols, h.key, h.a, h.b.put hr hn⟩
theorem Tb.put_cols (t : Tb) (i n : Nat) (r : List Vl) : (t.put i n r).cols = t.cols := by unfold Tb.put; split <;> rfl
def qDe (t : Tb) (K : Int) : Prop := ∀ c, c ∈ t.a ∨ c ∈ t.b → c.full = true → keyN c.row < K
theorem qDe.mono {t : Tb} {K L : Int} (h : qDe t K) (hl : K ≤ L) : qDe t L := fun c hc hf => by have := h c hc hf; omega
theorem qDe.not {t : Tb} {K : Int} (h : qDe t K) {r : List Vl} (hr : K ≤ keyN r) (i : Nat) : ¬ qDC (drF t.a t.b i) r = true := by
  intro ht
  unfold qDC at ht
  rw [List.any_eq_true] at ht
  obtain ⟨c, hc, hp⟩ := ht
  simp only [Bool.and_eq_true, decide_eq_true_eq] at hp
  have := h c (by unfold drF at hc; split at hc; exact .inl hc; exact .inr hc) hp.1
  omega
theorem qDe.put {t : Tb} {K : Int} (h : qDe t K) {r : List Vl} (hr : keyN r < K) (i n : Nat) : qDe (t.put i n r) K := by
  intro c hc hf
  unfold Tb.put at hc
  split at hc
  · rcases hc with hc | hc
    · rcases List.mem_or_eq_of_mem_set hc with hc | rfl
      · exact h c (.inl hc) hf
      · exact hr
    · exact h c (.inr hc) hf
  · rcases hc with hc | hc
    · exact h c (.inl hc) hf
    · rcases List.mem_or_eq_of_mem_set hc with hc | rfl
      · exact h c (.inr hc) hf
      · exact hr
def tbN (n : ByteArray) (cols : List Cl) : Tb := ⟨n, cols, [⟨false, []⟩, ⟨false, []⟩, ⟨false, []⟩, ⟨false, []⟩], [⟨false, []⟩, ⟨false, []⟩, ⟨false, []⟩, ⟨false, []⟩]⟩
theorem tbN_ok {n : ByteArray} {cols : List Cl} (hn : qC8 n) (hc : ColsOk cols) (hk : ∃ n l, cols = ⟨n, 2, false⟩ :: l) : TbOk (tbN n cols) := by
  have hd : DrOk cols [⟨false, []⟩, ⟨false, []⟩, ⟨false, []⟩, ⟨false, []⟩] := by
    refine ⟨rfl, fun c hc => ?_, ?_⟩
    · have : c = ⟨false, []⟩ := by simpa using hc
      subst this
      exact ⟨fun h => (by cases h), fun _ => rfl⟩
    · simp
  exact ⟨hn, hc, hk, hd, hd⟩
theorem tbN_keys (n : ByteArray) (cols : List Cl) (K : Int) : qDe (tbN n cols) K := by
  intro c hc hf
  have : c = ⟨false, []⟩ := by
    unfold tbN at hc
    simpa using hc
  subst this
  cases hf
abbrev tbNl (n : ByteArray) (cols : List Cl) : List D := [bD true, strD n, qAW cols, bD false, .nl, bD false, .nl, bD false, .nl, bD false, .nl, bD false, .nl, bD false, .nl, bD false, .nl, bD false, .nl]
theorem tbN_sub (n : ByteArray) (cols : List Cl) : qBK (tbNl n cols) (tbN n cols).cs := by
  have s : ∀ {l m : List D}, qBK l m → qBK (bD false :: .nl :: l) (bD false :: qBx [] :: m) := fun h => qBK.cons (SubD.refl _) id (qBK.cons (SubD.nil 4) (fun _ => rfl) h)
  exact qBK.cons (SubD.refl _) id (qBK.cons (SubD.refl _) id (qBK.cons (SubD.refl _) id (s (s (s (s (s (s (s (s qBK.nil))))))))))
theorem insert_pc (t : Tb) (h : TbOk t) (i : Nat) (hi : i < 2) (r : List Vl) (hr : FitR r t.cols) : PC Tryd.prog 12 [.ag t.cs, iD i, qBx r] (insD t i r) := by
  rcases (by omega : i = 0 ∨ i = 1) with rfl | rfl
  · exact insert0_pc t h r hr
  · exact insert1_pc t h r hr
theorem insert_sub {t : Tb} {cs : List D} (hs : qBK cs t.cs) (h : TbOk t) (i : Nat) (hi : i < 2) (r : List Vl) (hr : FitR r t.cols) : PC Tryd.prog 12 [.ag cs, iD i, qBx r] (insD t i r) :=
  (insert_pc t h i hi r hr).args (qBK.cons (SubD.ag hs) id (qBK.refl _))
end Go.Proofs.YtpaccaojgbfjdaaDoor

