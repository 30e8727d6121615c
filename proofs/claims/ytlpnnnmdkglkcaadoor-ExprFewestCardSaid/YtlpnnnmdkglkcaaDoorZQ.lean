/-
  Brackets among the tokens of an expression that is shown: each has its other. Plain. No condition.
-/
import Derived.Test.YtlpnnnmdkglkcaaDoorZParseE
import Derived.Test.YtlpnnnmdkglkcaaDoorZSameX
import Derived.Test.YtlpnnnmdkglkcaaDoorZExprFixed
set_option linter.unusedSimpArgs false
set_option linter.unusedVariables false
namespace Go.Proofs.YtlpnnnmdkglkcaaDoor
open Go.RowKit

def qEb (t : Tk) : Int := if t = lpT then 1 else if t = rpT then -1 else 0
def bal : List Tk → Int
  | [] => 0
  | t :: l => qEb t + bal l
theorem qE2 : ∀ l m : List Tk, bal (l ++ m) = bal l + bal m
  | [], m => by simp [bal]
  | t :: l, m => by
    show qEb t + bal (l ++ m) = qEb t + bal l + bal m
    rw [qE2 l m]; omega
def Bald (l : List Tk) : Prop := bal l = 0 ∧ ∀ n, 0 ≤ bal (l.take n)
theorem Bald.nil : Bald [] := ⟨rfl, fun n => by simp [bal]⟩
theorem Bald.app {l m : List Tk} (h : Bald l) (h2 : Bald m) : Bald (l ++ m) := by
  refine ⟨by rw [qE2, h.1, h2.1]; rfl, fun n => ?_⟩
  rw [List.take_append, qE2]
  have := h.2 n
  have := h2.2 (n - l.length)
  omega
theorem Bald.one {t : Tk} (h1 : t ≠ lpT) (h2 : t ≠ rpT) : Bald [t] := by
  have h0 : qEb t = 0 := by unfold qEb; rw [if_neg h1, if_neg h2]
  refine ⟨by show qEb t + 0 = 0; omega, fun n => ?_⟩
  cases n with
  | zero => simp [bal]
  | succ n => show 0 ≤ qEb t + bal ([].take n); simp [bal, h0]
theorem Bald.wrap {l : List Tk} (h : Bald l) : Bald (lpT :: (l ++ [rpT])) := by
  have h1 : qEb lpT = 1 := rfl
  have h2 : qEb rpT = -1 := by unfold qEb; rw [if_neg (by decide), if_pos rfl]
  refine ⟨?_, fun n => ?_⟩
  · show qEb lpT + bal (l ++ [rpT]) = 0
    rw [qE2, h.1, h1]
    show 1 + (0 + (qEb rpT + 0)) = (0 : Int)
    rw [h2]; rfl
  · cases n with
    | zero => simp [bal]
    | succ n =>
      show 0 ≤ qEb lpT + bal ((l ++ [rpT]).take n)
      rw [List.take_append, qE2, h1]
      have := h.2 n
      have h3 : -1 ≤ bal ([rpT].take (n - l.length)) := by
        cases n - l.length with
        | zero => simp [bal]
        | succ k => show -1 ≤ qEb rpT + bal ([].take k); rw [h2]; simp [bal]
      omega
theorem Bald.cons {t : Tk} {l : List Tk} (h1 : t ≠ lpT) (h2 : t ≠ rpT) (h : Bald l) : Bald (t :: l) := (Bald.one h1 h2).app h
theorem qEM {op k : Nat} {l : List Tk} (h : Bald l) : Bald (qCf op k l) := by
  unfold qCf
  split
  · exact h.wrap
  · exact h
theorem lit_bald (v : Vl) : litT v ≠ lpT ∧ litT v ≠ rpT := by
  have h : ∀ t : Tk, t.k ≠ 6 → t ≠ lpT ∧ t ≠ rpT := fun t h => ⟨fun e => h (by rw [e]), fun e => h (by rw [e])⟩
  refine h _ ?_
  unfold litT
  repeat' split
  all_goals first | decide | (show (3 : Int) ≠ 6; decide) | (show (5 : Int) ≠ 6; decide) | (show (4 : Int) ≠ 6; decide)
theorem mark_bald {op : Nat} (h : bi2 op) (h20 : op ≠ 20) : qCr op ≠ lpT ∧ qCr op ≠ rpT := by
  unfold bi2 at h
  have : op = 5 ∨ op = 6 ∨ op = 7 ∨ op = 8 ∨ op = 9 ∨ op = 10 ∨ op = 11 ∨ op = 12 ∨ op = 13 ∨ op = 14 ∨ op = 15 ∨ op = 16 ∨ op = 19 := by omega
  rcases this with rfl | rfl | rfl | rfl | rfl | rfl | rfl | rfl | rfl | rfl | rfl | rfl | rfl <;> decide
theorem qEO : ∀ x : Ex, x.ok → Bald (shwB x)
  | .lit v, hx => Bald.one (lit_bald v).1 (lit_bald v).2
  | .col n, hx => Bald.one (fun e => absurd (congrArg Tk.k e) (by show ¬ (1 : Int) = 6; decide)) (fun e => absurd (congrArg Tk.k e) (by show ¬ (1 : Int) = 6; decide))
  | .un op a, hx => by
    have ih := fun k => qEM (op := a.op) (k := k) (qEO a hx.2)
    have hop : un1 op := hx.1
    rcases hop with rfl | rfl | rfl | rfl
    · show Bald (mnT :: qCf a.op 8 (shwB a))
      exact (ih _).cons (by decide) (by decide)
    · show Bald (notW :: qCf a.op 3 (shwB a))
      exact (ih _).cons (by decide) (by decide)
    · show Bald (qCf a.op 5 (shwB a) ++ [isW, qDt])
      exact (ih _).app ((Bald.one (by decide) (by decide)).cons (by decide) (by decide))
    · show Bald (lenW :: lpT :: (qCf a.op 1 (shwB a) ++ [rpT]))
      exact (ih _).wrap.cons (by decide) (by decide)
  | .bi op a b, hx => by
    have iha := fun k => qEM (op := a.op) (k := k) (qEO a hx.2.1)
    have ihb := fun k => qEM (op := b.op) (k := k) (qEO b hx.2.2)
    have hop : bi2 op := hx.1
    by_cases h20 : op = 20
    · subst h20
      show Bald (coaW :: lpT :: (qCf a.op 1 (shwB a) ++ cmT :: (qCf b.op 1 (shwB b) ++ [rpT])))
      rw [show (qCf a.op 1 (shwB a) ++ cmT :: (qCf b.op 1 (shwB b) ++ [rpT])) = (qCf a.op 1 (shwB a) ++ cmT :: qCf b.op 1 (shwB b)) ++ [rpT] by simp]
      exact ((iha _).app ((ihb _).cons (by decide) (by decide))).wrap.cons (by decide) (by decide)
    · unfold shwB
      rw [if_neg h20]
      exact (iha _).app ((ihb _).cons (mark_bald hop h20).1 (mark_bald hop h20).2)
theorem shw_bald (x : Ex) (hx : x.ok) (k : Nat) : Bald (shw x k) := by
  have h := qEO x hx
  unfold shw
  exact qEM h
def brkF (T : List Tk) : Nat → Nat → Nat → Option Nat
  | 0, _, _ => none
  | f + 1, i, d => match T[i]? with
    | none => none
    | some t => if t = lpT then brkF T f (i + 1) (d + 1) else if t = rpT then (if d = 1 then some i else brkF T f (i + 1) (d - 1)) else brkF T f (i + 1) d
theorem qEr {T : List Tk} : ∀ (f i d : Nat), T.length ≤ i + f → i ≤ T.length → 1 ≤ d → (d : Int) + bal (T.drop i) ≤ 0 → ∃ j, brkF T f i d = some j ∧ i ≤ j ∧ j < T.length
  | 0, i, d, h1, h2, hd, hb => by
    rw [List.drop_eq_nil_of_le (by omega)] at hb
    simp [bal] at hb
    omega
  | f + 1, i, d, h1, h2, hd, hb => by
    rcases Nat.lt_or_ge i T.length with hlt | hge
    · have ht : T[i]? = some T[i] := List.getElem?_eq_getElem hlt
      have hdr : T.drop i = T[i] :: T.drop (i + 1) := List.drop_eq_getElem_cons hlt
      rw [hdr] at hb
      have hb : (d : Int) + (qEb T[i] + bal (T.drop (i + 1))) ≤ 0 := hb
      unfold brkF
      rw [ht]
      simp only
      generalize T[i] = t at *
      unfold qEb at hb
      by_cases h3 : t = lpT
      · rw [if_pos h3] at hb ⊢
        obtain ⟨j, q1, q2, q3⟩ := qEr (T := T) f (i + 1) (d + 1) (by omega) (by omega) (by omega) (by omega)
        exact ⟨j, q1, by omega, q3⟩
      · rw [if_neg h3] at hb ⊢
        by_cases h4 : t = rpT
        · rw [if_pos h4] at hb ⊢
          by_cases h5 : d = 1
          · rw [if_pos h5]
            exact ⟨i, rfl, Nat.le_refl _, hlt⟩
          · rw [if_neg h5]
            obtain ⟨j, q1, q2, q3⟩ := qEr (T := T) f (i + 1) (d - 1) (by omega) (by omega) (by omega) (by omega)
            exact ⟨j, q1, by omega, q3⟩
        · rw [if_neg h4] at hb ⊢
          obtain ⟨j, q1, q2, q3⟩ := qEr (T := T) f (i + 1) d (by omega) (by omega) hd (by omega)
          exact ⟨j, q1, by omega, q3⟩
    · rw [List.drop_eq_nil_of_le hge] at hb
      simp [bal] at hb
      omega
theorem brk_some {T : List Tk} (h : Bald T) {i : Nat} (hi : T[i]? = some lpT) : ∃ j, brkF T (T.length + 1) i 0 = some j ∧ i < j ∧ j < T.length := by
  have hlt : i < T.length := (List.getElem?_eq_some_iff.1 hi).1
  have h1 := qE2 (T.take i) (T.drop i)
  rw [List.take_append_drop, h.1] at h1
  have h2 := h.2 i
  have hdr : T.drop i = T[i] :: T.drop (i + 1) := List.drop_eq_getElem_cons hlt
  have hTi : T[i] = lpT := by rw [List.getElem?_eq_getElem hlt] at hi; exact Option.some.inj hi
  rw [hdr, hTi] at h1
  have h1 : 0 = bal (T.take i) + (1 + bal (T.drop (i + 1))) := h1
  obtain ⟨j, q1, q2, q3⟩ := qEr (T := T) T.length (i + 1) 1 (by omega) (by omega) (Nat.le_refl 1) (by omega)
  refine ⟨j, ?_, by omega, q3⟩
  unfold brkF
  rw [hi]
  simp only [if_true]
  exact q1
end Go.Proofs.YtlpnnnmdkglkcaaDoor


/-
  sameExpr of two expressions that are not the same. No condition.
-/
namespace Go.Proofs.YtlpnnnmdkglkcaaDoor
open Go.RowKit

theorem ex_ext {x y : Ex} (h1 : x.op = y.op) (h2 : x.val = y.val) (h3 : x.nam = y.nam) (h4 : x.args = y.args) : x = y := by
  cases x <;> cases y <;> simp_all [Ex.op, Ex.val, Ex.nam, Ex.args]
theorem vl_eq {a b : Vl} (h1 : a.k = b.k) (h2 : a.n = b.n) (h3 : a.b = b.b) (h4 : a.t = b.t) : a = b := by
  cases a; cases b; simp_all
set_option maxHeartbeats 4000000 in
theorem sameN_step (x y : Ex) (hxy : x ≠ y) (ih : ∀ a b, a ∈ x.args → a ≠ b → PC Tryd.prog 25 [.ag a.cs, .ag b.cs] (bD false)) : PC Tryd.prog 25 [.ag x.cs, .ag y.cs] (bD false) := by
  have hl := x.args_len
  have hl2 := y.args_len
  have hxl := x.cs_eq
  have hyl := y.cs_eq
  generalize x.cs = c at *
  generalize y.cs = d at *
  subst hxl hyl
  refine qAS Tryd.func25 rfl (by kernel_rfl) mixed (by kernel_rfl) (qle (by kernel_rfl)) Tryd.results25 ?_
  repeat (first | ((first | (with_reducible apply rpGT) | (with_reducible apply drGT) | (with_reducible apply qAR) | (with_reducible apply qAQ)); eq_refl; exact qAu rfl; (first | eq_refl | assumption | decide); (focus repeat' (first | exact trivial | exact id | apply And.intro)); ((first | ((with_reducible first | apply qAe | apply qAd); (conv => lhs; whnf)) | ((with_reducible first | apply qAU | apply qAg | apply qAi | apply qBa | apply qAB | apply qAv) <;> first | ((with_reducible apply tyOk); eq_refl) | eq_refl | exact id | decide) | ((with_reducible apply qAn); exact tyOk rfl; (iterate 3 eq_refl); exact qle rfl; eq_refl) | ((with_reducible apply qB6); eq_refl; eq_refl) | ((with_reducible apply qDB); eq_refl; eq_refl; exact tgOk rfl; eq_refl)); (first | exact qAb _ | exact qAm _ _ | exact qAk _ _ _ | exact qAl _ _ _ _))) | (with_reducible first | apply qAr | apply qAq | apply qAp | apply qAj) | ((first | (with_reducible apply rp) | ((with_reducible apply rpG); eq_refl; exact qAu rfl; (focus repeat' (first | exact trivial | exact id | apply And.intro)); intro zg; have zh := zg; (try simp only [zs1, zs2, zs3, zs4] at zg))); first | ((with_reducible first | apply qAe | apply qAd); (conv => lhs; whnf)) | ((with_reducible first | apply qAU | apply qAg | apply qAi | apply qBa | apply qAB) <;> first | ((with_reducible apply tyOk); eq_refl) | eq_refl | exact id | decide) | ((with_reducible apply qAn); exact tyOk rfl; (iterate 3 eq_refl); exact qle rfl; eq_refl) | ((with_reducible apply qB6); eq_refl; eq_refl) | ((with_reducible apply qDB); eq_refl; eq_refl; exact tgOk rfl; eq_refl)) | ((with_reducible apply rp1); ((with_reducible apply qAv); eq_refl; eq_refl)))
  refine qAx rfl (fun hd => ?_) (fun hd => ?_)
  · clear hd
    repeat (first | ((first | (with_reducible apply rpGT) | (with_reducible apply drGT) | (with_reducible apply qAR) | (with_reducible apply qAQ)); eq_refl; (first | exact qAE rfl | exact qAu rfl | exact qAy rfl | exact qAw rfl); (first | eq_refl | assumption | decide); (focus repeat' (first | exact trivial | exact id | apply And.intro | (intro h; (first | exact h | (simp only [Bool.and_eq_true] at h; (first | exact h.1 | exact h.1.1 | exact h.1.1.1 | exact h.2)) | (rw [h]; rfl) | (rw [zh, h]; rfl) | simp_all)))); ((first | ((with_reducible apply qAd); (conv => lhs; whnf))); (first | exact qAb _ | exact qAm _ _ | exact qAk _ _ _ | exact qAl _ _ _ _))) | (with_reducible first | apply qAr | apply qAq | apply qAp | apply qAj | apply qAK | apply qBg | apply qA9) | ((with_reducible apply rp); ((with_reducible apply qAd); (conv => lhs; whnf))))
    (with_reducible apply qA8); (focus (repeat' (first | (with_reducible apply qAJ) | (with_reducible apply qAD) | ((with_reducible apply qBb); eq_refl)))); eq_refl; refine SubD.of_eq ?_
    rfl
  simp only [Bool.or_eq_false_iff, bne_eq_false_iff_eq, Bool.not_eq_false', Bool.and_eq_true, beq_iff_eq, bytes_eq, and_true] at hd
  obtain ⟨⟨⟨h1, h2, h3, h4, h5⟩, h6⟩, h7⟩ := hd
  have hlen : y.args.length = x.args.length := by omega
  have hne : x.args ≠ y.args := fun h => hxy (ex_ext (by omega) (vl_eq h2 h3 (by omega) h5) h6 h)
  clear h1 h2 h3 h4 h5 h6 h7
  repeat (first | ((first | (with_reducible apply rpGT) | (with_reducible apply drGT) | (with_reducible apply qAR) | (with_reducible apply qAQ)); eq_refl; (first | exact qAE rfl | exact qAu rfl | exact qAy rfl | exact qAw rfl); (first | eq_refl | assumption | decide); (focus repeat' (first | exact trivial | exact id | apply And.intro | (intro h; (first | exact h | (simp only [Bool.and_eq_true] at h; (first | exact h.1 | exact h.1.1 | exact h.1.1.1 | exact h.2)) | (rw [h]; rfl) | (rw [zh, h]; rfl) | simp_all)))); ((first | ((with_reducible apply qAe); (conv => lhs; whnf)) | ((with_reducible first | apply qAg | apply qAi | apply qAB) <;> first | ((with_reducible apply tyOk); eq_refl) | eq_refl | decide)); (first | exact qAb _ | exact qAm _ _ | exact qAk _ _ _ | exact qAl _ _ _ _))) | (with_reducible first | apply qAr | apply qAq | apply qAp | apply qAj | apply qAA | apply qAF) | ((with_reducible apply rp); first | ((with_reducible apply qAe); (conv => lhs; whnf)) | ((with_reducible apply qAg); exact tyOk rfl; eq_refl; eq_refl; decide; eq_refl) | ((with_reducible apply qAi); exact tyOk rfl; (iterate 4 eq_refl)) | ((with_reducible apply qAB); exact tyOk rfl; eq_refl; eq_refl)))
  refine qCh (fun m s => ∃ k, k ≤ x.args.length ∧ (∀ j, j < k → x.args[j]? = y.args[j]?) ∧ m = x.args.length - k ∧ s = ⟨[(2, .px 2 0), (3, .px 3 0), (36, .d (iD x.args.length)), (37, .d (iD k))],
    [(2, .var 53 [.d (iD x.op), .d (iD x.val.k), .d (iD x.val.n), .d (qD x.val.b), .d (strD x.val.t), .d (strD x.nam), .d (.sl 7 (x.args.map Ex.cs))]), (3, .var 53 [.d (iD y.op), .d (iD y.val.k), .d (iD y.val.n), .d (qD y.val.b), .d (strD y.val.t), .d (strD y.nam), .d (.sl 7 (y.args.map Ex.cs))])]⟩) _ _ ?_ ⟨0, by omega, fun j hj => by omega, rfl, rfl⟩ ?_
  · refine qA7 [] (by repeat' (first | exact qAX | (refine qAN rfl (by exact SubA.refl _) ?_))) (kpX rfl) rfl (insS rfl) (insX rfl)
  · rintro m s ⟨k, hk, hall, rfl, rfl⟩
    repeat (first | ((first | (with_reducible apply rpGT) | (with_reducible apply drGT) | (with_reducible apply qAR) | (with_reducible apply qAQ)); eq_refl; (first | exact qAE rfl | exact qAu rfl | exact qAy rfl | exact qAw rfl); (first | eq_refl | assumption | decide); (focus repeat' (first | exact trivial | exact id | apply And.intro | (intro h; (first | exact h | (simp only [Bool.and_eq_true] at h; (first | exact h.1 | exact h.1.1 | exact h.1.1.1 | exact h.2)) | (rw [h]; rfl) | (rw [zh, h]; rfl) | simp_all)))); ((first | ((with_reducible apply qA0); eq_refl; eq_refl)); (first | exact qAb _ | exact qAm _ _ | exact qAk _ _ _ | exact qAl _ _ _ _))) | (with_reducible first | apply qAr | apply qAq | apply qAp | apply qAj) | ((with_reducible apply rp); ((with_reducible apply qA0); eq_refl; eq_refl)))
    refine qAx rfl (fun hd => ?_) (fun hd => ?_)
    · have hlt : k < x.args.length := by simp at hd; omega
      have hlt2 : k < y.args.length := by omega
      clear hd
      obtain ⟨a, ha⟩ : ∃ a, x.args[k]? = some a := ⟨_, List.getElem?_eq_getElem hlt⟩
      obtain ⟨b, hb⟩ : ∃ b, y.args[k]? = some b := ⟨_, List.getElem?_eq_getElem hlt2⟩
      have ha2 : (x.args.map Ex.cs)[k]? = some a.cs := by rw [List.getElem?_map, ha]; rfl
      have hb2 : (y.args.map Ex.cs)[k]? = some b.cs := by rw [List.getElem?_map, hb]; rfl
      by_cases hab : a = b
      · have i1 : PC Tryd.prog 25 [.ag a.cs, .ag b.cs] (bD true) := by rw [← hab]; exact qFg a
        have hall2 : ∀ j, j < k + 1 → x.args[j]? = y.args[j]? := fun j hj => by
          rcases Nat.lt_or_ge j k with h | h
          · exact hall j h
          · rw [show j = k by omega, ha, hb, hab]
        have hal := a.cs_eq
        have hbl := b.cs_eq
        generalize a.cs = ac at *
        generalize b.cs = bc at *
        subst hal hbl
        repeat (first | ((first | (with_reducible apply rpGT) | (with_reducible apply drGT) | (with_reducible apply qAR) | (with_reducible apply qAQ)); eq_refl; (first | exact qAE rfl | exact qAu rfl | exact qAy rfl | exact qAw rfl); (first | eq_refl | assumption | decide); (focus repeat' (first | exact trivial | exact id | apply And.intro | (intro h; (first | exact h | (simp only [Bool.and_eq_true] at h; (first | exact h.1 | exact h.1.1 | exact h.1.1.1 | exact h.2)) | (rw [h]; rfl) | (rw [zh, h]; rfl) | simp_all)))); ((first | ((with_reducible apply qAc); eq_refl; eq_refl; exact (i1); eq_refl) | ((with_reducible first | apply qAe | apply qAd); (conv => lhs; whnf)) | ((with_reducible first | apply qAg | apply qAi | apply qBc) <;> first | ((with_reducible apply tyOk); eq_refl) | eq_refl | decide) | ((with_reducible apply qAo); exact tyOk rfl; eq_refl; eq_refl; assumption; eq_refl) | ((with_reducible apply qAz); exact tyOk rfl; eq_refl; exact tyOk rfl; (iterate 4 eq_refl); (simp only [List.length_map, List.length_append, List.length_cons, List.length_nil] at *; omega)) | ((with_reducible apply qAV); eq_refl; eq_refl; omega; omega)); (first | exact qAb _ | exact qAm _ _ | exact qAk _ _ _ | exact qAl _ _ _ _))) | (with_reducible first | apply qAr | apply qAq | apply qAp | apply qAj | apply qBD | apply qAA | apply qA4 | apply qAF) | ((with_reducible apply qBQ); (first | kernel_rfl | eq_refl)) | ((with_reducible first | apply rp | apply dr); first | ((with_reducible apply qAc); eq_refl; eq_refl; exact (i1); eq_refl) | ((with_reducible first | apply qAe | apply qAd); (conv => lhs; whnf)) | ((with_reducible first | apply qAg | apply qAi | apply qBc) <;> first | ((with_reducible apply tyOk); eq_refl) | eq_refl | decide) | ((with_reducible apply qAo); exact tyOk rfl; eq_refl; eq_refl; assumption; eq_refl) | ((with_reducible apply qAz); exact tyOk rfl; eq_refl; exact tyOk rfl; (iterate 4 eq_refl); (simp only [List.length_map, List.length_append, List.length_cons, List.length_nil] at *; omega)) | ((with_reducible apply qAV); eq_refl; eq_refl; omega; omega)) | ((with_reducible apply qBI); eq_refl; eq_refl))
        refine ⟨_, _, ?_, ?_, k + 1, by omega, hall2, rfl, rfl⟩
        · omega
        · refine qA7 [] (by repeat' (first | exact qAX | (refine qAN rfl (by exact SubA.refl _) ?_))) (kpX rfl) rfl (insS rfl) (insX rfl)
      · have i1 := ih a b (List.mem_of_getElem? ha) hab
        have hal := a.cs_eq
        have hbl := b.cs_eq
        generalize a.cs = ac at *
        generalize b.cs = bc at *
        subst hal hbl
        repeat (first | ((first | (with_reducible apply rpGT) | (with_reducible apply drGT) | (with_reducible apply qAR) | (with_reducible apply qAQ)); eq_refl; (first | exact qAE rfl | exact qAu rfl | exact qAy rfl | exact qAw rfl); (first | eq_refl | assumption | decide); (focus repeat' (first | exact trivial | exact id | apply And.intro | (intro h; (first | exact h | (simp only [Bool.and_eq_true] at h; (first | exact h.1 | exact h.1.1 | exact h.1.1.1 | exact h.2)) | (rw [h]; rfl) | (rw [zh, h]; rfl) | simp_all)))); ((first | ((with_reducible apply qAc); eq_refl; eq_refl; exact (i1); eq_refl) | ((with_reducible first | apply qAe | apply qAd); (conv => lhs; whnf)) | ((with_reducible first | apply qAg | apply qAi | apply qBc) <;> first | ((with_reducible apply tyOk); eq_refl) | eq_refl | decide) | ((with_reducible apply qAo); exact tyOk rfl; eq_refl; eq_refl; assumption; eq_refl) | ((with_reducible apply qAz); exact tyOk rfl; eq_refl; exact tyOk rfl; (iterate 4 eq_refl); (simp only [List.length_map, List.length_append, List.length_cons, List.length_nil] at *; omega))); (first | exact qAb _ | exact qAm _ _ | exact qAk _ _ _ | exact qAl _ _ _ _))) | (with_reducible first | apply qAr | apply qAq | apply qAp | apply qAj | apply qBD | apply qAA | apply qAK | apply qBg | apply qBw | apply qA9 | apply qAF) | ((with_reducible apply qBQ); (first | kernel_rfl | eq_refl)) | ((with_reducible first | apply rp | apply dr); first | ((with_reducible apply qAc); eq_refl; eq_refl; exact (i1); eq_refl) | ((with_reducible first | apply qAe | apply qAd); (conv => lhs; whnf)) | ((with_reducible first | apply qAg | apply qAi | apply qBc) <;> first | ((with_reducible apply tyOk); eq_refl) | eq_refl | decide) | ((with_reducible apply qAo); exact tyOk rfl; eq_refl; eq_refl; assumption; eq_refl) | ((with_reducible apply qAz); exact tyOk rfl; eq_refl; exact tyOk rfl; (iterate 4 eq_refl); (simp only [List.length_map, List.length_append, List.length_cons, List.length_nil] at *; omega))) | ((with_reducible apply qBK); eq_refl; eq_refl))
        (with_reducible apply qA8); (focus (repeat' (first | (with_reducible apply qAJ) | (with_reducible apply qAD) | ((with_reducible apply qBb); eq_refl)))); eq_refl; refine SubD.of_eq ?_
        rfl
    · have hke : k = x.args.length := by simp at hd; omega
      exfalso
      subst hke
      refine hne (List.ext_getElem? fun j => ?_)
      rcases Nat.lt_or_ge j x.args.length with h | h
      · exact hall j h
      · rw [List.getElem?_eq_none h, List.getElem?_eq_none (by omega)]
theorem sameN_pc : ∀ (n : Nat) (x y : Ex), x.deep ≤ n → x ≠ y → PC Tryd.prog 25 [.ag x.cs, .ag y.cs] (bD false)
  | 0, x, y, hn, _ => absurd hn (by have := x.deep_pos; omega)
  | n + 1, x, y, hn, h => sameN_step x y h fun a b ha hab => sameN_pc n a b (by have := Ex.deep_arg (x := x) (a := a) ha; omega) hab
end Go.Proofs.YtlpnnnmdkglkcaaDoor


/-
  bracket. No condition but the sizes.
-/
namespace Go.Proofs.YtlpnnnmdkglkcaaDoor
open Go.RowKit

theorem qCB {P : Program} {dst : Option Nat} {ty : TypeId} {e : Operand → A} {β : Bx} {T T' : TypeId} {x y : Operand} {m n k : Int} (hk : m - n = k) (h : -9223372036854775808 ≤ k) (h2 : k ≤ 9223372036854775807) (hx : e x = .d (iD m)) (hy : e y = .d (iD n)) : Does P dst (.binOp .sub T x y T') ty e β (.d (iD k)) [] [] := by
  subst hk; exact qC2 hx hy h h2
set_option maxHeartbeats 4000000 in
theorem bracket_pc (T : List Tk) (hT : T.length ≤ 1000) (i j : Nat) (hi : T[i]? = some lpT) (h : brkF T (T.length + 1) i 0 = some j) : PC Tryd.prog 28 [qAs T, iD i] (iD j) := by
  generalize T.length + 1 = f0 at h
  refine qAS Tryd.func28 rfl (by kernel_rfl) mixed (by kernel_rfl) (qle (by kernel_rfl)) Tryd.results28 ?_
  repeat (first | ((first | (with_reducible apply rpGT) | (with_reducible apply drGT) | (with_reducible apply qAR) | (with_reducible apply qAQ)); eq_refl; (first | exact qAE rfl | exact qAu rfl | exact qAy rfl | exact qAw rfl); (first | eq_refl | assumption | decide); (focus repeat' (first | exact trivial | exact id | apply And.intro | (intro h; (first | exact h | (simp only [Bool.and_eq_true] at h; (first | exact h.1 | exact h.1.1 | exact h.1.1.1 | exact h.2)) | (rw [h]; rfl) | (rw [zh, h]; rfl) | simp_all)))); ((first | ((with_reducible first | apply qAe | apply qAd); (conv => lhs; whnf))); (first | exact qAb _ | exact qAm _ _ | exact qAk _ _ _ | exact qAl _ _ _ _))) | (with_reducible first | apply qAr | apply qAq | apply qAp | apply qAj | apply qAA) | ((with_reducible apply rp); first | ((with_reducible apply qAe); (conv => lhs; whnf)) | ((with_reducible apply qAd); (conv => lhs; whnf))))
  refine qCh (fun m s => ∃ f p d, brkF T f p d = some j ∧ f = m ∧ d ≤ p ∧ (1 ≤ d ∨ T[p]? = some lpT) ∧ s = ⟨[(0, .d (qAs T)), (4, .d (iD 0)), (5, .d (iD (d : Nat))), (6, .d (iD (p : Nat)))], []⟩) _ _ ?_ ⟨f0, i, 0, h, rfl, Nat.zero_le _, .inr hi, rfl⟩ ?_
  · refine qA7 [] (by repeat' (first | exact qAX | (refine qAN rfl (by exact SubA.refl _) ?_))) (kpX rfl) rfl (insS rfl) (insX rfl)
  · rintro m s ⟨f, p, d, hb, rfl, hdp, hd1, rfl⟩
    cases f with
    | zero => cases hb
    | succ f =>
      unfold brkF at hb
      cases hp : T[p]? with
      | none => rw [hp] at hb; cases hb
      | some t =>
        rw [hp] at hb
        have hlt : p < T.length := (List.getElem?_eq_some_iff.1 hp).1
        have hg : (T.map Tk.cs)[p]? = some t.cs := by rw [List.getElem?_map, hp]; rfl
        have hl : decide ((p : Int) < (T.length : Nat)) = true := decide_eq_true (by omega)
        simp only at hb
        by_cases h1 : t = lpT
        · rw [if_pos h1] at hb
          subst h1
          have e1 := tkEq (a := lpT) (b := lpT) (c := true) (by decide)
          have e2 := tkEq (a := lpT) (b := rpT) (c := false) (by decide)
          have hg : (T.map Tk.cs)[p]? = some [iD 6, strD ⟨#[40]⟩, iD 0, qD 0] := hg
          have e1 : qDq [.i, .s, .i, .i] [iD 6, strD ⟨#[40]⟩, iD 0, qD 0] [iD 6, strD ⟨#[40]⟩, iD 0, qD 0] = some true := e1
          have e2 : qDq [.i, .s, .i, .i] [iD 6, strD ⟨#[40]⟩, iD 0, qD 0] [iD 6, strD ⟨#[41]⟩, iD 0, qD 0] = some false := e2
          repeat (first | ((first | (with_reducible apply rpGT) | (with_reducible apply drGT) | (with_reducible apply qAR) | (with_reducible apply qAQ)); eq_refl; (first | exact qAE rfl | exact qAu rfl | exact qAy rfl | exact qAw rfl); (first | eq_refl | assumption | decide); (focus repeat' (first | exact trivial | exact id | apply And.intro | (intro h; (first | exact h | (simp only [Bool.and_eq_true] at h; (first | exact h.1 | exact h.1.1 | exact h.1.1.1 | exact h.2)) | (rw [h]; rfl) | (rw [zh, h]; rfl) | simp_all)))); ((first | (exact qB3 hl rfl rfl) | (exact qBA rfl rfl (tgOk rfl) e1) | (exact qBA rfl rfl (tgOk rfl) e2) | ((with_reducible first | apply qAe | apply qAd); (conv => lhs; whnf)) | ((with_reducible apply qAo); exact tyOk rfl; eq_refl; eq_refl; assumption; eq_refl) | ((with_reducible apply qAz); exact tyOk rfl; eq_refl; exact tyOk rfl; (iterate 4 eq_refl); (simp only [List.length_map, List.length_append, List.length_cons, List.length_nil] at *; omega)) | ((with_reducible apply qAV); eq_refl; eq_refl; omega; omega) | ((with_reducible apply qAB); exact tyOk rfl; eq_refl; eq_refl) | ((with_reducible apply qAG); exact tyOk rfl; eq_refl; eq_refl; (focus repeat' (first | eq_refl | refine ⟨_, _, rfl, rfl, qle rfl, rfl, ?_⟩)); eq_refl)); (first | exact qAb _ | exact qAm _ _ | exact qAk _ _ _ | exact qAl _ _ _ _))) | (with_reducible first | apply qAr | apply qAq | apply qAp | apply qAj | apply qAA | apply qA4 | apply qAF) | ((with_reducible apply rp); first | (exact qB3 hl rfl rfl) | (exact qBA rfl rfl (tgOk rfl) e1) | (exact qBA rfl rfl (tgOk rfl) e2) | ((with_reducible apply qAe); (conv => lhs; whnf)) | ((with_reducible apply qAd); (conv => lhs; whnf)) | ((with_reducible apply qAo); exact tyOk rfl; eq_refl; eq_refl; assumption; eq_refl) | ((with_reducible apply qAz); exact tyOk rfl; eq_refl; exact tyOk rfl; (iterate 4 eq_refl); (simp only [List.length_map, List.length_append, List.length_cons, List.length_nil] at *; omega)) | ((with_reducible apply qAV); eq_refl; eq_refl; omega; omega) | ((with_reducible apply qAB); exact tyOk rfl; eq_refl; eq_refl) | ((with_reducible apply qAG); exact tyOk rfl; eq_refl; eq_refl; (focus repeat' (first | eq_refl | refine ⟨_, _, rfl, rfl, qle rfl, rfl, ?_⟩)); eq_refl)) | ((with_reducible apply qBI); eq_refl; eq_refl) | ((with_reducible apply qBK); eq_refl; eq_refl))
          refine ⟨_, _, ?_, ?_, f, p + 1, d + 1, hb, rfl, by omega, .inl (by omega), rfl⟩
          · omega
          · refine qA7 [] (by repeat' (first | exact qAX | (refine qAN rfl (by exact SubA.refl _) ?_))) (kpX rfl) rfl (insS rfl) (insX rfl)
        · rw [if_neg h1] at hb
          have hd2 : 1 ≤ d := by
            rcases hd1 with h | h
            · exact h
            · rw [hp] at h; exact absurd (Option.some.inj h) h1
          clear hd1
          have e1 := tkEq (a := t) (b := lpT) (c := false) (decide_eq_false h1)
          by_cases h2 : t = rpT
          · rw [if_pos h2] at hb
            subst h2
            have hg : (T.map Tk.cs)[p]? = some [iD 6, strD ⟨#[41]⟩, iD 0, qD 0] := hg
            have e1 : qDq [.i, .s, .i, .i] [iD 6, strD ⟨#[41]⟩, iD 0, qD 0] [iD 6, strD ⟨#[40]⟩, iD 0, qD 0] = some false := e1
            have e2 : qDq [.i, .s, .i, .i] [iD 6, strD ⟨#[41]⟩, iD 0, qD 0] [iD 6, strD ⟨#[41]⟩, iD 0, qD 0] = some true := tkEq (a := rpT) (b := rpT) (c := true) (by decide)
            by_cases h3 : d = 1
            · rw [if_pos h3] at hb
              injection hb with hb
              subst h3 hb
              repeat (first | ((first | (with_reducible apply rpGT) | (with_reducible apply drGT) | (with_reducible apply qAR) | (with_reducible apply qAQ)); eq_refl; (first | exact qAE rfl | exact qAu rfl | exact qAy rfl | exact qAw rfl); (first | eq_refl | assumption | decide); (focus repeat' (first | exact trivial | exact id | apply And.intro | (intro h; (first | exact h | (simp only [Bool.and_eq_true] at h; (first | exact h.1 | exact h.1.1 | exact h.1.1.1 | exact h.2)) | (rw [h]; rfl) | (rw [zh, h]; rfl) | simp_all)))); ((first | (exact qB3 hl rfl rfl) | (exact qBA rfl rfl (tgOk rfl) e1) | (exact qBA rfl rfl (tgOk rfl) e2) | ((with_reducible first | apply qAe | apply qAd); (conv => lhs; whnf)) | ((with_reducible apply qAo); exact tyOk rfl; eq_refl; eq_refl; assumption; eq_refl) | ((with_reducible apply qAz); exact tyOk rfl; eq_refl; exact tyOk rfl; (iterate 4 eq_refl); (simp only [List.length_map, List.length_append, List.length_cons, List.length_nil] at *; omega)) | ((with_reducible first | apply qAC | apply qAB) <;> first | ((with_reducible apply tyOk); eq_refl) | eq_refl) | ((with_reducible apply qC2); eq_refl; eq_refl; omega; omega) | ((with_reducible apply qAG); exact tyOk rfl; eq_refl; eq_refl; (focus repeat' (first | eq_refl | refine ⟨_, _, rfl, rfl, qle rfl, rfl, ?_⟩)); eq_refl)); (first | exact qAb _ | exact qAm _ _ | exact qAk _ _ _ | exact qAl _ _ _ _))) | (with_reducible first | apply qAr | apply qAq | apply qAp | apply qAj | apply qAA | apply qAK | apply qBg | apply qBw | apply qA9 | apply qAF) | ((with_reducible apply rp); first | (exact qB3 hl rfl rfl) | (exact qBA rfl rfl (tgOk rfl) e1) | (exact qBA rfl rfl (tgOk rfl) e2) | ((with_reducible apply qAe); (conv => lhs; whnf)) | ((with_reducible apply qAd); (conv => lhs; whnf)) | ((with_reducible apply qAo); exact tyOk rfl; eq_refl; eq_refl; assumption; eq_refl) | ((with_reducible apply qAz); exact tyOk rfl; eq_refl; exact tyOk rfl; (iterate 4 eq_refl); (simp only [List.length_map, List.length_append, List.length_cons, List.length_nil] at *; omega)) | ((with_reducible apply qAC); eq_refl; eq_refl) | ((with_reducible apply qC2); eq_refl; eq_refl; omega; omega) | ((with_reducible apply qAB); exact tyOk rfl; eq_refl; eq_refl) | ((with_reducible apply qAG); exact tyOk rfl; eq_refl; eq_refl; (focus repeat' (first | eq_refl | refine ⟨_, _, rfl, rfl, qle rfl, rfl, ?_⟩)); eq_refl)) | ((with_reducible apply qBI); eq_refl; eq_refl) | ((with_reducible apply qBK); eq_refl; eq_refl))
              (with_reducible apply qA8); (focus (repeat' (first | (with_reducible apply qAJ) | (with_reducible apply qAD) | ((with_reducible apply qBb); eq_refl)))); eq_refl; refine SubD.of_eq ?_
              rfl
            · rw [if_neg h3] at hb
              repeat (first | ((first | (with_reducible apply rpGT) | (with_reducible apply drGT) | (with_reducible apply qAR) | (with_reducible apply qAQ)); eq_refl; (first | exact qAE rfl | exact qAu rfl | exact qAy rfl | exact qAw rfl); (first | eq_refl | assumption | decide); (focus repeat' (first | exact trivial | exact id | apply And.intro | (intro h; (first | exact h | (simp only [Bool.and_eq_true] at h; (first | exact h.1 | exact h.1.1 | exact h.1.1.1 | exact h.2)) | (rw [h]; rfl) | (rw [zh, h]; rfl) | simp_all)))); ((first | (exact qB3 hl rfl rfl) | (exact qBA rfl rfl (tgOk rfl) e1) | (exact qBA rfl rfl (tgOk rfl) e2) | (exact qCB (m := (d : Nat)) (k := ((d - 1 : Nat) : Int)) (by omega) (by omega) (by omega) rfl rfl) | ((with_reducible first | apply qAe | apply qAd); (conv => lhs; whnf)) | ((with_reducible apply qAo); exact tyOk rfl; eq_refl; eq_refl; assumption; eq_refl) | ((with_reducible apply qAz); exact tyOk rfl; eq_refl; exact tyOk rfl; (iterate 4 eq_refl); (simp only [List.length_map, List.length_append, List.length_cons, List.length_nil] at *; omega)) | ((with_reducible first | apply qAC | apply qAB) <;> first | ((with_reducible apply tyOk); eq_refl) | eq_refl) | ((with_reducible apply qAV); eq_refl; eq_refl; omega; omega) | ((with_reducible apply qAG); exact tyOk rfl; eq_refl; eq_refl; (focus repeat' (first | eq_refl | refine ⟨_, _, rfl, rfl, qle rfl, rfl, ?_⟩)); eq_refl)); (first | exact qAb _ | exact qAm _ _ | exact qAk _ _ _ | exact qAl _ _ _ _))) | (with_reducible first | apply qAr | apply qAq | apply qAp | apply qAj | apply qAA | apply qA4 | apply qAF) | ((with_reducible apply rp); first | (exact qB3 hl rfl rfl) | (exact qBA rfl rfl (tgOk rfl) e1) | (exact qBA rfl rfl (tgOk rfl) e2) | (exact qCB (m := (d : Nat)) (k := ((d - 1 : Nat) : Int)) (by omega) (by omega) (by omega) rfl rfl) | ((with_reducible apply qAe); (conv => lhs; whnf)) | ((with_reducible apply qAd); (conv => lhs; whnf)) | ((with_reducible apply qAo); exact tyOk rfl; eq_refl; eq_refl; assumption; eq_refl) | ((with_reducible apply qAz); exact tyOk rfl; eq_refl; exact tyOk rfl; (iterate 4 eq_refl); (simp only [List.length_map, List.length_append, List.length_cons, List.length_nil] at *; omega)) | ((with_reducible apply qAC); eq_refl; eq_refl) | ((with_reducible apply qAV); eq_refl; eq_refl; omega; omega) | ((with_reducible apply qAB); exact tyOk rfl; eq_refl; eq_refl) | ((with_reducible apply qAG); exact tyOk rfl; eq_refl; eq_refl; (focus repeat' (first | eq_refl | refine ⟨_, _, rfl, rfl, qle rfl, rfl, ?_⟩)); eq_refl)) | ((with_reducible apply qAx); eq_refl; (focus (intro hd; (first | (cases hd; done) | (exfalso; simp at hd; omega)))); (intro hd; clear hd)) | ((with_reducible apply qAx); eq_refl; rotate_left; (focus (intro hd; (first | (cases hd; done) | (exfalso; simp at hd; omega)))); (intro hd; clear hd)))
              refine ⟨_, _, ?_, ?_, f, p + 1, d - 1, hb, rfl, by omega, .inl (by omega), rfl⟩
              · omega
              · refine qA7 [] (by repeat' (first | exact qAX | (refine qAN rfl (by exact SubA.refl _) ?_))) (kpX rfl) rfl (insS rfl) (insX rfl)
          · rw [if_neg h2] at hb
            have e2 := tkEq (a := t) (b := rpT) (c := false) (decide_eq_false h2)
            obtain ⟨tk, tt, tn, tb⟩ := t
            have hg : (T.map Tk.cs)[p]? = some [iD tk, strD tt, iD tn, qD tb] := hg
            have e1 : qDq [.i, .s, .i, .i] [iD tk, strD tt, iD tn, qD tb] [iD 6, strD ⟨#[40]⟩, iD 0, qD 0] = some false := e1
            have e2 : qDq [.i, .s, .i, .i] [iD tk, strD tt, iD tn, qD tb] [iD 6, strD ⟨#[41]⟩, iD 0, qD 0] = some false := e2
            clear h1 h2
            repeat (first | ((first | (with_reducible apply rpGT) | (with_reducible apply drGT) | (with_reducible apply qAR) | (with_reducible apply qAQ)); eq_refl; (first | exact qAE rfl | exact qAu rfl | exact qAy rfl | exact qAw rfl); (first | eq_refl | assumption | decide); (focus repeat' (first | exact trivial | exact id | apply And.intro | (intro h; (first | exact h | (simp only [Bool.and_eq_true] at h; (first | exact h.1 | exact h.1.1 | exact h.1.1.1 | exact h.2)) | (rw [h]; rfl) | (rw [zh, h]; rfl) | simp_all)))); ((first | (exact qB3 hl rfl rfl) | (exact qBA rfl rfl (tgOk rfl) e1) | (exact qBA rfl rfl (tgOk rfl) e2) | ((with_reducible first | apply qAe | apply qAd); (conv => lhs; whnf)) | ((with_reducible apply qAo); exact tyOk rfl; eq_refl; eq_refl; assumption; eq_refl) | ((with_reducible apply qAz); exact tyOk rfl; eq_refl; exact tyOk rfl; (iterate 4 eq_refl); (simp only [List.length_map, List.length_append, List.length_cons, List.length_nil] at *; omega)) | ((with_reducible apply qAV); eq_refl; eq_refl; omega; omega) | ((with_reducible apply qAB); exact tyOk rfl; eq_refl; eq_refl) | ((with_reducible apply qAG); exact tyOk rfl; eq_refl; eq_refl; (focus repeat' (first | eq_refl | refine ⟨_, _, rfl, rfl, qle rfl, rfl, ?_⟩)); eq_refl)); (first | exact qAb _ | exact qAm _ _ | exact qAk _ _ _ | exact qAl _ _ _ _))) | (with_reducible first | apply qAr | apply qAq | apply qAp | apply qAj | apply qAA | apply qA4 | apply qAF) | ((with_reducible apply rp); first | (exact qB3 hl rfl rfl) | (exact qBA rfl rfl (tgOk rfl) e1) | (exact qBA rfl rfl (tgOk rfl) e2) | ((with_reducible apply qAe); (conv => lhs; whnf)) | ((with_reducible apply qAd); (conv => lhs; whnf)) | ((with_reducible apply qAo); exact tyOk rfl; eq_refl; eq_refl; assumption; eq_refl) | ((with_reducible apply qAz); exact tyOk rfl; eq_refl; exact tyOk rfl; (iterate 4 eq_refl); (simp only [List.length_map, List.length_append, List.length_cons, List.length_nil] at *; omega)) | ((with_reducible apply qAV); eq_refl; eq_refl; omega; omega) | ((with_reducible apply qAB); exact tyOk rfl; eq_refl; eq_refl) | ((with_reducible apply qAG); exact tyOk rfl; eq_refl; eq_refl; (focus repeat' (first | eq_refl | refine ⟨_, _, rfl, rfl, qle rfl, rfl, ?_⟩)); eq_refl)) | ((with_reducible apply qBI); eq_refl; eq_refl) | ((with_reducible apply qBK); eq_refl; eq_refl))
            refine ⟨_, _, ?_, ?_, f, p + 1, d, hb, rfl, by omega, .inl hd2, rfl⟩
            · omega
            · refine qA7 [] (by repeat' (first | exact qAX | (refine qAN rfl (by exact SubA.refl _) ?_))) (kpX rfl) rfl (insS rfl) (insX rfl)
end Go.Proofs.YtlpnnnmdkglkcaaDoor

