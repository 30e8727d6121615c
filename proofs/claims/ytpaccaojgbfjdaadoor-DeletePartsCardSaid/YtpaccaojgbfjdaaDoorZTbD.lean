/-
  chirograph/table: Delete as a contract, where the condition fails in no row. No condition but that the table and the expression may be.
-/
import Derived.Test.YtpaccaojgbfjdaaDoorZTbH
import Derived.Test.YtpaccaojgbfjdaaDoorZTb4
set_option linter.unusedSimpArgs false
set_option linter.unusedVariables false
namespace Go.Proofs.YtpaccaojgbfjdaaDoor
open Go.RowKit

theorem qFQ : ∀ {a b c d : List D}, qBC a b → qBC c d → qBC (a ++ c) (b ++ d)
  | [], b, c, d, h, h2 => by
    have h : b = [] := h
    subst h
    exact h2
  | x :: a, b, c, d, h, h2 => by
    obtain ⟨y, ys, rfl, h3, h4, h5⟩ := h
    exact ⟨y, ys ++ d, rfl, h3, h4, qFQ h5 h2⟩
theorem subDs_take : ∀ {a b : List D} (n : Nat), qBC a b → qBC (a.take n) (b.take n)
  | a, b, 0, _ => rfl
  | [], b, n + 1, h => by
    have h : b = [] := h
    subst h
    rfl
  | x :: a, b, n + 1, h => by
    obtain ⟨y, ys, rfl, h3, h4, h5⟩ := h
    exact ⟨y, ys.take n, rfl, h3, h4, subDs_take n h5⟩
theorem subDs_drop : ∀ {a b : List D} (n : Nat), qBC a b → qBC (a.drop n) (b.drop n)
  | a, b, 0, h => h
  | [], b, n + 1, h => by
    have h : b = [] := h
    subst h
    rfl
  | x :: a, b, n + 1, h => by
    obtain ⟨y, ys, rfl, _, _, h5⟩ := h
    exact subDs_drop n h5
theorem subDs_put {a b vs ws : List D} (h : qBC a b) (h2 : qBC vs ws) (hl : vs.length = ws.length) (o : Nat) : qBC (qBI a o vs) (qBI b o ws) := by
  unfold qBI
  rw [hl]
  exact qFQ (qFQ (subDs_take o h) h2) (subDs_drop _ h)
theorem putAt_map {α β : Type} (f : α → β) (l vs : List α) (o : Nat) : qBI (l.map f) o (vs.map f) = (qBI l o vs).map f := by
  unfold qBI
  rw [List.map_append, List.map_append, List.map_take, List.map_drop, List.length_map]
theorem flat_set : ∀ (d : List Ce) (k : Nat) (c : Ce), k < d.length → (d.set k c).flatMap Ce.cs = qBI (d.flatMap Ce.cs) (k * 2) c.cs
  | [], k, c, h => absurd h (by simp)
  | e :: d, 0, c, _ => rfl
  | e :: d, k + 1, c, h => by
    have ih := flat_set d k c (by simpa using h)
    show e.cs ++ (d.set k c).flatMap Ce.cs = qBI (e.cs ++ d.flatMap Ce.cs) ((k + 1) * 2) c.cs
    have := qEy e.cs (d.flatMap Ce.cs) [] c.cs (k * 2) (by
      rw [qBJ]
      have : c.cs.length = 2 := rfl
      have h2 : k < d.length := by simpa using h
      omega)
    rw [List.append_nil, List.append_nil] at this
    rw [show (k + 1) * 2 = e.cs.length + k * 2 by show _ = 2 + k * 2; omega, this, ih]
def Tb.dr (t : Tb) (i : Nat) (d : List Ce) : Tb := if i = 0 then { t with a := d } else { t with b := d }
theorem dr_set (t : Tb) (i : Nat) (hi : i < 2) (d : List Ce) (k : Nat) (c : Ce) (hk : k < d.length) (ha : i = 1 → t.a.length = 4) : (t.dr i (d.set k c)).cs = qBI (t.dr i d).cs (3 + i * 8 + k * 2) c.cs := by
  have hc : c.cs.length = 2 := rfl
  have hb : k * 2 + c.cs.length ≤ (d.flatMap Ce.cs).length := by rw [qBJ, hc]; omega
  rcases (by omega : i = 0 ∨ i = 1) with rfl | rfl
  · unfold Tb.dr
    rw [if_pos rfl, if_pos rfl]
    unfold Tb.cs
    dsimp only
    rw [flat_set d k c hk, show 3 + 0 * 8 + k * 2 = [bD true, strD t.name, qAY t.cols].length + k * 2 by show _ = 3 + k * 2; omega, qEy _ _ _ _ _ hb]
  · unfold Tb.dr
    rw [if_neg (by decide), if_neg (by decide)]
    unfold Tb.cs
    dsimp only
    have hla : ([bD true, strD t.name, qAY t.cols] ++ t.a.flatMap Ce.cs).length = 11 := by rw [List.length_append, qBJ, ha rfl]; rfl
    have := qEy ([bD true, strD t.name, qAY t.cols] ++ t.a.flatMap Ce.cs) (d.flatMap Ce.cs) [] c.cs (k * 2) hb
    rw [List.append_nil, List.append_nil, hla, List.append_assoc, List.append_assoc] at this
    rw [flat_set d k c hk, show 3 + 1 * 8 + k * 2 = 11 + k * 2 by omega, this]
def goB (y : List Vl → Bool) (c : Ce) : Bool := c.full && y c.row
def delC (y : List Vl → Bool) (c : Ce) : Ce := if goB y c = true then ⟨false, []⟩ else c
def delD (y : List Vl → Bool) (d : List Ce) (k : Nat) : List Ce := (d.take k).map (delC y) ++ d.drop k
def delN (y : List Vl → Bool) (d : List Ce) (k : Nat) : Nat := ((d.take k).filter (goB y)).length
def delL (y : List Vl → Bool) (d : List Ce) (i : Nat) (L : List D) : Nat → List D
  | 0 => L
  | k + 1 => if goB y (d.getD k ⟨false, []⟩) = true then qBI (delL y d i L k) (3 + i * 8 + k * 2) [bD false, .nl] else delL y d i L k
theorem delD_len (y : List Vl → Bool) (d : List Ce) (k : Nat) : (delD y d k).length = d.length := by
  unfold delD
  rw [List.length_append, List.length_map, List.length_take, List.length_drop]
  omega
theorem delD_succ (y : List Vl → Bool) {d : List Ce} {k : Nat} {c : Ce} (h : d[k]? = some c) : delD y d (k + 1) = (delD y d k).set k (delC y c) ∧ (delC y c = c → delD y d (k + 1) = delD y d k) := by
  obtain ⟨hlt, hc⟩ := List.getElem?_eq_some_iff.1 h
  have hd : d.drop k = c :: d.drop (k + 1) := by rw [List.drop_eq_getElem_cons hlt, hc]
  have hl : ((d.take k).map (delC y)).length = k := by rw [List.length_map, List.length_take]; omega
  have e1 : delD y d (k + 1) = (d.take k).map (delC y) ++ delC y c :: d.drop (k + 1) := by
    unfold delD
    rw [List.take_add_one, h, List.map_append, List.append_assoc]
    rfl
  constructor
  · rw [e1]
    unfold delD
    rw [hd, List.set_append, if_neg (by omega), hl, Nat.sub_self]
    rfl
  · intro hcc
    rw [e1, hcc]
    unfold delD
    rw [hd]
theorem delN_succ (y : List Vl → Bool) {d : List Ce} {k : Nat} {c : Ce} (h : d[k]? = some c) : delN y d (k + 1) = delN y d k + if goB y c = true then 1 else 0 := by
  unfold delN
  rw [List.take_add_one, h, List.filter_append, List.length_append]
  congr 1
  show (List.filter (goB y) [c]).length = _
  cases hg : goB y c with
  | true => rw [List.filter_cons_of_pos hg]; rfl
  | false => rw [List.filter_cons_of_neg (by rw [hg]; decide)]; rfl
theorem qF6 {α : Type} {l vs : List α} {o p : Nat} (h : o + vs.length ≤ l.length) (hp : p < o ∨ o + vs.length ≤ p) : (qBI l o vs)[p]? = l[p]? := by
  unfold qBI
  rcases hp with hp | hp
  · rw [List.append_assoc, List.getElem?_append_left (by rw [List.length_take]; omega), List.getElem?_take, if_pos hp]
  · rw [List.getElem?_append_right (by rw [List.length_append, List.length_take]; omega), List.getElem?_drop, List.length_append, List.length_take]
    congr 1
    omega
theorem get_mid {l1 l2 l3 : List D} {n p q : Nat} (h1 : l1.length = n) (hp : p < l2.length) (hq : n + p = q) : (l1 ++ (l2 ++ l3))[q]? = l2[p]? := by
  subst h1
  subst hq
  rw [List.getElem?_append_right (by omega), Nat.add_sub_cancel_left, List.getElem?_append_left hp]
theorem get_end {l1 l2 l3 : List D} {n m p q : Nat} (h1 : l1.length = n) (h2 : l2.length = m) (hq : n + m + p = q) : (l1 ++ (l2 ++ l3))[q]? = l3[p]? := by
  subst h1
  subst h2
  subst hq
  rw [List.getElem?_append_right (by omega), List.getElem?_append_right (by omega)]
  congr 1
  omega
theorem cs_get {t : Tb} (h : TbOk t) {i : Nat} (hi : i < 2) {k : Nat} {c : Ce} (hc : (drF t.a t.b i)[k]? = some c) : t.cs[3 + i * 8 + k * 2]? = some (bD c.full) ∧ t.cs[3 + i * 8 + k * 2 + 1]? = some (qBz c.row) := by
  have hget : ∀ (d : List Ce), d[k]? = some c → (d.flatMap Ce.cs)[k * 2]? = some (bD c.full) ∧ (d.flatMap Ce.cs)[k * 2 + 1]? = some (qBz c.row) := fun d hd => by
    have := qFn d k c hd
    have h0 := congrArg (·[0]?) this
    have h1 := congrArg (·[1]?) this
    simp only [List.getElem?_take, List.getElem?_drop] at h0 h1
    rw [if_pos (by omega)] at h0 h1
    exact ⟨h0, h1⟩
  have la := h.a.len
  have e : [bD true, strD t.name, qAY t.cols].length = 3 := rfl
  unfold Tb.cs
  rcases (by omega : i = 0 ∨ i = 1) with rfl | rfl
  · obtain ⟨h0, h1⟩ := hget t.a hc
    have hk : k < t.a.length := (List.getElem?_eq_some_iff.1 hc).1
    exact ⟨(get_mid e (p := k * 2) (by rw [qBJ]; omega) (by omega)).trans h0, (get_mid e (p := k * 2 + 1) (by rw [qBJ]; omega) (by omega)).trans h1⟩
  · obtain ⟨h0, h1⟩ := hget t.b hc
    have l8 : (t.a.flatMap Ce.cs).length = 8 := by rw [qBJ, la]
    exact ⟨(get_end e l8 (p := k * 2) (by omega)).trans h0, (get_end e l8 (p := k * 2 + 1) (by omega)).trans h1⟩
theorem qEO (y : List Vl → Bool) {t : Tb} (h : TbOk t) {i : Nat} (hi : i < 2) : ∀ k, k ≤ 4 → (delL y (drF t.a t.b i) i t.cs k).length = 19 ∧ (delL y (drF t.a t.b i) i t.cs k)[2]? = some (qAY t.cols) ∧
    (∀ j c, k ≤ j → (drF t.a t.b i)[j]? = some c → (delL y (drF t.a t.b i) i t.cs k)[3 + i * 8 + j * 2]? = some (bD c.full) ∧ (delL y (drF t.a t.b i) i t.cs k)[3 + i * 8 + j * 2 + 1]? = some (qBz c.row)) ∧
    qBC (delL y (drF t.a t.b i) i t.cs k) (t.dr i (delD y (drF t.a t.b i) k)).cs
  | 0, _ => by
    refine ⟨Tb.len h, rfl, fun j c _ hc => cs_get h hi hc, ?_⟩
    have e : t.dr i (delD y (drF t.a t.b i) 0) = t := by
      show t.dr i (drF t.a t.b i) = t
      unfold Tb.dr drF
      split <;> rfl
    rw [e]
    exact qBC.refl _
  | k + 1, hk => by
    obtain ⟨h1, h2, h3, h4⟩ := qEO y h hi k (by omega)
    have hdl : (drF t.a t.b i).length = 4 := by
      unfold drF
      split
      · exact h.a.len
      · exact h.b.len
    obtain ⟨c, hc⟩ : ∃ c, (drF t.a t.b i)[k]? = some c := ⟨_, List.getElem?_eq_getElem (by omega)⟩
    have hg : (drF t.a t.b i).getD k ⟨false, []⟩ = c := by rw [List.getD_eq_getElem?_getD, hc]; rfl
    obtain ⟨s1, s2⟩ := delD_succ y hc
    unfold delL
    rw [hg]
    split
    · rename_i hgo
      have hv : [bD false, D.nl].length = 2 := rfl
      have hin : 3 + i * 8 + k * 2 + [bD false, D.nl].length ≤ (delL y (drF t.a t.b i) i t.cs k).length := by rw [h1, hv]; omega
      refine ⟨by rw [qCo hin]; exact h1, by rw [qF6 hin (.inl (by omega))]; exact h2, fun j e hj he => ?_, ?_⟩
      · rw [qF6 hin (.inr (by rw [hv]; omega)), qF6 hin (.inr (by rw [hv]; omega))]
        exact h3 j e (by omega) he
      · have hdc : delC y c = ⟨false, []⟩ := by unfold delC; rw [if_pos hgo]
        rw [s1, hdc, dr_set t i hi _ k _ (by rw [delD_len]; omega) (fun _ => h.a.len)]
        exact subDs_put h4 (qBC.cons (SubD.refl _) id (qBC.cons (SubD.nil _) (fun _ => rfl) qBC.nil)) rfl _
    · rename_i hgo
      refine ⟨h1, h2, fun j e hj he => h3 j e (by omega) he, ?_⟩
      rw [s2 (by unfold delC; rw [if_neg hgo])]
      exact h4
end Go.Proofs.YtpaccaojgbfjdaaDoor

