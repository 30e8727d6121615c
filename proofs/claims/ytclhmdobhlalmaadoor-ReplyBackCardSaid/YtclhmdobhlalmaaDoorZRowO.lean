/-
  The order of rows is that of their bytes. Plain laws.
-/
import Derived.Test.YtclhmdobhlalmaaDoorZByO
import Derived.Test.YtclhmdobhlalmaaDoorZVal2
import Derived.Test.YtclhmdobhlalmaaDoorZOrderTurns
namespace Go.Proofs.YtclhmdobhlalmaaDoor
set_option linter.unusedSimpArgs false
set_option linter.unusedVariables false

theorem Gd.num {v : Vl} (h : Gd v) : (v.k = 1 → v.n = 0 ∨ v.n = 1) ∧ (v.k ≠ 1 → v.k ≠ 2 → v.n = 0) ∧ 0 ≤ v.k ∧ v.k ≤ 4 := by
  cases h with
  | null => exact ⟨fun h => absurd h (by show ¬ (0 : Int) = 1; decide), fun _ _ => rfl, (by show (0 : Int) ≤ 0; decide), (by show (0 : Int) ≤ 4; decide)⟩
  | bool n h => exact ⟨fun _ => h, fun h => absurd rfl h, (by show (0 : Int) ≤ 1; decide), (by show (1 : Int) ≤ 4; decide)⟩
  | int n => exact ⟨fun h => absurd h (by show ¬ (2 : Int) = 1; decide), fun _ h => absurd rfl h, (by show (0 : Int) ≤ 2; decide), (by show (2 : Int) ≤ 4; decide)⟩
  | real b h1 h2 h3 => exact ⟨fun h => absurd h (by show ¬ (3 : Int) = 1; decide), fun _ _ => rfl, (by show (0 : Int) ≤ 3; decide), (by show (3 : Int) ≤ 4; decide)⟩
  | text t h1 h2 => exact ⟨fun h => absurd h (by show ¬ (4 : Int) = 1; decide), fun _ _ => rfl, (by show (0 : Int) ≤ 4; decide), (by show (4 : Int) ≤ 4; decide)⟩
theorem lowB_nat {n : Int} (h0 : 0 ≤ n) (h1 : n < 256) : ((lowB n).toNat : Int) = n := by
  unfold lowB
  rw [UInt8.toNat_ofNat']
  generalize hm : n % 256 = m
  show ((m.toNat % 256 : Nat) : Int) = n
  omega
theorem one_1 {v : Vl} (h : v.k = 1) : oneF v = [lowB (v.k + 1), lowB v.n] := by unfold oneF; rw [if_pos h]
theorem one_2 {v : Vl} (h : v.k = 2) : oneF v = lowB (v.k + 1) :: eightB (lowL v.n ^^^ topU) := by unfold oneF; rw [if_neg (by omega), if_pos h]
theorem one_3 {v : Vl} (h : v.k = 3) : oneF v = lowB (v.k + 1) :: eightB (turnF (UInt64.ofNat v.b)) := by unfold oneF; rw [if_neg (by omega), if_neg (by omega), if_pos h]
theorem one_4 {v : Vl} (h : v.k = 4) : oneF v = lowB (v.k + 1) :: (escF v.t.data.toList ++ [0, 1]) := by unfold oneF; rw [if_neg (by omega), if_neg (by omega), if_neg (by omega), if_pos h]
theorem less_lt {a b : Vl} (ha : Gi a) (hb : Gi b) (h : lessV a b = true) : LtB (oneF a) (oneF b) := by
  obtain ⟨ga, na⟩ := ha
  obtain ⟨gb, nb⟩ := hb
  obtain ⟨a1, a2, a3, a4⟩ := ga.num
  obtain ⟨b1, b2, b3, b4⟩ := gb.num
  rcases (less_iff ga gb).1 h with hk | ⟨hk, hi⟩
  · have e1 := lowB_nat (n := a.k + 1) (by omega) (by omega)
    have e2 := lowB_nat (n := b.k + 1) (by omega) (by omega)
    unfold oneF
    exact LtB.head (by omega)
  · unfold inn at hi
    by_cases k3 : a.k = 3
    · rw [if_pos k3] at hi
      have k3b : b.k = 3 := by omega
      rw [one_3 k3, one_3 k3b, hk]
      exact (eightB_lt (turn_mono (ga.fin k3).1 (gb.fin k3b).1 hi)).cons _
    · rw [if_neg k3] at hi
      by_cases k4 : a.k = 4
      · rw [if_pos k4] at hi
        rw [one_4 k4, one_4 (by omega), hk]
        have e : ∀ z : ByteArray, z.toList = z.data.toList := fun z => ByteArray.toList_eq z
        rw [e, e] at hi
        exact (esc_lt _ _ hi).cons _
      · rw [if_neg k4] at hi
        by_cases k2 : a.k = 2
        · have k2b : b.k = 2 := by omega
          rw [one_2 k2, one_2 k2b, hk]
          have x1 := low_top (na k2).1 (na k2).2
          have x2 := low_top (nb k2b).1 (nb k2b).2
          exact (eightB_lt (by omega)).cons _
        · by_cases k1 : a.k = 1
          · have k1b : b.k = 1 := by omega
            rw [one_1 k1, one_1 k1b, hk]
            have y1 := a1 k1
            have y2 := b1 k1b
            have e1 := lowB_nat (n := a.n) (by omega) (by omega)
            have e2 := lowB_nat (n := b.n) (by omega) (by omega)
            exact (LtB.head (by omega)).cons _
          · have := a2 k1 k2
            have := b2 (by omega) (by omega)
            omega
theorem flip_true {l : List UInt8} {b : Bool} (h : b = true) : l.map (flipB b) = l.map fun c => 255 ^^^ c := by subst h; rfl
theorem flip_false {l : List UInt8} {b : Bool} (h : b = false) : l.map (flipB b) = l := by
  subst h
  have : (flipB false) = id := by funext c; rfl
  rw [this, List.map_id]
/-- What two values tell in a column. -/
def colO (d : Int) (i : Nat) (v w : Vl) : Int := if opnB d i = true then -ordV v w else ordV v w
def cmpF (d : Int) : Nat → List Vl → List Vl → Int
  | i, v :: l, w :: m => if ordV v w = 0 then cmpF d (i + 1) l m else colO d i v w
  | _, _, _ => 0
theorem cmpF_app (d : Int) (v w : Vl) : ∀ (i : Nat) (l m : List Vl), l.length = m.length → cmpF d i (l ++ [v]) (m ++ [w]) = if cmpF d i l m = 0 then colO d (i + l.length) v w else cmpF d i l m
  | i, [], [], _ => by
    show (if ordV v w = 0 then cmpF d (i + 1) [] [] else colO d i v w) = if (0 : Int) = 0 then colO d (i + 0) v w else 0
    rw [if_pos rfl]
    split
    · rename_i h
      show (0 : Int) = colO d i v w
      unfold colO
      rw [h]
      split <;> rfl
    · rfl
  | i, x :: l, y :: m, h => by
    have h : l.length = m.length := by simpa using h
    show (if ordV x y = 0 then cmpF d (i + 1) (l ++ [v]) (m ++ [w]) else colO d i x y) = if (if ordV x y = 0 then cmpF d (i + 1) l m else colO d i x y) = 0 then colO d (i + (l.length + 1)) v w else (if ordV x y = 0 then cmpF d (i + 1) l m else colO d i x y)
    by_cases hz : ordV x y = 0
    · rw [if_pos hz, if_pos hz, cmpF_app d v w (i + 1) l m h, show i + 1 + l.length = i + (l.length + 1) by omega]
    · rw [if_neg hz, if_neg hz, if_neg]
      unfold colO
      split <;> omega
theorem cmpF_take (d : Int) {l m : List Vl} {k : Nat} {v w : Vl} (hlm : l.length = m.length) (hv : l[k]? = some v) (hw : m[k]? = some w) : cmpF d 0 (l.take (k + 1)) (m.take (k + 1)) = if cmpF d 0 (l.take k) (m.take k) = 0 then colO d k v w else cmpF d 0 (l.take k) (m.take k) := by
  have hk : k < l.length := (List.getElem?_eq_some_iff.1 hv).1
  have e1 : l.take (k + 1) = l.take k ++ [v] := by rw [List.take_add_one, hv]; rfl
  have e2 : m.take (k + 1) = m.take k ++ [w] := by rw [List.take_add_one, hw]; rfl
  rw [e1, e2, cmpF_app d v w 0 _ _ (by rw [List.length_take, List.length_take]; omega), List.length_take, Nat.min_eq_left (by omega), Nat.zero_add]
theorem cmpF_law (d : Int) : ∀ (i : Nat) (l m : List Vl), l.length = m.length → (∀ v ∈ l, Gi v) → (∀ v ∈ m, Gi v) → (cmpF d i l m = 0 ∧ l = m) ∨ (cmpF d i l m = -1 ∧ LtB (encF d i l) (encF d i m)) ∨ (cmpF d i l m = 1 ∧ LtB (encF d i m) (encF d i l))
  | i, [], [], _, _, _ => .inl ⟨rfl, rfl⟩
  | i, v :: l, w :: m, h, hl, hm => by
    have h : l.length = m.length := by simpa using h
    have gv := hl v List.mem_cons_self
    have gw := hm w List.mem_cons_self
    have ih := cmpF_law d (i + 1) l m h (fun x hx => hl x (List.mem_cons_of_mem _ hx)) (fun x hx => hm x (List.mem_cons_of_mem _ hx))
    have ec : cmpF d i (v :: l) (w :: m) = if ordV v w = 0 then cmpF d (i + 1) l m else colO d i v w := rfl
    rw [ec]
    show (_ ∧ _) ∨ (_ ∧ LtB ((oneF v).map (flipB (opnB d i)) ++ encF d (i + 1) l) ((oneF w).map (flipB (opnB d i)) ++ encF d (i + 1) m)) ∨ (_ ∧ LtB ((oneF w).map (flipB (opnB d i)) ++ encF d (i + 1) m) ((oneF v).map (flipB (opnB d i)) ++ encF d (i + 1) l))
    rcases ord_in v w with ho | ho | ho
    · have hlt := less_lt gv gw ((ord_neg gv.1 gw.1).1 ho)
      rw [if_neg (by omega)]
      unfold colO
      cases hb : opnB d i with
      | true =>
        rw [if_pos rfl, flip_true rfl, flip_true rfl]
        exact .inr (.inr ⟨by omega, hlt.flip.tail _ _⟩)
      | false =>
        rw [if_neg (by decide), flip_false rfl, flip_false rfl]
        exact .inr (.inl ⟨ho, hlt.tail _ _⟩)
    · rw [if_pos ho]
      obtain rfl := (ord_zero gv.1 gw.1).1 ho
      rcases ih with ⟨h1, rfl⟩ | ⟨h1, h2⟩ | ⟨h1, h2⟩
      · exact .inl ⟨h1, rfl⟩
      · exact .inr (.inl ⟨h1, h2.pre _⟩)
      · exact .inr (.inr ⟨h1, h2.pre _⟩)
    · have hlt := less_lt gw gv ((ord_pos gv.1 gw.1).1 ho)
      rw [if_neg (by omega)]
      unfold colO
      cases hb : opnB d i with
      | true =>
        rw [if_pos rfl, flip_true rfl, flip_true rfl]
        exact .inr (.inl ⟨by omega, hlt.flip.tail _ _⟩)
      | false =>
        rw [if_neg (by decide), flip_false rfl, flip_false rfl]
        exact .inr (.inr ⟨ho, hlt.tail _ _⟩)
/-- Bytes stand as the rows stand. -/
theorem row_order (d : Int) (l m : List Vl) (h : l.length = m.length) (hl : ∀ v ∈ l, Gi v) (hm : ∀ v ∈ m, Gi v) :
    (Op.bytesLess (encF d 0 l) (encF d 0 m) == decide (cmpF d 0 l m < 0)) = true ∧ ((encF d 0 l == encF d 0 m) == (cmpF d 0 l m == 0)) = true := by
  rcases cmpF_law d 0 l m h hl hm with ⟨h1, rfl⟩ | ⟨h1, h2⟩ | ⟨h1, h2⟩
  · rw [h1, bl_irr, beq_self_eq_true]
    exact ⟨rfl, rfl⟩
  · rw [h1, h2.less, beq_eq_false_iff_ne.2 h2.ne]
    exact ⟨rfl, rfl⟩
  · rw [h1, h2.not, beq_eq_false_iff_ne.2 h2.ne.symm]
    exact ⟨rfl, rfl⟩
end Go.Proofs.YtclhmdobhlalmaaDoor
