/-
  chirograph/table: Delete as a contract, where the condition fails in no row. No condition but that the table and the expression may be.
-/
import Derived.Test.YtpaccaojgbfjdaaDoorZTbH
import Derived.Test.YtpaccaojgbfjdaaDoorZT
import Derived.Test.YtpaccaojgbfjdaaDoorZU
set_option linter.unusedSimpArgs false
set_option linter.unusedVariables false
namespace Go.Proofs.YtpaccaojgbfjdaaDoor
open Go.RowKit

theorem flat_set : ∀ (d : List Ce) (k : Nat) (c : Ce), k < d.length → (d.set k c).flatMap Ce.cs = qBT (d.flatMap Ce.cs) (k * 2) c.cs
  | [], k, c, h => absurd h (by simp)
  | e :: d, 0, c, _ => rfl
  | e :: d, k + 1, c, h => by
    have ih := flat_set d k c (by simpa using h)
    show e.cs ++ (d.set k c).flatMap Ce.cs = qBT (e.cs ++ d.flatMap Ce.cs) ((k + 1) * 2) c.cs
    have := qEk e.cs (d.flatMap Ce.cs) [] c.cs (k * 2) (by
      rw [qBA]
      have : c.cs.length = 2 := rfl
      have h2 : k < d.length := by simpa using h
      omega)
    rw [List.append_nil, List.append_nil] at this
    rw [show (k + 1) * 2 = e.cs.length + k * 2 by show _ = 2 + k * 2; omega, this, ih]
def Tb.dr (t : Tb) (i : Nat) (d : List Ce) : Tb := if i = 0 then { t with a := d } else { t with b := d }
theorem dr_set (t : Tb) (i : Nat) (hi : i < 2) (d : List Ce) (k : Nat) (c : Ce) (hk : k < d.length) (ha : i = 1 → t.a.length = 4) : (t.dr i (d.set k c)).cs = qBT (t.dr i d).cs (3 + i * 8 + k * 2) c.cs := by
  have hc : c.cs.length = 2 := rfl
  have hb : k * 2 + c.cs.length ≤ (d.flatMap Ce.cs).length := by rw [qBA, hc]; omega
  rcases (by omega : i = 0 ∨ i = 1) with rfl | rfl
  · unfold Tb.dr
    rw [if_pos rfl, if_pos rfl]
    unfold Tb.cs
    dsimp only
    rw [flat_set d k c hk, show 3 + 0 * 8 + k * 2 = [bD true, strD t.name, qAW t.cols].length + k * 2 by show _ = 3 + k * 2; omega, qEk _ _ _ _ _ hb]
  · unfold Tb.dr
    rw [if_neg (by decide), if_neg (by decide)]
    unfold Tb.cs
    dsimp only
    have hla : ([bD true, strD t.name, qAW t.cols] ++ t.a.flatMap Ce.cs).length = 11 := by rw [List.length_append, qBA, ha rfl]; rfl
    have := qEk ([bD true, strD t.name, qAW t.cols] ++ t.a.flatMap Ce.cs) (d.flatMap Ce.cs) [] c.cs (k * 2) hb
    rw [List.append_nil, List.append_nil, hla, List.append_assoc, List.append_assoc] at this
    rw [flat_set d k c hk, show 3 + 1 * 8 + k * 2 = 11 + k * 2 by omega, this]
def goB (y : List Vl → Bool) (c : Ce) : Bool := c.full && y c.row
def delN (y : List Vl → Bool) (d : List Ce) (k : Nat) : Nat := ((d.take k).filter (goB y)).length
theorem delN_succ (y : List Vl → Bool) {d : List Ce} {k : Nat} {c : Ce} (h : d[k]? = some c) : delN y d (k + 1) = delN y d k + if goB y c = true then 1 else 0 := by
  unfold delN
  rw [List.take_add_one, h, List.filter_append, List.length_append]
  congr 1
  show (List.filter (goB y) [c]).length = _
  cases hg : goB y c with
  | true => rw [List.filter_cons_of_pos hg]; rfl
  | false => rw [List.filter_cons_of_neg (by rw [hg]; decide)]; rfl
theorem putAt_get {α : Type} {l vs : List α} {o p : Nat} (h : o + vs.length ≤ l.length) (hp : p < o ∨ o + vs.length ≤ p) : (qBT l o vs)[p]? = l[p]? := by
  unfold qBT
  rcases hp with hp | hp
  · rw [List.append_assoc, List.getElem?_append_left (by rw [List.length_take]; omega), List.getElem?_take, if_pos hp]
  · rw [List.getElem?_append_right (by rw [List.length_append, List.length_take]; omega), List.getElem?_drop, List.length_append, List.length_take]
    congr 1
    omega
theorem get_mid {l1 l2 l3 : List D} {n p q : Nat} (h1 : l1.length = n) (hp : p < l2.length) (hq : n + p = q) : (l1 ++ (l2 ++ l3))[q]? = l2[p]? := by
  subst h1
  subst hq
  rw [List.getElem?_append_right (by omega), Nat.add_sub_cancel_left, List.getElem?_append_left hp]
theorem get_end {l1 l2 l3 : List D} {n m p q : Nat} (h1 : l1.length = n) (h2 : l2.length = m) (hq : n + m + p = q) : (l1 ++ (l2 ++ l3))[q]? = l3[p]? := by
  subst h1
  subst h2
  subst hq
  rw [List.getElem?_append_right (by omega), List.getElem?_append_right (by omega)]
  congr 1
  omega
end Go.Proofs.YtpaccaojgbfjdaaDoor


/-
  Rows that go and rows that stay are all. No program in sight.
-/
namespace Go.Proofs.YtpaccaojgbfjdaaDoor
open Go.RowKit

end Go.Proofs.YtpaccaojgbfjdaaDoor


/-
  What an update makes of a drawer. No program in sight.
-/
namespace Go.Proofs.YtpaccaojgbfjdaaDoor
open Go.RowKit

def key3 (r : List Vl) : List Vl := numV (3 * keyN r + 1) :: r.tail
def keyU (y : List Vl → Bool) (r : List Vl) : Int := if y r = true then 3 * keyN r + 1 else keyN r
def updC (y : List Vl → Bool) (c : Ce) : Ce := if goB y c = true then ⟨true, key3 c.row⟩ else c
def updD (y : List Vl → Bool) (d : List Ce) (k : Nat) : List Ce := (d.take k).map (updC y) ++ d.drop k
def errF (ev : List Vl → Nat) : List Ce → Nat
  | [] => 0
  | c :: d => if c.full = true ∧ ev c.row ≠ 0 then ev c.row else errF ev d
def Apart (d : List Ce) : Prop := d.Pairwise fun c e => c.full = true → e.full = true → keyN c.row ≠ keyN e.row
theorem updD_len (y : List Vl → Bool) (d : List Ce) (k : Nat) : (updD y d k).length = d.length := by
  unfold updD
  rw [List.length_append, List.length_map, List.length_take, List.length_drop]
  omega
theorem updD_all (y : List Vl → Bool) {d : List Ce} (h : d.length = 4) : updD y d 4 = d.map (updC y) := by
  unfold updD
  rw [List.take_of_length_le (by omega), List.drop_eq_nil_of_le (by omega), List.append_nil]
theorem updD_succ (y : List Vl → Bool) {d : List Ce} {k : Nat} {c : Ce} (h : d[k]? = some c) : updD y d (k + 1) = (updD y d k).set k (updC y c) ∧ (updC y c = c → updD y d (k + 1) = updD y d k) ∧ (updD y d k)[k]? = some c := by
  obtain ⟨hlt, hc⟩ := List.getElem?_eq_some_iff.1 h
  have hd : d.drop k = c :: d.drop (k + 1) := by rw [List.drop_eq_getElem_cons hlt, hc]
  have hl : ((d.take k).map (updC y)).length = k := by rw [List.length_map, List.length_take]; omega
  have e1 : updD y d (k + 1) = (d.take k).map (updC y) ++ updC y c :: d.drop (k + 1) := by
    unfold updD
    rw [List.take_add_one, h, List.map_append, List.append_assoc]
    rfl
  refine ⟨?_, ?_, ?_⟩
  · rw [e1]
    unfold updD
    rw [hd, List.set_append, if_neg (by omega), hl, Nat.sub_self]
    rfl
  · intro hcc
    rw [e1, hcc]
    unfold updD
    rw [hd]
  · unfold updD
    rw [List.getElem?_append_right (by omega), hl, Nat.sub_self, hd]
    rfl
theorem errF_drop (ev : List Vl → Nat) {d : List Ce} {k : Nat} {c : Ce} (h : d[k]? = some c) : errF ev (d.drop k) = if c.full = true ∧ ev c.row ≠ 0 then ev c.row else errF ev (d.drop (k + 1)) := by
  obtain ⟨hlt, hc⟩ := List.getElem?_eq_some_iff.1 h
  rw [List.drop_eq_getElem_cons hlt, hc]
  rfl
theorem errF_zero (ev : List Vl → Nat) : ∀ d : List Ce, errF ev d = 0 ↔ ∀ c ∈ d, c.full = true → ev c.row = 0
  | [] => ⟨fun _ c h => absurd h List.not_mem_nil, fun _ => rfl⟩
  | c :: d => by
    unfold errF
    split
    · rename_i h
      exact ⟨fun h2 => absurd h2 h.2, fun h2 => absurd (h2 c List.mem_cons_self h.1) h.2⟩
    · rename_i h
      rw [errF_zero ev d]
      constructor
      · intro h2 e he hf
        rcases List.mem_cons.1 he with rfl | he
        · exact Decidable.byContradiction fun hn => h ⟨hf, hn⟩
        · exact h2 e he hf
      · exact fun h2 e he => h2 e (List.mem_cons_of_mem _ he)
theorem qDW {y : List Vl → Bool} {c : Ce} : (updC y c).full = c.full := by
  unfold updC goB
  split
  · rename_i h
    rw [Bool.and_eq_true] at h
    exact h.1.symm
  · rfl
theorem upd_key {y : List Vl → Bool} {c : Ce} (h : c.full = true) : keyN (updC y c).row = keyU y c.row := by
  unfold updC goB keyU
  rw [h, Bool.true_and]
  split <;> rfl
theorem key3_fit {cols : List Cl} {r : List Vl} (hk : ∃ n l, cols = ⟨n, 2, false⟩ :: l) (h : FitR r cols) : FitR (key3 r) cols := by
  obtain ⟨k, l, rfl⟩ := qCm h hk
  obtain ⟨n, cl, rfl⟩ := hk
  refine ⟨h.len, fun i v c hv hc => ?_⟩
  cases i with
  | zero =>
    injection hv with hv
    injection hc with hc
    subst hv hc
    exact ⟨.int _, .inl rfl⟩
  | succ i => exact h.fit (i + 1) v c hv hc
theorem upd_ok {cols : List Cl} {d : List Ce} (hk : ∃ n l, cols = ⟨n, 2, false⟩ :: l) (h : DrOk cols d) (y : List Vl → Bool) (ha : Apart (d.map (updC y))) : DrOk cols (d.map (updC y)) := by
  refine ⟨by rw [List.length_map]; exact h.len, fun c hc => ?_, ha⟩
  obtain ⟨e, he, rfl⟩ := List.mem_map.1 hc
  have ho := h.ok e he
  refine ⟨fun hf => ?_, fun hf => ?_⟩
  · rw [qDW] at hf
    unfold updC
    split
    · exact key3_fit hk (ho.fit hf)
    · exact ho.fit hf
  · rw [qDW] at hf
    unfold updC goB
    rw [hf, Bool.false_and, if_neg (by decide)]
    exact ho.none hf
theorem apart_iff (d : List Ce) : Apart d ↔ ((d.filter fun c => c.full).map fun c => keyN c.row).Nodup := by
  unfold Apart List.Nodup
  rw [List.pairwise_map, List.pairwise_filter]
theorem qFZ {cols : List Cl} {d : List Ce} (h : DrOk cols d) : (qBW true d []).Perm ((d.filter fun c => c.full).map fun c => c.row) := by
  obtain ⟨r1, m1⟩ := qFF h
  have hA : (qBW true d []).Nodup := r1.imp fun {a b} hab e => by
    subst e
    exact absurd hab (by omega)
  have hR : ((d.filter fun c => c.full).map fun c => c.row).Nodup := by
    show List.Pairwise _ _
    rw [List.pairwise_map, List.pairwise_filter]
    refine h.keys.imp fun {a b} hab ha hb e => ?_
    exact hab ha hb (by rw [e])
  refine (List.perm_ext_iff_of_nodup hA hR).2 fun x => ?_
  rw [m1, List.mem_map]
  constructor
  · rintro ⟨c, hc, hf, hx⟩
    exact ⟨c, List.mem_filter.2 ⟨hc, hf⟩, hx⟩
  · rintro ⟨c, hc, hx⟩
    exact ⟨c, (List.mem_filter.1 hc).1, (List.mem_filter.1 hc).2, hx⟩
theorem filter_upd (y : List Vl → Bool) : ∀ d : List Ce, (((d.map (updC y)).filter fun c => c.full).map fun c => keyN c.row) = ((d.filter fun c => c.full).map fun c => keyU y c.row)
  | [] => rfl
  | c :: d => by
    have ih := filter_upd y d
    rw [List.map_cons]
    cases hf : c.full with
    | true =>
      rw [List.filter_cons_of_pos (by rw [qDW]; exact hf), List.filter_cons_of_pos hf, List.map_cons, List.map_cons, ih, upd_key hf]
    | false =>
      rw [List.filter_cons_of_neg (by rw [qDW, hf]; decide), List.filter_cons_of_neg (by rw [hf]; decide), ih]
theorem want_perm {cols : List Cl} {d : List Ce} (h : DrOk cols d) (y : List Vl → Bool) : ((qBW true d []).map (keyU y)).Perm (((d.map (updC y)).filter fun c => c.full).map fun c => keyN c.row) := by
  rw [filter_upd]
  have := (qFZ h).map (keyU y)
  rwa [List.map_map] at this
theorem apart_want {cols : List Cl} {d : List Ce} (h : DrOk cols d) (y : List Vl → Bool) : Apart (d.map (updC y)) ↔ ((qBW true d []).map (keyU y)).Nodup := by
  rw [apart_iff, (want_perm h y).nodup_iff]
theorem upd_rows {cols : List Cl} {d : List Ce} (hk : ∃ n l, cols = ⟨n, 2, false⟩ :: l) (h : DrOk cols d) (y : List Vl → Bool) (ha : Apart (d.map (updC y))) :
    ((qBW true (d.map (updC y)) []).map fun r => keyN r).Perm ((qBW true d []).map (keyU y)) := by
  have h1 := (qFZ (upd_ok hk h y ha)).map fun r => keyN r
  rw [List.map_map] at h1
  exact h1.trans (want_perm h y).symm
theorem upd_count {cols : List Cl} {d : List Ce} (h : DrOk cols d) (y : List Vl → Bool) : delN y d 4 = ((qBW true d []).filter y).length := by
  rw [((qFZ h).filter y).length_eq, List.filter_map, List.length_map, List.filter_filter]
  unfold delN
  rw [List.take_of_length_le (by rw [h.len]; omega)]
  congr 1
  refine List.filter_congr fun c _ => ?_
  unfold goB
  exact Bool.and_comm _ _
def fellB (y : List Vl → Bool) (ev : List Vl → Nat) (l : List (List Vl)) : Bool := l.any (fun r => ev r != 0) || !decide (l.map (keyU y)).Nodup
theorem fellB_snoc (y : List Vl → Bool) (ev : List Vl → Nat) {l : List (List Vl)} {k : Nat} {r : List Vl} (h : l[k]? = some r) :
    fellB y ev (l.take (k + 1)) = ((fellB y ev (l.take k) || (ev r != 0)) || (((l.take k).map (keyU y)).any fun o => o == keyU y r)) := by
  unfold fellB
  rw [List.take_add_one, h, List.any_append, List.map_append]
  have e1 : ((some r).toList.any fun r => ev r != 0) = (ev r != 0) := by
    show ((ev r != 0) || false) = _
    exact Bool.or_false _
  rw [e1]
  have e2 : (!decide ((((l.take k).map (keyU y)) ++ ((some r).toList.map (keyU y))).Nodup)) = (!decide ((l.take k).map (keyU y)).Nodup || (((l.take k).map (keyU y)).any fun o => o == keyU y r)) := by
    show (!decide ((((l.take k).map (keyU y)) ++ [keyU y r]).Nodup)) = _
    generalize (l.take k).map (keyU y) = m
    generalize keyU y r = x
    rw [Bool.eq_iff_iff, Bool.or_eq_true, Bool.not_eq_true', Bool.not_eq_true', decide_eq_false_iff_not, decide_eq_false_iff_not, List.any_eq_true]
    rw [List.nodup_append]
    constructor
    · intro hn
      by_cases hm : m.Nodup
      · right
        refine Decidable.byContradiction fun hx => hn ⟨hm, List.pairwise_singleton _ _, fun a ha b hb e => ?_⟩
        rw [List.mem_singleton] at hb
        subst hb e
        exact hx ⟨a, ha, by simp⟩
      · exact .inl hm
    · rintro (hm | ⟨o, ho, he⟩) ⟨h1, _, h3⟩
      · exact hm h1
      · exact h3 o ho x (List.mem_singleton.2 rfl) (eq_of_beq he)
  rw [e2]
  generalize (l.take k).any (fun r => ev r != 0) = a
  generalize (ev r != 0) = b
  generalize (!decide ((l.take k).map (keyU y)).Nodup) = c
  generalize ((l.take k).map (keyU y)).any (fun o => o == keyU y r) = e
  cases a <;> cases b <;> cases c <;> cases e <;> rfl
theorem fellB_false {y : List Vl → Bool} {ev : List Vl → Nat} {l : List (List Vl)} : fellB y ev l = false ↔ (∀ r ∈ l, ev r = 0) ∧ (l.map (keyU y)).Nodup := by
  unfold fellB
  rw [Bool.or_eq_false_iff, Bool.not_eq_false', decide_eq_true_eq, List.any_eq_false]
  refine and_congr_left fun _ => ?_
  constructor
  · intro h r hr
    have := h r hr
    simpa using this
  · intro h r hr
    simp [h r hr]
theorem putAt_one {L : List D} {o : Nat} {x v : D} (h : L[o]? = some x) (hl : o + 2 ≤ L.length) : qBT L o [x, v] = L.set (o + 1) v := by
  apply List.ext_getElem?
  intro j
  have hx : o < L.length := by omega
  rw [List.getElem?_set]
  by_cases h1 : o + 1 = j
  · subst h1
    rw [if_pos rfl, if_pos (by omega)]
    unfold qBT
    have h0 : (L.take o).length = o := by rw [List.length_take]; omega
    rw [List.append_assoc, List.getElem?_append_right (by omega), h0, Nat.add_sub_cancel_left]
    rfl
  · rw [if_neg h1]
    by_cases h2 : j = o
    · subst h2
      unfold qBT
      have h0 : (L.take j).length = j := by rw [List.length_take]; omega
      rw [List.append_assoc, List.getElem?_append_right (by omega), h0, Nat.sub_self, h]
      rfl
    · exact putAt_get (by show o + 2 ≤ _; omega) (by show j < o ∨ o + 2 ≤ j; omega)
theorem dr_len {t : Tb} (ha : t.a.length = 4) (hb : t.b.length = 4) (i : Nat) {d : List Ce} (hd : d.length = 4) : (t.dr i d).cs.length = 19 ∧ (t.dr i d).cs[2]? = some (qAW t.cols) := by
  unfold Tb.dr
  split
  · unfold Tb.cs
    dsimp only
    exact ⟨by rw [List.length_append, List.length_append, qBA, qBA, hd, hb]; rfl, rfl⟩
  · unfold Tb.cs
    dsimp only
    exact ⟨by rw [List.length_append, List.length_append, qBA, qBA, hd, ha]; rfl, rfl⟩
theorem dr_get {t : Tb} (ha : t.a.length = 4) {i : Nat} (hi : i < 2) {d : List Ce} {k : Nat} {c : Ce} (hc : d[k]? = some c) : (t.dr i d).cs[3 + i * 8 + k * 2]? = some (bD c.full) ∧ (t.dr i d).cs[3 + i * 8 + k * 2 + 1]? = some (qBx c.row) := by
  have hget : (d.flatMap Ce.cs)[k * 2]? = some (bD c.full) ∧ (d.flatMap Ce.cs)[k * 2 + 1]? = some (qBx c.row) := by
    have := qFf d k c hc
    have h0 := congrArg (·[0]?) this
    have h1 := congrArg (·[1]?) this
    simp only [List.getElem?_take, List.getElem?_drop] at h0 h1
    rw [if_pos (by omega)] at h0 h1
    exact ⟨h0, h1⟩
  obtain ⟨h0, h1⟩ := hget
  have hk : k < d.length := (List.getElem?_eq_some_iff.1 hc).1
  have e : [bD true, strD t.name, qAW t.cols].length = 3 := rfl
  unfold Tb.dr
  rcases (by omega : i = 0 ∨ i = 1) with rfl | rfl
  · rw [if_pos rfl]
    unfold Tb.cs
    dsimp only
    exact ⟨(get_mid e (p := k * 2) (by rw [qBA]; omega) (by omega)).trans h0, (get_mid e (p := k * 2 + 1) (by rw [qBA]; omega) (by omega)).trans h1⟩
  · rw [if_neg (by decide)]
    unfold Tb.cs
    dsimp only
    have l8 : (t.a.flatMap Ce.cs).length = 8 := by rw [qBA, ha]
    exact ⟨(get_end e l8 (p := k * 2) (by omega)).trans h0, (get_end e l8 (p := k * 2 + 1) (by omega)).trans h1⟩
theorem dr_row {t : Tb} (ha : t.a.length = 4) (hb : t.b.length = 4) {i : Nat} (hi : i < 2) {d : List Ce} (hd : d.length = 4) {k : Nat} {c : Ce} (hc : d[k]? = some c) (hf : c.full = true) (r : List Vl) : (t.dr i (d.set k ⟨true, r⟩)).cs = (t.dr i d).cs.set (3 + i * 8 + k * 2 + 1) (qBx r) := by
  have hk : k < d.length := (List.getElem?_eq_some_iff.1 hc).1
  rw [dr_set t i hi d k _ hk (fun _ => ha)]
  have h1 := (dr_get ha hi hc).1
  rw [hf] at h1
  exact putAt_one h1 (by rw [(dr_len ha hb i hd).1]; omega)
theorem dr_part {t : Tb} (ha : t.a.length = 4) {i : Nat} (hi : i < 2) {d : List Ce} (hd : d.length = 4) : ((t.dr i d).cs.drop (3 + i * 8)).take 8 = d.flatMap Ce.cs := by
  have l8 : (d.flatMap Ce.cs).length = 8 := by rw [qBA, hd]
  have a8 : (t.a.flatMap Ce.cs).length = 8 := by rw [qBA, ha]
  unfold Tb.dr
  rcases (by omega : i = 0 ∨ i = 1) with rfl | rfl
  · rw [if_pos rfl]
    unfold Tb.cs
    dsimp only
    show List.take 8 ((d.flatMap Ce.cs) ++ (t.b.flatMap Ce.cs)) = _
    rw [List.take_append_of_le_length (by omega), List.take_of_length_le (by omega)]
  · rw [if_neg (by decide)]
    unfold Tb.cs
    dsimp only
    show List.take 8 (List.drop 8 ((t.a.flatMap Ce.cs) ++ (d.flatMap Ce.cs))) = _
    rw [List.drop_append_of_le_length (by omega), List.drop_eq_nil_of_le (by omega), List.nil_append, List.take_of_length_le (by omega)]
def KeysGe (t : Tb) (K : Int) : Prop := ∀ c, c ∈ t.a ∨ c ∈ t.b → c.full = true → K ≤ keyN c.row
theorem KeysGe.put {t : Tb} {K : Int} (h : KeysGe t K) {r : List Vl} (hr : K ≤ keyN r) (i n : Nat) : KeysGe (t.put i n r) K := by
  intro c hc hf
  unfold Tb.put at hc
  split at hc
  · rcases hc with hc | hc
    · rcases List.mem_or_eq_of_mem_set hc with hc | rfl
      · exact h c (.inl hc) hf
      · exact hr
    · exact h c (.inr hc) hf
  · rcases hc with hc | hc
    · exact h c (.inl hc) hf
    · rcases List.mem_or_eq_of_mem_set hc with hc | rfl
      · exact h c (.inr hc) hf
      · exact hr
theorem tabF_ge (q : List Raw) {cols : List Cl} (hk : ∃ n l, cols = ⟨n, 2, false⟩ :: l) : ∀ i : Nat, KeysGe (tabF q cols i) (-3)
  | 0 => fun c hc hf => by
    have hc : c ∈ [(⟨false, []⟩ : Ce), ⟨false, []⟩, ⟨false, []⟩, ⟨false, []⟩] := by rcases hc with hc | hc <;> exact hc
    simp only [List.mem_cons, List.not_mem_nil, or_false, or_self] at hc
    subst hc
    cases hf
  | i + 1 => by
    have h := tabF_ge q hk i
    have hkey : keyN (rowF q (i * (cols.length + 1) + 1) ((i : Int) - 3) 0 cols) = (i : Int) - 3 := rowF_key hk
    rw [tabF]
    generalize rowF q (i * (cols.length + 1) + 1) ((i : Int) - 3) 0 cols = r at *
    unfold nxtT
    split
    · exact h
    · exact h.put (by omega) _ _
end Go.Proofs.YtpaccaojgbfjdaaDoor

