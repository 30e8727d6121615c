/-
  chirograph/table: begun, Insert as contracts.
-/
import Derived.Test.YtpaccaojgbfjdaaDoorZTb3
set_option linter.unusedSimpArgs false
set_option linter.unusedVariables false
namespace Go.Proofs.YtpaccaojgbfjdaaDoor
open Go.RowKit

def qB3 (d : List Ce) : Nat → Int
  | 0 => -1
  | k + 1 => if qB3 d k < 0 ∧ (d.getD k ⟨true, []⟩).full = false then (k : Nat) else qB3 d k
def qDL (d : List Ce) (r : List Vl) : Bool := d.any fun c => c.full && decide (keyN c.row = keyN r)
def Tb.put (t : Tb) (i n : Nat) (r : List Vl) : Tb := if i = 0 then { t with a := t.a.set n ⟨true, r⟩ } else { t with b := t.b.set n ⟨true, r⟩ }
def insD (t : Tb) (i : Nat) (r : List Vl) : D :=
  if qDL (drF t.a t.b i) r = true then .tu [.ag tb0, iD 8] else if qB3 (drF t.a t.b i) 4 < 0 then .tu [.ag tb0, iD 9] else .tu [.ag (t.put i (qB3 (drF t.a t.b i) 4).toNat r).cs, iD 0]
theorem freeN_lt (d : List Ce) : ∀ k, qB3 d k < 0 ∨ ∃ n : Nat, n < k ∧ qB3 d k = n
  | 0 => .inl (by unfold qB3; decide)
  | k + 1 => by
    unfold qB3
    split
    · exact .inr ⟨k, by omega, rfl⟩
    · rcases freeN_lt d k with h | ⟨n, h1, h2⟩
      · exact .inl h
      · exact .inr ⟨n, by omega, h2⟩
section
variable {P : Program} {dst : Option Nat} {ty : TypeId} {e : Operand → A} {β : Bx} {T T0 el : TypeId} {x y : Operand}
theorem does_load_dr0 {t : TyI} {id : Nat} {pre : List D} {a b : List Ce} (ht : mkTy P T = some t) (hr : t.row = true) (h2 : t.size = 8) (hx : e x = .px id 3) (hl : look id β = some (.var T0 ((pre ++ (a.flatMap Ce.cs ++ b.flatMap Ce.cs)).map .d))) (hp : pre.length = 3) (ha : a.length = 4) (hb : b.length = 4) : Does P dst (.load T x) ty e β (.d (.ag (a.flatMap Ce.cs))) [] [id] := by
  have la : (a.flatMap Ce.cs).length = 8 := by rw [qBJ, ha]
  have lb : (b.flatMap Ce.cs).length = 8 := by rw [qBJ, hb]
  refine qAl ht hr hx hl (by rw [List.length_map, List.length_append, List.length_append, la, lb, hp, h2]; omega) ?_
  rw [h2, ← List.map_drop, show (3 : Nat) = pre.length from hp.symm, List.drop_left, ← List.map_take, show (8 : Nat) = (a.flatMap Ce.cs).length from la.symm, List.take_left]
  exact qC6 _
theorem does_load_dr1 {t : TyI} {id : Nat} {pre : List D} {a b : List Ce} (ht : mkTy P T = some t) (hr : t.row = true) (h2 : t.size = 8) (hx : e x = .px id 11) (hl : look id β = some (.var T0 ((pre ++ (a.flatMap Ce.cs ++ b.flatMap Ce.cs)).map .d))) (hp : pre.length = 3) (ha : a.length = 4) (hb : b.length = 4) : Does P dst (.load T x) ty e β (.d (.ag (b.flatMap Ce.cs))) [] [id] := by
  have la : (a.flatMap Ce.cs).length = 8 := by rw [qBJ, ha]
  have lb : (b.flatMap Ce.cs).length = 8 := by rw [qBJ, hb]
  refine qAl ht hr hx hl (by rw [List.length_map, List.length_append, List.length_append, la, lb, hp, h2]; omega) ?_
  rw [h2, ← List.map_drop, ← List.append_assoc, show (11 : Nat) = (pre ++ a.flatMap Ce.cs).length by rw [List.length_append, hp, la], List.drop_left, List.take_of_length_le (by rw [List.length_map, lb]; omega)]
  exact qC6 _
theorem qA0 {t : TyI} {id : Nat} {l : List D} (ht : mkTy P T = some t) (hr : t.row = true) (hx : e x = .px id 0) (hl : look id β = some (.var T0 (l.map .d))) (h2 : l.length = t.size) : Does P dst (.load T x) ty e β (.d (.ag l)) [] [id] := by
  refine qAl ht hr hx hl (by rw [List.length_map, h2]; omega) ?_
  rw [List.drop_zero, List.take_of_length_le (by rw [List.length_map, h2]; omega)]
  exact qC6 _
end
theorem Tb.len {t : Tb} (h : TbOk t) : t.cs.length = 19 := by
  unfold Tb.cs
  rw [List.length_append, List.length_append, qBJ, qBJ, h.a.len, h.b.len]
  rfl
set_option maxHeartbeats 4000000 in
theorem qFh (t : Tb) (h : TbOk t) (i : Nat) (hi : i < 2) : PC Tryd.prog 39 [.ag t.cs, iD i] (.tu [.ag t.cs, iD 0]) := by
  have c1 := check_tb t h
  have f1 := fresh_pc t h
  have hlen := Tb.len h
  rcases (by omega : i = 0 ∨ i = 1) with rfl | rfl
  · generalize t.cs = cs at *
    refine qAs Tryd.func39 rfl (by kernel_rfl) mixed (by kernel_rfl) (qle (by kernel_rfl)) Tryd.results39 ?_
    repeat (first | (with_reducible first | apply qAj | apply qAh | apply qAi | apply qAg | apply qAu | apply qAy | apply qAm) | ((first | (with_reducible apply rp) | ((with_reducible apply rpG); exact rfl; exact qAR rfl; (focus repeat' (first | exact trivial | exact fun h => h | refine And.intro ?_ ?_)); intro hgd; have hgd0 := hgd; (try simp only [decide_eq_true_eq, Bool.and_eq_true, Bool.not_eq_true', beq_iff_eq] at hgd))); first | (exact qA0 (tyOk rfl) rfl rfl rfl hlen) | ((with_reducible apply qAf); exact rfl; exact rfl; exact (c1); exact rfl) | ((with_reducible apply qAP); (iterate 3 exact rfl); exact (f1)) | ((with_reducible first | apply qAd | apply qAa); (conv => lhs; whnf)) | ((with_reducible first | apply qAK | apply qAV | apply qAU | apply qE5) <;> first | exact rfl | exact fun h => h)) | ((with_reducible apply rp1); first | ((with_reducible apply qAn); exact rfl; exact rfl) | ((with_reducible apply qAk); exact tyOk rfl; exact rfl)) | ((with_reducible apply rpN); (exact qAb (tyOk rfl) rfl rfl rfl hlen hlen)) | ((with_reducible apply qA9); exact rfl; exact rfl))
    (with_reducible apply qAz); (focus (repeat' (first | (with_reducible apply qAw) | (with_reducible apply qAr) | ((with_reducible apply qAB); exact rfl) | ((with_reducible apply qAA); exact rfl; exact rfl; exact tyOk rfl; exact rfl; (with_reducible assumption))))); (focus repeat' (first | exact rfl | (apply qDm; exact qCV _ _))); refine SubD.of_eq ?_
    rfl
  · generalize t.cs = cs at *
    refine qAs Tryd.func39 rfl (by kernel_rfl) mixed (by kernel_rfl) (qle (by kernel_rfl)) Tryd.results39 ?_
    repeat (first | (with_reducible first | apply qAj | apply qAh | apply qAi | apply qAg | apply qAu | apply qAy | apply qAm) | ((first | (with_reducible apply rp) | ((with_reducible apply rpG); exact rfl; exact qAR rfl; (focus repeat' (first | exact trivial | exact fun h => h | refine And.intro ?_ ?_)); intro hgd; have hgd0 := hgd; (try simp only [decide_eq_true_eq, Bool.and_eq_true, Bool.not_eq_true', beq_iff_eq] at hgd))); first | (exact qA0 (tyOk rfl) rfl rfl rfl hlen) | ((with_reducible apply qAf); exact rfl; exact rfl; exact (c1); exact rfl) | ((with_reducible apply qAP); (iterate 3 exact rfl); exact (f1)) | ((with_reducible first | apply qAd | apply qAa); (conv => lhs; whnf)) | ((with_reducible first | apply qAK | apply qAV | apply qAU | apply qE5) <;> first | exact rfl | exact fun h => h)) | ((with_reducible apply rp1); first | ((with_reducible apply qAn); exact rfl; exact rfl) | ((with_reducible apply qAk); exact tyOk rfl; exact rfl)) | ((with_reducible apply rpN); (exact qAb (tyOk rfl) rfl rfl rfl hlen hlen)) | ((with_reducible apply qA9); exact rfl; exact rfl))
    (with_reducible apply qAz); (focus (repeat' (first | (with_reducible apply qAw) | (with_reducible apply qAr) | ((with_reducible apply qAB); exact rfl) | ((with_reducible apply qAA); exact rfl; exact rfl; exact tyOk rfl; exact rfl; (with_reducible assumption))))); (focus repeat' (first | exact rfl | (apply qDm; exact qCV _ _))); refine SubD.of_eq ?_
    rfl
end Go.Proofs.YtpaccaojgbfjdaaDoor

