/-
  The pure layer: the smaller of two lengths; a part of a text of bytes. No condition.
-/
import Derived.Test.YtfkkamkhjbfjmaaDoorPlBy
namespace Go.Proofs.YtfkkamkhjbfjmaaDoor
set_option linter.unusedSimpArgs false
set_option linter.unusedVariables false
open Go.RowKit

section
variable {P : Program} {dst : Option Nat} {ty : TypeId} {e : Operand → A} {β : Bx} {T : TypeId} {x y : Operand}
theorem fdiv_p2 (n : Int) (k : Nat) (hk : k ≤ 64) : n.fdiv (2 ^ min (Int.toNat (k : Int)) IntKind.i64.bits) = n / ((2 ^ k : Nat) : Int) := by
  have e : min (Int.toNat (k : Int)) IntKind.i64.bits = k := by show min k 64 = k; omega
  rw [e, Int.fdiv_eq_ediv_of_nonneg _ (by have := Int.pow_pos (n := 2) (m := k) (by omega); omega)]
  simp
theorem does_shr_p {T' : TypeId} {m n z : Int} {k : Nat} {k' : IntKind} (hx : e x = .d (iD m)) (hy : e y = .d (.sc (.int k' n))) (hn : n = (k : Nat)) (hk : k ≤ 64) (hz : m / ((2 ^ k : Nat) : Int) = z) : Does P dst (.binOp .shr T x y T') ty e β (.d (iD z)) [] [] := by
  subst hn hz
  have h := does_shr (P := P) (dst := dst) (ty := ty) (β := β) (T := T) (T' := T') hx hy (by omega)
  rwa [fdiv_p2 m k hk] at h
theorem byS_toList (l : List UInt8) : (byS l).toList = l := by
  rw [ByteArray.toList_eq]
theorem does_seq_by {T' : TypeId} {a b : List UInt8} {c : Bool} (hx : e x = .d (strD (byS a))) (hy : e y = .d (strD (byS b))) (hc : c = true ↔ a = b) : Does P dst (.binOp .eql T x y T') ty e β (.d (bD c)) [] [] := by
  have h := does_seq (P := P) (dst := dst) (ty := ty) (β := β) (T := T) (T' := T') hx hy
  rw [byS_toList, byS_toList] at h
  have e1 : (a == b) = c := by rw [Bool.eq_iff_iff, beq_iff_eq, hc]
  rwa [e1] at h
theorem does_sne_by {T' : TypeId} {a b : List UInt8} {c : Bool} (hx : e x = .d (strD (byS a))) (hy : e y = .d (strD (byS b))) (hc : c = true ↔ a ≠ b) : Does P dst (.binOp .neq T x y T') ty e β (.d (bD c)) [] [] := by
  have h := does_sne (P := P) (dst := dst) (ty := ty) (β := β) (T := T) (T' := T') hx hy
  rw [byS_toList, byS_toList] at h
  have e1 : (!(a == b)) = c := by rw [Bool.eq_iff_iff, hc]; simp
  rwa [e1] at h
theorem does_mul_to {T' : TypeId} {m n z : Int} (hx : e x = .d (iD m)) (hy : e y = .d (iD n)) (hz : m * n = z) (h1 : -9223372036854775808 ≤ z) (h2 : z ≤ 9223372036854775807) : Does P dst (.binOp .mul T x y T') ty e β (.d (iD z)) [] [] := by
  subst hz; exact does_mul hx hy h1 h2
theorem does_min_nat {ts : Array TypeId} {a b : Nat} {p q : Int} (hx : e x = .d (iD p)) (hy : e y = .d (iD q)) (hp : p = a) (hq : q = b) : Does P dst (.call { callee := .builtin .min, args := #[x, y], argTypes := ts }) ty e β (.d (iD ((min a b : Nat) : Int))) [] [] := by
  have h := does_min (P := P) (dst := dst) (ty := ty) (β := β) (ts := ts) hx hy
  have e1 : (if q < p then q else p) = ((min a b : Nat) : Int) := by split <;> omega
  rwa [e1] at h
theorem does_slice_bl {t te : TyI} {el : TypeId} {lo hi : Option Operand} {l h : Nat} {b c : List UInt8} (ht : mkTy P T = some t) (hk : t.kind = .slice el) (hte : mkTy P el = some te) (hsz : te.size = 1) (hx : e x = .d (byD b)) (hl : loIs e l lo) (hh : hiIs e h b.length hi) (h1 : l ≤ h) (h2 : h ≤ b.length) (hc : (b.take h).drop l = c) :
    Does P dst (.slice T x lo hi none) ty e β (.d (byD c)) [] [] := by
  have hd := does_slice (P := P) (dst := dst) (ty := ty) (β := β) ht hk hte hx hsz hl (by rw [List.length_map]; exact hh) h1 (by rw [List.length_map]; exact h2)
  rwa [← List.map_take, ← List.map_drop, hc] at hd
end
end Go.Proofs.YtfkkamkhjbfjmaaDoor
