/-
  The pure layer: words of 64 bits shifted to the left, and not, out of bytes. No condition.
-/
import Derived.Test.YtclhmdobhlalmaaDoorZU64
namespace Go.Proofs.YtclhmdobhlalmaaDoor
set_option linter.unusedSimpArgs false
set_option linter.unusedVariables false
open Go.RowKit

section
variable {P : Program} {dst : Option Nat} {ty : TypeId} {e : Operand → A} {β : Bx} {T T' : TypeId} {x y : Operand}
theorem does_shl64 {a : UInt64} {k' : IntKind} {n : Int} {s : Nat} (hx : e x = .d (lD a)) (hy : e y = .d (.sc (.int k' n))) (hn : n = (s : Nat)) (hs : s < 64) : Does P dst (.binOp .shl T x y T') ty e β (.d (lD (a <<< UInt64.ofNat s))) [] [] := by
  have h := does_shift (P := P) (dst := dst) (ty := ty) (β := β) (bo := .shl) (T := T) (T' := T') hx hy (.inl rfl) (by omega)
  have e1 : (intV .shl .u64 (a.toNat : Int) n).2 = .int .u64 ((a <<< UInt64.ofNat s).toNat : Int) := by
    subst hn
    show Value.int .u64 (IntKind.u64.wrap ((a.toNat : Int) * 2 ^ (min (s : Int).toNat 64))) = _
    have h1 : min (s : Int).toNat 64 = s := by omega
    have h2 : ((a.toNat : Int) * 2 ^ s) = ((a.toNat * 2 ^ s : Nat) : Int) := by push_cast; rfl
    have h3 : (UInt64.ofNat s).toNat % 64 = s := by simp; omega
    rw [h1, h2, wrap_u _ rfl, UInt64.toNat_shiftLeft, h3, Nat.shiftLeft_eq]
    rfl
  rw [e1] at h; exact h
theorem does_andNot64 {a b : UInt64} (hx : e x = .d (lD a)) (hy : e y = .d (lD b)) : Does P dst (.binOp .andNot T x y T') ty e β (.d (lD (a &&& ~~~b))) [] [] :=
  does_int_to hx hy trivial (by
    show D.sc (.int .u64 (IntKind.u64.wrap ((BitVec.ofInt 64 (a.toNat : Int) &&& ~~~ (BitVec.ofInt 64 (b.toNat : Int))).toNat : Int))) = _
    have e1 : ∀ c : UInt64, BitVec.ofInt 64 (c.toNat : Int) = c.toBitVec := fun c => by
      rw [ofInt_nat]
      apply BitVec.eq_of_toNat_eq
      rw [BitVec.toNat_ofNat, Nat.mod_eq_of_lt c.toNat_lt]
      rfl
    have e2 : (a.toBitVec &&& ~~~ b.toBitVec).toNat = (a &&& ~~~b).toNat := rfl
    have h3 := (a &&& ~~~b).toNat_lt
    rw [e1, e1, e2, wrap_u _ rfl]
    show D.sc (.int .u64 (((a &&& ~~~b).toNat % 18446744073709551616 : Nat) : Int)) = _
    rw [Nat.mod_eq_of_lt h3])
theorem does_conv8_64 {S : TypeId} {s t : TyI} {b : UInt8} (hs : mkTy P S = some s) (ht : mkTy P T = some t) (hk : t.kind = .int .u64) (hx : e x = .d (u8D b)) : Does P dst (.convert S T x) ty e β (.d (lD b.toUInt64)) [] [] := by
  have h := does_conv_int (P := P) (dst := dst) (ty := ty) (β := β) hs ht hk hx
  have e1 : IntKind.u64.wrap (b.toNat : Int) = (b.toUInt64.toNat : Int) := by
    have := b.toNat_lt
    rw [wrap_u _ rfl, UInt8.toNat_toUInt64, Nat.mod_eq_of_lt (by show b.toNat < 18446744073709551616; omega)]
  rw [e1] at h; exact h
end
end Go.Proofs.YtclhmdobhlalmaaDoor
