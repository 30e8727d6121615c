/-
  The pure layer: more words of 64 bits, bytes. No condition.
-/
import Derived.Test.YtfplkakfakdfhaaDoorZC
namespace Go.Proofs.YtfplkakfakdfhaaDoor
set_option linter.unusedSimpArgs false
set_option linter.unusedVariables false
open Go.RowKit

section
variable {P : Program} {dst : Option Nat} {ty : TypeId} {e : Operand → A} {β : Bx} {T T' : TypeId} {x y : Operand}
theorem does_xor64 {a b : UInt64} (hx : e x = .d (lD a)) (hy : e y = .d (lD b)) : Does P dst (.binOp .xor T x y T') ty e β (.d (lD (a ^^^ b))) [] [] :=
  does_int_to hx hy trivial (by
    show D.sc (.int .u64 (bitV .xor .u64 (a.toNat : Int) (b.toNat : Int))) = _
    rw [(bit_u .u64 rfl a.toNat_lt b.toNat_lt).1, ← UInt64.toNat_xor])
theorem does_and64 {a b : UInt64} (hx : e x = .d (lD a)) (hy : e y = .d (lD b)) : Does P dst (.binOp .and T x y T') ty e β (.d (lD (a &&& b))) [] [] :=
  does_int_to hx hy trivial (by
    show D.sc (.int .u64 (bitV .and .u64 (a.toNat : Int) (b.toNat : Int))) = _
    rw [(bit_u .u64 rfl a.toNat_lt b.toNat_lt).2.1, ← UInt64.toNat_and])
theorem does_or64 {a b : UInt64} (hx : e x = .d (lD a)) (hy : e y = .d (lD b)) : Does P dst (.binOp .or T x y T') ty e β (.d (lD (a ||| b))) [] [] :=
  does_int_to hx hy trivial (by
    show D.sc (.int .u64 (bitV .or .u64 (a.toNat : Int) (b.toNat : Int))) = _
    rw [(bit_u .u64 rfl a.toNat_lt b.toNat_lt).2.2, ← UInt64.toNat_or])
/-- ^x of 64 bits: as exclusive or with all ones. -/
theorem does_not64 {a : UInt64} (hx : e x = .d (lD a)) : Does P dst (.unOp .xor T x) ty e β (.d (lD (18446744073709551615 ^^^ a))) [] [] :=
  Does.of_run fun C γ _ ρ I w _ ac hops o ho _ => by
    have h1 := (hops x (by simp [Op.operands])).2
    rw [hx] at h1
    have h1 := repA_sc h1
    have e1 : bitV .xor .u64 18446744073709551615 (a.toNat : Int) = (((18446744073709551615 ^^^ a : UInt64).toNat : Nat) : Int) := by
      have := (bit_u .u64 rfl (m := 18446744073709551615) (n := a.toNat) (by decide) a.toNat_lt).1
      rw [UInt64.toNat_xor]
      exact this
    refine ⟨.int .u64 (bitV .xor .u64 18446744073709551615 (a.toNat : Int)), ?_, trivial, ?_, rfl⟩
    · simp only [execOp, ho, h1]
      rfl
    · rw [e1]
/-- ^x of 8 bits. -/
theorem does_not8 {a : UInt8} (hx : e x = .d (u8D a)) : Does P dst (.unOp .xor T x) ty e β (.d (u8D (255 ^^^ a))) [] [] :=
  Does.of_run fun C γ _ ρ I w _ ac hops o ho _ => by
    have h1 := (hops x (by simp [Op.operands])).2
    rw [hx] at h1
    have h1 := repA_sc h1
    have e1 : bitV .xor .u8 255 (a.toNat : Int) = (((255 ^^^ a : UInt8).toNat : Nat) : Int) := by
      have := (bit_u .u8 rfl (m := 255) (n := a.toNat) (by decide) a.toNat_lt).1
      rw [UInt8.toNat_xor]
      exact this
    refine ⟨.int .u8 (bitV .xor .u8 255 (a.toNat : Int)), ?_, trivial, ?_, rfl⟩
    · simp only [execOp, ho, h1]
      rfl
    · rw [e1]
/-- The lowest byte of a number; its 64 bits. -/
def lowB (n : Int) : UInt8 := UInt8.ofNat (n % 256).toNat
def lowL (n : Int) : UInt64 := UInt64.ofNat (n % 18446744073709551616).toNat
theorem wrap_low (m : Int) : D.sc (.int .u8 (IntKind.u8.wrap m)) = u8D (lowB m) := by
  have h : IntKind.u8.wrap m = m % 256 := rfl
  have h0 := Int.emod_nonneg m (show (256 : Int) ≠ 0 by omega)
  have h1 := Int.emod_lt_of_pos m (show (0 : Int) < 256 by omega)
  show D.sc (.int .u8 (IntKind.u8.wrap m)) = D.sc (.int .u8 ((lowB m).toNat : Int))
  rw [h]
  unfold lowB
  rw [UInt8.toNat_ofNat']
  congr 2
  omega
theorem wrap_lowL (m : Int) : D.sc (.int .u64 (IntKind.u64.wrap m)) = lD (lowL m) := by
  have h : IntKind.u64.wrap m = m % 18446744073709551616 := rfl
  have h0 := Int.emod_nonneg m (show (18446744073709551616 : Int) ≠ 0 by omega)
  have h1 := Int.emod_lt_of_pos m (show (0 : Int) < 18446744073709551616 by omega)
  show D.sc (.int .u64 (IntKind.u64.wrap m)) = D.sc (.int .u64 ((lowL m).toNat : Int))
  rw [h]
  unfold lowL
  rw [UInt64.toNat_ofNat']
  generalize m % 18446744073709551616 = z at *
  congr 2
  show z = ((z.toNat % 18446744073709551616 : Nat) : Int)
  omega
theorem does_conv_u8 {S : TypeId} {ts tt : TyI} {m : Int} (hS : mkTy P S = some ts) (hT : mkTy P T = some tt) (hkT : tt.kind = .int .u8) (hx : e x = .d (iD m)) : Does P dst (.convert S T x) ty e β (.d (u8D (lowB m))) [] [] := by
  have h := does_conv_int (P := P) (dst := dst) (ty := ty) (β := β) hS hT hkT hx
  rwa [wrap_low] at h
theorem does_conv_u64 {S : TypeId} {ts tt : TyI} {m : Int} (hS : mkTy P S = some ts) (hT : mkTy P T = some tt) (hkT : tt.kind = .int .u64) (hx : e x = .d (iD m)) : Does P dst (.convert S T x) ty e β (.d (lD (lowL m))) [] [] := by
  have h := does_conv_int (P := P) (dst := dst) (ty := ty) (β := β) hS hT hkT hx
  rwa [wrap_lowL] at h
end
end Go.Proofs.YtfplkakfakdfhaaDoor

