/-
  CRC-32C of bytes, bit by bit. No program in sight, no condition.
-/
import Derived.Laws.BitsAllLaws
namespace Go.Proofs.Ytpaccaojgbfjdaa
set_option linter.unusedSimpArgs false
set_option linter.unusedVariables false

def crcStep (x : UInt32) : UInt32 := if x &&& 1 = 1 then (x >>> UInt32.ofNat 1) ^^^ 2197175160 else x >>> UInt32.ofNat 1
def crcN : Nat → UInt32 → UInt32
  | 0, x => x
  | j + 1, x => crcStep (crcN j x)
def crcByte (c : UInt32) (b : UInt8) : UInt32 := crcN 8 (c ^^^ b.toUInt32)
def crcW (l : List UInt8) : UInt32 := 4294967295 ^^^ l.foldl crcByte 4294967295
def crcL (l : List UInt8) : Nat := (crcW l).toNat
theorem crcL_lt (l : List UInt8) : crcL l < 4294967296 := (crcW l).toNat_lt
end Go.Proofs.Ytpaccaojgbfjdaa

