/-
  No cell of these rows narrows 'for every input' (looked for: loops, veiled, ifaces, maps, wideKeys, modest, calm, conditions, laid).
  DERIVED. THE GIVEN ROWS OF THIS SEAT. 6 by the template 'for every input the law returns true; each argument reads behind the call as it read before'; 0 by the template 'total and deterministic' (their statements: YtaibgoobghmfjaaTotals.lean).
  GIVEN WITH THE SEED: the statements are not yours to turn. If you find one false, say at which input.
  Laid BY PROGRAM, IN A SANDBOX (cutbox-rows.mjs): the forced cells as the released guide's own fill.sh prints them over the translation 9423450fb2b8c0e7… (all of the seat's roots in one cut). By AI agents, Wed Nov 11 2026. No macro, syntax, notation, axiom, sorry.
-/
import Derived.Test.YtaibgoobghmfjaaChecked
import GoSem.Claim
import GoSem.ClaimJoined
import GoSem.ClaimMapViews
import Derived.JoinedTies
import Derived.KernelRfl
namespace Go.Proofs.Ytaibgoobghmfjaa
/- THE CELL 'sum', in the pinned program and in every row, IS THE sha256 OF THE DUMP (.gsa) THAT YtaibgoobghmfjaaProg.lean LOADS. Nothing in Lean hashes anything: it is a label: what it is worth is what the hold of that sum in a sandbox is worth. -/
noncomputable def Try.pinned : Pinned := { name := "ytaibgoobghmfjaa", sum := "9423450fb2b8c0e77fd0f697956468f95b82860e837e05fefb94af3dd32cc42f", checked := Try.checked }
namespace Rows
def none {H : Type} : Left H := { results := [], args := [] }

/-- 'chirographkeep.TakeLess': WHATEVER THE INPUT: true; the input reads as it did. -/
def takeLessSpec : ChangeSpec := { name := "takeLess", fn := fun _ => fun
  | [d1, d2, d3, d4, d5] => { results := [.lit (.bool true)], args := [d1, d2, d3, d4, d5] }
  | _ => none }
def takeLessRow : OpenClaim := { program := "ytaibgoobghmfjaa", sum := "9423450fb2b8c0e77fd0f697956468f95b82860e837e05fefb94af3dd32cc42f", func := "chirograph/chirographkeep.TakeLess", spec := "takeLess", apart := false }
def TakeLessSaid : Prop := takeLessRow.holds Try.pinned (OpenSpec.ofChange takeLessSpec)

/-- ITS FALSE NEIGHBOUR: 'it returns false'. Refute it at one input. -/
def takeLessWrong : ChangeSpec := { name := "takeLess", fn := fun _ => fun
  | [d1, d2, d3, d4, d5] => { results := [.lit (.bool false)], args := [d1, d2, d3, d4, d5] }
  | _ => none }
def TakeLessWrongFalsely : Prop := takeLessRow.holds Try.pinned (OpenSpec.ofChange takeLessWrong)

/-- 'chirographkeep.TakeRing': WHATEVER THE INPUT: true; the input reads as it did. -/
def takeRingSpec : ChangeSpec := { name := "takeRing", fn := fun _ => fun
  | [d1, d2, d3] => { results := [.lit (.bool true)], args := [d1, d2, d3] }
  | _ => none }
def takeRingRow : OpenClaim := { program := "ytaibgoobghmfjaa", sum := "9423450fb2b8c0e77fd0f697956468f95b82860e837e05fefb94af3dd32cc42f", func := "chirograph/chirographkeep.TakeRing", spec := "takeRing", unfollowed := true, recurses := true, apart := false }
def TakeRingSaid : Prop := takeRingRow.holds Try.pinned (OpenSpec.ofChange takeRingSpec)

/-- ITS FALSE NEIGHBOUR: 'it returns false'. Refute it at one input. -/
def takeRingWrong : ChangeSpec := { name := "takeRing", fn := fun _ => fun
  | [d1, d2, d3] => { results := [.lit (.bool false)], args := [d1, d2, d3] }
  | _ => none }
def TakeRingWrongFalsely : Prop := takeRingRow.holds Try.pinned (OpenSpec.ofChange takeRingWrong)

/-- 'chirographkeep.GiveTake': WHATEVER THE INPUT: true; the input reads as it did. -/
def giveTakeSpec : ChangeSpec := { name := "giveTake", fn := fun _ => fun
  | [d1, d2] => { results := [.lit (.bool true)], args := [d1, d2] }
  | _ => none }
def giveTakeRow : OpenClaim := { program := "ytaibgoobghmfjaa", sum := "9423450fb2b8c0e77fd0f697956468f95b82860e837e05fefb94af3dd32cc42f", func := "chirograph/chirographkeep.GiveTake", spec := "giveTake", apart := false }
def GiveTakeSaid : Prop := giveTakeRow.holds Try.pinned (OpenSpec.ofChange giveTakeSpec)

/-- ITS FALSE NEIGHBOUR: 'it returns false'. Refute it at one input. -/
def giveTakeWrong : ChangeSpec := { name := "giveTake", fn := fun _ => fun
  | [d1, d2] => { results := [.lit (.bool false)], args := [d1, d2] }
  | _ => none }
def GiveTakeWrongFalsely : Prop := giveTakeRow.holds Try.pinned (OpenSpec.ofChange giveTakeWrong)

/-- 'chirographkeep.TakesSwap': WHATEVER THE INPUT: true; the input reads as it did. -/
def takesSwapSpec : ChangeSpec := { name := "takesSwap", fn := fun _ => fun
  | [d1, d2, d3] => { results := [.lit (.bool true)], args := [d1, d2, d3] }
  | _ => none }
def takesSwapRow : OpenClaim := { program := "ytaibgoobghmfjaa", sum := "9423450fb2b8c0e77fd0f697956468f95b82860e837e05fefb94af3dd32cc42f", func := "chirograph/chirographkeep.TakesSwap", spec := "takesSwap", unfollowed := true, recurses := true, apart := false }
def TakesSwapSaid : Prop := takesSwapRow.holds Try.pinned (OpenSpec.ofChange takesSwapSpec)

/-- ITS FALSE NEIGHBOUR: 'it returns false'. Refute it at one input. -/
def takesSwapWrong : ChangeSpec := { name := "takesSwap", fn := fun _ => fun
  | [d1, d2, d3] => { results := [.lit (.bool false)], args := [d1, d2, d3] }
  | _ => none }
def TakesSwapWrongFalsely : Prop := takesSwapRow.holds Try.pinned (OpenSpec.ofChange takesSwapWrong)

/-- 'chirographkeep.GiveMore': WHATEVER THE INPUT: true; the input reads as it did. -/
def giveMoreSpec : ChangeSpec := { name := "giveMore", fn := fun _ => fun
  | [d1, d2, d3, d4, d5] => { results := [.lit (.bool true)], args := [d1, d2, d3, d4, d5] }
  | _ => none }
def giveMoreRow : OpenClaim := { program := "ytaibgoobghmfjaa", sum := "9423450fb2b8c0e77fd0f697956468f95b82860e837e05fefb94af3dd32cc42f", func := "chirograph/chirographkeep.GiveMore", spec := "giveMore", apart := false }
def GiveMoreSaid : Prop := giveMoreRow.holds Try.pinned (OpenSpec.ofChange giveMoreSpec)

/-- ITS FALSE NEIGHBOUR: 'it returns false'. Refute it at one input. -/
def giveMoreWrong : ChangeSpec := { name := "giveMore", fn := fun _ => fun
  | [d1, d2, d3, d4, d5] => { results := [.lit (.bool false)], args := [d1, d2, d3, d4, d5] }
  | _ => none }
def GiveMoreWrongFalsely : Prop := giveMoreRow.holds Try.pinned (OpenSpec.ofChange giveMoreWrong)

/-- 'chirographkeep.OwnersAll': WHATEVER THE INPUT: true; the input reads as it did. -/
def ownersAllSpec : ChangeSpec := { name := "ownersAll", fn := fun _ => fun
  | [d1, d2, d3] => { results := [.lit (.bool true)], args := [d1, d2, d3] }
  | _ => none }
def ownersAllRow : OpenClaim := { program := "ytaibgoobghmfjaa", sum := "9423450fb2b8c0e77fd0f697956468f95b82860e837e05fefb94af3dd32cc42f", func := "chirograph/chirographkeep.OwnersAll", spec := "ownersAll", apart := false }
def OwnersAllSaid : Prop := ownersAllRow.holds Try.pinned (OpenSpec.ofChange ownersAllSpec)

/-- ITS FALSE NEIGHBOUR: 'it returns false'. Refute it at one input. -/
def ownersAllWrong : ChangeSpec := { name := "ownersAll", fn := fun _ => fun
  | [d1, d2, d3] => { results := [.lit (.bool false)], args := [d1, d2, d3] }
  | _ => none }
def OwnersAllWrongFalsely : Prop := ownersAllRow.holds Try.pinned (OpenSpec.ofChange ownersAllWrong)

/- THE SECOND FORM. 'bulk': how many values and letters a reading holds, each counted each time it is reached (what is shared counts as often as it is met; a slice's spare places count too). A statement '..UptoSaid' is the law's where the arguments, and the package variables that the reading takes, are together of bulk at most 1048576: NARROWER than '..Said'. Prove '..Said' where nothing that the law and all that it calls make is longer than what came in: it says more and counts as full. Else prove '..UptoSaid'. A law counts once. -/
mutual
def uptoBulk {H : Type} : DataW H → Nat
  | .lit (.string bytes) => bytes.length + 1
  | .lit _ => 1
  | .nil => 1
  | .ptr d => uptoBulk d + 1
  | .slice elems spare => uptoBulkAll elems + uptoBulkAll spare + 1
  | .agg parts => uptoBulkAll parts + 1
  | .iface _ d => uptoBulk d + 1
  | .map entries => uptoBulkEntries entries + 1
  | .held _ => 1
def uptoBulkAll {H : Type} : List (DataW H) → Nat
  | [] => 0
  | d :: r => uptoBulk d + uptoBulkAll r
def uptoBulkEntries {H : Type} : List (Lit × DataW H) → Nat
  | [] => 0
  | x :: r => uptoBulkEntry x + uptoBulkEntries r
def uptoBulkEntry {H : Type} : Lit × DataW H → Nat
  | (.string bytes, d) => bytes.length + uptoBulk d + 1
  | (_, d) => uptoBulk d + 1
 end
def uptoSmall : (H : Type) → List (DataW H) → Bool := fun _ ds => decide (uptoBulkAll ds ≤ 1048576)
def OpenSpec.upto (s : _root_.Go.ChangeSpec) : _root_.Go.OpenSpec := { _root_.Go.OpenSpec.ofChange s with cond := some uptoSmall }

/-- 'chirographkeep.TakeLess', WHERE WHAT IT READS IS OF BULK AT MOST 1048576: true; the input reads as it did. -/
def takeLessUptoRow : OpenClaim := { program := "ytaibgoobghmfjaa", sum := "9423450fb2b8c0e77fd0f697956468f95b82860e837e05fefb94af3dd32cc42f", func := "chirograph/chirographkeep.TakeLess", spec := "takeLess", apart := false, narrowed := true }
def TakeLessUptoSaid : Prop := takeLessUptoRow.holds Try.pinned (OpenSpec.upto takeLessSpec)

/-- 'chirographkeep.TakeRing', WHERE WHAT IT READS IS OF BULK AT MOST 1048576: true; the input reads as it did. -/
def takeRingUptoRow : OpenClaim := { program := "ytaibgoobghmfjaa", sum := "9423450fb2b8c0e77fd0f697956468f95b82860e837e05fefb94af3dd32cc42f", func := "chirograph/chirographkeep.TakeRing", spec := "takeRing", unfollowed := true, recurses := true, apart := false, narrowed := true }
def TakeRingUptoSaid : Prop := takeRingUptoRow.holds Try.pinned (OpenSpec.upto takeRingSpec)

/-- 'chirographkeep.GiveTake', WHERE WHAT IT READS IS OF BULK AT MOST 1048576: true; the input reads as it did. -/
def giveTakeUptoRow : OpenClaim := { program := "ytaibgoobghmfjaa", sum := "9423450fb2b8c0e77fd0f697956468f95b82860e837e05fefb94af3dd32cc42f", func := "chirograph/chirographkeep.GiveTake", spec := "giveTake", apart := false, narrowed := true }
def GiveTakeUptoSaid : Prop := giveTakeUptoRow.holds Try.pinned (OpenSpec.upto giveTakeSpec)

/-- 'chirographkeep.TakesSwap', WHERE WHAT IT READS IS OF BULK AT MOST 1048576: true; the input reads as it did. -/
def takesSwapUptoRow : OpenClaim := { program := "ytaibgoobghmfjaa", sum := "9423450fb2b8c0e77fd0f697956468f95b82860e837e05fefb94af3dd32cc42f", func := "chirograph/chirographkeep.TakesSwap", spec := "takesSwap", unfollowed := true, recurses := true, apart := false, narrowed := true }
def TakesSwapUptoSaid : Prop := takesSwapUptoRow.holds Try.pinned (OpenSpec.upto takesSwapSpec)

/-- 'chirographkeep.GiveMore', WHERE WHAT IT READS IS OF BULK AT MOST 1048576: true; the input reads as it did. -/
def giveMoreUptoRow : OpenClaim := { program := "ytaibgoobghmfjaa", sum := "9423450fb2b8c0e77fd0f697956468f95b82860e837e05fefb94af3dd32cc42f", func := "chirograph/chirographkeep.GiveMore", spec := "giveMore", apart := false, narrowed := true }
def GiveMoreUptoSaid : Prop := giveMoreUptoRow.holds Try.pinned (OpenSpec.upto giveMoreSpec)

/-- 'chirographkeep.OwnersAll', WHERE WHAT IT READS IS OF BULK AT MOST 1048576: true; the input reads as it did. -/
def ownersAllUptoRow : OpenClaim := { program := "ytaibgoobghmfjaa", sum := "9423450fb2b8c0e77fd0f697956468f95b82860e837e05fefb94af3dd32cc42f", func := "chirograph/chirographkeep.OwnersAll", spec := "ownersAll", apart := false, narrowed := true }
def OwnersAllUptoSaid : Prop := ownersAllUptoRow.holds Try.pinned (OpenSpec.upto ownersAllSpec)

end Rows
end Go.Proofs.Ytaibgoobghmfjaa
