/-
  The pure layer: data. No condition.
-/
import Derived.WalkKit
import Derived.ProofKit
import Derived.Handy
namespace Go.Proofs.YtfkkamkhjbfjmaaDoor
set_option linter.unusedSimpArgs false
set_option linter.unusedVariables false
open Go.RowKit

/-- Data: a value of one cell, nil, a slice (elements of sz cells each), a struct or an array, several results. -/
inductive D where
  | sc (v : Value)
  | nl
  | sl (sz : Nat) (es : List (List D))
  | ag (cs : List D)
  | tu (vs : List D)
def D.cells : D → List D
  | .ag cs => cs
  | x => [x]
def D.one : D → Bool
  | .ag _ | .tu _ => false
  | _ => true
mutual
def D.flat : D → Bool
  | .sc _ => true
  | .nl => true
  | .sl _ _ => false
  | .ag cs => D.flats cs
  | .tu vs => D.flats vs
def D.flats : List D → Bool
  | [] => true
  | x :: r => x.flat && D.flats r
end
abbrev bD (b : Bool) : D := .sc (.bool b)
abbrev iD (n : Int) : D := .sc (.int .i64 n)
abbrev u8D (b : UInt8) : D := .sc (.int .u8 (b.toNat : Int))
abbrev strD (s : ByteArray) : D := .sc (.string s)
def look {α : Type} (t : Nat) : List (Nat × α) → Option α
  | [] => none
  | (k, v) :: r => if k = t then some v else look t r
end Go.Proofs.YtfkkamkhjbfjmaaDoor
