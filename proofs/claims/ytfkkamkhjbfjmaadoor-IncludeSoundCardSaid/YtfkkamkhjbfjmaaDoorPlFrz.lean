/-
  The pure layer: a slice of one's own as an element of another one; numbers put together out of bytes. No condition.
-/
import Derived.Test.YtfkkamkhjbfjmaaDoorPlOwn
import Derived.Test.YtfkkamkhjbfjmaaDoorPlB2
namespace Go.Proofs.YtfkkamkhjbfjmaaDoor
set_option linter.unusedSimpArgs false
set_option linter.unusedVariables false
open Go.RowKit

def setE (e : Operand → A) (t : Nat) (v : A) : Operand → A
  | .tmp t' => if t' = t then v else e (.tmp t')
  | y => e y
section
variable {P : Program} {fr : Nat} {dst : Option Nat} {ty : TypeId} {e : Operand → A} {β : Bx} {T T' : TypeId} {x y : Operand}
/-- An operand that is a slice of one's own is read as data from now on. -/
theorem does_frz {op : Op} (t : Nat) {id n sz : Nat} {es : List (List D)} {v : A} {ups : Bx} {rd : List Nat} (hx : e (.tmp t) = .ow id n) (hro : rowsOf β id = some (sz, es))
    (h : Does P dst op ty (setE e t (.d (.sl sz es))) ([(id, .frz sz es)] ++ β) v ups rd) : Does P dst op ty e β v (ups ++ [(id, .frz sz es)]) (id :: rd) := by
  intro C γ hag ρ I w hm a hops o ho hd hty K Q hK
  have hid : look id γ = look id β := hag id (by simp)
  have hro2 : rowsOf γ id = some (sz, es) := (rowsOf_agree hid).trans hro
  obtain ⟨I', m1, x1, r1⟩ := hm.freeze_any hro2
  refine h C ([(id, .frz sz es)] ++ γ) (fun j hj => ?_) ρ I' w m1 a (fun z hz => ?_) o ho hd hty K Q (fun vv ρ' I2 w' hm' hx' hb' hr' => ?_)
  · rw [look_append, look_append]
    by_cases hji : j = id
    · subst hji; simp [look_cons]
    · rw [look_cons, if_neg (Ne.symm hji)]
      show look j γ = look j β
      refine hag j ?_
      simp only [List.map_append, List.mem_append, List.mem_cons, List.cons_append] at hj ⊢
      rcases hj with hj | hj
      · exact .inr (.inl hj)
      · exact .inr (.inr (.inl hj))
  · obtain ⟨h1, h2⟩ := hops z hz
    have h1' : (e z).inB ([(id, Box.frz sz es)] ++ γ) := A.inB_mono (fun i hi => dom_append hi) _ h1
    have h2' := RepA.ext x1 _ _ h1 h2
    unfold setE
    split
    · rename_i t'
      split
      · rename_i e1
        subst e1
        rw [hx] at h2
        refine ⟨trivial, ?_⟩
        show RepD I' w (.sl sz es) _
        rw [h2.1]; exact r1
      · exact ⟨h1', h2'⟩
    · exact ⟨h1', h2'⟩
  · refine hK vv ρ' I2 w' (by rw [List.append_assoc]; exact hm') (x1.trans hx' (fun i hi => dom_append hi)) ?_ hr'
    rw [List.append_assoc]; exact hb'
theorem does_build_f {el : TypeId} {te tt : TyI} {t id n sz : Nat} {es : List (List D)} (hT : mkTy P T = some tt) (hk : tt.kind = .slice el) (hte : mkTy P el = some te) (hsz : te.size = 1) (hx : e (.tmp t) = .ow id n) (hro : rowsOf β id = some (sz, es)) (hf : look fr β = none) (hne : id ≠ fr) :
    Does P (some fr) (.buildSlice T 1 #[(0, .tmp t)]) ty e β (.ow fr 1) [(fr, .row el 1 [[.sl sz es]]), (id, .frz sz es)] [id] := by
  have h := does_buildSlice (P := P) (fr := fr) (ty := ty) (e := setE e t (.d (.sl sz es))) (β := [(id, .frz sz es)] ++ β) (T := T) (len := 1) (parts := #[(0, .tmp t)]) (es := [[.sl sz es]]) hT hk hte rfl (by
    show cellsOfs [setE e t (.d (.sl sz es)) (.tmp t)] = _
    simp [setE, cellsOfs]; rfl) (by rw [hsz]; exact ⟨rfl, rfl, trivial⟩) (by omega) (by omega) (by rw [look_append, look_cons, if_neg hne]; exact hf)
  rw [hsz] at h
  exact does_frz t hx hro h
end
section
variable {P : Program} {dst : Option Nat} {ty : TypeId} {e : Operand → A} {β : Bx} {T T' : TypeId} {x y : Operand}
theorem bits_or (x y : Nat) (hx : x < 9223372036854775808) (hy : y < 9223372036854775808) : bitV .or .i64 (x : Int) (y : Int) = ((x ||| y : Nat) : Int) := by
  have hz : x ||| y < 2 ^ 63 := Nat.or_lt_two_pow (by omega) (by omega)
  have e : ∀ z : Nat, z < 9223372036854775808 → (BitVec.ofInt 64 (z : Int)).toNat = z := fun z hz => by rw [BitVec.ofInt_natCast, BitVec.toNat_ofNat]; exact Nat.mod_eq_of_lt (by omega)
  show IntKind.i64.wrap ((BitVec.ofInt 64 (x : Int) ||| BitVec.ofInt 64 (y : Int)).toNat : Int) = _
  rw [BitVec.toNat_or, e x hx, e y hy, IntKind.wrap_i64]
  omega
/-- The or of a number whose low bits are noughts and of one that has only those. -/
theorem does_or_join {p q : Int} (s m a b z : Nat) (hm : m = 2 ^ s) (hx : e x = .d (iD p)) (hy : e y = .d (iD q)) (hp : p = ((a * m : Nat) : Int)) (hq : q = (b : Nat)) (hb : b < m) (hz : a * m + b = z) (hlt : z < 9223372036854775808) : Does P dst (.binOp .or T x y T') ty e β (.d (iD (z : Nat))) [] [] := by
  subst hm hp hq
  have h := does_bor (P := P) (dst := dst) (ty := ty) (β := β) (T := T) (T' := T') hx hy
  have e1 : a * 2 ^ s ||| b = z := by
    rw [← hz, ← Nat.shiftLeft_eq, Nat.shiftLeft_add_eq_or_of_lt hb]
  rwa [bits_or _ _ (by omega) (by omega), e1] at h
theorem does_shl_n {p n : Int} {k' : IntKind} (a s m z : Nat) (hm : m = 2 ^ s) (hx : e x = .d (iD p)) (hy : e y = .d (.sc (.int k' n))) (hp : p = (a : Nat)) (hn : n = (s : Nat)) (hs : s < 64) (hz : a * m = z) (hlt : z < 9223372036854775808) : Does P dst (.binOp .shl T x y T') ty e β (.d (iD (z : Nat))) [] [] := by
  subst hm hp hn
  have h := does_shl (P := P) (dst := dst) (ty := ty) (β := β) (T := T) (T' := T') hx hy (by omega)
  have e1 : min (Int.toNat ((s : Nat) : Int)) IntKind.i64.bits = s := by show min s 64 = s; omega
  have e2 : (a : Int) * 2 ^ s = (z : Int) := by rw [← hz]; simp
  have e3 : IntKind.i64.wrap (z : Int) = z := by rw [IntKind.wrap_i64]; omega
  rwa [e1, e2, e3] at h
end
end Go.Proofs.YtfkkamkhjbfjmaaDoor
