/-
  The pure layer: words of 32 and 64 bits, bytes. No condition.
-/
import Derived.Test.YtfplkakfakdfhaaDoorZB
import Derived.Test.YtfplkakfakdfhaaDoorZM1
import Derived.Laws.CopyRow
import Derived.Laws.IdiomCopy
import Derived.Laws.IdiomStrings
import Derived.Laws.BytesString
namespace Go.Proofs.YtfplkakfakdfhaaDoor
set_option linter.unusedSimpArgs false
set_option linter.unusedVariables false
open Go.RowKit

abbrev lD (x : UInt64) : D := .sc (.int .u64 (x.toNat : Int))
theorem wrap_u (k : IntKind) (hk : k.signed = false) (n : Nat) : k.wrap (n : Int) = ((n % 2 ^ k.bits : Nat) : Int) := by
  unfold IntKind.wrap
  simp [hk]
theorem ofInt_nat (b n : Nat) : BitVec.ofInt b (n : Int) = BitVec.ofNat b n := by
  apply BitVec.eq_of_toNat_eq
  simp [BitVec.toNat_ofInt]
theorem fdiv_pow (m s : Nat) : (m : Int).fdiv (2 ^ s) = ((m / 2 ^ s : Nat) : Int) := by
  have h : (2 : Int) ^ s = ((2 ^ s : Nat) : Int) := by push_cast; rfl
  rw [h, Int.fdiv_eq_ediv_of_nonneg _ (Int.natCast_nonneg _)]
  rfl
section
variable {P : Program} {dst : Option Nat} {ty : TypeId} {e : Operand → A} {β : Bx} {T T' : TypeId} {x y : Operand}
theorem bit_u (k : IntKind) (hk : k.signed = false) {m n : Nat} (hm : m < 2 ^ k.bits) (hn : n < 2 ^ k.bits) : bitV .xor k m n = ((m ^^^ n : Nat) : Int) ∧ bitV .and k m n = ((m &&& n : Nat) : Int) ∧ bitV .or k m n = ((m ||| n : Nat) : Int) := by
  have h1 : (BitVec.ofNat k.bits m).toNat = m := by rw [BitVec.toNat_ofNat, Nat.mod_eq_of_lt hm]
  have h2 : (BitVec.ofNat k.bits n).toNat = n := by rw [BitVec.toNat_ofNat, Nat.mod_eq_of_lt hn]
  refine ⟨?_, ?_, ?_⟩ <;> simp only [bitV, ofInt_nat, BitVec.toNat_xor, BitVec.toNat_and, BitVec.toNat_or, h1, h2] <;> rw [wrap_u _ hk, Nat.mod_eq_of_lt]
  · exact Nat.xor_lt_two_pow hm hn
  · exact Nat.lt_of_le_of_lt Nat.and_le_left hm
  · exact Nat.or_lt_two_pow hm hn
theorem does_shr64 {a : UInt64} {k' : IntKind} {n : Int} {s : Nat} (hx : e x = .d (lD a)) (hy : e y = .d (.sc (.int k' n))) (hn : n = (s : Nat)) (hs : s < 64) : Does P dst (.binOp .shr T x y T') ty e β (.d (lD (a >>> UInt64.ofNat s))) [] [] := by
  have h := does_shift (P := P) (dst := dst) (ty := ty) (β := β) (bo := .shr) (T := T) (T' := T') hx hy (.inr rfl) (by omega)
  have e1 : (intV .shr .u64 (a.toNat : Int) n).2 = .int .u64 ((a >>> UInt64.ofNat s).toNat : Int) := by
    subst hn
    show Value.int .u64 ((a.toNat : Int).fdiv (2 ^ (min (s : Int).toNat 64))) = _
    have h1 : min (s : Int).toNat 64 = s := by omega
    have h3 : (UInt64.ofNat s).toNat % 64 = s := by simp; omega
    rw [h1, UInt64.toNat_shiftRight, h3, Nat.shiftRight_eq_div_pow, fdiv_pow]
  rw [e1] at h; exact h
theorem does_conv64_8 {S : TypeId} {s t : TyI} {a : UInt64} (hs : mkTy P S = some s) (ht : mkTy P T = some t) (hk : t.kind = .int .u8) (hx : e x = .d (lD a)) : Does P dst (.convert S T x) ty e β (.d (u8D a.toUInt8)) [] [] := by
  have h := does_conv_int (P := P) (dst := dst) (ty := ty) (β := β) hs ht hk hx
  have e1 : IntKind.u8.wrap (a.toNat : Int) = (a.toUInt8.toNat : Int) := by
    rw [wrap_u _ rfl, UInt64.toNat_toUInt8]; rfl
  rw [e1] at h; exact h
end
section
variable {P : Program} {dst : Option Nat} {ty : TypeId} {e : Operand → A} {β : Bx} {T T0 : TypeId} {x y : Operand}
end
end Go.Proofs.YtfplkakfakdfhaaDoor


/-
  The pure layer: arrays of bytes, sliced. No condition.
-/
namespace Go.Proofs.YtfplkakfakdfhaaDoor
set_option linter.unusedSimpArgs false
set_option linter.unusedVariables false
open Go.RowKit

abbrev byD (b : List UInt8) : D := .sl 1 (b.map fun c => [u8D c])
section
variable {P : Program} {dst : Option Nat} {ty : TypeId} {e : Operand → A} {β : Bx} {T T0 T1 : TypeId} {x y : Operand}
theorem by_repC {I : Nat → Prop} {w : World} : ∀ {k : List UInt8} {xs : List Value}, RepR I w 1 (k.map fun c => [u8D c]) xs → xs = k.map (fun c => Value.int .u8 (c.toNat : Int))
  | [], _, h => h
  | c :: k, _, ⟨us, us', hx, h1, ⟨u, us2, hy, _, hu, hz⟩, h2⟩ => by
    have hu : u = .int .u8 (c.toNat : Int) := hu.1
    have hz : us2 = [] := hz
    rw [hx, hy, hu, hz, by_repC h2]; rfl
end
end Go.Proofs.YtfplkakfakdfhaaDoor


/-
  The pure layer: bytes and texts. No condition.
-/
namespace Go.Proofs.YtfplkakfakdfhaaDoor
set_option linter.unusedSimpArgs false
set_option linter.unusedVariables false
open Go.RowKit

abbrev byS (l : List UInt8) : ByteArray := ⟨l.toArray⟩
theorem by_cells {I : Nat → Prop} {w : World} {k : List UInt8} {v : Value} (h : RepD I w (byD k) v) : ∃ ad c, v = .slice ad k.length c ∧ (0 < k.length → ∃ g off, ad = some ⟨g, off, none⟩ ∧ ∀ j (hj : j < k.length), w.cell? ⟨g, off + j, none⟩ = some (.int .u8 (k[j].toNat : Int))) := by
  obtain ⟨ad, c, xs, h1, h2, h3, h4⟩ := h
  rw [List.length_map] at h1 h2 h4
  refine ⟨ad, c, h1, fun h0 => ?_⟩
  obtain ⟨g, off, e, _, hc⟩ := h4 h0
  refine ⟨g, off, e, fun j hj => hc j _ ?_⟩
  rw [by_repC h3, List.getElem?_map, List.getElem?_eq_getElem hj]
  rfl
theorem run_conv_bs {P : Program} {S el T : TypeId} {ts te tt : TyI} (hS : mkTy P S = some ts) (hkS : ts.kind = .slice el) (hE : mkTy P el = some te) (hkE : te.kind = .int .u8) (hT : mkTy P T = some tt) (hkT : tt.kind = .str) {w : World} {k : List UInt8} {ad : Option Addr} {c : Nat}
    (h : 0 < k.length → ∃ g off, ad = some ⟨g, off, none⟩ ∧ ∀ j (hj : j < k.length), w.cell? ⟨g, off + j, none⟩ = some (.int .u8 (k[j].toNat : Int))) : (convert S T (.slice ad k.length c)).run P w = .ok (.string (byS k)) w := by
  obtain ⟨_, d1, _, _, hd1, _, _, _, _, _, hk1⟩ := mkTy_spec hS
  obtain ⟨_, d2, _, _, hd2, _, _, _, _, _, hk2⟩ := mkTy_spec hE
  obtain ⟨_, d3, _, _, hd3, _, _, _, _, _, hk3⟩ := mkTy_spec hT
  have u1 : P.underlying S = some (.slice el) := by rw [hd1, kind_slice (hk1.symm.trans hkS)]
  have u2 : P.underlying el = some (.int .u8) := by rw [hd2, kind_int (hk2.symm.trans hkE)]
  have u3 : P.underlying T = some .string := by rw [hd3, kind_str (hk3.symm.trans hkT)]
  cases ad with
  | none =>
    have hk : k = [] := by
      rcases Nat.eq_zero_or_pos k.length with h0 | h0
      · exact List.eq_nil_of_length_eq_zero h0
      · obtain ⟨_, _, h1, _⟩ := h h0; cases h1
    subst hk
    rw [run_convert_bytes_string w S T el none _ c u1 u2 u3]
    simp [Conv.bytesToString]
    rfl
  | some a =>
    refine run_convert_bytes_back (P := P) w S T el a c k u1 u2 u3 fun j hj => ?_
    obtain ⟨g, off, h1, h2⟩ := h (by omega)
    injection h1 with h1
    subst h1
    rw [Addr.add_mid]
    exact h2 j hj
section
variable {P : Program} {dst : Option Nat} {ty : TypeId} {e : Operand → A} {β : Bx} {S T T0 el : TypeId} {x y : Operand} {ts te tt : TyI}
/-- string(b) -/
theorem does_conv_bs {k : List UInt8} (hS : mkTy P S = some ts) (hkS : ts.kind = .slice el) (hE : mkTy P el = some te) (hkE : te.kind = .int .u8) (hT : mkTy P T = some tt) (hkT : tt.kind = .str) (hx : e x = .d (byD k)) : Does P dst (.convert S T x) ty e β (.d (strD (byS k))) [] [] :=
  Does.of_run fun C γ _ ρ I w _ a hops o ho _ => by
    have h1 := (hops x (by simp [Op.operands])).2
    rw [hx] at h1
    obtain ⟨ad, c, h2, h3⟩ := by_cells h1
    refine ⟨.string (byS k), ?_, trivial, rfl, rfl⟩
    simp only [execOp, ho, h2, Sem.run_bind, run_conv_bs hS hkS hE hkE hT hkT h3]
    rfl
end
end Go.Proofs.YtfplkakfakdfhaaDoor


/-
  The pure layer: the smaller of two lengths; a part of a text of bytes. No condition.
-/
namespace Go.Proofs.YtfplkakfakdfhaaDoor
set_option linter.unusedSimpArgs false
set_option linter.unusedVariables false
open Go.RowKit

section
variable {P : Program} {dst : Option Nat} {ty : TypeId} {e : Operand → A} {β : Bx} {T : TypeId} {x y : Operand}
theorem fdiv_p2 (n : Int) (k : Nat) (hk : k ≤ 64) : n.fdiv (2 ^ min (Int.toNat (k : Int)) IntKind.i64.bits) = n / ((2 ^ k : Nat) : Int) := by
  have e : min (Int.toNat (k : Int)) IntKind.i64.bits = k := by show min k 64 = k; omega
  rw [e, Int.fdiv_eq_ediv_of_nonneg _ (by have := Int.pow_pos (n := 2) (m := k) (by omega); omega)]
  simp
theorem does_shr_p {T' : TypeId} {m n z : Int} {k : Nat} {k' : IntKind} (hx : e x = .d (iD m)) (hy : e y = .d (.sc (.int k' n))) (hn : n = (k : Nat)) (hk : k ≤ 64) (hz : m / ((2 ^ k : Nat) : Int) = z) : Does P dst (.binOp .shr T x y T') ty e β (.d (iD z)) [] [] := by
  subst hn hz
  have h := does_shr (P := P) (dst := dst) (ty := ty) (β := β) (T := T) (T' := T') hx hy (by omega)
  rwa [fdiv_p2 m k hk] at h
theorem does_mul_to {T' : TypeId} {m n z : Int} (hx : e x = .d (iD m)) (hy : e y = .d (iD n)) (hz : m * n = z) (h1 : -9223372036854775808 ≤ z) (h2 : z ≤ 9223372036854775807) : Does P dst (.binOp .mul T x y T') ty e β (.d (iD z)) [] [] := by
  subst hz; exact does_mul hx hy h1 h2
theorem does_min_nat {ts : Array TypeId} {a b : Nat} {p q : Int} (hx : e x = .d (iD p)) (hy : e y = .d (iD q)) (hp : p = a) (hq : q = b) : Does P dst (.call { callee := .builtin .min, args := #[x, y], argTypes := ts }) ty e β (.d (iD ((min a b : Nat) : Int))) [] [] := by
  have h := does_min (P := P) (dst := dst) (ty := ty) (β := β) (ts := ts) hx hy
  have e1 : (if q < p then q else p) = ((min a b : Nat) : Int) := by split <;> omega
  rwa [e1] at h
end
end Go.Proofs.YtfplkakfakdfhaaDoor


/-
  The pure layer: contracts whose (first) result is a slice of the caller's own; a row that is still nil. No condition.
-/
namespace Go.Proofs.YtfplkakfakdfhaaDoor
set_option linter.unusedSimpArgs false
set_option linter.unusedVariables false
open Go.RowKit

def mkRes (us : List Value) : Value := if h : us.toArray.size = 1 then us.toArray[0] else .tuple us.toArray
def NotMine (I : Nat → Prop) (w w' : World) (v : Value) : Nat → Prop := fun g => ((I g ∨ w.heap.size ≤ g) ∧ g < w'.heap.size) ∧ v.ownBlock ≠ some g
/-- A call's contract: a new slice of so many rows, and further data. -/
structure PCO (P : Program) (f : FuncId) (ds : List D) (E : TypeId) (sz : Nat) (es : List (List D)) (rest : List D) : Prop where
  enters : Enters P f
  calls : ∀ (I : Nat → Prop) (w : World) (vs : Array Value), okBlocks I w → RepC I w false ds vs.toList →
    Calls P f vs w fun e w' => ∃ v us xs, e = .returned (mkRes (v :: us)) ∧ w'.ownsRow 0 E sz v es.length xs ∧ (∀ g, v.ownBlock = some g → w.heap.size ≤ g) ∧
      RepR (NotMine I w w' v) w' sz es xs ∧ RepC (NotMine I w w' v) w' false rest us ∧ Below w.heap.size w w'
section
variable {P : Program}
theorem PCO.args {f : FuncId} {ds ds' : List D} {E : TypeId} {sz : Nat} {es : List (List D)} {rest : List D} (h : PCO P f ds E sz es rest) (hs : SubDs ds' ds) : PCO P f ds' E sz es rest :=
  ⟨h.enters, fun I w vs hI hv => h.calls I w vs hI (hs.rep hv)⟩
def RetO (P : Program) (rs : List ResultVar) (E : TypeId) (sz : Nat) (es : List (List D)) (rest : List D) (s : St) : Prop :=
  (∃ id n vs, resVs P s rs (.ow id n :: vs) ∧ look id s.β = some (.row E sz es) ∧ frzVs s.β vs = some rest ∧ look id (frzVsU s.β vs) = none) ∨
  (∃ vs, resVs P s rs (.d .nl :: vs) ∧ es = [] ∧ frzVs s.β vs = some rest)
def retO (P : Program) (rs : List ResultVar) (E : TypeId) (sz : Nat) (es : List (List D)) (rest : List D) : Exit → St → Prop
  | .normal, s => RetO P rs E sz es rest s
  | .ret, s => RetO P rs E sz es rest s
  | _, _ => False
theorem reto_ok {s : St} {rs : List ResultVar} {E : TypeId} {sz : Nat} {es : List (List D)} {rest : List D} {id n : Nat} {vs : List A} (h1 : resVs P s rs (.ow id n :: vs)) {es' : List (List D)} (h2 : look id s.β = some (.row E sz es')) (h3 : frzVs s.β vs = some rest) (h4 : look id (frzVsU s.β vs) = none) (h5 : es' = es) : RetO P rs E sz es rest s := .inl ⟨id, n, vs, h1, h5 ▸ h2, h3, h4⟩
theorem oe_ret {rs : List ResultVar} {E : TypeId} {sz : Nat} {es : List (List D)} {rest : List D} {s : St} (h : RetO P rs E sz es rest s) : retO P rs E sz es rest .ret s := h
theorem pco_of_wp {f : FuncId} {fn : Func} {c : Code} {ds : List D} {E : TypeId} {sz : Nat} {es : List (List D)} {rest : List D} {rs : List ResultVar} (hf : P.funcs[f]? = some fn) (hb : fn.body = some c) (hn : (fn.name == "runtime.NumGoroutine") = false) (hds : ds.length ≤ fn.ntmps)
    (hrs : fn.results = rs.toArray) (h : ∀ (C : Ctx) (a : Act) (w : World), C.K = (fun _ => false) → C.N = fn.ntmps → At C ⟨argS 0 ds, []⟩ a w → c.wp P (lift C (retO P rs E sz es rest)) a w) : PCO P f ds E sz es rest := by
  refine ⟨enters_of hf hb hn, fun I w vs hI hr => ?_⟩
  refine calls_of_wp hf hb ?_
  have hvl := repC_len hr
  rw [Array.length_toList] at hvl
  let C : Ctx := { w0 := w, PB := fun _ => False, I0 := I, N := fn.ntmps, K := fun _ => false, args := fun _ => undef }
  have hat : At C ⟨argS 0 ds, []⟩ { tmps := vs ++ Array.replicate (fn.ntmps - vs.size) undef, defers := [] } w := by
    refine ⟨fun _ => undef, I, ⟨rfl, rfl, rfl, Nat.le_refl _, fun _ _ _ => rfl, hI.1, fun g hg => .inl hg, fun id b h => by (cases h), fun id b g h => by (cases h), fun i j b b' g h => by (cases h), fun id b h => by (cases h), hI.2⟩, rfl, ?_, fun t ht => (by cases ht), fun t v ht => ?_⟩
    · show (vs ++ Array.replicate (fn.ntmps - vs.size) undef).size = fn.ntmps
      simp; omega
    · obtain ⟨i, d, h1, h2, rfl⟩ := argS_look ht
      obtain ⟨u, h3, h4, _⟩ := repC_get hr h2
      have hlt : i < vs.size := by rw [← Array.length_toList]; exact (List.getElem?_eq_some_iff.1 h3).1
      rw [Nat.zero_add] at h1
      subst h1
      refine ⟨by show t < fn.ntmps; omega, trivial, ?_⟩
      have e1 : (vs ++ Array.replicate (fn.ntmps - vs.size) undef).getD t undef = u := by
        rw [Array.getD_eq_getD_getElem?, Array.getElem?_append_left hlt]
        have : vs[t]? = some u := by simpa using h3
        rw [this]; rfl
      show RepD I w d ((vs ++ Array.replicate (fn.ntmps - vs.size) undef).getD t undef)
      rw [e1]; exact h4
  have hfin : ∀ s a' w', RetO P rs E sz es rest s → At C s a' w' → a'.defers = [] ∧ ∃ v, (results fn a'.tmps).run P w' = .ok v w' ∧ (∃ v' us xs, Ending.returned v = .returned (mkRes (v' :: us)) ∧ w'.ownsRow 0 E sz v' es.length xs ∧ (∀ g, v'.ownBlock = some g → w.heap.size ≤ g) ∧
      RepR (NotMine I w w' v') w' sz es xs ∧ RepC (NotMine I w w' v') w' false rest us ∧ Below w.heap.size w w') := by
    have hrm : ∀ fn' : Func, fn'.results = rs.toArray → ∀ (a' : Act), results fn' a'.tmps = (do
          let vs ← rs.toArray.mapM (resRun a'.tmps)
          pure (if h : vs.size = 1 then vs[0] else .tuple vs)) := fun fn' h' a' => by
        unfold results
        rw [h']
        congr 1
    have hend : ∀ (s : St) (a' : Act) (w' : World) (v : A) (vs' : List A), resVs P s rs (v :: vs') → frzVs s.β vs' = some rest → At C s a' w' → a'.defers = [] ∧ Below w.heap.size w w' ∧ ∃ u us ρ J J', Mem C s.β ρ J w' ∧ RepA ρ J w' v u ∧ Mem C (frzVsU s.β vs' ++ s.β) ρ J' w' ∧ RepC J' w' false rest us ∧ (results fn a'.tmps).run P w' = .ok (mkRes (u :: us)) w' := by
      rintro s a' w' v vs' h1 h3 ⟨ρ, J, hm, hfr⟩
      obtain ⟨us, k1, k2, k3⟩ := resVs_run hm hfr h1
      obtain ⟨u, us', rfl, _, hu, hus⟩ := k3
      obtain ⟨J', m1, x1, r1, _⟩ := freeze_vals _ _ rest s.β J hm k2.2 hus h3
      refine ⟨hfr.defers, ⟨m1.os, m1.tape, m1.output, m1.size, fun k hk => m1.frame k hk (fun h => h)⟩, u, us', ρ, J, J', hm, hu, m1, r1, ?_⟩
      rw [hrm fn hrs, List.mapM_toArray]
      simp only [map_eq_pure_bind, bind_assoc, pure_bind, Sem.run_bind, k1, Result.andThen_ok, Sem.run_pure]
      rfl
    have hnew : ∀ {s : St} {vs' : List A} {ρ : Nat → Value} {J' : Nat → Prop} {w' : World}, Mem C (frzVsU s.β vs' ++ s.β) ρ J' w' → ∀ v : Value, (∀ g, v.ownBlock = some g → ¬ J' g) → ExtI J' w' (NotMine I w w' v) w' := fun m1 v hv => ⟨fun g hg => ⟨⟨by
        rcases m1.new g hg with h | h | h
        · exact .inl h
        · exact .inr h
        · exact h.elim, m1.imm g hg⟩, fun e => hv g e hg⟩, fun _ _ => rfl⟩
    rintro s a' w' (⟨id, n, vs', h1, h2, h3, h4⟩ | ⟨vs', h1, h2, h3⟩) hat'
    · obtain ⟨hdef, hbel, u, us', ρ, J, J', hm, hu, m1, r1, hrun⟩ := hend s a' w' _ vs' h1 h3 hat'
      have hl : look id (frzVsU s.β vs' ++ s.β) = some (.row E sz es) := by rw [look_append, h4]; exact h2
      obtain ⟨xs, b1, b2⟩ := m1.box id _ hl
      have hu1 : u = ρ id := hu.1
      subst hu1
      obtain ⟨ad, cc, k4, _⟩ := own_form b1
      have hbk : blk (ρ id) = (ρ id).ownBlock := blk_own k4
      have hown : ∀ g, (ρ id).ownBlock = some g → ¬ J' g ∧ w.heap.size ≤ g := fun g hg => by
        obtain ⟨_, o2, o3⟩ := m1.own id _ g hl (hbk.trans hg)
        exact ⟨o2, o3.elim (fun h => h) (fun h => h.elim)⟩
      have hx := hnew m1 (ρ id) fun g hg => (hown g hg).1
      exact ⟨hdef, mkRes (ρ id :: us'), hrun, _, us', xs, rfl, b1, fun g hg => (hown g hg).2, RepR.ext hx _ _ _ b2, RepC.ext hx false _ _ r1, hbel⟩
    · obtain ⟨hdef, hbel, u, us', ρ, J, J', hm, hu, m1, r1, hrun⟩ := hend s a' w' _ vs' h1 h3 hat'
      have hu1 : u = .slice none 0 0 := hu
      subst hu1 h2
      have hx := hnew m1 (.slice none 0 0) fun g hg => by cases hg
      exact ⟨hdef, _, hrun, _, us', [], rfl, World.ownsRow_nil w' 0 E sz, fun g hg => by (cases hg), rfl, RepC.ext hx false _ _ r1, hbel⟩
  refine wp_mono (h C _ w rfl rfl hat) fun en a' w' hq => ?_
  obtain ⟨s, hq, ha⟩ := hq
  cases en with
  | normal => exact hfin s a' w' hq ha
  | ret => exact hfin s a' w' hq ha
  | _ => exact hq.elim
theorem pco_of_aw {f : FuncId} {fn : Func} {c : Code} {ds : List D} {E : TypeId} {sz : Nat} {es : List (List D)} {rest : List D} {rs : List ResultVar} (hf : P.funcs[f]? = some fn) (hb : fn.body = some c) (hn : (fn.name == "runtime.NumGoroutine") = false) (hmx : P.follows .mixedOrders = true) (hok : codeOk (fun _ => false) fn.ntmps c = true) (hds : ds.length ≤ fn.ntmps)
    (hrs : fn.results = rs.toArray) (h : AW P c (retO P rs E sz es rest) ⟨argS 0 ds, []⟩) : PCO P f ds E sz es rest :=
  pco_of_wp hf hb hn hds hrs fun C a w hK hN ha => aw_sound hmx c _ _ a w (by rw [hK, hN]; exact hok) h ha
end
section
variable {P : Program} {fr : Nat} {dst : Option Nat} {ty : TypeId} {e : Operand → A} {β : Bx}
/-- What a call hands back: a slice of one's own, alone or ahead of data. -/
def resA (fr n : Nat) : List D → A
  | [] => .ow fr n
  | ds => .tu (.ow fr n :: ds.map A.d)
theorem repAs_d {ρ : Nat → Value} {I : Nat → Prop} {w : World} {o : Bool} : ∀ {ds : List D} {us : List Value}, RepC I w o ds us → RepAs ρ I w o (ds.map A.d) us
  | [], _, h => h
  | d :: ds, _, ⟨u, us, h1, h2, h3, h4⟩ => ⟨u, us, h1, h2, h3, repAs_d h4⟩
theorem insB_d {β : Bx} : ∀ ds : List D, A.insB β (ds.map A.d)
  | [] => trivial
  | d :: ds => ⟨trivial, insB_d ds⟩
theorem does_callO {x : Operand} {args : Array Operand} {ts : Array TypeId} {f : FuncId} {first captured : List A} {ds : List D} {E : TypeId} {sz n : Nat} {es : List (List D)} {rest : List D} (hx : e x = .fn (.func f) first captured) (hds : frzVs β (first ++ args.toList.map e ++ captured) = some ds) (hpc : PCO P f ds E sz es rest)
    (hn : es.length = n) (hf : look fr β = none) (hf2 : look fr (frzVsU β (first ++ args.toList.map e ++ captured)) = none) :
    Does P (some fr) (.call { callee := .value x, args := args, argTypes := ts }) ty e β (resA fr n rest) ((fr, .row E sz es) :: frzVsU β (first ++ args.toList.map e ++ captured)) ((first ++ args.toList.map e ++ captured).flatMap idsV) := by
  subst hn
  intro C γ hag ρ I w hm a hops o ho hd hty K Q hK
  obtain ⟨fi, ca, h1, h2, h3⟩ := call_args hx hops
  obtain ⟨e1, e2⟩ := frz_agree (fun id hid => hag id (List.mem_append_left _ hid))
  have hfg : look fr γ = none := (hag fr (by simp)).trans hf
  obtain ⟨I', m1, x1, r1, _⟩ := freeze_vals _ _ ds γ I hm h2 h3 (e1.trans hds)
  have hff : look fr (frzVsU γ (first ++ args.toList.map e ++ captured) ++ γ) = none := by rw [look_append, e2, hf2]; exact hfg
  unfold Oper.wp
  rw [run_call hpc.enters rfl h1 o ho, Oper.upon_enter]
  refine (hpc.calls I' w _ ⟨m1.imm, m1.gl⟩ r1).mono fun en w' ⟨v, us, xs, he, hown, hnew, hr, hc, hb⟩ => ?_
  subst he
  have hx2 : Ext (frzVsU γ (first ++ args.toList.map e ++ captured) ++ γ) ρ I' w (updF ρ fr v) (NotMine I' w w' v) w' := ⟨⟨fun g hg => ⟨⟨.inl hg, Nat.lt_of_lt_of_le (m1.imm g hg) hb.size⟩, fun e => by
    have := hnew g e
    have := m1.imm g hg
    omega⟩, fun g hg => hb.block g (m1.imm g hg)⟩, upd_dom hff ρ v⟩
  obtain ⟨ad, cc, k4, _⟩ := own_form hown
  have hbk : blk v = v.ownBlock := blk_own k4
  have m2 := m1.upd [(fr, .row E sz es)] hx2 hb.os hb.tape hb.output hb.size (fun g h => h.1.2) (fun g h => by
    rcases h.1.1 with h | h
    · exact .inl h
    · exact .inr (.inl (Nat.le_trans m1.size h))) (fun _ => False) (fun k hk _ => hb.block k hk) (fun k h => h.elim) (fun id b g hl _ hg => ⟨fun h => h, fun h => by
      obtain ⟨h1, h2, _⟩ := m1.own id b g hl hg
      rcases h.1.1 with h | h
      · exact h2 h
      · omega⟩) (fun id b h => by
      obtain ⟨rfl, rfl⟩ := look_one h
      refine ⟨⟨xs, by rw [upd_same]; exact hown, hr⟩, trivial, fun g hg => ?_⟩
      have hg : blk _ = some g := hg
      rw [upd_same, hbk] at hg
      refine ⟨(hown.lt g hg).2, fun h => h.2 hg, .inl (Nat.le_trans m1.size (hnew g hg)), fun id2 b2 hl2 _ hbk2 => ?_⟩
      have := (m1.own id2 b2 g hl2 hbk2).1
      have := hnew g hg
      omega) (fun i j b b' g hi hj _ _ => by rw [(look_one hi).1, (look_one hj).1])
  simp only [hd]
  rw [e2] at m2 hx2
  have hin : dom ([(fr, Box.row E sz es)] ++ (frzVsU β (first ++ args.toList.map e ++ captured) ++ γ)) fr := by unfold dom; simp [look_append, look_cons]
  have hrep : RepA (updF ρ fr v) (NotMine I' w w' v) w' (.ow fr es.length) v := ow_rep hown (upd_same _ _ _)
  refine hK (mkRes (v :: us)) (updF ρ fr v) _ w' m2 (x1.trans hx2 (fun i hi => dom_append hi)) ?_ ?_
  · cases rest with
    | nil => exact hin
    | cons d ds' => exact ⟨hin, insB_d _⟩
  · cases rest with
    | nil => cases hc; exact hrep
    | cons d ds' =>
      obtain ⟨u, us', rfl, _, c1, c2⟩ := hc
      show RepA _ _ _ (.tu (.ow fr es.length :: A.d d :: ds'.map A.d)) (mkRes (v :: u :: us'))
      unfold mkRes
      rw [dif_neg (by simp)]
      exact ⟨_, rfl, v, _, (by simp), fun h => (by cases h), hrep, u, us', rfl, fun h => by (cases h), c1, repAs_d c2⟩
/-- One box is frozen. -/
theorem does_callO1 {x : Operand} {args : Array Operand} {ts : Array TypeId} {f : FuncId} {first captured : List A} {ds : List D} {E : TypeId} {sz n : Nat} {es : List (List D)} {rest : List D} {v : A} {i : Nat} {b : Box} (hx : e x = .fn (.func f) first captured) (hds : frzVs β (first ++ args.toList.map e ++ captured) = some ds) (hu : frzVsU β (first ++ args.toList.map e ++ captured) = [(i, b)]) (hpc : PCO P f ds E sz es rest)
    (hn : es.length = n) (hf : look fr β = none) (hi : i ≠ fr) (hv : resA fr n rest = v) :
    Does P (some fr) (.call { callee := .value x, args := args, argTypes := ts }) ty e β v [(fr, .row E sz es), (i, b)] ((first ++ args.toList.map e ++ captured).flatMap idsV) := by
  have := does_callO (P := P) (ty := ty) (args := args) (ts := ts) hx hds hpc hn hf (by rw [hu, look_cons, if_neg hi]; rfl)
  rwa [hu, hv] at this
theorem does_extractA {x : Operand} {vs : List A} {i : Nat} {v : A} (hx : e x = .tu vs) (hi : vs[i]? = some v) : Does P dst (.extract x i) ty e β v [] [] := by
  intro C γ hag ρ I w hm a hops o ho hd hty K Q hK
  obtain ⟨hb, hr⟩ := hops x (by simp [Op.operands])
  rw [hx] at hb hr
  obtain ⟨us, h1, h2⟩ := hr
  obtain ⟨u, h3, h4, _⟩ := repAs_get h2 hi
  have h3 : us[i]? = some u := by simpa using h3
  unfold Oper.wp
  have hrun : (execOp a.eval o).run P w = .ok (.value u) w := by
    simp [execOp, ho, h1, Instr.extract, h3, Sem.run_bind]
  rw [hrun, Oper.upon_value, hd]
  exact hK u ρ I w (by simpa using hm) (Ext.refl _ _ _ _) (by simpa using A.insB_mem hb v (List.mem_of_getElem? hi)) h4
end
end Go.Proofs.YtfplkakfakdfhaaDoor


/-
  The pure layer: a slice of one's own as an element of another one; numbers put together out of bytes. No condition.
-/
namespace Go.Proofs.YtfplkakfakdfhaaDoor
set_option linter.unusedSimpArgs false
set_option linter.unusedVariables false
open Go.RowKit

def setE (e : Operand → A) (t : Nat) (v : A) : Operand → A
  | .tmp t' => if t' = t then v else e (.tmp t')
  | y => e y
section
variable {P : Program} {fr : Nat} {dst : Option Nat} {ty : TypeId} {e : Operand → A} {β : Bx} {T T' : TypeId} {x y : Operand}
/-- An operand that is a slice of one's own is read as data from now on. -/
theorem does_frz {op : Op} (t : Nat) {id n sz : Nat} {es : List (List D)} {v : A} {ups : Bx} {rd : List Nat} (hx : e (.tmp t) = .ow id n) (hro : rowsOf β id = some (sz, es))
    (h : Does P dst op ty (setE e t (.d (.sl sz es))) ([(id, .frz sz es)] ++ β) v ups rd) : Does P dst op ty e β v (ups ++ [(id, .frz sz es)]) (id :: rd) := by
  intro C γ hag ρ I w hm a hops o ho hd hty K Q hK
  have hid : look id γ = look id β := hag id (by simp)
  have hro2 : rowsOf γ id = some (sz, es) := (rowsOf_agree hid).trans hro
  obtain ⟨I', m1, x1, r1⟩ := hm.freeze_any hro2
  refine h C ([(id, .frz sz es)] ++ γ) (fun j hj => ?_) ρ I' w m1 a (fun z hz => ?_) o ho hd hty K Q (fun vv ρ' I2 w' hm' hx' hb' hr' => ?_)
  · rw [look_append, look_append]
    by_cases hji : j = id
    · subst hji; simp [look_cons]
    · rw [look_cons, if_neg (Ne.symm hji)]
      show look j γ = look j β
      refine hag j ?_
      simp only [List.map_append, List.mem_append, List.mem_cons, List.cons_append] at hj ⊢
      rcases hj with hj | hj
      · exact .inr (.inl hj)
      · exact .inr (.inr (.inl hj))
  · obtain ⟨h1, h2⟩ := hops z hz
    have h1' : (e z).inB ([(id, Box.frz sz es)] ++ γ) := A.inB_mono (fun i hi => dom_append hi) _ h1
    have h2' := RepA.ext x1 _ _ h1 h2
    unfold setE
    split
    · rename_i t'
      split
      · rename_i e1
        subst e1
        rw [hx] at h2
        refine ⟨trivial, ?_⟩
        show RepD I' w (.sl sz es) _
        rw [h2.1]; exact r1
      · exact ⟨h1', h2'⟩
    · exact ⟨h1', h2'⟩
  · refine hK vv ρ' I2 w' (by rw [List.append_assoc]; exact hm') (x1.trans hx' (fun i hi => dom_append hi)) ?_ hr'
    rw [List.append_assoc]; exact hb'
theorem does_build_f {el : TypeId} {te tt : TyI} {t id n sz : Nat} {es : List (List D)} (hT : mkTy P T = some tt) (hk : tt.kind = .slice el) (hte : mkTy P el = some te) (hsz : te.size = 1) (hx : e (.tmp t) = .ow id n) (hro : rowsOf β id = some (sz, es)) (hf : look fr β = none) (hne : id ≠ fr) :
    Does P (some fr) (.buildSlice T 1 #[(0, .tmp t)]) ty e β (.ow fr 1) [(fr, .row el 1 [[.sl sz es]]), (id, .frz sz es)] [id] := by
  have h := does_buildSlice (P := P) (fr := fr) (ty := ty) (e := setE e t (.d (.sl sz es))) (β := [(id, .frz sz es)] ++ β) (T := T) (len := 1) (parts := #[(0, .tmp t)]) (es := [[.sl sz es]]) hT hk hte rfl (by
    show cellsOfs [setE e t (.d (.sl sz es)) (.tmp t)] = _
    simp [setE, cellsOfs]; rfl) (by rw [hsz]; exact ⟨rfl, rfl, trivial⟩) (by omega) (by omega) (by rw [look_append, look_cons, if_neg hne]; exact hf)
  rw [hsz] at h
  exact does_frz t hx hro h
end
section
variable {P : Program} {dst : Option Nat} {ty : TypeId} {e : Operand → A} {β : Bx} {T T' : TypeId} {x y : Operand}
end
end Go.Proofs.YtfplkakfakdfhaaDoor


/-
  The pure layer: a part of a slice with a bound on its capacity; parts of lists. No condition.
-/
namespace Go.Proofs.YtfplkakfakdfhaaDoor
set_option linter.unusedSimpArgs false
set_option linter.unusedVariables false
open Go.RowKit

section
variable {P : Program} {dst : Option Nat} {ty : TypeId} {e : Operand → A} {β : Bx} {T : TypeId} {x : Operand}
end
end Go.Proofs.YtfplkakfakdfhaaDoor

