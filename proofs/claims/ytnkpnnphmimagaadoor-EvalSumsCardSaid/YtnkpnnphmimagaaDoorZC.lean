/-
  The pure layer: words of 32 and 64 bits, bytes. No condition.
-/
import Derived.Test.YtnkpnnphmimagaaDoorZB
import Derived.Test.YtnkpnnphmimagaaDoorZTl
import Derived.Laws.CopyRow
import Derived.Laws.IdiomCopy
import Derived.Laws.IdiomStrings
import Derived.Laws.BytesString
namespace Go.Proofs.YtnkpnnphmimagaaDoor
set_option linter.unusedSimpArgs false
set_option linter.unusedVariables false
open Go.RowKit

abbrev lD (x : UInt64) : D := .sc (.int .u64 (x.toNat : Int))
theorem wrap_u (k : IntKind) (hk : k.signed = false) (n : Nat) : k.wrap (n : Int) = ((n % 2 ^ k.bits : Nat) : Int) := by
  unfold IntKind.wrap
  simp [hk]
theorem ofInt_nat (b n : Nat) : BitVec.ofInt b (n : Int) = BitVec.ofNat b n := by
  apply BitVec.eq_of_toNat_eq
  simp [BitVec.toNat_ofInt]
section
variable {P : Program} {dst : Option Nat} {ty : TypeId} {e : Operand → A} {β : Bx} {T T' : TypeId} {x y : Operand}
theorem bit_u (k : IntKind) (hk : k.signed = false) {m n : Nat} (hm : m < 2 ^ k.bits) (hn : n < 2 ^ k.bits) : bitV .xor k m n = ((m ^^^ n : Nat) : Int) ∧ bitV .and k m n = ((m &&& n : Nat) : Int) ∧ bitV .or k m n = ((m ||| n : Nat) : Int) := by
  have h1 : (BitVec.ofNat k.bits m).toNat = m := by rw [BitVec.toNat_ofNat, Nat.mod_eq_of_lt hm]
  have h2 : (BitVec.ofNat k.bits n).toNat = n := by rw [BitVec.toNat_ofNat, Nat.mod_eq_of_lt hn]
  refine ⟨?_, ?_, ?_⟩ <;> simp only [bitV, ofInt_nat, BitVec.toNat_xor, BitVec.toNat_and, BitVec.toNat_or, h1, h2] <;> rw [wrap_u _ hk, Nat.mod_eq_of_lt]
  · exact Nat.xor_lt_two_pow hm hn
  · exact Nat.lt_of_le_of_lt Nat.and_le_left hm
  · exact Nat.or_lt_two_pow hm hn
end
section
variable {P : Program} {dst : Option Nat} {ty : TypeId} {e : Operand → A} {β : Bx} {T T0 : TypeId} {x y : Operand}
end
end Go.Proofs.YtnkpnnphmimagaaDoor


/-
  The pure layer: arrays of bytes, sliced. No condition.
-/
namespace Go.Proofs.YtnkpnnphmimagaaDoor
set_option linter.unusedSimpArgs false
set_option linter.unusedVariables false
open Go.RowKit

abbrev byD (b : List UInt8) : D := .sl 1 (b.map fun c => [u8D c])
theorem run_slice_arr {P : Program} {T el : TypeId} {t : TyI} {len esz : Nat} {er : Bool} (ht : mkTy P T = some t) (hk : t.kind = .array len el esz er) (hs : esz ≠ 0) {hi : Option Value} {h : Nat} {k : IntKind} (hh : hi = some (.int k (h : Int)) ∨ (hi = none ∧ h = len)) (hl : h ≤ len) (g : Nat) (w : World) :
    (Instr.sliceAt T (.pointer (some ⟨g, 0, none⟩)) none hi none).run P w = .ok (.slice (some ⟨g, 0, none⟩) h len) w := by
  obtain ⟨i, d, z, _, hd, _, _, _, _, _, hkd⟩ := mkTy_spec ht
  obtain ⟨rfl, rfl, rfl⟩ := kind_array (hkd.symm.trans hk)
  have hadd : (⟨g, 0, none⟩ : Addr).add (0 * P.cellsOf el) = ⟨g, 0, none⟩ := by rw [Nat.zero_mul]; exact Addr.add_mid g 0 0
  rcases hh with rfl | ⟨rfl, rfl⟩
  · simp [Instr.sliceAt, Instr.sureAddr, run_underlying hd, Instr.sliceBounds, Instr.sliceBound, asIntOf, Sem.run_bind, run_sizeOf hs, hadd, hl]
    exact fun _ => Addr.add_mid g 0 0
  · simp [Instr.sliceAt, Instr.sureAddr, run_underlying hd, Instr.sliceBounds, Sem.run_bind, run_sizeOf hs, hadd]
    exact fun _ => Addr.add_mid g 0 0
section
variable {P : Program} {dst : Option Nat} {ty : TypeId} {e : Operand → A} {β : Bx} {T T0 T1 : TypeId} {x y : Operand}
/-- A slice of an array that lies in a variable. -/
theorem does_slice_sx {t : TyI} {el : TypeId} {len esz id h : Nat} {er : Bool} {hi : Option Operand} (ht : mkTy P T = some t) (hk : t.kind = .array len el esz er) (hs : esz ≠ 0) (hx : e x = .px id 0) (hh : hiIs e h len hi) (hl : h ≤ len) :
    Does P dst (.slice T x none hi none) ty e β (.sx id h len) [] [] :=
  Does.of_run fun C γ _ ρ I w _ a hops o ho _ => by
    obtain ⟨hb, hp⟩ := hops x (by simp [Op.operands])
    rw [hx] at hb hp
    obtain ⟨g, hg, hp⟩ := hp
    obtain ⟨k2, v2⟩ := hi_val (a := a) hh fun y hy => (hops y (by cases hi <;> simp_all [Op.operands])).2
    refine ⟨_, ?_, hb, g, hg, rfl⟩
    simp only [execOp, ho, hp, Sem.run_bind, Option.map_none, run_slice_arr ht hk hs v2 hl g w]
    rfl
theorem by_repC {I : Nat → Prop} {w : World} : ∀ {k : List UInt8} {xs : List Value}, RepR I w 1 (k.map fun c => [u8D c]) xs → xs = k.map (fun c => Value.int .u8 (c.toNat : Int))
  | [], _, h => h
  | c :: k, _, ⟨us, us', hx, h1, ⟨u, us2, hy, _, hu, hz⟩, h2⟩ => by
    have hu : u = .int .u8 (c.toNat : Int) := hu.1
    have hz : us2 = [] := hz
    rw [hx, hy, hu, hz, by_repC h2]; rfl
end
end Go.Proofs.YtnkpnnphmimagaaDoor


/-
  The pure layer: bytes and texts. No condition.
-/
namespace Go.Proofs.YtnkpnnphmimagaaDoor
set_option linter.unusedSimpArgs false
set_option linter.unusedVariables false
open Go.RowKit

abbrev byS (l : List UInt8) : ByteArray := ⟨l.toArray⟩
theorem by_cells {I : Nat → Prop} {w : World} {k : List UInt8} {v : Value} (h : RepD I w (byD k) v) : ∃ ad c, v = .slice ad k.length c ∧ (0 < k.length → ∃ g off, ad = some ⟨g, off, none⟩ ∧ ∀ j (hj : j < k.length), w.cell? ⟨g, off + j, none⟩ = some (.int .u8 (k[j].toNat : Int))) := by
  obtain ⟨ad, c, xs, h1, h2, h3, h4⟩ := h
  rw [List.length_map] at h1 h2 h4
  refine ⟨ad, c, h1, fun h0 => ?_⟩
  obtain ⟨g, off, e, _, hc⟩ := h4 h0
  refine ⟨g, off, e, fun j hj => hc j _ ?_⟩
  rw [by_repC h3, List.getElem?_map, List.getElem?_eq_getElem hj]
  rfl
theorem run_conv_bs {P : Program} {S el T : TypeId} {ts te tt : TyI} (hS : mkTy P S = some ts) (hkS : ts.kind = .slice el) (hE : mkTy P el = some te) (hkE : te.kind = .int .u8) (hT : mkTy P T = some tt) (hkT : tt.kind = .str) {w : World} {k : List UInt8} {ad : Option Addr} {c : Nat}
    (h : 0 < k.length → ∃ g off, ad = some ⟨g, off, none⟩ ∧ ∀ j (hj : j < k.length), w.cell? ⟨g, off + j, none⟩ = some (.int .u8 (k[j].toNat : Int))) : (convert S T (.slice ad k.length c)).run P w = .ok (.string (byS k)) w := by
  obtain ⟨_, d1, _, _, hd1, _, _, _, _, _, hk1⟩ := mkTy_spec hS
  obtain ⟨_, d2, _, _, hd2, _, _, _, _, _, hk2⟩ := mkTy_spec hE
  obtain ⟨_, d3, _, _, hd3, _, _, _, _, _, hk3⟩ := mkTy_spec hT
  have u1 : P.underlying S = some (.slice el) := by rw [hd1, kind_slice (hk1.symm.trans hkS)]
  have u2 : P.underlying el = some (.int .u8) := by rw [hd2, kind_int (hk2.symm.trans hkE)]
  have u3 : P.underlying T = some .string := by rw [hd3, kind_str (hk3.symm.trans hkT)]
  cases ad with
  | none =>
    have hk : k = [] := by
      rcases Nat.eq_zero_or_pos k.length with h0 | h0
      · exact List.eq_nil_of_length_eq_zero h0
      · obtain ⟨_, _, h1, _⟩ := h h0; cases h1
    subst hk
    rw [run_convert_bytes_string w S T el none _ c u1 u2 u3]
    simp [Conv.bytesToString]
    rfl
  | some a =>
    refine run_convert_bytes_back (P := P) w S T el a c k u1 u2 u3 fun j hj => ?_
    obtain ⟨g, off, h1, h2⟩ := h (by omega)
    injection h1 with h1
    subst h1
    rw [Addr.add_mid]
    exact h2 j hj
section
variable {P : Program} {dst : Option Nat} {ty : TypeId} {e : Operand → A} {β : Bx} {S T T0 el : TypeId} {x y : Operand} {ts te tt : TyI}
/-- string(b) -/
theorem does_conv_bs {k : List UInt8} (hS : mkTy P S = some ts) (hkS : ts.kind = .slice el) (hE : mkTy P el = some te) (hkE : te.kind = .int .u8) (hT : mkTy P T = some tt) (hkT : tt.kind = .str) (hx : e x = .d (byD k)) : Does P dst (.convert S T x) ty e β (.d (strD (byS k))) [] [] :=
  Does.of_run fun C γ _ ρ I w _ a hops o ho _ => by
    have h1 := (hops x (by simp [Op.operands])).2
    rw [hx] at h1
    obtain ⟨ad, c, h2, h3⟩ := by_cells h1
    refine ⟨.string (byS k), ?_, trivial, rfl, rfl⟩
    simp only [execOp, ho, h2, Sem.run_bind, run_conv_bs hS hkS hE hkE hT hkT h3]
    rfl
/-- []byte(s): new data -/
theorem does_conv_sb {s : ByteArray} (hS : mkTy P S = some ts) (hkS : ts.kind = .str) (hT : mkTy P T = some tt) (hkT : tt.kind = .slice el) (hE : mkTy P el = some te) (hkE : te.kind = .int .u8) (hx : e x = .d (strD s)) : Does P dst (.convert S T x) ty e β (.d (byD s.data.toList)) [] [] := by
  intro C γ hag ρ I w hm a hops o ho hd hty K Q hK
  obtain ⟨_, d1, _, _, hd1, _, _, _, _, _, hk1⟩ := mkTy_spec hS
  obtain ⟨_, d2, _, _, hd2, _, _, _, _, _, hk2⟩ := mkTy_spec hE
  obtain ⟨_, d3, _, _, hd3, _, _, _, _, _, hk3⟩ := mkTy_spec hT
  have u1 : P.underlying S = some .string := by rw [hd1, kind_str (hk1.symm.trans hkS)]
  have u2 : P.underlying el = some (.int .u8) := by rw [hd2, kind_int (hk2.symm.trans hkE)]
  have u3 : P.underlying T = some (.slice el) := by rw [hd3, kind_slice (hk3.symm.trans hkT)]
  have h1 := (hops x (by simp [Op.operands])).2
  rw [hx] at h1
  have h1 := repA_sc h1
  have hrun0 := run_bytes_of_string (P := P) w S T el s u1 u3 u2
  generalize hcap : grownCap w s.size 0 el = cap at hrun0
  have hge : s.size ≤ cap := by rw [← hcap]; exact grownCap_ge _ _ _ _
  unfold Oper.wp
  have hrun : (execOp a.eval o).run P w = .ok (.value (.slice (some ⟨w.heap.size, 0, none⟩) s.size cap)) (w.drew.alloc (.cells (bytesRow s cap) el ((bytesRow s cap).size, (bytesRow s cap).size + 1))) := by
    simp only [execOp, ho, h1, Sem.run_bind, hrun0]
    rfl
  rw [hrun, Oper.upon_value, hd]
  have hsz : (w.drew.alloc (.cells (bytesRow s cap) el ((bytesRow s cap).size, (bytesRow s cap).size + 1))).heap.size = w.heap.size + 1 := by
    show (w.heap.push _).size = _
    simp
  have hold : ∀ k, k < w.heap.size → (w.drew.alloc (.cells (bytesRow s cap) el ((bytesRow s cap).size, (bytesRow s cap).size + 1))).heap[k]? = w.heap[k]? := fun k hk => by
    show (w.heap.push _)[k]? = _
    rw [Array.getElem?_push, if_neg (by omega)]
  have hx2 : Ext γ ρ I w ρ (fun k => I k ∨ k = w.heap.size) (w.drew.alloc (.cells (bytesRow s cap) el ((bytesRow s cap).size, (bytesRow s cap).size + 1))) := ⟨⟨fun _ h => .inl h, fun g hg => hold g (hm.imm g hg)⟩, fun _ _ => rfl⟩
  have hmem := hm.upd [] hx2 rfl rfl rfl (by rw [hsz]; omega) (fun k h => by
      rw [hsz]
      rcases h with h | h
      · have := hm.imm k h; omega
      · omega) (fun k h => by
      rcases h with h | h
      · exact .inl h
      · subst h; exact .inr (.inl hm.size)) (fun _ => False) (fun k hk _ => hold k hk) (fun k h => h.elim) (fun i b' k hi' hn hlv' hbk' => ⟨fun h => h, fun h => by
      obtain ⟨o1, o2, _⟩ := hm.own i b' k hi' hlv' hbk'
      rcases h with h | h
      · exact o2 h
      · omega⟩) (fun i b' h => by cases h) (fun i j b' b'' k hi' => by cases hi')
  have hlen : s.data.toList.length = s.size := by rw [Array.length_toList]; rfl
  have hrepR : ∀ k : List UInt8, RepR (fun k => I k ∨ k = w.heap.size) (w.drew.alloc (.cells (bytesRow s cap) el ((bytesRow s cap).size, (bytesRow s cap).size + 1))) 1 (k.map fun c => [u8D c]) (k.map (fun c => Value.int .u8 (c.toNat : Int))) := by
    intro k
    induction k with
    | nil => rfl
    | cons c k ih => exact ⟨[_], _, rfl, rfl, ⟨_, _, rfl, fun _ => rfl, ⟨rfl, rfl⟩, rfl⟩, ih⟩
  refine hK _ ρ _ _ hmem hx2 trivial ⟨some ⟨w.heap.size, 0, none⟩, cap, s.data.toList.map (fun c => Value.int .u8 (c.toNat : Int)), ?_, ?_, hrepR _, fun _ => ⟨w.heap.size, 0, rfl, .inr rfl, fun j u hu => ?_⟩⟩
  · rw [List.length_map, hlen]
  · rw [List.length_map, hlen]; exact hge
  · rw [Nat.zero_add]
    have hcell := World.cell?_alloc_mark w.drew (bytesRow s cap) el ((bytesRow s cap).size, (bytesRow s cap).size + 1) j
    have hcell : (w.drew.alloc (.cells (bytesRow s cap) el ((bytesRow s cap).size, (bytesRow s cap).size + 1))).cell? ⟨w.heap.size, j, none⟩ = (bytesRow s cap)[j]? := hcell
    rw [hcell]
    rw [List.getElem?_map] at hu
    unfold bytesRow
    have hj : j < s.data.size := by
      cases hq : s.data.toList[j]? with
      | none => rw [hq] at hu; cases hu
      | some b => have := (List.getElem?_eq_some_iff.1 hq).1; simpa using this
    rw [Array.getElem?_append_left (by simpa using hj), Array.getElem?_map, ← Array.getElem?_toList]
    exact hu
/-- []byte("..") of a constant: the row is data from then on. -/
theorem does_conv_bb {E : TypeId} {id n : Nat} {es : List (List D)} (hS : mkTy P S = some ts) (hkS : ts.kind = .slice el) (hE : mkTy P el = some te) (hkE : te.kind = .int .u8) (hx : e x = .ow id n) (hlk : look id β = some (.row E 1 es)) (hn : 0 < es.length) :
    Does P dst (.convert S S x) ty e β (.d (.sl 1 es)) [(id, .dead)] [id] := by
  intro C γ hag ρ I w hm a hops o ho hd hty K Q hK
  have hl2 : look id γ = some (.row E 1 es) := (hag id (by simp)).trans hlk
  obtain ⟨_, d1, _, _, hd1, _, _, _, _, _, hk1⟩ := mkTy_spec hS
  obtain ⟨_, d2, _, _, hd2, _, _, _, _, _, hk2⟩ := mkTy_spec hE
  have u1 : P.underlying S = some (.slice el) := by rw [hd1, kind_slice (hk1.symm.trans hkS)]
  have u2 : P.underlying el = some (.int .u8) := by rw [hd2, kind_int (hk2.symm.trans hkE)]
  have h1 := (hops x (by simp [Op.operands])).2
  rw [hx] at h1
  have h1 := h1.1
  obtain ⟨xs, hown, hR⟩ := hm.box id _ hl2
  rcases hown.2 with ⟨_, h0⟩ | ⟨g, cap, cur, hv, _, hg, hcl, hcm, hcs, htk⟩
  · omega
  have hbk : blk (ρ id) = some g := by rw [hv]; rfl
  obtain ⟨o1, o2, o3⟩ := hm.own id _ g hl2 rfl hbk
  have hshape : w.shape? g = some (E, cur.size) := by unfold World.shape?; rw [hg]
  have hw' : (w.freeze ⟨g, cur.size, none⟩ 1).heap[g]? = some (.cells cur E (cur.size, cur.size + 1)) := by
    simp [World.freeze, Array.getElem?_modify, hg]
  have hold : ∀ k, k ≠ g → (w.freeze ⟨g, cur.size, none⟩ 1).heap[k]? = w.heap[k]? := fun k hk => by
    simp [World.freeze, Array.getElem?_modify, Ne.symm hk]
  have hsz : (w.freeze ⟨g, cur.size, none⟩ 1).heap.size = w.heap.size := by simp [World.freeze]
  have hx2 : Ext γ ρ I w ρ (fun k => I k ∨ k = g) (w.freeze ⟨g, cur.size, none⟩ 1) := ⟨⟨fun _ h => .inl h, fun k hk => hold k (fun e => by subst e; exact o2 hk)⟩, fun _ _ => rfl⟩
  have hmem := hm.upd [(id, Box.dead)] hx2 rfl rfl rfl (by rw [hsz]; exact Nat.le_refl _) (fun k h => by
      rw [hsz]
      rcases h with h | h
      · exact hm.imm k h
      · subst h; exact o1) (fun k h => by
      rcases h with h | h
      · exact .inl h
      · subst h; exact .inr o3) (fun k => k = g) (fun k hk hne => hold k hne) (fun k h => by subst h; exact o3) (fun i b' k hi' hn' hlv' hbk' => by
      have hne : k ≠ g := fun e => by subst e; exact look_one_none hn' (hm.inj i id b' _ _ hi' hl2 hlv' rfl hbk' hbk)
      exact ⟨hne, fun h => by
        rcases h with h | h
        · exact (hm.own i b' k hi' hlv' hbk').2.1 h
        · exact hne h⟩) (fun i b' h => by
      obtain ⟨rfl, rfl⟩ := look_one h
      exact ⟨trivial, trivial, fun h => by cases h⟩)
    (fun i j b' b'' k hi' hj _ _ _ _ => by rw [(look_one hi').1, (look_one hj).1])
  unfold Oper.wp
  have hrun : (execOp a.eval o).run P w = .ok (.value (.slice (some ⟨g, 0, none⟩) es.length cap)) (w.freeze ⟨g, cur.size, none⟩ 1) := by
    have hc : (convert S S (.slice (some ⟨g, 0, none⟩) es.length cap)).run P w = .ok (.slice (some ⟨g, 0, none⟩) es.length cap) (w.freeze ⟨g, cur.size, none⟩ 1) := by
      simp [convert, run_underlying u1, run_underlying u2, markStringish, hshape, Sem.run_bind]
    simp only [execOp, ho, h1, hv, Sem.run_bind, hc]
    rfl
  rw [hrun, Oper.upon_value, hd]
  refine hK _ ρ _ _ hmem hx2 trivial ⟨some ⟨g, 0, none⟩, cap, xs, rfl, hcl, RepR.ext hx2.toExtI 1 es xs hR, fun _ => ⟨g, 0, rfl, .inr rfl, fun j u hu => ?_⟩⟩
  rw [Nat.zero_add, cell_in hw']
  rw [← htk, List.getElem?_take] at hu
  split at hu
  · simpa using hu
  · cases hu
end
end Go.Proofs.YtnkpnnphmimagaaDoor


/-
  The pure layer: the smaller of two lengths; a part of a text of bytes. No condition.
-/
namespace Go.Proofs.YtnkpnnphmimagaaDoor
set_option linter.unusedSimpArgs false
set_option linter.unusedVariables false
open Go.RowKit

section
variable {P : Program} {dst : Option Nat} {ty : TypeId} {e : Operand → A} {β : Bx} {T : TypeId} {x y : Operand}
theorem does_min_nat {ts : Array TypeId} {a b : Nat} {p q : Int} (hx : e x = .d (iD p)) (hy : e y = .d (iD q)) (hp : p = a) (hq : q = b) : Does P dst (.call { callee := .builtin .min, args := #[x, y], argTypes := ts }) ty e β (.d (iD ((min a b : Nat) : Int))) [] [] := by
  have h := does_min (P := P) (dst := dst) (ty := ty) (β := β) (ts := ts) hx hy
  have e1 : (if q < p then q else p) = ((min a b : Nat) : Int) := by split <;> omega
  rwa [e1] at h
end
end Go.Proofs.YtnkpnnphmimagaaDoor


/-
  The pure layer: contracts whose (first) result is a slice of the caller's own; a row that is still nil. No condition.
-/
namespace Go.Proofs.YtnkpnnphmimagaaDoor
set_option linter.unusedSimpArgs false
set_option linter.unusedVariables false
open Go.RowKit

def mkRes (us : List Value) : Value := if h : us.toArray.size = 1 then us.toArray[0] else .tuple us.toArray
def NotMine (I : Nat → Prop) (w w' : World) (v : Value) : Nat → Prop := fun g => ((I g ∨ w.heap.size ≤ g) ∧ g < w'.heap.size) ∧ v.ownBlock ≠ some g
/-- A call's contract: a new slice of so many rows, and further data. -/
structure PCO (P : Program) (f : FuncId) (ds : List D) (E : TypeId) (sz : Nat) (es : List (List D)) (rest : List D) : Prop where
  enters : Enters P f
  calls : ∀ (I : Nat → Prop) (w : World) (vs : Array Value), okBlocks I w → RepC I w false ds vs.toList →
    Calls P f vs w fun e w' => ∃ v us xs, e = .returned (mkRes (v :: us)) ∧ w'.ownsRow 0 E sz v es.length xs ∧ (∀ g, v.ownBlock = some g → w.heap.size ≤ g) ∧
      RepR (NotMine I w w' v) w' sz es xs ∧ RepC (NotMine I w w' v) w' false rest us ∧ Below w.heap.size w w'
section
variable {P : Program}
theorem PCO.args {f : FuncId} {ds ds' : List D} {E : TypeId} {sz : Nat} {es : List (List D)} {rest : List D} (h : PCO P f ds E sz es rest) (hs : SubDs ds' ds) : PCO P f ds' E sz es rest :=
  ⟨h.enters, fun I w vs hI hv => h.calls I w vs hI (hs.rep hv)⟩
def RetO (P : Program) (rs : List ResultVar) (E : TypeId) (sz : Nat) (es : List (List D)) (rest : List D) (s : St) : Prop :=
  (∃ id n vs, resVs P s rs (.ow id n :: vs) ∧ look id s.β = some (.row E sz es) ∧ frzVs s.β vs = some rest ∧ look id (frzVsU s.β vs) = none) ∨
  (∃ vs, resVs P s rs (.d .nl :: vs) ∧ es = [] ∧ frzVs s.β vs = some rest)
def retO (P : Program) (rs : List ResultVar) (E : TypeId) (sz : Nat) (es : List (List D)) (rest : List D) : Exit → St → Prop
  | .normal, s => RetO P rs E sz es rest s
  | .ret, s => RetO P rs E sz es rest s
  | _, _ => False
theorem oe_ret {rs : List ResultVar} {E : TypeId} {sz : Nat} {es : List (List D)} {rest : List D} {s : St} (h : RetO P rs E sz es rest s) : retO P rs E sz es rest .ret s := h
theorem oe_norm {rs : List ResultVar} {E : TypeId} {sz : Nat} {es : List (List D)} {rest : List D} {s : St} (h : RetO P rs E sz es rest s) : retO P rs E sz es rest .normal s := h
end
section
variable {P : Program} {fr : Nat} {dst : Option Nat} {ty : TypeId} {e : Operand → A} {β : Bx}
theorem does_extractA {x : Operand} {vs : List A} {i : Nat} {v : A} (hx : e x = .tu vs) (hi : vs[i]? = some v) : Does P dst (.extract x i) ty e β v [] [] := by
  intro C γ hag ρ I w hm a hops o ho hd hty K Q hK
  obtain ⟨hb, hr⟩ := hops x (by simp [Op.operands])
  rw [hx] at hb hr
  obtain ⟨us, h1, h2⟩ := hr
  obtain ⟨u, h3, h4, _⟩ := repAs_get h2 hi
  have h3 : us[i]? = some u := by simpa using h3
  unfold Oper.wp
  have hrun : (execOp a.eval o).run P w = .ok (.value u) w := by
    simp [execOp, ho, h1, Instr.extract, h3, Sem.run_bind]
  rw [hrun, Oper.upon_value, hd]
  exact hK u ρ I w (by simpa using hm) (Ext.refl _ _ _ _) (by simpa using A.insB_mem hb v (List.mem_of_getElem? hi)) h4
end
end Go.Proofs.YtnkpnnphmimagaaDoor


/-
  The pure layer: a slice of one's own as an element of another one; numbers put together out of bytes. No condition.
-/
namespace Go.Proofs.YtnkpnnphmimagaaDoor
set_option linter.unusedSimpArgs false
set_option linter.unusedVariables false
open Go.RowKit

def setE (e : Operand → A) (t : Nat) (v : A) : Operand → A
  | .tmp t' => if t' = t then v else e (.tmp t')
  | y => e y
section
variable {P : Program} {fr : Nat} {dst : Option Nat} {ty : TypeId} {e : Operand → A} {β : Bx} {T T' : TypeId} {x y : Operand}
/-- An operand that is a slice of one's own is read as data from now on. -/
theorem does_frz {op : Op} (t : Nat) {id n sz : Nat} {es : List (List D)} {v : A} {ups : Bx} {rd : List Nat} (hx : e (.tmp t) = .ow id n) (hro : rowsOf β id = some (sz, es))
    (h : Does P dst op ty (setE e t (.d (.sl sz es))) ([(id, .frz sz es)] ++ β) v ups rd) : Does P dst op ty e β v (ups ++ [(id, .frz sz es)]) (id :: rd) := by
  intro C γ hag ρ I w hm a hops o ho hd hty K Q hK
  have hid : look id γ = look id β := hag id (by simp)
  have hro2 : rowsOf γ id = some (sz, es) := (rowsOf_agree hid).trans hro
  obtain ⟨I', m1, x1, r1⟩ := hm.freeze_any hro2
  refine h C ([(id, .frz sz es)] ++ γ) (fun j hj => ?_) ρ I' w m1 a (fun z hz => ?_) o ho hd hty K Q (fun vv ρ' I2 w' hm' hx' hb' hr' => ?_)
  · rw [look_append, look_append]
    by_cases hji : j = id
    · subst hji; simp [look_cons]
    · rw [look_cons, if_neg (Ne.symm hji)]
      show look j γ = look j β
      refine hag j ?_
      simp only [List.map_append, List.mem_append, List.mem_cons, List.cons_append] at hj ⊢
      rcases hj with hj | hj
      · exact .inr (.inl hj)
      · exact .inr (.inr (.inl hj))
  · obtain ⟨h1, h2⟩ := hops z hz
    have h1' : (e z).inB ([(id, Box.frz sz es)] ++ γ) := A.inB_mono (fun i hi => dom_append hi) _ h1
    have h2' := RepA.ext x1 _ _ h1 h2
    unfold setE
    split
    · rename_i t'
      split
      · rename_i e1
        subst e1
        rw [hx] at h2
        refine ⟨trivial, ?_⟩
        show RepD I' w (.sl sz es) _
        rw [h2.1]; exact r1
      · exact ⟨h1', h2'⟩
    · exact ⟨h1', h2'⟩
  · refine hK vv ρ' I2 w' (by rw [List.append_assoc]; exact hm') (x1.trans hx' (fun i hi => dom_append hi)) ?_ hr'
    rw [List.append_assoc]; exact hb'
end
section
variable {P : Program} {dst : Option Nat} {ty : TypeId} {e : Operand → A} {β : Bx} {T T' : TypeId} {x y : Operand}
end
end Go.Proofs.YtnkpnnphmimagaaDoor


/-
  The pure layer: a part of a slice with a bound on its capacity; parts of lists. No condition.
-/
namespace Go.Proofs.YtnkpnnphmimagaaDoor
set_option linter.unusedSimpArgs false
set_option linter.unusedVariables false
open Go.RowKit

section
variable {P : Program} {dst : Option Nat} {ty : TypeId} {e : Operand → A} {β : Bx} {T : TypeId} {x : Operand}
end
end Go.Proofs.YtnkpnnphmimagaaDoor

