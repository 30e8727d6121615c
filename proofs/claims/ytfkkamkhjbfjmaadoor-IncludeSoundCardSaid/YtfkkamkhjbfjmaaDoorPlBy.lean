/-
  The pure layer: bytes and texts. No condition.
-/
import Derived.Test.YtfkkamkhjbfjmaaDoorPlArr
import Derived.Laws.IdiomStrings
import Derived.Laws.BytesString
namespace Go.Proofs.YtfkkamkhjbfjmaaDoor
set_option linter.unusedSimpArgs false
set_option linter.unusedVariables false
open Go.RowKit

abbrev byS (l : List UInt8) : ByteArray := ⟨l.toArray⟩
theorem by_cells {I : Nat → Prop} {w : World} {k : List UInt8} {v : Value} (h : RepD I w (byD k) v) : ∃ ad c, v = .slice ad k.length c ∧ (0 < k.length → ∃ g off, ad = some ⟨g, off, none⟩ ∧ ∀ j (hj : j < k.length), w.cell? ⟨g, off + j, none⟩ = some (.int .u8 (k[j].toNat : Int))) := by
  obtain ⟨ad, c, xs, h1, h2, h3, h4⟩ := h
  rw [List.length_map] at h1 h2 h4
  refine ⟨ad, c, h1, fun h0 => ?_⟩
  obtain ⟨g, off, e, _, hc⟩ := h4 h0
  refine ⟨g, off, e, fun j hj => hc j _ ?_⟩
  rw [by_repC h3, List.getElem?_map, List.getElem?_eq_getElem hj]
  rfl
theorem run_conv_bs {P : Program} {S el T : TypeId} {ts te tt : TyI} (hS : mkTy P S = some ts) (hkS : ts.kind = .slice el) (hE : mkTy P el = some te) (hkE : te.kind = .int .u8) (hT : mkTy P T = some tt) (hkT : tt.kind = .str) {w : World} {k : List UInt8} {ad : Option Addr} {c : Nat}
    (h : 0 < k.length → ∃ g off, ad = some ⟨g, off, none⟩ ∧ ∀ j (hj : j < k.length), w.cell? ⟨g, off + j, none⟩ = some (.int .u8 (k[j].toNat : Int))) : (convert S T (.slice ad k.length c)).run P w = .ok (.string (byS k)) w := by
  obtain ⟨_, d1, _, _, hd1, _, _, _, _, _, hk1⟩ := mkTy_spec hS
  obtain ⟨_, d2, _, _, hd2, _, _, _, _, _, hk2⟩ := mkTy_spec hE
  obtain ⟨_, d3, _, _, hd3, _, _, _, _, _, hk3⟩ := mkTy_spec hT
  have u1 : P.underlying S = some (.slice el) := by rw [hd1, kind_slice (hk1.symm.trans hkS)]
  have u2 : P.underlying el = some (.int .u8) := by rw [hd2, kind_int (hk2.symm.trans hkE)]
  have u3 : P.underlying T = some .string := by rw [hd3, kind_str (hk3.symm.trans hkT)]
  cases ad with
  | none =>
    have hk : k = [] := by
      rcases Nat.eq_zero_or_pos k.length with h0 | h0
      · exact List.eq_nil_of_length_eq_zero h0
      · obtain ⟨_, _, h1, _⟩ := h h0; cases h1
    subst hk
    rw [run_convert_bytes_string w S T el none _ c u1 u2 u3]
    simp [Conv.bytesToString]
    rfl
  | some a =>
    refine run_convert_bytes_back (P := P) w S T el a c k u1 u2 u3 fun j hj => ?_
    obtain ⟨g, off, h1, h2⟩ := h (by omega)
    injection h1 with h1
    subst h1
    rw [Addr.add_mid]
    exact h2 j hj
section
variable {P : Program} {dst : Option Nat} {ty : TypeId} {e : Operand → A} {β : Bx} {S T T0 el : TypeId} {x y : Operand} {ts te tt : TyI}
/-- string(b) -/
theorem does_conv_bs {k : List UInt8} (hS : mkTy P S = some ts) (hkS : ts.kind = .slice el) (hE : mkTy P el = some te) (hkE : te.kind = .int .u8) (hT : mkTy P T = some tt) (hkT : tt.kind = .str) (hx : e x = .d (byD k)) : Does P dst (.convert S T x) ty e β (.d (strD (byS k))) [] [] :=
  Does.of_run fun C γ _ ρ I w _ a hops o ho _ => by
    have h1 := (hops x (by simp [Op.operands])).2
    rw [hx] at h1
    obtain ⟨ad, c, h2, h3⟩ := by_cells h1
    refine ⟨.string (byS k), ?_, trivial, rfl, rfl⟩
    simp only [execOp, ho, h2, Sem.run_bind, run_conv_bs hS hkS hE hkE hT hkT h3]
    rfl
/-- string(a[:n]) of an array that lies in a variable -/
theorem does_conv_sx {id n c : Nat} {l : List UInt8} (hS : mkTy P S = some ts) (hkS : ts.kind = .slice el) (hE : mkTy P el = some te) (hkE : te.kind = .int .u8) (hT : mkTy P T = some tt) (hkT : tt.kind = .str) (hx : e x = .sx id n c) (hlk : look id β = some (.var T0 (bA l))) (hn : n ≤ l.length) :
    Does P dst (.convert S T x) ty e β (.d (strD (byS (l.take n)))) [] [id] :=
  Does.of_run fun C γ hag ρ I w hm a hops o ho _ => by
    have hl2 : look id γ = some (.var T0 (bA l)) := (hag id (by simp)).trans hlk
    have h1 := (hops x (by simp [Op.operands])).2
    rw [hx] at h1
    obtain ⟨g, hg, h1⟩ := h1
    obtain ⟨g', us, k1, k2, k3, k4⟩ := var_cell hm hl2
    rw [hg] at k1
    injection k1 with k1; injection k1 with k1; injection k1 with k1
    subst k1
    have hln : (l.take n).length = n := by rw [List.length_take]; omega
    refine ⟨.string (byS (l.take n)), ?_, trivial, rfl, rfl⟩
    have hrun := run_conv_bs (P := P) hS hkS hE hkE hT hkT (w := w) (k := l.take n) (ad := some ⟨g, 0, none⟩) (c := c) (fun _ => ⟨g, 0, rfl, fun j hj => by
      have hjl : j < l.length := by omega
      have h5 : (bA l)[j]? = some (.d (u8D l[j])) := by rw [List.getElem?_map, List.getElem?_map, List.getElem?_eq_getElem hjl]; rfl
      obtain ⟨u, hu, hru, _⟩ := repAs_get k3 h5
      have hru : u = .int .u8 (l[j].toNat : Int) := hru.1
      rw [Nat.zero_add, cell_in k2, List.getElem_take]
      subst hru
      simpa using hu⟩)
    rw [hln] at hrun
    simp only [execOp, ho, h1, Sem.run_bind, hrun]
    rfl
/-- []byte(s): new data -/
theorem does_conv_sb {s : ByteArray} (hS : mkTy P S = some ts) (hkS : ts.kind = .str) (hT : mkTy P T = some tt) (hkT : tt.kind = .slice el) (hE : mkTy P el = some te) (hkE : te.kind = .int .u8) (hx : e x = .d (strD s)) : Does P dst (.convert S T x) ty e β (.d (byD s.data.toList)) [] [] := by
  intro C γ hag ρ I w hm a hops o ho hd hty K Q hK
  obtain ⟨_, d1, _, _, hd1, _, _, _, _, _, hk1⟩ := mkTy_spec hS
  obtain ⟨_, d2, _, _, hd2, _, _, _, _, _, hk2⟩ := mkTy_spec hE
  obtain ⟨_, d3, _, _, hd3, _, _, _, _, _, hk3⟩ := mkTy_spec hT
  have u1 : P.underlying S = some .string := by rw [hd1, kind_str (hk1.symm.trans hkS)]
  have u2 : P.underlying el = some (.int .u8) := by rw [hd2, kind_int (hk2.symm.trans hkE)]
  have u3 : P.underlying T = some (.slice el) := by rw [hd3, kind_slice (hk3.symm.trans hkT)]
  have h1 := (hops x (by simp [Op.operands])).2
  rw [hx] at h1
  have h1 := repA_sc h1
  have hrun0 := run_bytes_of_string (P := P) w S T el s u1 u3 u2
  generalize hcap : grownCap w s.size 0 el = cap at hrun0
  have hge : s.size ≤ cap := by rw [← hcap]; exact grownCap_ge _ _ _ _
  unfold Oper.wp
  have hrun : (execOp a.eval o).run P w = .ok (.value (.slice (some ⟨w.heap.size, 0, none⟩) s.size cap)) (w.drew.alloc (.cells (bytesRow s cap) el ((bytesRow s cap).size, (bytesRow s cap).size + 1))) := by
    simp only [execOp, ho, h1, Sem.run_bind, hrun0]
    rfl
  rw [hrun, Oper.upon_value, hd]
  have hsz : (w.drew.alloc (.cells (bytesRow s cap) el ((bytesRow s cap).size, (bytesRow s cap).size + 1))).heap.size = w.heap.size + 1 := by
    show (w.heap.push _).size = _
    simp
  have hold : ∀ k, k < w.heap.size → (w.drew.alloc (.cells (bytesRow s cap) el ((bytesRow s cap).size, (bytesRow s cap).size + 1))).heap[k]? = w.heap[k]? := fun k hk => by
    show (w.heap.push _)[k]? = _
    rw [Array.getElem?_push, if_neg (by omega)]
  have hx2 : Ext γ ρ I w ρ (fun k => I k ∨ k = w.heap.size) (w.drew.alloc (.cells (bytesRow s cap) el ((bytesRow s cap).size, (bytesRow s cap).size + 1))) := ⟨⟨fun _ h => .inl h, fun g hg => hold g (hm.imm g hg)⟩, fun _ _ => rfl⟩
  have hmem := hm.upd [] hx2 rfl rfl rfl (by rw [hsz]; omega) (fun k h => by
      rw [hsz]
      rcases h with h | h
      · have := hm.imm k h; omega
      · omega) (fun k h => by
      rcases h with h | h
      · exact .inl h
      · subst h; exact .inr (.inl hm.size)) (fun _ => False) (fun k hk _ => hold k hk) (fun k h => h.elim) (fun i b' k hi' hn hlv' hbk' => ⟨fun h => h, fun h => by
      obtain ⟨o1, o2, _⟩ := hm.own i b' k hi' hlv' hbk'
      rcases h with h | h
      · exact o2 h
      · omega⟩) (fun i b' h => by cases h) (fun i j b' b'' k hi' => by cases hi')
  have hlen : s.data.toList.length = s.size := by rw [Array.length_toList]; rfl
  have hrepR : ∀ k : List UInt8, RepR (fun k => I k ∨ k = w.heap.size) (w.drew.alloc (.cells (bytesRow s cap) el ((bytesRow s cap).size, (bytesRow s cap).size + 1))) 1 (k.map fun c => [u8D c]) (k.map (fun c => Value.int .u8 (c.toNat : Int))) := by
    intro k
    induction k with
    | nil => rfl
    | cons c k ih => exact ⟨[_], _, rfl, rfl, ⟨_, _, rfl, fun _ => rfl, ⟨rfl, rfl⟩, rfl⟩, ih⟩
  refine hK _ ρ _ _ hmem hx2 trivial ⟨some ⟨w.heap.size, 0, none⟩, cap, s.data.toList.map (fun c => Value.int .u8 (c.toNat : Int)), ?_, ?_, hrepR _, fun _ => ⟨w.heap.size, 0, rfl, .inr rfl, fun j u hu => ?_⟩⟩
  · rw [List.length_map, hlen]
  · rw [List.length_map, hlen]; exact hge
  · rw [Nat.zero_add]
    have hcell := World.cell?_alloc_mark w.drew (bytesRow s cap) el ((bytesRow s cap).size, (bytesRow s cap).size + 1) j
    have hcell : (w.drew.alloc (.cells (bytesRow s cap) el ((bytesRow s cap).size, (bytesRow s cap).size + 1))).cell? ⟨w.heap.size, j, none⟩ = (bytesRow s cap)[j]? := hcell
    rw [hcell]
    rw [List.getElem?_map] at hu
    unfold bytesRow
    have hj : j < s.data.size := by
      cases hq : s.data.toList[j]? with
      | none => rw [hq] at hu; cases hu
      | some b => have := (List.getElem?_eq_some_iff.1 hq).1; simpa using this
    rw [Array.getElem?_append_left (by simpa using hj), Array.getElem?_map, ← Array.getElem?_toList]
    exact hu
/-- []byte("..") of a constant: the row is data from then on. -/
theorem does_conv_bb {E : TypeId} {id n : Nat} {es : List (List D)} (hS : mkTy P S = some ts) (hkS : ts.kind = .slice el) (hE : mkTy P el = some te) (hkE : te.kind = .int .u8) (hx : e x = .ow id n) (hlk : look id β = some (.row E 1 es)) (hn : 0 < es.length) :
    Does P dst (.convert S S x) ty e β (.d (.sl 1 es)) [(id, .dead)] [id] := by
  intro C γ hag ρ I w hm a hops o ho hd hty K Q hK
  have hl2 : look id γ = some (.row E 1 es) := (hag id (by simp)).trans hlk
  obtain ⟨_, d1, _, _, hd1, _, _, _, _, _, hk1⟩ := mkTy_spec hS
  obtain ⟨_, d2, _, _, hd2, _, _, _, _, _, hk2⟩ := mkTy_spec hE
  have u1 : P.underlying S = some (.slice el) := by rw [hd1, kind_slice (hk1.symm.trans hkS)]
  have u2 : P.underlying el = some (.int .u8) := by rw [hd2, kind_int (hk2.symm.trans hkE)]
  have h1 := (hops x (by simp [Op.operands])).2
  rw [hx] at h1
  have h1 := h1.1
  obtain ⟨xs, hown, hR⟩ := hm.box id _ hl2
  rcases hown.2 with ⟨_, h0⟩ | ⟨g, cap, cur, hv, _, hg, hcl, hcm, hcs, htk⟩
  · omega
  have hbk : blk (ρ id) = some g := by rw [hv]; rfl
  obtain ⟨o1, o2, o3⟩ := hm.own id _ g hl2 rfl hbk
  have hshape : w.shape? g = some (E, cur.size) := by unfold World.shape?; rw [hg]
  have hw' : (w.freeze ⟨g, cur.size, none⟩ 1).heap[g]? = some (.cells cur E (cur.size, cur.size + 1)) := by
    simp [World.freeze, Array.getElem?_modify, hg]
  have hold : ∀ k, k ≠ g → (w.freeze ⟨g, cur.size, none⟩ 1).heap[k]? = w.heap[k]? := fun k hk => by
    simp [World.freeze, Array.getElem?_modify, Ne.symm hk]
  have hsz : (w.freeze ⟨g, cur.size, none⟩ 1).heap.size = w.heap.size := by simp [World.freeze]
  have hx2 : Ext γ ρ I w ρ (fun k => I k ∨ k = g) (w.freeze ⟨g, cur.size, none⟩ 1) := ⟨⟨fun _ h => .inl h, fun k hk => hold k (fun e => by subst e; exact o2 hk)⟩, fun _ _ => rfl⟩
  have hmem := hm.upd [(id, Box.dead)] hx2 rfl rfl rfl (by rw [hsz]; exact Nat.le_refl _) (fun k h => by
      rw [hsz]
      rcases h with h | h
      · exact hm.imm k h
      · subst h; exact o1) (fun k h => by
      rcases h with h | h
      · exact .inl h
      · subst h; exact .inr o3) (fun k => k = g) (fun k hk hne => hold k hne) (fun k h => by subst h; exact o3) (fun i b' k hi' hn' hlv' hbk' => by
      have hne : k ≠ g := fun e => by subst e; exact look_one_none hn' (hm.inj i id b' _ _ hi' hl2 hlv' rfl hbk' hbk)
      exact ⟨hne, fun h => by
        rcases h with h | h
        · exact (hm.own i b' k hi' hlv' hbk').2.1 h
        · exact hne h⟩) (fun i b' h => by
      obtain ⟨rfl, rfl⟩ := look_one h
      exact ⟨trivial, trivial, fun h => by cases h⟩)
    (fun i j b' b'' k hi' hj _ _ _ _ => by rw [(look_one hi').1, (look_one hj).1])
  unfold Oper.wp
  have hrun : (execOp a.eval o).run P w = .ok (.value (.slice (some ⟨g, 0, none⟩) es.length cap)) (w.freeze ⟨g, cur.size, none⟩ 1) := by
    have hc : (convert S S (.slice (some ⟨g, 0, none⟩) es.length cap)).run P w = .ok (.slice (some ⟨g, 0, none⟩) es.length cap) (w.freeze ⟨g, cur.size, none⟩ 1) := by
      simp [convert, run_underlying u1, run_underlying u2, markStringish, hshape, Sem.run_bind]
    simp only [execOp, ho, h1, hv, Sem.run_bind, hc]
    rfl
  rw [hrun, Oper.upon_value, hd]
  refine hK _ ρ _ _ hmem hx2 trivial ⟨some ⟨g, 0, none⟩, cap, xs, rfl, hcl, RepR.ext hx2.toExtI 1 es xs hR, fun _ => ⟨g, 0, rfl, .inr rfl, fun j u hu => ?_⟩⟩
  rw [Nat.zero_add, cell_in hw']
  rw [← htk, List.getElem?_take] at hu
  split at hu
  · simpa using hu
  · cases hu
end
end Go.Proofs.YtfkkamkhjbfjmaaDoor
