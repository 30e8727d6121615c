/-
  From a contract of the pure layer to a call on the machine. No condition.
-/
import Derived.Test.YtobgjkkadnihjaaZPick
import Derived.Test.YtobgjkkadnihjaaZC
namespace Go.Proofs.Ytobgjkkadnihjaa
set_option linter.unusedSimpArgs false
set_option linter.unusedVariables false
open Go.RowKit

abbrev Lt (w : World) : Nat → Prop := fun g => g < w.heap.size
theorem repR_raws (I : Nat → Prop) (w : World) : ∀ l : List Raw, RepR I w 4 (l.map Raw.cs) (l.flatMap Raw.cells)
  | [] => rfl
  | r :: l => ⟨r.cells, l.flatMap Raw.cells, rfl, rfl, ⟨_, _, rfl, fun _ => rfl, ⟨rfl, rfl⟩, _, _, rfl, fun _ => rfl, ⟨rfl, rfl⟩, _, _, rfl, fun _ => rfl, ⟨rfl, rfl⟩, _, _, rfl, fun _ => rfl, ⟨rfl, rfl⟩, rfl⟩, repR_raws I w l⟩
theorem rep_raws {w : World} {A : Option Addr} {l : List Raw} {c : Nat} (h : RdR w w.heap.size A l) (hc : l.length ≤ c) : RepD (Lt w) w (.sl 4 (l.map Raw.cs)) (.slice A l.length c) := by
  refine ⟨A, c, l.flatMap Raw.cells, by rw [List.length_map], by rw [List.length_map]; exact hc, repR_raws _ _ l, fun h0 => ?_⟩
  rw [List.length_map] at h0
  have hlen : (l.flatMap Raw.cells).length = l.length * 4 := h.1
  obtain ⟨b, off, e, hb, _, hj⟩ := Reads.cell h (j := 0) (by omega)
  refine ⟨b, off, e, hb, fun j u hu => ?_⟩
  obtain ⟨hlt, _⟩ := List.getElem?_eq_some_iff.1 hu
  rw [hj j hlt, hu]
theorem repR_by (I : Nat → Prop) (w : World) : ∀ l : List UInt8, RepR I w 1 (l.map fun c => [u8D c]) (l.map B8)
  | [] => rfl
  | c :: l => ⟨[B8 c], l.map B8, rfl, rfl, ⟨_, _, rfl, fun _ => rfl, ⟨rfl, rfl⟩, rfl⟩, repR_by I w l⟩
theorem rep_by {w : World} {A : Option Addr} {l : List UInt8} {c : Nat} (h : RdB w w.heap.size A l) (hc : l.length ≤ c) : RepD (Lt w) w (byD l) (.slice A l.length c) := by
  refine ⟨A, c, l.map B8, by rw [List.length_map], by rw [List.length_map]; exact hc, repR_by _ _ l, fun h0 => ?_⟩
  rw [List.length_map] at h0
  have hlen : (l.map B8).length = l.length * 1 := h.1
  obtain ⟨b, off, e, hb, _, hj⟩ := Reads.cell h (j := 0) (by omega)
  refine ⟨b, off, e, hb, fun j u hu => ?_⟩
  obtain ⟨hlt, _⟩ := List.getElem?_eq_some_iff.1 hu
  rw [hj j hlt, hu]
theorem rep_raw (w : World) (r : Raw) : RepD (Lt w) w (.ag r.cs) (.agg #[.int .i64 r.kind, .int .i64 r.a, .int .i64 r.b, .string r.text]) :=
  ⟨_, rfl, ⟨_, _, rfl, fun _ => rfl, ⟨rfl, rfl⟩, _, _, rfl, fun _ => rfl, ⟨rfl, rfl⟩, _, _, rfl, fun _ => rfl, ⟨rfl, rfl⟩, _, _, rfl, fun _ => rfl, ⟨rfl, rfl⟩, rfl⟩⟩
theorem rep_int (w : World) (n : Int) : RepD (Lt w) w (iD n) (.int .i64 n) := ⟨rfl, rfl⟩
theorem rep_cons {w : World} {d : D} {v : Value} {ds : List D} {vs : List Value} (h : RepD (Lt w) w d v) (h2 : RepC (Lt w) w false ds vs) : RepC (Lt w) w false (d :: ds) (v :: vs) := ⟨v, vs, rfl, fun h => (by cases h), h, h2⟩
theorem calls_of_pc {P : Program} {f : FuncId} {ds : List D} {vs : Array Value} {w : World} (h : PC P f ds (bD true)) (hr : RepC (Lt w) w false ds vs.toList) (hg : GlOk (Lt w) w := by exact ⟨fun g cs h => (by cases h), fun g h => absurd h List.not_mem_nil, fun g h => absurd h List.not_mem_nil⟩) : Calls P f vs w fun e w' => e = .returned (.bool true) ∧ Below w.heap.size w w' :=
  (h.calls (Lt w) w vs ⟨fun g h => h, hg⟩ hr).mono fun e w' ⟨v, he, hv, hb⟩ => ⟨by rw [he, hv.1], hb⟩
end Go.Proofs.Ytobgjkkadnihjaa

