/-
  The pure layer: a range over a text; a rune as a text. No condition.
-/
import Derived.Test.YtnkpnnphmimagaaDoorZC
import Derived.Lib.OthersKept
import Derived.Laws.RangeAny
import Derived.Laws.Runes
namespace Go.Proofs.YtnkpnnphmimagaaDoor
set_option linter.unusedSimpArgs false
set_option linter.unusedVariables false
open Go.RowKit

section
variable {P : Program} {fr : Nat} {dst : Option Nat} {ty : TypeId} {e : Operand → A} {β : Bx}
theorem does_range {T : TypeId} {t : TyI} {x : Operand} {s : ByteArray} (ht : mkTy P T = some t) (hk : t.kind = .str) (hx : e x = .d (strD s)) (hf : look fr β = none) : Does P (some fr) (.range T x) ty e β (.px fr 0) [(fr, .itr s 0)] [] := by
  intro C γ hag ρ I w hm a hops o ho hd hty K Q hK
  obtain ⟨i, d, z, _, hd', _, _, _, _, _, hkd⟩ := mkTy_spec ht
  have hd2 : P.underlying T = some .string := by rw [hd', kind_str (hkd.symm.trans hk)]
  have hf2 : look fr γ = none := (hag fr (by simp)).trans hf
  have hv := (hops x (by simp [Op.operands])).2
  rw [hx] at hv
  have hv := repA_sc hv
  obtain ⟨h1, h2⟩ := hm.new_box hf2 (v := .pointer (some ⟨w.heap.size, 0, none⟩)) (b := .itr s 0) (grownBy_alloc' w (.stringIter s 0)) (fun g hg => by
      simp only [blk, Option.some.injEq] at hg; subst hg; simp) (fun hx => ⟨w.heap.size, by rw [upd_same], push_at w _⟩) trivial
  unfold Oper.wp
  have hrun : (execOp a.eval o).run P w = .ok (.value (.pointer (some ⟨w.heap.size, 0, none⟩))) { w with heap := w.heap.push (.stringIter s 0) } := by
    unfold execOp
    simp only [ho, hv]
    simp only [Sem.run_bind]
    rw [run_range_string w T s hd2]
    rfl
  rw [hrun, Oper.upon_value, hd]
  exact hK _ _ I _ h1 h2 (by unfold A.inB dom; simp [look_append, look_cons]) ⟨w.heap.size, by rw [upd_same], rfl⟩
theorem iterAt_grown (w : World) (k : Nat) (s : ByteArray) (pos : Nat) : w.grownBy (w.iterAt k s pos) (some k) :=
  ⟨rfl, rfl, rfl, by simp [World.iterAt], fun j hj hne => Lib.iterAt_other w k j s pos (fun e => hne (by rw [e]))⟩
theorem does_next {x : Operand} {id : Nat} {s : ByteArray} {pos : Nat} (hx : e x = .px id 0) (hl : look id β = some (.itr s pos)) (hp : pos < s.size) :
    Does P dst (.next x true) ty e β (.d (.tu [bD true, iD pos, .sc (.int .i32 ((Utf8.decode s pos).1 : Nat))])) [(id, .itr s (pos + (Utf8.decode s pos).2))] [id] := by
  intro C γ hag ρ I w hm a hops o ho hd hty K Q hK
  have hl2 : look id γ = some (.itr s pos) := (hag id (by simp)).trans hl
  obtain ⟨hb, hv⟩ := hops x (by simp [Op.operands])
  rw [hx] at hv
  obtain ⟨g, hg, hv⟩ := hv
  obtain ⟨g', k1, k2⟩ := hm.box id _ hl2
  rw [hg] at k1
  injection k1 with k1; injection k1 with k1; injection k1 with k1
  subst k1
  have hmem := hm.set_box hl2 rfl (g := g) (by rw [hg]; rfl) (iterAt_grown w g s (pos + (Utf8.decode s pos).2)) (b := .itr s (pos + (Utf8.decode s pos).2)) (fun hx => ⟨g, hg, Lib.iterAt_heap w g s pos _ k2⟩) trivial
  unfold Oper.wp
  have hrun : (execOp a.eval o).run P w = .ok (.value (.tuple #[.bool true, .int .i64 pos, .int .i32 (Utf8.decode s pos).1])) (w.iterAt g s (pos + (Utf8.decode s pos).2)) := by
    unfold execOp
    simp only [ho, hv]
    simp only [Sem.run_bind]
    rw [Lib.run_next_any_at w g s pos _ k2 hp]
    simp [Sem.run_bind]
  rw [hrun, Oper.upon_value, hd]
  exact hK _ ρ I _ hmem.1 hmem.2 trivial ⟨_, rfl, ⟨_, _, rfl, nofun, ⟨rfl, rfl⟩, ⟨_, _, rfl, nofun, ⟨rfl, rfl⟩, ⟨_, _, rfl, nofun, ⟨rfl, rfl⟩, rfl⟩⟩⟩⟩
theorem does_next_end {x : Operand} {id : Nat} {s : ByteArray} {pos : Nat} (hx : e x = .px id 0) (hl : look id β = some (.itr s pos)) (hp : s.size ≤ pos) :
    Does P dst (.next x true) ty e β (.d (.tu [bD false])) [] [id] := by
  intro C γ hag ρ I w hm a hops o ho hd hty K Q hK
  have hl2 : look id γ = some (.itr s pos) := (hag id (by simp)).trans hl
  obtain ⟨hb, hv⟩ := hops x (by simp [Op.operands])
  rw [hx] at hv
  obtain ⟨g, hg, hv⟩ := hv
  obtain ⟨g', k1, k2⟩ := hm.box id _ hl2
  rw [hg] at k1
  injection k1 with k1; injection k1 with k1; injection k1 with k1
  subst k1
  unfold Oper.wp
  have hrun : (execOp a.eval o).run P w = .ok (.value (.tuple #[.bool false])) w := by
    unfold execOp
    simp only [ho, hv]
    simp only [Sem.run_bind]
    rw [Lib.run_next_end_at w g s pos _ k2 (by omega)]
    simp [Sem.run_bind]
  rw [hrun, Oper.upon_value, hd]
  exact hK _ ρ I _ hm ⟨⟨fun _ h => h, fun _ _ => rfl⟩, fun _ _ => rfl⟩ trivial ⟨_, rfl, ⟨_, _, rfl, nofun, ⟨rfl, rfl⟩, rfl⟩⟩
theorem does_conv_rune {S T : TypeId} {s t : TyI} {x : Operand} {k : IntKind} {n : Int} (hs : mkTy P S = some s) (ht : mkTy P T = some t) (hk : t.kind = .str) (hx : e x = .d (.sc (.int k n))) : Does P dst (.convert S T x) ty e β (.d (strD (Utf8.encode n))) [] [] :=
  Does.of_run fun C γ _ ρ I w _ a hops o ho _ => by
    obtain ⟨i, d, z, _, hd, _, _, _, _, _, hkd⟩ := mkTy_spec ht
    obtain ⟨i', d', z', _, hd', _, _, _, _, _, hkd'⟩ := mkTy_spec hs
    have hd2 : P.underlying T = some .string := by rw [hd, kind_str (hkd.symm.trans hk)]
    have h1 := (hops x (by simp [Op.operands])).2
    rw [hx] at h1
    have h1 := repA_sc h1
    refine ⟨.string (Utf8.encode n), ?_, trivial, rfl, rfl⟩
    unfold execOp
    simp only [ho, h1]
    simp only [Sem.run_bind]
    rw [run_convert_int_string w S T k n (by rw [hd']; rfl) hd2]
    simp [Sem.run_bind]
end
end Go.Proofs.YtnkpnnphmimagaaDoor

