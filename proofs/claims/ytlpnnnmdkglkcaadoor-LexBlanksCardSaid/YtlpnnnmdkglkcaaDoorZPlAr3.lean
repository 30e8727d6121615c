/-
  The pure layer: the rest of an array of bytes that lies in a variable, as data; a byte stored into one. No condition.
-/
import Derived.Test.YtlpnnnmdkglkcaaDoorZC
namespace Go.Proofs.YtlpnnnmdkglkcaaDoor
set_option linter.unusedSimpArgs false
set_option linter.unusedVariables false
open Go.RowKit

theorem run_slice_tail {P : Program} {T el : TypeId} {t : TyI} {len lo : Nat} {er : Bool} {k' : IntKind} (ht : mkTy P T = some t) (hk : t.kind = .array len el 1 er) (h3 : lo < len) (g : Nat) (w : World) :
    (Instr.sliceAt T (.pointer (some ⟨g, 0, none⟩)) (some (.int k' (lo : Int))) none none).run P w = .ok (.slice (some ⟨g, lo, none⟩) (len - lo) (len - lo)) w := by
  obtain ⟨i, d, z, _, hd, _, _, _, _, _, hkd⟩ := mkTy_spec ht
  obtain ⟨rfl, h1, rfl⟩ := kind_array (hkd.symm.trans hk)
  have hadd : (⟨g, 0, none⟩ : Addr).add (lo * P.cellsOf el) = ⟨g, lo, none⟩ := by
    rw [← h1, Nat.mul_one]
    exact (Addr.add_mid g 0 lo).trans (by rw [Nat.zero_add])
  simp [Instr.sliceAt, Instr.sureAddr, run_underlying hd, Instr.sliceBounds, Instr.sliceBound, asIntOf, Sem.run_bind, run_sizeOf (by rw [← h1]; exact Nat.one_ne_zero), hadd, Nat.le_of_lt h3]
  omega
section
variable {P : Program} {dst : Option Nat} {ty : TypeId} {e : Operand → A} {β : Bx} {T T0 T1 : TypeId} {x y : Operand}
theorem does_slice_tailD {t : TyI} {el : TypeId} {len id lo : Nat} {er : Bool} {q : Operand} {k' : IntKind} {ds : List D} (ht : mkTy P T = some t) (hk : t.kind = .array len el 1 er) (hx : e x = .px id 0) (hq : e q = .d (.sc (.int k' (lo : Int)))) (h3 : lo < len) (hlk : look id β = some (.var T0 (ds.map A.d))) (hlen : ds.length = len) :
    Does P dst (.slice T x (some q) none none) ty e β (.d (.sl 1 ((ds.drop lo).map fun d => [d]))) [(id, .dead)] [id] := by
  intro C γ hag ρ I w hm a hops o ho hd hty K Q hK
  have hl2 : look id γ = some (.var T0 (ds.map A.d)) := (hag id (by simp)).trans hlk
  obtain ⟨hb, hp'⟩ := hops x (by simp [Op.operands])
  rw [hx] at hp'
  obtain ⟨g, hg, hp'⟩ := hp'
  obtain ⟨g', us, k1, k2, k3, k4⟩ := var_cell hm hl2
  rw [hg] at k1
  injection k1 with k1; injection k1 with k1; injection k1 with k1
  subst k1
  have vq : a.eval q = .int k' (lo : Int) := by
    have := (hops q (by simp [Op.operands])).2
    rw [hq] at this
    exact this.1
  have hbk : blk (ρ id) = some g := by rw [hg]; rfl
  obtain ⟨o1, o2, o3⟩ := hm.own id _ g hl2 rfl hbk
  have hx2 : Ext γ ρ I w ρ (fun k => I k ∨ k = g) w := ⟨⟨fun _ h => .inl h, fun _ _ => rfl⟩, fun _ _ => rfl⟩
  have hmem := hm.upd [(id, Box.dead)] hx2 rfl rfl rfl (Nat.le_refl _) (fun k h => by
      rcases h with h | h
      · exact hm.imm k h
      · subst h; exact o1) (fun k h => by
      rcases h with h | h
      · exact .inl h
      · subst h; exact .inr o3) (fun _ => False) (fun k hk _ => rfl) (fun k h => h.elim) (fun i b' k hi' hn hlv' hbk' => ⟨fun h => h, fun h => by
      rcases h with h | h
      · exact (hm.own i b' k hi' hlv' hbk').2.1 h
      · subst h; exact look_one_none hn (hm.inj i id b' _ _ hi' hl2 hlv' rfl hbk' hbk)⟩) (fun i b' h => by
      obtain ⟨rfl, rfl⟩ := look_one h
      exact ⟨trivial, trivial, fun h => by cases h⟩)
    (fun i j b' b'' k hi' hj _ _ _ _ => by rw [(look_one hi').1, (look_one hj).1])
  unfold Oper.wp
  have hrun : (execOp a.eval o).run P w = .ok (.value (.slice (some ⟨g, lo, none⟩) (len - lo) (len - lo))) w := by
    simp only [execOp, ho, hp', Sem.run_bind, Option.map_none, Option.map_some, vq, run_slice_tail ht hk h3 g w]
    rfl
  rw [hrun, Oper.upon_value, hd]
  refine hK _ ρ _ w hmem hx2 trivial ⟨some ⟨g, lo, none⟩, len - lo, us.toList.drop lo, ?_, ?_, ?_, fun _ => ⟨g, lo, rfl, .inr rfl, fun j u hu => ?_⟩⟩
  · simp [hlen]
  · simp [hlen]
  · have h3 : RepC I w true ds us.toList := repC_of_A k3
    have h4 := RepC.ext hx2.toExtI true _ _ h3
    exact repR_ones (repC_drop lo h4)
  · rw [List.getElem?_drop] at hu
    rw [cell_in k2]; simpa using hu
theorem does_slice_tail {t : TyI} {el : TypeId} {len id lo : Nat} {er : Bool} {q : Operand} {k' : IntKind} {l m : List UInt8} (ht : mkTy P T = some t) (hk : t.kind = .array len el 1 er) (hx : e x = .px id 0) (hq : e q = .d (.sc (.int k' (lo : Int)))) (h3 : lo < len) (hlk : look id β = some (.var T0 ((l.map u8D).map A.d))) (hlen : l.length = len) (hm : l.drop lo = m) :
    Does P dst (.slice T x (some q) none none) ty e β (.d (byD m)) [(id, .dead)] [id] := by
  subst hm
  have hh := does_slice_tailD (P := P) (dst := dst) (ty := ty) ht hk hx hq h3 hlk (by simpa using hlen)
  rwa [← List.map_drop, List.map_map] at hh
theorem does_store_by {t : TyI} {id off j : Nat} {l : List UInt8} {c : UInt8} (hj : off = j) (hlt : j < l.length) (ht : mkTy P T = some t) (hs : t.size = 1) (hx : e x = .px id off) (hy : e y = .d (u8D c)) (hl : look id β = some (.var T0 ((l.map u8D).map A.d))) : Does P dst (.store T x y) ty e β .un [(id, .var T0 (((l.set j c).map u8D).map A.d))] [id] := by
  subst hj
  have h := does_store (P := P) (dst := dst) (ty := ty) ht hs hx hy rfl hl (by rw [List.length_map, List.length_map]; exact hlt)
  rwa [← List.map_set, ← List.map_set] at h
end
end Go.Proofs.YtlpnnnmdkglkcaaDoor

