/-
  The pure layer: arrays of bytes, sliced. No condition.
-/
import Derived.Test.YtfkkamkhjbfjmaaDoorWord
import Derived.Laws.CopyRow
import Derived.Laws.IdiomCopy
namespace Go.Proofs.YtfkkamkhjbfjmaaDoor
set_option linter.unusedSimpArgs false
set_option linter.unusedVariables false
open Go.RowKit

abbrev byD (b : List UInt8) : D := .sl 1 (b.map fun c => [u8D c])
theorem run_slice_arr {P : Program} {T el : TypeId} {t : TyI} {len esz : Nat} {er : Bool} (ht : mkTy P T = some t) (hk : t.kind = .array len el esz er) (hs : esz ≠ 0) {hi : Option Value} {h : Nat} {k : IntKind} (hh : hi = some (.int k (h : Int)) ∨ (hi = none ∧ h = len)) (hl : h ≤ len) (g : Nat) (w : World) :
    (Instr.sliceAt T (.pointer (some ⟨g, 0, none⟩)) none hi none).run P w = .ok (.slice (some ⟨g, 0, none⟩) h len) w := by
  obtain ⟨i, d, z, _, hd, _, _, _, _, _, hkd⟩ := mkTy_spec ht
  obtain ⟨rfl, rfl, rfl⟩ := kind_array (hkd.symm.trans hk)
  have hadd : (⟨g, 0, none⟩ : Addr).add (0 * P.cellsOf el) = ⟨g, 0, none⟩ := by rw [Nat.zero_mul]; exact Addr.add_mid g 0 0
  rcases hh with rfl | ⟨rfl, rfl⟩
  · simp [Instr.sliceAt, Instr.sureAddr, run_underlying hd, Instr.sliceBounds, Instr.sliceBound, asIntOf, Sem.run_bind, run_sizeOf hs, hadd, hl]
    exact fun _ => Addr.add_mid g 0 0
  · simp [Instr.sliceAt, Instr.sureAddr, run_underlying hd, Instr.sliceBounds, Sem.run_bind, run_sizeOf hs, hadd]
    exact fun _ => Addr.add_mid g 0 0
section
variable {P : Program} {dst : Option Nat} {ty : TypeId} {e : Operand → A} {β : Bx} {T T0 T1 : TypeId} {x y : Operand}
theorem does_alloc_b {fr : Nat} {t : TyI} {l : List UInt8} (ht : mkTy P T = some t) (hz : t.zero = l.map u8D) (hf : look fr β = none) : Does P (some fr) (.alloc T) ty e β (.px fr 0) [(fr, .var T (bA l))] [] := by
  have h := does_alloc (P := P) (ty := ty) (e := e) ht hf
  rwa [hz] at h
theorem zero32 : List.replicate 32 (D.sc (.int .u8 0)) = (List.replicate 32 (0 : UInt8)).map u8D := by rw [List.map_replicate]; rfl
/-- A slice of an array that lies in a variable. -/
theorem does_slice_sx {t : TyI} {el : TypeId} {len esz id h : Nat} {er : Bool} {hi : Option Operand} (ht : mkTy P T = some t) (hk : t.kind = .array len el esz er) (hs : esz ≠ 0) (hx : e x = .px id 0) (hh : hiIs e h len hi) (hl : h ≤ len) :
    Does P dst (.slice T x none hi none) ty e β (.sx id h len) [] [] :=
  Does.of_run fun C γ _ ρ I w _ a hops o ho _ => by
    obtain ⟨hb, hp⟩ := hops x (by simp [Op.operands])
    rw [hx] at hb hp
    obtain ⟨g, hg, hp⟩ := hp
    obtain ⟨k2, v2⟩ := hi_val (a := a) hh fun y hy => (hops y (by cases hi <;> simp_all [Op.operands])).2
    refine ⟨_, ?_, hb, g, hg, rfl⟩
    simp only [execOp, ho, hp, Sem.run_bind, Option.map_none, run_slice_arr ht hk hs v2 hl g w]
    rfl
theorem repR_ones {I : Nat → Prop} {w : World} : ∀ {ds : List D} {us : List Value}, RepC I w true ds us → RepR I w 1 (ds.map fun d => [d]) us
  | [], _, h => h
  | d :: ds, _, ⟨u, us, h1, h2, h3, h4⟩ => ⟨[u], us, h1, rfl, ⟨u, [], rfl, h2, h3, rfl⟩, repR_ones h4⟩
/-- The same, where the array is not turned from then on: its elements are data. -/
theorem does_slice_frz {t : TyI} {el : TypeId} {len id h : Nat} {er : Bool} {hi : Option Operand} {ds : List D} (ht : mkTy P T = some t) (hk : t.kind = .array len el 1 er) (hx : e x = .px id 0) (hh : hiIs e h len hi) (hl : h ≤ len) (hlk : look id β = some (.var T0 (ds.map A.d))) (hlen : ds.length = len) :
    Does P dst (.slice T x none hi none) ty e β (.d (.sl 1 ((ds.take h).map fun d => [d]))) [(id, .dead)] [id] := by
  intro C γ hag ρ I w hm a hops o ho hd hty K Q hK
  have hl2 : look id γ = some (.var T0 (ds.map A.d)) := (hag id (by simp)).trans hlk
  obtain ⟨hb, hp⟩ := hops x (by simp [Op.operands])
  rw [hx] at hp
  obtain ⟨g, hg, hp⟩ := hp
  obtain ⟨g', us, k1, k2, k3, k4⟩ := var_cell hm hl2
  rw [hg] at k1
  injection k1 with k1; injection k1 with k1; injection k1 with k1
  subst k1
  obtain ⟨kk, v2⟩ := hi_val (a := a) hh fun y hy => (hops y (by cases hi <;> simp_all [Op.operands])).2
  have hbk : blk (ρ id) = some g := by rw [hg]; rfl
  obtain ⟨o1, o2, o3⟩ := hm.own id _ g hl2 rfl hbk
  have hx2 : Ext γ ρ I w ρ (fun k => I k ∨ k = g) w := ⟨⟨fun _ h => .inl h, fun _ _ => rfl⟩, fun _ _ => rfl⟩
  have hmem := hm.upd [(id, Box.dead)] hx2 rfl rfl rfl (Nat.le_refl _) (fun k h => by
      rcases h with h | h
      · exact hm.imm k h
      · subst h; exact o1) (fun k h => by
      rcases h with h | h
      · exact .inl h
      · subst h; exact .inr o3) (fun _ => False) (fun k hk _ => rfl) (fun k h => h.elim) (fun i b' k hi' hn hlv' hbk' => ⟨fun h => h, fun h => by
      rcases h with h | h
      · exact (hm.own i b' k hi' hlv' hbk').2.1 h
      · subst h; exact look_one_none hn (hm.inj i id b' _ _ hi' hl2 hlv' rfl hbk' hbk)⟩) (fun i b' h => by
      obtain ⟨rfl, rfl⟩ := look_one h
      exact ⟨trivial, trivial, fun h => by cases h⟩)
    (fun i j b' b'' k hi' hj _ _ _ _ => by rw [(look_one hi').1, (look_one hj).1])
  unfold Oper.wp
  have hrun : (execOp a.eval o).run P w = .ok (.value (.slice (some ⟨g, 0, none⟩) h len)) w := by
    simp only [execOp, ho, hp, Sem.run_bind, Option.map_none, run_slice_arr ht hk Nat.one_ne_zero v2 hl g w]
    rfl
  rw [hrun, Oper.upon_value, hd]
  refine hK _ ρ _ w hmem hx2 trivial ⟨some ⟨g, 0, none⟩, len, us.toList.take h, ?_, ?_, ?_, fun _ => ⟨g, 0, rfl, .inr rfl, fun j u hu => ?_⟩⟩
  · simp [hlen, Nat.min_eq_left hl]
  · simp [hlen]; omega
  · have h3 : RepC I w true ds us.toList := repC_of_A k3
    have h4 := RepC.ext hx2.toExtI true _ _ h3
    exact repR_ones (repC_take h h4)
  · rw [List.getElem?_take] at hu
    split at hu
    · rw [Nat.zero_add, cell_in k2]; simpa using hu
    · cases hu
theorem by_take (l : List UInt8) (h : Nat) : (((l.map u8D).take h).map fun d => [d]) = (l.take h).map fun c => [u8D c] := by
  rw [← List.map_take, List.map_map]; rfl
theorem does_slice_by {t : TyI} {el : TypeId} {len id h : Nat} {er : Bool} {hi : Option Operand} {l : List UInt8} (ht : mkTy P T = some t) (hk : t.kind = .array len el 1 er) (hx : e x = .px id 0) (hh : hiIs e h len hi) (hl : h ≤ len) (hlk : look id β = some (.var T0 (bA l))) (hlen : l.length = len) :
    Does P dst (.slice T x none hi none) ty e β (.d (byD (l.take h))) [(id, .dead)] [id] := by
  have hh := does_slice_frz (P := P) (dst := dst) (ty := ty) ht hk hx hh hl hlk (by simpa using hlen)
  rwa [by_take] at hh
theorem does_slice_by_all {t : TyI} {el : TypeId} {len id : Nat} {er : Bool} {l : List UInt8} (ht : mkTy P T = some t) (hk : t.kind = .array len el 1 er) (hx : e x = .px id 0) (hlk : look id β = some (.var T0 (bA l))) (hlen : l.length = len) :
    Does P dst (.slice T x none none none) ty e β (.d (byD l)) [(id, .dead)] [id] := by
  have hh := does_slice_by (P := P) (dst := dst) (ty := ty) (hi := none) ht hk hx rfl (Nat.le_refl _) hlk hlen
  rwa [List.take_of_length_le (by omega)] at hh
theorem by_repC {I : Nat → Prop} {w : World} : ∀ {k : List UInt8} {xs : List Value}, RepR I w 1 (k.map fun c => [u8D c]) xs → xs = k.map (fun c => Value.int .u8 (c.toNat : Int))
  | [], _, h => h
  | c :: k, _, ⟨us, us', hx, h1, ⟨u, us2, hy, _, hu, hz⟩, h2⟩ => by
    have hu : u = .int .u8 (c.toNat : Int) := hu.1
    have hz : us2 = [] := hz
    rw [hx, hy, hu, hz, by_repC h2]; rfl
theorem by_repAs {ρ : Nat → Value} {I : Nat → Prop} {w : World} : ∀ k : List UInt8, RepAs ρ I w true (bA k) (k.map (fun c => Value.int .u8 (c.toNat : Int)))
  | [] => rfl
  | c :: k => ⟨_, _, rfl, fun _ => rfl, ⟨rfl, rfl⟩, by_repAs k⟩
/-- copy into a whole array of bytes. -/
theorem does_copy_by {el : TypeId} {tb te : TyI} {id n c : Nat} {l k : List UInt8} (ht : mkTy P T = some tb) (hk : tb.kind = .slice el) (hte : mkTy P el = some te) (hes : te.size = 1) (hx : e x = .sx id n c) (hy : e y = .d (byD k)) (hlk : look id β = some (.var T0 (bA l))) (hlen : l.length = n) (hkn : k.length ≤ n) :
    Does P dst (.call { callee := .builtin .copy, args := #[x, y], argTypes := #[T, T1] }) ty e β (.d (iD k.length)) [(id, .var T0 (bA (k ++ l.drop k.length)))] [id] := by
  intro C γ hag ρ I w hm a hops o ho hd hty K Q hK
  have hl2 : look id γ = some (.var T0 (bA l)) := (hag id (by simp)).trans hlk
  obtain ⟨hb, hp⟩ := hops x (by simp [Op.operands, Call.operands])
  obtain ⟨_, hq⟩ := hops y (by simp [Op.operands, Call.operands])
  rw [hx] at hb hp
  rw [hy] at hq
  obtain ⟨g, hg, hp⟩ := hp
  obtain ⟨ad, cc, xs, hq, hcc, hR, hcell⟩ := hq
  rw [List.length_map] at hq hcc hcell
  have hxs := by_repC hR
  obtain ⟨g', us, k1, k2, k3, k4⟩ := var_cell hm hl2
  rw [hg] at k1
  injection k1 with k1; injection k1 with k1; injection k1 with k1
  subst k1
  have hus := repAs_len k3
  rw [Array.length_toList, List.length_map, List.length_map] at hus
  obtain ⟨ie, de, ze, hie, _, _, hsz, _⟩ := mkTy_spec hte
  obtain ⟨i, d, z, _, hud, _, _, _, _, _, hkd⟩ := mkTy_spec ht
  have hu : P.underlying T = some (.slice el) := by rw [hud, kind_slice (hkd.symm.trans hk)]
  have hs : (P.info? el).map (·.size) = some 1 := by rw [hie]; simp [← hsz, hes]
  have hmin : Nat.min k.length n = k.length := Nat.min_eq_left hkn
  by_cases h0 : k = []
  · subst h0
    have hrun0 := run_copy_none (P := P) w T T1 ty el (some ⟨g, 0, none⟩) ad n c 0 cc hu hs (Nat.zero_min n)
    unfold Oper.wp
    have hrun : (execOp a.eval o).run P w = .ok (.value (.int .i64 0)) w := by
      simp only [execOp, ho, resolve, invoke, builtin, Sem.run_bind, hp, hq, List.map_toArray, List.map_cons, List.map_nil, Sem.run_pure, Result.andThen_ok, hty]
      have : (Builtin.copy_ #[T, T1] ty #[.slice (some ⟨g, 0, none⟩) n c, .slice ad 0 cc]).run P w = .ok (goInt 0) w := hrun0
      simp [this, Sem.run_bind, goInt]
    rw [hrun, Oper.upon_value, hd]
    refine hK _ ρ I w (hm.congr fun i => ?_) (Ext.refl _ _ _ _) trivial ⟨rfl, rfl⟩
    rw [look_append, look_cons]
    split
    · rename_i hi; subst hi; rw [hl2]; rfl
    · rfl
  · have hpos : 0 < k.length := List.length_pos_iff.2 h0
    obtain ⟨gs, offs, rfl, hI, hc⟩ := hcell hpos
    have hxl : xs.length = k.length := by rw [hxs]; simp
    have hrun0 := run_copy_cells (P := P) w T T1 ty el g 0 n c ⟨gs, offs, none⟩ k.length cc xs hu hs (by rw [hxl, hmin]) (fun j v hv => by rw [Addr.add_mid]; exact hc j v hv)
      (fun j hj => by rw [cell_in k2, Nat.zero_add, Array.getElem?_eq_getElem (by omega)]; rfl) (fun j hj => by simp [World.frozen?, k2]) (fun v hv => by
      rw [hxs] at hv
      obtain ⟨b, _, rfl⟩ := List.mem_map.1 hv
      rfl)
    rw [hxl] at hrun0
    unfold Oper.wp
    have hrun : (execOp a.eval o).run P w = .ok (.value (.int .i64 k.length)) (w.setCells g 0 xs) := by
      simp only [execOp, ho, resolve, invoke, builtin, Sem.run_bind, hp, hq, List.map_toArray, List.map_cons, List.map_nil, Sem.run_pure, Result.andThen_ok, hty]
      simp [hrun0, Sem.run_bind, goInt]
    rw [hrun, Oper.upon_value, hd]
    have hbk : blk (ρ id) = some g := by rw [hg]; rfl
    obtain ⟨us', e1, e2⟩ := setCells_at (g := g) xs 0 w us k2 (by omega)
    have hmem := hm.set_box hl2 rfl hbk (setCells_grown g xs 0 w) (b := .var T0 (bA (k ++ l.drop k.length))) (fun hx => ⟨g, us', hg, e1, by
      rw [e2]
      have h1 := repAs_putAt (RepAs.ext hx true _ _ k4 k3) (by_repAs (ρ := ρ) (I := I) (w := w.setCells g 0 xs) k) 0
      rw [← hxs] at h1
      have h2 : putAt (bA l) 0 (bA k) = bA (k ++ l.drop k.length) := by
        unfold putAt
        simp [List.map_append, List.map_drop]
      rwa [h2] at h1⟩) (insB_map _)
    exact hK _ ρ I _ hmem.1 hmem.2 trivial ⟨rfl, rfl⟩
end
end Go.Proofs.YtfkkamkhjbfjmaaDoor
