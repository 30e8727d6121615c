/-
  The pure layer: words of 32 and 64 bits, bytes. No condition.
-/
import Derived.Test.YtpaccaojgbfjdaaZB
import Derived.Test.YtpaccaojgbfjdaaZTl
import Derived.Laws.CopyRow
import Derived.Laws.IdiomCopy
import Derived.Laws.IdiomStrings
import Derived.Laws.BytesString
namespace Go.Proofs.Ytpaccaojgbfjdaa
set_option linter.unusedSimpArgs false
set_option linter.unusedVariables false
open Go.RowKit

abbrev wD (x : UInt32) : D := .sc (.int .u32 (x.toNat : Int))
theorem wrap_u (k : IntKind) (hk : k.signed = false) (n : Nat) : k.wrap (n : Int) = ((n % 2 ^ k.bits : Nat) : Int) := by
  unfold IntKind.wrap
  simp [hk]
theorem ofInt_nat (b n : Nat) : BitVec.ofInt b (n : Int) = BitVec.ofNat b n := by
  apply BitVec.eq_of_toNat_eq
  simp [BitVec.toNat_ofInt]
theorem fdiv_pow (m s : Nat) : (m : Int).fdiv (2 ^ s) = ((m / 2 ^ s : Nat) : Int) := by
  have h : (2 : Int) ^ s = ((2 ^ s : Nat) : Int) := by push_cast; rfl
  rw [h, Int.fdiv_eq_ediv_of_nonneg _ (Int.natCast_nonneg _)]
  rfl
section
variable {P : Program} {dst : Option Nat} {ty : TypeId} {e : Operand → A} {β : Bx} {T T' : TypeId} {x y : Operand}
theorem bit_u (k : IntKind) (hk : k.signed = false) {m n : Nat} (hm : m < 2 ^ k.bits) (hn : n < 2 ^ k.bits) : bitV .xor k m n = ((m ^^^ n : Nat) : Int) ∧ bitV .and k m n = ((m &&& n : Nat) : Int) ∧ bitV .or k m n = ((m ||| n : Nat) : Int) := by
  have h1 : (BitVec.ofNat k.bits m).toNat = m := by rw [BitVec.toNat_ofNat, Nat.mod_eq_of_lt hm]
  have h2 : (BitVec.ofNat k.bits n).toNat = n := by rw [BitVec.toNat_ofNat, Nat.mod_eq_of_lt hn]
  refine ⟨?_, ?_, ?_⟩ <;> simp only [bitV, ofInt_nat, BitVec.toNat_xor, BitVec.toNat_and, BitVec.toNat_or, h1, h2] <;> rw [wrap_u _ hk, Nat.mod_eq_of_lt]
  · exact Nat.xor_lt_two_pow hm hn
  · exact Nat.lt_of_le_of_lt Nat.and_le_left hm
  · exact Nat.or_lt_two_pow hm hn
theorem does_xor32 {a b : UInt32} (hx : e x = .d (wD a)) (hy : e y = .d (wD b)) : Does P dst (.binOp .xor T x y T') ty e β (.d (wD (a ^^^ b))) [] [] :=
  does_int_to hx hy trivial (by
    show D.sc (.int .u32 (bitV .xor .u32 (a.toNat : Int) (b.toNat : Int))) = _
    rw [(bit_u .u32 rfl a.toNat_lt b.toNat_lt).1, ← UInt32.toNat_xor])
theorem does_and32 {a b : UInt32} (hx : e x = .d (wD a)) (hy : e y = .d (wD b)) : Does P dst (.binOp .and T x y T') ty e β (.d (wD (a &&& b))) [] [] :=
  does_int_to hx hy trivial (by
    show D.sc (.int .u32 (bitV .and .u32 (a.toNat : Int) (b.toNat : Int))) = _
    rw [(bit_u .u32 rfl a.toNat_lt b.toNat_lt).2.1, ← UInt32.toNat_and])
theorem does_shr32 {a : UInt32} {k' : IntKind} {n : Int} {s : Nat} (hx : e x = .d (wD a)) (hy : e y = .d (.sc (.int k' n))) (hn : n = (s : Nat)) (hs : s < 32) : Does P dst (.binOp .shr T x y T') ty e β (.d (wD (a >>> UInt32.ofNat s))) [] [] := by
  have h := does_shift (P := P) (dst := dst) (ty := ty) (β := β) (bo := .shr) (T := T) (T' := T') hx hy (.inr rfl) (by omega)
  have e1 : (intV .shr .u32 (a.toNat : Int) n).2 = .int .u32 ((a >>> UInt32.ofNat s).toNat : Int) := by
    subst hn
    show Value.int .u32 ((a.toNat : Int).fdiv (2 ^ (min (s : Int).toNat 32))) = _
    have h1 : min (s : Int).toNat 32 = s := by omega
    have h3 : (UInt32.ofNat s).toNat % 32 = s := by simp; omega
    rw [h1, UInt32.toNat_shiftRight, h3, Nat.shiftRight_eq_div_pow, fdiv_pow]
  rw [e1] at h; exact h
/-- ^x of 32 bits: as exclusive or with all ones. -/
theorem does_not32 {a : UInt32} (hx : e x = .d (wD a)) : Does P dst (.unOp .xor T x) ty e β (.d (wD (4294967295 ^^^ a))) [] [] :=
  Does.of_run fun C γ _ ρ I w _ ac hops o ho _ => by
    have h1 := (hops x (by simp [Op.operands])).2
    rw [hx] at h1
    have h1 := repA_sc h1
    have e1 : bitV .xor .u32 4294967295 (a.toNat : Int) = (((4294967295 ^^^ a : UInt32).toNat : Nat) : Int) := by
      have := (bit_u .u32 rfl (m := 4294967295) (n := a.toNat) (by decide) a.toNat_lt).1
      rw [UInt32.toNat_xor]
      exact this
    refine ⟨.int .u32 (bitV .xor .u32 4294967295 (a.toNat : Int)), ?_, trivial, ?_, rfl⟩
    · simp only [execOp, ho, h1]
      rfl
    · rw [e1]
theorem does_conv8_32 {S : TypeId} {s t : TyI} {b : UInt8} (hs : mkTy P S = some s) (ht : mkTy P T = some t) (hk : t.kind = .int .u32) (hx : e x = .d (u8D b)) : Does P dst (.convert S T x) ty e β (.d (wD b.toUInt32)) [] [] := by
  have h := does_conv_int (P := P) (dst := dst) (ty := ty) (β := β) hs ht hk hx
  have e1 : IntKind.u32.wrap (b.toNat : Int) = (b.toUInt32.toNat : Int) := by
    have := b.toNat_lt
    rw [wrap_u _ rfl, UInt8.toNat_toUInt32, Nat.mod_eq_of_lt (by show b.toNat < 4294967296; omega)]
  rw [e1] at h; exact h
theorem does_conv32_8 {S : TypeId} {s t : TyI} {a : UInt32} (hs : mkTy P S = some s) (ht : mkTy P T = some t) (hk : t.kind = .int .u8) (hx : e x = .d (wD a)) : Does P dst (.convert S T x) ty e β (.d (u8D a.toUInt8)) [] [] := by
  have h := does_conv_int (P := P) (dst := dst) (ty := ty) (β := β) hs ht hk hx
  have e1 : IntKind.u8.wrap (a.toNat : Int) = (a.toUInt8.toNat : Int) := by
    rw [wrap_u _ rfl, UInt32.toNat_toUInt8]; rfl
  rw [e1] at h; exact h
end
abbrev bA (b : List UInt8) : List A := (b.map u8D).map A.d
section
variable {P : Program} {dst : Option Nat} {ty : TypeId} {e : Operand → A} {β : Bx} {T T0 : TypeId} {x y : Operand}
end
end Go.Proofs.Ytpaccaojgbfjdaa


/-
  The pure layer: arrays of bytes, sliced. No condition.
-/
namespace Go.Proofs.Ytpaccaojgbfjdaa
set_option linter.unusedSimpArgs false
set_option linter.unusedVariables false
open Go.RowKit

abbrev byD (b : List UInt8) : D := .sl 1 (b.map fun c => [u8D c])
theorem run_slice_arr {P : Program} {T el : TypeId} {t : TyI} {len esz : Nat} {er : Bool} (ht : mkTy P T = some t) (hk : t.kind = .array len el esz er) (hs : esz ≠ 0) {hi : Option Value} {h : Nat} {k : IntKind} (hh : hi = some (.int k (h : Int)) ∨ (hi = none ∧ h = len)) (hl : h ≤ len) (g : Nat) (w : World) :
    (Instr.sliceAt T (.pointer (some ⟨g, 0, none⟩)) none hi none).run P w = .ok (.slice (some ⟨g, 0, none⟩) h len) w := by
  obtain ⟨i, d, z, _, hd, _, _, _, _, _, hkd⟩ := mkTy_spec ht
  obtain ⟨rfl, rfl, rfl⟩ := kind_array (hkd.symm.trans hk)
  have hadd : (⟨g, 0, none⟩ : Addr).add (0 * P.cellsOf el) = ⟨g, 0, none⟩ := by rw [Nat.zero_mul]; exact Addr.add_mid g 0 0
  rcases hh with rfl | ⟨rfl, rfl⟩
  · simp [Instr.sliceAt, Instr.sureAddr, run_underlying hd, Instr.sliceBounds, Instr.sliceBound, asIntOf, Sem.run_bind, run_sizeOf hs, hadd, hl]
    exact fun _ => Addr.add_mid g 0 0
  · simp [Instr.sliceAt, Instr.sureAddr, run_underlying hd, Instr.sliceBounds, Sem.run_bind, run_sizeOf hs, hadd]
    exact fun _ => Addr.add_mid g 0 0
section
variable {P : Program} {dst : Option Nat} {ty : TypeId} {e : Operand → A} {β : Bx} {T T0 T1 : TypeId} {x y : Operand}
theorem does_alloc_b {fr : Nat} {t : TyI} {l : List UInt8} (ht : mkTy P T = some t) (hz : t.zero = l.map u8D) (hf : look fr β = none) : Does P (some fr) (.alloc T) ty e β (.px fr 0) [(fr, .var T (bA l))] [] := by
  have h := does_alloc (P := P) (ty := ty) (e := e) ht hf
  rwa [hz] at h
/-- A slice of an array that lies in a variable. -/
theorem does_slice_sx {t : TyI} {el : TypeId} {len esz id h : Nat} {er : Bool} {hi : Option Operand} (ht : mkTy P T = some t) (hk : t.kind = .array len el esz er) (hs : esz ≠ 0) (hx : e x = .px id 0) (hh : hiIs e h len hi) (hl : h ≤ len) :
    Does P dst (.slice T x none hi none) ty e β (.sx id h len) [] [] :=
  Does.of_run fun C γ _ ρ I w _ a hops o ho _ => by
    obtain ⟨hb, hp⟩ := hops x (by simp [Op.operands])
    rw [hx] at hb hp
    obtain ⟨g, hg, hp⟩ := hp
    obtain ⟨k2, v2⟩ := hi_val (a := a) hh fun y hy => (hops y (by cases hi <;> simp_all [Op.operands])).2
    refine ⟨_, ?_, hb, g, hg, rfl⟩
    simp only [execOp, ho, hp, Sem.run_bind, Option.map_none, run_slice_arr ht hk hs v2 hl g w]
    rfl
theorem repR_ones {I : Nat → Prop} {w : World} : ∀ {ds : List D} {us : List Value}, RepC I w true ds us → RepR I w 1 (ds.map fun d => [d]) us
  | [], _, h => h
  | d :: ds, _, ⟨u, us, h1, h2, h3, h4⟩ => ⟨[u], us, h1, rfl, ⟨u, [], rfl, h2, h3, rfl⟩, repR_ones h4⟩
/-- The same, where the array is not turned from then on: its elements are data. -/
theorem does_slice_frz {t : TyI} {el : TypeId} {len id h : Nat} {er : Bool} {hi : Option Operand} {ds : List D} (ht : mkTy P T = some t) (hk : t.kind = .array len el 1 er) (hx : e x = .px id 0) (hh : hiIs e h len hi) (hl : h ≤ len) (hlk : look id β = some (.var T0 (ds.map A.d))) (hlen : ds.length = len) :
    Does P dst (.slice T x none hi none) ty e β (.d (.sl 1 ((ds.take h).map fun d => [d]))) [(id, .dead)] [id] := by
  intro C γ hag ρ I w hm a hops o ho hd hty K Q hK
  have hl2 : look id γ = some (.var T0 (ds.map A.d)) := (hag id (by simp)).trans hlk
  obtain ⟨hb, hp⟩ := hops x (by simp [Op.operands])
  rw [hx] at hp
  obtain ⟨g, hg, hp⟩ := hp
  obtain ⟨g', us, k1, k2, k3, k4⟩ := var_cell hm hl2
  rw [hg] at k1
  injection k1 with k1; injection k1 with k1; injection k1 with k1
  subst k1
  obtain ⟨kk, v2⟩ := hi_val (a := a) hh fun y hy => (hops y (by cases hi <;> simp_all [Op.operands])).2
  have hbk : blk (ρ id) = some g := by rw [hg]; rfl
  obtain ⟨o1, o2, o3⟩ := hm.own id _ g hl2 rfl hbk
  have hx2 : Ext γ ρ I w ρ (fun k => I k ∨ k = g) w := ⟨⟨fun _ h => .inl h, fun _ _ => rfl⟩, fun _ _ => rfl⟩
  have hmem := hm.upd [(id, Box.dead)] hx2 rfl rfl rfl (Nat.le_refl _) (fun k h => by
      rcases h with h | h
      · exact hm.imm k h
      · subst h; exact o1) (fun k h => by
      rcases h with h | h
      · exact .inl h
      · subst h; exact .inr o3) (fun _ => False) (fun k hk _ => rfl) (fun k h => h.elim) (fun i b' k hi' hn hlv' hbk' => ⟨fun h => h, fun h => by
      rcases h with h | h
      · exact (hm.own i b' k hi' hlv' hbk').2.1 h
      · subst h; exact look_one_none hn (hm.inj i id b' _ _ hi' hl2 hlv' rfl hbk' hbk)⟩) (fun i b' h => by
      obtain ⟨rfl, rfl⟩ := look_one h
      exact ⟨trivial, trivial, fun h => by cases h⟩)
    (fun i j b' b'' k hi' hj _ _ _ _ => by rw [(look_one hi').1, (look_one hj).1])
  unfold Oper.wp
  have hrun : (execOp a.eval o).run P w = .ok (.value (.slice (some ⟨g, 0, none⟩) h len)) w := by
    simp only [execOp, ho, hp, Sem.run_bind, Option.map_none, run_slice_arr ht hk Nat.one_ne_zero v2 hl g w]
    rfl
  rw [hrun, Oper.upon_value, hd]
  refine hK _ ρ _ w hmem hx2 trivial ⟨some ⟨g, 0, none⟩, len, us.toList.take h, ?_, ?_, ?_, fun _ => ⟨g, 0, rfl, .inr rfl, fun j u hu => ?_⟩⟩
  · simp [hlen, Nat.min_eq_left hl]
  · simp [hlen]; omega
  · have h3 : RepC I w true ds us.toList := repC_of_A k3
    have h4 := RepC.ext hx2.toExtI true _ _ h3
    exact repR_ones (repC_take h h4)
  · rw [List.getElem?_take] at hu
    split at hu
    · rw [Nat.zero_add, cell_in k2]; simpa using hu
    · cases hu
theorem by_take (l : List UInt8) (h : Nat) : (((l.map u8D).take h).map fun d => [d]) = (l.take h).map fun c => [u8D c] := by
  rw [← List.map_take, List.map_map]; rfl
theorem does_slice_by {t : TyI} {el : TypeId} {len id h : Nat} {er : Bool} {hi : Option Operand} {l : List UInt8} (ht : mkTy P T = some t) (hk : t.kind = .array len el 1 er) (hx : e x = .px id 0) (hh : hiIs e h len hi) (hl : h ≤ len) (hlk : look id β = some (.var T0 (bA l))) (hlen : l.length = len) :
    Does P dst (.slice T x none hi none) ty e β (.d (byD (l.take h))) [(id, .dead)] [id] := by
  have hh := does_slice_frz (P := P) (dst := dst) (ty := ty) ht hk hx hh hl hlk (by simpa using hlen)
  rwa [by_take] at hh
theorem does_slice_by_all {t : TyI} {el : TypeId} {len id : Nat} {er : Bool} {l : List UInt8} (ht : mkTy P T = some t) (hk : t.kind = .array len el 1 er) (hx : e x = .px id 0) (hlk : look id β = some (.var T0 (bA l))) (hlen : l.length = len) :
    Does P dst (.slice T x none none none) ty e β (.d (byD l)) [(id, .dead)] [id] := by
  have hh := does_slice_by (P := P) (dst := dst) (ty := ty) (hi := none) ht hk hx rfl (Nat.le_refl _) hlk hlen
  rwa [List.take_of_length_le (by omega)] at hh
theorem by_repC {I : Nat → Prop} {w : World} : ∀ {k : List UInt8} {xs : List Value}, RepR I w 1 (k.map fun c => [u8D c]) xs → xs = k.map (fun c => Value.int .u8 (c.toNat : Int))
  | [], _, h => h
  | c :: k, _, ⟨us, us', hx, h1, ⟨u, us2, hy, _, hu, hz⟩, h2⟩ => by
    have hu : u = .int .u8 (c.toNat : Int) := hu.1
    have hz : us2 = [] := hz
    rw [hx, hy, hu, hz, by_repC h2]; rfl
theorem by_repAs {ρ : Nat → Value} {I : Nat → Prop} {w : World} : ∀ k : List UInt8, RepAs ρ I w true (bA k) (k.map (fun c => Value.int .u8 (c.toNat : Int)))
  | [] => rfl
  | c :: k => ⟨_, _, rfl, fun _ => rfl, ⟨rfl, rfl⟩, by_repAs k⟩
/-- copy into a whole array of bytes. -/
theorem does_copy_by {el : TypeId} {tb te : TyI} {id n c : Nat} {l k : List UInt8} (ht : mkTy P T = some tb) (hk : tb.kind = .slice el) (hte : mkTy P el = some te) (hes : te.size = 1) (hx : e x = .sx id n c) (hy : e y = .d (byD k)) (hlk : look id β = some (.var T0 (bA l))) (hlen : l.length = n) (hkn : k.length ≤ n) :
    Does P dst (.call { callee := .builtin .copy, args := #[x, y], argTypes := #[T, T1] }) ty e β (.d (iD k.length)) [(id, .var T0 (bA (k ++ l.drop k.length)))] [id] := by
  intro C γ hag ρ I w hm a hops o ho hd hty K Q hK
  have hl2 : look id γ = some (.var T0 (bA l)) := (hag id (by simp)).trans hlk
  obtain ⟨hb, hp⟩ := hops x (by simp [Op.operands, Call.operands])
  obtain ⟨_, hq⟩ := hops y (by simp [Op.operands, Call.operands])
  rw [hx] at hb hp
  rw [hy] at hq
  obtain ⟨g, hg, hp⟩ := hp
  obtain ⟨ad, cc, xs, hq, hcc, hR, hcell⟩ := hq
  rw [List.length_map] at hq hcc hcell
  have hxs := by_repC hR
  obtain ⟨g', us, k1, k2, k3, k4⟩ := var_cell hm hl2
  rw [hg] at k1
  injection k1 with k1; injection k1 with k1; injection k1 with k1
  subst k1
  have hus := repAs_len k3
  rw [Array.length_toList, List.length_map, List.length_map] at hus
  obtain ⟨ie, de, ze, hie, _, _, hsz, _⟩ := mkTy_spec hte
  obtain ⟨i, d, z, _, hud, _, _, _, _, _, hkd⟩ := mkTy_spec ht
  have hu : P.underlying T = some (.slice el) := by rw [hud, kind_slice (hkd.symm.trans hk)]
  have hs : (P.info? el).map (·.size) = some 1 := by rw [hie]; simp [← hsz, hes]
  have hmin : Nat.min k.length n = k.length := Nat.min_eq_left hkn
  by_cases h0 : k = []
  · subst h0
    have hrun0 := run_copy_none (P := P) w T T1 ty el (some ⟨g, 0, none⟩) ad n c 0 cc hu hs (Nat.zero_min n)
    unfold Oper.wp
    have hrun : (execOp a.eval o).run P w = .ok (.value (.int .i64 0)) w := by
      simp only [execOp, ho, resolve, invoke, builtin, Sem.run_bind, hp, hq, List.map_toArray, List.map_cons, List.map_nil, Sem.run_pure, Result.andThen_ok, hty]
      have : (Builtin.copy_ #[T, T1] ty #[.slice (some ⟨g, 0, none⟩) n c, .slice ad 0 cc]).run P w = .ok (goInt 0) w := hrun0
      simp [this, Sem.run_bind, goInt]
    rw [hrun, Oper.upon_value, hd]
    refine hK _ ρ I w (hm.congr fun i => ?_) (Ext.refl _ _ _ _) trivial ⟨rfl, rfl⟩
    rw [look_append, look_cons]
    split
    · rename_i hi; subst hi; rw [hl2]; rfl
    · rfl
  · have hpos : 0 < k.length := List.length_pos_iff.2 h0
    obtain ⟨gs, offs, rfl, hI, hc⟩ := hcell hpos
    have hxl : xs.length = k.length := by rw [hxs]; simp
    have hrun0 := run_copy_cells (P := P) w T T1 ty el g 0 n c ⟨gs, offs, none⟩ k.length cc xs hu hs (by rw [hxl, hmin]) (fun j v hv => by rw [Addr.add_mid]; exact hc j v hv)
      (fun j hj => by rw [cell_in k2, Nat.zero_add, Array.getElem?_eq_getElem (by omega)]; rfl) (fun j hj => by simp [World.frozen?, k2]) (fun v hv => by
      rw [hxs] at hv
      obtain ⟨b, _, rfl⟩ := List.mem_map.1 hv
      rfl)
    rw [hxl] at hrun0
    unfold Oper.wp
    have hrun : (execOp a.eval o).run P w = .ok (.value (.int .i64 k.length)) (w.setCells g 0 xs) := by
      simp only [execOp, ho, resolve, invoke, builtin, Sem.run_bind, hp, hq, List.map_toArray, List.map_cons, List.map_nil, Sem.run_pure, Result.andThen_ok, hty]
      simp [hrun0, Sem.run_bind, goInt]
    rw [hrun, Oper.upon_value, hd]
    have hbk : blk (ρ id) = some g := by rw [hg]; rfl
    obtain ⟨us', e1, e2⟩ := setCells_at (g := g) xs 0 w us k2 (by omega)
    have hmem := hm.set_box hl2 rfl hbk (setCells_grown g xs 0 w) (b := .var T0 (bA (k ++ l.drop k.length))) (fun hx => ⟨g, us', hg, e1, by
      rw [e2]
      have h1 := repAs_putAt (RepAs.ext hx true _ _ k4 k3) (by_repAs (ρ := ρ) (I := I) (w := w.setCells g 0 xs) k) 0
      rw [← hxs] at h1
      have h2 : putAt (bA l) 0 (bA k) = bA (k ++ l.drop k.length) := by
        unfold putAt
        simp [List.map_append, List.map_drop]
      rwa [h2] at h1⟩) (insB_map _)
    exact hK _ ρ I _ hmem.1 hmem.2 trivial ⟨rfl, rfl⟩
end
end Go.Proofs.Ytpaccaojgbfjdaa


/-
  The pure layer: bytes and texts. No condition.
-/
namespace Go.Proofs.Ytpaccaojgbfjdaa
set_option linter.unusedSimpArgs false
set_option linter.unusedVariables false
open Go.RowKit

abbrev byS (l : List UInt8) : ByteArray := ⟨l.toArray⟩
theorem by_cells {I : Nat → Prop} {w : World} {k : List UInt8} {v : Value} (h : RepD I w (byD k) v) : ∃ ad c, v = .slice ad k.length c ∧ (0 < k.length → ∃ g off, ad = some ⟨g, off, none⟩ ∧ ∀ j (hj : j < k.length), w.cell? ⟨g, off + j, none⟩ = some (.int .u8 (k[j].toNat : Int))) := by
  obtain ⟨ad, c, xs, h1, h2, h3, h4⟩ := h
  rw [List.length_map] at h1 h2 h4
  refine ⟨ad, c, h1, fun h0 => ?_⟩
  obtain ⟨g, off, e, _, hc⟩ := h4 h0
  refine ⟨g, off, e, fun j hj => hc j _ ?_⟩
  rw [by_repC h3, List.getElem?_map, List.getElem?_eq_getElem hj]
  rfl
theorem run_conv_bs {P : Program} {S el T : TypeId} {ts te tt : TyI} (hS : mkTy P S = some ts) (hkS : ts.kind = .slice el) (hE : mkTy P el = some te) (hkE : te.kind = .int .u8) (hT : mkTy P T = some tt) (hkT : tt.kind = .str) {w : World} {k : List UInt8} {ad : Option Addr} {c : Nat}
    (h : 0 < k.length → ∃ g off, ad = some ⟨g, off, none⟩ ∧ ∀ j (hj : j < k.length), w.cell? ⟨g, off + j, none⟩ = some (.int .u8 (k[j].toNat : Int))) : (convert S T (.slice ad k.length c)).run P w = .ok (.string (byS k)) w := by
  obtain ⟨_, d1, _, _, hd1, _, _, _, _, _, hk1⟩ := mkTy_spec hS
  obtain ⟨_, d2, _, _, hd2, _, _, _, _, _, hk2⟩ := mkTy_spec hE
  obtain ⟨_, d3, _, _, hd3, _, _, _, _, _, hk3⟩ := mkTy_spec hT
  have u1 : P.underlying S = some (.slice el) := by rw [hd1, kind_slice (hk1.symm.trans hkS)]
  have u2 : P.underlying el = some (.int .u8) := by rw [hd2, kind_int (hk2.symm.trans hkE)]
  have u3 : P.underlying T = some .string := by rw [hd3, kind_str (hk3.symm.trans hkT)]
  cases ad with
  | none =>
    have hk : k = [] := by
      rcases Nat.eq_zero_or_pos k.length with h0 | h0
      · exact List.eq_nil_of_length_eq_zero h0
      · obtain ⟨_, _, h1, _⟩ := h h0; cases h1
    subst hk
    rw [run_convert_bytes_string w S T el none _ c u1 u2 u3]
    simp [Conv.bytesToString]
    rfl
  | some a =>
    refine run_convert_bytes_back (P := P) w S T el a c k u1 u2 u3 fun j hj => ?_
    obtain ⟨g, off, h1, h2⟩ := h (by omega)
    injection h1 with h1
    subst h1
    rw [Addr.add_mid]
    exact h2 j hj
section
variable {P : Program} {dst : Option Nat} {ty : TypeId} {e : Operand → A} {β : Bx} {S T T0 el : TypeId} {x y : Operand} {ts te tt : TyI}
/-- string(b) -/
theorem does_conv_bs {k : List UInt8} (hS : mkTy P S = some ts) (hkS : ts.kind = .slice el) (hE : mkTy P el = some te) (hkE : te.kind = .int .u8) (hT : mkTy P T = some tt) (hkT : tt.kind = .str) (hx : e x = .d (byD k)) : Does P dst (.convert S T x) ty e β (.d (strD (byS k))) [] [] :=
  Does.of_run fun C γ _ ρ I w _ a hops o ho _ => by
    have h1 := (hops x (by simp [Op.operands])).2
    rw [hx] at h1
    obtain ⟨ad, c, h2, h3⟩ := by_cells h1
    refine ⟨.string (byS k), ?_, trivial, rfl, rfl⟩
    simp only [execOp, ho, h2, Sem.run_bind, run_conv_bs hS hkS hE hkE hT hkT h3]
    rfl
end
end Go.Proofs.Ytpaccaojgbfjdaa


/-
  The pure layer: the smaller of two lengths; a part of a text of bytes. No condition.
-/
namespace Go.Proofs.Ytpaccaojgbfjdaa
set_option linter.unusedSimpArgs false
set_option linter.unusedVariables false
open Go.RowKit

section
variable {P : Program} {dst : Option Nat} {ty : TypeId} {e : Operand → A} {β : Bx} {T : TypeId} {x y : Operand}
theorem fdiv_p2 (n : Int) (k : Nat) (hk : k ≤ 64) : n.fdiv (2 ^ min (Int.toNat (k : Int)) IntKind.i64.bits) = n / ((2 ^ k : Nat) : Int) := by
  have e : min (Int.toNat (k : Int)) IntKind.i64.bits = k := by show min k 64 = k; omega
  rw [e, Int.fdiv_eq_ediv_of_nonneg _ (by have := Int.pow_pos (n := 2) (m := k) (by omega); omega)]
  simp
theorem does_shr_p {T' : TypeId} {m n z : Int} {k : Nat} {k' : IntKind} (hx : e x = .d (iD m)) (hy : e y = .d (.sc (.int k' n))) (hn : n = (k : Nat)) (hk : k ≤ 64) (hz : m / ((2 ^ k : Nat) : Int) = z) : Does P dst (.binOp .shr T x y T') ty e β (.d (iD z)) [] [] := by
  subst hn hz
  have h := does_shr (P := P) (dst := dst) (ty := ty) (β := β) (T := T) (T' := T') hx hy (by omega)
  rwa [fdiv_p2 m k hk] at h
theorem byS_toList (l : List UInt8) : (byS l).toList = l := by
  rw [ByteArray.toList_eq]
theorem does_sne_by {T' : TypeId} {a b : List UInt8} {c : Bool} (hx : e x = .d (strD (byS a))) (hy : e y = .d (strD (byS b))) (hc : c = true ↔ a ≠ b) : Does P dst (.binOp .neq T x y T') ty e β (.d (bD c)) [] [] := by
  have h := does_sne (P := P) (dst := dst) (ty := ty) (β := β) (T := T) (T' := T') hx hy
  rw [byS_toList, byS_toList] at h
  have e1 : (!(a == b)) = c := by rw [Bool.eq_iff_iff, hc]; simp
  rwa [e1] at h
theorem does_mul_to {T' : TypeId} {m n z : Int} (hx : e x = .d (iD m)) (hy : e y = .d (iD n)) (hz : m * n = z) (h1 : -9223372036854775808 ≤ z) (h2 : z ≤ 9223372036854775807) : Does P dst (.binOp .mul T x y T') ty e β (.d (iD z)) [] [] := by
  subst hz; exact does_mul hx hy h1 h2
theorem does_min_nat {ts : Array TypeId} {a b : Nat} {p q : Int} (hx : e x = .d (iD p)) (hy : e y = .d (iD q)) (hp : p = a) (hq : q = b) : Does P dst (.call { callee := .builtin .min, args := #[x, y], argTypes := ts }) ty e β (.d (iD ((min a b : Nat) : Int))) [] [] := by
  have h := does_min (P := P) (dst := dst) (ty := ty) (β := β) (ts := ts) hx hy
  have e1 : (if q < p then q else p) = ((min a b : Nat) : Int) := by split <;> omega
  rwa [e1] at h
theorem does_slice_bl {t te : TyI} {el : TypeId} {lo hi : Option Operand} {l h : Nat} {b c : List UInt8} (ht : mkTy P T = some t) (hk : t.kind = .slice el) (hte : mkTy P el = some te) (hsz : te.size = 1) (hx : e x = .d (byD b)) (hl : loIs e l lo) (hh : hiIs e h b.length hi) (h1 : l ≤ h) (h2 : h ≤ b.length) (hc : (b.take h).drop l = c) :
    Does P dst (.slice T x lo hi none) ty e β (.d (byD c)) [] [] := by
  have hd := does_slice (P := P) (dst := dst) (ty := ty) (β := β) ht hk hte hx hsz hl (by rw [List.length_map]; exact hh) h1 (by rw [List.length_map]; exact h2)
  rwa [← List.map_take, ← List.map_drop, hc] at hd
end
end Go.Proofs.Ytpaccaojgbfjdaa


/-
  The pure layer: contracts whose (first) result is a slice of the caller's own; a row that is still nil. No condition.
-/
namespace Go.Proofs.Ytpaccaojgbfjdaa
set_option linter.unusedSimpArgs false
set_option linter.unusedVariables false
open Go.RowKit

def mkRes (us : List Value) : Value := if h : us.toArray.size = 1 then us.toArray[0] else .tuple us.toArray
def NotMine (I : Nat → Prop) (w w' : World) (v : Value) : Nat → Prop := fun g => ((I g ∨ w.heap.size ≤ g) ∧ g < w'.heap.size) ∧ v.ownBlock ≠ some g
/-- A call's contract: a new slice of so many rows, and further data. -/
structure PCO (P : Program) (f : FuncId) (ds : List D) (E : TypeId) (sz : Nat) (es : List (List D)) (rest : List D) : Prop where
  enters : Enters P f
  calls : ∀ (I : Nat → Prop) (w : World) (vs : Array Value), okBlocks I w → RepC I w false ds vs.toList →
    Calls P f vs w fun e w' => ∃ v us xs, e = .returned (mkRes (v :: us)) ∧ w'.ownsRow 0 E sz v es.length xs ∧ (∀ g, v.ownBlock = some g → w.heap.size ≤ g) ∧
      RepR (NotMine I w w' v) w' sz es xs ∧ RepC (NotMine I w w' v) w' false rest us ∧ Below w.heap.size w w'
section
variable {P : Program}
theorem PCO.args {f : FuncId} {ds ds' : List D} {E : TypeId} {sz : Nat} {es : List (List D)} {rest : List D} (h : PCO P f ds E sz es rest) (hs : SubDs ds' ds) : PCO P f ds' E sz es rest :=
  ⟨h.enters, fun I w vs hI hv => h.calls I w vs hI (hs.rep hv)⟩
end
section
variable {P : Program} {fr : Nat} {dst : Option Nat} {ty : TypeId} {e : Operand → A} {β : Bx}
end
end Go.Proofs.Ytpaccaojgbfjdaa


/-
  The pure layer: a slice of one's own as an element of another one; numbers put together out of bytes. No condition.
-/
namespace Go.Proofs.Ytpaccaojgbfjdaa
set_option linter.unusedSimpArgs false
set_option linter.unusedVariables false
open Go.RowKit

def setE (e : Operand → A) (t : Nat) (v : A) : Operand → A
  | .tmp t' => if t' = t then v else e (.tmp t')
  | y => e y
section
variable {P : Program} {fr : Nat} {dst : Option Nat} {ty : TypeId} {e : Operand → A} {β : Bx} {T T' : TypeId} {x y : Operand}
/-- An operand that is a slice of one's own is read as data from now on. -/
theorem does_frz {op : Op} (t : Nat) {id n sz : Nat} {es : List (List D)} {v : A} {ups : Bx} {rd : List Nat} (hx : e (.tmp t) = .ow id n) (hro : rowsOf β id = some (sz, es))
    (h : Does P dst op ty (setE e t (.d (.sl sz es))) ([(id, .frz sz es)] ++ β) v ups rd) : Does P dst op ty e β v (ups ++ [(id, .frz sz es)]) (id :: rd) := by
  intro C γ hag ρ I w hm a hops o ho hd hty K Q hK
  have hid : look id γ = look id β := hag id (by simp)
  have hro2 : rowsOf γ id = some (sz, es) := (rowsOf_agree hid).trans hro
  obtain ⟨I', m1, x1, r1⟩ := hm.freeze_any hro2
  refine h C ([(id, .frz sz es)] ++ γ) (fun j hj => ?_) ρ I' w m1 a (fun z hz => ?_) o ho hd hty K Q (fun vv ρ' I2 w' hm' hx' hb' hr' => ?_)
  · rw [look_append, look_append]
    by_cases hji : j = id
    · subst hji; simp [look_cons]
    · rw [look_cons, if_neg (Ne.symm hji)]
      show look j γ = look j β
      refine hag j ?_
      simp only [List.map_append, List.mem_append, List.mem_cons, List.cons_append] at hj ⊢
      rcases hj with hj | hj
      · exact .inr (.inl hj)
      · exact .inr (.inr (.inl hj))
  · obtain ⟨h1, h2⟩ := hops z hz
    have h1' : (e z).inB ([(id, Box.frz sz es)] ++ γ) := A.inB_mono (fun i hi => dom_append hi) _ h1
    have h2' := RepA.ext x1 _ _ h1 h2
    unfold setE
    split
    · rename_i t'
      split
      · rename_i e1
        subst e1
        rw [hx] at h2
        refine ⟨trivial, ?_⟩
        show RepD I' w (.sl sz es) _
        rw [h2.1]; exact r1
      · exact ⟨h1', h2'⟩
    · exact ⟨h1', h2'⟩
  · refine hK vv ρ' I2 w' (by rw [List.append_assoc]; exact hm') (x1.trans hx' (fun i hi => dom_append hi)) ?_ hr'
    rw [List.append_assoc]; exact hb'
theorem does_build_f {el : TypeId} {te tt : TyI} {t id n sz : Nat} {es : List (List D)} (hT : mkTy P T = some tt) (hk : tt.kind = .slice el) (hte : mkTy P el = some te) (hsz : te.size = 1) (hx : e (.tmp t) = .ow id n) (hro : rowsOf β id = some (sz, es)) (hf : look fr β = none) (hne : id ≠ fr) :
    Does P (some fr) (.buildSlice T 1 #[(0, .tmp t)]) ty e β (.ow fr 1) [(fr, .row el 1 [[.sl sz es]]), (id, .frz sz es)] [id] := by
  have h := does_buildSlice (P := P) (fr := fr) (ty := ty) (e := setE e t (.d (.sl sz es))) (β := [(id, .frz sz es)] ++ β) (T := T) (len := 1) (parts := #[(0, .tmp t)]) (es := [[.sl sz es]]) hT hk hte rfl (by
    show cellsOfs [setE e t (.d (.sl sz es)) (.tmp t)] = _
    simp [setE, cellsOfs]; rfl) (by rw [hsz]; exact ⟨rfl, rfl, trivial⟩) (by omega) (by omega) (by rw [look_append, look_cons, if_neg hne]; exact hf)
  rw [hsz] at h
  exact does_frz t hx hro h
end
section
variable {P : Program} {dst : Option Nat} {ty : TypeId} {e : Operand → A} {β : Bx} {T T' : TypeId} {x y : Operand}
theorem bits_or (x y : Nat) (hx : x < 9223372036854775808) (hy : y < 9223372036854775808) : bitV .or .i64 (x : Int) (y : Int) = ((x ||| y : Nat) : Int) := by
  have hz : x ||| y < 2 ^ 63 := Nat.or_lt_two_pow (by omega) (by omega)
  have e : ∀ z : Nat, z < 9223372036854775808 → (BitVec.ofInt 64 (z : Int)).toNat = z := fun z hz => by rw [BitVec.ofInt_natCast, BitVec.toNat_ofNat]; exact Nat.mod_eq_of_lt (by omega)
  show IntKind.i64.wrap ((BitVec.ofInt 64 (x : Int) ||| BitVec.ofInt 64 (y : Int)).toNat : Int) = _
  rw [BitVec.toNat_or, e x hx, e y hy, IntKind.wrap_i64]
  omega
/-- The or of a number whose low bits are noughts and of one that has only those. -/
theorem does_or_join {p q : Int} (s m a b z : Nat) (hm : m = 2 ^ s) (hx : e x = .d (iD p)) (hy : e y = .d (iD q)) (hp : p = ((a * m : Nat) : Int)) (hq : q = (b : Nat)) (hb : b < m) (hz : a * m + b = z) (hlt : z < 9223372036854775808) : Does P dst (.binOp .or T x y T') ty e β (.d (iD (z : Nat))) [] [] := by
  subst hm hp hq
  have h := does_bor (P := P) (dst := dst) (ty := ty) (β := β) (T := T) (T' := T') hx hy
  have e1 : a * 2 ^ s ||| b = z := by
    rw [← hz, ← Nat.shiftLeft_eq, Nat.shiftLeft_add_eq_or_of_lt hb]
  rwa [bits_or _ _ (by omega) (by omega), e1] at h
theorem does_shl_n {p n : Int} {k' : IntKind} (a s m z : Nat) (hm : m = 2 ^ s) (hx : e x = .d (iD p)) (hy : e y = .d (.sc (.int k' n))) (hp : p = (a : Nat)) (hn : n = (s : Nat)) (hs : s < 64) (hz : a * m = z) (hlt : z < 9223372036854775808) : Does P dst (.binOp .shl T x y T') ty e β (.d (iD (z : Nat))) [] [] := by
  subst hm hp hn
  have h := does_shl (P := P) (dst := dst) (ty := ty) (β := β) (T := T) (T' := T') hx hy (by omega)
  have e1 : min (Int.toNat ((s : Nat) : Int)) IntKind.i64.bits = s := by show min s 64 = s; omega
  have e2 : (a : Int) * 2 ^ s = (z : Int) := by rw [← hz]; simp
  have e3 : IntKind.i64.wrap (z : Int) = z := by rw [IntKind.wrap_i64]; omega
  rwa [e1, e2, e3] at h
end
end Go.Proofs.Ytpaccaojgbfjdaa


/-
  The pure layer: a part of a slice with a bound on its capacity; parts of lists. No condition.
-/
namespace Go.Proofs.Ytpaccaojgbfjdaa
set_option linter.unusedSimpArgs false
set_option linter.unusedVariables false
open Go.RowKit

section
variable {P : Program} {dst : Option Nat} {ty : TypeId} {e : Operand → A} {β : Bx} {T : TypeId} {x : Operand}
end
end Go.Proofs.Ytpaccaojgbfjdaa

