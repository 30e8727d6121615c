/-
  The pure layer: words of 32 and 64 bits, bytes. No condition.
-/
import Derived.Test.YtclhmdobhlalmaaDoorZB
import Derived.Test.YtclhmdobhlalmaaDoorZTl
import Derived.Laws.CopyRow
import Derived.Laws.IdiomCopy
import Derived.Laws.IdiomStrings
import Derived.Laws.BytesString
namespace Go.Proofs.YtclhmdobhlalmaaDoor
set_option linter.unusedSimpArgs false
set_option linter.unusedVariables false
open Go.RowKit

abbrev wD (x : UInt32) : D := .sc (.int .u32 (x.toNat : Int))
abbrev lD (x : UInt64) : D := .sc (.int .u64 (x.toNat : Int))
theorem wrap_u (k : IntKind) (hk : k.signed = false) (n : Nat) : k.wrap (n : Int) = ((n % 2 ^ k.bits : Nat) : Int) := by
  unfold IntKind.wrap
  simp [hk]
theorem ofInt_nat (b n : Nat) : BitVec.ofInt b (n : Int) = BitVec.ofNat b n := by
  apply BitVec.eq_of_toNat_eq
  simp [BitVec.toNat_ofInt]
theorem fdiv_pow (m s : Nat) : (m : Int).fdiv (2 ^ s) = ((m / 2 ^ s : Nat) : Int) := by
  have h : (2 : Int) ^ s = ((2 ^ s : Nat) : Int) := by push_cast; rfl
  rw [h, Int.fdiv_eq_ediv_of_nonneg _ (Int.natCast_nonneg _)]
  rfl
section
variable {P : Program} {dst : Option Nat} {ty : TypeId} {e : Operand → A} {β : Bx} {T T' : TypeId} {x y : Operand}
theorem does_add32 {a b : UInt32} (hx : e x = .d (wD a)) (hy : e y = .d (wD b)) : Does P dst (.binOp .add T x y T') ty e β (.d (wD (a + b))) [] [] :=
  does_int_to hx hy trivial (by
    show D.sc (.int .u32 (IntKind.u32.wrap ((a.toNat : Int) + (b.toNat : Int)))) = _
    rw [← Int.natCast_add, wrap_u _ rfl]; show _ = D.sc (.int .u32 ((a + b).toNat : Int)); rw [UInt32.toNat_add]; rfl)
theorem bit_u (k : IntKind) (hk : k.signed = false) {m n : Nat} (hm : m < 2 ^ k.bits) (hn : n < 2 ^ k.bits) : bitV .xor k m n = ((m ^^^ n : Nat) : Int) ∧ bitV .and k m n = ((m &&& n : Nat) : Int) ∧ bitV .or k m n = ((m ||| n : Nat) : Int) := by
  have h1 : (BitVec.ofNat k.bits m).toNat = m := by rw [BitVec.toNat_ofNat, Nat.mod_eq_of_lt hm]
  have h2 : (BitVec.ofNat k.bits n).toNat = n := by rw [BitVec.toNat_ofNat, Nat.mod_eq_of_lt hn]
  refine ⟨?_, ?_, ?_⟩ <;> simp only [bitV, ofInt_nat, BitVec.toNat_xor, BitVec.toNat_and, BitVec.toNat_or, h1, h2] <;> rw [wrap_u _ hk, Nat.mod_eq_of_lt]
  · exact Nat.xor_lt_two_pow hm hn
  · exact Nat.lt_of_le_of_lt Nat.and_le_left hm
  · exact Nat.or_lt_two_pow hm hn
theorem does_xor32 {a b : UInt32} (hx : e x = .d (wD a)) (hy : e y = .d (wD b)) : Does P dst (.binOp .xor T x y T') ty e β (.d (wD (a ^^^ b))) [] [] :=
  does_int_to hx hy trivial (by
    show D.sc (.int .u32 (bitV .xor .u32 (a.toNat : Int) (b.toNat : Int))) = _
    rw [(bit_u .u32 rfl a.toNat_lt b.toNat_lt).1, ← UInt32.toNat_xor])
theorem does_and32 {a b : UInt32} (hx : e x = .d (wD a)) (hy : e y = .d (wD b)) : Does P dst (.binOp .and T x y T') ty e β (.d (wD (a &&& b))) [] [] :=
  does_int_to hx hy trivial (by
    show D.sc (.int .u32 (bitV .and .u32 (a.toNat : Int) (b.toNat : Int))) = _
    rw [(bit_u .u32 rfl a.toNat_lt b.toNat_lt).2.1, ← UInt32.toNat_and])
theorem does_or32 {a b : UInt32} (hx : e x = .d (wD a)) (hy : e y = .d (wD b)) : Does P dst (.binOp .or T x y T') ty e β (.d (wD (a ||| b))) [] [] :=
  does_int_to hx hy trivial (by
    show D.sc (.int .u32 (bitV .or .u32 (a.toNat : Int) (b.toNat : Int))) = _
    rw [(bit_u .u32 rfl a.toNat_lt b.toNat_lt).2.2, ← UInt32.toNat_or])
theorem does_xor8 {a b : UInt8} (hx : e x = .d (u8D a)) (hy : e y = .d (u8D b)) : Does P dst (.binOp .xor T x y T') ty e β (.d (u8D (a ^^^ b))) [] [] :=
  does_int_to hx hy trivial (by
    show D.sc (.int .u8 (bitV .xor .u8 (a.toNat : Int) (b.toNat : Int))) = _
    rw [(bit_u .u8 rfl a.toNat_lt b.toNat_lt).1, ← UInt8.toNat_xor])
theorem does_shl32 {a : UInt32} {k' : IntKind} {n : Int} {s : Nat} (hx : e x = .d (wD a)) (hy : e y = .d (.sc (.int k' n))) (hn : n = (s : Nat)) (hs : s < 32) : Does P dst (.binOp .shl T x y T') ty e β (.d (wD (a <<< UInt32.ofNat s))) [] [] := by
  have h := does_shift (P := P) (dst := dst) (ty := ty) (β := β) (bo := .shl) (T := T) (T' := T') hx hy (.inl rfl) (by omega)
  have e1 : (intV .shl .u32 (a.toNat : Int) n).2 = .int .u32 ((a <<< UInt32.ofNat s).toNat : Int) := by
    subst hn
    show Value.int .u32 (IntKind.u32.wrap ((a.toNat : Int) * 2 ^ (min (s : Int).toNat 32))) = _
    have h1 : min (s : Int).toNat 32 = s := by omega
    have h2 : ((a.toNat : Int) * 2 ^ s) = ((a.toNat * 2 ^ s : Nat) : Int) := by push_cast; rfl
    have h3 : (UInt32.ofNat s).toNat % 32 = s := by simp; omega
    rw [h1, h2, wrap_u _ rfl, UInt32.toNat_shiftLeft, h3, Nat.shiftLeft_eq]
    rfl
  rw [e1] at h; exact h
theorem does_shr32 {a : UInt32} {k' : IntKind} {n : Int} {s : Nat} (hx : e x = .d (wD a)) (hy : e y = .d (.sc (.int k' n))) (hn : n = (s : Nat)) (hs : s < 32) : Does P dst (.binOp .shr T x y T') ty e β (.d (wD (a >>> UInt32.ofNat s))) [] [] := by
  have h := does_shift (P := P) (dst := dst) (ty := ty) (β := β) (bo := .shr) (T := T) (T' := T') hx hy (.inr rfl) (by omega)
  have e1 : (intV .shr .u32 (a.toNat : Int) n).2 = .int .u32 ((a >>> UInt32.ofNat s).toNat : Int) := by
    subst hn
    show Value.int .u32 ((a.toNat : Int).fdiv (2 ^ (min (s : Int).toNat 32))) = _
    have h1 : min (s : Int).toNat 32 = s := by omega
    have h3 : (UInt32.ofNat s).toNat % 32 = s := by simp; omega
    rw [h1, UInt32.toNat_shiftRight, h3, Nat.shiftRight_eq_div_pow, fdiv_pow]
  rw [e1] at h; exact h
theorem does_shr64 {a : UInt64} {k' : IntKind} {n : Int} {s : Nat} (hx : e x = .d (lD a)) (hy : e y = .d (.sc (.int k' n))) (hn : n = (s : Nat)) (hs : s < 64) : Does P dst (.binOp .shr T x y T') ty e β (.d (lD (a >>> UInt64.ofNat s))) [] [] := by
  have h := does_shift (P := P) (dst := dst) (ty := ty) (β := β) (bo := .shr) (T := T) (T' := T') hx hy (.inr rfl) (by omega)
  have e1 : (intV .shr .u64 (a.toNat : Int) n).2 = .int .u64 ((a >>> UInt64.ofNat s).toNat : Int) := by
    subst hn
    show Value.int .u64 ((a.toNat : Int).fdiv (2 ^ (min (s : Int).toNat 64))) = _
    have h1 : min (s : Int).toNat 64 = s := by omega
    have h3 : (UInt64.ofNat s).toNat % 64 = s := by simp; omega
    rw [h1, UInt64.toNat_shiftRight, h3, Nat.shiftRight_eq_div_pow, fdiv_pow]
  rw [e1] at h; exact h
theorem does_mul64 {a b : UInt64} (hx : e x = .d (lD a)) (hy : e y = .d (lD b)) : Does P dst (.binOp .mul T x y T') ty e β (.d (lD (a * b))) [] [] :=
  does_int_to hx hy trivial (by
    show D.sc (.int .u64 (IntKind.u64.wrap ((a.toNat : Int) * (b.toNat : Int)))) = _
    rw [← Int.natCast_mul, wrap_u _ rfl]; show _ = D.sc (.int .u64 ((a * b).toNat : Int)); rw [UInt64.toNat_mul]; rfl)
/-- ^x of 32 bits: as exclusive or with all ones. -/
theorem does_not32 {a : UInt32} (hx : e x = .d (wD a)) : Does P dst (.unOp .xor T x) ty e β (.d (wD (4294967295 ^^^ a))) [] [] :=
  Does.of_run fun C γ _ ρ I w _ ac hops o ho _ => by
    have h1 := (hops x (by simp [Op.operands])).2
    rw [hx] at h1
    have h1 := repA_sc h1
    have e1 : bitV .xor .u32 4294967295 (a.toNat : Int) = (((4294967295 ^^^ a : UInt32).toNat : Nat) : Int) := by
      have := (bit_u .u32 rfl (m := 4294967295) (n := a.toNat) (by decide) a.toNat_lt).1
      rw [UInt32.toNat_xor]
      exact this
    refine ⟨.int .u32 (bitV .xor .u32 4294967295 (a.toNat : Int)), ?_, trivial, ?_, rfl⟩
    · simp only [execOp, ho, h1]
      rfl
    · rw [e1]
theorem does_conv8_32 {S : TypeId} {s t : TyI} {b : UInt8} (hs : mkTy P S = some s) (ht : mkTy P T = some t) (hk : t.kind = .int .u32) (hx : e x = .d (u8D b)) : Does P dst (.convert S T x) ty e β (.d (wD b.toUInt32)) [] [] := by
  have h := does_conv_int (P := P) (dst := dst) (ty := ty) (β := β) hs ht hk hx
  have e1 : IntKind.u32.wrap (b.toNat : Int) = (b.toUInt32.toNat : Int) := by
    have := b.toNat_lt
    rw [wrap_u _ rfl, UInt8.toNat_toUInt32, Nat.mod_eq_of_lt (by show b.toNat < 4294967296; omega)]
  rw [e1] at h; exact h
theorem does_conv32_8 {S : TypeId} {s t : TyI} {a : UInt32} (hs : mkTy P S = some s) (ht : mkTy P T = some t) (hk : t.kind = .int .u8) (hx : e x = .d (wD a)) : Does P dst (.convert S T x) ty e β (.d (u8D a.toUInt8)) [] [] := by
  have h := does_conv_int (P := P) (dst := dst) (ty := ty) (β := β) hs ht hk hx
  have e1 : IntKind.u8.wrap (a.toNat : Int) = (a.toUInt8.toNat : Int) := by
    rw [wrap_u _ rfl, UInt32.toNat_toUInt8]; rfl
  rw [e1] at h; exact h
theorem does_conv64_8 {S : TypeId} {s t : TyI} {a : UInt64} (hs : mkTy P S = some s) (ht : mkTy P T = some t) (hk : t.kind = .int .u8) (hx : e x = .d (lD a)) : Does P dst (.convert S T x) ty e β (.d (u8D a.toUInt8)) [] [] := by
  have h := does_conv_int (P := P) (dst := dst) (ty := ty) (β := β) hs ht hk hx
  have e1 : IntKind.u8.wrap (a.toNat : Int) = (a.toUInt8.toNat : Int) := by
    rw [wrap_u _ rfl, UInt64.toNat_toUInt8]; rfl
  rw [e1] at h; exact h
theorem does_conv_64 {S : TypeId} {s t : TyI} {m : Nat} (hs : mkTy P S = some s) (ht : mkTy P T = some t) (hk : t.kind = .int .u64) (hx : e x = .d (iD m)) : Does P dst (.convert S T x) ty e β (.d (lD (UInt64.ofNat m))) [] [] := by
  have h := does_conv_int (P := P) (dst := dst) (ty := ty) (β := β) hs ht hk hx
  have e1 : IntKind.u64.wrap (m : Int) = ((UInt64.ofNat m).toNat : Int) := by
    rw [wrap_u _ rfl, UInt64.toNat_ofNat']; rfl
  rw [e1] at h; exact h
/-- An element of an array of cells that lies in a variable. -/
theorem does_index_px {S el : TypeId} {t : TyI} {len i id off0 off : Nat} {er : Bool} {k : IntKind} {n : Int} (ht : mkTy P S = some t) (hk : t.kind = .array len el 1 er) (hx : e x = .px id off0) (hy : e y = .d (.sc (.int k n))) (hn : n = (i : Nat)) (hi : i < len) (ho : off0 + i = off) :
    Does P dst (.indexAddr S x y) ty e β (.px id off) [] [] :=
  does_index_arr ht hk hy hn hi (by decide) (by rw [hx, ← ho, Nat.mul_one]; rfl)
end
theorem get_w {l : List UInt32} {i : Nat} (h : i < l.length) : ((l.map wD).map A.d)[i]? = some (.d (wD (l.getD i 0))) := by
  rw [List.getElem?_map, List.getElem?_map, List.getElem?_eq_getElem h, List.getD_eq_getElem?_getD, List.getElem?_eq_getElem h]; rfl
theorem get_b {l : List UInt8} {i : Nat} (h : i < l.length) : ((l.map u8D).map A.d)[i]? = some (.d (u8D (l.getD i 0))) := by
  rw [List.getElem?_map, List.getElem?_map, List.getElem?_eq_getElem h, List.getD_eq_getElem?_getD, List.getElem?_eq_getElem h]; rfl
theorem set_w {l : List UInt32} {i : Nat} {x : UInt32} : (((l.map wD).map A.d).set i (.d (wD x))) = ((l.set i x).map wD).map A.d := by
  rw [List.map_set, List.map_set]
theorem set_b {l : List UInt8} {i : Nat} {x : UInt8} : (((l.map u8D).map A.d).set i (.d (u8D x))) = ((l.set i x).map u8D).map A.d := by
  rw [List.map_set, List.map_set]
abbrev wA (w : List UInt32) : List A := (w.map wD).map A.d
abbrev bA (b : List UInt8) : List A := (b.map u8D).map A.d
section
variable {P : Program} {dst : Option Nat} {ty : TypeId} {e : Operand → A} {β : Bx} {T T0 : TypeId} {x y : Operand}
theorem does_set_w {t : TyI} {id off : Nat} {w : List UInt32} {z : UInt32} (ht : mkTy P T = some t) (hs : t.size = 1) (hx : e x = .px id off) (hy : e y = .d (wD z)) (hl : look id β = some (.var T0 (wA w))) (hoff : off < w.length) :
    Does P dst (.store T x y) ty e β .un [(id, .var T0 (wA (w.set off z)))] [id] := by
  have h := does_store (P := P) (dst := dst) (ty := ty) ht hs hx hy rfl hl (by simpa using hoff)
  rwa [set_w] at h
theorem does_set_b {t : TyI} {id off : Nat} {w : List UInt8} {z : UInt8} (ht : mkTy P T = some t) (hs : t.size = 1) (hx : e x = .px id off) (hy : e y = .d (u8D z)) (hl : look id β = some (.var T0 (bA w))) (hoff : off < w.length) :
    Does P dst (.store T x y) ty e β .un [(id, .var T0 (bA (w.set off z)))] [id] := by
  have h := does_store (P := P) (dst := dst) (ty := ty) ht hs hx hy rfl hl (by simpa using hoff)
  rwa [set_b] at h
end
/-- Turned to the left. -/
def rotl (x : UInt32) (s : Nat) : UInt32 := (x <<< UInt32.ofNat s) ||| (x >>> UInt32.ofNat (32 - s))
end Go.Proofs.YtclhmdobhlalmaaDoor

/-
  The pure layer: arrays of bytes, sliced. No condition.
-/
namespace Go.Proofs.YtclhmdobhlalmaaDoor
set_option linter.unusedSimpArgs false
set_option linter.unusedVariables false
open Go.RowKit

abbrev byD (b : List UInt8) : D := .sl 1 (b.map fun c => [u8D c])
theorem run_slice_arr {P : Program} {T el : TypeId} {t : TyI} {len esz : Nat} {er : Bool} (ht : mkTy P T = some t) (hk : t.kind = .array len el esz er) (hs : esz ≠ 0) {hi : Option Value} {h : Nat} {k : IntKind} (hh : hi = some (.int k (h : Int)) ∨ (hi = none ∧ h = len)) (hl : h ≤ len) (g : Nat) (w : World) :
    (Instr.sliceAt T (.pointer (some ⟨g, 0, none⟩)) none hi none).run P w = .ok (.slice (some ⟨g, 0, none⟩) h len) w := by
  obtain ⟨i, d, z, _, hd, _, _, _, _, _, hkd⟩ := mkTy_spec ht
  obtain ⟨rfl, rfl, rfl⟩ := kind_array (hkd.symm.trans hk)
  have hadd : (⟨g, 0, none⟩ : Addr).add (0 * P.cellsOf el) = ⟨g, 0, none⟩ := by rw [Nat.zero_mul]; exact Addr.add_mid g 0 0
  rcases hh with rfl | ⟨rfl, rfl⟩
  · simp [Instr.sliceAt, Instr.sureAddr, run_underlying hd, Instr.sliceBounds, Instr.sliceBound, asIntOf, Sem.run_bind, run_sizeOf hs, hadd, hl]
    exact fun _ => Addr.add_mid g 0 0
  · simp [Instr.sliceAt, Instr.sureAddr, run_underlying hd, Instr.sliceBounds, Sem.run_bind, run_sizeOf hs, hadd]
    exact fun _ => Addr.add_mid g 0 0
section
variable {P : Program} {dst : Option Nat} {ty : TypeId} {e : Operand → A} {β : Bx} {T T0 T1 : TypeId} {x y : Operand}
theorem does_alloc_b {fr : Nat} {t : TyI} {l : List UInt8} (ht : mkTy P T = some t) (hz : t.zero = l.map u8D) (hf : look fr β = none) : Does P (some fr) (.alloc T) ty e β (.px fr 0) [(fr, .var T (bA l))] [] := by
  have h := does_alloc (P := P) (ty := ty) (e := e) ht hf
  rwa [hz] at h
theorem zero32 : List.replicate 32 (D.sc (.int .u8 0)) = (List.replicate 32 (0 : UInt8)).map u8D := by rw [List.map_replicate]; rfl
/-- A slice of an array that lies in a variable. -/
theorem does_slice_sx {t : TyI} {el : TypeId} {len esz id h : Nat} {er : Bool} {hi : Option Operand} (ht : mkTy P T = some t) (hk : t.kind = .array len el esz er) (hs : esz ≠ 0) (hx : e x = .px id 0) (hh : hiIs e h len hi) (hl : h ≤ len) :
    Does P dst (.slice T x none hi none) ty e β (.sx id h len) [] [] :=
  Does.of_run fun C γ _ ρ I w _ a hops o ho _ => by
    obtain ⟨hb, hp⟩ := hops x (by simp [Op.operands])
    rw [hx] at hb hp
    obtain ⟨g, hg, hp⟩ := hp
    obtain ⟨k2, v2⟩ := hi_val (a := a) hh fun y hy => (hops y (by cases hi <;> simp_all [Op.operands])).2
    refine ⟨_, ?_, hb, g, hg, rfl⟩
    simp only [execOp, ho, hp, Sem.run_bind, Option.map_none, run_slice_arr ht hk hs v2 hl g w]
    rfl
theorem repR_ones {I : Nat → Prop} {w : World} : ∀ {ds : List D} {us : List Value}, RepC I w true ds us → RepR I w 1 (ds.map fun d => [d]) us
  | [], _, h => h
  | d :: ds, _, ⟨u, us, h1, h2, h3, h4⟩ => ⟨[u], us, h1, rfl, ⟨u, [], rfl, h2, h3, rfl⟩, repR_ones h4⟩
/-- The same, where the array is not turned from then on: its elements are data. -/
theorem does_slice_frz {t : TyI} {el : TypeId} {len id h : Nat} {er : Bool} {hi : Option Operand} {ds : List D} (ht : mkTy P T = some t) (hk : t.kind = .array len el 1 er) (hx : e x = .px id 0) (hh : hiIs e h len hi) (hl : h ≤ len) (hlk : look id β = some (.var T0 (ds.map A.d))) (hlen : ds.length = len) :
    Does P dst (.slice T x none hi none) ty e β (.d (.sl 1 ((ds.take h).map fun d => [d]))) [(id, .dead)] [id] := by
  intro C γ hag ρ I w hm a hops o ho hd hty K Q hK
  have hl2 : look id γ = some (.var T0 (ds.map A.d)) := (hag id (by simp)).trans hlk
  obtain ⟨hb, hp⟩ := hops x (by simp [Op.operands])
  rw [hx] at hp
  obtain ⟨g, hg, hp⟩ := hp
  obtain ⟨g', us, k1, k2, k3, k4⟩ := var_cell hm hl2
  rw [hg] at k1
  injection k1 with k1; injection k1 with k1; injection k1 with k1
  subst k1
  obtain ⟨kk, v2⟩ := hi_val (a := a) hh fun y hy => (hops y (by cases hi <;> simp_all [Op.operands])).2
  have hbk : blk (ρ id) = some g := by rw [hg]; rfl
  obtain ⟨o1, o2, o3⟩ := hm.own id _ g hl2 rfl hbk
  have hx2 : Ext γ ρ I w ρ (fun k => I k ∨ k = g) w := ⟨⟨fun _ h => .inl h, fun _ _ => rfl⟩, fun _ _ => rfl⟩
  have hmem := hm.upd [(id, Box.dead)] hx2 rfl rfl rfl (Nat.le_refl _) (fun k h => by
      rcases h with h | h
      · exact hm.imm k h
      · subst h; exact o1) (fun k h => by
      rcases h with h | h
      · exact .inl h
      · subst h; exact .inr o3) (fun _ => False) (fun k hk _ => rfl) (fun k h => h.elim) (fun i b' k hi' hn hlv' hbk' => ⟨fun h => h, fun h => by
      rcases h with h | h
      · exact (hm.own i b' k hi' hlv' hbk').2.1 h
      · subst h; exact look_one_none hn (hm.inj i id b' _ _ hi' hl2 hlv' rfl hbk' hbk)⟩) (fun i b' h => by
      obtain ⟨rfl, rfl⟩ := look_one h
      exact ⟨trivial, trivial, fun h => by cases h⟩)
    (fun i j b' b'' k hi' hj _ _ _ _ => by rw [(look_one hi').1, (look_one hj).1])
  unfold Oper.wp
  have hrun : (execOp a.eval o).run P w = .ok (.value (.slice (some ⟨g, 0, none⟩) h len)) w := by
    simp only [execOp, ho, hp, Sem.run_bind, Option.map_none, run_slice_arr ht hk Nat.one_ne_zero v2 hl g w]
    rfl
  rw [hrun, Oper.upon_value, hd]
  refine hK _ ρ _ w hmem hx2 trivial ⟨some ⟨g, 0, none⟩, len, us.toList.take h, ?_, ?_, ?_, fun _ => ⟨g, 0, rfl, .inr rfl, fun j u hu => ?_⟩⟩
  · simp [hlen, Nat.min_eq_left hl]
  · simp [hlen]; omega
  · have h3 : RepC I w true ds us.toList := repC_of_A k3
    have h4 := RepC.ext hx2.toExtI true _ _ h3
    exact repR_ones (repC_take h h4)
  · rw [List.getElem?_take] at hu
    split at hu
    · rw [Nat.zero_add, cell_in k2]; simpa using hu
    · cases hu
theorem by_take (l : List UInt8) (h : Nat) : (((l.map u8D).take h).map fun d => [d]) = (l.take h).map fun c => [u8D c] := by
  rw [← List.map_take, List.map_map]; rfl
theorem does_slice_by {t : TyI} {el : TypeId} {len id h : Nat} {er : Bool} {hi : Option Operand} {l : List UInt8} (ht : mkTy P T = some t) (hk : t.kind = .array len el 1 er) (hx : e x = .px id 0) (hh : hiIs e h len hi) (hl : h ≤ len) (hlk : look id β = some (.var T0 (bA l))) (hlen : l.length = len) :
    Does P dst (.slice T x none hi none) ty e β (.d (byD (l.take h))) [(id, .dead)] [id] := by
  have hh := does_slice_frz (P := P) (dst := dst) (ty := ty) ht hk hx hh hl hlk (by simpa using hlen)
  rwa [by_take] at hh
theorem does_slice_by_all {t : TyI} {el : TypeId} {len id : Nat} {er : Bool} {l : List UInt8} (ht : mkTy P T = some t) (hk : t.kind = .array len el 1 er) (hx : e x = .px id 0) (hlk : look id β = some (.var T0 (bA l))) (hlen : l.length = len) :
    Does P dst (.slice T x none none none) ty e β (.d (byD l)) [(id, .dead)] [id] := by
  have hh := does_slice_by (P := P) (dst := dst) (ty := ty) (hi := none) ht hk hx rfl (Nat.le_refl _) hlk hlen
  rwa [List.take_of_length_le (by omega)] at hh
theorem by_repC {I : Nat → Prop} {w : World} : ∀ {k : List UInt8} {xs : List Value}, RepR I w 1 (k.map fun c => [u8D c]) xs → xs = k.map (fun c => Value.int .u8 (c.toNat : Int))
  | [], _, h => h
  | c :: k, _, ⟨us, us', hx, h1, ⟨u, us2, hy, _, hu, hz⟩, h2⟩ => by
    have hu : u = .int .u8 (c.toNat : Int) := hu.1
    have hz : us2 = [] := hz
    rw [hx, hy, hu, hz, by_repC h2]; rfl
theorem by_repAs {ρ : Nat → Value} {I : Nat → Prop} {w : World} : ∀ k : List UInt8, RepAs ρ I w true (bA k) (k.map (fun c => Value.int .u8 (c.toNat : Int)))
  | [] => rfl
  | c :: k => ⟨_, _, rfl, fun _ => rfl, ⟨rfl, rfl⟩, by_repAs k⟩
/-- copy into a whole array of bytes. -/
theorem does_copy_by {el : TypeId} {tb te : TyI} {id n c : Nat} {l k : List UInt8} (ht : mkTy P T = some tb) (hk : tb.kind = .slice el) (hte : mkTy P el = some te) (hes : te.size = 1) (hx : e x = .sx id n c) (hy : e y = .d (byD k)) (hlk : look id β = some (.var T0 (bA l))) (hlen : l.length = n) (hkn : k.length ≤ n) :
    Does P dst (.call { callee := .builtin .copy, args := #[x, y], argTypes := #[T, T1] }) ty e β (.d (iD k.length)) [(id, .var T0 (bA (k ++ l.drop k.length)))] [id] := by
  intro C γ hag ρ I w hm a hops o ho hd hty K Q hK
  have hl2 : look id γ = some (.var T0 (bA l)) := (hag id (by simp)).trans hlk
  obtain ⟨hb, hp⟩ := hops x (by simp [Op.operands, Call.operands])
  obtain ⟨_, hq⟩ := hops y (by simp [Op.operands, Call.operands])
  rw [hx] at hb hp
  rw [hy] at hq
  obtain ⟨g, hg, hp⟩ := hp
  obtain ⟨ad, cc, xs, hq, hcc, hR, hcell⟩ := hq
  rw [List.length_map] at hq hcc hcell
  have hxs := by_repC hR
  obtain ⟨g', us, k1, k2, k3, k4⟩ := var_cell hm hl2
  rw [hg] at k1
  injection k1 with k1; injection k1 with k1; injection k1 with k1
  subst k1
  have hus := repAs_len k3
  rw [Array.length_toList, List.length_map, List.length_map] at hus
  obtain ⟨ie, de, ze, hie, _, _, hsz, _⟩ := mkTy_spec hte
  obtain ⟨i, d, z, _, hud, _, _, _, _, _, hkd⟩ := mkTy_spec ht
  have hu : P.underlying T = some (.slice el) := by rw [hud, kind_slice (hkd.symm.trans hk)]
  have hs : (P.info? el).map (·.size) = some 1 := by rw [hie]; simp [← hsz, hes]
  have hmin : Nat.min k.length n = k.length := Nat.min_eq_left hkn
  by_cases h0 : k = []
  · subst h0
    have hrun0 := run_copy_none (P := P) w T T1 ty el (some ⟨g, 0, none⟩) ad n c 0 cc hu hs (Nat.zero_min n)
    unfold Oper.wp
    have hrun : (execOp a.eval o).run P w = .ok (.value (.int .i64 0)) w := by
      simp only [execOp, ho, resolve, invoke, builtin, Sem.run_bind, hp, hq, List.map_toArray, List.map_cons, List.map_nil, Sem.run_pure, Result.andThen_ok, hty]
      have : (Builtin.copy_ #[T, T1] ty #[.slice (some ⟨g, 0, none⟩) n c, .slice ad 0 cc]).run P w = .ok (goInt 0) w := hrun0
      simp [this, Sem.run_bind, goInt]
    rw [hrun, Oper.upon_value, hd]
    refine hK _ ρ I w (hm.congr fun i => ?_) (Ext.refl _ _ _ _) trivial ⟨rfl, rfl⟩
    rw [look_append, look_cons]
    split
    · rename_i hi; subst hi; rw [hl2]; rfl
    · rfl
  · have hpos : 0 < k.length := List.length_pos_iff.2 h0
    obtain ⟨gs, offs, rfl, hI, hc⟩ := hcell hpos
    have hxl : xs.length = k.length := by rw [hxs]; simp
    have hrun0 := run_copy_cells (P := P) w T T1 ty el g 0 n c ⟨gs, offs, none⟩ k.length cc xs hu hs (by rw [hxl, hmin]) (fun j v hv => by rw [Addr.add_mid]; exact hc j v hv)
      (fun j hj => by rw [cell_in k2, Nat.zero_add, Array.getElem?_eq_getElem (by omega)]; rfl) (fun j hj => by simp [World.frozen?, k2]) (fun v hv => by
      rw [hxs] at hv
      obtain ⟨b, _, rfl⟩ := List.mem_map.1 hv
      rfl)
    rw [hxl] at hrun0
    unfold Oper.wp
    have hrun : (execOp a.eval o).run P w = .ok (.value (.int .i64 k.length)) (w.setCells g 0 xs) := by
      simp only [execOp, ho, resolve, invoke, builtin, Sem.run_bind, hp, hq, List.map_toArray, List.map_cons, List.map_nil, Sem.run_pure, Result.andThen_ok, hty]
      simp [hrun0, Sem.run_bind, goInt]
    rw [hrun, Oper.upon_value, hd]
    have hbk : blk (ρ id) = some g := by rw [hg]; rfl
    obtain ⟨us', e1, e2⟩ := setCells_at (g := g) xs 0 w us k2 (by omega)
    have hmem := hm.set_box hl2 rfl hbk (setCells_grown g xs 0 w) (b := .var T0 (bA (k ++ l.drop k.length))) (fun hx => ⟨g, us', hg, e1, by
      rw [e2]
      have h1 := repAs_putAt (RepAs.ext hx true _ _ k4 k3) (by_repAs (ρ := ρ) (I := I) (w := w.setCells g 0 xs) k) 0
      rw [← hxs] at h1
      have h2 : putAt (bA l) 0 (bA k) = bA (k ++ l.drop k.length) := by
        unfold putAt
        simp [List.map_append, List.map_drop]
      rwa [h2] at h1⟩) (insB_map _)
    exact hK _ ρ I _ hmem.1 hmem.2 trivial ⟨rfl, rfl⟩
end
end Go.Proofs.YtclhmdobhlalmaaDoor

/-
  The pure layer: bytes and texts. No condition.
-/
namespace Go.Proofs.YtclhmdobhlalmaaDoor
set_option linter.unusedSimpArgs false
set_option linter.unusedVariables false
open Go.RowKit

abbrev byS (l : List UInt8) : ByteArray := ⟨l.toArray⟩
theorem by_cells {I : Nat → Prop} {w : World} {k : List UInt8} {v : Value} (h : RepD I w (byD k) v) : ∃ ad c, v = .slice ad k.length c ∧ (0 < k.length → ∃ g off, ad = some ⟨g, off, none⟩ ∧ ∀ j (hj : j < k.length), w.cell? ⟨g, off + j, none⟩ = some (.int .u8 (k[j].toNat : Int))) := by
  obtain ⟨ad, c, xs, h1, h2, h3, h4⟩ := h
  rw [List.length_map] at h1 h2 h4
  refine ⟨ad, c, h1, fun h0 => ?_⟩
  obtain ⟨g, off, e, _, hc⟩ := h4 h0
  refine ⟨g, off, e, fun j hj => hc j _ ?_⟩
  rw [by_repC h3, List.getElem?_map, List.getElem?_eq_getElem hj]
  rfl
theorem run_conv_bs {P : Program} {S el T : TypeId} {ts te tt : TyI} (hS : mkTy P S = some ts) (hkS : ts.kind = .slice el) (hE : mkTy P el = some te) (hkE : te.kind = .int .u8) (hT : mkTy P T = some tt) (hkT : tt.kind = .str) {w : World} {k : List UInt8} {ad : Option Addr} {c : Nat}
    (h : 0 < k.length → ∃ g off, ad = some ⟨g, off, none⟩ ∧ ∀ j (hj : j < k.length), w.cell? ⟨g, off + j, none⟩ = some (.int .u8 (k[j].toNat : Int))) : (convert S T (.slice ad k.length c)).run P w = .ok (.string (byS k)) w := by
  obtain ⟨_, d1, _, _, hd1, _, _, _, _, _, hk1⟩ := mkTy_spec hS
  obtain ⟨_, d2, _, _, hd2, _, _, _, _, _, hk2⟩ := mkTy_spec hE
  obtain ⟨_, d3, _, _, hd3, _, _, _, _, _, hk3⟩ := mkTy_spec hT
  have u1 : P.underlying S = some (.slice el) := by rw [hd1, kind_slice (hk1.symm.trans hkS)]
  have u2 : P.underlying el = some (.int .u8) := by rw [hd2, kind_int (hk2.symm.trans hkE)]
  have u3 : P.underlying T = some .string := by rw [hd3, kind_str (hk3.symm.trans hkT)]
  cases ad with
  | none =>
    have hk : k = [] := by
      rcases Nat.eq_zero_or_pos k.length with h0 | h0
      · exact List.eq_nil_of_length_eq_zero h0
      · obtain ⟨_, _, h1, _⟩ := h h0; cases h1
    subst hk
    rw [run_convert_bytes_string w S T el none _ c u1 u2 u3]
    simp [Conv.bytesToString]
    rfl
  | some a =>
    refine run_convert_bytes_back (P := P) w S T el a c k u1 u2 u3 fun j hj => ?_
    obtain ⟨g, off, h1, h2⟩ := h (by omega)
    injection h1 with h1
    subst h1
    rw [Addr.add_mid]
    exact h2 j hj
section
variable {P : Program} {dst : Option Nat} {ty : TypeId} {e : Operand → A} {β : Bx} {S T T0 el : TypeId} {x y : Operand} {ts te tt : TyI}
/-- string(b) -/
theorem does_conv_bs {k : List UInt8} (hS : mkTy P S = some ts) (hkS : ts.kind = .slice el) (hE : mkTy P el = some te) (hkE : te.kind = .int .u8) (hT : mkTy P T = some tt) (hkT : tt.kind = .str) (hx : e x = .d (byD k)) : Does P dst (.convert S T x) ty e β (.d (strD (byS k))) [] [] :=
  Does.of_run fun C γ _ ρ I w _ a hops o ho _ => by
    have h1 := (hops x (by simp [Op.operands])).2
    rw [hx] at h1
    obtain ⟨ad, c, h2, h3⟩ := by_cells h1
    refine ⟨.string (byS k), ?_, trivial, rfl, rfl⟩
    simp only [execOp, ho, h2, Sem.run_bind, run_conv_bs hS hkS hE hkE hT hkT h3]
    rfl
/-- string(a[:n]) of an array that lies in a variable -/
theorem does_conv_sx {id n c : Nat} {l : List UInt8} (hS : mkTy P S = some ts) (hkS : ts.kind = .slice el) (hE : mkTy P el = some te) (hkE : te.kind = .int .u8) (hT : mkTy P T = some tt) (hkT : tt.kind = .str) (hx : e x = .sx id n c) (hlk : look id β = some (.var T0 (bA l))) (hn : n ≤ l.length) :
    Does P dst (.convert S T x) ty e β (.d (strD (byS (l.take n)))) [] [id] :=
  Does.of_run fun C γ hag ρ I w hm a hops o ho _ => by
    have hl2 : look id γ = some (.var T0 (bA l)) := (hag id (by simp)).trans hlk
    have h1 := (hops x (by simp [Op.operands])).2
    rw [hx] at h1
    obtain ⟨g, hg, h1⟩ := h1
    obtain ⟨g', us, k1, k2, k3, k4⟩ := var_cell hm hl2
    rw [hg] at k1
    injection k1 with k1; injection k1 with k1; injection k1 with k1
    subst k1
    have hln : (l.take n).length = n := by rw [List.length_take]; omega
    refine ⟨.string (byS (l.take n)), ?_, trivial, rfl, rfl⟩
    have hrun := run_conv_bs (P := P) hS hkS hE hkE hT hkT (w := w) (k := l.take n) (ad := some ⟨g, 0, none⟩) (c := c) (fun _ => ⟨g, 0, rfl, fun j hj => by
      have hjl : j < l.length := by omega
      have h5 : (bA l)[j]? = some (.d (u8D l[j])) := by rw [List.getElem?_map, List.getElem?_map, List.getElem?_eq_getElem hjl]; rfl
      obtain ⟨u, hu, hru, _⟩ := repAs_get k3 h5
      have hru : u = .int .u8 (l[j].toNat : Int) := hru.1
      rw [Nat.zero_add, cell_in k2, List.getElem_take]
      subst hru
      simpa using hu⟩)
    rw [hln] at hrun
    simp only [execOp, ho, h1, Sem.run_bind, hrun]
    rfl
/-- []byte(s): new data -/
theorem does_conv_sb {s : ByteArray} (hS : mkTy P S = some ts) (hkS : ts.kind = .str) (hT : mkTy P T = some tt) (hkT : tt.kind = .slice el) (hE : mkTy P el = some te) (hkE : te.kind = .int .u8) (hx : e x = .d (strD s)) : Does P dst (.convert S T x) ty e β (.d (byD s.data.toList)) [] [] := by
  intro C γ hag ρ I w hm a hops o ho hd hty K Q hK
  obtain ⟨_, d1, _, _, hd1, _, _, _, _, _, hk1⟩ := mkTy_spec hS
  obtain ⟨_, d2, _, _, hd2, _, _, _, _, _, hk2⟩ := mkTy_spec hE
  obtain ⟨_, d3, _, _, hd3, _, _, _, _, _, hk3⟩ := mkTy_spec hT
  have u1 : P.underlying S = some .string := by rw [hd1, kind_str (hk1.symm.trans hkS)]
  have u2 : P.underlying el = some (.int .u8) := by rw [hd2, kind_int (hk2.symm.trans hkE)]
  have u3 : P.underlying T = some (.slice el) := by rw [hd3, kind_slice (hk3.symm.trans hkT)]
  have h1 := (hops x (by simp [Op.operands])).2
  rw [hx] at h1
  have h1 := repA_sc h1
  have hrun0 := run_bytes_of_string (P := P) w S T el s u1 u3 u2
  generalize hcap : grownCap w s.size 0 el = cap at hrun0
  have hge : s.size ≤ cap := by rw [← hcap]; exact grownCap_ge _ _ _ _
  unfold Oper.wp
  have hrun : (execOp a.eval o).run P w = .ok (.value (.slice (some ⟨w.heap.size, 0, none⟩) s.size cap)) (w.drew.alloc (.cells (bytesRow s cap) el ((bytesRow s cap).size, (bytesRow s cap).size + 1))) := by
    simp only [execOp, ho, h1, Sem.run_bind, hrun0]
    rfl
  rw [hrun, Oper.upon_value, hd]
  have hsz : (w.drew.alloc (.cells (bytesRow s cap) el ((bytesRow s cap).size, (bytesRow s cap).size + 1))).heap.size = w.heap.size + 1 := by
    show (w.heap.push _).size = _
    simp
  have hold : ∀ k, k < w.heap.size → (w.drew.alloc (.cells (bytesRow s cap) el ((bytesRow s cap).size, (bytesRow s cap).size + 1))).heap[k]? = w.heap[k]? := fun k hk => by
    show (w.heap.push _)[k]? = _
    rw [Array.getElem?_push, if_neg (by omega)]
  have hx2 : Ext γ ρ I w ρ (fun k => I k ∨ k = w.heap.size) (w.drew.alloc (.cells (bytesRow s cap) el ((bytesRow s cap).size, (bytesRow s cap).size + 1))) := ⟨⟨fun _ h => .inl h, fun g hg => hold g (hm.imm g hg)⟩, fun _ _ => rfl⟩
  have hmem := hm.upd [] hx2 rfl rfl rfl (by rw [hsz]; omega) (fun k h => by
      rw [hsz]
      rcases h with h | h
      · have := hm.imm k h; omega
      · omega) (fun k h => by
      rcases h with h | h
      · exact .inl h
      · subst h; exact .inr (.inl hm.size)) (fun _ => False) (fun k hk _ => hold k hk) (fun k h => h.elim) (fun i b' k hi' hn hlv' hbk' => ⟨fun h => h, fun h => by
      obtain ⟨o1, o2, _⟩ := hm.own i b' k hi' hlv' hbk'
      rcases h with h | h
      · exact o2 h
      · omega⟩) (fun i b' h => by cases h) (fun i j b' b'' k hi' => by cases hi')
  have hlen : s.data.toList.length = s.size := by rw [Array.length_toList]; rfl
  have hrepR : ∀ k : List UInt8, RepR (fun k => I k ∨ k = w.heap.size) (w.drew.alloc (.cells (bytesRow s cap) el ((bytesRow s cap).size, (bytesRow s cap).size + 1))) 1 (k.map fun c => [u8D c]) (k.map (fun c => Value.int .u8 (c.toNat : Int))) := by
    intro k
    induction k with
    | nil => rfl
    | cons c k ih => exact ⟨[_], _, rfl, rfl, ⟨_, _, rfl, fun _ => rfl, ⟨rfl, rfl⟩, rfl⟩, ih⟩
  refine hK _ ρ _ _ hmem hx2 trivial ⟨some ⟨w.heap.size, 0, none⟩, cap, s.data.toList.map (fun c => Value.int .u8 (c.toNat : Int)), ?_, ?_, hrepR _, fun _ => ⟨w.heap.size, 0, rfl, .inr rfl, fun j u hu => ?_⟩⟩
  · rw [List.length_map, hlen]
  · rw [List.length_map, hlen]; exact hge
  · rw [Nat.zero_add]
    have hcell := World.cell?_alloc_mark w.drew (bytesRow s cap) el ((bytesRow s cap).size, (bytesRow s cap).size + 1) j
    have hcell : (w.drew.alloc (.cells (bytesRow s cap) el ((bytesRow s cap).size, (bytesRow s cap).size + 1))).cell? ⟨w.heap.size, j, none⟩ = (bytesRow s cap)[j]? := hcell
    rw [hcell]
    rw [List.getElem?_map] at hu
    unfold bytesRow
    have hj : j < s.data.size := by
      cases hq : s.data.toList[j]? with
      | none => rw [hq] at hu; cases hu
      | some b => have := (List.getElem?_eq_some_iff.1 hq).1; simpa using this
    rw [Array.getElem?_append_left (by simpa using hj), Array.getElem?_map, ← Array.getElem?_toList]
    exact hu
/-- []byte("..") of a constant: the row is data from then on. -/
theorem does_conv_bb {E : TypeId} {id n : Nat} {es : List (List D)} (hS : mkTy P S = some ts) (hkS : ts.kind = .slice el) (hE : mkTy P el = some te) (hkE : te.kind = .int .u8) (hx : e x = .ow id n) (hlk : look id β = some (.row E 1 es)) (hn : 0 < es.length) :
    Does P dst (.convert S S x) ty e β (.d (.sl 1 es)) [(id, .dead)] [id] := by
  intro C γ hag ρ I w hm a hops o ho hd hty K Q hK
  have hl2 : look id γ = some (.row E 1 es) := (hag id (by simp)).trans hlk
  obtain ⟨_, d1, _, _, hd1, _, _, _, _, _, hk1⟩ := mkTy_spec hS
  obtain ⟨_, d2, _, _, hd2, _, _, _, _, _, hk2⟩ := mkTy_spec hE
  have u1 : P.underlying S = some (.slice el) := by rw [hd1, kind_slice (hk1.symm.trans hkS)]
  have u2 : P.underlying el = some (.int .u8) := by rw [hd2, kind_int (hk2.symm.trans hkE)]
  have h1 := (hops x (by simp [Op.operands])).2
  rw [hx] at h1
  have h1 := h1.1
  obtain ⟨xs, hown, hR⟩ := hm.box id _ hl2
  rcases hown.2 with ⟨_, h0⟩ | ⟨g, cap, cur, hv, _, hg, hcl, hcm, hcs, htk⟩
  · omega
  have hbk : blk (ρ id) = some g := by rw [hv]; rfl
  obtain ⟨o1, o2, o3⟩ := hm.own id _ g hl2 rfl hbk
  have hshape : w.shape? g = some (E, cur.size) := by unfold World.shape?; rw [hg]
  have hw' : (w.freeze ⟨g, cur.size, none⟩ 1).heap[g]? = some (.cells cur E (cur.size, cur.size + 1)) := by
    simp [World.freeze, Array.getElem?_modify, hg]
  have hold : ∀ k, k ≠ g → (w.freeze ⟨g, cur.size, none⟩ 1).heap[k]? = w.heap[k]? := fun k hk => by
    simp [World.freeze, Array.getElem?_modify, Ne.symm hk]
  have hsz : (w.freeze ⟨g, cur.size, none⟩ 1).heap.size = w.heap.size := by simp [World.freeze]
  have hx2 : Ext γ ρ I w ρ (fun k => I k ∨ k = g) (w.freeze ⟨g, cur.size, none⟩ 1) := ⟨⟨fun _ h => .inl h, fun k hk => hold k (fun e => by subst e; exact o2 hk)⟩, fun _ _ => rfl⟩
  have hmem := hm.upd [(id, Box.dead)] hx2 rfl rfl rfl (by rw [hsz]; exact Nat.le_refl _) (fun k h => by
      rw [hsz]
      rcases h with h | h
      · exact hm.imm k h
      · subst h; exact o1) (fun k h => by
      rcases h with h | h
      · exact .inl h
      · subst h; exact .inr o3) (fun k => k = g) (fun k hk hne => hold k hne) (fun k h => by subst h; exact o3) (fun i b' k hi' hn' hlv' hbk' => by
      have hne : k ≠ g := fun e => by subst e; exact look_one_none hn' (hm.inj i id b' _ _ hi' hl2 hlv' rfl hbk' hbk)
      exact ⟨hne, fun h => by
        rcases h with h | h
        · exact (hm.own i b' k hi' hlv' hbk').2.1 h
        · exact hne h⟩) (fun i b' h => by
      obtain ⟨rfl, rfl⟩ := look_one h
      exact ⟨trivial, trivial, fun h => by cases h⟩)
    (fun i j b' b'' k hi' hj _ _ _ _ => by rw [(look_one hi').1, (look_one hj).1])
  unfold Oper.wp
  have hrun : (execOp a.eval o).run P w = .ok (.value (.slice (some ⟨g, 0, none⟩) es.length cap)) (w.freeze ⟨g, cur.size, none⟩ 1) := by
    have hc : (convert S S (.slice (some ⟨g, 0, none⟩) es.length cap)).run P w = .ok (.slice (some ⟨g, 0, none⟩) es.length cap) (w.freeze ⟨g, cur.size, none⟩ 1) := by
      simp [convert, run_underlying u1, run_underlying u2, markStringish, hshape, Sem.run_bind]
    simp only [execOp, ho, h1, hv, Sem.run_bind, hc]
    rfl
  rw [hrun, Oper.upon_value, hd]
  refine hK _ ρ _ _ hmem hx2 trivial ⟨some ⟨g, 0, none⟩, cap, xs, rfl, hcl, RepR.ext hx2.toExtI 1 es xs hR, fun _ => ⟨g, 0, rfl, .inr rfl, fun j u hu => ?_⟩⟩
  rw [Nat.zero_add, cell_in hw']
  rw [← htk, List.getElem?_take] at hu
  split at hu
  · simpa using hu
  · cases hu
end
end Go.Proofs.YtclhmdobhlalmaaDoor

/-
  The pure layer: the smaller of two lengths; a part of a text of bytes. No condition.
-/
namespace Go.Proofs.YtclhmdobhlalmaaDoor
set_option linter.unusedSimpArgs false
set_option linter.unusedVariables false
open Go.RowKit

section
variable {P : Program} {dst : Option Nat} {ty : TypeId} {e : Operand → A} {β : Bx} {T : TypeId} {x y : Operand}
theorem fdiv_p2 (n : Int) (k : Nat) (hk : k ≤ 64) : n.fdiv (2 ^ min (Int.toNat (k : Int)) IntKind.i64.bits) = n / ((2 ^ k : Nat) : Int) := by
  have e : min (Int.toNat (k : Int)) IntKind.i64.bits = k := by show min k 64 = k; omega
  rw [e, Int.fdiv_eq_ediv_of_nonneg _ (by have := Int.pow_pos (n := 2) (m := k) (by omega); omega)]
  simp
theorem does_shr_p {T' : TypeId} {m n z : Int} {k : Nat} {k' : IntKind} (hx : e x = .d (iD m)) (hy : e y = .d (.sc (.int k' n))) (hn : n = (k : Nat)) (hk : k ≤ 64) (hz : m / ((2 ^ k : Nat) : Int) = z) : Does P dst (.binOp .shr T x y T') ty e β (.d (iD z)) [] [] := by
  subst hn hz
  have h := does_shr (P := P) (dst := dst) (ty := ty) (β := β) (T := T) (T' := T') hx hy (by omega)
  rwa [fdiv_p2 m k hk] at h
theorem byS_toList (l : List UInt8) : (byS l).toList = l := by
  rw [ByteArray.toList_eq]
theorem does_seq_by {T' : TypeId} {a b : List UInt8} {c : Bool} (hx : e x = .d (strD (byS a))) (hy : e y = .d (strD (byS b))) (hc : c = true ↔ a = b) : Does P dst (.binOp .eql T x y T') ty e β (.d (bD c)) [] [] := by
  have h := does_seq (P := P) (dst := dst) (ty := ty) (β := β) (T := T) (T' := T') hx hy
  rw [byS_toList, byS_toList] at h
  have e1 : (a == b) = c := by rw [Bool.eq_iff_iff, beq_iff_eq, hc]
  rwa [e1] at h
theorem does_sne_by {T' : TypeId} {a b : List UInt8} {c : Bool} (hx : e x = .d (strD (byS a))) (hy : e y = .d (strD (byS b))) (hc : c = true ↔ a ≠ b) : Does P dst (.binOp .neq T x y T') ty e β (.d (bD c)) [] [] := by
  have h := does_sne (P := P) (dst := dst) (ty := ty) (β := β) (T := T) (T' := T') hx hy
  rw [byS_toList, byS_toList] at h
  have e1 : (!(a == b)) = c := by rw [Bool.eq_iff_iff, hc]; simp
  rwa [e1] at h
theorem does_mul_to {T' : TypeId} {m n z : Int} (hx : e x = .d (iD m)) (hy : e y = .d (iD n)) (hz : m * n = z) (h1 : -9223372036854775808 ≤ z) (h2 : z ≤ 9223372036854775807) : Does P dst (.binOp .mul T x y T') ty e β (.d (iD z)) [] [] := by
  subst hz; exact does_mul hx hy h1 h2
theorem does_min_nat {ts : Array TypeId} {a b : Nat} {p q : Int} (hx : e x = .d (iD p)) (hy : e y = .d (iD q)) (hp : p = a) (hq : q = b) : Does P dst (.call { callee := .builtin .min, args := #[x, y], argTypes := ts }) ty e β (.d (iD ((min a b : Nat) : Int))) [] [] := by
  have h := does_min (P := P) (dst := dst) (ty := ty) (β := β) (ts := ts) hx hy
  have e1 : (if q < p then q else p) = ((min a b : Nat) : Int) := by split <;> omega
  rwa [e1] at h
theorem does_slice_bl {t te : TyI} {el : TypeId} {lo hi : Option Operand} {l h : Nat} {b c : List UInt8} (ht : mkTy P T = some t) (hk : t.kind = .slice el) (hte : mkTy P el = some te) (hsz : te.size = 1) (hx : e x = .d (byD b)) (hl : loIs e l lo) (hh : hiIs e h b.length hi) (h1 : l ≤ h) (h2 : h ≤ b.length) (hc : (b.take h).drop l = c) :
    Does P dst (.slice T x lo hi none) ty e β (.d (byD c)) [] [] := by
  have hd := does_slice (P := P) (dst := dst) (ty := ty) (β := β) ht hk hte hx hsz hl (by rw [List.length_map]; exact hh) h1 (by rw [List.length_map]; exact h2)
  rwa [← List.map_take, ← List.map_drop, hc] at hd
end
end Go.Proofs.YtclhmdobhlalmaaDoor

/-
  The pure layer: contracts whose (first) result is a slice of the caller's own; a row that is still nil. No condition.
-/
namespace Go.Proofs.YtclhmdobhlalmaaDoor
set_option linter.unusedSimpArgs false
set_option linter.unusedVariables false
open Go.RowKit

def mkRes (us : List Value) : Value := if h : us.toArray.size = 1 then us.toArray[0] else .tuple us.toArray
def NotMine (I : Nat → Prop) (w w' : World) (v : Value) : Nat → Prop := fun g => ((I g ∨ w.heap.size ≤ g) ∧ g < w'.heap.size) ∧ v.ownBlock ≠ some g
/-- A call's contract: a new slice of so many rows, and further data. -/
structure PCO (P : Program) (f : FuncId) (ds : List D) (E : TypeId) (sz : Nat) (es : List (List D)) (rest : List D) : Prop where
  enters : Enters P f
  calls : ∀ (I : Nat → Prop) (w : World) (vs : Array Value), okBlocks I w → RepC I w false ds vs.toList →
    Calls P f vs w fun e w' => ∃ v us xs, e = .returned (mkRes (v :: us)) ∧ w'.ownsRow 0 E sz v es.length xs ∧ (∀ g, v.ownBlock = some g → w.heap.size ≤ g) ∧
      RepR (NotMine I w w' v) w' sz es xs ∧ RepC (NotMine I w w' v) w' false rest us ∧ Below w.heap.size w w'
section
variable {P : Program}
theorem PCO.args {f : FuncId} {ds ds' : List D} {E : TypeId} {sz : Nat} {es : List (List D)} {rest : List D} (h : PCO P f ds E sz es rest) (hs : SubDs ds' ds) : PCO P f ds' E sz es rest :=
  ⟨h.enters, fun I w vs hI hv => h.calls I w vs hI (hs.rep hv)⟩
theorem own_repD {I : Nat → Prop} {w : World} {E : TypeId} {sz : Nat} {es : List (List D)} {v : Value} {xs : List Value} (h : w.ownsRow 0 E sz v es.length xs) (hr : RepR I w sz es xs) (hI : ∀ g, v.ownBlock = some g → I g) : RepD I w (.sl sz es) v := by
  obtain ⟨h1, h2 | ⟨g, cap, cur, h2, _, h3, h4, h5, h6, h7⟩⟩ := h
  · obtain ⟨rfl, h0⟩ := h2
    have he : es = [] := List.eq_nil_of_length_eq_zero h0
    subst he
    exact ⟨none, 0, xs, rfl, Nat.le_refl _, hr, fun h => absurd h (by simp)⟩
  · subst h2
    refine ⟨_, cap, xs, rfl, h4, hr, fun _ => ⟨g, 0, rfl, hI g rfl, fun j u hu => ?_⟩⟩
    rw [Nat.zero_add]
    have : w.cell? ⟨g, j, none⟩ = cur[j]? := by unfold World.cell?; rw [h3]; rfl
    rw [this]
    rw [← h7, List.getElem?_take] at hu
    split at hu
    · simpa using hu
    · cases hu
theorem PCO.pc {f : FuncId} {ds : List D} {E : TypeId} {sz : Nat} {es : List (List D)} {rest : List D} (h : PCO P f ds E sz es rest) : PC P f ds (resD (.sl sz es :: rest)) := by
  refine ⟨h.enters, fun I w vs hI hv => (h.calls I w vs hI hv).mono fun e w' ⟨v, us, xs, he, ho, hb, hr, hc, bel⟩ => ⟨_, he, ?_, bel⟩⟩
  have hx : ExtI (NotMine I w w' v) w' (fun g => (I g ∨ w.heap.size ≤ g) ∧ g < w'.heap.size) w' := ⟨fun g hg => hg.1, fun _ _ => rfl⟩
  have hd : RepD (fun g => (I g ∨ w.heap.size ≤ g) ∧ g < w'.heap.size) w' (.sl sz es) v := own_repD ho (RepR.ext hx _ _ _ hr) fun g hg => ⟨.inr (hb g hg), (ho.lt g hg).2⟩
  have hc2 := RepC.ext hx false _ _ hc
  cases rest with
  | nil => cases hc2; exact hd
  | cons d ds =>
    obtain ⟨u, us', rfl, _, h1, h2⟩ := hc2
    show RepD _ w' (.tu (.sl sz es :: d :: ds)) (mkRes (v :: u :: us'))
    unfold mkRes
    rw [dif_neg (by simp)]
    exact ⟨_, rfl, v, _, (by simp), fun h => (by cases h), hd, u, us', rfl, fun h => by (cases h), h1, h2⟩
def RetO (P : Program) (rs : List ResultVar) (E : TypeId) (sz : Nat) (es : List (List D)) (rest : List D) (s : St) : Prop :=
  (∃ id n vs, resVs P s rs (.ow id n :: vs) ∧ look id s.β = some (.row E sz es) ∧ frzVs s.β vs = some rest ∧ look id (frzVsU s.β vs) = none) ∨
  (∃ vs, resVs P s rs (.d .nl :: vs) ∧ es = [] ∧ frzVs s.β vs = some rest)
def retO (P : Program) (rs : List ResultVar) (E : TypeId) (sz : Nat) (es : List (List D)) (rest : List D) : Exit → St → Prop
  | .normal, s => RetO P rs E sz es rest s
  | .ret, s => RetO P rs E sz es rest s
  | _, _ => False
theorem reto_ok {s : St} {rs : List ResultVar} {E : TypeId} {sz : Nat} {es : List (List D)} {rest : List D} {id n : Nat} {vs : List A} (h1 : resVs P s rs (.ow id n :: vs)) {es' : List (List D)} (h2 : look id s.β = some (.row E sz es')) (h3 : frzVs s.β vs = some rest) (h4 : look id (frzVsU s.β vs) = none) (h5 : es' = es) : RetO P rs E sz es rest s := .inl ⟨id, n, vs, h1, h5 ▸ h2, h3, h4⟩
theorem reto_nil {s : St} {rs : List ResultVar} {E : TypeId} {sz : Nat} {es : List (List D)} {rest : List D} {vs : List A} (h1 : resVs P s rs (.d .nl :: vs)) (h3 : frzVs s.β vs = some rest) (h5 : es = []) : RetO P rs E sz es rest s := .inr ⟨vs, h1, h5, h3⟩
theorem oe_ret {rs : List ResultVar} {E : TypeId} {sz : Nat} {es : List (List D)} {rest : List D} {s : St} (h : RetO P rs E sz es rest s) : retO P rs E sz es rest .ret s := h
theorem oe_norm {rs : List ResultVar} {E : TypeId} {sz : Nat} {es : List (List D)} {rest : List D} {s : St} (h : RetO P rs E sz es rest s) : retO P rs E sz es rest .normal s := h
theorem pco_of_wp {f : FuncId} {fn : Func} {c : Code} {ds : List D} {E : TypeId} {sz : Nat} {es : List (List D)} {rest : List D} {rs : List ResultVar} (hf : P.funcs[f]? = some fn) (hb : fn.body = some c) (hn : (fn.name == "runtime.NumGoroutine") = false) (hds : ds.length ≤ fn.ntmps)
    (hrs : fn.results = rs.toArray) (h : ∀ (C : Ctx) (a : Act) (w : World), C.K = (fun _ => false) → C.N = fn.ntmps → At C ⟨argS 0 ds, []⟩ a w → c.wp P (lift C (retO P rs E sz es rest)) a w) : PCO P f ds E sz es rest := by
  refine ⟨enters_of hf hb hn, fun I w vs hI hr => ?_⟩
  refine calls_of_wp hf hb ?_
  have hvl := repC_len hr
  rw [Array.length_toList] at hvl
  let C : Ctx := { w0 := w, PB := fun _ => False, I0 := I, N := fn.ntmps, K := fun _ => false, args := fun _ => undef }
  have hat : At C ⟨argS 0 ds, []⟩ { tmps := vs ++ Array.replicate (fn.ntmps - vs.size) undef, defers := [] } w := by
    refine ⟨fun _ => undef, I, ⟨rfl, rfl, rfl, Nat.le_refl _, fun _ _ _ => rfl, hI.1, fun g hg => .inl hg, fun id b h => by (cases h), fun id b g h => by (cases h), fun i j b b' g h => by (cases h), fun id b h => by (cases h), hI.2⟩, rfl, ?_, fun t ht => (by cases ht), fun t v ht => ?_⟩
    · show (vs ++ Array.replicate (fn.ntmps - vs.size) undef).size = fn.ntmps
      simp; omega
    · obtain ⟨i, d, h1, h2, rfl⟩ := argS_look ht
      obtain ⟨u, h3, h4, _⟩ := repC_get hr h2
      have hlt : i < vs.size := by rw [← Array.length_toList]; exact (List.getElem?_eq_some_iff.1 h3).1
      rw [Nat.zero_add] at h1
      subst h1
      refine ⟨by show t < fn.ntmps; omega, trivial, ?_⟩
      have e1 : (vs ++ Array.replicate (fn.ntmps - vs.size) undef).getD t undef = u := by
        rw [Array.getD_eq_getD_getElem?, Array.getElem?_append_left hlt]
        have : vs[t]? = some u := by simpa using h3
        rw [this]; rfl
      show RepD I w d ((vs ++ Array.replicate (fn.ntmps - vs.size) undef).getD t undef)
      rw [e1]; exact h4
  have hfin : ∀ s a' w', RetO P rs E sz es rest s → At C s a' w' → a'.defers = [] ∧ ∃ v, (results fn a'.tmps).run P w' = .ok v w' ∧ (∃ v' us xs, Ending.returned v = .returned (mkRes (v' :: us)) ∧ w'.ownsRow 0 E sz v' es.length xs ∧ (∀ g, v'.ownBlock = some g → w.heap.size ≤ g) ∧
      RepR (NotMine I w w' v') w' sz es xs ∧ RepC (NotMine I w w' v') w' false rest us ∧ Below w.heap.size w w') := by
    have hrm : ∀ fn' : Func, fn'.results = rs.toArray → ∀ (a' : Act), results fn' a'.tmps = (do
          let vs ← rs.toArray.mapM (resRun a'.tmps)
          pure (if h : vs.size = 1 then vs[0] else .tuple vs)) := fun fn' h' a' => by
        unfold results
        rw [h']
        congr 1
    have hend : ∀ (s : St) (a' : Act) (w' : World) (v : A) (vs' : List A), resVs P s rs (v :: vs') → frzVs s.β vs' = some rest → At C s a' w' → a'.defers = [] ∧ Below w.heap.size w w' ∧ ∃ u us ρ J J', Mem C s.β ρ J w' ∧ RepA ρ J w' v u ∧ Mem C (frzVsU s.β vs' ++ s.β) ρ J' w' ∧ RepC J' w' false rest us ∧ (results fn a'.tmps).run P w' = .ok (mkRes (u :: us)) w' := by
      rintro s a' w' v vs' h1 h3 ⟨ρ, J, hm, hfr⟩
      obtain ⟨us, k1, k2, k3⟩ := resVs_run hm hfr h1
      obtain ⟨u, us', rfl, _, hu, hus⟩ := k3
      obtain ⟨J', m1, x1, r1, _⟩ := freeze_vals _ _ rest s.β J hm k2.2 hus h3
      refine ⟨hfr.defers, ⟨m1.os, m1.tape, m1.output, m1.size, fun k hk => m1.frame k hk (fun h => h)⟩, u, us', ρ, J, J', hm, hu, m1, r1, ?_⟩
      rw [hrm fn hrs, List.mapM_toArray]
      simp only [map_eq_pure_bind, bind_assoc, pure_bind, Sem.run_bind, k1, Result.andThen_ok, Sem.run_pure]
      rfl
    have hnew : ∀ {s : St} {vs' : List A} {ρ : Nat → Value} {J' : Nat → Prop} {w' : World}, Mem C (frzVsU s.β vs' ++ s.β) ρ J' w' → ∀ v : Value, (∀ g, v.ownBlock = some g → ¬ J' g) → ExtI J' w' (NotMine I w w' v) w' := fun m1 v hv => ⟨fun g hg => ⟨⟨by
        rcases m1.new g hg with h | h | h
        · exact .inl h
        · exact .inr h
        · exact h.elim, m1.imm g hg⟩, fun e => hv g e hg⟩, fun _ _ => rfl⟩
    rintro s a' w' (⟨id, n, vs', h1, h2, h3, h4⟩ | ⟨vs', h1, h2, h3⟩) hat'
    · obtain ⟨hdef, hbel, u, us', ρ, J, J', hm, hu, m1, r1, hrun⟩ := hend s a' w' _ vs' h1 h3 hat'
      have hl : look id (frzVsU s.β vs' ++ s.β) = some (.row E sz es) := by rw [look_append, h4]; exact h2
      obtain ⟨xs, b1, b2⟩ := m1.box id _ hl
      have hu1 : u = ρ id := hu.1
      subst hu1
      obtain ⟨ad, cc, k4, _⟩ := own_form b1
      have hbk : blk (ρ id) = (ρ id).ownBlock := blk_own k4
      have hown : ∀ g, (ρ id).ownBlock = some g → ¬ J' g ∧ w.heap.size ≤ g := fun g hg => by
        obtain ⟨_, o2, o3⟩ := m1.own id _ g hl rfl (hbk.trans hg)
        exact ⟨o2, o3.elim (fun h => h) (fun h => h.elim)⟩
      have hx := hnew m1 (ρ id) fun g hg => (hown g hg).1
      exact ⟨hdef, mkRes (ρ id :: us'), hrun, _, us', xs, rfl, b1, fun g hg => (hown g hg).2, RepR.ext hx _ _ _ b2, RepC.ext hx false _ _ r1, hbel⟩
    · obtain ⟨hdef, hbel, u, us', ρ, J, J', hm, hu, m1, r1, hrun⟩ := hend s a' w' _ vs' h1 h3 hat'
      have hu1 : u = .slice none 0 0 := hu
      subst hu1 h2
      have hx := hnew m1 (.slice none 0 0) fun g hg => by cases hg
      exact ⟨hdef, _, hrun, _, us', [], rfl, World.ownsRow_nil w' 0 E sz, fun g hg => by (cases hg), rfl, RepC.ext hx false _ _ r1, hbel⟩
  refine wp_mono (h C _ w rfl rfl hat) fun en a' w' hq => ?_
  obtain ⟨s, hq, ha⟩ := hq
  cases en with
  | normal => exact hfin s a' w' hq ha
  | ret => exact hfin s a' w' hq ha
  | _ => exact hq.elim
theorem pco_of_aw {f : FuncId} {fn : Func} {c : Code} {ds : List D} {E : TypeId} {sz : Nat} {es : List (List D)} {rest : List D} {rs : List ResultVar} (hf : P.funcs[f]? = some fn) (hb : fn.body = some c) (hn : (fn.name == "runtime.NumGoroutine") = false) (hmx : P.follows .mixedOrders = true) (hok : codeOk (fun _ => false) fn.ntmps c = true) (hds : ds.length ≤ fn.ntmps)
    (hrs : fn.results = rs.toArray) (h : AW P c (retO P rs E sz es rest) ⟨argS 0 ds, []⟩) : PCO P f ds E sz es rest :=
  pco_of_wp hf hb hn hds hrs fun C a w hK hN ha => aw_sound hmx c _ _ a w (by rw [hK, hN]; exact hok) h ha
end
section
variable {P : Program} {fr : Nat} {dst : Option Nat} {ty : TypeId} {e : Operand → A} {β : Bx}
/-- What a call hands back: a slice of one's own, alone or ahead of data. -/
def resA (fr n : Nat) : List D → A
  | [] => .ow fr n
  | ds => .tu (.ow fr n :: ds.map A.d)
theorem repAs_d {ρ : Nat → Value} {I : Nat → Prop} {w : World} {o : Bool} : ∀ {ds : List D} {us : List Value}, RepC I w o ds us → RepAs ρ I w o (ds.map A.d) us
  | [], _, h => h
  | d :: ds, _, ⟨u, us, h1, h2, h3, h4⟩ => ⟨u, us, h1, h2, h3, repAs_d h4⟩
theorem insB_d {β : Bx} : ∀ ds : List D, A.insB β (ds.map A.d)
  | [] => trivial
  | d :: ds => ⟨trivial, insB_d ds⟩
theorem does_callO {x : Operand} {args : Array Operand} {ts : Array TypeId} {f : FuncId} {first captured : List A} {ds : List D} {E : TypeId} {sz n : Nat} {es : List (List D)} {rest : List D} (hx : e x = .fn (.func f) first captured) (hds : frzVs β (first ++ args.toList.map e ++ captured) = some ds) (hpc : PCO P f ds E sz es rest)
    (hn : es.length = n) (hf : look fr β = none) (hf2 : look fr (frzVsU β (first ++ args.toList.map e ++ captured)) = none) :
    Does P (some fr) (.call { callee := .value x, args := args, argTypes := ts }) ty e β (resA fr n rest) ((fr, .row E sz es) :: frzVsU β (first ++ args.toList.map e ++ captured)) ((first ++ args.toList.map e ++ captured).flatMap idsV) := by
  subst hn
  intro C γ hag ρ I w hm a hops o ho hd hty K Q hK
  obtain ⟨fi, ca, h1, h2, h3⟩ := call_args hx hops
  obtain ⟨e1, e2⟩ := frz_agree (fun id hid => hag id (List.mem_append_left _ hid))
  have hfg : look fr γ = none := (hag fr (by simp)).trans hf
  obtain ⟨I', m1, x1, r1, _⟩ := freeze_vals _ _ ds γ I hm h2 h3 (e1.trans hds)
  have hff : look fr (frzVsU γ (first ++ args.toList.map e ++ captured) ++ γ) = none := by rw [look_append, e2, hf2]; exact hfg
  unfold Oper.wp
  rw [run_call hpc.enters rfl h1 o ho, Oper.upon_enter]
  refine (hpc.calls I' w _ ⟨m1.imm, m1.gl⟩ r1).mono fun en w' ⟨v, us, xs, he, hown, hnew, hr, hc, hb⟩ => ?_
  subst he
  have hx2 : Ext (frzVsU γ (first ++ args.toList.map e ++ captured) ++ γ) ρ I' w (updF ρ fr v) (NotMine I' w w' v) w' := ⟨⟨fun g hg => ⟨⟨.inl hg, Nat.lt_of_lt_of_le (m1.imm g hg) hb.size⟩, fun e => by
    have := hnew g e
    have := m1.imm g hg
    omega⟩, fun g hg => hb.block g (m1.imm g hg)⟩, upd_dom hff ρ v⟩
  obtain ⟨ad, cc, k4, _⟩ := own_form hown
  have hbk : blk v = v.ownBlock := blk_own k4
  have m2 := m1.upd [(fr, .row E sz es)] hx2 hb.os hb.tape hb.output hb.size (fun g h => h.1.2) (fun g h => by
    rcases h.1.1 with h | h
    · exact .inl h
    · exact .inr (.inl (Nat.le_trans m1.size h))) (fun _ => False) (fun k hk _ => hb.block k hk) (fun k h => h.elim) (fun id b g hl _ hlv hg => ⟨fun h => h, fun h => by
      obtain ⟨h1, h2, _⟩ := m1.own id b g hl hlv hg
      rcases h.1.1 with h | h
      · exact h2 h
      · omega⟩) (fun id b h => by
      obtain ⟨rfl, rfl⟩ := look_one h
      refine ⟨⟨xs, by rw [upd_same]; exact hown, hr⟩, trivial, fun _ g hg => ?_⟩
      rw [upd_same, hbk] at hg
      refine ⟨(hown.lt g hg).2, fun h => h.2 hg, .inl (Nat.le_trans m1.size (hnew g hg)), fun id2 b2 hl2 _ hlv2 hbk2 => ?_⟩
      have := (m1.own id2 b2 g hl2 hlv2 hbk2).1
      have := hnew g hg
      omega) (fun i j b b' g hi hj _ _ _ _ => by rw [(look_one hi).1, (look_one hj).1])
  simp only [hd]
  rw [e2] at m2 hx2
  have hin : dom ([(fr, Box.row E sz es)] ++ (frzVsU β (first ++ args.toList.map e ++ captured) ++ γ)) fr := by unfold dom; simp [look_append, look_cons]
  have hrep : RepA (updF ρ fr v) (NotMine I' w w' v) w' (.ow fr es.length) v := ow_rep hown (upd_same _ _ _)
  refine hK (mkRes (v :: us)) (updF ρ fr v) _ w' m2 (x1.trans hx2 (fun i hi => dom_append hi)) ?_ ?_
  · cases rest with
    | nil => exact hin
    | cons d ds' => exact ⟨hin, insB_d _⟩
  · cases rest with
    | nil => cases hc; exact hrep
    | cons d ds' =>
      obtain ⟨u, us', rfl, _, c1, c2⟩ := hc
      show RepA _ _ _ (.tu (.ow fr es.length :: A.d d :: ds'.map A.d)) (mkRes (v :: u :: us'))
      unfold mkRes
      rw [dif_neg (by simp)]
      exact ⟨_, rfl, v, _, (by simp), fun h => (by cases h), hrep, u, us', rfl, fun h => by (cases h), c1, repAs_d c2⟩
/-- No argument is a slice of the call's own. -/
theorem does_callO' {x : Operand} {args : Array Operand} {ts : Array TypeId} {f : FuncId} {first captured : List A} {ds : List D} {E : TypeId} {sz n : Nat} {es : List (List D)} {rest : List D} {v : A} (hx : e x = .fn (.func f) first captured) (hds : frzVs β (first ++ args.toList.map e ++ captured) = some ds) (hu : frzVsU β (first ++ args.toList.map e ++ captured) = []) (hpc : PCO P f ds E sz es rest)
    (hn : es.length = n) (hf : look fr β = none) (hv : resA fr n rest = v) :
    Does P (some fr) (.call { callee := .value x, args := args, argTypes := ts }) ty e β v [(fr, .row E sz es)] ((first ++ args.toList.map e ++ captured).flatMap idsV) := by
  have := does_callO (P := P) (ty := ty) (args := args) (ts := ts) hx hds hpc hn hf (by rw [hu]; rfl)
  rwa [hu, hv] at this
/-- One box is frozen. -/
theorem does_callO1 {x : Operand} {args : Array Operand} {ts : Array TypeId} {f : FuncId} {first captured : List A} {ds : List D} {E : TypeId} {sz n : Nat} {es : List (List D)} {rest : List D} {v : A} {i : Nat} {b : Box} (hx : e x = .fn (.func f) first captured) (hds : frzVs β (first ++ args.toList.map e ++ captured) = some ds) (hu : frzVsU β (first ++ args.toList.map e ++ captured) = [(i, b)]) (hpc : PCO P f ds E sz es rest)
    (hn : es.length = n) (hf : look fr β = none) (hi : i ≠ fr) (hv : resA fr n rest = v) :
    Does P (some fr) (.call { callee := .value x, args := args, argTypes := ts }) ty e β v [(fr, .row E sz es), (i, b)] ((first ++ args.toList.map e ++ captured).flatMap idsV) := by
  have := does_callO (P := P) (ty := ty) (args := args) (ts := ts) hx hds hpc hn hf (by rw [hu, look_cons, if_neg hi]; rfl)
  rwa [hu, hv] at this
theorem does_extractA {x : Operand} {vs : List A} {i : Nat} {v : A} (hx : e x = .tu vs) (hi : vs[i]? = some v) : Does P dst (.extract x i) ty e β v [] [] := by
  intro C γ hag ρ I w hm a hops o ho hd hty K Q hK
  obtain ⟨hb, hr⟩ := hops x (by simp [Op.operands])
  rw [hx] at hb hr
  obtain ⟨us, h1, h2⟩ := hr
  obtain ⟨u, h3, h4, _⟩ := repAs_get h2 hi
  have h3 : us[i]? = some u := by simpa using h3
  unfold Oper.wp
  have hrun : (execOp a.eval o).run P w = .ok (.value u) w := by
    simp [execOp, ho, h1, Instr.extract, h3, Sem.run_bind]
  rw [hrun, Oper.upon_value, hd]
  exact hK u ρ I w (by simpa using hm) (Ext.refl _ _ _ _) (by simpa using A.insB_mem hb v (List.mem_of_getElem? hi)) h4
end
end Go.Proofs.YtclhmdobhlalmaaDoor

/-
  The pure layer: a slice of one's own as an element of another one; numbers put together out of bytes. No condition.
-/
namespace Go.Proofs.YtclhmdobhlalmaaDoor
set_option linter.unusedSimpArgs false
set_option linter.unusedVariables false
open Go.RowKit

def setE (e : Operand → A) (t : Nat) (v : A) : Operand → A
  | .tmp t' => if t' = t then v else e (.tmp t')
  | y => e y
section
variable {P : Program} {fr : Nat} {dst : Option Nat} {ty : TypeId} {e : Operand → A} {β : Bx} {T T' : TypeId} {x y : Operand}
/-- An operand that is a slice of one's own is read as data from now on. -/
theorem does_frz {op : Op} (t : Nat) {id n sz : Nat} {es : List (List D)} {v : A} {ups : Bx} {rd : List Nat} (hx : e (.tmp t) = .ow id n) (hro : rowsOf β id = some (sz, es))
    (h : Does P dst op ty (setE e t (.d (.sl sz es))) ([(id, .frz sz es)] ++ β) v ups rd) : Does P dst op ty e β v (ups ++ [(id, .frz sz es)]) (id :: rd) := by
  intro C γ hag ρ I w hm a hops o ho hd hty K Q hK
  have hid : look id γ = look id β := hag id (by simp)
  have hro2 : rowsOf γ id = some (sz, es) := (rowsOf_agree hid).trans hro
  obtain ⟨I', m1, x1, r1⟩ := hm.freeze_any hro2
  refine h C ([(id, .frz sz es)] ++ γ) (fun j hj => ?_) ρ I' w m1 a (fun z hz => ?_) o ho hd hty K Q (fun vv ρ' I2 w' hm' hx' hb' hr' => ?_)
  · rw [look_append, look_append]
    by_cases hji : j = id
    · subst hji; simp [look_cons]
    · rw [look_cons, if_neg (Ne.symm hji)]
      show look j γ = look j β
      refine hag j ?_
      simp only [List.map_append, List.mem_append, List.mem_cons, List.cons_append] at hj ⊢
      rcases hj with hj | hj
      · exact .inr (.inl hj)
      · exact .inr (.inr (.inl hj))
  · obtain ⟨h1, h2⟩ := hops z hz
    have h1' : (e z).inB ([(id, Box.frz sz es)] ++ γ) := A.inB_mono (fun i hi => dom_append hi) _ h1
    have h2' := RepA.ext x1 _ _ h1 h2
    unfold setE
    split
    · rename_i t'
      split
      · rename_i e1
        subst e1
        rw [hx] at h2
        refine ⟨trivial, ?_⟩
        show RepD I' w (.sl sz es) _
        rw [h2.1]; exact r1
      · exact ⟨h1', h2'⟩
    · exact ⟨h1', h2'⟩
  · refine hK vv ρ' I2 w' (by rw [List.append_assoc]; exact hm') (x1.trans hx' (fun i hi => dom_append hi)) ?_ hr'
    rw [List.append_assoc]; exact hb'
theorem does_build_f {el : TypeId} {te tt : TyI} {t id n sz : Nat} {es : List (List D)} (hT : mkTy P T = some tt) (hk : tt.kind = .slice el) (hte : mkTy P el = some te) (hsz : te.size = 1) (hx : e (.tmp t) = .ow id n) (hro : rowsOf β id = some (sz, es)) (hf : look fr β = none) (hne : id ≠ fr) :
    Does P (some fr) (.buildSlice T 1 #[(0, .tmp t)]) ty e β (.ow fr 1) [(fr, .row el 1 [[.sl sz es]]), (id, .frz sz es)] [id] := by
  have h := does_buildSlice (P := P) (fr := fr) (ty := ty) (e := setE e t (.d (.sl sz es))) (β := [(id, .frz sz es)] ++ β) (T := T) (len := 1) (parts := #[(0, .tmp t)]) (es := [[.sl sz es]]) hT hk hte rfl (by
    show cellsOfs [setE e t (.d (.sl sz es)) (.tmp t)] = _
    simp [setE, cellsOfs]; rfl) (by rw [hsz]; exact ⟨rfl, rfl, trivial⟩) (by omega) (by omega) (by rw [look_append, look_cons, if_neg hne]; exact hf)
  rw [hsz] at h
  exact does_frz t hx hro h
end
section
variable {P : Program} {dst : Option Nat} {ty : TypeId} {e : Operand → A} {β : Bx} {T T' : TypeId} {x y : Operand}
theorem bits_or (x y : Nat) (hx : x < 9223372036854775808) (hy : y < 9223372036854775808) : bitV .or .i64 (x : Int) (y : Int) = ((x ||| y : Nat) : Int) := by
  have hz : x ||| y < 2 ^ 63 := Nat.or_lt_two_pow (by omega) (by omega)
  have e : ∀ z : Nat, z < 9223372036854775808 → (BitVec.ofInt 64 (z : Int)).toNat = z := fun z hz => by rw [BitVec.ofInt_natCast, BitVec.toNat_ofNat]; exact Nat.mod_eq_of_lt (by omega)
  show IntKind.i64.wrap ((BitVec.ofInt 64 (x : Int) ||| BitVec.ofInt 64 (y : Int)).toNat : Int) = _
  rw [BitVec.toNat_or, e x hx, e y hy, IntKind.wrap_i64]
  omega
/-- The or of a number whose low bits are noughts and of one that has only those. -/
theorem does_or_join {p q : Int} (s m a b z : Nat) (hm : m = 2 ^ s) (hx : e x = .d (iD p)) (hy : e y = .d (iD q)) (hp : p = ((a * m : Nat) : Int)) (hq : q = (b : Nat)) (hb : b < m) (hz : a * m + b = z) (hlt : z < 9223372036854775808) : Does P dst (.binOp .or T x y T') ty e β (.d (iD (z : Nat))) [] [] := by
  subst hm hp hq
  have h := does_bor (P := P) (dst := dst) (ty := ty) (β := β) (T := T) (T' := T') hx hy
  have e1 : a * 2 ^ s ||| b = z := by
    rw [← hz, ← Nat.shiftLeft_eq, Nat.shiftLeft_add_eq_or_of_lt hb]
  rwa [bits_or _ _ (by omega) (by omega), e1] at h
theorem does_shl_n {p n : Int} {k' : IntKind} (a s m z : Nat) (hm : m = 2 ^ s) (hx : e x = .d (iD p)) (hy : e y = .d (.sc (.int k' n))) (hp : p = (a : Nat)) (hn : n = (s : Nat)) (hs : s < 64) (hz : a * m = z) (hlt : z < 9223372036854775808) : Does P dst (.binOp .shl T x y T') ty e β (.d (iD (z : Nat))) [] [] := by
  subst hm hp hn
  have h := does_shl (P := P) (dst := dst) (ty := ty) (β := β) (T := T) (T' := T') hx hy (by omega)
  have e1 : min (Int.toNat ((s : Nat) : Int)) IntKind.i64.bits = s := by show min s 64 = s; omega
  have e2 : (a : Int) * 2 ^ s = (z : Int) := by rw [← hz]; simp
  have e3 : IntKind.i64.wrap (z : Int) = z := by rw [IntKind.wrap_i64]; omega
  rwa [e1, e2, e3] at h
end
end Go.Proofs.YtclhmdobhlalmaaDoor

/-
  The pure layer: a part of a slice with a bound on its capacity; parts of lists. No condition.
-/
namespace Go.Proofs.YtclhmdobhlalmaaDoor
set_option linter.unusedSimpArgs false
set_option linter.unusedVariables false
open Go.RowKit

section
variable {P : Program} {dst : Option Nat} {ty : TypeId} {e : Operand → A} {β : Bx} {T : TypeId} {x : Operand}
theorem slice_rep3 {I : Nat → Prop} {w : World} {sz : Nat} {es : List (List D)} {ad : Option Addr} {c l h m : Nat} {n : Nat} (hr : RepD I w (.sl sz es) (.slice ad n c)) (h1 : l ≤ h) (h2 : h ≤ n) (h3 : h ≤ m) :
    RepD I w (.sl sz ((es.take h).drop l)) (.slice (if m = l then ad else ad.map (·.add (l * sz))) (h - l) (m - l)) := by
  obtain ⟨hn, hc, xs, hR, hg⟩ := repD_sl hr
  have hlen : ((es.take h).drop l).length = h - l := by rw [List.length_drop, List.length_take]; omega
  refine ⟨_, m - l, (xs.take (h * sz)).drop (l * sz), by rw [hlen], by rw [hlen]; omega, repR_drop l (repR_take h hR), fun h0 => ?_⟩
  rw [hlen] at h0
  obtain ⟨g, off, rfl, hI, hcell⟩ := hg (by omega)
  rw [if_neg (by omega)]
  refine ⟨g, off + l * sz, by simp [Addr.add_mid], hI, fun j u hu => ?_⟩
  rw [List.getElem?_drop, List.getElem?_take] at hu
  split at hu
  · have := hcell _ u hu
    rwa [Nat.add_assoc]
  · cases hu
theorem run_slice3 {t te : TyI} {el : TypeId} (ht : mkTy P T = some t) (hk : t.kind = .slice el) (hte : mkTy P el = some te) {ad : Option Addr} {c l h m nn : Nat} {lo : Option Value} {k1 k2 k3 : IntKind} (hlo : lo = some (.int k1 (l : Int)) ∨ (lo = none ∧ l = 0))
    (h1 : l ≤ h) (h2 : h ≤ m) (h3 : m ≤ c) (w : World) : (Instr.sliceAt T (.slice ad nn c) lo (some (.int k2 (h : Int))) (some (.int k3 (m : Int)))).run P w = .ok (.slice (if m = l then ad else ad.map (·.add (l * te.size))) (h - l) (m - l)) w := by
  obtain ⟨i, d, z, _, hu, _, _, _, _, _, hkd⟩ := mkTy_spec ht
  have hu2 : P.underlying T = some (.slice el) := by rw [hu, kind_slice (hkd.symm.trans hk)]
  have b0 : ∀ c', (Instr.sliceBound (.int k3 (m : Int)) c c').run P w = .ok m w := fun c' => bound_run rfl h3 c' w
  have b1 : ∀ c', (Instr.sliceBound (.int k2 (h : Int)) m c').run P w = .ok h w := fun c' => bound_run rfl h2 c' w
  have b2 : ∀ c', (Instr.sliceBound (.int k1 (l : Int)) h c').run P w = .ok l w := fun c' => bound_run rfl h1 c' w
  rcases hlo with rfl | ⟨rfl, rfl⟩ <;> simp [Instr.sliceAt, Instr.slice, Instr.sliceBounds, Sem.run_bind, run_underlying hu2, b0, b1, b2, sizeOf_mkTy hte]
theorem does_slice3 {t te : TyI} {el : TypeId} {lo : Option Operand} {hi mx : Operand} {sz l h m : Nat} {k k' : IntKind} {mm hv : Int} {es : List (List D)} (ht : mkTy P T = some t) (hk : t.kind = .slice el) (hte : mkTy P el = some te) (hx : e x = .d (.sl sz es)) (hsz : te.size = sz) (hl : loIs e l lo) (hh : e hi = .d (.sc (.int k' hv))) (hhv : hv = (h : Nat)) (hmx : e mx = .d (.sc (.int k mm))) (hmm : mm = (m : Nat)) (h1 : l ≤ h) (h2 : h ≤ m) (h3 : m ≤ es.length) :
    Does P dst (.slice T x lo (some hi) (some mx)) ty e β (.d (.sl sz ((es.take h).drop l))) [] [] :=
  Does.of_run fun C γ _ ρ I w _ a hops o ho _ => by
    have q1 := (hops x (by simp [Op.operands])).2
    rw [hx] at q1
    obtain ⟨ad, c, xs, q2, q3, q4, q5⟩ := q1
    have q6 := (hops mx (by simp [Op.operands])).2
    rw [hmx] at q6
    have q7 := repA_sc q6
    have q8 := (hops hi (by simp [Op.operands])).2
    rw [hh] at q8
    have q9 := repA_sc q8
    obtain ⟨k1, v1⟩ := lo_val (a := a) hl fun y hy => (hops y (by cases lo <;> simp_all [Op.operands])).2
    have hrun := run_slice3 (P := P) ht hk hte (ad := ad) (c := c) (h := h) (m := m) (nn := es.length) (k2 := k') (k3 := k) v1 h1 h2 (by omega) w
    rw [hsz] at hrun
    refine ⟨_, ?_, trivial, slice_rep3 (m := m) (n := es.length) ⟨ad, c, xs, rfl, q3, q4, q5⟩ h1 (by omega) h2⟩
    simp only [execOp, ho, q2, Sem.run_bind, Option.map_some, q7, q9, hmm, hhv, hrun]
    rfl
theorem does_slice_m {α : Type} {f : α → List D} {L L' : List α} {t te : TyI} {el : TypeId} {lo hi : Option Operand} {sz l h : Nat} (ht : mkTy P T = some t) (hk : t.kind = .slice el) (hte : mkTy P el = some te) (hx : e x = .d (.sl sz (L.map f))) (hsz : te.size = sz) (hl : loIs e l lo) (hh : hiIs e h L.length hi) (h1 : l ≤ h) (h2 : h ≤ L.length) (hc : (L.take h).drop l = L') :
    Does P dst (.slice T x lo hi none) ty e β (.d (.sl sz (L'.map f))) [] [] := by
  have hd := does_slice (P := P) (dst := dst) (ty := ty) (β := β) ht hk hte hx hsz hl (by rw [List.length_map]; exact hh) h1 (by rw [List.length_map]; exact h2)
  rwa [← List.map_take, ← List.map_drop, hc] at hd
theorem does_slice3_m {α : Type} {f : α → List D} {L L' : List α} {t te : TyI} {el : TypeId} {lo : Option Operand} {hi mx : Operand} {sz l h m : Nat} {k k' : IntKind} {mm hv : Int} (ht : mkTy P T = some t) (hk : t.kind = .slice el) (hte : mkTy P el = some te) (hx : e x = .d (.sl sz (L.map f))) (hsz : te.size = sz) (hl : loIs e l lo) (hh : e hi = .d (.sc (.int k' hv))) (hhv : hv = (h : Nat)) (hmx : e mx = .d (.sc (.int k mm))) (hmm : mm = (m : Nat)) (h1 : l ≤ h) (h2 : h ≤ m) (h3 : m ≤ L.length) (hc : (L.take h).drop l = L') :
    Does P dst (.slice T x lo (some hi) (some mx)) ty e β (.d (.sl sz (L'.map f))) [] [] := by
  have hd := does_slice3 (P := P) (dst := dst) (ty := ty) (β := β) ht hk hte hx hsz hl hh hhv hmx hmm h1 h2 (by rw [List.length_map]; exact h3)
  rwa [← List.map_take, ← List.map_drop, hc] at hd
end
end Go.Proofs.YtclhmdobhlalmaaDoor
