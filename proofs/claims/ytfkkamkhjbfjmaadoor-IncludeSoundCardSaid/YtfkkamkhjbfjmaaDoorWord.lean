/-
  The pure layer: words of 32 and 64 bits, bytes. No condition.
-/
import Derived.Test.YtfkkamkhjbfjmaaDoorPlPx
import Derived.Test.YtfkkamkhjbfjmaaDoorTl
namespace Go.Proofs.YtfkkamkhjbfjmaaDoor
set_option linter.unusedSimpArgs false
set_option linter.unusedVariables false
open Go.RowKit

abbrev wD (x : UInt32) : D := .sc (.int .u32 (x.toNat : Int))
abbrev lD (x : UInt64) : D := .sc (.int .u64 (x.toNat : Int))
theorem wrap_u (k : IntKind) (hk : k.signed = false) (n : Nat) : k.wrap (n : Int) = ((n % 2 ^ k.bits : Nat) : Int) := by
  unfold IntKind.wrap
  simp [hk]
theorem ofInt_nat (b n : Nat) : BitVec.ofInt b (n : Int) = BitVec.ofNat b n := by
  apply BitVec.eq_of_toNat_eq
  simp [BitVec.toNat_ofInt]
theorem fdiv_pow (m s : Nat) : (m : Int).fdiv (2 ^ s) = ((m / 2 ^ s : Nat) : Int) := by
  have h : (2 : Int) ^ s = ((2 ^ s : Nat) : Int) := by push_cast; rfl
  rw [h, Int.fdiv_eq_ediv_of_nonneg _ (Int.natCast_nonneg _)]
  rfl
section
variable {P : Program} {dst : Option Nat} {ty : TypeId} {e : Operand → A} {β : Bx} {T T' : TypeId} {x y : Operand}
theorem does_add32 {a b : UInt32} (hx : e x = .d (wD a)) (hy : e y = .d (wD b)) : Does P dst (.binOp .add T x y T') ty e β (.d (wD (a + b))) [] [] :=
  does_int_to hx hy trivial (by
    show D.sc (.int .u32 (IntKind.u32.wrap ((a.toNat : Int) + (b.toNat : Int)))) = _
    rw [← Int.natCast_add, wrap_u _ rfl]; show _ = D.sc (.int .u32 ((a + b).toNat : Int)); rw [UInt32.toNat_add]; rfl)
theorem bit_u (k : IntKind) (hk : k.signed = false) {m n : Nat} (hm : m < 2 ^ k.bits) (hn : n < 2 ^ k.bits) : bitV .xor k m n = ((m ^^^ n : Nat) : Int) ∧ bitV .and k m n = ((m &&& n : Nat) : Int) ∧ bitV .or k m n = ((m ||| n : Nat) : Int) := by
  have h1 : (BitVec.ofNat k.bits m).toNat = m := by rw [BitVec.toNat_ofNat, Nat.mod_eq_of_lt hm]
  have h2 : (BitVec.ofNat k.bits n).toNat = n := by rw [BitVec.toNat_ofNat, Nat.mod_eq_of_lt hn]
  refine ⟨?_, ?_, ?_⟩ <;> simp only [bitV, ofInt_nat, BitVec.toNat_xor, BitVec.toNat_and, BitVec.toNat_or, h1, h2] <;> rw [wrap_u _ hk, Nat.mod_eq_of_lt]
  · exact Nat.xor_lt_two_pow hm hn
  · exact Nat.lt_of_le_of_lt Nat.and_le_left hm
  · exact Nat.or_lt_two_pow hm hn
theorem does_xor32 {a b : UInt32} (hx : e x = .d (wD a)) (hy : e y = .d (wD b)) : Does P dst (.binOp .xor T x y T') ty e β (.d (wD (a ^^^ b))) [] [] :=
  does_int_to hx hy trivial (by
    show D.sc (.int .u32 (bitV .xor .u32 (a.toNat : Int) (b.toNat : Int))) = _
    rw [(bit_u .u32 rfl a.toNat_lt b.toNat_lt).1, ← UInt32.toNat_xor])
theorem does_and32 {a b : UInt32} (hx : e x = .d (wD a)) (hy : e y = .d (wD b)) : Does P dst (.binOp .and T x y T') ty e β (.d (wD (a &&& b))) [] [] :=
  does_int_to hx hy trivial (by
    show D.sc (.int .u32 (bitV .and .u32 (a.toNat : Int) (b.toNat : Int))) = _
    rw [(bit_u .u32 rfl a.toNat_lt b.toNat_lt).2.1, ← UInt32.toNat_and])
theorem does_or32 {a b : UInt32} (hx : e x = .d (wD a)) (hy : e y = .d (wD b)) : Does P dst (.binOp .or T x y T') ty e β (.d (wD (a ||| b))) [] [] :=
  does_int_to hx hy trivial (by
    show D.sc (.int .u32 (bitV .or .u32 (a.toNat : Int) (b.toNat : Int))) = _
    rw [(bit_u .u32 rfl a.toNat_lt b.toNat_lt).2.2, ← UInt32.toNat_or])
theorem does_xor8 {a b : UInt8} (hx : e x = .d (u8D a)) (hy : e y = .d (u8D b)) : Does P dst (.binOp .xor T x y T') ty e β (.d (u8D (a ^^^ b))) [] [] :=
  does_int_to hx hy trivial (by
    show D.sc (.int .u8 (bitV .xor .u8 (a.toNat : Int) (b.toNat : Int))) = _
    rw [(bit_u .u8 rfl a.toNat_lt b.toNat_lt).1, ← UInt8.toNat_xor])
theorem does_shl32 {a : UInt32} {k' : IntKind} {n : Int} {s : Nat} (hx : e x = .d (wD a)) (hy : e y = .d (.sc (.int k' n))) (hn : n = (s : Nat)) (hs : s < 32) : Does P dst (.binOp .shl T x y T') ty e β (.d (wD (a <<< UInt32.ofNat s))) [] [] := by
  have h := does_shift (P := P) (dst := dst) (ty := ty) (β := β) (bo := .shl) (T := T) (T' := T') hx hy (.inl rfl) (by omega)
  have e1 : (intV .shl .u32 (a.toNat : Int) n).2 = .int .u32 ((a <<< UInt32.ofNat s).toNat : Int) := by
    subst hn
    show Value.int .u32 (IntKind.u32.wrap ((a.toNat : Int) * 2 ^ (min (s : Int).toNat 32))) = _
    have h1 : min (s : Int).toNat 32 = s := by omega
    have h2 : ((a.toNat : Int) * 2 ^ s) = ((a.toNat * 2 ^ s : Nat) : Int) := by push_cast; rfl
    have h3 : (UInt32.ofNat s).toNat % 32 = s := by simp; omega
    rw [h1, h2, wrap_u _ rfl, UInt32.toNat_shiftLeft, h3, Nat.shiftLeft_eq]
    rfl
  rw [e1] at h; exact h
theorem does_shr32 {a : UInt32} {k' : IntKind} {n : Int} {s : Nat} (hx : e x = .d (wD a)) (hy : e y = .d (.sc (.int k' n))) (hn : n = (s : Nat)) (hs : s < 32) : Does P dst (.binOp .shr T x y T') ty e β (.d (wD (a >>> UInt32.ofNat s))) [] [] := by
  have h := does_shift (P := P) (dst := dst) (ty := ty) (β := β) (bo := .shr) (T := T) (T' := T') hx hy (.inr rfl) (by omega)
  have e1 : (intV .shr .u32 (a.toNat : Int) n).2 = .int .u32 ((a >>> UInt32.ofNat s).toNat : Int) := by
    subst hn
    show Value.int .u32 ((a.toNat : Int).fdiv (2 ^ (min (s : Int).toNat 32))) = _
    have h1 : min (s : Int).toNat 32 = s := by omega
    have h3 : (UInt32.ofNat s).toNat % 32 = s := by simp; omega
    rw [h1, UInt32.toNat_shiftRight, h3, Nat.shiftRight_eq_div_pow, fdiv_pow]
  rw [e1] at h; exact h
theorem does_shr64 {a : UInt64} {k' : IntKind} {n : Int} {s : Nat} (hx : e x = .d (lD a)) (hy : e y = .d (.sc (.int k' n))) (hn : n = (s : Nat)) (hs : s < 64) : Does P dst (.binOp .shr T x y T') ty e β (.d (lD (a >>> UInt64.ofNat s))) [] [] := by
  have h := does_shift (P := P) (dst := dst) (ty := ty) (β := β) (bo := .shr) (T := T) (T' := T') hx hy (.inr rfl) (by omega)
  have e1 : (intV .shr .u64 (a.toNat : Int) n).2 = .int .u64 ((a >>> UInt64.ofNat s).toNat : Int) := by
    subst hn
    show Value.int .u64 ((a.toNat : Int).fdiv (2 ^ (min (s : Int).toNat 64))) = _
    have h1 : min (s : Int).toNat 64 = s := by omega
    have h3 : (UInt64.ofNat s).toNat % 64 = s := by simp; omega
    rw [h1, UInt64.toNat_shiftRight, h3, Nat.shiftRight_eq_div_pow, fdiv_pow]
  rw [e1] at h; exact h
theorem does_mul64 {a b : UInt64} (hx : e x = .d (lD a)) (hy : e y = .d (lD b)) : Does P dst (.binOp .mul T x y T') ty e β (.d (lD (a * b))) [] [] :=
  does_int_to hx hy trivial (by
    show D.sc (.int .u64 (IntKind.u64.wrap ((a.toNat : Int) * (b.toNat : Int)))) = _
    rw [← Int.natCast_mul, wrap_u _ rfl]; show _ = D.sc (.int .u64 ((a * b).toNat : Int)); rw [UInt64.toNat_mul]; rfl)
/-- ^x of 32 bits: as exclusive or with all ones. -/
theorem does_not32 {a : UInt32} (hx : e x = .d (wD a)) : Does P dst (.unOp .xor T x) ty e β (.d (wD (4294967295 ^^^ a))) [] [] :=
  Does.of_run fun C γ _ ρ I w _ ac hops o ho _ => by
    have h1 := (hops x (by simp [Op.operands])).2
    rw [hx] at h1
    have h1 := repA_sc h1
    have e1 : bitV .xor .u32 4294967295 (a.toNat : Int) = (((4294967295 ^^^ a : UInt32).toNat : Nat) : Int) := by
      have := (bit_u .u32 rfl (m := 4294967295) (n := a.toNat) (by decide) a.toNat_lt).1
      rw [UInt32.toNat_xor]
      exact this
    refine ⟨.int .u32 (bitV .xor .u32 4294967295 (a.toNat : Int)), ?_, trivial, ?_, rfl⟩
    · simp only [execOp, ho, h1]
      rfl
    · rw [e1]
theorem does_conv8_32 {S : TypeId} {s t : TyI} {b : UInt8} (hs : mkTy P S = some s) (ht : mkTy P T = some t) (hk : t.kind = .int .u32) (hx : e x = .d (u8D b)) : Does P dst (.convert S T x) ty e β (.d (wD b.toUInt32)) [] [] := by
  have h := does_conv_int (P := P) (dst := dst) (ty := ty) (β := β) hs ht hk hx
  have e1 : IntKind.u32.wrap (b.toNat : Int) = (b.toUInt32.toNat : Int) := by
    have := b.toNat_lt
    rw [wrap_u _ rfl, UInt8.toNat_toUInt32, Nat.mod_eq_of_lt (by show b.toNat < 4294967296; omega)]
  rw [e1] at h; exact h
theorem does_conv32_8 {S : TypeId} {s t : TyI} {a : UInt32} (hs : mkTy P S = some s) (ht : mkTy P T = some t) (hk : t.kind = .int .u8) (hx : e x = .d (wD a)) : Does P dst (.convert S T x) ty e β (.d (u8D a.toUInt8)) [] [] := by
  have h := does_conv_int (P := P) (dst := dst) (ty := ty) (β := β) hs ht hk hx
  have e1 : IntKind.u8.wrap (a.toNat : Int) = (a.toUInt8.toNat : Int) := by
    rw [wrap_u _ rfl, UInt32.toNat_toUInt8]; rfl
  rw [e1] at h; exact h
theorem does_conv64_8 {S : TypeId} {s t : TyI} {a : UInt64} (hs : mkTy P S = some s) (ht : mkTy P T = some t) (hk : t.kind = .int .u8) (hx : e x = .d (lD a)) : Does P dst (.convert S T x) ty e β (.d (u8D a.toUInt8)) [] [] := by
  have h := does_conv_int (P := P) (dst := dst) (ty := ty) (β := β) hs ht hk hx
  have e1 : IntKind.u8.wrap (a.toNat : Int) = (a.toUInt8.toNat : Int) := by
    rw [wrap_u _ rfl, UInt64.toNat_toUInt8]; rfl
  rw [e1] at h; exact h
theorem does_conv_64 {S : TypeId} {s t : TyI} {m : Nat} (hs : mkTy P S = some s) (ht : mkTy P T = some t) (hk : t.kind = .int .u64) (hx : e x = .d (iD m)) : Does P dst (.convert S T x) ty e β (.d (lD (UInt64.ofNat m))) [] [] := by
  have h := does_conv_int (P := P) (dst := dst) (ty := ty) (β := β) hs ht hk hx
  have e1 : IntKind.u64.wrap (m : Int) = ((UInt64.ofNat m).toNat : Int) := by
    rw [wrap_u _ rfl, UInt64.toNat_ofNat']; rfl
  rw [e1] at h; exact h
/-- An element of an array of cells that lies in a variable. -/
theorem does_index_px {S el : TypeId} {t : TyI} {len i id off0 off : Nat} {er : Bool} {k : IntKind} {n : Int} (ht : mkTy P S = some t) (hk : t.kind = .array len el 1 er) (hx : e x = .px id off0) (hy : e y = .d (.sc (.int k n))) (hn : n = (i : Nat)) (hi : i < len) (ho : off0 + i = off) :
    Does P dst (.indexAddr S x y) ty e β (.px id off) [] [] :=
  does_index_arr ht hk hy hn hi (by decide) (by rw [hx, ← ho, Nat.mul_one]; rfl)
end
theorem get_w {l : List UInt32} {i : Nat} (h : i < l.length) : ((l.map wD).map A.d)[i]? = some (.d (wD (l.getD i 0))) := by
  rw [List.getElem?_map, List.getElem?_map, List.getElem?_eq_getElem h, List.getD_eq_getElem?_getD, List.getElem?_eq_getElem h]; rfl
theorem get_b {l : List UInt8} {i : Nat} (h : i < l.length) : ((l.map u8D).map A.d)[i]? = some (.d (u8D (l.getD i 0))) := by
  rw [List.getElem?_map, List.getElem?_map, List.getElem?_eq_getElem h, List.getD_eq_getElem?_getD, List.getElem?_eq_getElem h]; rfl
theorem set_w {l : List UInt32} {i : Nat} {x : UInt32} : (((l.map wD).map A.d).set i (.d (wD x))) = ((l.set i x).map wD).map A.d := by
  rw [List.map_set, List.map_set]
theorem set_b {l : List UInt8} {i : Nat} {x : UInt8} : (((l.map u8D).map A.d).set i (.d (u8D x))) = ((l.set i x).map u8D).map A.d := by
  rw [List.map_set, List.map_set]
abbrev wA (w : List UInt32) : List A := (w.map wD).map A.d
abbrev bA (b : List UInt8) : List A := (b.map u8D).map A.d
section
variable {P : Program} {dst : Option Nat} {ty : TypeId} {e : Operand → A} {β : Bx} {T T0 : TypeId} {x y : Operand}
theorem does_set_w {t : TyI} {id off : Nat} {w : List UInt32} {z : UInt32} (ht : mkTy P T = some t) (hs : t.size = 1) (hx : e x = .px id off) (hy : e y = .d (wD z)) (hl : look id β = some (.var T0 (wA w))) (hoff : off < w.length) :
    Does P dst (.store T x y) ty e β .un [(id, .var T0 (wA (w.set off z)))] [id] := by
  have h := does_store (P := P) (dst := dst) (ty := ty) ht hs hx hy rfl hl (by simpa using hoff)
  rwa [set_w] at h
theorem does_set_b {t : TyI} {id off : Nat} {w : List UInt8} {z : UInt8} (ht : mkTy P T = some t) (hs : t.size = 1) (hx : e x = .px id off) (hy : e y = .d (u8D z)) (hl : look id β = some (.var T0 (bA w))) (hoff : off < w.length) :
    Does P dst (.store T x y) ty e β .un [(id, .var T0 (bA (w.set off z)))] [id] := by
  have h := does_store (P := P) (dst := dst) (ty := ty) ht hs hx hy rfl hl (by simpa using hoff)
  rwa [set_b] at h
end
/-- Turned to the left. -/
def rotl (x : UInt32) (s : Nat) : UInt32 := (x <<< UInt32.ofNat s) ||| (x >>> UInt32.ofNat (32 - s))
theorem rot_pc (x : UInt32) (k m : Int) (s : Nat) (h1 : IntKind.u64.wrap k = m) (h2 : bitV .and .u64 m 31 = (s : Int)) (hs : 0 < s) (hs2 : s < 32) : PC Tryd.prog 61 [wD x, iD k] (wD (rotl x s)) := by
  have e2 : D.sc (intV .and .u64 m 31).2 = .sc (.int .u64 (s : Int)) := by show D.sc (.int .u64 (bitV .and .u64 m 31)) = _; rw [h2]
  have e3 : D.sc (intV .sub .u64 32 (s : Int)).2 = .sc (.int .u64 ((32 - s : Nat) : Int)) := by
    show D.sc (.int .u64 (IntKind.u64.wrap (32 - (s : Int)))) = _
    rw [show (32 : Int) - (s : Int) = ((32 - s : Nat) : Int) by omega, wrap_u _ rfl, Nat.mod_eq_of_lt (by show 32 - s < 18446744073709551616; omega)]
  refine pc_of_aw Tryd.func61 rfl (by kernel_rfl) mixed (by kernel_rfl) (by rw [Tryd.ntmps61]; exact Nat.le_of_ble_eq_true rfl) Tryd.results61 ?_
  repeat (first | (with_reducible apply aw_seq) | (with_reducible apply aw_reg) | (with_reducible apply rp_nil) | (with_reducible apply ae_norm) | (with_reducible apply aw_regD) | (with_reducible apply aw_block) | (with_reducible apply aw_exit) | (with_reducible apply ae_exit) | (with_reducible apply be_exit) | (with_reducible apply be_norm) | (with_reducible apply aw_ret) | (with_reducible apply ae_ret) | (with_reducible apply be_ret) | (with_reducible apply re_ret) | (with_reducible apply re_norm) | (with_reducible apply xe_ret) | (with_reducible apply xe_norm) | (with_reducible apply oe_ret) | (with_reducible apply oe_norm) | (with_reducible apply aw_skip) | (with_reducible apply aw_label) | (with_reducible apply aw_goto) | (with_reducible apply ae_goto) | (with_reducible apply be_goto) | (with_reducible apply je_goto) | (with_reducible apply je_ret) | (with_reducible apply je_norm) | ((with_reducible apply be_other); exact rfl) | ((with_reducible apply dr_nil); first | kernel_rfl | exact rfl) | ((first | (with_reducible apply rp) | (with_reducible apply dr) | ((first | (with_reducible apply rpG) | (with_reducible apply drG)); exact rfl; (first | exact gval_t rfl | exact gval_f rfl | exact gval_gt rfl | exact gval_gf rfl); (focus repeat' (first | exact trivial | exact fun h => h | refine And.intro ?_ ?_ | (intro h; first | exact h | (simp only [Bool.and_eq_true] at h; first | exact h.1 | exact h.1.1 | exact h.1.1.1 | exact h.2) | simp_all))); intro hgd; (try simp only [decide_eq_true_eq, Bool.and_eq_true, Bool.not_eq_true', beq_iff_eq] at hgd))); first | (exact does_conv_int (tyOk rfl) (tyOk rfl) rfl rfl) | (exact does_int_to rfl rfl trivial (h1 ▸ e2)) | (exact does_int_to rfl rfl trivial e3) | (exact does_shl32 (s := s) rfl rfl rfl hs2) | (exact does_shr32 (s := 32 - s) rfl rfl rfl (by omega)) | (exact does_or32 rfl rfl) | ((with_reducible apply does_move); (conv => lhs; whnf)) | ((with_reducible apply does_assign); (conv => lhs; whnf)) | ((with_reducible apply does_and); exact rfl; exact rfl; exact rfl; (first | exact trivial | exact fun h => h | (intro h; first | exact h | (simp only [Bool.and_eq_true] at h; first | exact h.1 | exact h.1.1 | exact h.1.1.1 | exact h.2) | simp_all))) | ((with_reducible apply does_or); exact rfl; exact rfl; exact rfl; (first | exact trivial | exact fun h => h | (intro h; first | exact h | (simp only [Bool.and_eq_true] at h; first | exact h.1 | exact h.1.1 | exact h.1.1.1 | exact h.2) | simp_all))) | ((with_reducible apply does_pickF); exact rfl; (first | assumption | decide); (conv => lhs; whnf)) | ((with_reducible apply does_pickT); exact rfl; (first | assumption | decide); (conv => lhs; whnf)) | ((with_reducible apply does_fieldAddr); exact tyOk rfl; exact rfl; exact rfl; decide; exact rfl) | ((with_reducible apply does_load_var); exact tyOk rfl; exact rfl; exact rfl; exact rfl; exact rfl) | ((with_reducible apply does_load_elem); exact tyOk rfl; exact rfl; exact rfl; (first | assumption | exact map_get (by assumption) | exact rfl); exact rfl) | ((with_reducible apply does_load_own); exact tyOk rfl; exact rfl; exact rfl; exact rfl; (first | assumption | exact map_get (by assumption) | exact rfl); exact rfl) | ((with_reducible apply does_load_row); exact tyOk rfl; exact rfl; exact rfl; exact rfl; (first | exact Nat.le_of_ble_eq_true rfl | omega | (simp; omega)); exact rfl) | ((with_reducible apply does_load_elem_whole); exact tyOk rfl; exact rfl; exact rfl; (first | assumption | exact map_get (by assumption) | exact rfl); exact rfl) | ((with_reducible apply does_load_own_whole); exact tyOk rfl; exact rfl; exact rfl; exact rfl; (first | assumption | exact map_get (by assumption) | exact rfl); exact rfl) | ((with_reducible apply does_load_elem_row); exact tyOk rfl; exact rfl; exact rfl; (first | assumption | exact map_get (by assumption) | exact rfl); (first | exact Nat.le_of_ble_eq_true rfl | omega | (simp; omega))) | ((with_reducible apply does_load_own_row); exact tyOk rfl; exact rfl; exact rfl; exact rfl; (first | assumption | exact map_get (by assumption) | exact rfl); (first | exact Nat.le_of_ble_eq_true rfl | omega | (simp; omega))) | ((with_reducible apply does_index_sl); exact tyOk rfl; exact rfl; exact tyOk rfl; exact rfl; exact rfl; exact rfl; exact rfl; (first | omega | (dsimp only; omega) | (dsimp only; simp only [List.length_map, List.length_append, List.length_cons, List.length_nil] at *; omega) | (simp only [List.length_map, List.length_append, List.length_cons, List.length_nil] at *; omega) | (simp; omega))) | ((with_reducible apply does_index_own); exact tyOk rfl; exact rfl; exact tyOk rfl; exact rfl; exact rfl; exact rfl; (first | omega | (dsimp only; omega) | (dsimp only; simp only [List.length_map, List.length_append, List.length_cons, List.length_nil] at *; omega) | (simp only [List.length_map, List.length_append, List.length_cons, List.length_nil] at *; omega) | (simp; omega))) | ((with_reducible apply does_index_arr); exact tyOk rfl; exact rfl; exact rfl; exact rfl; (first | omega | (dsimp only; omega) | (dsimp only; simp only [List.length_map, List.length_append, List.length_cons, List.length_nil] at *; omega) | (simp only [List.length_map, List.length_append, List.length_cons, List.length_nil] at *; omega) | (simp; omega)); decide; exact rfl) | ((with_reducible apply does_eq); exact rfl; exact rfl) | ((with_reducible apply does_ne); exact rfl; exact rfl) | ((with_reducible apply does_lt); exact rfl; exact rfl) | ((with_reducible apply does_le); exact rfl; exact rfl) | ((with_reducible apply does_gt); exact rfl; exact rfl) | ((with_reducible apply does_ge); exact rfl; exact rfl) | ((with_reducible apply does_add); exact rfl; exact rfl; omega; omega) | ((with_reducible apply does_sub); exact rfl; exact rfl; omega; omega) | ((with_reducible apply does_quo); exact rfl; exact rfl; omega; omega) | ((with_reducible apply does_rem); exact rfl; exact rfl; omega) | ((with_reducible apply does_wadd); exact rfl; exact rfl) | ((with_reducible apply does_wsub); exact rfl; exact rfl) | ((with_reducible apply does_wmul); exact rfl; exact rfl) | ((with_reducible apply does_wrem); exact rfl; exact rfl; omega) | ((with_reducible apply does_wquo); exact rfl; exact rfl; omega) | ((with_reducible apply does_seq); exact rfl; exact rfl) | ((with_reducible apply does_sne); exact rfl; exact rfl) | ((with_reducible apply does_slt); exact rfl; exact rfl) | ((with_reducible apply does_sle); exact rfl; exact rfl) | ((with_reducible apply does_sgt); exact rfl; exact rfl) | ((with_reducible apply does_sge); exact rfl; exact rfl) | ((with_reducible apply does_cat); exact rfl; exact rfl; omega) | ((with_reducible apply does_eqS); exact rfl; exact rfl; exact tgOk rfl; exact rfl) | ((with_reducible apply does_neS); exact rfl; exact rfl; exact tgOk rfl; exact rfl) | ((with_reducible apply does_beq); exact tyOk rfl; exact rfl; exact rfl; exact rfl; exact rfl) | ((with_reducible apply does_bne); exact tyOk rfl; exact rfl; exact rfl; exact rfl; exact rfl) | ((with_reducible apply does_not); exact rfl) | ((with_reducible apply does_neg); exact rfl) | ((with_reducible apply does_band); exact rfl; exact rfl) | ((with_reducible apply does_bor); exact rfl; exact rfl) | ((with_reducible apply does_bxor); exact rfl; exact rfl) | ((with_reducible apply does_bandNot); exact rfl; exact rfl) | ((with_reducible apply does_shl); exact rfl; exact rfl; omega) | ((with_reducible apply does_shr); exact rfl; exact rfl; omega) | ((with_reducible apply does_extract); exact rfl; exact rfl) | ((with_reducible apply does_extractA); exact rfl; exact rfl) | ((with_reducible apply does_field); exact tyOk rfl; exact rfl; exact rfl; exact rfl; exact rfl; exact rfl) | ((with_reducible apply does_len_map); exact tyOk rfl; exact rfl; exact rfl) | ((with_reducible apply does_len_sl); exact tyOk rfl; exact rfl; exact rfl) | ((with_reducible apply does_len_ow); exact tyOk rfl; exact rfl; exact rfl) | ((with_reducible apply does_len_nl); exact tyOk rfl; exact rfl; exact rfl) | ((with_reducible apply does_len_str); exact tyOk rfl; exact rfl; exact rfl) | ((with_reducible apply does_conv_i64); exact tyOk rfl; exact tyOk rfl; exact rfl; exact rfl; omega; omega) | ((with_reducible apply does_conv_int); exact tyOk rfl; exact tyOk rfl; exact rfl; exact rfl) | ((with_reducible apply does_conv_str); exact tyOk rfl; exact tyOk rfl; exact rfl; exact rfl) | ((with_reducible apply does_zeroA); exact tyOk rfl; exact rfl; decide) | ((with_reducible apply does_zeroS); exact tyOk rfl; exact rfl; exact rfl) | ((with_reducible apply does_build); exact tyOk rfl; exact rfl; exact rfl; (focus repeat' (first | exact rfl | refine ⟨_, _, rfl, rfl, Nat.le_of_ble_eq_true rfl, rfl, ?_⟩)); exact rfl) | ((with_reducible apply does_build_full); exact tyOk rfl; exact rfl; (focus repeat' (first | exact pv_nil | (apply pv_cons; (conv => lhs; whnf); exact rfl))); exact rfl; exact rfl) | ((with_reducible apply does_buildA); exact tyOk rfl; exact rfl; decide; (focus repeat' (first | exact rfl | refine ⟨_, _, rfl, rfl, Nat.le_of_ble_eq_true rfl, rfl, ?_⟩)); exact rfl) | ((with_reducible apply does_pick); exact rfl; exact rfl; exact rfl; (first | exact trivial | exact fun h => h | (intro h; first | exact h | (simp only [Bool.and_eq_true] at h; first | exact h.1 | exact h.1.1 | exact h.1.1.1 | exact h.2) | simp_all)); (first | exact trivial | exact fun h => h | (intro h; first | exact h | (simp only [Bool.and_eq_true] at h; first | exact h.1 | exact h.1.1 | exact h.1.1.1 | exact h.2) | simp_all))) | ((with_reducible apply does_makeFunc_l); (focus repeat' (first | exact evs_nil rfl | (apply evs_cons; exact rfl; (conv => lhs; whnf)))); (focus repeat' (first | exact evs_nil rfl | (apply evs_cons; exact rfl; (conv => lhs; whnf))))) | ((with_reducible apply does_nilCheck); exact rfl) | ((with_reducible apply does_slice); exact tyOk rfl; exact rfl; exact tyOk rfl; exact rfl; exact rfl; (first | exact rfl | exact ⟨_, _, rfl, rfl⟩); (first | exact rfl | exact ⟨_, _, rfl, rfl⟩); (first | omega | (dsimp only; omega) | (dsimp only; simp only [List.length_map, List.length_append, List.length_cons, List.length_nil] at *; omega) | (simp only [List.length_map, List.length_append, List.length_cons, List.length_nil] at *; omega) | (simp; omega)); (first | omega | (dsimp only; omega) | (dsimp only; simp only [List.length_map, List.length_append, List.length_cons, List.length_nil] at *; omega) | (simp only [List.length_map, List.length_append, List.length_cons, List.length_nil] at *; omega) | (simp; omega))) | ((with_reducible apply does_slice_str); exact tyOk rfl; exact rfl; exact rfl; (first | exact rfl | exact ⟨_, _, rfl, rfl⟩); (first | exact rfl | exact ⟨_, _, rfl, rfl⟩); (first | omega | (dsimp only; omega) | (dsimp only; simp only [List.length_map, List.length_append, List.length_cons, List.length_nil] at *; omega) | (simp only [List.length_map, List.length_append, List.length_cons, List.length_nil] at *; omega) | (simp; omega)); (first | omega | (dsimp only; omega) | (dsimp only; simp only [List.length_map, List.length_append, List.length_cons, List.length_nil] at *; omega) | (simp only [List.length_map, List.length_append, List.length_cons, List.length_nil] at *; omega) | (simp; omega))) | ((with_reducible apply does_slice_nl); exact tyOk rfl; exact rfl; exact tyOk rfl; exact rfl; (first | exact rfl | exact ⟨_, _, rfl, rfl⟩); (first | exact rfl | exact ⟨_, _, rfl, rfl⟩)) | ((with_reducible apply does_index_str); exact tyOk rfl; exact rfl; exact rfl; exact rfl; exact rfl; (first | assumption | exact map_get (by assumption) | exact rfl)) | ((with_reducible apply does_min); exact rfl; exact rfl) | ((with_reducible apply does_conv_bs); exact tyOk rfl; exact rfl; exact tyOk rfl; exact rfl; exact tyOk rfl; exact rfl; exact rfl) | ((with_reducible apply does_conv_sb); exact tyOk rfl; exact rfl; exact tyOk rfl; exact rfl; exact tyOk rfl; exact rfl; exact rfl)) | ((first | (with_reducible apply rp1) | (with_reducible apply dr1)); first | (exact does_conv_int (tyOk rfl) (tyOk rfl) rfl rfl) | (exact does_int_to rfl rfl trivial (h1 ▸ e2)) | (exact does_int_to rfl rfl trivial e3) | (exact does_shl32 (s := s) rfl rfl rfl hs2) | (exact does_shr32 (s := 32 - s) rfl rfl rfl (by omega)) | (exact does_or32 rfl rfl) | ((with_reducible apply does_box_ag); exact rfl; exact rfl) | ((with_reducible apply does_box_one); (conv => lhs; whnf); exact rfl; exact rfl) | ((with_reducible apply does_box); exact rfl; exact rfl) | ((with_reducible apply does_alloc); exact tyOk rfl; exact rfl) | ((with_reducible apply does_buildSlice); exact tyOk rfl; exact rfl; exact tyOk rfl; exact rfl; exact rfl; (focus repeat' (first | exact trivial | refine And.intro rfl (And.intro rfl ?_))); decide; decide; exact rfl) | ((with_reducible apply does_make); exact tyOk rfl; exact rfl; exact tyOk rfl; exact rfl; exact rfl; exact rfl; exact rfl; decide; (first | omega | (dsimp only; omega) | (dsimp only; simp only [List.length_map, List.length_append, List.length_cons, List.length_nil] at *; omega) | (simp only [List.length_map, List.length_append, List.length_cons, List.length_nil] at *; omega) | (simp; omega)); (first | omega | (dsimp only; omega) | (dsimp only; simp only [List.length_map, List.length_append, List.length_cons, List.length_nil] at *; omega) | (simp only [List.length_map, List.length_append, List.length_cons, List.length_nil] at *; omega) | (simp; omega)); exact rfl) | ((with_reducible apply does_make_cap); exact tyOk rfl; exact rfl; exact tyOk rfl; exact rfl; exact rfl; exact rfl; exact rfl; (first | omega | (dsimp only; omega) | (dsimp only; simp only [List.length_map, List.length_append, List.length_cons, List.length_nil] at *; omega) | (simp only [List.length_map, List.length_append, List.length_cons, List.length_nil] at *; omega) | (simp; omega)); (first | omega | (dsimp only; omega) | (dsimp only; simp only [List.length_map, List.length_append, List.length_cons, List.length_nil] at *; omega) | (simp only [List.length_map, List.length_append, List.length_cons, List.length_nil] at *; omega) | (simp; omega)); exact rfl) | ((with_reducible apply does_append_nil); exact tyOk rfl; exact rfl; exact tyOk rfl; exact rfl; exact rfl; decide; (first | omega | (dsimp only; omega) | (dsimp only; simp only [List.length_map, List.length_append, List.length_cons, List.length_nil] at *; omega) | (simp only [List.length_map, List.length_append, List.length_cons, List.length_nil] at *; omega) | (simp; omega)); (first | omega | (dsimp only; omega) | (dsimp only; simp only [List.length_map, List.length_append, List.length_cons, List.length_nil] at *; omega) | (simp only [List.length_map, List.length_append, List.length_cons, List.length_nil] at *; omega) | (simp; omega)); exact rfl) | ((with_reducible apply does_conv_bb); exact tyOk rfl; exact rfl; exact tyOk rfl; exact rfl; exact rfl; exact rfl; decide)) | ((first | (with_reducible apply rp2) | (with_reducible apply dr2)); first | (exact does_conv_int (tyOk rfl) (tyOk rfl) rfl rfl) | (exact does_int_to rfl rfl trivial (h1 ▸ e2)) | (exact does_int_to rfl rfl trivial e3) | (exact does_shl32 (s := s) rfl rfl rfl hs2) | (exact does_shr32 (s := 32 - s) rfl rfl rfl (by omega)) | (exact does_or32 rfl rfl) | ((with_reducible apply does_append_own); exact tyOk rfl; exact rfl; exact tyOk rfl; exact rfl; exact rfl; exact rfl; decide; (first | omega | (dsimp only; omega) | (dsimp only; simp only [List.length_map, List.length_append, List.length_cons, List.length_nil] at *; omega) | (simp only [List.length_map, List.length_append, List.length_cons, List.length_nil] at *; omega) | (simp; omega)); (first | omega | (dsimp only; omega) | (dsimp only; simp only [List.length_map, List.length_append, List.length_cons, List.length_nil] at *; omega) | (simp only [List.length_map, List.length_append, List.length_cons, List.length_nil] at *; omega) | (simp; omega)); exact rfl)) | ((first | (with_reducible apply rpN) | (with_reducible apply drN)); first | (exact does_conv_int (tyOk rfl) (tyOk rfl) rfl rfl) | (exact does_int_to rfl rfl trivial (h1 ▸ e2)) | (exact does_int_to rfl rfl trivial e3) | (exact does_shl32 (s := s) rfl rfl rfl hs2) | (exact does_shr32 (s := 32 - s) rfl rfl rfl (by omega)) | (exact does_or32 rfl rfl) | ((with_reducible apply does_store); exact tyOk rfl; exact rfl; exact rfl; (conv => lhs; whnf); exact rfl; exact rfl; (first | exact Nat.le_of_ble_eq_true rfl | omega | (simp; omega))) | ((with_reducible apply does_store_whole); exact tyOk rfl; exact rfl; exact rfl; exact rfl; exact rfl; exact rfl) | ((with_reducible apply does_store_rowD); exact tyOk rfl; exact rfl; exact rfl; exact rfl; exact rfl; (first | exact Nat.le_of_ble_eq_true rfl | omega | (simp; omega))) | ((with_reducible apply does_store_wholeA); exact tyOk rfl; exact rfl; exact rfl; exact rfl; exact rfl; exact rfl) | ((with_reducible apply does_store_own); exact tyOk rfl; exact rfl; exact rfl; exact rfl; exact rfl; (first | assumption | exact map_get (by assumption) | exact rfl); exact rfl; (first | exact Nat.le_of_ble_eq_true rfl | omega | (simp; omega)))) | ((first | (with_reducible apply rpGF) | (with_reducible apply drGF)); exact rfl; (first | exact gval_t rfl | exact gval_f rfl | exact gval_gt rfl | exact gval_gf rfl); (first | assumption | decide); (focus repeat' (first | exact trivial | exact fun h => h | refine And.intro ?_ ?_ | (intro h; first | exact h | (simp only [Bool.and_eq_true] at h; first | exact h.1 | exact h.1.1 | exact h.1.1.1 | exact h.2) | simp_all)))))
  (with_reducible apply ret_ok); (focus (repeat' (first | (with_reducible apply rv_nil) | (with_reducible apply rv_cons) | ((with_reducible apply rv_tmp); exact rfl) | ((with_reducible apply rv_cell); exact rfl; exact rfl; exact tyOk rfl; exact rfl; exact rfl) | ((with_reducible apply rv_rowd); exact rfl; exact rfl; exact tyOk rfl; exact rfl; (first | (with_reducible assumption) | exact rfl | ((try simp only [List.length_map]); first | assumption | omega) | (simp; omega))) | ((with_reducible apply rv_row); exact rfl; exact rfl; exact tyOk rfl; exact rfl; (first | exact Nat.le_of_ble_eq_true rfl | omega | (simp; omega)))))); (first | exact rfl | (focus repeat' (first | exact frzVs_one (frzV_map _ _) | exact rfl | (apply frzVs_cons; (first | exact frzV_map _ _ | exact rfl))))); refine SubD.of_eq ?_
  rfl
end Go.Proofs.YtfkkamkhjbfjmaaDoor
