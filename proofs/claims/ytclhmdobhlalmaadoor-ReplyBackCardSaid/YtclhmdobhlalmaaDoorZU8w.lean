/-
  unicode/utf8.word of bytes, and what it says when none of its top bits is set. No condition but the length.
-/
import Derived.Test.YtclhmdobhlalmaaDoorZU64b
import Derived.Test.YtclhmdobhlalmaaDoorZC
import Derived.Lib.ValidAsc
namespace Go.Proofs.YtclhmdobhlalmaaDoor
set_option linter.unusedSimpArgs false
set_option linter.unusedVariables false
open Go.RowKit

def wordU : List UInt8 → UInt64
  | x0 :: x1 :: x2 :: x3 :: x4 :: x5 :: x6 :: x7 :: _ => ((((((x0.toUInt64 ||| x1.toUInt64 <<< UInt64.ofNat 8) ||| x2.toUInt64 <<< UInt64.ofNat 16) ||| x3.toUInt64 <<< UInt64.ofNat 24) ||| x4.toUInt64 <<< UInt64.ofNat 32) ||| x5.toUInt64 <<< UInt64.ofNat 40) ||| x6.toUInt64 <<< UInt64.ofNat 48) ||| x7.toUInt64 <<< UInt64.ofNat 56
  | _ => 0
set_option maxHeartbeats 2000000 in
theorem word_pc (u : List UInt8) (h : 8 ≤ u.length) : PC Tryd.prog 56 [byD u] (lD (wordU u)) := by
  match u, h with
  | x0 :: x1 :: x2 :: x3 :: x4 :: x5 :: x6 :: x7 :: r, _ =>
    refine pc_of_aw Tryd.func56 rfl (by kernel_rfl) mixed (by kernel_rfl) (by rw [Tryd.ntmps56]; exact Nat.le_of_ble_eq_true rfl) Tryd.results56 ?_
    repeat (first | (with_reducible apply aw_seq) | (with_reducible apply aw_reg) | (with_reducible apply rp_nil) | (with_reducible apply ae_norm) | ((with_reducible apply be_other); exact rfl) | ((with_reducible apply dr_nil); first | kernel_rfl | exact rfl) | ((first | (with_reducible apply rp) | (with_reducible apply dr)); first | ((with_reducible apply does_assign); (conv => lhs; whnf))))
    refine aw_cond rfl (fun hd => (by cases hd)) (fun hd => ?_)
    clear hd
    repeat (first | (with_reducible apply aw_seq) | (with_reducible apply ae_norm) | (with_reducible apply aw_regD) | (with_reducible apply aw_ret) | (with_reducible apply re_ret) | (with_reducible apply aw_skip) | ((with_reducible apply be_other); exact rfl) | ((with_reducible apply dr_nil); first | kernel_rfl | exact rfl) | ((first | (with_reducible apply rp) | (with_reducible apply dr)); first | (exact does_conv8_64 (tyOk rfl) (tyOk rfl) rfl rfl) | (exact does_shl64 (s := 8) rfl rfl rfl (by decide)) | (exact does_shl64 (s := 16) rfl rfl rfl (by decide)) | (exact does_shl64 (s := 24) rfl rfl rfl (by decide)) | (exact does_shl64 (s := 32) rfl rfl rfl (by decide)) | (exact does_shl64 (s := 40) rfl rfl rfl (by decide)) | (exact does_shl64 (s := 48) rfl rfl rfl (by decide)) | (exact does_shl64 (s := 56) rfl rfl rfl (by decide)) | (exact does_or64 rfl rfl) | ((with_reducible apply does_move); (conv => lhs; whnf)) | ((with_reducible apply does_assign); (conv => lhs; whnf)) | ((with_reducible apply does_load_var); exact tyOk rfl; exact rfl; exact rfl; exact rfl; exact rfl) | ((with_reducible apply does_load_elem); exact tyOk rfl; exact rfl; exact rfl; (first | assumption | exact map_get (by assumption) | exact rfl); exact rfl) | ((with_reducible apply does_index_sl); exact tyOk rfl; exact rfl; exact tyOk rfl; exact rfl; exact rfl; exact rfl; exact rfl; (first | omega | (dsimp only; omega) | (dsimp only; simp only [List.length_map, List.length_append, List.length_cons, List.length_nil] at *; omega) | (simp only [List.length_map, List.length_append, List.length_cons, List.length_nil] at *; omega) | (simp; omega)))) | ((first | (with_reducible apply rp1) | (with_reducible apply dr1)); first | (exact does_conv8_64 (tyOk rfl) (tyOk rfl) rfl rfl) | (exact does_shl64 (s := 8) rfl rfl rfl (by decide)) | (exact does_shl64 (s := 16) rfl rfl rfl (by decide)) | (exact does_shl64 (s := 24) rfl rfl rfl (by decide)) | (exact does_shl64 (s := 32) rfl rfl rfl (by decide)) | (exact does_shl64 (s := 40) rfl rfl rfl (by decide)) | (exact does_shl64 (s := 48) rfl rfl rfl (by decide)) | (exact does_shl64 (s := 56) rfl rfl rfl (by decide)) | (exact does_or64 rfl rfl)) | ((first | (with_reducible apply rp2) | (with_reducible apply dr2)); first | (exact does_conv8_64 (tyOk rfl) (tyOk rfl) rfl rfl) | (exact does_shl64 (s := 8) rfl rfl rfl (by decide)) | (exact does_shl64 (s := 16) rfl rfl rfl (by decide)) | (exact does_shl64 (s := 24) rfl rfl rfl (by decide)) | (exact does_shl64 (s := 32) rfl rfl rfl (by decide)) | (exact does_shl64 (s := 40) rfl rfl rfl (by decide)) | (exact does_shl64 (s := 48) rfl rfl rfl (by decide)) | (exact does_shl64 (s := 56) rfl rfl rfl (by decide)) | (exact does_or64 rfl rfl)) | ((first | (with_reducible apply rpN) | (with_reducible apply drN)); first | (exact does_conv8_64 (tyOk rfl) (tyOk rfl) rfl rfl) | (exact does_shl64 (s := 8) rfl rfl rfl (by decide)) | (exact does_shl64 (s := 16) rfl rfl rfl (by decide)) | (exact does_shl64 (s := 24) rfl rfl rfl (by decide)) | (exact does_shl64 (s := 32) rfl rfl rfl (by decide)) | (exact does_shl64 (s := 40) rfl rfl rfl (by decide)) | (exact does_shl64 (s := 48) rfl rfl rfl (by decide)) | (exact does_shl64 (s := 56) rfl rfl rfl (by decide)) | (exact does_or64 rfl rfl)))
    (with_reducible apply ret_ok); (focus (repeat' (first | (with_reducible apply rv_nil) | (with_reducible apply rv_cons) | ((with_reducible apply rv_tmp); exact rfl) | ((with_reducible apply rv_cell); exact rfl; exact rfl; exact tyOk rfl; exact rfl; exact rfl) | ((with_reducible apply rv_rowd); exact rfl; exact rfl; exact tyOk rfl; exact rfl; (first | (with_reducible assumption) | exact rfl | ((try simp only [List.length_map]); first | assumption | omega) | (simp; omega))) | ((with_reducible apply rv_row); exact rfl; exact rfl; exact tyOk rfl; exact rfl; (first | exact Nat.le_of_ble_eq_true rfl | omega | (simp; omega)))))); (first | exact rfl | (focus repeat' (first | exact frzVs_one (frzV_map _ _) | exact rfl | (apply frzVs_cons; (first | exact frzV_map _ _ | exact rfl))))); refine SubD.of_eq ?_
    rfl
theorem or_m {a b m : UInt64} (h : (a ||| b) &&& m = 0) : a &&& m = 0 ∧ b &&& m = 0 := by
  have h0 : ∀ c : UInt64, c = 0 ↔ c.toNat = 0 := fun c => ⟨fun h => by rw [h]; rfl, fun h => UInt64.toNat_inj.1 h⟩
  rw [h0, UInt64.toNat_and, UInt64.toNat_or] at h
  have := (Lib.or_mask a.toNat b.toNat m.toNat).1 h
  rw [h0, h0, UInt64.toNat_and, UInt64.toNat_and]
  exact this
abbrev hiM : UInt64 := 9259542123273814144
theorem mask_all : ∀ n : Fin 256, ((UInt8.ofNat n.val).toUInt64 &&& hiM = 0 → n.val < 128) ∧ ((UInt8.ofNat n.val).toUInt64 <<< UInt64.ofNat 8 &&& hiM = 0 → n.val < 128) ∧ ((UInt8.ofNat n.val).toUInt64 <<< UInt64.ofNat 16 &&& hiM = 0 → n.val < 128) ∧ ((UInt8.ofNat n.val).toUInt64 <<< UInt64.ofNat 24 &&& hiM = 0 → n.val < 128) ∧ ((UInt8.ofNat n.val).toUInt64 <<< UInt64.ofNat 32 &&& hiM = 0 → n.val < 128) ∧ ((UInt8.ofNat n.val).toUInt64 <<< UInt64.ofNat 40 &&& hiM = 0 → n.val < 128) ∧ ((UInt8.ofNat n.val).toUInt64 <<< UInt64.ofNat 48 &&& hiM = 0 → n.val < 128) ∧ ((UInt8.ofNat n.val).toUInt64 <<< UInt64.ofNat 56 &&& hiM = 0 → n.val < 128) := by decide +kernel
theorem word_asc {u : List UInt8} (h8 : 8 ≤ u.length) (h : wordU u &&& hiM = 0) : ∀ b ∈ u.take 8, b.toNat < 128 := by
  match u, h8 with
  | x0 :: x1 :: x2 :: x3 :: x4 :: x5 :: x6 :: x7 :: r, _ =>
    have g : ∀ x : UInt8, _ := fun x => mask_all ⟨x.toNat, x.toNat_lt⟩
    simp only [UInt8.ofNat_toNat] at g
    obtain ⟨h, h7⟩ := or_m (show _ &&& hiM = 0 from h)
    obtain ⟨h, h6⟩ := or_m h
    obtain ⟨h, h5⟩ := or_m h
    obtain ⟨h, h4⟩ := or_m h
    obtain ⟨h, h3⟩ := or_m h
    obtain ⟨h, h2⟩ := or_m h
    obtain ⟨h0, h1⟩ := or_m h
    intro b hb
    have hb : b ∈ [x0, x1, x2, x3, x4, x5, x6, x7] := hb
    simp only [List.mem_cons, List.not_mem_nil, or_false] at hb
    rcases hb with rfl | rfl | rfl | rfl | rfl | rfl | rfl | rfl
    · exact (g _).1 h0
    · exact (g _).2.1 h1
    · exact (g _).2.2.1 h2
    · exact (g _).2.2.2.1 h3
    · exact (g _).2.2.2.2.1 h4
    · exact (g _).2.2.2.2.2.1 h5
    · exact (g _).2.2.2.2.2.2.1 h6
    · exact (g _).2.2.2.2.2.2.2 h7
theorem valid_8 {u : List UInt8} (h8 : 8 ≤ u.length) (h : wordU u &&& hiM = 0) : Lib.validD (u.drop 8) = Lib.validD u := (Lib.validD_ascii 8 u (word_asc h8 h)).symm
theorem valid_16 {u : List UInt8} (h16 : 16 ≤ u.length) (h : (wordU u ||| wordU (u.drop 8)) &&& hiM = 0) : Lib.validD (u.drop 16) = Lib.validD u := by
  obtain ⟨h1, h2⟩ := or_m h
  rw [← valid_8 (by omega) h1, ← valid_8 (u := u.drop 8) (by rw [List.length_drop]; omega) h2, List.drop_drop]
theorem valid_32 {u : List UInt8} (h32 : 32 ≤ u.length) (h : ((wordU u ||| wordU (u.drop 8)) ||| (wordU (u.drop 16) ||| wordU (u.drop 24))) &&& hiM = 0) : Lib.validD (u.drop 32) = Lib.validD u := by
  obtain ⟨h1, h2⟩ := or_m h
  rw [← valid_16 (by omega) h1]
  have e : u.drop 24 = (u.drop 16).drop 8 := by rw [List.drop_drop]
  rw [e] at h2
  rw [← valid_16 (u := u.drop 16) (by rw [List.length_drop]; omega) h2, List.drop_drop]
section
variable {P : Program} {dst : Option Nat} {ty : TypeId} {e : Operand → A} {β : Bx} {T : TypeId} {x : Operand}
theorem does_tail (k : Nat) {t te : TyI} {el : TypeId} {lo : Option Operand} {b : List UInt8} (ht : mkTy P T = some t) (hk : t.kind = .slice el) (hte : mkTy P el = some te) (hsz : te.size = 1) (hx : e x = .d (byD b)) (hl : loIs e k lo) (h2 : k ≤ b.length) :
    Does P dst (.slice T x lo none none) ty e β (.d (byD (b.drop k))) [] [] :=
  does_slice_bl ht hk hte hsz hx hl (show hiIs e b.length b.length none from rfl) h2 (Nat.le_refl _) (by rw [List.take_length])
end
end Go.Proofs.YtclhmdobhlalmaaDoor
