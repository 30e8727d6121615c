/-
  The sum: a stream's data, and what the operations on its parts do. No condition but the lengths.
-/
import Derived.Test.YtfkkamkhjbfjmaaDoorTurn
namespace Go.Proofs.YtfkkamkhjbfjmaaDoor
set_option linter.unusedSimpArgs false
set_option linter.unusedVariables false
open Go.RowKit

structure Stm where
  h : List UInt32
  held : List UInt8
  n : Nat
  len : Nat
def Stm.ds (s : Stm) : List D := s.h.map wD ++ (s.held.map u8D ++ [iD s.n, iD s.len])
structure Stm.ok (s : Stm) : Prop where
  h : s.h.length = 8
  held : s.held.length = 64
  n : s.n ≤ 64
abbrev sA (s : Stm) : List A := s.ds.map A.d
theorem Stm.ds_len {s : Stm} (ok : s.ok) : s.ds.length = 74 := by simp [Stm.ds, ok.h, ok.held]
theorem get_n {s : Stm} (ok : s.ok) : (sA s)[72]? = some (.d (iD s.n)) := by
  simp [sA, Stm.ds, List.getElem?_append, ok.h, ok.held]
theorem get_len {s : Stm} (ok : s.ok) : (sA s)[73]? = some (.d (iD s.len)) := by
  simp [sA, Stm.ds, List.getElem?_append, ok.h, ok.held]
theorem get_held {s : Stm} (ok : s.ok) {i : Nat} (hi : i < 64) : (sA s)[8 + i]? = some (.d (u8D (s.held.getD i 0))) := by
  have h1 : i < s.held.length := by rw [ok.held]; exact hi
  simp only [sA, Stm.ds, List.getElem?_map, List.getElem?_append, List.length_map, ok.h, ok.held]
  rw [if_neg (by omega), if_pos (by omega), show 8 + i - 8 = i by omega, List.getElem?_eq_getElem h1, List.getD_eq_getElem?_getD, List.getElem?_eq_getElem h1]
  rfl
theorem get_h {s : Stm} (ok : s.ok) {i : Nat} (hi : i < 8) : (sA s)[i]? = some (.d (wD (s.h.getD i 0))) := by
  have h1 : i < s.h.length := by rw [ok.h]; exact hi
  simp only [sA, Stm.ds, List.getElem?_map, List.getElem?_append, List.length_map, ok.h, ok.held]
  rw [if_pos (by omega), List.getElem?_eq_getElem h1, List.getD_eq_getElem?_getD, List.getElem?_eq_getElem h1]
  rfl
theorem set_n {s : Stm} (ok : s.ok) (m : Nat) : (sA s).set 72 (.d (iD m)) = sA { s with n := m } := by
  simp [sA, Stm.ds, List.set_append, ok.h, ok.held]
theorem set_len {s : Stm} (ok : s.ok) (m : Nat) : (sA s).set 73 (.d (iD m)) = sA { s with len := m } := by
  simp [sA, Stm.ds, List.set_append, ok.h, ok.held]
theorem set_held {s : Stm} (ok : s.ok) {i : Nat} (hi : i < 64) (c : UInt8) : (sA s).set (8 + i) (.d (u8D c)) = sA { s with held := s.held.set i c } := by
  have h1 : 8 + i - 8 = i := by omega
  simp only [sA, Stm.ds, List.map_append, List.set_append, List.length_map, ok.h, ok.held]
  rw [if_neg (by omega), h1, if_pos hi, List.map_set, List.map_set]
theorem put_h {s : Stm} (ok : s.ok) {l : List UInt32} (hl : l.length = 8) : putAt (sA s) 0 (wA l) = sA { s with h := l } := by
  unfold putAt
  simp only [sA, Stm.ds, List.map_append, List.take_zero, List.nil_append, List.length_map, hl, Nat.zero_add]
  rw [List.drop_append, List.drop_of_length_le (by simp [ok.h])]
  simp [ok.h]
theorem put_held {s : Stm} (ok : s.ok) {l : List UInt8} (hl : l.length = 64) : putAt (sA s) 8 (bA l) = sA { s with held := l } := by
  unfold putAt
  simp only [sA, Stm.ds, List.map_append, List.length_map, hl]
  rw [List.take_append, List.take_of_length_le (by simp [ok.h]), List.drop_append, List.drop_of_length_le (by simp [ok.h])]
  simp only [List.length_map, ok.h, Nat.sub_self, List.take_zero, List.append_nil, List.nil_append, List.append_assoc]
  rw [List.drop_append, List.drop_of_length_le (by simp [ok.held])]
  simp [ok.held]
section
variable {P : Program} {dst : Option Nat} {ty : TypeId} {e : Operand → A} {β : Bx} {T T0 : TypeId} {x y : Operand} {t : TyI} {id off : Nat} {s : Stm}
theorem does_set_n {z : Int} {m : Nat} (ok : s.ok) (ht : mkTy P T = some t) (hs : t.size = 1) (hx : e x = .px id off) (ho : off = 72) (hy : e y = .d (iD z)) (hz : z = m) (hl : look id β = some (.var T0 (sA s))) :
    Does P dst (.store T x y) ty e β .un [(id, .var T0 (sA { s with n := m }))] [id] := by
  subst ho hz
  have h := does_store (P := P) (dst := dst) (ty := ty) ht hs hx hy rfl hl (by simp [Stm.ds_len ok])
  rwa [set_n ok] at h
theorem does_set_len {z : Int} {m : Nat} (ok : s.ok) (ht : mkTy P T = some t) (hs : t.size = 1) (hx : e x = .px id off) (ho : off = 73) (hy : e y = .d (iD z)) (hz : z = m) (hl : look id β = some (.var T0 (sA s))) :
    Does P dst (.store T x y) ty e β .un [(id, .var T0 (sA { s with len := m }))] [id] := by
  subst ho hz
  have h := does_store (P := P) (dst := dst) (ty := ty) ht hs hx hy rfl hl (by simp [Stm.ds_len ok])
  rwa [set_len ok] at h
theorem does_set_held {c : UInt8} {i : Nat} (ok : s.ok) (ht : mkTy P T = some t) (hs : t.size = 1) (hx : e x = .px id off) (ho : off = 8 + i) (hi : i < 64) (hy : e y = .d (u8D c)) (hl : look id β = some (.var T0 (sA s))) :
    Does P dst (.store T x y) ty e β .un [(id, .var T0 (sA { s with held := s.held.set i c }))] [id] := by
  subst ho
  have h := does_store (P := P) (dst := dst) (ty := ty) ht hs hx hy rfl hl (by simp [Stm.ds_len ok]; omega)
  rwa [set_held ok hi] at h
theorem does_put_h {l : List UInt32} (ok : s.ok) (hn : l.length = 8) (ht : mkTy P T = some t) (hs : t.size = 8) (hx : e x = .px id off) (ho : off = 0) (hy : e y = .d (.ag (l.map wD))) (hl : look id β = some (.var T0 (sA s))) :
    Does P dst (.store T x y) ty e β .un [(id, .var T0 (sA { s with h := l }))] [id] := by
  subst ho
  have h := does_store_rowD (P := P) (dst := dst) (ty := ty) ht hx hy (by simp [hn, hs]) hl (by simp [Stm.ds_len ok, hn])
  rwa [put_h ok hn] at h
theorem does_put_held {l : List UInt8} {vs : List D} (hvs : vs = l.map u8D) (ok : s.ok) (hn : l.length = 64) (ht : mkTy P T = some t) (hs : t.size = 64) (hx : e x = .px id off) (ho : off = 8) (hy : e y = .d (.ag vs)) (hl : look id β = some (.var T0 (sA s))) :
    Does P dst (.store T x y) ty e β .un [(id, .var T0 (sA { s with held := l }))] [id] := by
  subst ho hvs
  have h := does_store_rowD (P := P) (dst := dst) (ty := ty) ht hx hy (by simp [hn, hs]) hl (by simp [Stm.ds_len ok, hn])
  rwa [put_held ok hn] at h
theorem does_load_h (ok : s.ok) (ht : mkTy P T = some t) (hr : t.row = true) (hs : t.size = 8) (hx : e x = .px id off) (ho : off = 0) (hl : look id β = some (.var T0 (sA s))) :
    Does P dst (.load T x) ty e β (.d (.ag (s.h.map wD))) [] [id] := by
  subst ho
  refine does_load_d ht hr hx hl ?_ (by simp [hs, Stm.ds_len ok])
  rw [hs]
  simp only [sA, Stm.ds, List.map_append, List.drop_zero]
  rw [List.take_append, List.take_of_length_le (by simp [ok.h])]
  simp [ok.h]
theorem does_load_held (ok : s.ok) (ht : mkTy P T = some t) (hr : t.row = true) (hs : t.size = 64) (hx : e x = .px id off) (ho : off = 8) (hl : look id β = some (.var T0 (sA s))) :
    Does P dst (.load T x) ty e β (.d (.ag (s.held.map u8D))) [] [id] := by
  subst ho
  refine does_load_d ht hr hx hl ?_ (by simp [hs, Stm.ds_len ok])
  rw [hs]
  simp only [sA, Stm.ds, List.map_append]
  rw [List.drop_append, List.drop_of_length_le (by simp [ok.h])]
  simp only [List.length_map, ok.h, Nat.sub_self, List.drop_zero, List.nil_append]
  rw [List.take_append, List.take_of_length_le (by simp [ok.held])]
  simp [ok.held]
theorem does_load_s (ok : s.ok) (ht : mkTy P T = some t) (hr : t.row = true) (hs : t.size = 74) (hx : e x = .px id 0) (hl : look id β = some (.var T0 (sA s))) :
    Does P dst (.load T x) ty e β (.d (.ag s.ds)) [] [id] := does_load_all ht hr hx hl (by rw [Stm.ds_len ok, hs])
theorem does_store_s {cs : List A} (ok : s.ok) (ht : mkTy P T = some t) (hs : t.size = 74) (hx : e x = .px id 0) (hy : e y = .d (.ag s.ds)) (hl : look id β = some (.var T0 cs)) (hc : cs.length = 74) :
    Does P dst (.store T x y) ty e β .un [(id, .var T0 (sA s))] [id] := does_store_all ht hx hy hl (by rw [Stm.ds_len ok, hs]) (by rw [Stm.ds_len ok, hc])
end
end Go.Proofs.YtfkkamkhjbfjmaaDoor
