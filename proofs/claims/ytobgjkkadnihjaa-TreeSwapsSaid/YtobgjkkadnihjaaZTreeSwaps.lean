/-
  TreeSwaps answers true. No condition.
-/
import Derived.Test.YtobgjkkadnihjaaZTreeMap
namespace Go.Proofs.Ytobgjkkadnihjaa
set_option linter.unusedSimpArgs false
set_option linter.unusedVariables false
open Go.RowKit

theorem lt_byS (x y : List UInt8) : ltB (byS x) (byS y) = Op.bytesLess x y := by
  show Op.bytesLess (byS x).toList (byS y).toList = _
  rw [ByteArray.toList_eq, ByteArray.toList_eq]
theorem two_lt {u v : Nat} (hu : u < 5) {c : UInt8} (hc : 102 < c.toNat) : ltB (two 97 97 u v) (byS [c]) = true := by
  rw [two, lt_byS]
  have h1 : (chrB 97 u) < c := by rw [UInt8.lt_iff_toNat_lt, chr_nat (by omega)]; omega
  simp [Op.bytesLess, h1]
theorem le_one (c : UInt8) (h : c < 122) : (leB ByteArray.empty (byS [c]) && leB (byS [c]) ⟨#[122, 122]⟩) = true := by
  have e1 : (ByteArray.empty : ByteArray) = byS [] := rfl
  have e2 : (⟨#[122, 122]⟩ : ByteArray) = byS [122, 122] := rfl
  rw [e1, e2, le_list, le_list]
  simp [Op.bytesLess, h]
def cx : ByteArray := byS [120]
def cy : ByteArray := byS [121]
theorem lt_xy : ltB cx cy = true := by
  rw [cx, cy, lt_byS]
  decide
theorem treeSwaps_pc (l : List Raw) (v w : Int) (hl : l.length ≤ 4611686018427387904) : PC Try.prog 7 [.sl 4 (l.map Raw.cs), iD v, iD w] (bD true) := by
  have g1 := grown_pc l 40 hl (by decide)
  have hG := gok_take l 40 (by decide)
  have hf := hG.few
  generalize grownO (l.take 40) = o at *
  have hx : ∀ p ∈ itemsO o, ltB p.1 cx = true := fun p hp => by
    obtain ⟨u, z, hu, hz, he⟩ := hG.keys p hp
    rw [he]; exact two_lt hu (by decide)
  have hy : ∀ p ∈ itemsO o, ltB p.1 cy = true := fun p hp => lt_trans (hx p hp) lt_xy
  have ea := growO_items cx v o hG.good.sh hG.good.asc
  rw [putL_end hx] at ea
  have ec := growO_items cy w o hG.good.sh hG.good.asc
  rw [putL_end hy] at ec
  have gA := good_put hG.good (key := cx) v (by decide) (.inr (by omega))
  have gC := good_put hG.good (key := cy) w (by decide) (.inr (by omega))
  have pA := put_good hG.good (key := cx) v (by decide) (.inr (by omega))
  have pC := put_good hG.good (key := cy) w (by decide) (.inr (by omega))
  have la : (itemsO (growO cx v o)).length ≤ 41 := by rw [ea, List.length_append, List.length_singleton]; omega
  have lc : (itemsO (growO cy w o)).length ≤ 41 := by rw [ec, List.length_append, List.length_singleton]; omega
  have gB := good_put gA (key := cy) w (by decide) (.inr (by omega))
  have gD := good_put gC (key := cx) v (by decide) (.inr (by omega))
  have pB := put_good gA (key := cy) w (by decide) (.inr (by omega))
  have pD := put_good gC (key := cx) v (by decide) (.inr (by omega))
  have hya : ∀ p ∈ itemsO (growO cx v o), ltB p.1 cy = true := fun p hp => by
    rw [ea] at hp
    rcases List.mem_append.1 hp with hp | hp
    · exact hy p hp
    · rw [List.mem_singleton.1 hp]; exact lt_xy
  have eb := growO_items cy w _ gA.sh gA.asc
  rw [putL_end hya, ea] at eb
  have ed := growO_items cx v _ gC.sh gC.asc
  rw [ec, putL_after hx, putL, cmp_of_lt lt_xy, if_pos (by decide)] at ed
  have hlk : lookL cx (itemsO (growO cx v o)) = some v := by
    rw [ea, lookL_after fun p hp => lt_ne (hx p hp), lookL, cmp_self, if_pos rfl]
  have cA := cut_good gA hlk
  have gX := good_cut gA cx
  have ex := (cutO_items gA cx).2
  have hcut : cutL cx (itemsO (growO cx v o)) = itemsO o := by
    rw [ea]
    unfold cutL
    rw [List.filter_append, List.filter_cons, if_neg (by simp), List.filter_nil, List.append_nil, List.filter_eq_self]
    intro p hp
    have : (p.1.toList == cx.toList) = false := by rw [beq_eq_false_iff_ne]; exact fun e => lt_ne (hx p hp) (key_eq e)
    rw [this]; rfl
  rw [hcut] at ex
  have hspan : spanL ByteArray.empty ⟨#[122, 122]⟩ (itemsO o) = itemsO o := span_all hG
  have hs2 : spanL ByteArray.empty ⟨#[122, 122]⟩ (itemsO o ++ [(cx, v), (cy, w)]) = itemsO o ++ [(cx, v), (cy, w)] := by
    have q1 : (leB ByteArray.empty (cx, v).1 && leB (cx, v).1 ⟨#[122, 122]⟩) = true := le_one 120 (by decide)
    have q2 : (leB ByteArray.empty (cy, w).1 && leB (cy, w).1 ⟨#[122, 122]⟩) = true := le_one 121 (by decide)
    unfold spanL at hspan ⊢
    rw [List.filter_append, hspan, List.filter_cons, if_pos q1, List.filter_cons, if_pos q2, List.filter_nil]
  have lB := list_good gB ByteArray.empty ⟨#[122, 122]⟩
  have lD := list_good gD ByteArray.empty ⟨#[122, 122]⟩
  have lX := list_good gX ByteArray.empty ⟨#[122, 122]⟩
  have eb : itemsO (growO cy w (growO cx v o)) = itemsO o ++ [(cx, v), (cy, w)] := by rw [eb, List.append_assoc]; rfl
  rw [eb, hs2] at lB
  rw [ed, hs2] at lD
  rw [ex, hspan] at lX
  have s1 := samePairs_pc (itemsO o ++ [(cx, v), (cy, w)]) (by rw [List.length_append]; show _ + 2 ≤ _; omega)
  have s2 := samePairs_pc (itemsO o) (by omega)
  have hlen : ((((itemsO o ++ [(cx, v), (cy, w)]).map pairE).length : Int) == (((itemsO o).map pairE).length : Int) + 2) = true := by
    rw [List.length_map, List.length_map, List.length_append]
    show (((itemsO o).length + 2 : Nat) : Int) == ((itemsO o).length : Int) + 2
    simp
  have hml : ((itemsO o).map pairE).length ≤ 40 := by rw [List.length_map]; exact hf
  have pA : PC _ _ [.ag [nodesD (nodesO o)], strD ⟨#[120]⟩, iD v] (.tu [.ag [nodesD (nodesO (growO cx v o))], iD 0]) := pA
  have pC : PC _ _ [.ag [nodesD (nodesO o)], strD ⟨#[121]⟩, iD w] (.tu [.ag [nodesD (nodesO (growO cy w o))], iD 0]) := pC
  have pB : PC _ _ [.ag [nodesD (nodesO (growO cx v o))], strD ⟨#[121]⟩, iD w] (.tu [.ag [nodesD (nodesO (growO cy w (growO cx v o)))], iD 0]) := pB
  have pD : PC _ _ [.ag [nodesD (nodesO (growO cy w o))], strD ⟨#[120]⟩, iD v] (.tu [.ag [nodesD (nodesO (growO cx v (growO cy w o)))], iD 0]) := pD
  have cA : PC _ _ [.ag [nodesD (nodesO (growO cx v o))], strD ⟨#[120]⟩] (.tu [.ag [nodesD (nodesO (cutO cx (growO cx v o)))], iD 0]) := cA
  unfold treeO treeD pairsD at *
  generalize nodesD (nodesO (cutO cx (growO cx v o))) = dX at *
  generalize nodesD (nodesO (growO cy w (growO cx v o))) = dB at *
  generalize nodesD (nodesO (growO cx v (growO cy w o))) = dD at *
  generalize nodesD (nodesO (growO cx v o)) = dA at *
  generalize nodesD (nodesO (growO cy w o)) = dC at *
  generalize nodesD (nodesO o) = dO at *
  generalize (itemsO o ++ [(cx, v), (cy, w)]).map pairE = e2 at *
  generalize (itemsO o).map pairE = e1 at *
  generalize l.map Raw.cs = rc at *
  clear hG hf hx hy ea ec gA gC la lc gB gD hya eb ed hlk gX ex hcut hspan hs2
  refine pc_of_aw Try.func7 rfl (by kernel_rfl) mixed (by kernel_rfl) (by rw [Try.ntmps7]; exact Nat.le_of_ble_eq_true rfl) Try.results7 ?_
  repeat (with_reducible apply aw_seq)
  repeat (first | (with_reducible first | apply aw_seq | apply aw_reg | apply rp_nil | apply ae_norm | apply aw_ret | apply re_ret) | ((first | (with_reducible apply rp) | ((with_reducible apply rpG); exact rfl; exact gval_t rfl; (focus repeat' (first | exact trivial | exact fun h => h | refine And.intro ?_ ?_)); intro hgd; have hgd0 := hgd; (try simp only [decide_eq_true_eq, Bool.and_eq_true, Bool.not_eq_true', beq_iff_eq] at hgd))); first | ((with_reducible apply does_call'); exact rfl; exact rfl; exact rfl; exact (g1)) | ((with_reducible apply does_call'); exact rfl; exact rfl; exact rfl; exact (pA)) | ((with_reducible apply does_call'); exact rfl; exact rfl; exact rfl; exact (pB)) | ((with_reducible apply does_call'); exact rfl; exact rfl; exact rfl; exact (pC)) | ((with_reducible apply does_call'); exact rfl; exact rfl; exact rfl; exact (pD)) | ((with_reducible apply does_call'); exact rfl; exact rfl; exact rfl; exact (lB)) | ((with_reducible apply does_call'); exact rfl; exact rfl; exact rfl; exact (lD)) | ((with_reducible apply does_call'); exact rfl; exact rfl; exact rfl; exact (lX)) | ((with_reducible apply does_call'); exact rfl; exact rfl; exact rfl; exact (cA)) | ((with_reducible apply does_call_flat); exact rfl; exact rfl; exact (s1); exact rfl) | ((with_reducible apply does_call_flat); exact rfl; exact rfl; exact (s2); exact rfl) | ((with_reducible apply does_move); (conv => lhs; whnf)) | ((with_reducible apply does_assign); (conv => lhs; whnf)) | ((with_reducible apply does_and); exact rfl; exact rfl; exact rfl; exact fun h => h) | ((with_reducible apply does_load_row); exact tyOk rfl; exact rfl; exact rfl; exact rfl; exact Nat.le_of_ble_eq_true rfl; exact rfl) | ((with_reducible apply does_eq); exact rfl; exact rfl) | ((with_reducible apply does_add); exact rfl; exact rfl; omega; omega) | ((with_reducible apply does_extract); exact rfl; exact rfl) | ((with_reducible apply does_len_sl); exact tyOk rfl; exact rfl; exact rfl)) | ((with_reducible apply rp1); ((with_reducible apply does_alloc); exact tyOk rfl; exact rfl)) | ((with_reducible apply rpN); ((with_reducible apply does_store_whole); exact tyOk rfl; exact rfl; exact rfl; exact rfl; exact rfl; exact rfl)))
  (with_reducible apply ret_ok); (focus (repeat' (first | (with_reducible apply rv_nil) | (with_reducible apply rv_cons) | ((with_reducible apply rv_tmp); exact rfl)))); exact rfl; refine SubD.of_eq ?_
  rw [hlen]
  rfl
theorem treeSwaps_walk (A0 : Option Addr) (l0 : List Raw) (c0 : Nat) (a b : Int) (w : World) (r0 : RdR w w.heap.size A0 l0) (k0 : l0.length ≤ c0) (m0 : c0 * 40 ≤ 140737488351232) (hok : ∀ r ∈ l0, r.ok) (_w1 : I64 a) (_w2 : I64 b) :
    Calls Try.prog 7 #[.slice A0 l0.length c0, .int .i64 a, .int .i64 b] w fun e w' => e = .returned (.bool true) ∧ Below w.heap.size w w' :=
  calls_of_pc (treeSwaps_pc l0 a b (by omega)) (rep_cons (rep_raws r0 k0) (rep_cons (rep_int w a) (rep_cons (rep_int w b) rfl)))
end Go.Proofs.Ytobgjkkadnihjaa

