/-
  cmp.Compare, seek, insert as contracts. No condition but few keys.
-/
import Derived.Test.YtobgjkkadnihjaaZTrOp
import Derived.Test.YtobgjkkadnihjaaZC
import Derived.Test.YtobgjkkadnihjaaZG
import Derived.Test.YtobgjkkadnihjaaZTl
namespace Go.Proofs.Ytobgjkkadnihjaa
set_option linter.unusedSimpArgs false
set_option linter.unusedVariables false
open Go.RowKit

abbrev ltB (x y : ByteArray) : Bool := Op.bytesLess x.toList y.toList
def cmpB (x y : ByteArray) : Int := if ltB x y = true then -1 else if (!(ltB x y || x.toList == y.toList)) = true then 1 else 0
def seekF (key : ByteArray) : List ByteArray → Nat × Bool
  | [] => (0, false)
  | k :: r => if cmpB key k ≤ 0 then (0, decide (cmpB key k = 0)) else ((seekF key r).1 + 1, (seekF key r).2)
def insL {α : Type} (l : List α) (i : Nat) (x : α) : List α := l.take i ++ x :: l.drop i
theorem isNaN_pc (x : ByteArray) : PC Try.prog 35 [strD x] (bD false) := by
  refine pc_of_aw Try.func35 rfl (by kernel_rfl) mixed (by kernel_rfl) (by rw [Try.ntmps35]; exact Nat.le_of_ble_eq_true rfl) Try.results35 ?_
  repeat (first | (with_reducible first | apply aw_seq | apply aw_reg | apply rp_nil | apply ae_norm | apply aw_ret | apply re_ret) | ((with_reducible apply rp); first | ((with_reducible apply does_move); (conv => lhs; whnf)) | ((with_reducible apply does_assign); (conv => lhs; whnf)) | ((with_reducible apply does_sne); exact rfl; exact rfl)))
  (with_reducible apply ret_ok); (focus (repeat' (first | (with_reducible apply rv_nil) | (with_reducible apply rv_cons) | ((with_reducible apply rv_tmp); exact rfl)))); exact rfl; refine SubD.of_eq ?_
  show D.sc (.bool (!(x.toList == x.toList))) = bD false
  rw [beq_self_eq_true]
  rfl
theorem cmp_pc (x y : ByteArray) : PC Try.prog 30 [strD x, strD y] (iD (cmpB x y)) := by
  have n1 := isNaN_pc x
  have n2 := isNaN_pc y
  refine pc_of_aw Try.func30 rfl (by kernel_rfl) mixed (by kernel_rfl) (by rw [Try.ntmps30]; exact Nat.le_of_ble_eq_true rfl) Try.results30 ?_
  repeat (first | (with_reducible first | apply aw_seq | apply aw_reg | apply rp_nil | apply ae_norm | apply aw_skip) | ((with_reducible apply rp); first | ((with_reducible apply does_call_flat); exact rfl; exact rfl; exact (n1); exact rfl) | ((with_reducible apply does_call_flat); exact rfl; exact rfl; exact (n2); exact rfl) | ((with_reducible apply does_move); (conv => lhs; whnf)) | ((with_reducible apply does_assign); (conv => lhs; whnf)) | ((with_reducible apply does_slt); exact rfl; exact rfl)) | ((with_reducible apply aw_cond); exact rfl; (focus (intro hd; (cases hd; done))); (intro hd; clear hd)))
  refine aw_cond rfl (fun h1 => ?_) (fun h1 => ?_)
  · repeat (first | (with_reducible first | apply aw_seq | apply aw_reg | apply rp_nil | apply ae_norm | apply aw_ret | apply ae_ret | apply re_ret) | ((with_reducible apply rp); ((with_reducible apply does_assign); (conv => lhs; whnf))))
    (with_reducible apply ret_ok); (focus (repeat' (first | (with_reducible apply rv_nil) | (with_reducible apply rv_cons) | ((with_reducible apply rv_tmp); exact rfl)))); exact rfl; refine SubD.of_eq ?_
    unfold cmpB
    rw [if_pos h1]
    rfl
  · repeat (first | (with_reducible first | apply aw_seq | apply aw_reg | apply rp_nil | apply ae_norm | apply aw_skip) | ((with_reducible apply rp); first | ((with_reducible apply does_move); (conv => lhs; whnf)) | ((with_reducible apply does_sgt); exact rfl; exact rfl)))
    refine aw_cond rfl (fun h2 => ?_) (fun h2 => ?_)
    · repeat (first | (with_reducible first | apply aw_seq | apply aw_reg | apply rp_nil | apply ae_norm | apply aw_ret | apply ae_ret | apply re_ret) | ((with_reducible apply rp); ((with_reducible apply does_assign); (conv => lhs; whnf))))
      (with_reducible apply ret_ok); (focus (repeat' (first | (with_reducible apply rv_nil) | (with_reducible apply rv_cons) | ((with_reducible apply rv_tmp); exact rfl)))); exact rfl; refine SubD.of_eq ?_
      unfold cmpB
      rw [if_neg (by rw [show ltB x y = false from h1]; decide), if_pos h2]
      rfl
    · repeat (first | (with_reducible first | apply aw_seq | apply aw_reg | apply rp_nil | apply ae_norm | apply aw_ret | apply re_ret | apply aw_skip) | ((with_reducible apply rp); ((with_reducible apply does_assign); (conv => lhs; whnf))))
      (with_reducible apply ret_ok); (focus (repeat' (first | (with_reducible apply rv_nil) | (with_reducible apply rv_cons) | ((with_reducible apply rv_tmp); exact rfl)))); exact rfl; refine SubD.of_eq ?_
      unfold cmpB
      rw [if_neg (by rw [show ltB x y = false from h1]; decide), if_neg (by rw [show (!(ltB x y || x.toList == y.toList)) = false from h2]; decide)]
      rfl
theorem seekF_get {key : ByteArray} : ∀ {l : List ByteArray} {k : Nat} {g : ByteArray}, (∀ j < k, ∀ x, l[j]? = some x → ¬ cmpB key x ≤ 0) → l[k]? = some g → cmpB key g ≤ 0 → seekF key l = (k, decide (cmpB key g = 0))
  | [], k, g, _, h, _ => by simp at h
  | a :: l, 0, g, _, h, h2 => by
    simp only [List.getElem?_cons_zero, Option.some.injEq] at h
    subst h
    unfold seekF
    rw [if_pos h2]
  | a :: l, k + 1, g, h1, h, h2 => by
    have ha := h1 0 (by omega) a rfl
    unfold seekF
    rw [if_neg ha, seekF_get (l := l) (k := k) (fun j hj x hx => h1 (j + 1) (by omega) x (by simpa using hx)) (by simpa using h) h2]
theorem seekF_end {key : ByteArray} : ∀ {l : List ByteArray}, (∀ j < l.length, ∀ x, l[j]? = some x → ¬ cmpB key x ≤ 0) → seekF key l = (l.length, false)
  | [], _ => rfl
  | a :: l, h => by
    unfold seekF
    rw [if_neg (h 0 (by simp) a rfl), seekF_end fun j hj x hx => h (j + 1) (by simpa using hj) x (by simpa using hx)]
    rfl
theorem seek_pc (l : List ByteArray) (key : ByteArray) (hl : l.length ≤ 4611686018427387904) : PC Try.prog 22 [.sl 1 (l.map strE), strD key] (.tu [iD (seekF key l).1, bD (seekF key l).2]) := by
  refine pc_of_aw Try.func22 rfl (by kernel_rfl) mixed (by kernel_rfl) (by rw [Try.ntmps22]; exact Nat.le_of_ble_eq_true rfl) Try.results22 ?_
  repeat (first | (with_reducible first | apply aw_seq | apply aw_reg | apply rp_nil | apply ae_norm | apply aw_block) | ((with_reducible apply rp); first | ((with_reducible apply does_move); (conv => lhs; whnf)) | ((with_reducible apply does_assign); (conv => lhs; whnf)) | ((with_reducible apply does_len_map); exact tyOk rfl; exact rfl; exact rfl)))
  refine aw_loop (fun n s => ∃ k, k ≤ l.length ∧ n = l.length - k ∧ (∀ j < k, ∀ x, l[j]? = some x → ¬ cmpB key x ≤ 0) ∧ s = ⟨[(0, .d (.sl 1 (l.map strE))), (1, .d (strD key)), (4, .d (iD 0)), (5, .d (bD false)), (9, .d (.sl 1 (l.map strE))), (10, .d (iD l.length)), (11, .d (iD k))], []⟩) _ _ ?_ ⟨0, by omega, rfl, fun j hj => absurd hj (Nat.not_lt_zero j), rfl⟩ ?_
  · refine forget_of [] (by repeat' (first | exact ks_nil | (refine ks_cons rfl (by exact SubA.refl _) ?_))) (by repeat' exact trivial) rfl (by repeat' (first | exact trivial | refine And.intro ?_ ?_)) (by repeat' (first | exact trivial | refine And.intro ?_ ?_))
  · rintro n s1 ⟨k, hk, rfl, hpre, rfl⟩
    repeat (first | (with_reducible first | apply aw_seq | apply aw_reg | apply rp_nil | apply ae_norm) | ((with_reducible apply rp); ((with_reducible apply does_lt); exact rfl; exact rfl)))
    refine aw_cond rfl (fun hd => ?_) (fun hd => ?_)
    · have hlt : k < l.length := by simpa using hd
      obtain ⟨g, hg⟩ : ∃ g, l[k]? = some g := ⟨_, List.getElem?_eq_getElem hlt⟩
      have c1 := cmp_pc key g
      generalize hc : cmpB key g = c at c1
      repeat (first | (with_reducible first | apply aw_seq | apply aw_reg | apply rp_nil | apply ae_norm | apply aw_block | apply aw_skip) | ((with_reducible apply rp); first | ((with_reducible apply does_call_flat); exact rfl; exact rfl; exact (c1); exact rfl) | ((with_reducible apply does_move); (conv => lhs; whnf)) | ((with_reducible apply does_assign); (conv => lhs; whnf)) | ((with_reducible apply does_load_elem); exact tyOk rfl; exact rfl; exact rfl; exact map_get (by assumption); exact rfl) | ((with_reducible apply does_index_sl); exact tyOk rfl; exact rfl; exact tyOk rfl; exact rfl; exact rfl; exact rfl; exact rfl; (simp only [List.length_map, List.length_append, List.length_cons, List.length_nil] at *; omega)) | ((with_reducible apply does_le); exact rfl; exact rfl)))
      refine aw_cond rfl (fun he => ?_) (fun he => ?_)
      · have hle : c ≤ 0 := by simpa using he
        repeat (first | (with_reducible first | apply aw_seq | apply aw_reg | apply rp_nil | apply ae_norm | apply aw_ret | apply ae_ret | apply be_ret | apply re_ret) | ((with_reducible apply rp); first | ((with_reducible apply does_move); (conv => lhs; whnf)) | ((with_reducible apply does_assign); (conv => lhs; whnf)) | ((with_reducible apply does_eq); exact rfl; exact rfl)))
        (with_reducible apply ret_ok); (focus (repeat' (first | (with_reducible apply rv_nil) | (with_reducible apply rv_cons) | ((with_reducible apply rv_tmp); exact rfl)))); exact rfl; refine SubD.of_eq ?_
        rw [seekF_get hpre hg (by rw [hc]; exact hle), hc]
        show D.tu [iD k, bD (c == 0)] = D.tu [iD k, bD (decide (c = 0))]
        rw [show (c == 0) = decide (c = 0) from rfl]
      · have hgt : ¬ c ≤ 0 := by simpa using he
        repeat (first | (with_reducible first | apply aw_reg | apply rp_nil | apply ae_norm | apply be_norm | apply aw_skip) | ((with_reducible apply rp); first | ((with_reducible apply does_move); (conv => lhs; whnf)) | ((with_reducible apply does_add); exact rfl; exact rfl; omega; omega)))
        refine ⟨l.length - (k + 1), _, by omega, ?_, k + 1, by omega, rfl, fun j hj x hx => ?_, rfl⟩
        · refine forget_of [] (by repeat' (first | exact ks_nil | (refine ks_cons rfl (by exact SubA.refl _) ?_))) (by repeat' exact trivial) rfl (by repeat' (first | exact trivial | refine And.intro ?_ ?_)) (by repeat' (first | exact trivial | refine And.intro ?_ ?_))
        · rcases Nat.lt_succ_iff_lt_or_eq.1 hj with hj | rfl
          · exact hpre j hj x hx
          · rw [hg] at hx
            injection hx with hx
            subst hx
            rw [hc]
            exact hgt
    · have hkl : k = l.length := by simp at hd; omega
      subst hkl
      repeat (first | (with_reducible first | apply aw_seq | apply aw_reg | apply rp_nil | apply ae_norm | apply aw_exit | apply ae_exit | apply be_exit | apply aw_ret | apply re_ret) | ((with_reducible apply rp); first | ((with_reducible apply does_move); (conv => lhs; whnf)) | ((with_reducible apply does_assign); (conv => lhs; whnf)) | ((with_reducible apply does_len_map); exact tyOk rfl; exact rfl; exact rfl)))
      (with_reducible apply ret_ok); (focus (repeat' (first | (with_reducible apply rv_nil) | (with_reducible apply rv_cons) | ((with_reducible apply rv_tmp); exact rfl)))); exact rfl; refine SubD.of_eq ?_
      rw [seekF_end hpre]
      rfl
theorem insL_map {α β : Type} (f : α → β) (l : List α) (i : Nat) (x : α) : (insL l i x).map f = (l.map f).take i ++ f x :: (l.map f).drop i := by
  unfold insL
  rw [List.map_append, List.map_cons, List.map_take, List.map_drop]
theorem does_slice_e {P : Program} {dst : Option Nat} {ty : TypeId} {e : Operand → A} {β : Bx} {T : TypeId} {x : Operand} {t te : TyI} {el : TypeId} {lo hi : Option Operand} {sz l h : Nat} {es r : List (List D)} (ht : mkTy P T = some t) (hk : t.kind = .slice el) (hte : mkTy P el = some te) (hx : e x = .d (.sl sz es)) (hsz : te.size = sz) (hl : loIs e l lo) (hh : hiIs e h es.length hi) (h1 : l ≤ h) (h2 : h ≤ es.length) (hr : (es.take h).drop l = r) :
    Does P dst (.slice T x lo hi none) ty e β (.d (.sl sz r)) [] [] := hr ▸ does_slice ht hk hte hx hsz hl hh h1 h2
theorem ins_parts {α : Type} (es : List α) (i : Nat) (hi : i ≤ es.length) (hl : es.length ≤ 1000) : ∃ a b, (es.take i).drop 0 = a ∧ (es.take es.length).drop i = b ∧ es.take i = a ∧ es.drop i = b ∧ a.length ≤ 1000 ∧ b.length ≤ 1000 :=
  ⟨_, _, rfl, rfl, rfl, by rw [List.take_length], by rw [List.drop_zero, List.length_take]; omega, by rw [List.take_length, List.length_drop]; omega⟩
theorem insS_pco (l : List ByteArray) (i : Nat) (x : ByteArray) (hi : i ≤ l.length) (hl : l.length ≤ 1000) : PCO Try.prog 32 [.sl 1 (l.map strE), iD i, strD x] 9 1 ((insL l i x).map strE) [] := by
  rw [insL_map]
  generalize hes : l.map strE = es at *
  have hel : i ≤ es.length := by rw [← hes, List.length_map]; exact hi
  obtain ⟨a, b, hA, hB, hT, hD, ha, hb⟩ := ins_parts es i hel (by rw [← hes, List.length_map]; exact hl)
  rw [hT, hD]
  refine pco_of_aw Try.func32 rfl (by kernel_rfl) mixed (by kernel_rfl) (by rw [Try.ntmps32]; exact Nat.le_of_ble_eq_true rfl) Try.results32 ?_
  repeat (first | (with_reducible first | apply aw_seq | apply aw_reg | apply rp_nil | apply ae_norm | apply aw_regD | apply aw_ret | apply oe_ret) | ((with_reducible apply dr_nil); (first | kernel_rfl | exact rfl)) | ((with_reducible first | apply rp | apply dr); first | (exact does_slice_e (tyOk rfl) rfl (tyOk rfl) rfl rfl rfl ⟨_, _, rfl, rfl⟩ (by omega) (by omega) hA) | (exact does_slice_e (tyOk rfl) rfl (tyOk rfl) rfl rfl ⟨_, _, rfl, rfl⟩ rfl (by omega) (by omega) hB) | ((with_reducible apply does_move); (conv => lhs; whnf)) | ((with_reducible apply does_assign); (conv => lhs; whnf))) | ((with_reducible first | apply rp1 | apply dr1); ((with_reducible apply does_buildSlice); exact tyOk rfl; exact rfl; exact tyOk rfl; exact rfl; exact rfl; (focus repeat' (first | exact trivial | refine And.intro rfl (And.intro rfl ?_))); decide; decide; exact rfl)) | ((with_reducible first | apply rp2 | apply dr2); ((with_reducible apply does_append_own); exact tyOk rfl; exact rfl; exact tyOk rfl; exact rfl; exact rfl; exact rfl; decide; (first | (dsimp only; simp only [List.length_map, List.length_append, List.length_cons, List.length_nil] at *; omega) | (simp only [List.length_map, List.length_append, List.length_cons, List.length_nil] at *; omega)); (first | (dsimp only; simp only [List.length_map, List.length_append, List.length_cons, List.length_nil] at *; omega) | (simp only [List.length_map, List.length_append, List.length_cons, List.length_nil] at *; omega)); exact rfl)))
  (with_reducible apply reto_ok); (focus (repeat' (first | (with_reducible apply rv_nil) | (with_reducible apply rv_cons) | ((with_reducible apply rv_tmp); exact rfl)))); exact rfl; exact rfl; exact rfl
  simp [D.cells]
theorem insI_pco (l : List Int) (i : Nat) (x : Int) (hi : i ≤ l.length) (hl : l.length ≤ 1000) : PCO Try.prog 33 [.sl 1 (l.map intE), iD i, iD x] 3 1 ((insL l i x).map intE) [] := by
  rw [insL_map]
  generalize hes : l.map intE = es at *
  have hel : i ≤ es.length := by rw [← hes, List.length_map]; exact hi
  obtain ⟨a, b, hA, hB, hT, hD, ha, hb⟩ := ins_parts es i hel (by rw [← hes, List.length_map]; exact hl)
  rw [hT, hD]
  refine pco_of_aw Try.func33 rfl (by kernel_rfl) mixed (by kernel_rfl) (by rw [Try.ntmps33]; exact Nat.le_of_ble_eq_true rfl) Try.results33 ?_
  repeat (first | (with_reducible first | apply aw_seq | apply aw_reg | apply rp_nil | apply ae_norm | apply aw_regD | apply aw_ret | apply oe_ret) | ((with_reducible apply dr_nil); (first | kernel_rfl | exact rfl)) | ((with_reducible first | apply rp | apply dr); first | (exact does_slice_e (tyOk rfl) rfl (tyOk rfl) rfl rfl rfl ⟨_, _, rfl, rfl⟩ (by omega) (by omega) hA) | (exact does_slice_e (tyOk rfl) rfl (tyOk rfl) rfl rfl ⟨_, _, rfl, rfl⟩ rfl (by omega) (by omega) hB) | ((with_reducible apply does_move); (conv => lhs; whnf)) | ((with_reducible apply does_assign); (conv => lhs; whnf))) | ((with_reducible first | apply rp1 | apply dr1); ((with_reducible apply does_buildSlice); exact tyOk rfl; exact rfl; exact tyOk rfl; exact rfl; exact rfl; (focus repeat' (first | exact trivial | refine And.intro rfl (And.intro rfl ?_))); decide; decide; exact rfl)) | ((with_reducible first | apply rp2 | apply dr2); ((with_reducible apply does_append_own); exact tyOk rfl; exact rfl; exact tyOk rfl; exact rfl; exact rfl; exact rfl; decide; (first | (dsimp only; simp only [List.length_map, List.length_append, List.length_cons, List.length_nil] at *; omega) | (simp only [List.length_map, List.length_append, List.length_cons, List.length_nil] at *; omega)); (first | (dsimp only; simp only [List.length_map, List.length_append, List.length_cons, List.length_nil] at *; omega) | (simp only [List.length_map, List.length_append, List.length_cons, List.length_nil] at *; omega)); exact rfl)))
  (with_reducible apply reto_ok); (focus (repeat' (first | (with_reducible apply rv_nil) | (with_reducible apply rv_cons) | ((with_reducible apply rv_tmp); exact rfl)))); exact rfl; exact rfl; exact rfl
  simp [D.cells]
end Go.Proofs.Ytobgjkkadnihjaa

