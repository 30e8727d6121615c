/-
  A tree as laid nodes: plain laws. No condition but the shape.
-/
import Derived.Test.YtfplkakfakdfhaaDoorZM14
import Derived.Test.YtfplkakfakdfhaaDoorZM12
namespace Go.Proofs.YtfplkakfakdfhaaDoor
set_option linter.unusedSimpArgs false
set_option linter.unusedVariables false

mutual
theorem lies_lay : ∀ (t : Tn) (pre post : List Nd), Lies (pre ++ (layN pre.length t ++ post)) pre.length t
  | .node ks vs ts, pre, post => by
    rw [layN]
    refine ⟨(layF (pre.length + 1) ts).1, by simp, ?_⟩
    have := liesF_lay ts (pre ++ [⟨ks, vs, (layF (pre.length + 1) ts).1⟩]) post
    rw [List.length_append, List.length_singleton] at this
    rw [List.append_assoc, List.singleton_append] at this
    exact this
theorem liesF_lay : ∀ (ts : List Tn) (pre post : List Nd), LiesF (pre ++ ((layF pre.length ts).2 ++ post)) (layF pre.length ts).1 ts
  | [], pre, post => by rw [layF]; rfl
  | t :: ts, pre, post => by
    rw [layF]
    refine ⟨pre.length, _, rfl, ?_, ?_⟩
    · have := lies_lay t pre ((layF (pre.length + (layN pre.length t).length) ts).2 ++ post)
      rw [List.append_assoc]
      exact this
    · have := liesF_lay ts (pre ++ layN pre.length t) post
      rw [List.length_append] at this
      rw [List.append_assoc]
      rw [List.append_assoc] at this
      exact this
end
mutual
def depN (d : Nat) : Tn → List Nat
  | .node _ _ ts => d :: depF (d + 1) ts
def depF (d : Nat) : List Tn → List Nat
  | [] => []
  | t :: ts => depN d t ++ depF d ts
end
mutual
theorem depN_len : ∀ (t : Tn) (a d : Nat), (depN d t).length = (layN a t).length
  | .node ks vs ts, a, d => by rw [depN, layN, List.length_cons, List.length_cons, depF_len ts (a + 1) (d + 1)]
theorem depF_len : ∀ (ts : List Tn) (a d : Nat), (depF d ts).length = (layF a ts).2.length
  | [], a, d => by rw [depF, layF]; rfl
  | t :: ts, a, d => by rw [depF, layF, List.length_append, List.length_append, depN_len t a d, depF_len ts (a + (layN a t).length) d]
end
theorem getD_left {l1 l2 : List Nat} {i : Nat} (h : i < l1.length) : (l1 ++ l2).getD i 0 = l1.getD i 0 := by
  rw [List.getD_eq_getElem?_getD, List.getD_eq_getElem?_getD, List.getElem?_append_left h]
theorem getD_right {l1 l2 : List Nat} {i : Nat} (h : l1.length ≤ i) : (l1 ++ l2).getD i 0 = l2.getD (i - l1.length) 0 := by
  rw [List.getD_eq_getElem?_getD, List.getD_eq_getElem?_getD, List.getElem?_append_right h]
theorem getD_succ {x : Nat} {l : List Nat} {i : Nat} : (x :: l).getD (i + 1) 0 = l.getD i 0 := by
  rw [List.getD_eq_getElem?_getD, List.getD_eq_getElem?_getD, List.getElem?_cons_succ]
mutual
theorem kid_lay : ∀ (t : Tn) (a d i : Nat) (n : Nd), (layN a t)[i]? = some n → ∀ k ∈ n.kids, a + i < k ∧ k < a + (layN a t).length ∧ (depN d t).getD (k - a) 0 = (depN d t).getD i 0 + 1
  | .node ks vs ts, a, d, i, n, hi, k, hk => by
    rw [layN] at hi ⊢
    rw [depN]
    obtain ⟨f1, f2⟩ := kidF_lay ts (a + 1) (d + 1)
    cases i with
    | zero =>
      simp only [List.getElem?_cons_zero, Option.some.injEq] at hi
      subst hi
      obtain ⟨z1, z2, z3⟩ := f1 k hk
      refine ⟨by omega, by rw [List.length_cons]; omega, ?_⟩
      rw [show k - a = (k - (a + 1)) + 1 by omega, getD_succ, z3]
      rfl
    | succ i =>
      rw [List.getElem?_cons_succ] at hi
      obtain ⟨z1, z2, z3⟩ := f2 i n hi k hk
      refine ⟨by omega, by rw [List.length_cons]; omega, ?_⟩
      rw [show k - a = (k - (a + 1)) + 1 by omega, getD_succ, getD_succ, z3]
theorem kidF_lay : ∀ (ts : List Tn) (a d : Nat), (∀ k ∈ (layF a ts).1, a ≤ k ∧ k < a + (layF a ts).2.length ∧ (depF d ts).getD (k - a) 0 = d) ∧
    ∀ (i : Nat) (n : Nd), (layF a ts).2[i]? = some n → ∀ k ∈ n.kids, a + i < k ∧ k < a + (layF a ts).2.length ∧ (depF d ts).getD (k - a) 0 = (depF d ts).getD i 0 + 1
  | [], a, d => by rw [layF]; exact ⟨fun k hk => (by cases hk), fun i n hi => (by simp at hi)⟩
  | t :: ts, a, d => by
    obtain ⟨f1, f2⟩ := kidF_lay ts (a + (layN a t).length) d
    have ft := kid_lay t a d
    have hl := depN_len t a d
    have h0 : 0 < (layN a t).length := by cases t; rw [layN]; simp
    have hd0 : (depN d t).getD 0 0 = d := by cases t; rw [depN]; rfl
    rw [layF, depF]
    dsimp only
    rw [List.length_append]
    refine ⟨fun k hk => ?_, fun i n hi k hk => ?_⟩
    · rcases List.mem_cons.1 hk with rfl | hk
      · refine ⟨Nat.le_refl _, by omega, ?_⟩
        rw [Nat.sub_self, getD_left (by omega), hd0]
      · obtain ⟨z1, z2, z3⟩ := f1 k hk
        refine ⟨by omega, by omega, ?_⟩
        rw [getD_right (by omega), hl, show k - a - (layN a t).length = k - (a + (layN a t).length) by omega, z3]
    · by_cases h : i < (layN a t).length
      · rw [List.getElem?_append_left h] at hi
        obtain ⟨z1, z2, z3⟩ := ft i n hi k hk
        refine ⟨z1, by omega, ?_⟩
        rw [getD_left (by omega), getD_left (by omega), z3]
      · rw [List.getElem?_append_right (by omega)] at hi
        obtain ⟨z1, z2, z3⟩ := f2 _ n hi k hk
        refine ⟨by omega, by omega, ?_⟩
        rw [getD_right (by omega), getD_right (by omega), hl, show k - a - (layN a t).length = k - (a + (layN a t).length) by omega, z3]
end
theorem lay_pos (t : Tn) (a : Nat) : 1 ≤ (layN a t).length := by cases t; rw [layN]; simp
mutual
theorem once_lay : ∀ (t : Tn) (a : Nat), ((layN a t).flatMap (·.kids)).Perm (List.range' (a + 1) ((layN a t).length - 1))
  | .node ks vs ts, a => by
    rw [layN, List.flatMap_cons, List.length_cons, Nat.add_sub_cancel]
    exact onceF_lay ts (a + 1)
theorem onceF_lay : ∀ (ts : List Tn) (a : Nat), ((layF a ts).1 ++ (layF a ts).2.flatMap (·.kids)).Perm (List.range' a (layF a ts).2.length)
  | [], a => by rw [layF]; exact List.Perm.refl _
  | t :: ts, a => by
    have h1 := once_lay t a
    have h2 := onceF_lay ts (a + (layN a t).length)
    have h0 := lay_pos t a
    rw [layF]
    dsimp only
    generalize (layF (a + (layN a t).length) ts).1 = K at *
    generalize (layF (a + (layN a t).length) ts).2 = F at *
    rw [List.flatMap_append, List.length_append, List.cons_append]
    generalize (layN a t).flatMap (·.kids) = L1 at *
    generalize F.flatMap (·.kids) = L2 at *
    generalize (layN a t).length = n at *
    have e1 : List.range' a (n + F.length) = a :: (List.range' (a + 1) (n - 1) ++ List.range' (a + n) F.length) := by
      obtain ⟨m, rfl⟩ : ∃ m, n = m + 1 := ⟨n - 1, by omega⟩
      rw [Nat.add_sub_cancel, show m + 1 + F.length = (m + F.length) + 1 by omega, List.range'_succ]
      rw [← List.range'_append_1, show a + (m + 1) = a + 1 + m by omega]
    rw [e1]
    refine List.Perm.cons _ ?_
    have e2 : (K ++ (L1 ++ L2)).Perm (L1 ++ (K ++ L2)) := by
      rw [← List.append_assoc, ← List.append_assoc]
      exact List.Perm.append_right _ List.perm_append_comm
    exact e2.trans (List.Perm.append h1 h2)
end
theorem layF_len1 : ∀ (ts : List Tn) (a : Nat), (layF a ts).1.length = ts.length
  | [], a => by rw [layF]; rfl
  | t :: ts, a => by rw [layF]; simp [layF_len1 ts]
theorem mem_layF : ∀ {ts : List Tn} {a : Nat} {n : Nd}, n ∈ (layF a ts).2 → ∃ t ∈ ts, ∃ b, n ∈ layN b t
  | [], a, n, h => by rw [layF] at h; cases h
  | t :: ts, a, n, h => by
    rw [layF] at h
    rcases List.mem_append.1 h with h | h
    · exact ⟨t, by simp, a, h⟩
    · obtain ⟨t', h1, b, h2⟩ := mem_layF h
      exact ⟨t', by simp [h1], b, h2⟩
theorem shape_lay : ∀ (h : Nat) (t : Tn), Sh h t → ∀ (a : Nat), ∀ n ∈ layN a t, 1 ≤ n.ks.length ∧ n.ks.length ≤ 3 ∧ n.vs.length = n.ks.length ∧ (n.kids.length = 0 ∨ n.kids.length = n.ks.length + 1)
  | 0, .node ks vs ts, hs, a, n, hn => by
    obtain ⟨h1, h2, h3, rfl⟩ := hs
    rw [layN] at hn
    rcases List.mem_cons.1 hn with rfl | hn
    · exact ⟨h2, h3, h1, .inl (by rw [layF_len1]; rfl)⟩
    · rw [layF] at hn; cases hn
  | h + 1, .node ks vs ts, hs, a, n, hn => by
    obtain ⟨h1, h2, h3, h4, h5⟩ := hs
    rw [layN] at hn
    rcases List.mem_cons.1 hn with rfl | hn
    · exact ⟨h2, h3, h1, .inr (by rw [layF_len1]; exact h4)⟩
    · obtain ⟨t, ht, b, hb⟩ := mem_layF hn
      exact shape_lay h t (h5 t ht) b n hb
theorem lfF {h : Nat} (ih : ∀ t : Tn, Sh h t → ∀ (a d i : Nat) (n : Nd), (layN a t)[i]? = some n → n.kids = [] → (depN d t).getD i 0 = d + h) :
    ∀ (ts : List Tn), (∀ t ∈ ts, Sh h t) → ∀ (a d i : Nat) (n : Nd), (layF a ts).2[i]? = some n → n.kids = [] → (depF d ts).getD i 0 = d + h
  | [], _, a, d, i, n, hi, _ => by rw [layF] at hi; simp at hi
  | t :: ts, hs, a, d, i, n, hi, hk => by
    rw [layF] at hi
    rw [depF]
    dsimp only at hi
    have hl := depN_len t a d
    by_cases h : i < (layN a t).length
    · rw [List.getElem?_append_left h] at hi
      rw [getD_left (by omega)]
      exact ih t (hs t (by simp)) a d i n hi hk
    · rw [List.getElem?_append_right (by omega)] at hi
      rw [getD_right (by omega), hl]
      exact lfF ih ts (fun t ht => hs t (by simp [ht])) _ d _ n hi hk
theorem leaf_lay : ∀ (h : Nat) (t : Tn), Sh h t → ∀ (a d i : Nat) (n : Nd), (layN a t)[i]? = some n → n.kids = [] → (depN d t).getD i 0 = d + h
  | 0, .node ks vs ts, hs, a, d, i, n, hi, hk => by
    obtain ⟨h1, h2, h3, rfl⟩ := hs
    rw [layN, layF] at hi
    rw [depN, depF]
    cases i with
    | zero => rfl
    | succ i => simp at hi
  | h + 1, .node ks vs ts, hs, a, d, i, n, hi, hk => by
    obtain ⟨h1, h2, h3, h4, h5⟩ := hs
    rw [layN] at hi
    rw [depN]
    cases i with
    | zero =>
      simp only [List.getElem?_cons_zero, Option.some.injEq] at hi
      subst hi
      have := layF_len1 ts (a + 1)
      have hk : (layF (a + 1) ts).1 = [] := hk
      rw [hk] at this
      simp at this
      omega
    | succ i =>
      rw [List.getElem?_cons_succ] at hi
      rw [getD_succ, lfF (leaf_lay h) ts h5 (a + 1) (d + 1) i n hi hk]
      omega
theorem deepF {h : Nat} (ih : ∀ t : Tn, Sh h t → ∀ (d j : Nat), (depN d t).getD j 0 ≤ d + h) : ∀ (ts : List Tn), (∀ t ∈ ts, Sh h t) → ∀ (d j : Nat), (depF d ts).getD j 0 ≤ d + h
  | [], _, d, j => by rw [depF]; simp
  | t :: ts, hs, d, j => by
    rw [depF]
    by_cases h : j < (depN d t).length
    · rw [getD_left h]; exact ih t (hs t (by simp)) d j
    · rw [getD_right (by omega)]; exact deepF ih ts (fun t ht => hs t (by simp [ht])) d _
theorem deep_lay : ∀ (h : Nat) (t : Tn), Sh h t → ∀ (d j : Nat), (depN d t).getD j 0 ≤ d + h
  | 0, .node ks vs ts, hs, d, j => by
    obtain ⟨h1, h2, h3, rfl⟩ := hs
    rw [depN, depF]
    cases j with
    | zero => exact Nat.le_refl _
    | succ j => rw [getD_succ]; simp
  | h + 1, .node ks vs ts, hs, d, j => by
    obtain ⟨h1, h2, h3, h4, h5⟩ := hs
    rw [depN]
    cases j with
    | zero => show d ≤ _; omega
    | succ j =>
      rw [getD_succ]
      have := deepF (deep_lay h) ts h5 (d + 1) j
      omega
theorem high_lay : ∀ (h : Nat) (t : Tn), Sh h t → ∀ a : Nat, h < (layN a t).length
  | 0, t, _, a => lay_pos t a
  | h + 1, .node ks vs ts, hs, a => by
    obtain ⟨h1, h2, h3, h4, h5⟩ := hs
    rw [layN, List.length_cons]
    cases ts with
    | nil => simp at h4
    | cons t ts =>
      have := high_lay h t (h5 t (by simp)) (a + 1)
      rw [layF]
      dsimp only
      rw [List.length_append]
      omega
end Go.Proofs.YtfplkakfakdfhaaDoor


/-
  The closures that 'each' is called with. No condition but the shape.
-/
namespace Go.Proofs.YtfplkakfakdfhaaDoor
set_option linter.unusedSimpArgs false
set_option linter.unusedVariables false
open Go.RowKit

theorem count_px (k : ByteArray) (v n : Int) (h0 : 0 ≤ n) (h1 : n ≤ 1000000) : PX Tryd.prog 27 [.d (strD k), .d (iD v), .px 1001 0] [(1001, .var 3 [.d (iD n)])] [] (.tu []) [(1001, .var 3 [.d (iD (n + 1))])] [] := by
  refine px_of_aw Tryd.func27 rfl (by kernel_rfl) mixed (by kernel_rfl) (by rw [Tryd.ntmps27]; exact Nat.le_of_ble_eq_true rfl) Tryd.results27 rfl ?_
  repeat (first | (with_reducible first | apply aw_reg | apply rp_nil | apply xe_norm) | ((with_reducible apply rp); first | ((with_reducible apply does_load_var); exact tyOk rfl; exact rfl; exact rfl; exact rfl; exact rfl) | ((with_reducible apply does_add); exact rfl; exact rfl; omega; omega)) | ((with_reducible apply rpN); ((with_reducible apply does_store); exact tyOk rfl; exact rfl; exact rfl; (conv => lhs; whnf); exact rfl; exact rfl; exact Nat.le_of_ble_eq_true rfl)))
  (with_reducible apply retx_ok (l := [])); (focus (repeat' (with_reducible apply rv_nil))); exact rfl; exact SubD.refl _; refine ⟨(by repeat' (first | exact ks_nil | (refine ks_cons rfl (by exact SubA.refl _) ?_))), (by repeat' (first | exact trivial | exact rfl | refine And.intro ?_ ?_)), rfl, (by repeat' (first | exact trivial | exact inB_px rfl | refine And.intro ?_ ?_)), (by repeat' (first | exact trivial | exact inB_px rfl | refine And.intro ?_ ?_))⟩
def rise (s : Bool × Bool × ByteArray) (k : ByteArray) : Bool × Bool × ByteArray := (s.1 && (s.2.1 || ltB s.2.2 k), false, k)
theorem rise_px (k : ByteArray) (v : Int) (ok first : Bool) (last : ByteArray) : PX Tryd.prog 32 [.d (strD k), .d (iD v), .px 1001 0, .px 1002 0, .px 1003 0] [(1001, .var 4 [.d (bD ok)]), (1002, .var 4 [.d (bD first)]), (1003, .var 9 [.d (strD last)])] [] (.tu [])
    [(1001, .var 4 [.d (bD (ok && (first || ltB last k)))]), (1002, .var 4 [.d (bD false)]), (1003, .var 9 [.d (strD k)])] [] := by
  refine px_of_aw Tryd.func32 rfl (by kernel_rfl) mixed (by kernel_rfl) (by rw [Tryd.ntmps32]; exact Nat.le_of_ble_eq_true rfl) Tryd.results32 rfl ?_
  rcases ok with _ | _
  · repeat (first | (with_reducible first | apply aw_seq | apply aw_reg | apply rp_nil | apply ae_norm | apply xe_norm) | ((first | (with_reducible apply rp) | ((with_reducible apply rpG); exact rfl; (first | exact gval_t rfl | exact gval_gf rfl); (focus repeat' (first | exact trivial | exact fun h => h | refine And.intro ?_ ?_)); intro hgd; have hgd0 := hgd; (try simp only [decide_eq_true_eq, Bool.and_eq_true, Bool.not_eq_true', beq_iff_eq] at hgd))); first | ((with_reducible apply does_move); (conv => lhs; whnf)) | ((with_reducible apply does_and); exact rfl; exact rfl; exact rfl; (first | exact trivial | exact fun h => h)) | ((with_reducible apply does_or); exact rfl; exact rfl; exact rfl; (first | exact trivial | exact fun h => h)) | ((with_reducible apply does_load_var); exact tyOk rfl; exact rfl; exact rfl; exact rfl; exact rfl) | ((with_reducible apply does_slt); exact rfl; exact rfl)) | ((with_reducible apply rpN); ((with_reducible apply does_store); exact tyOk rfl; exact rfl; exact rfl; (conv => lhs; whnf); exact rfl; exact rfl; exact Nat.le_of_ble_eq_true rfl)))
    (with_reducible apply retx_ok (l := [])); (focus (repeat' (with_reducible apply rv_nil))); exact rfl; exact SubD.refl _; refine ⟨(by repeat' (first | exact ks_nil | (refine ks_cons rfl (by exact SubA.refl _) ?_))), (by repeat' (first | exact trivial | exact rfl | refine And.intro ?_ ?_)), rfl, (by repeat' (first | exact trivial | exact inB_px rfl | refine And.intro ?_ ?_)), (by repeat' (first | exact trivial | exact inB_px rfl | refine And.intro ?_ ?_))⟩
  · rcases first with _ | _
    · repeat (first | (with_reducible first | apply aw_seq | apply aw_reg | apply rp_nil | apply ae_norm | apply xe_norm) | ((first | (with_reducible apply rp) | ((with_reducible apply rpG); exact rfl; (first | exact gval_t rfl | exact gval_gf rfl); (focus repeat' (first | exact trivial | exact fun h => h | refine And.intro ?_ ?_)); intro hgd; have hgd0 := hgd; (try simp only [decide_eq_true_eq, Bool.and_eq_true, Bool.not_eq_true', beq_iff_eq] at hgd))); first | ((with_reducible apply does_move); (conv => lhs; whnf)) | ((with_reducible apply does_and); exact rfl; exact rfl; exact rfl; (first | exact trivial | exact fun h => h)) | ((with_reducible apply does_or); exact rfl; exact rfl; exact rfl; (first | exact trivial | exact fun h => h)) | ((with_reducible apply does_load_var); exact tyOk rfl; exact rfl; exact rfl; exact rfl; exact rfl) | ((with_reducible apply does_slt); exact rfl; exact rfl)) | ((with_reducible apply rpN); ((with_reducible apply does_store); exact tyOk rfl; exact rfl; exact rfl; (conv => lhs; whnf); exact rfl; exact rfl; exact Nat.le_of_ble_eq_true rfl)))
      (with_reducible apply retx_ok (l := [])); (focus (repeat' (with_reducible apply rv_nil))); exact rfl; exact SubD.refl _; refine ⟨(by repeat' (first | exact ks_nil | (refine ks_cons rfl (by exact SubA.refl _) ?_))), (by repeat' (first | exact trivial | exact rfl | refine And.intro ?_ ?_)), rfl, (by repeat' (first | exact trivial | exact inB_px rfl | refine And.intro ?_ ?_)), (by repeat' (first | exact trivial | exact inB_px rfl | refine And.intro ?_ ?_))⟩
    · repeat (first | (with_reducible first | apply aw_seq | apply aw_reg | apply rp_nil | apply ae_norm | apply xe_norm) | ((first | (with_reducible apply rp) | ((with_reducible apply rpG); exact rfl; (first | exact gval_t rfl | exact gval_gf rfl); (focus repeat' (first | exact trivial | exact fun h => h | refine And.intro ?_ ?_ | (intro h; simp_all))); intro hgd; have hgd0 := hgd; (try simp only [decide_eq_true_eq, Bool.and_eq_true, Bool.not_eq_true', beq_iff_eq] at hgd))); first | ((with_reducible apply does_move); (conv => lhs; whnf)) | ((with_reducible apply does_and); exact rfl; exact rfl; exact rfl; exact fun h => h) | ((with_reducible apply does_or); exact rfl; exact rfl; exact rfl; exact fun h => h) | ((with_reducible apply does_load_var); exact tyOk rfl; exact rfl; exact rfl; exact rfl; exact rfl) | ((with_reducible apply does_slt); exact rfl; exact rfl)) | ((with_reducible apply rpN); ((with_reducible apply does_store); exact tyOk rfl; exact rfl; exact rfl; (conv => lhs; whnf); exact rfl; exact rfl; exact Nat.le_of_ble_eq_true rfl)) | ((first | (with_reducible apply rpGP) | (with_reducible apply drGP)); exact rfl; (first | exact gval_t rfl | exact gval_gf rfl); (focus repeat' (first | exact trivial | exact fun h => h | refine And.intro ?_ ?_ | (intro h; simp_all))); (intro hgd; have hgd0 := hgd; (try simp only [decide_eq_true_eq, Bool.and_eq_true, Bool.not_eq_true', beq_iff_eq] at hgd); first | ((with_reducible apply does_or); exact rfl; exact rfl; exact rfl; exact fun h => h) | ((with_reducible apply does_and); exact rfl; exact rfl; exact rfl; exact fun h => h))))
      (with_reducible apply retx_ok (l := [])); (focus (repeat' (with_reducible apply rv_nil))); exact rfl; exact SubD.refl _; refine ⟨(by repeat' (first | exact ks_nil | (refine ks_cons rfl (by exact SubA.refl _) ?_))), (by repeat' (first | exact trivial | exact rfl | refine And.intro ?_ ?_)), rfl, (by repeat' (first | exact trivial | exact inB_px rfl | refine And.intro ?_ ?_)), (by repeat' (first | exact trivial | exact inB_px rfl | refine And.intro ?_ ?_))⟩
abbrev leB (x y : ByteArray) : Bool := ltB x y || x.toList == y.toList
def pairE (p : ByteArray × Int) : List D := [strD p.1, iD p.2]
theorem list_in (k fr tq : ByteArray) (v : Int) (es : List (List D)) (hin : (leB fr k && leB k tq) = true) (hl : es.length ≤ 100000) : PX Tryd.prog 31 [.d (strD k), .d (iD v), .px 1001 0, .px 1002 0, .px 1003 0] [(1001, .var 9 [.d (strD fr)]), (1002, .var 9 [.d (strD tq)]), (1003, .var 57 [.ow 2000 es.length])] [(2000, .row 61 2 es)] (.tu [])
    [(1001, .var 9 [.d (strD fr)]), (1002, .var 9 [.d (strD tq)]), (1003, .var 57 [.ow 2000 (es ++ [pairE (k, v)]).length])] [(2000, .row 61 2 (es ++ [pairE (k, v)]))] := by
  generalize hm : (es ++ [pairE (k, v)]).length = m
  have hm2 : es.length + 1 = m := by rw [← hm]; simp
  subst hm2
  refine px_of_aw Tryd.func31 rfl (by kernel_rfl) mixed (by kernel_rfl) (by rw [Tryd.ntmps31]; exact Nat.le_of_ble_eq_true rfl) Tryd.results31 rfl ?_
  repeat (first | (with_reducible first | apply aw_seq | apply aw_reg | apply rp_nil | apply ae_norm | apply xe_norm) | ((first | (with_reducible apply rp) | ((with_reducible apply rpG); exact rfl; exact gval_t rfl; (focus repeat' (first | exact trivial | exact fun h => h | refine And.intro ?_ ?_)); intro hgd; have hgd0 := hgd; (try simp only [decide_eq_true_eq, Bool.and_eq_true, Bool.not_eq_true', beq_iff_eq] at hgd))); first | ((with_reducible apply does_move); (conv => lhs; whnf)) | ((with_reducible apply does_and); exact rfl; exact rfl; exact rfl; exact fun h => h) | ((with_reducible apply does_load_var); exact tyOk rfl; exact rfl; exact rfl; exact rfl; exact rfl) | ((with_reducible apply does_sle); exact rfl; exact rfl) | ((with_reducible apply does_build); exact tyOk rfl; exact rfl; exact rfl; (focus repeat' (first | exact rfl | refine ⟨_, _, rfl, rfl, Nat.le_of_ble_eq_true rfl, rfl, ?_⟩)); exact rfl)) | ((with_reducible apply rp1); ((with_reducible apply does_buildSlice); exact tyOk rfl; exact rfl; exact tyOk rfl; exact rfl; exact rfl; (focus repeat' (first | exact trivial | refine And.intro rfl (And.intro rfl ?_))); decide; decide; exact rfl)) | ((with_reducible apply rp2); ((with_reducible apply does_append_own); exact tyOk rfl; exact rfl; exact tyOk rfl; exact rfl; exact rfl; exact rfl; decide; (first | (dsimp only; simp only [List.length_map, List.length_append, List.length_cons, List.length_nil] at *; omega) | (simp only [List.length_map, List.length_append, List.length_cons, List.length_nil] at *; omega)); (first | (dsimp only; simp only [List.length_map, List.length_append, List.length_cons, List.length_nil] at *; omega) | (simp only [List.length_map, List.length_append, List.length_cons, List.length_nil] at *; omega)); exact rfl)) | ((with_reducible apply rpN); ((with_reducible apply does_store); exact tyOk rfl; exact rfl; exact rfl; (conv => lhs; whnf); exact rfl; exact rfl; exact Nat.le_of_ble_eq_true rfl)) | ((with_reducible apply aw_cond); exact rfl; rotate_left; (focus (intro hd; (exact absurd (hd.symm.trans (by assumption : _ = true)) (by decide)))); (intro hd; clear hd)))
  (with_reducible apply retx_ok (l := [(2000, 20)])); (focus (repeat' (with_reducible apply rv_nil))); exact rfl; exact SubD.refl _; refine ⟨(by repeat' (first | exact ks_nil | (refine ks_cons rfl (by exact SubA.refl _) ?_))), (by repeat' (first | exact trivial | exact rfl | refine And.intro ?_ ?_)), rfl, (by repeat' (first | exact trivial | exact inB_ow rfl | exact inB_px rfl | refine And.intro ?_ ?_)), (by repeat' (first | exact trivial | exact inB_ow rfl | exact inB_px rfl | refine And.intro ?_ ?_))⟩
theorem list_out (k fr tq : ByteArray) (v : Int) (es : List (List D)) (hin : (leB fr k && leB k tq) = false) : PX Tryd.prog 31 [.d (strD k), .d (iD v), .px 1001 0, .px 1002 0, .px 1003 0] [(1001, .var 9 [.d (strD fr)]), (1002, .var 9 [.d (strD tq)]), (1003, .var 57 [.ow 2000 es.length])] [(2000, .row 61 2 es)] (.tu [])
    [(1001, .var 9 [.d (strD fr)]), (1002, .var 9 [.d (strD tq)]), (1003, .var 57 [.ow 2000 es.length])] [(2000, .row 61 2 es)] := by
  refine px_of_aw Tryd.func31 rfl (by kernel_rfl) mixed (by kernel_rfl) (by rw [Tryd.ntmps31]; exact Nat.le_of_ble_eq_true rfl) Tryd.results31 rfl ?_
  repeat (first | (with_reducible first | apply aw_seq | apply aw_reg | apply rp_nil | apply ae_norm | apply xe_norm | apply aw_skip) | ((first | (with_reducible apply rp) | ((with_reducible apply rpG); exact rfl; exact gval_t rfl; (focus repeat' (first | exact trivial | exact fun h => h | refine And.intro ?_ ?_)); intro hgd; have hgd0 := hgd; (try simp only [decide_eq_true_eq, Bool.and_eq_true, Bool.not_eq_true', beq_iff_eq] at hgd))); first | ((with_reducible apply does_move); (conv => lhs; whnf)) | ((with_reducible apply does_and); exact rfl; exact rfl; exact rfl; exact fun h => h) | ((with_reducible apply does_load_var); exact tyOk rfl; exact rfl; exact rfl; exact rfl; exact rfl) | ((with_reducible apply does_sle); exact rfl; exact rfl)) | ((with_reducible apply aw_cond); exact rfl; (focus (intro hd; (exact absurd (hd.symm.trans (by assumption : _ = false)) (by decide)))); (intro hd; clear hd)))
  (with_reducible apply retx_ok (l := [])); (focus (repeat' (with_reducible apply rv_nil))); exact rfl; exact SubD.refl _; refine ⟨(by repeat' (first | exact ks_nil | (refine ks_cons rfl (by exact SubA.refl _) ?_))), (by repeat' (first | exact trivial | exact rfl | refine And.intro ?_ ?_)), rfl, (by repeat' (first | exact trivial | exact inB_ow rfl | exact inB_px rfl | refine And.intro ?_ ?_)), (by repeat' (first | exact trivial | exact inB_ow rfl | exact inB_px rfl | refine And.intro ?_ ?_))⟩
def growO (key : ByteArray) (val : Int) : Option (Nat × Tn) → Option (Nat × Tn)
  | none => some (0, .node [key] [val] [])
  | some (h, t) => match putH key val h t with
    | (t1, none) => some (h, t1)
    | (t1, some (m, v, r)) => some (h + 1, .node [m] [v] [t1, r])
def ShO : Option (Nat × Tn) → Prop
  | none => True
  | some (h, t) => Sh h t
end Go.Proofs.YtfplkakfakdfhaaDoor


/-
  The closures as steps. No condition but the shape.
-/
namespace Go.Proofs.YtfplkakfakdfhaaDoor
set_option linter.unusedSimpArgs false
set_option linter.unusedVariables false
open Go.RowKit

def listS (fr tq : ByteArray) (s : List (List D)) (k : ByteArray) (v : Int) : List (List D) := if (leB fr k && leB k tq) = true then s ++ [pairE (k, v)] else s
theorem listS_len (fr tq : ByteArray) (s : List (List D)) (k : ByteArray) (v : Int) (r : List (ByteArray × Int)) (h : s.length + ((k, v) :: r).length ≤ 100000) : (listS fr tq s k v).length + r.length ≤ 100000 := by
  unfold listS
  rw [List.length_cons] at h
  split
  · rw [List.length_append, List.length_singleton]; omega
  · omega
theorem list_px (k fr tq : ByteArray) (v : Int) (s : List (List D)) (hl : s.length ≤ 100000) : PX Tryd.prog 31 [.d (strD k), .d (iD v), .px 1001 0, .px 1002 0, .px 1003 0] [(1001, .var 9 [.d (strD fr)]), (1002, .var 9 [.d (strD tq)]), (1003, .var 57 [.ow 2000 s.length])] [(2000, .row 61 2 s)] (.tu [])
    [(1001, .var 9 [.d (strD fr)]), (1002, .var 9 [.d (strD tq)]), (1003, .var 57 [.ow 2000 (listS fr tq s k v).length])] [(2000, .row 61 2 (listS fr tq s k v))] := by
  by_cases h : (leB fr k && leB k tq) = true
  · have := list_in k fr tq v s h hl
    unfold listS
    rw [if_pos h]
    exact this
  · have h2 : (leB fr k && leB k tq) = false := by simpa using h
    have := list_out k fr tq v s h2
    unfold listS
    rw [if_neg h]
    exact this
theorem splitN_sh (h : Nat) (ks : List ByteArray) (vs : List Int) (ts : List Tn) (h1 : vs.length = ks.length) (h2 : 1 ≤ ks.length) (h3 : ks.length ≤ 4) (h4 : (h = 0 ∧ ts = []) ∨ ∃ g, h = g + 1 ∧ ts.length = ks.length + 1 ∧ ∀ t ∈ ts, Sh g t) :
    Sh h (splitN ks vs ts).1 ∧ ∀ m v r, (splitN ks vs ts).2 = some (m, v, r) → Sh h r := by
  by_cases h5 : ks.length = 4
  · obtain ⟨a, b, c, d, rfl⟩ := four h5
    obtain ⟨x, y, z, u, rfl⟩ := four (h1.trans h5)
    rcases h4 with ⟨rfl, rfl⟩ | ⟨g, rfl, h6, h7⟩
    · refine ⟨⟨rfl, Nat.le_of_ble_eq_true rfl, Nat.le_of_ble_eq_true rfl, rfl⟩, fun m v r he => ?_⟩
      simp only [splitN, Option.some.injEq, Prod.mk.injEq] at he
      obtain ⟨_, _, rfl⟩ := he
      exact ⟨rfl, Nat.le_of_ble_eq_true rfl, Nat.le_of_ble_eq_true rfl, rfl⟩
    · obtain ⟨p, q, r0, s, t, rfl⟩ := five h6
      refine ⟨⟨rfl, Nat.le_of_ble_eq_true rfl, Nat.le_of_ble_eq_true rfl, rfl, fun t0 ht => h7 t0 ?_⟩, fun m v r he => ?_⟩
      · simp only [List.mem_cons, List.not_mem_nil, or_false] at ht ⊢
        rcases ht with rfl | rfl | rfl <;> simp
      · simp only [splitN, Option.some.injEq, Prod.mk.injEq] at he
        obtain ⟨_, _, rfl⟩ := he
        refine ⟨rfl, Nat.le_of_ble_eq_true rfl, Nat.le_of_ble_eq_true rfl, rfl, fun t0 ht => h7 t0 ?_⟩
        simp only [List.mem_cons, List.not_mem_nil, or_false] at ht ⊢
        rcases ht with rfl | rfl <;> simp
  · rw [splitN_few h5]
    refine ⟨?_, fun m v r he => by cases he⟩
    rcases h4 with ⟨rfl, rfl⟩ | ⟨g, rfl, h6, h7⟩
    · exact ⟨h1, h2, by omega, rfl⟩
    · exact ⟨h1, h2, by omega, h6, h7⟩
theorem putH_sh (key : ByteArray) (val : Int) : ∀ (h : Nat) (t : Tn), Sh h t → Sh h (putH key val h t).1 ∧ ∀ m v r, (putH key val h t).2 = some (m, v, r) → Sh h r
  | 0, .node ks vs ts, hs => by
    obtain ⟨h1, h2, h3, rfl⟩ := hs
    unfold putH
    split
    · exact ⟨⟨by rw [List.length_set]; exact h1, h2, h3, rfl⟩, fun _ _ _ he => by cases he⟩
    · have e1 := insL_len ks (seekF key ks).1 key (seekF_le key ks)
      have e2 := insL_len vs (seekF key ks).1 val (by rw [h1]; exact seekF_le key ks)
      exact splitN_sh 0 _ _ _ (by omega) (by omega) (by omega) (.inl ⟨rfl, rfl⟩)
  | h + 1, .node ks vs ts, hs => by
    obtain ⟨h1, h2, h3, h4, h5⟩ := hs
    have hle := seekF_le key ks
    unfold putH
    split
    · exact ⟨⟨by rw [List.length_set]; exact h1, h2, h3, h4, h5⟩, fun _ _ _ he => by cases he⟩
    · have hmem : ts.getD (seekF key ks).1 noTn ∈ ts := by
        rw [List.getD_eq_getElem?_getD, List.getElem?_eq_getElem (by omega), Option.getD_some]
        exact List.getElem_mem _
      obtain ⟨i1, i2⟩ := putH_sh key val h _ (h5 _ hmem)
      have hset : ∀ t1, Sh h t1 → ∀ t ∈ ts.set (seekF key ks).1 t1, Sh h t := fun t1 ht t hm => by
        rcases List.mem_or_eq_of_mem_set hm with hm | rfl
        · exact h5 t hm
        · exact ht
      dsimp only
      rcases ho : putH key val h (ts.getD (seekF key ks).1 noTn) with ⟨t1, o⟩
      rw [ho] at i1 i2
      rcases o with _ | ⟨m, v, r⟩
      · exact ⟨⟨h1, h2, h3, by rw [List.length_set]; exact h4, hset t1 i1⟩, fun _ _ _ he => by cases he⟩
      · have e1 := insL_len ks (seekF key ks).1 m hle
        have e2 := insL_len vs (seekF key ks).1 v (by omega)
        have e3 := insL_len (ts.set (seekF key ks).1 t1) ((seekF key ks).1 + 1) r (by rw [List.length_set]; omega)
        rw [List.length_set] at e3
        refine splitN_sh (h + 1) _ _ _ (by omega) (by omega) (by omega) (.inr ⟨h, rfl, by omega, fun t ht => ?_⟩)
        unfold insL at ht
        rcases List.mem_append.1 ht with ht | ht
        · exact hset t1 i1 t (List.mem_of_mem_take ht)
        · rcases List.mem_cons.1 ht with rfl | ht
          · exact i2 m v _ rfl
          · exact hset t1 i1 t (List.mem_of_mem_drop ht)
theorem growO_sh (k : ByteArray) (v : Int) (s : Option (Nat × Tn)) (h : ShO s) : ShO (growO k v s) := by
  rcases s with _ | ⟨n, t⟩
  · exact ⟨rfl, Nat.le_of_ble_eq_true rfl, Nat.le_of_ble_eq_true rfl, rfl⟩
  · obtain ⟨i1, i2⟩ := putH_sh k v n t h
    unfold growO
    rcases ho : putH k v n t with ⟨t1, o⟩
    rw [ho] at i1 i2
    rcases o with _ | ⟨m, v2, r⟩
    · simp only [ho]; exact i1
    · simp only [ho]
      refine ⟨rfl, Nat.le_of_ble_eq_true rfl, Nat.le_of_ble_eq_true rfl, rfl, fun t ht => ?_⟩
      simp only [List.mem_cons, List.not_mem_nil, or_false] at ht
      rcases ht with rfl | rfl
      · exact i1
      · exact i2 m v2 _ rfl
end Go.Proofs.YtfplkakfakdfhaaDoor

