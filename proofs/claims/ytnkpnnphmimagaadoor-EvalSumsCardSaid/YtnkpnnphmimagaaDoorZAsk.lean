/-
  value.asked, Less, Equal, of any two values that may be; value.And, Or, Not of truths. No condition but that the values may be.
-/
import Derived.Test.YtnkpnnphmimagaaDoorZEvF
import Derived.Test.YtnkpnnphmimagaaDoorZPlNil
namespace Go.Proofs.YtnkpnnphmimagaaDoor
set_option linter.unusedSimpArgs false
set_option linter.unusedVariables false
open Go.RowKit

section
variable {P : Program} {dst : Option Nat} {ty : TypeId} {e : Operand → A} {β : Bx} {T T' : TypeId} {x y : Operand}
theorem does_max {ts : Array TypeId} {a b : Int} (hx : e x = .d (iD a)) (hy : e y = .d (iD b)) : Does P dst (.call { callee := .builtin .max, args := #[x, y], argTypes := ts }) ty e β (.d (iD (if a < b then b else a))) [] [] :=
  Does.of_run fun C γ _ ρ I w _ ac hops o ho _ => by
    have h1 := (hops x (by simp [Op.operands, Call.operands])).2
    have h2 := (hops y (by simp [Op.operands, Call.operands])).2
    rw [hx] at h1
    rw [hy] at h2
    have h1 := repA_sc h1
    have h2 := repA_sc h2
    refine ⟨.int .i64 (if a < b then b else a), ?_, trivial, rfl, rfl⟩
    simp [execOp, ho, resolve, invoke, builtin, Sem.run_bind, h1, h2, Builtin.max_, Builtin.max2]
end
theorem less1_pc (c : Int) : PC Tryd.prog 127 [iD c] (bD (decide (c < 0))) := by
  refine pc_of_aw Tryd.func127 rfl (by kernel_rfl) mixed (by kernel_rfl) (by rw [Tryd.ntmps127]; exact Nat.le_of_ble_eq_true rfl) Tryd.results127 ?_
  repeat (first | (with_reducible first | apply aw_seq | apply aw_reg | apply rp_nil | apply ae_norm | apply aw_ret | apply re_ret) | ((with_reducible apply rp); first | ((with_reducible apply does_move); (conv => lhs; whnf)) | ((with_reducible apply does_assign); (conv => lhs; whnf)) | ((with_reducible apply does_lt); exact rfl; exact rfl)))
  (with_reducible apply ret_ok); (focus (repeat' (first | (with_reducible apply rv_nil) | (with_reducible apply rv_cons) | ((with_reducible apply rv_tmp); exact rfl)))); exact rfl; refine SubD.of_eq ?_
  rfl
theorem equal1_pc (c : Int) : PC Tryd.prog 128 [iD c] (bD (c == 0)) := by
  refine pc_of_aw Tryd.func128 rfl (by kernel_rfl) mixed (by kernel_rfl) (by rw [Tryd.ntmps128]; exact Nat.le_of_ble_eq_true rfl) Tryd.results128 ?_
  repeat (first | (with_reducible first | apply aw_seq | apply aw_reg | apply rp_nil | apply ae_norm | apply aw_ret | apply re_ret) | ((with_reducible apply rp); first | ((with_reducible apply does_move); (conv => lhs; whnf)) | ((with_reducible apply does_assign); (conv => lhs; whnf)) | ((with_reducible apply does_eq); exact rfl; exact rfl)))
  (with_reducible apply ret_ok); (focus (repeat' (first | (with_reducible apply rv_nil) | (with_reducible apply rv_cons) | ((with_reducible apply rv_tmp); exact rfl)))); exact rfl; refine SubD.of_eq ?_
  rfl
def askT (g : Bool) (a b : Vl) : Int := if a.k = 0 ∨ b.k = 0 then 1 else if a.k = b.k then yesI g else 0
def askE (a b : Vl) : Nat := if a.k = 0 ∨ b.k = 0 then 0 else if a.k = b.k then 0 else 2
theorem asked_px (F : Nat) (g : Bool) {a b : Vl} (ha : Gd a) (hb : Gd b) (hf : PC Tryd.prog F [iD (ordV a b)] (bD g)) :
    PX Tryd.prog 126 [.d (.ag a.cs), .d (.ag b.cs), .fn (.func F) [] []] [] [] (.tu [iD (askT g a b), iD (askE a b)]) [] [] := by
  have c1 := both_pc a b (Nat.le_trans ha.size (by omega)) (Nat.le_trans hb.size (by omega)) ha.chk hb.chk
  have c2 := order_pc a b
  unfold askT askE
  by_cases h0 : a.k = 0 ∨ b.k = 0
  · rw [if_pos h0, if_pos h0]
    have h1 : (a.k == 0 || b.k == 0) = true := by simpa using h0
    clear ha hb c2 hf h0
    generalize ordV a b = z at *
    obtain ⟨ak, an, ab, at_⟩ := a
    obtain ⟨bk, bn, bb, bt⟩ := b
    unfold Vl.cs at *
    dsimp only at *
    refine px_of_aw Tryd.func126 rfl (by kernel_rfl) mixed (by kernel_rfl) (by rw [Tryd.ntmps126]; exact Nat.le_of_ble_eq_true rfl) Tryd.results126 rfl ?_
    repeat (first | (with_reducible first | apply aw_seq | apply aw_reg | apply rp_nil | apply ae_norm | apply aw_skip) | ((first | (with_reducible apply rp) | ((with_reducible apply rpG); exact rfl; exact gval_f rfl; (focus repeat' (first | exact trivial | exact fun h => h | refine And.intro ?_ ?_)); intro hgd; have hgd0 := hgd; (try simp only [decide_eq_true_eq, Bool.and_eq_true, Bool.not_eq_true', beq_iff_eq] at hgd))); first | ((with_reducible apply does_call_flat); exact rfl; exact rfl; exact (c1); exact rfl) | ((with_reducible apply does_move); (conv => lhs; whnf)) | ((with_reducible apply does_assign); (conv => lhs; whnf)) | ((with_reducible apply does_or); exact rfl; exact rfl; exact rfl; exact fun h => h) | ((with_reducible apply does_fieldAddr); exact tyOk rfl; exact rfl; exact rfl; decide; exact rfl) | ((with_reducible apply does_load_var); exact tyOk rfl; exact rfl; exact rfl; exact rfl; exact rfl) | ((with_reducible apply does_load_row); exact tyOk rfl; exact rfl; exact rfl; exact rfl; exact Nat.le_of_ble_eq_true rfl; exact rfl) | ((with_reducible apply does_eq); exact rfl; exact rfl) | ((with_reducible apply does_ne); exact rfl; exact rfl)) | ((with_reducible apply rp1); ((with_reducible apply does_box_ag); exact rfl; exact rfl)) | ((with_reducible apply aw_cond); exact rfl; (focus (intro hd; (cases hd; done))); (intro hd; clear hd)))
    refine aw_cond rfl (fun _ => ?_) (fun h => absurd (h1.symm.trans h) (by decide))
    repeat (first | (with_reducible first | apply aw_seq | apply aw_reg | apply rp_nil | apply ae_norm | apply aw_ret | apply ae_ret | apply xe_ret) | ((with_reducible apply rp); ((with_reducible apply does_assign); (conv => lhs; whnf))))
    (with_reducible apply retx_ok (l := [])); (focus (repeat' (first | (with_reducible apply rv_nil) | (with_reducible apply rv_cons) | ((with_reducible apply rv_tmp); exact rfl)))); exact rfl; exact SubD.refl _; refine ⟨(by repeat' exact ks_nil), (by repeat' exact trivial), rfl, (by repeat' exact trivial), (by repeat' exact trivial)⟩
  · rw [if_neg h0, if_neg h0]
    have h1 : (a.k == 0 || b.k == 0) = false := by simpa using h0
    by_cases hk : a.k = b.k
    · rw [if_pos hk, if_pos hk]
      have h2 : (a.k != b.k) = false := by rw [hk]; simp
      clear ha hb h0 hk
      generalize ordV a b = z at *
      obtain ⟨ak, an, ab, at_⟩ := a
      obtain ⟨bk, bn, bb, bt⟩ := b
      unfold Vl.cs at *
      dsimp only at *
      refine px_of_aw Tryd.func126 rfl (by kernel_rfl) mixed (by kernel_rfl) (by rw [Tryd.ntmps126]; exact Nat.le_of_ble_eq_true rfl) Tryd.results126 rfl ?_
      repeat (first | (with_reducible first | apply aw_seq | apply aw_reg | apply rp_nil | apply ae_norm | apply aw_skip) | ((first | (with_reducible apply rp) | ((with_reducible apply rpG); exact rfl; exact gval_f rfl; (focus repeat' (first | exact trivial | exact fun h => h | refine And.intro ?_ ?_)); intro hgd; have hgd0 := hgd; (try simp only [decide_eq_true_eq, Bool.and_eq_true, Bool.not_eq_true', beq_iff_eq] at hgd))); first | ((with_reducible apply does_call_flat); exact rfl; exact rfl; exact (c1); exact rfl) | ((with_reducible apply does_move); (conv => lhs; whnf)) | ((with_reducible apply does_assign); (conv => lhs; whnf)) | ((with_reducible apply does_or); exact rfl; exact rfl; exact rfl; exact fun h => h) | ((with_reducible apply does_fieldAddr); exact tyOk rfl; exact rfl; exact rfl; decide; exact rfl) | ((with_reducible apply does_load_var); exact tyOk rfl; exact rfl; exact rfl; exact rfl; exact rfl) | ((with_reducible apply does_load_row); exact tyOk rfl; exact rfl; exact rfl; exact rfl; exact Nat.le_of_ble_eq_true rfl; exact rfl) | ((with_reducible apply does_eq); exact rfl; exact rfl) | ((with_reducible apply does_ne); exact rfl; exact rfl)) | ((with_reducible apply rp1); ((with_reducible apply does_box_ag); exact rfl; exact rfl)) | ((with_reducible apply aw_cond); exact rfl; (focus (intro hd; (cases hd; done))); (intro hd; clear hd)))
      refine aw_cond rfl (fun h => absurd (h1.symm.trans h) (by decide)) (fun h => ?_)
      repeat (first | (with_reducible first | apply aw_seq | apply aw_reg | apply rp_nil | apply ae_norm | apply aw_skip) | ((with_reducible apply rp); first | ((with_reducible apply does_fieldAddr); exact tyOk rfl; exact rfl; exact rfl; decide; exact rfl) | ((with_reducible apply does_load_var); exact tyOk rfl; exact rfl; exact rfl; exact rfl; exact rfl) | ((with_reducible apply does_ne); exact rfl; exact rfl)))
      refine aw_cond rfl (fun h => absurd (h2.symm.trans h) (by decide)) (fun h => ?_)
      repeat (first | (with_reducible first | apply aw_seq | apply aw_reg | apply rp_nil | apply ae_norm | apply aw_skip) | ((with_reducible apply rp); first | ((with_reducible apply does_call_flat); exact rfl; exact rfl; exact (c2); exact rfl) | ((with_reducible apply does_call_flat); exact rfl; exact rfl; exact (hf); exact rfl) | ((with_reducible apply does_move); (conv => lhs; whnf)) | ((with_reducible apply does_load_row); exact tyOk rfl; exact rfl; exact rfl; exact rfl; exact Nat.le_of_ble_eq_true rfl; exact rfl)))
      cases g with
      | true =>
        refine aw_cond rfl (fun _ => ?_) (fun h => (by cases h))
        repeat (first | (with_reducible first | apply aw_seq | apply aw_reg | apply rp_nil | apply ae_norm | apply aw_ret | apply ae_ret | apply xe_ret) | ((with_reducible apply rp); ((with_reducible apply does_assign); (conv => lhs; whnf))))
        (with_reducible apply retx_ok (l := [])); (focus (repeat' (first | (with_reducible apply rv_nil) | (with_reducible apply rv_cons) | ((with_reducible apply rv_tmp); exact rfl)))); exact rfl; exact SubD.refl _; refine ⟨(by repeat' exact ks_nil), (by repeat' exact trivial), rfl, (by repeat' exact trivial), (by repeat' exact trivial)⟩
      | false =>
        refine aw_cond rfl (fun h => (by cases h)) (fun _ => ?_)
        repeat (first | (with_reducible first | apply aw_seq | apply aw_reg | apply rp_nil | apply ae_norm | apply aw_ret | apply xe_ret | apply aw_skip) | ((with_reducible apply rp); ((with_reducible apply does_assign); (conv => lhs; whnf))))
        (with_reducible apply retx_ok (l := [])); (focus (repeat' (first | (with_reducible apply rv_nil) | (with_reducible apply rv_cons) | ((with_reducible apply rv_tmp); exact rfl)))); exact rfl; exact SubD.refl _; refine ⟨(by repeat' exact ks_nil), (by repeat' exact trivial), rfl, (by repeat' exact trivial), (by repeat' exact trivial)⟩
    · rw [if_neg hk, if_neg hk]
      have h2 : (a.k != b.k) = true := by simpa using hk
      clear ha hb h0 hk c2 hf
      generalize ordV a b = z at *
      obtain ⟨ak, an, ab, at_⟩ := a
      obtain ⟨bk, bn, bb, bt⟩ := b
      unfold Vl.cs at *
      dsimp only at *
      refine px_of_aw Tryd.func126 rfl (by kernel_rfl) mixed (by kernel_rfl) (by rw [Tryd.ntmps126]; exact Nat.le_of_ble_eq_true rfl) Tryd.results126 rfl ?_
      repeat (first | (with_reducible first | apply aw_seq | apply aw_reg | apply rp_nil | apply ae_norm | apply aw_skip) | ((first | (with_reducible apply rp) | ((with_reducible apply rpG); exact rfl; exact gval_f rfl; (focus repeat' (first | exact trivial | exact fun h => h | refine And.intro ?_ ?_)); intro hgd; have hgd0 := hgd; (try simp only [decide_eq_true_eq, Bool.and_eq_true, Bool.not_eq_true', beq_iff_eq] at hgd))); first | ((with_reducible apply does_call_flat); exact rfl; exact rfl; exact (c1); exact rfl) | ((with_reducible apply does_move); (conv => lhs; whnf)) | ((with_reducible apply does_assign); (conv => lhs; whnf)) | ((with_reducible apply does_or); exact rfl; exact rfl; exact rfl; exact fun h => h) | ((with_reducible apply does_fieldAddr); exact tyOk rfl; exact rfl; exact rfl; decide; exact rfl) | ((with_reducible apply does_load_var); exact tyOk rfl; exact rfl; exact rfl; exact rfl; exact rfl) | ((with_reducible apply does_load_row); exact tyOk rfl; exact rfl; exact rfl; exact rfl; exact Nat.le_of_ble_eq_true rfl; exact rfl) | ((with_reducible apply does_eq); exact rfl; exact rfl) | ((with_reducible apply does_ne); exact rfl; exact rfl)) | ((with_reducible apply rp1); ((with_reducible apply does_box_ag); exact rfl; exact rfl)) | ((with_reducible apply aw_cond); exact rfl; (focus (intro hd; (cases hd; done))); (intro hd; clear hd)))
      refine aw_cond rfl (fun h => absurd (h1.symm.trans h) (by decide)) (fun h => ?_)
      repeat (first | (with_reducible first | apply aw_seq | apply aw_reg | apply rp_nil | apply ae_norm | apply aw_skip) | ((with_reducible apply rp); first | ((with_reducible apply does_fieldAddr); exact tyOk rfl; exact rfl; exact rfl; decide; exact rfl) | ((with_reducible apply does_load_var); exact tyOk rfl; exact rfl; exact rfl; exact rfl; exact rfl) | ((with_reducible apply does_ne); exact rfl; exact rfl)))
      refine aw_cond rfl (fun _ => ?_) (fun h => absurd (h2.symm.trans h) (by decide))
      repeat (first | (with_reducible first | apply aw_seq | apply aw_reg | apply rp_nil | apply ae_norm | apply aw_ret | apply ae_ret | apply xe_ret) | ((with_reducible apply rp); ((with_reducible apply does_assign); (conv => lhs; whnf))))
      (with_reducible apply retx_ok (l := [])); (focus (repeat' (first | (with_reducible apply rv_nil) | (with_reducible apply rv_cons) | ((with_reducible apply rv_tmp); exact rfl)))); exact rfl; exact SubD.refl _; refine ⟨(by repeat' exact ks_nil), (by repeat' exact trivial), rfl, (by repeat' exact trivial), (by repeat' exact trivial)⟩
theorem less_pc {a b : Vl} (ha : Gd a) (hb : Gd b) : PC Tryd.prog 122 [.ag a.cs, .ag b.cs] (.tu [iD (askT (decide (ordV a b < 0)) a b), iD (askE a b)]) := by
  have p1 := asked_px _ _ ha hb (less1_pc (ordV a b))
  generalize askT (decide (ordV a b < 0)) a b = y at *
  generalize askE a b = z at *
  clear ha hb
  obtain ⟨ak, an, ab, at_⟩ := a
  obtain ⟨bk, bn, bb, bt⟩ := b
  unfold Vl.cs at *
  refine pc_of_aw Tryd.func122 rfl (by kernel_rfl) mixed (by kernel_rfl) (by rw [Tryd.ntmps122]; exact Nat.le_of_ble_eq_true rfl) Tryd.results122 ?_
  repeat (first | (with_reducible first | apply aw_seq | apply aw_reg | apply rp_nil | apply ae_norm | apply aw_ret | apply re_ret) | ((with_reducible apply rp); first | ((with_reducible apply does_assign); (conv => lhs; whnf)) | ((with_reducible apply does_load_row); exact tyOk rfl; exact rfl; exact rfl; exact rfl; exact Nat.le_of_ble_eq_true rfl; exact rfl) | ((with_reducible apply does_extract); exact rfl; exact rfl)) | ((with_reducible apply rp1); ((with_reducible apply does_box_ag); exact rfl; exact rfl)) | ((with_reducible apply rpL); (refine does_callX [] [] (ups := []) rfl (p1) rfl ?_ rfl ?_ ?_ rfl rfl rfl rfl rfl ?_ rfl rfl; (focus repeat' exact trivial); (focus repeat' (first | exact trivial | refine And.intro ?_ ?_)); (focus repeat' (first | exact trivial | refine And.intro ?_ ?_)); (focus repeat' (first | exact trivial | refine And.intro ?_ ?_))); exact lapp_nil _))
  (with_reducible apply ret_ok); (focus (repeat' (first | (with_reducible apply rv_nil) | (with_reducible apply rv_cons) | ((with_reducible apply rv_tmp); exact rfl)))); exact rfl; refine SubD.of_eq ?_
  rfl
theorem equal_pc {a b : Vl} (ha : Gd a) (hb : Gd b) : PC Tryd.prog 123 [.ag a.cs, .ag b.cs] (.tu [iD (askT (ordV a b == 0) a b), iD (askE a b)]) := by
  have p1 := asked_px _ _ ha hb (equal1_pc (ordV a b))
  generalize askT (ordV a b == 0) a b = y at *
  generalize askE a b = z at *
  clear ha hb
  obtain ⟨ak, an, ab, at_⟩ := a
  obtain ⟨bk, bn, bb, bt⟩ := b
  unfold Vl.cs at *
  refine pc_of_aw Tryd.func123 rfl (by kernel_rfl) mixed (by kernel_rfl) (by rw [Tryd.ntmps123]; exact Nat.le_of_ble_eq_true rfl) Tryd.results123 ?_
  repeat (first | (with_reducible first | apply aw_seq | apply aw_reg | apply rp_nil | apply ae_norm | apply aw_ret | apply re_ret) | ((with_reducible apply rp); first | ((with_reducible apply does_assign); (conv => lhs; whnf)) | ((with_reducible apply does_load_row); exact tyOk rfl; exact rfl; exact rfl; exact rfl; exact Nat.le_of_ble_eq_true rfl; exact rfl) | ((with_reducible apply does_extract); exact rfl; exact rfl)) | ((with_reducible apply rp1); ((with_reducible apply does_box_ag); exact rfl; exact rfl)) | ((with_reducible apply rpL); (refine does_callX [] [] (ups := []) rfl (p1) rfl ?_ rfl ?_ ?_ rfl rfl rfl rfl rfl ?_ rfl rfl; (focus repeat' exact trivial); (focus repeat' (first | exact trivial | refine And.intro ?_ ?_)); (focus repeat' (first | exact trivial | refine And.intro ?_ ?_)); (focus repeat' (first | exact trivial | refine And.intro ?_ ?_))); exact lapp_nil _))
  (with_reducible apply ret_ok); (focus (repeat' (first | (with_reducible apply rv_nil) | (with_reducible apply rv_cons) | ((with_reducible apply rv_tmp); exact rfl)))); exact rfl; refine SubD.of_eq ?_
  rfl
theorem tru_pc (l : List Int) (hl : l.length ≤ 1000) (h : ∀ t ∈ l, 0 ≤ t ∧ t ≤ 2) : PC Tryd.prog 125 [.sl 1 (l.map fun t => [iD t])] (iD 0) := by
  refine pc_of_aw Tryd.func125 rfl (by kernel_rfl) mixed (by kernel_rfl) (by rw [Tryd.ntmps125]; exact Nat.le_of_ble_eq_true rfl) Tryd.results125 ?_
  repeat (first | (with_reducible first | apply aw_seq | apply aw_reg | apply rp_nil | apply ae_norm | apply aw_block) | ((with_reducible apply rp); first | ((with_reducible apply does_move); (conv => lhs; whnf)) | ((with_reducible apply does_assign); (conv => lhs; whnf)) | ((with_reducible apply does_len_map); exact tyOk rfl; exact rfl; exact rfl)))
  refine aw_loop (fun m s => ∃ k, k ≤ l.length ∧ m = l.length - k ∧ s = ⟨[(5, .d (.sl 1 (l.map fun t => [iD t]))), (6, .d (iD l.length)), (7, .d (iD k))], []⟩) _ _ ?_ ⟨0, by omega, rfl, rfl⟩ ?_
  · refine forget_of [] (by repeat' (first | exact ks_nil | (refine ks_cons rfl (by exact SubA.refl _) ?_))) (by repeat' exact trivial) rfl (by repeat' (first | exact trivial | refine And.intro ?_ ?_)) (by repeat' (first | exact trivial | refine And.intro ?_ ?_))
  · rintro m s ⟨k, hk, rfl, rfl⟩
    repeat (first | (with_reducible first | apply aw_seq | apply aw_reg | apply rp_nil | apply ae_norm) | ((with_reducible apply rp); ((with_reducible apply does_lt); exact rfl; exact rfl)))
    refine aw_cond rfl (fun hd => ?_) (fun hd => ?_)
    · have hlt : k < l.length := by simp at hd; omega
      clear hd
      obtain ⟨t, ht⟩ : ∃ t, l[k]? = some t := ⟨_, List.getElem?_eq_getElem hlt⟩
      have ht2 : (l.map fun t => [iD t])[k]? = some [iD t] := by rw [List.getElem?_map, ht]; rfl
      have h1 := h t (List.mem_of_getElem? ht)
      repeat (first | (with_reducible first | apply aw_seq | apply aw_reg | apply rp_nil | apply ae_norm | apply aw_block | apply be_norm | apply aw_skip) | ((first | (with_reducible apply rp) | ((with_reducible apply rpG); exact rfl; exact gval_f rfl; (focus repeat' (first | exact trivial | exact fun h => h | refine And.intro ?_ ?_)); intro hgd; have hgd0 := hgd; (try simp only [decide_eq_true_eq, Bool.and_eq_true, Bool.not_eq_true', beq_iff_eq] at hgd))); first | ((with_reducible apply does_move); (conv => lhs; whnf)) | ((with_reducible apply does_assign); (conv => lhs; whnf)) | ((with_reducible apply does_or); exact rfl; exact rfl; exact rfl; exact fun h => h) | ((with_reducible apply does_load_elem); exact tyOk rfl; exact rfl; exact rfl; assumption; exact rfl) | ((with_reducible apply does_index_sl); exact tyOk rfl; exact rfl; exact tyOk rfl; exact rfl; exact rfl; exact rfl; exact rfl; (simp only [List.length_map, List.length_append, List.length_cons, List.length_nil] at *; omega)) | ((with_reducible apply does_lt); exact rfl; exact rfl) | ((with_reducible apply does_gt); exact rfl; exact rfl) | ((with_reducible apply does_add); exact rfl; exact rfl; omega; omega)) | ((with_reducible apply aw_cond); exact rfl; (focus (intro hd; (exfalso; simp at hd; omega))); (intro hd; clear hd)))
      refine ⟨_, _, ?_, ?_, k + 1, by omega, rfl, rfl⟩
      · omega
      · refine forget_of [] (by repeat' (first | exact ks_nil | (refine ks_cons rfl (by exact SubA.refl _) ?_))) (by repeat' exact trivial) rfl (by repeat' (first | exact trivial | refine And.intro ?_ ?_)) (by repeat' (first | exact trivial | refine And.intro ?_ ?_))
    · have hke : k = l.length := by simp at hd; omega
      clear hd
      subst hke
      repeat (first | (with_reducible first | apply aw_seq | apply aw_reg | apply rp_nil | apply ae_norm | apply aw_exit | apply ae_exit | apply be_exit | apply aw_ret | apply re_ret) | ((with_reducible apply rp); ((with_reducible apply does_assign); (conv => lhs; whnf))))
      (with_reducible apply ret_ok); (focus (repeat' (first | (with_reducible apply rv_nil) | (with_reducible apply rv_cons) | ((with_reducible apply rv_tmp); exact rfl)))); exact rfl; refine SubD.of_eq ?_
      rfl
theorem and_pc (a b : Int) (ha : 0 ≤ a ∧ a ≤ 2) (hb : 0 ≤ b ∧ b ≤ 2) : PC Tryd.prog 119 [iD a, iD b] (.tu [iD (if b < a then b else a), iD 0]) := by
  have t1 := tru_pc [a, b] (by simp) (by intro t ht; simp at ht; rcases ht with rfl | rfl <;> assumption)
  simp only [List.map_cons, List.map_nil] at t1
  refine pc_of_aw Tryd.func119 rfl (by kernel_rfl) mixed (by kernel_rfl) (by rw [Tryd.ntmps119]; exact Nat.le_of_ble_eq_true rfl) Tryd.results119 ?_
  repeat (first | (with_reducible first | apply aw_seq | apply aw_reg | apply rp_nil | apply ae_norm | apply aw_ret | apply re_ret | apply aw_skip) | ((with_reducible apply rp); first | ((with_reducible apply does_call_flat); exact rfl; exact rfl; exact (t1); exact rfl) | (exact does_min rfl rfl) | ((with_reducible apply does_move); (conv => lhs; whnf)) | ((with_reducible apply does_assign); (conv => lhs; whnf)) | ((with_reducible apply does_ne); exact rfl; exact rfl)) | ((with_reducible apply rp1); ((with_reducible apply does_buildSlice); exact tyOk rfl; exact rfl; exact tyOk rfl; exact rfl; exact rfl; (focus repeat' (first | exact trivial | refine And.intro rfl (And.intro rfl ?_))); decide; decide; exact rfl)) | ((with_reducible apply aw_cond); exact rfl; (focus (intro hd; (cases hd; done))); (intro hd; clear hd)))
  (with_reducible apply ret_ok); (focus (repeat' (first | (with_reducible apply rv_nil) | (with_reducible apply rv_cons) | ((with_reducible apply rv_tmp); exact rfl)))); exact rfl; refine SubD.of_eq ?_
  rfl
theorem or_pc (a b : Int) (ha : 0 ≤ a ∧ a ≤ 2) (hb : 0 ≤ b ∧ b ≤ 2) : PC Tryd.prog 120 [iD a, iD b] (.tu [iD (if a < b then b else a), iD 0]) := by
  have t1 := tru_pc [a, b] (by simp) (by intro t ht; simp at ht; rcases ht with rfl | rfl <;> assumption)
  simp only [List.map_cons, List.map_nil] at t1
  refine pc_of_aw Tryd.func120 rfl (by kernel_rfl) mixed (by kernel_rfl) (by rw [Tryd.ntmps120]; exact Nat.le_of_ble_eq_true rfl) Tryd.results120 ?_
  repeat (first | (with_reducible first | apply aw_seq | apply aw_reg | apply rp_nil | apply ae_norm | apply aw_ret | apply re_ret | apply aw_skip) | ((with_reducible apply rp); first | ((with_reducible apply does_call_flat); exact rfl; exact rfl; exact (t1); exact rfl) | (exact does_max rfl rfl) | ((with_reducible apply does_move); (conv => lhs; whnf)) | ((with_reducible apply does_assign); (conv => lhs; whnf)) | ((with_reducible apply does_ne); exact rfl; exact rfl)) | ((with_reducible apply rp1); ((with_reducible apply does_buildSlice); exact tyOk rfl; exact rfl; exact tyOk rfl; exact rfl; exact rfl; (focus repeat' (first | exact trivial | refine And.intro rfl (And.intro rfl ?_))); decide; decide; exact rfl)) | ((with_reducible apply aw_cond); exact rfl; (focus (intro hd; (cases hd; done))); (intro hd; clear hd)))
  (with_reducible apply ret_ok); (focus (repeat' (first | (with_reducible apply rv_nil) | (with_reducible apply rv_cons) | ((with_reducible apply rv_tmp); exact rfl)))); exact rfl; refine SubD.of_eq ?_
  rfl
theorem not_pc (a : Int) (ha : 0 ≤ a ∧ a ≤ 2) : PC Tryd.prog 124 [iD a] (.tu [iD (2 - a), iD 0]) := by
  have t1 := tru_pc [a] (by simp) (by intro t ht; simp at ht; subst ht; exact ha)
  simp only [List.map_cons, List.map_nil] at t1
  obtain ⟨n, hn⟩ : ∃ n : Nat, a = n := ⟨a.toNat, by omega⟩
  subst hn
  refine pc_of_aw Tryd.func124 rfl (by kernel_rfl) mixed (by kernel_rfl) (by rw [Tryd.ntmps124]; exact Nat.le_of_ble_eq_true rfl) Tryd.results124 ?_
  repeat (first | (with_reducible first | apply aw_seq | apply aw_reg | apply rp_nil | apply ae_norm | apply aw_ret | apply re_ret | apply aw_skip) | ((with_reducible apply rp); first | ((with_reducible apply does_call_flat); exact rfl; exact rfl; exact (t1); exact rfl) | ((with_reducible apply does_move); (conv => lhs; whnf)) | ((with_reducible apply does_assign); (conv => lhs; whnf)) | ((with_reducible apply does_ne); exact rfl; exact rfl) | ((with_reducible apply does_sub); exact rfl; exact rfl; omega; omega)) | ((with_reducible apply rp1); ((with_reducible apply does_buildSlice); exact tyOk rfl; exact rfl; exact tyOk rfl; exact rfl; exact rfl; (focus repeat' (first | exact trivial | refine And.intro rfl (And.intro rfl ?_))); decide; decide; exact rfl)) | ((with_reducible apply aw_cond); exact rfl; (focus (intro hd; (cases hd; done))); (intro hd; clear hd)))
  (with_reducible apply ret_ok); (focus (repeat' (first | (with_reducible apply rv_nil) | (with_reducible apply rv_cons) | ((with_reducible apply rv_tmp); exact rfl)))); exact rfl; refine SubD.of_eq ?_
  rfl
end Go.Proofs.YtnkpnnphmimagaaDoor

