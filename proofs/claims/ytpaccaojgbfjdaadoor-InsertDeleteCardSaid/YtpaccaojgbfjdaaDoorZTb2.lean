/-
  chirograph/table: Check as a contract. No condition but that the table may be.
-/
import Derived.Test.YtpaccaojgbfjdaaDoorZTb1
import Derived.Test.YtpaccaojgbfjdaaDoorZK
namespace Go.Proofs.YtpaccaojgbfjdaaDoor
set_option linter.unusedSimpArgs false
set_option linter.unusedVariables false
open Go.RowKit

def drF (a b : List Ce) (i : Nat) : List Ce := if i = 0 then a else b
section
variable {P : Program} {dst : Option Nat} {ty : TypeId} {e : Operand → A} {β : Bx} {T T0 el : TypeId} {x y : Operand}
theorem does_index_two {t te : TyI} {len esz i : Nat} {er : Bool} {k : IntKind} {n : Int} {a b : List Ce} (ht : mkTy P T = some t) (hk : t.kind = .array len el esz er) (hte : mkTy P el = some te) (hr : te.row = true) (h2 : te.size = 8) (h3 : len = 2) (hx : e x = .d (.ag (a.flatMap Ce.cs ++ b.flatMap Ce.cs))) (hy : e y = .d (.sc (.int k n))) (hn : n = (i : Nat)) (hi : i < 2) (ha : a.length = 4) (hb : b.length = 4) :
    Does P dst (.index T x y) ty e β (.d (.ag ((drF a b i).flatMap Ce.cs))) [] [] := by
  have la : (a.flatMap Ce.cs).length = 8 := by rw [flat_len, ha]
  have lb : (b.flatMap Ce.cs).length = 8 := by rw [flat_len, hb]
  have h := does_index_val (P := P) (dst := dst) (ty := ty) (e := e) (β := β) (x := x) (y := y) ht hk hte hr hx hy hn (by omega) (by rw [List.length_append, la, lb, h2, h3])
  rw [h2] at h
  rcases (by omega : i = 0 ∨ i = 1) with rfl | rfl
  · rw [Nat.zero_mul, List.drop_zero, List.take_append_of_le_length (by omega), List.take_of_length_le (by omega)] at h
    exact h
  · rw [Nat.one_mul, show (8 : Nat) = (a.flatMap Ce.cs).length from la.symm, List.drop_left, List.take_of_length_le (by omega)] at h
    exact h
theorem does_load_two {t : TyI} {id : Nat} {pre : List D} {a b : List Ce} (ht : mkTy P T = some t) (hr : t.row = true) (h2 : t.size = 16) (hx : e x = .px id 3) (hl : look id β = some (.var T0 ((pre ++ (a.flatMap Ce.cs ++ b.flatMap Ce.cs)).map .d))) (hp : pre.length = 3) (ha : a.length = 4) (hb : b.length = 4) : Does P dst (.load T x) ty e β (.d (.ag (a.flatMap Ce.cs ++ b.flatMap Ce.cs))) [] [id] := by
  have la : (a.flatMap Ce.cs).length = 8 := by rw [flat_len, ha]
  have lb : (b.flatMap Ce.cs).length = 8 := by rw [flat_len, hb]
  have ll : (a.flatMap Ce.cs ++ b.flatMap Ce.cs).length = 16 := by rw [List.length_append, la, lb]
  refine does_load_row ht hr hx hl (by rw [List.length_map, List.length_append, ll, hp, h2]; omega) ?_
  rw [h2, ← List.map_drop, show (3 : Nat) = pre.length from hp.symm, List.drop_left, List.take_of_length_le (by rw [List.length_map, ll]; omega)]
  exact allD_mapD _
end
set_option maxHeartbeats 4000000 in
theorem check_tb (t : Tb) (h : TbOk t) : PC Tryd.prog 16 [.ag t.cs] (iD 0) := by
  obtain ⟨tn, tc, a, b⟩ := t
  obtain ⟨hn, hc, hk, ha, hb⟩ := h
  dsimp only at *
  have n1 := name_pc tn hn
  have c1 := columns_pc tc hc
  have hl5 := hc.len
  have ha4 := ha.len
  have hb4 := hb.len
  obtain ⟨kn, kl, rfl⟩ := hk
  have hlen : ((⟨kn, 2, false⟩ :: kl : List Cl).map Cl.cs).length = kl.length + 1 := by simp
  have hg0 : ((⟨kn, 2, false⟩ :: kl : List Cl).map Cl.cs)[0]? = some [strD kn, iD 2, bD false] := rfl
  unfold Tb.cs
  dsimp only
  refine pc_of_aw Tryd.func16 rfl (by kernel_rfl) mixed (by kernel_rfl) (by rw [Tryd.ntmps16]; exact Nat.le_of_ble_eq_true rfl) Tryd.results16 ?_
  repeat (first | (with_reducible first | apply aw_seq | apply aw_reg | apply rp_nil | apply ae_norm | apply aw_block | apply aw_skip) | ((first | (with_reducible apply rp) | ((with_reducible apply rpG); exact rfl; exact gval_f rfl; (focus repeat' (first | exact trivial | exact fun h => h | refine And.intro ?_ ?_)); intro hgd; have hgd0 := hgd; (try simp only [decide_eq_true_eq, Bool.and_eq_true, Bool.not_eq_true', beq_iff_eq] at hgd))); first | ((with_reducible apply does_call_flat); exact rfl; exact rfl; exact (n1); exact rfl) | ((with_reducible apply does_call_flat); exact rfl; exact rfl; exact (c1); exact rfl) | (exact does_load_two (a := a) (b := b) (pre := [bD true, strD tn, colsD (⟨kn, 2, false⟩ :: kl)]) (tyOk rfl) rfl rfl rfl rfl rfl ha4 hb4) | ((with_reducible apply does_move); (conv => lhs; whnf)) | ((with_reducible apply does_assign); (conv => lhs; whnf)) | ((with_reducible apply does_or); exact rfl; exact rfl; exact rfl; exact fun h => h) | ((with_reducible apply does_fieldAddr); exact tyOk rfl; exact rfl; exact rfl; decide; exact rfl) | ((with_reducible apply does_load_var); exact tyOk rfl; exact rfl; exact rfl; exact rfl; exact rfl) | ((with_reducible apply does_load_elem); exact tyOk rfl; exact rfl; exact rfl; assumption; exact rfl) | ((with_reducible apply does_index_sl); exact tyOk rfl; exact rfl; exact tyOk rfl; exact rfl; exact rfl; exact rfl; exact rfl; (dsimp only; omega)) | ((with_reducible apply does_eq); exact rfl; exact rfl) | ((with_reducible apply does_ne); exact rfl; exact rfl) | ((with_reducible apply does_not); exact rfl) | ((with_reducible apply does_len_map); exact tyOk rfl; exact rfl; exact rfl) | ((with_reducible apply does_build); exact tyOk rfl; exact rfl; exact rfl; (focus repeat' (first | exact rfl | refine ⟨_, _, rfl, rfl, Nat.le_of_ble_eq_true rfl, rfl, ?_⟩)); exact rfl)) | ((with_reducible apply rp1); ((with_reducible apply does_box_ag); exact rfl; exact rfl)) | ((with_reducible apply aw_cond); exact rfl; (focus (intro hd; (cases hd; done))); (intro hd; clear hd)))
  clear hg0 hlen n1
  generalize htc : (⟨kn, 2, false⟩ :: kl : List Cl) = tc at *
  refine aw_loop (fun m s => ∃ i, i ≤ 2 ∧ m = 2 - i ∧ s = ⟨[(1, .px 1 0), (44, .d (.ag (a.flatMap Ce.cs ++ b.flatMap Ce.cs))), (45, .d (iD i))], [(1, .var 30 (([bD true, strD tn, colsD tc] ++ (a.flatMap Ce.cs ++ b.flatMap Ce.cs)).map .d))]⟩) _ _ ?_ ⟨0, by omega, rfl, rfl⟩ ?_
  · refine forget_of [] (by repeat' (first | exact ks_nil | (refine ks_cons rfl (by exact SubA.refl _) ?_))) (by repeat' (first | exact trivial | exact kb_d rfl | refine And.intro ?_ ?_)) rfl (by repeat' (first | exact trivial | exact insB_map _ | exact inB_px rfl | refine And.intro ?_ ?_)) (by repeat' (first | exact trivial | exact insB_map _ | exact inB_px rfl | refine And.intro ?_ ?_))
  · rintro m s ⟨i, hi2, rfl, rfl⟩
    repeat (first | (with_reducible first | apply aw_seq | apply aw_reg | apply rp_nil | apply ae_norm) | ((with_reducible apply rp); ((with_reducible apply does_lt); exact rfl; exact rfl)))
    refine aw_cond rfl (fun hd => ?_) (fun hd => ?_)
    · have hlt : i < 2 := by simp at hd; omega
      clear hd
      obtain ⟨d, hd⟩ : ∃ d, drF a b i = d := ⟨_, rfl⟩
      have hdo : DrOk tc d := by rw [← hd]; unfold drF; split; exact ha; exact hb
      have h4 := hdo.len
      have h8 : (d.flatMap Ce.cs).length = 8 := by rw [flat_len, h4]
      have k1 := keys_pc tc ⟨kn, kl, htc.symm⟩ d hdo
      have ix := fun (P : Program) (dst : Option Nat) (ty : TypeId) (e : Operand → A) (β : Bx) (T el : TypeId) (x y : Operand) (t te : TyI) (len esz : Nat) (er : Bool) (k : IntKind) (n : Int) (h1 : mkTy P T = some t) (h2 : t.kind = .array len el esz er) (h3 : mkTy P el = some te) (h4 : te.row = true) (h5 : te.size = 8) (h6 : len = 2) (h7 : e x = .d (.ag (a.flatMap Ce.cs ++ b.flatMap Ce.cs))) (h8 : e y = .d (.sc (.int k n))) (h9 : n = (i : Nat)) => by
        have := does_index_two (P := P) (dst := dst) (ty := ty) (e := e) (β := β) (x := x) (y := y) h1 h2 h3 h4 h5 h6 h7 h8 h9 hlt ha4 hb4
        rw [hd] at this
        exact this
      repeat (first | (with_reducible first | apply aw_seq | apply aw_reg | apply rp_nil | apply ae_norm | apply aw_block | apply aw_skip) | ((with_reducible apply rp); first | (exact ix _ _ _ _ _ _ _ _ _ _ _ _ _ _ _ _ (tyOk rfl) rfl (tyOk rfl) rfl rfl rfl rfl rfl rfl) | (exact does_load_drawer (tyOk rfl) rfl rfl rfl rfl h4) | ((with_reducible apply does_move); (conv => lhs; whnf))) | ((with_reducible apply rp1); ((with_reducible apply does_alloc); exact tyOk rfl; exact rfl)) | ((with_reducible apply rpN); (exact does_store_whole (tyOk rfl) rfl rfl rfl h8 h8)))
      refine aw_loop (fun m s => ∃ k, k ≤ 4 ∧ m = 4 - k ∧ s = ⟨[(1, .px 1 0), (5, .px 5 0), (44, .d (.ag (a.flatMap Ce.cs ++ b.flatMap Ce.cs))), (45, .d (iD i)), (48, .d (.ag (d.flatMap Ce.cs))), (49, .d (iD k))], [(1, .var 30 (([bD true, strD tn, colsD tc] ++ (a.flatMap Ce.cs ++ b.flatMap Ce.cs)).map .d)), (5, .var 27 ((d.flatMap Ce.cs).map .d))]⟩) _ _ ?_ ⟨0, by omega, rfl, rfl⟩ ?_
      · refine forget_of [] (by repeat' (first | exact ks_nil | (refine ks_cons rfl (by exact SubA.refl _) ?_))) (by repeat' (first | exact trivial | exact kb_d rfl | refine And.intro ?_ ?_)) rfl (by repeat' (first | exact trivial | exact insB_map _ | exact inB_px rfl | refine And.intro ?_ ?_)) (by repeat' (first | exact trivial | exact insB_map _ | exact inB_px rfl | refine And.intro ?_ ?_))
      · rintro m s ⟨k, hk4, rfl, rfl⟩
        repeat (first | (with_reducible first | apply aw_seq | apply aw_reg | apply rp_nil | apply ae_norm) | ((with_reducible apply rp); ((with_reducible apply does_lt); exact rfl; exact rfl)))
        refine aw_cond rfl (fun hd => ?_) (fun hd => ?_)
        · have hlt4 : k < 4 := by simp at hd; omega
          clear hd
          obtain ⟨c, hcc⟩ : ∃ c, d[k]? = some c := ⟨_, List.getElem?_eq_getElem (by omega)⟩
          have hco := hdo.ok c (List.mem_of_getElem? hcc)
          obtain ⟨cf, cr⟩ := c
          cases cf with
          | true =>
            have r1 := kRow_pc cr tc hc (hco.fit rfl)
            repeat (first | (with_reducible first | apply aw_seq | apply aw_reg | apply rp_nil | apply ae_norm | apply aw_block | apply be_norm | apply aw_skip) | ((first | (with_reducible apply rp) | ((with_reducible apply rpG); exact rfl; exact gval_t rfl; (focus repeat' (first | exact trivial | exact fun h => h | refine And.intro ?_ ?_)); intro hgd; have hgd0 := hgd; (try simp only [decide_eq_true_eq, Bool.and_eq_true, Bool.not_eq_true', beq_iff_eq] at hgd))); first | (exact does_index_flat (d := d) (c := ⟨true, cr⟩) (tyOk rfl) rfl (tyOk rfl) rfl rfl rfl rfl rfl h4 hcc) | ((with_reducible apply does_call_flat); exact rfl; exact rfl; exact (r1); exact rfl) | ((with_reducible apply does_move); (conv => lhs; whnf)) | ((with_reducible apply does_assign); (conv => lhs; whnf)) | ((with_reducible apply does_and); exact rfl; exact rfl; exact rfl; exact fun h => h) | ((with_reducible apply does_fieldAddr); exact tyOk rfl; exact rfl; exact rfl; decide; exact rfl) | ((with_reducible apply does_load_var); exact tyOk rfl; exact rfl; exact rfl; exact rfl; exact rfl) | ((with_reducible apply does_ne); exact rfl; exact rfl) | ((with_reducible apply does_gt); exact rfl; exact rfl) | ((with_reducible apply does_add); exact rfl; exact rfl; omega; omega) | ((with_reducible apply does_not); exact rfl) | ((with_reducible apply does_len_map); exact tyOk rfl; exact rfl; exact rfl)) | ((with_reducible apply rp1); ((with_reducible apply does_alloc); exact tyOk rfl; exact rfl)) | ((with_reducible apply rpN); ((with_reducible apply does_store_whole); exact tyOk rfl; exact rfl; exact rfl; exact rfl; exact rfl; exact rfl)) | ((with_reducible apply aw_cond); exact rfl; (focus (intro hd; (cases hd; done))); (intro hd; clear hd)))
            refine ⟨_, _, ?_, ?_, k + 1, by omega, rfl, rfl⟩
            · omega
            · refine forget_of [] (by repeat' (first | exact ks_nil | (refine ks_cons rfl (by exact SubA.refl _) ?_))) (by repeat' (first | exact trivial | exact kb_d rfl | refine And.intro ?_ ?_)) rfl (by repeat' (first | exact trivial | exact insB_map _ | exact inB_px rfl | refine And.intro ?_ ?_)) (by repeat' (first | exact trivial | exact insB_map _ | exact inB_px rfl | refine And.intro ?_ ?_))
          | false =>
            have hr0 : cr = [] := hco.none rfl
            subst hr0
            repeat (first | (with_reducible first | apply aw_seq | apply aw_reg | apply rp_nil | apply ae_norm | apply aw_block | apply aw_exit | apply ae_exit | apply be_exit | apply aw_skip) | ((first | (with_reducible apply rp) | ((with_reducible apply rpG); exact rfl; exact gval_t rfl; (focus repeat' (first | exact trivial | exact fun h => h | refine And.intro ?_ ?_)); intro hgd; have hgd0 := hgd; (try simp only [decide_eq_true_eq, Bool.and_eq_true, Bool.not_eq_true', beq_iff_eq] at hgd))); first | (exact does_index_flat (d := d) (c := ⟨false, []⟩) (tyOk rfl) rfl (tyOk rfl) rfl rfl rfl rfl rfl h4 hcc) | ((with_reducible apply does_move); (conv => lhs; whnf)) | ((with_reducible apply does_and); exact rfl; exact rfl; exact rfl; exact fun h => h) | ((with_reducible apply does_fieldAddr); exact tyOk rfl; exact rfl; exact rfl; decide; exact rfl) | ((with_reducible apply does_load_var); exact tyOk rfl; exact rfl; exact rfl; exact rfl; exact rfl) | ((with_reducible apply does_gt); exact rfl; exact rfl) | ((with_reducible apply does_add); exact rfl; exact rfl; omega; omega) | ((with_reducible apply does_not); exact rfl) | ((with_reducible apply does_len_map); exact tyOk rfl; exact rfl; exact rfl)) | ((with_reducible apply rp1); ((with_reducible apply does_alloc); exact tyOk rfl; exact rfl)) | ((with_reducible apply rpN); ((with_reducible apply does_store_whole); exact tyOk rfl; exact rfl; exact rfl; exact rfl; exact rfl; exact rfl)) | ((with_reducible apply aw_cond); exact rfl; (focus (intro hd; (cases hd; done))); (intro hd; clear hd)) | ((with_reducible apply aw_cond); exact rfl; rotate_left; (focus (intro hd; (cases hd; done))); (intro hd; clear hd)))
            refine ⟨_, _, ?_, ?_, k + 1, by omega, rfl, rfl⟩
            · omega
            · refine forget_of [] (by repeat' (first | exact ks_nil | (refine ks_cons rfl (by exact SubA.refl _) ?_))) (by repeat' (first | exact trivial | exact kb_d rfl | refine And.intro ?_ ?_)) rfl (by repeat' (first | exact trivial | exact insB_map _ | exact inB_px rfl | refine And.intro ?_ ?_)) (by repeat' (first | exact trivial | exact insB_map _ | exact inB_px rfl | refine And.intro ?_ ?_))
        · have hke : k = 4 := by simp at hd; omega
          clear hd
          subst hke
          repeat (first | (with_reducible first | apply aw_seq | apply aw_reg | apply rp_nil | apply ae_norm | apply aw_exit | apply ae_exit | apply be_exit | apply be_norm | apply aw_skip) | ((with_reducible apply rp); first | (exact does_load_drawer (tyOk rfl) rfl rfl rfl rfl h4) | ((with_reducible apply does_call_flat); exact rfl; exact rfl; exact (k1); exact rfl) | ((with_reducible apply does_move); (conv => lhs; whnf)) | ((with_reducible apply does_assign); (conv => lhs; whnf)) | ((with_reducible apply does_ne); exact rfl; exact rfl) | ((with_reducible apply does_add); exact rfl; exact rfl; omega; omega)) | ((with_reducible apply aw_cond); exact rfl; (focus (intro hd; (cases hd; done))); (intro hd; clear hd)))
          refine ⟨_, _, ?_, ?_, i + 1, by omega, rfl, rfl⟩
          · omega
          · refine forget_of [] (by repeat' (first | exact ks_nil | (refine ks_cons rfl (by exact SubA.refl _) ?_))) (by repeat' (first | exact trivial | exact kb_d rfl | refine And.intro ?_ ?_)) rfl (by repeat' (first | exact trivial | exact insB_map _ | exact inB_px rfl | refine And.intro ?_ ?_)) (by repeat' (first | exact trivial | exact insB_map _ | exact inB_px rfl | refine And.intro ?_ ?_))
    · have hke : i = 2 := by simp at hd; omega
      clear hd
      subst hke
      repeat (first | (with_reducible first | apply aw_seq | apply aw_reg | apply rp_nil | apply ae_norm | apply aw_exit | apply ae_exit | apply be_exit | apply aw_ret | apply re_ret) | ((with_reducible apply rp); ((with_reducible apply does_assign); (conv => lhs; whnf))))
      (with_reducible apply ret_ok); (focus (repeat' (first | (with_reducible apply rv_nil) | (with_reducible apply rv_cons) | ((with_reducible apply rv_tmp); exact rfl)))); exact rfl; refine SubD.of_eq ?_
      rfl
end Go.Proofs.YtpaccaojgbfjdaaDoor

