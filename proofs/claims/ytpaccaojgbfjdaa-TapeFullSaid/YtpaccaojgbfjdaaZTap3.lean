/-
  disk.fresh, Write, New as contracts. No condition but that the disk may be.
-/
import Derived.Test.YtpaccaojgbfjdaaZTap2
namespace Go.Proofs.Ytpaccaojgbfjdaa
set_option linter.unusedSimpArgs false
set_option linter.unusedVariables false
open Go.RowKit

set_option maxHeartbeats 400000 in
theorem fresh_pg (d : Dk) (h : DkOk d) : PG Try.prog 56 [.d (dkD d)] [] [] (.ag [.ow 2000 d.lasts.length, .ow 2001 d.writes.length]) [] [(2000, .row 100 32 (d.lasts.map secC)), (2001, .row 106 33 (d.writes.map putC))] := by
  obtain ⟨lasts, writes⟩ := d
  obtain ⟨h1, h2, h3, h4, h5, h6⟩ := h
  dsimp only at *
  have b1 : ([] : List (List D)).length + (lasts.map secC).length ≤ 400 := by rw [List.length_map]; simp; omega
  have b2 : ([] : List (List D)).length + (writes.map putC).length ≤ 60 := by rw [List.length_map]; simp; omega
  refine ph_of_aw Try.func56 rfl (by kernel_rfl) mixed (by kernel_rfl) (by rw [Try.ntmps56]; exact Nat.le_of_ble_eq_true rfl) Try.results56 rfl ?_
  repeat (first | (with_reducible first | apply aw_seq | apply aw_reg | apply rp_nil | apply ae_norm | apply aw_regD | apply aw_ret | apply xh_ret) | ((with_reducible apply dr_nil); (first | kernel_rfl | exact rfl)) | ((with_reducible first | apply rp | apply dr); first | (exact (by (with_reducible apply does_build_own (out := [.ow 6 _, .ow 10 _])); exact tyOk rfl; exact rfl; exact rfl; (focus repeat' (first | exact rfl | refine ⟨_, _, rfl, rfl, Nat.le_of_ble_eq_true rfl, rfl, ?_⟩)))) | ((with_reducible apply does_fieldAddr); exact tyOk rfl; exact rfl; exact rfl; decide; exact rfl) | ((with_reducible apply does_load_var); exact tyOk rfl; exact rfl; exact rfl; exact rfl; exact rfl)) | ((with_reducible first | apply rp1 | apply dr1); first | ((with_reducible apply does_box_ag); exact rfl; exact rfl) | ((with_reducible apply does_alloc); exact tyOk rfl; exact rfl) | ((with_reducible apply does_buildSlice); exact tyOk rfl; exact rfl; exact tyOk rfl; exact rfl; exact rfl; (focus repeat' (first | exact trivial | refine And.intro rfl (And.intro rfl ?_))); decide; decide; exact rfl)) | ((with_reducible apply dr2); ((with_reducible apply does_append_own); exact tyOk rfl; exact rfl; exact tyOk rfl; exact rfl; exact rfl; exact rfl; decide; (dsimp only; omega); (dsimp only; omega); exact rfl)) | ((with_reducible apply drN); ((with_reducible apply does_store_wholeA); exact tyOk rfl; exact rfl; exact rfl; exact rfl; exact rfl; exact rfl)))
  (with_reducible apply reth_ok (l := [(2000, 6), (2001, 10)])); (focus (repeat' (first | (with_reducible apply rv_nil) | (with_reducible apply rv_cons) | ((with_reducible apply rv_row); exact rfl; exact rfl; exact tyOk rfl; exact rfl; exact Nat.le_of_ble_eq_true rfl)))); rotate_left; refine ⟨(by repeat' exact ks_nil), (by repeat' (first | exact trivial | exact rfl | refine And.intro ?_ ?_)), rfl, (by repeat' (first | exact trivial | refine And.intro ?_ ?_)), (by repeat' (first | exact trivial | refine And.intro ?_ ?_))⟩; refine SubA.of_eq ?_
  simp [resA1, A.ren, A.rens, renOf]
  exact ⟨rfl, rfl⟩
theorem does_build_put {P : Program} {dst : Option Nat} {ty : TypeId} {e : Operand → A} {β : Bx} {T : TypeId} {t : TyI} {r0 r1 : Bool} {x y : Operand} {a : D} {c : List D} (ht : mkTy P T = some t) (hk : t.kind = .struct [(0, 1, r0), (1, 32, r1)]) (hz : t.zero.length = 33) (hx : e x = .d a) (ha : (A.d a).cells = [.d a]) (ha1 : a.one = true) (hy : e y = .d (.ag c)) (hc : c.length = 32) (ho : c.all D.one = true) :
    Does P dst (.build T #[(0, x), (1, y)]) ty e β (.d (.ag (a :: c))) [] [] := by
  refine does_build (out := (a :: c).map .d) ht hk rfl ?_ (allD_of _)
  show Fills _ (t.zero.map .d) [(0, e x), (1, e y)] _
  rw [hx, hy]
  obtain ⟨z, zs, hzs⟩ : ∃ z zs, t.zero = z :: zs := by
    cases hq : t.zero with
    | nil => rw [hq] at hz; cases hz
    | cons z zs => exact ⟨z, zs, rfl⟩
  have hzl : zs.length = 32 := by rw [hzs, List.length_cons] at hz; omega
  rw [hzs]
  refine ⟨0, 1, rfl, by rw [ha]; rfl, by simp, by rw [ha]; simp [A.one, ha1], 1, 32, rfl, by show (c.map A.d).length = 32; rw [List.length_map, hc], by simp [putAt, ha, hzl], by show (c.map A.d).all A.one = true; rw [List.all_map]; exact ho, ?_⟩
  show (a :: c).map A.d = putAt (putAt ((z :: zs).map A.d) 0 (A.d a).cells) 1 (c.map A.d)
  rw [ha]
  simp [putAt, hc, hzl]
theorem sec_one (b : List UInt8) : (secC b).all D.one = true := by rw [List.all_map]; exact List.all_eq_true.2 fun x _ => rfl
set_option maxHeartbeats 4000000 in
theorem write_pc (d : Dk) (h : DkOk d) (hn : d.writes.length < 60) (i : Nat) (hi : i < d.lasts.length) (b : List UInt8) (hb : b.length = 32) : PC Try.prog 48 [dkD d, iD i, .ag (secC b)] (.tu [dkD ⟨d.lasts, d.writes ++ [(i, b)]⟩, iD 0]) := by
  have k1 := check_pc d h
  have f1 := fresh_pg d h
  obtain ⟨lasts, writes⟩ := d
  obtain ⟨h1, h2, h3, h4, h5, h6⟩ := h
  dsimp only at *
  have hput : putC (i, b) = iD i :: secC b := rfl
  have hbl : (secC b).length = 32 := by rw [List.length_map, hb]
  have hlt2 : ((i : Int)) < lasts.length := by omega
  obtain ⟨L, hL⟩ : ∃ L, lasts.map secC = L := ⟨_, rfl⟩
  obtain ⟨M, hM⟩ : ∃ M, writes.map putC = M := ⟨_, rfl⟩
  have hLl : lasts.length = L.length := by rw [← hL, List.length_map]
  have hMl : writes.length = M.length := by rw [← hM, List.length_map]
  unfold dkD dkC lastsD putsD at *
  dsimp only at *
  rw [List.map_append, hM, hL, List.map_cons, List.map_nil, hput]
  rw [hL, hM] at k1 f1
  rw [hLl, hMl] at f1
  rw [hLl] at hi hlt2 h1 h2
  rw [hMl] at hn h3
  clear hL hM hLl hMl h4 h5 h6 hput
  have hco := sec_one b
  generalize secC b = c at *
  have hco2 : (iD i :: c).all D.one = true := by rw [List.all_cons, hco]; rfl
  have hcl : (iD i :: c).length = 33 := by rw [List.length_cons, hbl]
  refine pc_of_aw Try.func48 rfl (by kernel_rfl) mixed (by kernel_rfl) (by rw [Try.ntmps48]; exact Nat.le_of_ble_eq_true rfl) Try.results48 ?_
  repeat (first | (with_reducible first | apply aw_seq | apply aw_reg | apply rp_nil | apply ae_norm | apply aw_ret | apply re_ret | apply aw_skip) | ((first | (with_reducible apply rp) | ((with_reducible apply rpG); exact rfl; exact gval_f rfl; (focus repeat' (first | exact trivial | exact fun h => h | refine And.intro ?_ ?_)); intro hgd; have hgd0 := hgd; (try simp only [decide_eq_true_eq, Bool.and_eq_true, Bool.not_eq_true', beq_iff_eq] at hgd))); first | ((with_reducible apply does_call_flat); exact rfl; exact rfl; exact (k1); exact rfl) | (exact does_load_all (tyOk rfl) rfl rfl rfl hbl) | (exact does_build_put (tyOk rfl) rfl rfl rfl rfl rfl rfl hbl hco) | (exact does_load_wholeA (tyOk rfl) rfl rfl rfl rfl) | ((with_reducible apply does_move); (conv => lhs; whnf)) | ((with_reducible apply does_assign); (conv => lhs; whnf)) | ((with_reducible apply does_or); exact rfl; exact rfl; exact rfl; exact fun h => h) | ((with_reducible apply does_fieldAddr); exact tyOk rfl; exact rfl; exact rfl; decide; exact rfl) | ((with_reducible apply does_load_var); exact tyOk rfl; exact rfl; exact rfl; exact rfl; exact rfl) | ((with_reducible apply does_eq); exact rfl; exact rfl) | ((with_reducible apply does_ne); exact rfl; exact rfl) | ((with_reducible apply does_lt); exact rfl; exact rfl) | ((with_reducible apply does_ge); exact rfl; exact rfl) | ((with_reducible apply does_len_sl); exact tyOk rfl; exact rfl; exact rfl)) | ((with_reducible apply rp1); first | (exact (by (with_reducible apply does_buildSlice (es := [iD i :: c])); exact tyOk rfl; exact rfl; exact tyOk rfl; exact rfl; exact rfl; exact ⟨hcl, hco2, trivial⟩; decide; decide; exact rfl)) | ((with_reducible apply does_box_ag); exact rfl; exact rfl) | ((with_reducible apply does_alloc); exact tyOk rfl; exact rfl)) | ((with_reducible apply rp2); ((with_reducible apply does_append_own); exact tyOk rfl; exact rfl; exact tyOk rfl; exact rfl; exact rfl; exact rfl; decide; (first | (dsimp only; simp only [List.length_map, List.length_append, List.length_cons, List.length_nil] at *; omega) | (simp only [List.length_map, List.length_append, List.length_cons, List.length_nil] at *; omega)); (first | (dsimp only; simp only [List.length_map, List.length_append, List.length_cons, List.length_nil] at *; omega) | (simp only [List.length_map, List.length_append, List.length_cons, List.length_nil] at *; omega)); exact rfl)) | ((with_reducible apply rpN); first | ((with_reducible apply does_store); exact tyOk rfl; exact rfl; exact rfl; (conv => lhs; whnf); exact rfl; exact rfl; exact Nat.le_of_ble_eq_true rfl) | ((with_reducible apply does_store_wholeA); exact tyOk rfl; exact rfl; exact rfl; exact rfl; exact rfl; exact rfl)) | ((with_reducible apply rpL); (refine does_callG' [] [(2000, 3000), (2001, 3001)] (ups := [(3000, .row 100 32 L), (3001, .row 106 33 M)]) (v := (.ag [.ow 3000 L.length, .ow 3001 M.length])) rfl (f1) rfl ?_ rfl ?_ ?_ rfl rfl rfl rfl rfl ?_ ?_ rfl rfl rfl; (focus repeat' exact trivial); (focus repeat' (first | exact trivial | exact inB_ow rfl | refine And.intro ?_ ?_)); (focus repeat' (first | exact trivial | exact inB_ow rfl | refine And.intro ?_ ?_)); (focus repeat' (first | exact trivial | exact inB_ow rfl | refine And.intro ?_ ?_)); (focus repeat' (first | exact trivial | exact inB_ow rfl | refine And.intro ?_ ?_))); exact lapp_nil _) | ((with_reducible apply aw_cond); exact rfl; (focus (intro hd; (first | (cases hd; done) | (exfalso; simp at hd; omega)))); (intro hd; clear hd)))
  (with_reducible apply ret_ok); (focus (repeat' (first | (with_reducible apply rv_nil) | (with_reducible apply rv_cons) | ((with_reducible apply rv_tmp); exact rfl) | ((with_reducible apply rv_row); exact rfl; exact rfl; exact tyOk rfl; exact rfl; exact Nat.le_of_ble_eq_true rfl)))); exact rfl; refine SubD.of_eq ?_
  rfl
end Go.Proofs.Ytpaccaojgbfjdaa

