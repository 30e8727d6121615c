/-
  Find. No condition but that the nodes are in order.
-/
import Derived.Test.YtobgjkkadnihjaaZTrChk
namespace Go.Proofs.Ytobgjkkadnihjaa
set_option linter.unusedSimpArgs false
set_option linter.unusedVariables false
open Go.RowKit

def findH (key : ByteArray) : Nat → Tn → Option Int
  | h, .node ks vs ts =>
    if (seekF key ks).2 = true then some (vs.getD (seekF key ks).1 0)
    else match h with
      | 0 => none
      | h + 1 => findH key h (ts.getD (seekF key ks).1 noTn)
def resF : Option Int → D
  | some v => .tu [iD v, iD 0]
  | none => .tu [iD 0, iD 5]
theorem find_nil (key : ByteArray) : PC Try.prog 10 [treeD [], strD key] (resF none) := by
  have c1 := check_nil
  have r1 := root_nil
  unfold treeD nodesD at *
  have c1 : PC _ _ [.ag [.sl 3 []]] _ := c1
  have r1 : PG _ _ [.d (.ag [.sl 3 []])] _ _ _ _ _ := r1
  show PC _ _ [.ag [.sl 3 []], strD key] (.tu [iD 0, iD 5])
  refine pc_of_aw Try.func10 rfl (by kernel_rfl) mixed (by kernel_rfl) (by rw [Try.ntmps10]; exact Nat.le_of_ble_eq_true rfl) Try.results10 ?_
  repeat (with_reducible apply aw_seq)
  repeat (first | (with_reducible first | apply aw_seq | apply aw_reg | apply rp_nil | apply ae_norm | apply aw_block | apply aw_skip) | ((with_reducible apply rp); first | ((with_reducible apply does_call_flat); exact rfl; exact rfl; exact (c1); exact rfl) | ((with_reducible apply does_move); (conv => lhs; whnf)) | ((with_reducible apply does_assign); (conv => lhs; whnf)) | ((with_reducible apply does_load_row); exact tyOk rfl; exact rfl; exact rfl; exact rfl; exact Nat.le_of_ble_eq_true rfl; exact rfl) | ((with_reducible apply does_ne); exact rfl; exact rfl)) | ((with_reducible apply rp1); ((with_reducible apply does_box_ag); exact rfl; exact rfl)) | ((with_reducible apply rpL); (refine does_callG' [] [] (ups := []) (v := (.d (.sc (.pointer none)))) rfl (r1) rfl ?_ rfl ?_ ?_ rfl rfl rfl rfl rfl ?_ ?_ rfl rfl rfl; (focus repeat' exact trivial); (focus repeat' (first | exact trivial | refine And.intro ?_ ?_)); (focus repeat' (first | exact trivial | refine And.intro ?_ ?_)); (focus repeat' (first | exact trivial | refine And.intro ?_ ?_)); (focus repeat' (first | exact trivial | refine And.intro ?_ ?_))); exact lapp_nil _) | ((with_reducible apply aw_cond); exact rfl; (focus (intro hd; (cases hd; done))); (intro hd; clear hd)))
  refine aw_loop (fun n s => n = 0 ∧ s = ⟨[(1, .d (strD key)), (7, .d (.sc (.pointer none)))], []⟩) _ _ ?_ ⟨rfl, rfl⟩ ?_
  · refine forget_of [] (by repeat' (first | exact ks_nil | (refine ks_cons rfl (by exact SubA.refl _) ?_))) (by repeat' exact trivial) rfl (by repeat' (first | exact trivial | refine And.intro ?_ ?_)) (by repeat' (first | exact trivial | refine And.intro ?_ ?_))
  · rintro n s1 ⟨rfl, rfl⟩
    repeat (first | (with_reducible first | apply aw_seq | apply aw_reg | apply rp_nil | apply ae_norm | apply aw_exit | apply ae_exit | apply be_exit | apply aw_ret | apply re_ret) | ((with_reducible apply rp); first | (exact does_ne_nn ptrNode rfl rfl) | ((with_reducible apply does_move); (conv => lhs; whnf)) | ((with_reducible apply does_assign); (conv => lhs; whnf))) | ((with_reducible apply aw_cond); exact rfl; (focus (intro hd; (cases hd; done))); (intro hd; clear hd)))
    (with_reducible apply ret_ok); (focus (repeat' (first | (with_reducible apply rv_nil) | (with_reducible apply rv_cons) | ((with_reducible apply rv_tmp); exact rfl)))); exact rfl; refine SubD.of_eq ?_
    rfl
theorem find_pc (key : ByteArray) (ns : List Nd) (h : Nat) (t : Tn) (c1 : PC Try.prog 11 [treeD ns] (iD 0)) (hs : Sh h t) (hl : Lies ns 0 t) : PC Try.prog 10 [treeD ns, strD key] (resF (findH key h t)) := by
  have r1 := root_pg ns h t hs hl
  unfold treeD nodesD at *
  generalize hcs : ns.map nodeC = cs at *
  refine pc_of_aw Try.func10 rfl (by kernel_rfl) mixed (by kernel_rfl) (by rw [Try.ntmps10]; exact Nat.le_of_ble_eq_true rfl) Try.results10 ?_
  repeat (with_reducible apply aw_seq)
  repeat (first | (with_reducible first | apply aw_seq | apply aw_reg | apply rp_nil | apply ae_norm | apply aw_block | apply aw_skip) | ((with_reducible apply rp); first | ((with_reducible apply does_call_flat); exact rfl; exact rfl; exact (c1); exact rfl) | ((with_reducible apply does_move); (conv => lhs; whnf)) | ((with_reducible apply does_assign); (conv => lhs; whnf)) | ((with_reducible apply does_load_row); exact tyOk rfl; exact rfl; exact rfl; exact rfl; exact Nat.le_of_ble_eq_true rfl; exact rfl) | ((with_reducible apply does_ne); exact rfl; exact rfl)) | ((with_reducible apply rp1); ((with_reducible apply does_box_ag); exact rfl; exact rfl)) | ((with_reducible apply rpL); (refine does_callG' [] [(2000, 16)] (ups := [(16, .res (treeR TQ t))]) (v := (.px 16 0)) rfl (r1) rfl ?_ rfl ?_ ?_ rfl rfl rfl rfl rfl ?_ ?_ rfl rfl rfl; (focus repeat' exact trivial); (focus repeat' (first | exact trivial | exact inB_px rfl | refine And.intro ?_ ?_)); (focus repeat' (first | exact trivial | exact inB_px rfl | refine And.intro ?_ ?_)); (focus repeat' (first | exact trivial | exact inB_px rfl | refine And.intro ?_ ?_)); (focus repeat' (first | exact trivial | exact inB_px rfl | refine And.intro ?_ ?_))); exact lapp_nil _) | ((with_reducible apply aw_cond); exact rfl; (focus (intro hd; (cases hd; done))); (intro hd; clear hd)))
  refine aw_loop (fun n s => ∃ g t2, n = g ∧ Sh g t2 ∧ findH key g t2 = findH key h t ∧ s = ⟨[(1, .d (strD key)), (7, .px 2000 0)], [(2000, .res (treeR TQ t2))]⟩) _ _ ?_ ⟨h, t, rfl, hs, rfl, rfl⟩ ?_
  · refine forget_of [(2000, 16)] (by repeat' (first | exact ks_nil | (refine ks_cons rfl (by exact SubA.refl _) ?_))) (by repeat' (first | exact trivial | exact rfl | refine And.intro ?_ ?_)) rfl (by repeat' (first | exact trivial | exact inB_px rfl | refine And.intro ?_ ?_)) (by repeat' (first | exact trivial | exact inB_px rfl | refine And.intro ?_ ?_))
  · rintro n s1 ⟨g, t2, rfl, hs2, hf, rfl⟩
    obtain ⟨ks, vs, ts⟩ := t2
    have hks : ks.length ≤ 3 ∧ vs.length = ks.length := by
      cases n with
      | zero => exact ⟨hs2.2.2.1, hs2.1⟩
      | succ n => exact ⟨hs2.2.2.1, hs2.1⟩
    obtain ⟨hks, hvs⟩ := hks
    have s1 := seek_pc ks key (by omega)
    have hle := seekF_le key ks
    have hltS := seekF_lt key ks
    have e0 : ∀ ts, (seekF key ks).2 = false → findH key 0 (.node ks vs ts) = none := fun ts hb => by rw [findH, hb]; rfl
    have e1 : ∀ g, (seekF key ks).2 = false → findH key (g + 1) (.node ks vs ts) = findH key g (ts.getD (seekF key ks).1 noTn) := fun g hb => by rw [findH, hb]; rfl
    have e2 : ∀ g, (seekF key ks).2 = true → findH key g (.node ks vs ts) = some (vs.getD (seekF key ks).1 0) := fun g hb => by cases g <;> rw [findH, if_pos hb]
    rcases hb : (seekF key ks).2 with _ | _
    · rw [hb] at s1
      generalize (seekF key ks).1 = i at *
      cases n with
      | zero =>
        have hts : ts = [] := hs2.2.2.2
        subst hts
        repeat (first | (refine aw_exR1 (id := 6) mixed (fun C ac w h => ent_open (Q := TQ) 2000 3001 3002 3003 rfl rfl rfl rfl (by decide) (by decide) (by decide) h) ?_; (with_reducible apply aw_reg)) | (with_reducible first | apply aw_seq | apply aw_reg | apply rp_nil | apply ae_norm | apply aw_exit | apply ae_exit | apply be_exit | apply aw_ret | apply re_ret | apply aw_skip) | ((with_reducible apply be_other); exact rfl) | ((with_reducible apply rp); first | (exact does_ne_px ptrNode rfl rfl) | ((with_reducible apply does_call_flat); exact rfl; exact rfl; exact (s1); exact rfl) | ((with_reducible apply does_move); (conv => lhs; whnf)) | ((with_reducible apply does_assign); (conv => lhs; whnf)) | ((with_reducible apply does_fieldAddr); exact tyOk rfl; exact rfl; exact rfl; decide; exact rfl) | ((with_reducible apply does_load_var); exact tyOk rfl; exact rfl; exact rfl; exact rfl; exact rfl) | ((with_reducible apply does_eq); exact rfl; exact rfl) | ((with_reducible apply does_extract); exact rfl; exact rfl) | ((with_reducible apply does_len_ow); exact tyOk rfl; exact rfl; exact rfl) | ((with_reducible apply does_nilCheck); exact rfl)) | ((with_reducible apply aw_cond); exact rfl; (focus (intro hd; (cases hd; done))); (intro hd; clear hd)) | ((with_reducible apply aw_cond); exact rfl; rotate_left; (focus (intro hd; (cases hd; done))); (intro hd; clear hd)))
        (with_reducible apply ret_ok); (focus (repeat' (first | (with_reducible apply rv_nil) | (with_reducible apply rv_cons) | ((with_reducible apply rv_tmp); exact rfl)))); exact rfl; refine SubD.of_eq ?_
        rw [← hf, e0 [] hb]
        rfl
      | succ g =>
        obtain ⟨_, _, _, h4, h5⟩ := hs2
        have hlt : i < ts.length := by omega
        obtain ⟨l1, t0, l2, hts, hl1⟩ := split_at hlt
        have hget : ts.getD i noTn = t0 := by rw [hts, ← hl1]; simp
        have hne : ((ts.length : Int) == 0) = false := by rw [beq_eq_false_iff_ne]; omega
        repeat (first | (refine aw_exR1 (id := 6) mixed (fun C ac w h => ent_open (Q := TQ) 2000 3001 3002 3003 rfl rfl rfl rfl (by decide) (by decide) (by decide) h) ?_; (with_reducible apply aw_reg)) | (with_reducible first | apply aw_seq | apply aw_reg | apply rp_nil | apply ae_norm | apply be_norm | apply aw_skip) | ((with_reducible apply rp); first | (exact does_ne_px ptrNode rfl rfl) | ((with_reducible apply does_call_flat); exact rfl; exact rfl; exact (s1); exact rfl) | ((with_reducible apply does_move); (conv => lhs; whnf)) | ((with_reducible apply does_assign); (conv => lhs; whnf)) | ((with_reducible apply does_fieldAddr); exact tyOk rfl; exact rfl; exact rfl; decide; exact rfl) | ((with_reducible apply does_load_var); exact tyOk rfl; exact rfl; exact rfl; exact rfl; exact rfl) | ((with_reducible apply does_index_own); exact tyOk rfl; exact rfl; exact tyOk rfl; exact rfl; exact rfl; exact rfl; omega) | ((with_reducible apply does_eq); exact rfl; exact rfl) | ((with_reducible apply does_extract); exact rfl; exact rfl) | ((with_reducible apply does_len_ow); exact tyOk rfl; exact rfl; exact rfl) | ((with_reducible apply does_nilCheck); exact rfl)) | ((with_reducible apply rp2); (exact does_load_kid (Q := TQ) (l1 := l1) (l2 := l2) (t0 := t0) (tyOk rfl) rfl rfl (by rw [← hts]; exact rfl) hl1 rfl)) | ((with_reducible apply aw_cond); exact rfl; (focus (intro hd; (first | (cases hd; done) | (exact absurd (hd.symm.trans (by assumption : _ = false)) (by decide))))); (intro hd; clear hd)) | ((with_reducible apply aw_cond); exact rfl; rotate_left; (focus (intro hd; (first | (cases hd; done) | (exact absurd (hd.symm.trans (by assumption : _ = false)) (by decide))))); (intro hd; clear hd)))
        refine ⟨g, _, by omega, ?_, g, t0, rfl, h5 t0 (by rw [hts]; simp), ?_, rfl⟩
        · refine forget_of [(2000, 48)] (by repeat' (first | exact ks_nil | (refine ks_cons rfl (by exact SubA.refl _) ?_))) (by repeat' (first | exact trivial | exact rfl | refine And.intro ?_ ?_)) rfl (by repeat' (first | exact trivial | exact inB_px rfl | refine And.intro ?_ ?_)) (by repeat' (first | exact trivial | exact inB_px rfl | refine And.intro ?_ ?_))
        · rw [← hf, e1 g hb, hget]
    · rw [hb] at s1
      have hlt := hltS hb
      have e2 := e2 n hb
      generalize (seekF key ks).1 = i at *
      obtain ⟨v, hv⟩ : ∃ v, vs[i]? = some v := ⟨_, List.getElem?_eq_getElem (by omega)⟩
      rw [List.getD_eq_getElem?_getD, hv, Option.getD_some] at e2
      repeat (first | (refine aw_exR1 (id := 6) mixed (fun C ac w h => ent_open (Q := TQ) 2000 3001 3002 3003 rfl rfl rfl rfl (by decide) (by decide) (by decide) h) ?_; (with_reducible apply aw_reg)) | (with_reducible first | apply aw_seq | apply aw_reg | apply rp_nil | apply ae_norm | apply aw_ret | apply ae_ret | apply be_ret | apply re_ret) | ((with_reducible apply rp); first | (exact does_ne_px ptrNode rfl rfl) | ((with_reducible apply does_call_flat); exact rfl; exact rfl; exact (s1); exact rfl) | ((with_reducible apply does_move); (conv => lhs; whnf)) | ((with_reducible apply does_assign); (conv => lhs; whnf)) | ((with_reducible apply does_fieldAddr); exact tyOk rfl; exact rfl; exact rfl; decide; exact rfl) | ((with_reducible apply does_load_var); exact tyOk rfl; exact rfl; exact rfl; exact rfl; exact rfl) | ((with_reducible apply does_load_own); exact tyOk rfl; exact rfl; exact rfl; exact rfl; exact map_get (by assumption); exact rfl) | ((with_reducible apply does_index_own); exact tyOk rfl; exact rfl; exact tyOk rfl; exact rfl; exact rfl; exact rfl; omega) | ((with_reducible apply does_extract); exact rfl; exact rfl) | ((with_reducible apply does_nilCheck); exact rfl)) | ((with_reducible apply aw_cond); exact rfl; rotate_left; (focus (intro hd; (cases hd; done))); (intro hd; clear hd)))
      (with_reducible apply ret_ok); (focus (repeat' (first | (with_reducible apply rv_nil) | (with_reducible apply rv_cons) | ((with_reducible apply rv_tmp); exact rfl)))); exact rfl; refine SubD.of_eq ?_
      rw [← hf, e2]
      rfl
end Go.Proofs.Ytobgjkkadnihjaa

