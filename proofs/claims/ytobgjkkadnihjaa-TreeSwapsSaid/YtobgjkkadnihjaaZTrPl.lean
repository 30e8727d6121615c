/-
  plain: a tree as data. No condition but the shape, and few nodes.
-/
import Derived.Test.YtobgjkkadnihjaaZTrLay
namespace Go.Proofs.Ytobgjkkadnihjaa
set_option linter.unusedSimpArgs false
set_option linter.unusedVariables false
open Go.RowKit

theorem lay_px : ∀ (h : Nat) (t : Tn), Sh h t → ∀ X : List (List D), X.length + (layN X.length t).length ≤ 10000 → LayPX X t
  | 0, .node ks vs ts, hs, X, hX => by
    obtain ⟨h1, h2, h3, rfl⟩ := hs
    exact lay_step X ks vs [] h3 h1 (by simp) hX fun j t ht => by simp at ht
  | h + 1, .node ks vs ts, hs, X, hX => by
    obtain ⟨h1, h2, h3, h4, h5⟩ := hs
    exact lay_step X ks vs ts h3 h1 (by omega) hX fun j t ht => lay_px h t (h5 t (List.mem_of_getElem? ht))
theorem plain_nil : PC Try.prog 20 [.sc (.pointer none)] (treeD []) := by
  refine pc_of_aw Try.func20 rfl (by kernel_rfl) mixed (by kernel_rfl) (by rw [Try.ntmps20]; exact Nat.le_of_ble_eq_true rfl) Try.results20 ?_
  repeat (first | (with_reducible first | apply aw_seq | apply aw_reg | apply rp_nil | apply ae_norm | apply aw_ret | apply re_ret | apply aw_skip) | ((with_reducible apply rp); first | (exact does_ne_nn ptrNode rfl rfl) | ((with_reducible apply does_move); (conv => lhs; whnf)) | ((with_reducible apply does_load_row); exact tyOk rfl; exact rfl; exact rfl; exact rfl; exact Nat.le_of_ble_eq_true rfl; exact rfl)) | ((with_reducible apply rp1); ((with_reducible apply does_alloc); exact tyOk rfl; exact rfl)) | ((with_reducible apply rpN); ((with_reducible apply does_store_whole); exact tyOk rfl; exact rfl; exact rfl; exact rfl; exact rfl; exact rfl)) | ((with_reducible apply aw_cond); exact rfl; (focus (intro hd; (cases hd; done))); (intro hd; clear hd)))
  (with_reducible apply ret_ok); (focus (repeat' (first | (with_reducible apply rv_nil) | (with_reducible apply rv_cons) | ((with_reducible apply rv_rowd); exact rfl; exact rfl; exact tyOk rfl; exact rfl; exact rfl)))); exact rfl
  exact SubD.ag (SubDs.cons (SubD.nil 3) (fun _ => rfl) SubDs.nil)
theorem plain_px (h : Nat) (t : Tn) (hs : Sh h t) (hl : (layN 0 t).length ≤ 10000) : PX Try.prog 20 [.px 1000 0] [(1000, .res (treeR TQ t))] [] (treeD (layN 0 t)) [(1000, .res (treeR TQ t))] [] := by
  have c1 := lay_px h t hs [] (by simpa using hl)
  unfold LayPX at c1
  rw [List.nil_append] at c1
  unfold treeD nodesD
  generalize hcs : (layN ([] : List (List D)).length t).map nodeC = cs at *
  refine px_of_aw Try.func20 rfl (by kernel_rfl) mixed (by kernel_rfl) (by rw [Try.ntmps20]; exact Nat.le_of_ble_eq_true rfl) Try.results20 rfl ?_
  repeat (with_reducible apply aw_seq)
  repeat (first | (refine aw_exR1 (id := 3) mixed (fun C ac w h => ent_nilF (E := 41) (sz := 3) 3 0 2001 rfl rfl rfl C ac w h) ?_; (with_reducible apply aw_reg)) | (with_reducible first | apply aw_seq | apply aw_reg | apply rp_nil | apply ae_norm | apply aw_ret | apply xe_ret) | ((with_reducible apply rp); first | (exact does_ne_px ptrNode rfl rfl) | (exact does_load_wholeA (tyOk rfl) rfl rfl rfl rfl) | ((with_reducible apply does_move); (conv => lhs; whnf))) | ((with_reducible apply rp1); ((with_reducible apply does_alloc); exact tyOk rfl; exact rfl)) | ((with_reducible apply rpN); (exact does_store_wholeA (tyOk rfl) rfl rfl rfl rfl rfl)) | ((with_reducible apply rpL); (refine does_callX [(1001, 3), (2000, 2001)] [(1001, 3), (2000, 7)] (ups := [(1000, .res (treeR TQ t)), (3, .var 26 [.ow 7 cs.length]), (7, .row 41 3 cs), (2001, .dead)]) rfl (c1) rfl ?_ rfl ?_ ?_ rfl rfl rfl rfl rfl ?_ rfl rfl; (focus repeat' (first | exact trivial | exact rfl | refine And.intro ?_ ?_)); (focus repeat' (first | exact trivial | exact inB_ow rfl | exact inB_px rfl | refine And.intro ?_ ?_)); (focus repeat' (first | exact trivial | exact inB_ow rfl | exact inB_px rfl | refine And.intro ?_ ?_)); (focus repeat' (first | exact trivial | exact inB_ow rfl | exact inB_px rfl | refine And.intro ?_ ?_))); exact lapp_nil _) | ((with_reducible apply aw_cond); exact rfl; rotate_left; (focus (intro hd; (cases hd; done))); (intro hd; clear hd)))
  (with_reducible apply retx_ok (l := [])); (focus (repeat' (first | (with_reducible apply rv_nil) | (with_reducible apply rv_cons) | ((with_reducible apply rv_row); exact rfl; exact rfl; exact tyOk rfl; exact rfl; exact Nat.le_of_ble_eq_true rfl)))); exact rfl; exact SubD.refl _; refine ⟨(by repeat' (first | exact ks_nil | (refine ks_cons rfl (by exact SubA.refl _) ?_))), (by repeat' (first | exact trivial | exact rfl | refine And.intro ?_ ?_)), rfl, (by repeat' (first | exact trivial | exact inB_px rfl | refine And.intro ?_ ?_)), (by repeat' (first | exact trivial | exact inB_px rfl | refine And.intro ?_ ?_))⟩
end Go.Proofs.Ytobgjkkadnihjaa

