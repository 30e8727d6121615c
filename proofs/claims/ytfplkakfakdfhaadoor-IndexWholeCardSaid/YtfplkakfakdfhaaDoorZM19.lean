/-
  Put, Cut, List. No condition but that the nodes are in order.
-/
import Derived.Test.YtfplkakfakdfhaaDoorZM17
import Derived.Test.YtfplkakfakdfhaaDoorZTrEn
import Derived.Test.YtfplkakfakdfhaaDoorZM18
import Derived.Test.YtfplkakfakdfhaaDoorZM15
import Derived.Test.YtfplkakfakdfhaaDoorZM12
namespace Go.Proofs.YtfplkakfakdfhaaDoor
set_option linter.unusedSimpArgs false
set_option linter.unusedVariables false
open Go.RowKit

def nodesO : Option (Nat × Tn) → List Nd
  | none => []
  | some (_, t) => layN 0 t
theorem count_fold : ∀ (l : List (ByteArray × Int)) (n : Int), foldS (fun (s : Int) (_ : ByteArray) (_ : Int) => s + 1) n l = n + l.length
  | [], n => by show n = n + ((0 : Nat) : Int); omega
  | p :: l, n => by
    have := count_fold l (n + 1)
    show foldS (fun (s : Int) (_ : ByteArray) (_ : Int) => s + 1) (n + 1) l = n + (((p :: l).length : Nat) : Int)
    rw [this, List.length_cons]
    omega
theorem put_nil (key : ByteArray) (val : Int) (hk : key.size ≤ 60) : PC Tryd.prog 15 [treeD [], strD key, iD val] (.tu [treeD (nodesO (growO key val none)), iD 0]) := by
  have c1 := check_nil
  have f1 := find_nil key
  have r1 := root_nil
  have e1 := each_n_nil 0
  have g1 := grown_nil key val
  have p1 := plain_px 0 (.node [key] [val] []) ⟨rfl, Nat.le_refl _, Nat.le_of_ble_eq_true rfl, rfl⟩ (by simp [layN, layF])
  show PC _ _ _ (.tu [treeD (layN 0 (.node [key] [val] [])), iD 0])
  unfold treeD nodesD at *
  generalize (layN 0 (.node [key] [val] [])).map nodeC = cs2 at *
  have c1 : PC _ _ [.ag [.sl 3 []]] _ := c1
  have f1 : PC _ _ [.ag [.sl 3 []], strD key] (.tu [iD 0, iD 5]) := f1
  have r1 : PG _ _ [.d (.ag [.sl 3 []])] _ _ _ _ _ := r1
  have hkb : decide ((key.size : Int) > 60) = false := decide_eq_false (by omega)
  show PC _ _ [.ag [.sl 3 []], strD key, iD val] _
  refine pc_of_aw Tryd.func15 rfl (by kernel_rfl) mixed (by kernel_rfl) (by rw [Tryd.ntmps15]; exact Nat.le_of_ble_eq_true rfl) Tryd.results15 ?_
  repeat (with_reducible apply aw_seq)
  repeat (first | (with_reducible first | apply aw_seq | apply aw_reg | apply rp_nil | apply ae_norm | apply aw_ret | apply re_ret | apply aw_skip) | ((first | (with_reducible apply rp) | ((with_reducible apply rpG); exact rfl; exact gval_t rfl; (focus repeat' (first | exact trivial | exact fun h => h | refine And.intro ?_ ?_)); intro hgd; have hgd0 := hgd; (try simp only [decide_eq_true_eq, Bool.and_eq_true, Bool.not_eq_true', beq_iff_eq] at hgd))); first | ((with_reducible apply does_call_flat); exact rfl; exact rfl; exact (c1); exact rfl) | ((with_reducible apply does_call_flat); exact rfl; exact rfl; exact (f1); exact rfl) | ((with_reducible apply does_move); (conv => lhs; whnf)) | ((with_reducible apply does_assign); (conv => lhs; whnf)) | ((with_reducible apply does_and); exact rfl; exact rfl; exact rfl; exact fun h => h) | ((with_reducible apply does_load_var); exact tyOk rfl; exact rfl; exact rfl; exact rfl; exact rfl) | ((with_reducible apply does_load_row); exact tyOk rfl; exact rfl; exact rfl; exact rfl; exact Nat.le_of_ble_eq_true rfl; exact rfl) | ((with_reducible apply does_eq); exact rfl; exact rfl) | ((with_reducible apply does_ne); exact rfl; exact rfl) | ((with_reducible apply does_gt); exact rfl; exact rfl) | ((with_reducible apply does_extract); exact rfl; exact rfl) | ((with_reducible apply does_len_str); exact tyOk rfl; exact rfl; exact rfl) | ((with_reducible apply does_makeFunc_l); (focus repeat' (first | exact evs_nil rfl | (apply evs_cons; exact rfl; (conv => lhs; whnf)))); (focus repeat' (first | exact evs_nil rfl | (apply evs_cons; exact rfl; (conv => lhs; whnf)))))) | ((with_reducible apply rp1); first | ((with_reducible apply does_box_ag); exact rfl; exact rfl) | ((with_reducible apply does_alloc); exact tyOk rfl; exact rfl)) | ((with_reducible apply rpN); first | ((with_reducible apply does_store); exact tyOk rfl; exact rfl; exact rfl; (conv => lhs; whnf); exact rfl; exact rfl; exact Nat.le_of_ble_eq_true rfl) | ((with_reducible apply does_store_whole); exact tyOk rfl; exact rfl; exact rfl; exact rfl; exact rfl; exact rfl)) | ((with_reducible apply rpL); (refine does_callG' [] [] (ups := []) (v := (.d (.sc (.pointer none)))) rfl (r1) rfl ?_ rfl ?_ ?_ rfl rfl rfl rfl rfl ?_ ?_ rfl rfl rfl; (focus repeat' (first | exact trivial | exact rfl | refine And.intro ?_ ?_)); (focus repeat' (first | exact trivial | exact inB_px rfl | refine And.intro ?_ ?_)); (focus repeat' (first | exact trivial | exact inB_px rfl | refine And.intro ?_ ?_)); (focus repeat' (first | exact trivial | exact inB_px rfl | refine And.intro ?_ ?_)); (focus repeat' (first | exact trivial | exact inB_px rfl | refine And.intro ?_ ?_))); exact lapp_nil _) | ((with_reducible apply rpL); (refine does_callX [(1001, 11)] [(1001, 11)] (ups := [(11, .var 3 [.d (iD 0)])]) rfl (e1) rfl ?_ rfl ?_ ?_ rfl rfl rfl rfl rfl ?_ rfl rfl; (focus repeat' (first | exact trivial | exact rfl | refine And.intro ?_ ?_)); (focus repeat' (first | exact trivial | exact inB_px rfl | refine And.intro ?_ ?_)); (focus repeat' (first | exact trivial | exact inB_px rfl | refine And.intro ?_ ?_)); (focus repeat' (first | exact trivial | exact inB_px rfl | refine And.intro ?_ ?_))); exact lapp_nil _) | ((with_reducible apply rpL); (refine does_callG' [] [(2000, 43)] (ups := [(43, .res (treeR TQ (.node [key] [val] [])))]) (v := (.px 43 0)) rfl (g1) rfl ?_ rfl ?_ ?_ rfl rfl rfl rfl rfl ?_ ?_ rfl rfl rfl; (focus repeat' (first | exact trivial | exact rfl | refine And.intro ?_ ?_)); (focus repeat' (first | exact trivial | exact inB_px rfl | refine And.intro ?_ ?_)); (focus repeat' (first | exact trivial | exact inB_px rfl | refine And.intro ?_ ?_)); (focus repeat' (first | exact trivial | exact inB_px rfl | refine And.intro ?_ ?_)); (focus repeat' (first | exact trivial | exact inB_px rfl | refine And.intro ?_ ?_))); exact lapp_nil _) | ((with_reducible apply rpL); (refine does_callX [(1000, 43)] [(1000, 43)] (ups := [(43, .res (treeR TQ (.node [key] [val] [])))]) rfl (p1) rfl ?_ rfl ?_ ?_ rfl rfl rfl rfl rfl ?_ rfl rfl; (focus repeat' (first | exact trivial | exact rfl | refine And.intro ?_ ?_)); (focus repeat' (first | exact trivial | exact inB_px rfl | refine And.intro ?_ ?_)); (focus repeat' (first | exact trivial | exact inB_px rfl | refine And.intro ?_ ?_)); (focus repeat' (first | exact trivial | exact inB_px rfl | refine And.intro ?_ ?_))); exact lapp_nil _) | ((with_reducible apply aw_cond); exact rfl; (focus (intro hd; (first | (cases hd; done) | (exfalso; simp at hd; omega)))); (intro hd; clear hd)))
  (with_reducible apply ret_ok); (focus (repeat' (first | (with_reducible apply rv_nil) | (with_reducible apply rv_cons) | ((with_reducible apply rv_tmp); exact rfl) | ((with_reducible apply rv_rowd); exact rfl; exact rfl; exact tyOk rfl; exact rfl; exact rfl)))); exact rfl; refine SubD.of_eq ?_
  rfl
theorem put_ok (key : ByteArray) (val : Int) (ns : List Nd) (h : Nat) (t : Tn) (hk : key.size ≤ 60) (c1 : PC Tryd.prog 10 [treeD ns] (iD 0)) (hs : Sh h t) (hl : Lies ns 0 t) (hit : (items t).length ≤ 100)
    (hroom : (∃ v, findH key h t = some v) ∨ (findH key h t = none ∧ (items t).length < 100)) (hlay : (nodesO (growO key val (some (h, t)))).length ≤ 10000) : PC Tryd.prog 15 [treeD ns, strD key, iD val] (.tu [treeD (nodesO (growO key val (some (h, t)))), iD 0]) := by
  have f1 := find_pc key ns h t c1 hs hl
  have r1 := root_pg ns h t hs hl
  have e1 := each_n h t hs 0 ⟨Int.le_refl _, by omega⟩
  have u1 := put_pg key val h t hs
  obtain ⟨sh1, sh2⟩ := putH_sh key val h t hs
  rw [count_fold] at e1
  unfold EachPX_n at e1
  have hkb : decide ((key.size : Int) > 60) = false := decide_eq_false (by omega)
  obtain ⟨e, hfr, hfull⟩ : ∃ e : Int, (∃ v : Int, resF (findH key h t) = .tu [iD v, iD e]) ∧ (((e != 0) && ((0 + ((items t).length : Int)) == 100)) = false) := by
    rcases hroom with ⟨v, hv⟩ | ⟨hv, hlt⟩
    · exact ⟨0, ⟨v, by rw [hv]; rfl⟩, rfl⟩
    · refine ⟨5, ⟨0, by rw [hv]; rfl⟩, ?_⟩
      have : ((0 + ((items t).length : Int)) == 100) = false := by rw [beq_eq_false_iff_ne]; omega
      rw [this]; rfl
  obtain ⟨v0, hfr⟩ := hfr
  rw [hfr] at f1
  generalize (0 + ((items t).length : Int)) = cnt at *
  rcases ho : putH key val h t with ⟨t1, q⟩
  rw [ho] at u1 sh1 sh2
  rcases q with _ | ⟨m, v, r⟩
  · have hg : growO key val (some (h, t)) = some (h, t1) := by simp only [growO, ho]
    rw [hg] at hlay ⊢
    have g1 := grown_same key val t t1 u1
    have p1 := plain_px h t1 sh1 hlay
    show PC _ _ _ (.tu [treeD (layN 0 t1), iD 0])
    unfold treeD nodesD at *
    generalize (layN 0 t1).map nodeC = cs2 at *
    generalize hcs : ns.map nodeC = cs at *
    refine pc_of_aw Tryd.func15 rfl (by kernel_rfl) mixed (by kernel_rfl) (by rw [Tryd.ntmps15]; exact Nat.le_of_ble_eq_true rfl) Tryd.results15 ?_
    repeat (with_reducible apply aw_seq)
    repeat (first | (with_reducible first | apply aw_seq | apply aw_reg | apply rp_nil | apply ae_norm | apply aw_skip) | ((first | (with_reducible apply rp) | ((with_reducible apply rpG); exact rfl; exact gval_t rfl; (focus repeat' (first | exact trivial | exact fun h => h | refine And.intro ?_ ?_)); intro hgd; have hgd0 := hgd; (try simp only [decide_eq_true_eq, Bool.and_eq_true, Bool.not_eq_true', beq_iff_eq] at hgd))); first | ((with_reducible apply does_call_flat); exact rfl; exact rfl; exact (c1); exact rfl) | ((with_reducible apply does_call_flat); exact rfl; exact rfl; exact (f1); exact rfl) | ((with_reducible apply does_move); (conv => lhs; whnf)) | ((with_reducible apply does_assign); (conv => lhs; whnf)) | ((with_reducible apply does_and); exact rfl; exact rfl; exact rfl; exact fun h => h) | ((with_reducible apply does_load_var); exact tyOk rfl; exact rfl; exact rfl; exact rfl; exact rfl) | ((with_reducible apply does_load_row); exact tyOk rfl; exact rfl; exact rfl; exact rfl; exact Nat.le_of_ble_eq_true rfl; exact rfl) | ((with_reducible apply does_eq); exact rfl; exact rfl) | ((with_reducible apply does_ne); exact rfl; exact rfl) | ((with_reducible apply does_gt); exact rfl; exact rfl) | ((with_reducible apply does_extract); exact rfl; exact rfl) | ((with_reducible apply does_len_str); exact tyOk rfl; exact rfl; exact rfl) | ((with_reducible apply does_makeFunc_l); (focus repeat' (first | exact evs_nil rfl | (apply evs_cons; exact rfl; (conv => lhs; whnf)))); (focus repeat' (first | exact evs_nil rfl | (apply evs_cons; exact rfl; (conv => lhs; whnf)))))) | ((with_reducible apply rp1); first | ((with_reducible apply does_box_ag); exact rfl; exact rfl) | ((with_reducible apply does_alloc); exact tyOk rfl; exact rfl)) | ((with_reducible apply rpN); ((with_reducible apply does_store); exact tyOk rfl; exact rfl; exact rfl; (conv => lhs; whnf); exact rfl; exact rfl; exact Nat.le_of_ble_eq_true rfl)) | ((with_reducible apply rpL); (refine does_callG' [] [(2000, 29)] (ups := [(29, .res (treeR TQ t))]) (v := (.px 29 0)) rfl (r1) rfl ?_ rfl ?_ ?_ rfl rfl rfl rfl rfl ?_ ?_ rfl rfl rfl; (focus repeat' (first | exact trivial | exact rfl | refine And.intro ?_ ?_)); (focus repeat' (first | exact trivial | exact inB_px rfl | refine And.intro ?_ ?_)); (focus repeat' (first | exact trivial | exact inB_px rfl | refine And.intro ?_ ?_)); (focus repeat' (first | exact trivial | exact inB_px rfl | refine And.intro ?_ ?_)); (focus repeat' (first | exact trivial | exact inB_px rfl | refine And.intro ?_ ?_))); exact lapp_nil _) | ((with_reducible apply rpL); (refine does_callX [(1000, 29), (1001, 11)] [(1000, 29), (1001, 11)] (ups := [(29, .res (treeR TQ t)), (11, .var 3 [.d (iD cnt)])]) rfl (e1) rfl ?_ rfl ?_ ?_ rfl rfl rfl rfl rfl ?_ rfl rfl; (focus repeat' (first | exact trivial | exact rfl | refine And.intro ?_ ?_)); (focus repeat' (first | exact trivial | exact inB_px rfl | refine And.intro ?_ ?_)); (focus repeat' (first | exact trivial | exact inB_px rfl | refine And.intro ?_ ?_)); (focus repeat' (first | exact trivial | exact inB_px rfl | refine And.intro ?_ ?_))); exact lapp_nil _) | ((with_reducible apply aw_cond); exact rfl; (focus (intro hd; (first | (cases hd; done) | (exfalso; simp at hd; omega) | (exact absurd (hd.symm.trans (by assumption : _ = false)) (by decide))))); (intro hd; clear hd)))
    repeat (first | (with_reducible first | apply rp_nil | apply ae_norm | apply aw_ret | apply re_ret) | ((with_reducible apply rp); first | ((with_reducible apply does_move); (conv => lhs; whnf)) | ((with_reducible apply does_assign); (conv => lhs; whnf))) | ((with_reducible apply rpN); ((with_reducible apply does_store_whole); exact tyOk rfl; exact rfl; exact rfl; exact rfl; exact rfl; exact rfl)) | ((with_reducible apply rpL); (refine does_callG' [] [(2000, 40)] (ups := [(40, .res (treeR TQ t))]) (v := (.px 40 0)) rfl (r1) rfl ?_ rfl ?_ ?_ rfl rfl rfl rfl rfl ?_ ?_ rfl rfl rfl; (focus repeat' (first | exact trivial | exact rfl | refine And.intro ?_ ?_)); (focus repeat' (first | exact trivial | exact inB_px rfl | refine And.intro ?_ ?_)); (focus repeat' (first | exact trivial | exact inB_px rfl | refine And.intro ?_ ?_)); (focus repeat' (first | exact trivial | exact inB_px rfl | refine And.intro ?_ ?_)); (focus repeat' (first | exact trivial | exact inB_px rfl | refine And.intro ?_ ?_))); exact lapp_nil _) | ((with_reducible apply rpL); (refine does_callG' [(1000, 40)] [(1000, 40)] (ups := [(40, .res (treeR TQ t1))]) (v := (.px 40 0)) rfl (g1) rfl ?_ rfl ?_ ?_ rfl rfl rfl rfl rfl ?_ ?_ rfl rfl rfl; (focus repeat' (first | exact trivial | exact rfl | refine And.intro ?_ ?_)); (focus repeat' (first | exact trivial | exact inB_px rfl | refine And.intro ?_ ?_)); (focus repeat' (first | exact trivial | exact inB_px rfl | refine And.intro ?_ ?_)); (focus repeat' (first | exact trivial | exact inB_px rfl | refine And.intro ?_ ?_)); (focus repeat' (first | exact trivial | exact inB_px rfl | refine And.intro ?_ ?_))); exact lapp_nil _) | ((with_reducible apply rpL); (refine does_callX [(1000, 40)] [(1000, 40)] (ups := [(40, .res (treeR TQ t1))]) rfl (p1) rfl ?_ rfl ?_ ?_ rfl rfl rfl rfl rfl ?_ rfl rfl; (focus repeat' (first | exact trivial | exact rfl | refine And.intro ?_ ?_)); (focus repeat' (first | exact trivial | exact inB_px rfl | refine And.intro ?_ ?_)); (focus repeat' (first | exact trivial | exact inB_px rfl | refine And.intro ?_ ?_)); (focus repeat' (first | exact trivial | exact inB_px rfl | refine And.intro ?_ ?_))); exact lapp_nil _))
    (with_reducible apply ret_ok); (focus (repeat' (first | (with_reducible apply rv_nil) | (with_reducible apply rv_cons) | ((with_reducible apply rv_tmp); exact rfl) | ((with_reducible apply rv_rowd); exact rfl; exact rfl; exact tyOk rfl; exact rfl; exact rfl)))); exact rfl; refine SubD.of_eq ?_
    rfl
  · have hg : growO key val (some (h, t)) = some (h + 1, .node [m] [v] [t1, r]) := by simp only [growO, ho]
    rw [hg] at hlay ⊢
    have g1 := grown_up key val t t1 r m v u1
    have hsh : Sh (h + 1) (.node [m] [v] [t1, r]) := ⟨rfl, Nat.le_refl _, Nat.le_of_ble_eq_true rfl, rfl, fun t hm => by
      simp only [List.mem_cons, List.not_mem_nil, or_false] at hm
      rcases hm with rfl | rfl
      · exact sh1
      · exact sh2 m v _ rfl⟩
    have p1 := plain_px (h + 1) (.node [m] [v] [t1, r]) hsh hlay
    show PC _ _ _ (.tu [treeD (layN 0 (.node [m] [v] [t1, r])), iD 0])
    unfold treeD nodesD at *
    generalize (layN 0 (.node [m] [v] [t1, r])).map nodeC = cs2 at *
    generalize hcs : ns.map nodeC = cs at *
    refine pc_of_aw Tryd.func15 rfl (by kernel_rfl) mixed (by kernel_rfl) (by rw [Tryd.ntmps15]; exact Nat.le_of_ble_eq_true rfl) Tryd.results15 ?_
    repeat (with_reducible apply aw_seq)
    repeat (first | (with_reducible first | apply aw_seq | apply aw_reg | apply rp_nil | apply ae_norm | apply aw_skip) | ((first | (with_reducible apply rp) | ((with_reducible apply rpG); exact rfl; exact gval_t rfl; (focus repeat' (first | exact trivial | exact fun h => h | refine And.intro ?_ ?_)); intro hgd; have hgd0 := hgd; (try simp only [decide_eq_true_eq, Bool.and_eq_true, Bool.not_eq_true', beq_iff_eq] at hgd))); first | ((with_reducible apply does_call_flat); exact rfl; exact rfl; exact (c1); exact rfl) | ((with_reducible apply does_call_flat); exact rfl; exact rfl; exact (f1); exact rfl) | ((with_reducible apply does_move); (conv => lhs; whnf)) | ((with_reducible apply does_assign); (conv => lhs; whnf)) | ((with_reducible apply does_and); exact rfl; exact rfl; exact rfl; exact fun h => h) | ((with_reducible apply does_load_var); exact tyOk rfl; exact rfl; exact rfl; exact rfl; exact rfl) | ((with_reducible apply does_load_row); exact tyOk rfl; exact rfl; exact rfl; exact rfl; exact Nat.le_of_ble_eq_true rfl; exact rfl) | ((with_reducible apply does_eq); exact rfl; exact rfl) | ((with_reducible apply does_ne); exact rfl; exact rfl) | ((with_reducible apply does_gt); exact rfl; exact rfl) | ((with_reducible apply does_extract); exact rfl; exact rfl) | ((with_reducible apply does_len_str); exact tyOk rfl; exact rfl; exact rfl) | ((with_reducible apply does_makeFunc_l); (focus repeat' (first | exact evs_nil rfl | (apply evs_cons; exact rfl; (conv => lhs; whnf)))); (focus repeat' (first | exact evs_nil rfl | (apply evs_cons; exact rfl; (conv => lhs; whnf)))))) | ((with_reducible apply rp1); first | ((with_reducible apply does_box_ag); exact rfl; exact rfl) | ((with_reducible apply does_alloc); exact tyOk rfl; exact rfl)) | ((with_reducible apply rpN); ((with_reducible apply does_store); exact tyOk rfl; exact rfl; exact rfl; (conv => lhs; whnf); exact rfl; exact rfl; exact Nat.le_of_ble_eq_true rfl)) | ((with_reducible apply rpL); (refine does_callG' [] [(2000, 29)] (ups := [(29, .res (treeR TQ t))]) (v := (.px 29 0)) rfl (r1) rfl ?_ rfl ?_ ?_ rfl rfl rfl rfl rfl ?_ ?_ rfl rfl rfl; (focus repeat' (first | exact trivial | exact rfl | refine And.intro ?_ ?_)); (focus repeat' (first | exact trivial | exact inB_px rfl | refine And.intro ?_ ?_)); (focus repeat' (first | exact trivial | exact inB_px rfl | refine And.intro ?_ ?_)); (focus repeat' (first | exact trivial | exact inB_px rfl | refine And.intro ?_ ?_)); (focus repeat' (first | exact trivial | exact inB_px rfl | refine And.intro ?_ ?_))); exact lapp_nil _) | ((with_reducible apply rpL); (refine does_callX [(1000, 29), (1001, 11)] [(1000, 29), (1001, 11)] (ups := [(29, .res (treeR TQ t)), (11, .var 3 [.d (iD cnt)])]) rfl (e1) rfl ?_ rfl ?_ ?_ rfl rfl rfl rfl rfl ?_ rfl rfl; (focus repeat' (first | exact trivial | exact rfl | refine And.intro ?_ ?_)); (focus repeat' (first | exact trivial | exact inB_px rfl | refine And.intro ?_ ?_)); (focus repeat' (first | exact trivial | exact inB_px rfl | refine And.intro ?_ ?_)); (focus repeat' (first | exact trivial | exact inB_px rfl | refine And.intro ?_ ?_))); exact lapp_nil _) | ((with_reducible apply aw_cond); exact rfl; (focus (intro hd; (first | (cases hd; done) | (exfalso; simp at hd; omega) | (exact absurd (hd.symm.trans (by assumption : _ = false)) (by decide))))); (intro hd; clear hd)))
    repeat (first | (with_reducible first | apply rp_nil | apply ae_norm | apply aw_ret | apply re_ret) | ((with_reducible apply rp); first | ((with_reducible apply does_move); (conv => lhs; whnf)) | ((with_reducible apply does_assign); (conv => lhs; whnf))) | ((with_reducible apply rpN); ((with_reducible apply does_store_whole); exact tyOk rfl; exact rfl; exact rfl; exact rfl; exact rfl; exact rfl)) | ((with_reducible apply rpL); (refine does_callG' [] [(2000, 40)] (ups := [(40, .res (treeR TQ t))]) (v := (.px 40 0)) rfl (r1) rfl ?_ rfl ?_ ?_ rfl rfl rfl rfl rfl ?_ ?_ rfl rfl rfl; (focus repeat' (first | exact trivial | exact rfl | refine And.intro ?_ ?_)); (focus repeat' (first | exact trivial | exact inB_px rfl | refine And.intro ?_ ?_)); (focus repeat' (first | exact trivial | exact inB_px rfl | refine And.intro ?_ ?_)); (focus repeat' (first | exact trivial | exact inB_px rfl | refine And.intro ?_ ?_)); (focus repeat' (first | exact trivial | exact inB_px rfl | refine And.intro ?_ ?_))); exact lapp_nil _) | ((with_reducible apply rpL); (refine does_callG' [(1000, 40)] [(1000, 40), (2000, 43)] (ups := [(40, .dead), (43, .res (treeR TQ (.node [m] [v] [t1, r])))]) (v := (.px 43 0)) rfl (g1) rfl ?_ rfl ?_ ?_ rfl rfl rfl rfl rfl ?_ ?_ rfl rfl rfl; (focus repeat' (first | exact trivial | exact rfl | refine And.intro ?_ ?_)); (focus repeat' (first | exact trivial | exact inB_px rfl | refine And.intro ?_ ?_)); (focus repeat' (first | exact trivial | exact inB_px rfl | refine And.intro ?_ ?_)); (focus repeat' (first | exact trivial | exact inB_px rfl | refine And.intro ?_ ?_)); (focus repeat' (first | exact trivial | exact inB_px rfl | refine And.intro ?_ ?_))); exact lapp_nil _) | ((with_reducible apply rpL); (refine does_callX [(1000, 43)] [(1000, 43)] (ups := [(43, .res (treeR TQ (.node [m] [v] [t1, r])))]) rfl (p1) rfl ?_ rfl ?_ ?_ rfl rfl rfl rfl rfl ?_ rfl rfl; (focus repeat' (first | exact trivial | exact rfl | refine And.intro ?_ ?_)); (focus repeat' (first | exact trivial | exact inB_px rfl | refine And.intro ?_ ?_)); (focus repeat' (first | exact trivial | exact inB_px rfl | refine And.intro ?_ ?_)); (focus repeat' (first | exact trivial | exact inB_px rfl | refine And.intro ?_ ?_))); exact lapp_nil _))
    (with_reducible apply ret_ok); (focus (repeat' (first | (with_reducible apply rv_nil) | (with_reducible apply rv_cons) | ((with_reducible apply rv_tmp); exact rfl) | ((with_reducible apply rv_rowd); exact rfl; exact rfl; exact tyOk rfl; exact rfl; exact rfl)))); exact rfl; refine SubD.of_eq ?_
    rfl
theorem put_full (key : ByteArray) (val : Int) (ns : List Nd) (h : Nat) (t : Tn) (hk : key.size ≤ 60) (c1 : PC Tryd.prog 10 [treeD ns] (iD 0)) (hs : Sh h t) (hl : Lies ns 0 t) (hit : (items t).length = 100)
    (hnone : findH key h t = none) : PC Tryd.prog 15 [treeD ns, strD key, iD val] (.tu [treeD [], iD 9]) := by
  have f1 := find_pc key ns h t c1 hs hl
  have r1 := root_pg ns h t hs hl
  have e1 := each_n h t hs 0 ⟨Int.le_refl _, by omega⟩
  rw [count_fold, hit] at e1
  unfold EachPX_n at e1
  rw [hnone] at f1
  have f1 : PC _ _ _ (.tu [iD 0, iD 5]) := f1
  have hkb : decide ((key.size : Int) > 60) = false := decide_eq_false (by omega)
  have e1 : PX _ _ _ _ _ _ [_, (1001, .var 3 [.d (iD 100)])] _ := e1
  unfold treeD nodesD at *
  generalize hcs : ns.map nodeC = cs at *
  refine pc_of_aw Tryd.func15 rfl (by kernel_rfl) mixed (by kernel_rfl) (by rw [Tryd.ntmps15]; exact Nat.le_of_ble_eq_true rfl) Tryd.results15 ?_
  repeat (with_reducible apply aw_seq)
  repeat (first | (with_reducible first | apply aw_seq | apply aw_reg | apply rp_nil | apply ae_norm | apply aw_ret | apply ae_ret | apply re_ret | apply aw_skip) | ((first | (with_reducible apply rp) | ((with_reducible apply rpG); exact rfl; exact gval_t rfl; (focus repeat' (first | exact trivial | exact fun h => h | refine And.intro ?_ ?_)); intro hgd; have hgd0 := hgd; (try simp only [decide_eq_true_eq, Bool.and_eq_true, Bool.not_eq_true', beq_iff_eq] at hgd))); first | ((with_reducible apply does_call_flat); exact rfl; exact rfl; exact (c1); exact rfl) | ((with_reducible apply does_call_flat); exact rfl; exact rfl; exact (f1); exact rfl) | ((with_reducible apply does_move); (conv => lhs; whnf)) | ((with_reducible apply does_assign); (conv => lhs; whnf)) | ((with_reducible apply does_and); exact rfl; exact rfl; exact rfl; exact fun h => h) | ((with_reducible apply does_load_var); exact tyOk rfl; exact rfl; exact rfl; exact rfl; exact rfl) | ((with_reducible apply does_load_row); exact tyOk rfl; exact rfl; exact rfl; exact rfl; exact Nat.le_of_ble_eq_true rfl; exact rfl) | ((with_reducible apply does_eq); exact rfl; exact rfl) | ((with_reducible apply does_ne); exact rfl; exact rfl) | ((with_reducible apply does_gt); exact rfl; exact rfl) | ((with_reducible apply does_extract); exact rfl; exact rfl) | ((with_reducible apply does_len_str); exact tyOk rfl; exact rfl; exact rfl) | ((with_reducible apply does_zeroS); exact tyOk rfl; exact rfl; exact rfl) | ((with_reducible apply does_makeFunc_l); (focus repeat' (first | exact evs_nil rfl | (apply evs_cons; exact rfl; (conv => lhs; whnf)))); (focus repeat' (first | exact evs_nil rfl | (apply evs_cons; exact rfl; (conv => lhs; whnf)))))) | ((with_reducible apply rp1); first | ((with_reducible apply does_box_ag); exact rfl; exact rfl) | ((with_reducible apply does_alloc); exact tyOk rfl; exact rfl)) | ((with_reducible apply rpN); first | ((with_reducible apply does_store); exact tyOk rfl; exact rfl; exact rfl; (conv => lhs; whnf); exact rfl; exact rfl; exact Nat.le_of_ble_eq_true rfl) | ((with_reducible apply does_store_whole); exact tyOk rfl; exact rfl; exact rfl; exact rfl; exact rfl; exact rfl)) | ((with_reducible apply rpL); (refine does_callG' [] [(2000, 29)] (ups := [(29, .res (treeR TQ t))]) (v := (.px 29 0)) rfl (r1) rfl ?_ rfl ?_ ?_ rfl rfl rfl rfl rfl ?_ ?_ rfl rfl rfl; (focus repeat' (first | exact trivial | exact rfl | refine And.intro ?_ ?_)); (focus repeat' (first | exact trivial | exact inB_px rfl | refine And.intro ?_ ?_)); (focus repeat' (first | exact trivial | exact inB_px rfl | refine And.intro ?_ ?_)); (focus repeat' (first | exact trivial | exact inB_px rfl | refine And.intro ?_ ?_)); (focus repeat' (first | exact trivial | exact inB_px rfl | refine And.intro ?_ ?_))); exact lapp_nil _) | ((with_reducible apply rpL); (refine does_callX [(1000, 29), (1001, 11)] [(1000, 29), (1001, 11)] (ups := [(29, .res (treeR TQ t)), (11, .var 3 [.d (iD 100)])]) rfl (e1) rfl ?_ rfl ?_ ?_ rfl rfl rfl rfl rfl ?_ rfl rfl; (focus repeat' (first | exact trivial | exact rfl | refine And.intro ?_ ?_)); (focus repeat' (first | exact trivial | exact inB_px rfl | refine And.intro ?_ ?_)); (focus repeat' (first | exact trivial | exact inB_px rfl | refine And.intro ?_ ?_)); (focus repeat' (first | exact trivial | exact inB_px rfl | refine And.intro ?_ ?_))); exact lapp_nil _) | ((with_reducible apply aw_cond); exact rfl; (focus (intro hd; (first | (cases hd; done) | (exfalso; simp at hd; omega)))); (intro hd; clear hd)) | ((with_reducible apply aw_cond); exact rfl; rotate_left; (focus (intro hd; (first | (cases hd; done) | (exfalso; simp at hd; omega)))); (intro hd; clear hd)))
  (with_reducible apply ret_ok); (focus (repeat' (first | (with_reducible apply rv_nil) | (with_reducible apply rv_cons) | ((with_reducible apply rv_tmp); exact rfl) | ((with_reducible apply rv_rowd); exact rfl; exact rfl; exact tyOk rfl; exact rfl; exact rfl)))); exact rfl
  exact SubD.tu (SubDs.cons (SubD.ag (SubDs.cons (SubD.nil 3) (fun _ => rfl) SubDs.nil)) (fun h => h) (SubDs.refl _))
end Go.Proofs.YtfplkakfakdfhaaDoor


/-
  List. No condition but that the nodes are in order.
-/
namespace Go.Proofs.YtfplkakfakdfhaaDoor
set_option linter.unusedSimpArgs false
set_option linter.unusedVariables false
open Go.RowKit

theorem list_ok (fr tq : ByteArray) (ns : List Nd) (h : Nat) (t : Tn) (c1 : PC Tryd.prog 10 [treeD ns] (iD 0)) (hs : Sh h t) (hl : Lies ns 0 t) (hit : (items t).length ≤ 1000) :
    PC Tryd.prog 18 [treeD ns, strD fr, strD tq] (.tu [.sl 2 (foldS (fun s k v => listS fr tq s k v) [] (items t)), iD 0]) := by
  have r1 := root_pg ns h t hs hl
  have e1 := each_l fr tq h t hs [] (by simp only [List.length_nil]; omega)
  unfold EachPX_l at e1
  generalize foldS (fun s k v => listS fr tq s k v) [] (items t) = F at *
  unfold treeD nodesD at *
  generalize hcs : ns.map nodeC = cs at *
  refine pc_of_aw Tryd.func18 rfl (by kernel_rfl) mixed (by kernel_rfl) (by rw [Tryd.ntmps18]; exact Nat.le_of_ble_eq_true rfl) Tryd.results18 ?_
  repeat (with_reducible apply aw_seq)
  repeat (first | (refine aw_exR1 (id := 5) mixed (fun C ac w h => ent_nilF (E := 61) (sz := 2) 9 0 2001 rfl rfl rfl C ac w h) ?_; (with_reducible apply aw_reg)) | (with_reducible first | apply aw_seq | apply aw_reg | apply rp_nil | apply ae_norm | apply aw_ret | apply re_ret | apply aw_skip) | ((with_reducible apply rp); first | ((with_reducible apply does_call_flat); exact rfl; exact rfl; exact (c1); exact rfl) | ((with_reducible apply does_move); (conv => lhs; whnf)) | ((with_reducible apply does_assign); (conv => lhs; whnf)) | ((with_reducible apply does_load_var); exact tyOk rfl; exact rfl; exact rfl; exact rfl; exact rfl) | ((with_reducible apply does_load_row); exact tyOk rfl; exact rfl; exact rfl; exact rfl; exact Nat.le_of_ble_eq_true rfl; exact rfl) | ((with_reducible apply does_ne); exact rfl; exact rfl) | ((with_reducible apply does_makeFunc_l); (focus repeat' (first | exact evs_nil rfl | (apply evs_cons; exact rfl; (conv => lhs; whnf)))); (focus repeat' (first | exact evs_nil rfl | (apply evs_cons; exact rfl; (conv => lhs; whnf)))))) | ((with_reducible apply rp1); first | ((with_reducible apply does_box_ag); exact rfl; exact rfl) | ((with_reducible apply does_box_one); (conv => lhs; whnf); exact rfl; exact rfl) | ((with_reducible apply does_alloc); exact tyOk rfl; exact rfl)) | ((with_reducible apply rpL); (refine does_callG' [] [(2000, 16)] (ups := [(16, .res (treeR TQ t))]) (v := (.px 16 0)) rfl (r1) rfl ?_ rfl ?_ ?_ rfl rfl rfl rfl rfl ?_ ?_ rfl rfl rfl; (focus repeat' (first | exact trivial | exact rfl | refine And.intro ?_ ?_)); (focus repeat' (first | exact trivial | exact inB_ow rfl | exact inB_px rfl | refine And.intro ?_ ?_)); (focus repeat' (first | exact trivial | exact inB_ow rfl | exact inB_px rfl | refine And.intro ?_ ?_)); (focus repeat' (first | exact trivial | exact inB_ow rfl | exact inB_px rfl | refine And.intro ?_ ?_)); (focus repeat' (first | exact trivial | exact inB_ow rfl | exact inB_px rfl | refine And.intro ?_ ?_))); exact lapp_nil _) | ((with_reducible apply rpL); (refine does_callX [(1000, 16), (1001, 4), (1002, 5), (1003, 9), (2000, 2001)] [(1000, 16), (1001, 4), (1002, 5), (1003, 9), (2000, 18)] (ups := [(16, .res (treeR TQ t)), (4, .var 9 [.d (strD fr)]), (5, .var 9 [.d (strD tq)]), (9, .var 57 [.ow 18 F.length]), (18, .row 61 2 F), (2001, .dead)]) rfl (e1) rfl ?_ rfl ?_ ?_ rfl rfl rfl rfl rfl ?_ rfl rfl; (focus repeat' (first | exact trivial | exact rfl | refine And.intro ?_ ?_)); (focus repeat' (first | exact trivial | exact inB_ow rfl | exact inB_px rfl | refine And.intro ?_ ?_)); (focus repeat' (first | exact trivial | exact inB_ow rfl | exact inB_px rfl | refine And.intro ?_ ?_)); (focus repeat' (first | exact trivial | exact inB_ow rfl | exact inB_px rfl | refine And.intro ?_ ?_))); exact lapp_nil _) | ((with_reducible apply aw_cond); exact rfl; (focus (intro hd; (cases hd; done))); (intro hd; clear hd)))
  (with_reducible apply ret_ok); (focus (repeat' (first | (with_reducible apply rv_nil) | (with_reducible apply rv_cons) | ((with_reducible apply rv_tmp); exact rfl)))); exact rfl; refine SubD.of_eq ?_
  rfl
theorem list_nil (fr tq : ByteArray) : PC Tryd.prog 18 [treeD [], strD fr, strD tq] (.tu [.sl 2 [], iD 0]) := by
  have c1 := check_nil
  have r1 := root_nil
  have e1 := each_l_nil fr tq []
  unfold treeD nodesD at *
  have c1 : PC _ _ [.ag [.sl 3 []]] _ := c1
  have r1 : PG _ _ [.d (.ag [.sl 3 []])] _ _ _ _ _ := r1
  show PC _ _ [.ag [.sl 3 []], strD fr, strD tq] _
  refine pc_of_aw Tryd.func18 rfl (by kernel_rfl) mixed (by kernel_rfl) (by rw [Tryd.ntmps18]; exact Nat.le_of_ble_eq_true rfl) Tryd.results18 ?_
  repeat (with_reducible apply aw_seq)
  repeat (first | (refine aw_exR1 (id := 5) mixed (fun C ac w h => ent_nilF (E := 61) (sz := 2) 9 0 2001 rfl rfl rfl C ac w h) ?_; (with_reducible apply aw_reg)) | (with_reducible first | apply aw_seq | apply aw_reg | apply rp_nil | apply ae_norm | apply aw_ret | apply re_ret | apply aw_skip) | ((with_reducible apply rp); first | ((with_reducible apply does_call_flat); exact rfl; exact rfl; exact (c1); exact rfl) | ((with_reducible apply does_move); (conv => lhs; whnf)) | ((with_reducible apply does_assign); (conv => lhs; whnf)) | ((with_reducible apply does_load_var); exact tyOk rfl; exact rfl; exact rfl; exact rfl; exact rfl) | ((with_reducible apply does_load_row); exact tyOk rfl; exact rfl; exact rfl; exact rfl; exact Nat.le_of_ble_eq_true rfl; exact rfl) | ((with_reducible apply does_ne); exact rfl; exact rfl) | ((with_reducible apply does_makeFunc_l); (focus repeat' (first | exact evs_nil rfl | (apply evs_cons; exact rfl; (conv => lhs; whnf)))); (focus repeat' (first | exact evs_nil rfl | (apply evs_cons; exact rfl; (conv => lhs; whnf)))))) | ((with_reducible apply rp1); first | ((with_reducible apply does_box_ag); exact rfl; exact rfl) | ((with_reducible apply does_box_one); (conv => lhs; whnf); exact rfl; exact rfl) | ((with_reducible apply does_alloc); exact tyOk rfl; exact rfl)) | ((with_reducible apply rpL); (refine does_callG' [] [] (ups := []) (v := (.d (.sc (.pointer none)))) rfl (r1) rfl ?_ rfl ?_ ?_ rfl rfl rfl rfl rfl ?_ ?_ rfl rfl rfl; (focus repeat' (first | exact trivial | exact rfl | refine And.intro ?_ ?_)); (focus repeat' (first | exact trivial | exact inB_ow rfl | exact inB_px rfl | refine And.intro ?_ ?_)); (focus repeat' (first | exact trivial | exact inB_ow rfl | exact inB_px rfl | refine And.intro ?_ ?_)); (focus repeat' (first | exact trivial | exact inB_ow rfl | exact inB_px rfl | refine And.intro ?_ ?_)); (focus repeat' (first | exact trivial | exact inB_ow rfl | exact inB_px rfl | refine And.intro ?_ ?_))); exact lapp_nil _) | ((with_reducible apply rpL); (refine does_callX [(1001, 4), (1002, 5), (1003, 9), (2000, 2001)] [(1001, 4), (1002, 5), (1003, 9), (2000, 18)] (ups := [(4, .var 9 [.d (strD fr)]), (5, .var 9 [.d (strD tq)]), (9, .var 57 [.ow 18 0]), (18, .row 61 2 []), (2001, .dead)]) rfl (e1) rfl ?_ rfl ?_ ?_ rfl rfl rfl rfl rfl ?_ rfl rfl; (focus repeat' (first | exact trivial | exact rfl | refine And.intro ?_ ?_)); (focus repeat' (first | exact trivial | exact inB_ow rfl | exact inB_px rfl | refine And.intro ?_ ?_)); (focus repeat' (first | exact trivial | exact inB_ow rfl | exact inB_px rfl | refine And.intro ?_ ?_)); (focus repeat' (first | exact trivial | exact inB_ow rfl | exact inB_px rfl | refine And.intro ?_ ?_))); exact lapp_nil _) | ((with_reducible apply aw_cond); exact rfl; (focus (intro hd; (cases hd; done))); (intro hd; clear hd)))
  (with_reducible apply ret_ok); (focus (repeat' (first | (with_reducible apply rv_nil) | (with_reducible apply rv_cons) | ((with_reducible apply rv_tmp); exact rfl)))); exact rfl; refine SubD.of_eq ?_
  rfl
end Go.Proofs.YtfplkakfakdfhaaDoor


/-
  Trees that are in order: Check, Find, Put, Cut, List. No condition but the order, and few keys.
-/
namespace Go.Proofs.YtfplkakfakdfhaaDoor
set_option linter.unusedSimpArgs false
set_option linter.unusedVariables false

theorem weave_len {α : Type} : ∀ (ps : List α) (ls : List (List α)), ls.length ≤ ps.length + 1 → (weave ps ls).length = ps.length + (ls.map List.length).sum
  | [], [], _ => rfl
  | [], [l], _ => by show l.length = 0 + (l.length + 0); omega
  | p :: ps, [], _ => by rw [weave_leaf]; rfl
  | p :: ps, l :: ls, h => by
    have ih := weave_len ps ls (by simpa using h)
    show (l ++ p :: weave ps ls).length = _
    rw [List.length_append, List.length_cons, ih, List.map_cons, List.sum_cons, List.length_cons]
    omega
theorem weave_mem1 {α : Type} {x : α} : ∀ {ps : List α} {ls : List (List α)}, x ∈ ps → x ∈ weave ps ls
  | p :: ps, [], h => by rw [weave_leaf]; exact h
  | p :: ps, l :: ls, h => by
    show x ∈ l ++ p :: weave ps ls
    rcases List.mem_cons.1 h with rfl | h
    · simp
    · exact List.mem_append_right _ (List.mem_cons_of_mem _ (weave_mem1 h))
theorem weave_mem2 {α : Type} {x : α} {l : List α} : ∀ {ps : List α} {ls : List (List α)}, ls.length ≤ ps.length + 1 → l ∈ ls → x ∈ l → x ∈ weave ps ls
  | [], [l'], _, h, hx => by rw [List.mem_singleton.1 h] at hx; exact hx
  | p :: ps, l' :: ls, hl, h, hx => by
    show x ∈ l' ++ p :: weave ps ls
    rcases List.mem_cons.1 h with rfl | h
    · exact List.mem_append_left _ hx
    · exact List.mem_append_right _ (List.mem_cons_of_mem _ (weave_mem2 (by simpa using hl) h hx))
theorem zip_mem {k : ByteArray} : ∀ {ks : List ByteArray} {vs : List Int}, vs.length = ks.length → k ∈ ks → ∃ v, (k, v) ∈ ks.zip vs
  | a :: ks, v :: vs, hv, h => by
    rcases List.mem_cons.1 h with rfl | h
    · exact ⟨v, by simp⟩
    · obtain ⟨w, hw⟩ := zip_mem (by simpa using hv) h
      exact ⟨w, List.mem_cons_of_mem _ hw⟩
theorem keys_lay : ∀ (h : Nat) (t : Tn), Sh h t → ∀ (a : Nat), ∀ n ∈ layN a t, ∀ k ∈ n.ks, ∃ v, (k, v) ∈ items t
  | 0, .node ks vs ts, hs, a, n, hn, k, hk => by
    obtain ⟨h1, h2, h3, rfl⟩ := hs
    rw [layN, layF] at hn
    rw [List.mem_singleton.1 hn] at hk
    obtain ⟨v, hv⟩ := zip_mem h1 hk
    exact ⟨v, by rw [items]; exact weave_mem1 hv⟩
  | h + 1, .node ks vs ts, hs, a, n, hn, k, hk => by
    obtain ⟨h1, h2, h3, h4, h5⟩ := hs
    rw [layN] at hn
    rw [items]
    rcases List.mem_cons.1 hn with rfl | hn
    · obtain ⟨v, hv⟩ := zip_mem h1 hk
      exact ⟨v, weave_mem1 hv⟩
    · obtain ⟨t, ht, b, hb⟩ := mem_layF hn
      obtain ⟨v, hv⟩ := keys_lay h t (h5 t ht) b n hb k hk
      refine ⟨v, weave_mem2 (l := items t) ?_ ?_ hv⟩
      · rw [itemsF_len, List.length_zip]; omega
      · rw [itemsF_map]; exact List.mem_map_of_mem ht
theorem totalF {h : Nat} (ih : ∀ t : Tn, Sh h t → ∀ a : Nat, ((layN a t).map fun n => n.ks.length).sum = (items t).length) : ∀ (ts : List Tn), (∀ t ∈ ts, Sh h t) → ∀ a : Nat, ((layF a ts).2.map fun n => n.ks.length).sum = ((itemsF ts).map List.length).sum
  | [], _, a => by rw [layF, itemsF]; rfl
  | t :: ts, hs, a => by
    rw [layF, itemsF, List.map_append, List.sum_append, List.map_cons, List.sum_cons, ih t (hs t (by simp)), totalF ih ts fun t ht => hs t (by simp [ht])]
theorem total_lay : ∀ (h : Nat) (t : Tn), Sh h t → ∀ a : Nat, ((layN a t).map fun n => n.ks.length).sum = (items t).length
  | 0, .node ks vs ts, hs, a => by
    obtain ⟨h1, h2, h3, rfl⟩ := hs
    rw [layN, layF, items, itemsF, weave_leaf, List.length_zip]
    simp
    omega
  | h + 1, .node ks vs ts, hs, a => by
    obtain ⟨h1, h2, h3, h4, h5⟩ := hs
    rw [layN, items, weave_len _ _ (by rw [itemsF_len, List.length_zip]; omega), List.map_cons, List.sum_cons, totalF (total_lay h) ts h5, List.length_zip]
    simp only
    omega
theorem sum_ge {α : Type} (f : α → Nat) : ∀ (l : List α), (∀ n ∈ l, 1 ≤ f n) → l.length ≤ (l.map f).sum
  | [], _ => Nat.le_refl _
  | a :: l, h => by
    have h1 := h a (by simp)
    have h2 := sum_ge f l fun n hn => h n (by simp [hn])
    rw [List.length_cons, List.map_cons, List.sum_cons]
    omega
theorem lay_few (h : Nat) (t : Tn) (hs : Sh h t) (a : Nat) : (layN a t).length ≤ (items t).length := by
  rw [← total_lay h t hs a]
  exact sum_ge _ _ fun n hn => (shape_lay h t hs a n hn).1
theorem lay_ok (h : Nat) (t : Tn) (hs : Sh h t) (hk : ∀ p ∈ items t, p.1.size ≤ 60) (hl : (items t).length ≤ 100) : NsOk (layN 0 t) (depN 0 t) h := by
  have hfew := lay_few h t hs 0
  have hhigh := high_lay h t hs 0
  have hperm := once_lay t 0
  refine ⟨by omega, fun n hn k hk2 => ?_, by rw [total_lay h t hs]; exact hl, shape_lay h t hs 0, fun i n hi k hk2 => ?_, hperm.nodup_iff.2 List.nodup_range', fun k h0 hk2 => hperm.mem_iff.2 ?_, ?_, fun j => ?_, fun i n hi hn => ?_⟩
  · obtain ⟨v, hv⟩ := keys_lay h t hs 0 n hn k hk2
    exact hk _ hv
  · obtain ⟨z1, z2, z3⟩ := kid_lay t 0 0 i n hi k hk2
    exact ⟨by omega, by omega, z3⟩
  · rw [List.mem_range'_1]; omega
  · cases t; rw [depN]; rfl
  · have := deep_lay h t hs 0 j; omega
  · have := leaf_lay h t hs 0 0 i n hi hn; omega
theorem rise_asc : ∀ (l : Pairs) (first : Bool) (last : ByteArray), Asc l → (first = true ∨ ∀ p ∈ l, ltB last p.1 = true) → (foldS (fun s k _ => rise s k) (true, first, last) l).1 = true
  | [], _, _, _, _ => rfl
  | (k, v) :: l, first, last, h, h2 => by
    obtain ⟨h3, h4⟩ := List.pairwise_cons.1 h
    have e : rise (true, first, last) k = (true, false, k) := by
      unfold rise
      have : (first || ltB last k) = true := by
        rcases h2 with h2 | h2
        · rw [h2]; rfl
        · rw [h2 (k, v) (by simp)]; simp
      simp [this]
    show (foldS (fun s k _ => rise s k) (rise (true, first, last) k) l).1 = true
    rw [e]
    exact rise_asc l false k h4 (.inr h3)
structure Good (o : Option (Nat × Tn)) : Prop where
  sh : ShO o
  asc : Asc (itemsO o)
  keys : ∀ p ∈ itemsO o, p.1.size ≤ 60
  few : (itemsO o).length ≤ 100
abbrev treeO (o : Option (Nat × Tn)) : D := treeD (nodesO o)
theorem lies_0 (t : Tn) : Lies (layN 0 t) 0 t := by
  have := lies_lay t [] []
  simpa using this
theorem check_good {o : Option (Nat × Tn)} (g : Good o) : PC Tryd.prog 10 [treeO o] (iD 0) := by
  rcases o with _ | ⟨h, t⟩
  · exact check_nil
  · exact chk_pc (layN 0 t) (depN 0 t) h t (lay_ok h t g.sh g.keys g.few) g.sh (lies_0 t) (rise_asc _ _ _ g.asc (.inl rfl))
theorem find_good {o : Option (Nat × Tn)} (g : Good o) (key : ByteArray) : PC Tryd.prog 24 [treeO o, strD key] (resF (lookL key (itemsO o))) := by
  rcases o with _ | ⟨h, t⟩
  · exact find_nil key
  · have := find_pc key (layN 0 t) h t (check_good g) g.sh (lies_0 t)
    rw [find_items key h t g.sh g.asc] at this
    exact this
theorem layO_few {o : Option (Nat × Tn)} (hs : ShO o) : (nodesO o).length ≤ (itemsO o).length := by
  rcases o with _ | ⟨h, t⟩
  · exact Nat.le_refl _
  · exact lay_few h t hs 0
theorem good_put {o : Option (Nat × Tn)} (g : Good o) {key : ByteArray} (val : Int) (hk : key.size ≤ 60) (hroom : (lookL key (itemsO o)).isSome = true ∨ (itemsO o).length < 100) : Good (growO key val o) := by
  have hi := growO_items key val o g.sh g.asc
  refine ⟨growO_sh key val o g.sh, by rw [hi]; exact putL_asc g.asc, fun p hp => ?_, ?_⟩
  · rw [hi] at hp
    rcases putL_mem hp with rfl | hp
    · exact hk
    · exact g.keys p hp
  · rw [hi, putL_len g.asc]
    have := g.few
    rcases hroom with h | h
    · rw [if_pos h]; exact this
    · split <;> omega
theorem put_good {o : Option (Nat × Tn)} (g : Good o) {key : ByteArray} (val : Int) (hk : key.size ≤ 60) (hroom : (lookL key (itemsO o)).isSome = true ∨ (itemsO o).length < 100) :
    PC Tryd.prog 15 [treeO o, strD key, iD val] (.tu [treeO (growO key val o), iD 0]) := by
  have g2 := good_put g val hk hroom
  have h2 := layO_few g2.sh
  have h3 := g2.few
  rcases o with _ | ⟨h, t⟩
  · exact put_nil key val hk
  · refine put_ok key val (layN 0 t) h t hk (check_good g) g.sh (lies_0 t) g.few ?_ (by omega)
    rw [find_items key h t g.sh g.asc]
    show (∃ v, lookL key (itemsO (some (h, t))) = some v) ∨ _
    rcases hl : lookL key (itemsO (some (h, t))) with _ | v
    · rw [hl] at hroom
      rcases hroom with h | h
      · cases h
      · exact .inr ⟨hl, h⟩
    · exact .inl ⟨v, rfl⟩
theorem full_good {o : Option (Nat × Tn)} (g : Good o) {key : ByteArray} (val : Int) (hk : key.size ≤ 60) (hno : lookL key (itemsO o) = none) (hl : (itemsO o).length = 100) :
    PC Tryd.prog 15 [treeO o, strD key, iD val] (.tu [treeD [], iD 9]) := by
  rcases o with _ | ⟨h, t⟩
  · cases hl
  · exact put_full key val (layN 0 t) h t hk (check_good g) g.sh (lies_0 t) hl (by rw [find_items key h t g.sh g.asc]; exact hno)
def spanL (fr tq : ByteArray) (l : Pairs) : Pairs := l.filter fun p => leB fr p.1 && leB p.1 tq
def pairsD (l : Pairs) : D := .sl 2 (l.map pairE)
theorem list_fold (fr tq : ByteArray) : ∀ (l : Pairs) (s : List (List D)), foldS (fun s k v => listS fr tq s k v) s l = s ++ (spanL fr tq l).map pairE
  | [], s => (List.append_nil _).symm
  | (k, v) :: l, s => by
    show foldS (fun s k v => listS fr tq s k v) (listS fr tq s k v) l = _
    rw [list_fold fr tq l]
    unfold listS spanL
    rw [List.filter_cons]
    by_cases h : (leB fr k && leB k tq) = true
    · rw [if_pos h, if_pos h, List.append_assoc]; rfl
    · rw [if_neg h, if_neg h]
theorem list_good {o : Option (Nat × Tn)} (g : Good o) (fr tq : ByteArray) : PC Tryd.prog 18 [treeO o, strD fr, strD tq] (.tu [pairsD (spanL fr tq (itemsO o)), iD 0]) := by
  rcases o with _ | ⟨h, t⟩
  · exact list_nil fr tq
  · have hf := g.few
    have := list_ok fr tq (layN 0 t) h t (check_good g) g.sh (lies_0 t) (Nat.le_trans hf (by omega))
    rw [list_fold] at this
    exact this
theorem good_nil : Good none := ⟨trivial, List.Pairwise.nil, fun _ h => (by cases h), Nat.zero_le _⟩
end Go.Proofs.YtfplkakfakdfhaaDoor

