/-
  The pure layer: a slice of old memory that has no room behind it ('x[:k:k]'), and what is appended to it: new memory. No condition.
-/
import Derived.Test.YtobgjkkadnihjaaZC
import Derived.ArgAppend
namespace Go.Proofs.Ytobgjkkadnihjaa
set_option linter.unusedSimpArgs false
set_option linter.unusedVariables false
open Go.RowKit

section
variable {P : Program} {dst : Option Nat} {ty : TypeId} {e : Operand → A} {β : Bx} {T : TypeId} {x : Operand}
theorem does_slice3_fs {t te : TyI} {el : TypeId} {lo : Option Operand} {hi mx : Operand} {sz h : Nat} {k k' : IntKind} {mm hv : Int} {es es2 : List (List D)} (ht : mkTy P T = some t) (hk : t.kind = .slice el) (hte : mkTy P el = some te) (hx : e x = .d (.sl sz es)) (hsz : te.size = sz) (hl : loIs e 0 lo) (hh : e hi = .d (.sc (.int k' hv))) (hhv : hv = (h : Nat)) (hmx : e mx = .d (.sc (.int k mm))) (hmm : mm = (h : Nat)) (h3 : h ≤ es.length) (hes : es.take h = es2) :
    Does P dst (.slice T x lo (some hi) (some mx)) ty e β (.fs sz es2) [] [] := by
  subst hes
  exact Does.of_run fun C γ _ ρ I w _ a hops o ho _ => by
    have q1 := (hops x (by simp [Op.operands])).2
    rw [hx] at q1
    have q1 : RepD I w (.sl sz es) (a.eval x) := q1
    obtain ⟨ad, c, xs, q2, q3, q4, q5⟩ := id q1
    have q6 := (hops mx (by simp [Op.operands])).2
    rw [hmx] at q6
    have q7 := repA_sc q6
    have q8 := (hops hi (by simp [Op.operands])).2
    rw [hh] at q8
    have q9 := repA_sc q8
    obtain ⟨k1, v1⟩ := lo_val (a := a) hl fun y hy => (hops y (by cases lo <;> simp_all [Op.operands])).2
    have hrun := run_slice3 (P := P) ht hk hte (ad := ad) (c := c) (l := 0) (h := h) (m := h) (nn := es.length) (k2 := k') (k3 := k) v1 (Nat.zero_le _) (Nat.le_refl _) (by omega) w
    rw [hsz] at hrun
    rw [q2] at q1
    have hrep := slice_rep3 (l := 0) (h := h) (m := h) q1 (Nat.zero_le _) h3 (Nat.le_refl _)
    rw [List.drop_zero, Nat.sub_zero] at hrep
    have hlen : (es.take h).length = h := by rw [List.length_take]; omega
    refine ⟨_, ?_, trivial, hrep, _, by rw [hlen]⟩
    rw [Nat.sub_zero] at hrun
    subst hhv hmm
    simp only [execOp, ho, q2, q7, q9, Sem.run_bind, Option.map_some, hrun]
    rfl
theorem does_append_fs {fr : Nat} {el : TypeId} {t te : TyI} {s x : Operand} {es ns : List (List D)} (ht : mkTy P T = some t) (hk : t.kind = .slice el) (hte : mkTy P el = some te) (hs : e s = .fs te.size es) (he : 0 < es.length) (hx : newsA β te.size (e x) = some ns) (hn : 0 < ns.length) (hsz : 0 < te.size)
    (hb : (es.length + ns.length) * te.bytes ≤ 140737488355328) (h63 : es.length + ns.length ≤ 9223372036854775807) (hf : look fr β = none) :
    Does P (some fr) (.call { callee := .builtin .append, args := #[s, x], argTypes := #[T, T] }) ty e β (.ow fr (es.length + ns.length)) [(fr, .row el te.size (es ++ ns))] (idsA (e x)) := by
  intro C γ hag ρ I w hm a hops o ho hd hty K Q hK
  have hf2 : look fr γ = none := (hag fr (by simp)).trans hf
  have h1 := (hops s (by simp [Op.operands, Call.operands])).2
  have h2 := (hops x (by simp [Op.operands, Call.operands])).2
  rw [hs] at h1
  obtain ⟨⟨ad0, c0, xs, q1, q2, q3, q4⟩, ad1, q5⟩ := h1
  obtain ⟨g0, off0, rfl, _, q6⟩ := q4 he
  have hc0 : c0 = es.length := by rw [q1] at q5; injection q5
  subst hc0
  obtain ⟨ad, c, news, h3, h4, h5⟩ := news_ok hm (fun id hid => hag id (List.mem_append_left _ hid)) hx h2
  obtain ⟨g1, off1, rfl, h6⟩ := h5 hn
  obtain ⟨i, d, z, _, hu, _, _, _, _, _, hkd⟩ := mkTy_spec ht
  have hu2 : P.underlying T = some (.slice el) := by rw [hu, kind_slice (hkd.symm.trans hk)]
  obtain ⟨i', d', z', hi', _, hz', hsz', hby', _, hzr', _, hone', hzs'⟩ := mkTy_all hte
  rw [hsz'] at h4 hsz q3
  obtain ⟨v', w', hrun, hown, hgr⟩ := run_append_arg_grows (P := P) w T o.type el i' z' i'.size i'.bytes hu2 hi' hz' rfl rfl hzs' hsz ⟨g0, off0, none⟩ es.length es.length xs (repR_len q3) (fun j u hj => by rw [Addr.add_mid]; exact q6 j u hj) ⟨g1, off1, none⟩ ns.length c news (repR_len h4) (fun j u hj => by rw [Addr.add_mid]; exact h6 j u hj) (by omega) (by unfold maxLen; omega) (by rw [← hby']; exact hb)
  rw [← hsz'] at hown h4 q3
  have hlt := fun g h => hown.lt g h
  have hown0 : w'.ownsRow 0 el te.size v' (es.length + ns.length) (xs ++ news) := by
    obtain ⟨k1, k2 | ⟨g, cap, cur, k2, _, k3⟩⟩ := hown
    · exact ⟨k1, .inl k2⟩
    · exact ⟨k1, .inr ⟨g, cap, cur, k2, Nat.zero_le _, k3⟩⟩
  obtain ⟨ad', c', k4, _⟩ := own_form hown0
  have hlen : (es ++ ns).length = es.length + ns.length := List.length_append
  obtain ⟨m1, m2⟩ := hm.new_box hf2 (v := v') (b := .row el te.size (es ++ ns)) hgr (fun g hg => by
      rw [blk_own k4] at hg
      exact hlt g hg) (fun hx => ⟨xs ++ news, by rw [upd_same, hlen]; exact hown0, RepR.ext hx.toExtI _ _ _ (repR_append q3 h4)⟩) trivial
  unfold Oper.wp
  have hrun : (execOp a.eval o).run P w = .ok (.value v') w' := by
    simp [execOp, ho, resolve, invoke, builtin, Sem.run_bind, q1, h3, hrun]
  rw [hrun, Oper.upon_value, hd]
  exact hK _ _ I w' m1 m2 (by unfold A.inB dom; simp [look_append, look_cons]) (ow_rep hown0 (upd_same _ _ _))
end
end Go.Proofs.Ytobgjkkadnihjaa

