/-
  The pure layer: operations on the kids of a node. No condition.
-/
import Derived.Test.YtfplkakfakdfhaaDoorZM10
import Derived.Test.YtfplkakfakdfhaaDoorZC
import Derived.Test.YtfplkakfakdfhaaDoorZG
import Derived.Test.YtfplkakfakdfhaaDoorZM1
import Derived.Test.YtfplkakfakdfhaaDoorZM8
namespace Go.Proofs.YtfplkakfakdfhaaDoor
set_option linter.unusedSimpArgs false
set_option linter.unusedVariables false
open Go.RowKit

section
variable {P : Program} {Q : Exit → St → Prop}
/-- Behind a region: another state, one of many. -/
theorem aw_after (hmx : P.follows .mixedOrders = true) {id : Nat} {ops : Array Oper} {d : Bool} {s : St} (h : AW P (.region id ops d) (fun e s1 => ∃ (α : Type) (s' : α → St), (∀ (C : Ctx) (a : Act) (w : World), At C s1 a w → ∃ x, At C (s' x) a w) ∧ ∀ x, Q e (s' x)) s) : AW P (.region id ops d) Q s := by
  have hs : SemWP P (.region id ops d) Q s := fun C a w hc hat => by
    refine wp_mono (aw_sound hmx _ _ _ a w hc h hat) fun e a' w' hq => ?_
    obtain ⟨s1, ⟨α, s', h1, h2⟩, ha⟩ := hq
    obtain ⟨x, hx⟩ := h1 C a' w' ha
    exact ⟨s' x, h2 x, hx⟩
  cases d with
  | true => exact .inr hs
  | false => exact .inr hs
/-- In another state. -/
theorem aw_exR1 (hmx : P.follows .mixedOrders = true) {id : Nat} {ops : Array Oper} {d : Bool} {s s' : St} (h : ∀ (C : Ctx) (a : Act) (w : World), At C s a w → At C s' a w) (hq : AW P (.region id ops d) Q s') : AW P (.region id ops d) Q s :=
  aw_exR (α := Unit) (s' := fun _ => s') hmx (fun C a w hat => ⟨(), h C a w hat⟩) fun _ => hq
theorem after1 {R : St → Prop} {s s' : St} (h : ∀ (C : Ctx) (a : Act) (w : World), At C s a w → At C s' a w) (hq : R s') : ∃ (α : Type) (s'' : α → St), (∀ (C : Ctx) (a : Act) (w : World), At C s a w → ∃ x, At C (s'' x) a w) ∧ ∀ x, R (s'' x) :=
  ⟨Unit, fun _ => s', fun C a w hat => ⟨(), h C a w hat⟩, fun _ => hq⟩
end
section
variable {Q : TrTy} {β : Bx} {C : Ctx} {w : World} {ρ : Nat → Value} {I : Nat → Prop}
theorem mem_kill (id : Nat) (h : dom β id) (hm : Mem C β ρ I w) : Mem C ([(id, .dead)] ++ β) ρ I w := by
  refine (mem_regroup hm _ ρ (fun _ _ => rfl) (fun i b hi => ?_) (fun i b k hi hh => ?_) (fun i j b b' k hi hj hh hh' => ?_)).1
  · obtain ⟨rfl, rfl⟩ := look_one hi; exact ⟨trivial, trivial⟩
  · obtain ⟨rfl, rfl⟩ := look_one hi; exact hh.elim
  · obtain ⟨rfl, rfl⟩ := look_one hi; exact hh.elim
variable {P : Program} {fr : Nat} {ty : TypeId} {e : Operand → A}
theorem split_at {α : Type} {xs : List α} {k : Nat} (h : k < xs.length) : ∃ p1 p p2, xs = p1 ++ p :: p2 ∧ p1.length = k :=
  ⟨xs.take k, xs[k], xs.drop (k + 1), by rw [List.getElem_cons_drop, List.take_append_drop], by rw [List.length_take]; omega⟩
/-- The pointer to a kid: its tree has a box of its own then. -/
theorem does_load_kid {T : TypeId} {t : TyI} {x : Operand} {id k : Nat} {l1 l2 : List Tn} {t0 : Tn} (ht : mkTy P T = some t) (hr : t.row = false) (hx : e x = .pr id 1 k 0) (hl : look id β = some (.res (kidsR Q (l1 ++ t0 :: l2)))) (hk : l1.length = k) (hf : look fr β = none) :
    Does P (some fr) (.load T x) ty e β (.px fr 0) [(fr, .res (treeR Q t0)), (id, .rel fr (kidHole Q l1 l2))] [id] := by
  subst hk
  intro C γ hag ρ I w hm a hops o ho hd hty K Q' hK
  have hf2 : look fr γ = none := (hag fr (by simp)).trans hf
  have hl2 : look id γ = some (.res (kidsR Q (l1 ++ t0 :: l2))) := (hag id (by simp)).trans hl
  obtain ⟨_, hp⟩ := hops x (by simp [Op.operands])
  rw [hx] at hp
  obtain ⟨g, n, c, hρ, hkn, hv⟩ := hp
  obtain ⟨fs, xs, f0, b1, b2, b3, b4⟩ := hm.box id _ hl2
  have hlen := forest_len b2
  obtain ⟨p1, p, p2, hxs, hp1⟩ := split_at (xs := xs) (k := l1.length) (by rw [hlen]; simp)
  subst hxs
  obtain ⟨fa, fb, k1, k2, k3⟩ := forest_app hp1 b2
  obtain ⟨ft, fc, k4, k5, k6⟩ := forest_app (a := [t0]) (pa := [p]) rfl k2
  have k4 := one_forest k4
  obtain ⟨g0, hg0⟩ := tree_ptr k4
  have hcell : w.cell? ⟨g, l1.length, none⟩ = some p := by
    have := b1.cells (g := g) (by rw [hρ]; rfl) l1.length p (by rw [← hp1]; simp)
    rwa [show (⟨g, 0, none⟩ : Addr).add l1.length = ⟨g, l1.length, none⟩ by unfold Addr.add; split <;> simp_all] at this
  have hnd := forest_nodup b2
  rw [k3, k6] at hnd
  have hne : id ≠ fr := fun h => by rw [h, hf2] at hl2; cases hl2
  have hrep : (kidsR Q (l1 ++ t0 :: l2)).rep w (ρ id) fs := ⟨_, f0, b1, b2, b3, b4⟩
  have hhas : ∀ g ∈ fs, (Box.res (kidsR Q (l1 ++ t0 :: l2))).has w (ρ id) g := fun g hg => ⟨fs, hrep, hg⟩
  have knew := app_forest k1 k5 fun x hx hc => (List.nodup_append.1 hnd).2.2 x hx x (List.mem_append_right _ hc) rfl
  rw [b3, k3, k6] at b4
  have hsub : (blkL (ρ id) ++ (fa ++ fc)).Nodup := by
    refine List.nodup_append.2 ⟨(List.nodup_append.1 b4).1, forest_nodup knew, fun x hx y hy e => ?_⟩
    subst e
    refine (List.nodup_append.1 b4).2.2 x hx x ?_ rfl
    rcases List.mem_append.1 hy with h | h <;> simp [h]
  have hid : updF ρ fr p id = ρ id := upd_dom hf2 ρ p id (by unfold dom; rw [hl2]; simp)
  have hhole : (kidHole Q l1 l2).rep w (updF ρ fr p fr) (updF ρ fr p id) (blkL (ρ id) ++ (fa ++ fc)) := by
    rw [upd_same, hid]
    refine ⟨p1, p2, _, ?_, hp1, knew, rfl, hsub⟩
    have : (l1 ++ t0 :: l2).length = l1.length + 1 + l2.length := by rw [List.length_append, List.length_cons]; omega
    rwa [this] at b1
  have cls : ∀ (z : Nat) (B : Box) (k : Nat), look z [(fr, Box.res (treeR Q t0)), (id, .rel fr (kidHole Q l1 l2))] = some B → B.has w (updF ρ fr p z) k → (z = fr ∧ k ∈ ft) ∨ (z = id ∧ k ∈ blkL (ρ id) ++ (fa ++ fc)) := by
    intro z B k hz hB
    rcases look_of2 hz with ⟨rfl, rfl⟩ | ⟨rfl, rfl⟩
    · obtain ⟨f', hf', hk⟩ := hB
      have hf' : TreeRep Q w t0 _ f' := hf'
      rw [upd_same] at hf'
      rw [TreeRep.det t0 hf' k4] at hk
      exact .inl ⟨rfl, hk⟩
    · obtain ⟨u, f', hf', hk⟩ := hB
      rw [(kidHole Q l1 l2).det hf' hhole] at hk
      exact .inr ⟨rfl, hk⟩
  obtain ⟨m1, m2⟩ := mem_regroup hm [(fr, .res (treeR Q t0)), (id, .rel fr (kidHole Q l1 l2))] (updF ρ fr p) (upd_dom hf2 ρ p) (fun i b hi => by
      rcases look_of2 hi with ⟨rfl, rfl⟩ | ⟨rfl, rfl⟩
      · exact ⟨⟨ft, by rw [upd_same]; exact k4⟩, trivial⟩
      · exact ⟨⟨_, hhole⟩, dom_left look_a⟩) (fun i b k hi hh => ⟨id, _, hl2, look_b, hhas k (by
      rw [b3, k3, k6]
      rcases cls i b k hi hh with ⟨_, h⟩ | ⟨_, h⟩
      · simp [h]
      · rcases List.mem_append.1 h with h | h
        · simp [h]
        · rcases List.mem_append.1 h with h | h <;> simp [h])⟩) (fun i j b b' k hi hj hh hh' => by
      have hdd : ∀ x ∈ ft, x ∈ blkL (ρ id) ++ (fa ++ fc) → False := fun x hx hy => by
        rcases List.mem_append.1 hy with hy | hy
        · exact (List.nodup_append.1 b4).2.2 x hy x (by simp [hx]) rfl
        · rcases List.mem_append.1 hy with hy | hy
          · exact (List.nodup_append.1 hnd).2.2 x hy x (List.mem_append_left _ hx) rfl
          · exact (List.nodup_append.1 (List.nodup_append.1 hnd).2.1).2.2 x hx x hy rfl
      rcases cls i b k hi hh with ⟨rfl, h⟩ | ⟨rfl, h⟩ <;> rcases cls j b' k hj hh' with ⟨rfl, h'⟩ | ⟨rfl, h'⟩
      · rfl
      · exact (hdd k h h').elim
      · exact (hdd k h' h).elim
      · rfl)
  have hrun : (execOp a.eval o).run P w = .ok (.value p) w := by
    have hv2 : a.eval x = .pointer (some ⟨g, l1.length, none⟩) := by rw [hv, Nat.mul_one, Nat.add_zero]
    have h9 := run_loadVar_one ht hr hcell
    simp [execOp, ho, hv2, Instr.loadAt, Instr.sureAddr, Sem.run_bind, h9]
  unfold Oper.wp
  rw [hrun, Oper.upon_value, hd]
  exact hK _ _ I w m1 m2 (dom_left look_a) ⟨g0, (upd_same _ _ _).trans hg0, hg0⟩
theorem px_val {i : Nat} {v : Value} (h : RepA ρ I w (.px i 0) v) : v = ρ i ∧ ∃ g : Nat, v = .pointer (some ⟨g, 0, none⟩) := by
  obtain ⟨g, h1, h2⟩ := h
  exact ⟨h2.trans h1.symm, g, h2⟩
/-- A row of one's own, of one pointer. -/
theorem does_build_kid {T el : TypeId} {t te : TyI} {x : Operand} {X : Nat} {t0 : Tn} (ht : mkTy P T = some t) (hk : t.kind = .slice el) (hte : mkTy P el = some te) (hes : te.size = 1) (hel : el = Q.E) (hx : e x = .px X 0) (hl : look X β = some (.res (treeR Q t0))) (hf : look fr β = none) :
    Does P (some fr) (.buildSlice T 1 #[(0, x)]) ty e β (.ow fr 1) [(fr, .res (kidsR Q [t0])), (X, .dead)] [X] := by
  intro C γ hag ρ I w hm a hops o ho hd hty K Q' hK
  have hf2 : look fr γ = none := (hag fr (by simp)).trans hf
  have hl2 : look X γ = some (.res (treeR Q t0)) := (hag X (by simp)).trans hl
  obtain ⟨_, hp⟩ := hops x (by simp [Op.operands])
  rw [hx] at hp
  obtain ⟨hv, g, hg⟩ := px_val hp
  have hfX : X ≠ fr := fun h => by rw [h, hf2] at hl2; cases hl2
  have h := does_buildSlice (P := P) (fr := fr) (ty := ty) (e := fun y => .d (.sc (a.eval y))) (β := γ) (T := T) (len := 1) (parts := #[(0, x)]) (es := [[.sc (a.eval x)]]) ht hk hte rfl rfl (by rw [hes]; exact ⟨rfl, rfl, trivial⟩) (by omega) (by omega) hf2
  refine h C γ (fun _ _ => rfl) ρ I w hm a (fun y hy => ⟨trivial, rfl, ?_⟩) o ho hd hty K Q' fun vv ρ' I' w' hm' hx' hb' hr' => ?_
  · have : y = x := by simpa [Op.operands] using hy
    subst this
    rw [hg]; rfl
  have hX' : look X ([(fr, Box.row el te.size [[.sc (a.eval x)]])] ++ γ) = some (.res (treeR Q t0)) := by
    rw [look_append, look_cons, if_neg (fun h => hfX h.symm)]; exact hl2
  have hρ : ρ' X = a.eval x := (hx'.rho X (by unfold dom; rw [hl2]; simp)).trans hv.symm
  have m1 := mem_fone X hX' hm'
  have m2 := mem_kshut (Q := Q) (ts := [t0]) (ps := [ρ' X]) fr X (by rw [look_append, look_cons, if_neg hfX, hρ, ← hel]; simp [look, hes]) (by simp [look]) m1
  refine hK vv ρ' I' w' (m2.congr fun i => ?_) hx' (dom_left look_a) hr'
  simp only [look_append, look_cons, look]
  by_cases e1 : fr = i
  · simp [e1]
  · by_cases e2 : X = i
    · simp [e1, e2]
    · simp [e1, e2]
/-- Of two pointers. -/
theorem does_build_kids2 {T el : TypeId} {t te : TyI} {x y : Operand} {X Y : Nat} {t0 t1 : Tn} (ht : mkTy P T = some t) (hk : t.kind = .slice el) (hte : mkTy P el = some te) (hes : te.size = 1) (hel : el = Q.E) (hx : e x = .px X 0) (hy : e y = .px Y 0) (hl : look X β = some (.res (treeR Q t0))) (hly : look Y β = some (.res (treeR Q t1))) (hXY : X ≠ Y) (hf : look fr β = none) :
    Does P (some fr) (.buildSlice T 2 #[(0, x), (1, y)]) ty e β (.ow fr 2) [(fr, .res (kidsR Q [t0, t1])), (X, .dead), (Y, .dead)] [X, Y] := by
  intro C γ hag ρ I w hm a hops o ho hd hty K Q' hK
  have hf2 : look fr γ = none := (hag fr (by simp)).trans hf
  have hl2 : look X γ = some (.res (treeR Q t0)) := (hag X (by simp)).trans hl
  have hly2 : look Y γ = some (.res (treeR Q t1)) := (hag Y (by simp)).trans hly
  obtain ⟨_, hp⟩ := hops x (by simp [Op.operands])
  rw [hx] at hp
  obtain ⟨hv, g, hg⟩ := px_val hp
  obtain ⟨_, hp2⟩ := hops y (by simp [Op.operands])
  rw [hy] at hp2
  obtain ⟨hv2, g2, hg2⟩ := px_val hp2
  have hfX : X ≠ fr := fun h => by rw [h, hf2] at hl2; cases hl2
  have hfY : Y ≠ fr := fun h => by rw [h, hf2] at hly2; cases hly2
  have h := does_buildSlice (P := P) (fr := fr) (ty := ty) (e := fun y => .d (.sc (a.eval y))) (β := γ) (T := T) (len := 2) (parts := #[(0, x), (1, y)]) (es := [[.sc (a.eval x)], [.sc (a.eval y)]]) ht hk hte rfl rfl (by rw [hes]; exact ⟨rfl, rfl, rfl, rfl, trivial⟩) (by omega) (by omega) hf2
  refine h C γ (fun _ _ => rfl) ρ I w hm a (fun z hz => ⟨trivial, rfl, ?_⟩) o ho hd hty K Q' fun vv ρ' I' w' hm' hx' hb' hr' => ?_
  · have : z = x ∨ z = y := by simpa [Op.operands] using hz
    rcases this with rfl | rfl
    · rw [hg]; rfl
    · rw [hg2]; rfl
  have hX' : look X ([(fr, Box.row el te.size [[.sc (a.eval x)], [.sc (a.eval y)]])] ++ γ) = some (.res (treeR Q t0)) := by
    rw [look_append, look_cons, if_neg (fun h => hfX h.symm)]; exact hl2
  have hρ : ρ' X = a.eval x := (hx'.rho X (by unfold dom; rw [hl2]; simp)).trans hv.symm
  have hρ2 : ρ' Y = a.eval y := (hx'.rho Y (by unfold dom; rw [hly2]; simp)).trans hv2.symm
  have m1 := mem_fone X hX' hm'
  have m2 := mem_fone (Q := Q) (t := t1) Y (by simp only [look_append, look_cons, look]; rw [if_neg hXY, if_neg (fun h => hfY h.symm)]; simpa using hly2) m1
  have m3 := mem_fjoin (Q := Q) (l1 := [t0]) (l2 := [t1]) (p1 := [ρ' X]) (p2 := [ρ' Y]) X Y (by simp [look_append, look_cons, look, hXY.symm]) (by simp [look]) hXY m2
  have m4 := mem_kshut (Q := Q) (ts := [t0, t1]) (ps := [ρ' X, ρ' Y]) fr X (by simp only [look_append, look_cons, look]; simp [hfX, hfY, hρ, hρ2, ← hel, hes]) (by simp [look]) m3
  refine hK vv ρ' I' w' (m4.congr fun i => ?_) hx' (dom_left look_a) hr'
  simp only [look_append, look_cons, look]
  by_cases e1 : fr = i
  · simp [e1]
  · by_cases e2 : X = i
    · simp [e1, e2]
    · by_cases e3 : Y = i
      · simp [e1, e2, e3]
      · simp [e1, e2, e3]
/-- Kids, one row behind another. -/
theorem does_append_kids {T el : TypeId} {t te : TyI} {s x : Operand} {id id2 n m : Nat} {ts us : List Tn} (ht : mkTy P T = some t) (hk : t.kind = .slice el) (hte : mkTy P el = some te) (hes : te.size = 1) (hel : el = Q.E) (hs : e s = .ow id n) (hx : e x = .ow id2 m) (hl : look id β = some (.res (kidsR Q ts))) (hl2 : look id2 β = some (.res (kidsR Q us)))
    (hb : (ts.length + us.length) * te.bytes ≤ 140737488355328) (h63 : ts.length + us.length ≤ 9223372036854775807) (hne : id ≠ id2) (hf : look fr β = none) :
    Does P (some fr) (.call { callee := .builtin .append, args := #[s, x], argTypes := #[T, T] }) ty e β (.ow fr (ts.length + us.length)) [(fr, .res (kidsR Q (ts ++ us))), (id, .dead), (id2, .dead)] [id, id2] := by
  intro C γ hag ρ I w hm a hops o ho hd hty K Q' hK
  have hf2 : look fr γ = none := (hag fr (by simp)).trans hf
  have hl1 : look id γ = some (.res (kidsR Q ts)) := (hag id (by simp)).trans hl
  have hl2 : look id2 γ = some (.res (kidsR Q us)) := (hag id2 (by simp)).trans hl2
  have hf1 : id ≠ fr := fun h => by rw [h, hf2] at hl1; cases hl1
  have hf3 : id2 ≠ fr := fun h => by rw [h, hf2] at hl2; cases hl2
  obtain ⟨i4, f4, g4⟩ := fresh_id γ [fr, id, id2]
  obtain ⟨i5, f5, g5⟩ := fresh_id γ [fr, id, id2, i4]
  simp only [List.mem_cons, List.not_mem_nil, or_false, not_or] at g4 g5
  obtain ⟨⟨ps, hps⟩, m1⟩ := mem_kopen id i4 hl1 f4 hm
  obtain ⟨⟨qs, hqs⟩, m2⟩ := mem_kopen (Q := Q) (ts := us) id2 i5 (by simp only [look_append, look_cons, look]; simp [hne, g4.2.2, hl2]) (by simp only [look_append, look_cons, look]; simp [Ne.symm g5.2.1, Ne.symm g5.2.2.2, f5]) m1
  dsimp only at m1 m2
  have hmono : ∀ i, dom γ i → dom ([(id2, Box.row Q.E 1 (qs.map ptrE)), (i5, .res (forestR Q us qs))] ++ ([(id, .row Q.E 1 (ps.map ptrE)), (i4, .res (forestR Q ts ps))] ++ γ)) i := fun i hi => dom_append (dom_append hi)
  have h := does_append_own (P := P) (fr := fr) (ty := ty) (e := e) (β := [(id2, Box.row Q.E 1 (qs.map ptrE)), (i5, .res (forestR Q us qs))] ++ ([(id, .row Q.E 1 (ps.map ptrE)), (i4, .res (forestR Q ts ps))] ++ γ)) (T := T) (s := s) (x := x) (id := id) (n := n) (es := ps.map ptrE) (ns := qs.map ptrE) ht hk hte hs
    (by simp only [look_append, look_cons, look]; simp [Ne.symm hne, g5.2.1, hel, hes]) (by rw [hx]; simp [newsA, rowsOf, look, hes]) (by omega) (by simpa [hps, hqs] using hb) (by simpa [hps, hqs] using h63) (by simp only [look_append, look_cons, look]; simp [hf3, g5.1, hf1, g4.1, hf2])
  refine h C _ (fun _ _ => rfl) ρ I w m2 a (fun y hy => ?_) o ho hd hty K Q' fun vv ρ' I' w' hm' hx' hb' hr' => ?_
  · obtain ⟨q1, q2⟩ := hops y hy
    exact ⟨A.inB_mono hmono _ q1, q2⟩
  have m3 := mem_fjoin (Q := Q) (l1 := ts) (l2 := us) (p1 := ps) (p2 := qs) i4 i5 (by simp only [look_append, look_cons, look]; simp [Ne.symm g4.1, Ne.symm g4.2.1, Ne.symm g4.2.2, g5.2.2.2]) (by simp only [look_append, look_cons, look]; simp [Ne.symm g5.1, Ne.symm g5.2.1, Ne.symm g5.2.2.1]) (Ne.symm g5.2.2.2) hm'
  have m4 := mem_kshut (Q := Q) (ts := ts ++ us) (ps := ps ++ qs) fr i4 (by simp only [look_append, look_cons, look]; simp [g4.1, g5.1, hel, hes]) (by simp [look]) m3
  have m5 := mem_kill id2 (by unfold dom; simp only [look_append, look_cons, look]; simp [Ne.symm hf3, g4.2.2, g5.2.2.1, hne]) m4
  have hlen : (ps.map ptrE).length + (qs.map ptrE).length = ts.length + us.length := by rw [List.length_map, List.length_map, hps, hqs]
  rw [hlen] at hr'
  refine hK vv ρ' I' w' (m5.sub (fun i b hi => ?_) (fun i b hi => ?_)) ⟨hx'.toExtI, fun i hi => hx'.rho i (hmono i hi)⟩ (dom_left look_a) hr'
  · obtain ⟨g41, g42, g43⟩ := g4
    obtain ⟨g51, g52, g53, g54⟩ := g5
    simp only [look_append, look_cons, look] at hi ⊢
    by_cases e1 : fr = i
    · have e3 : ¬ id2 = i := fun h => hf3 (h.trans e1.symm)
      simp only [e1, e3, if_true, if_false, Option.none_or, Option.some_or] at hi ⊢
      exact hi
    · by_cases e3 : id2 = i
      · have e2 : ¬ id = i := fun h => hne (h.trans e3.symm)
        simp only [e1, e2, e3, if_true, if_false, Option.none_or, Option.some_or] at hi ⊢
        exact hi
      · by_cases e2 : id = i
        · have e4 : ¬ i4 = i := fun h => g42 (h.trans e2.symm)
          have e5 : ¬ i5 = i := fun h => g52 (h.trans e2.symm)
          simp only [e1, e2, e3, e4, e5, if_true, if_false, Option.none_or, Option.some_or] at hi ⊢
          exact hi
        · have e4 : ¬ i4 = i := fun h => by
            simp only [e1, e2, e3, if_false, Option.none_or] at hi
            rw [← h, f4] at hi
            cases hi
          have e5 : ¬ i5 = i := fun h => by
            simp only [e1, e2, e3, if_false, Option.none_or] at hi
            rw [← h, f5] at hi
            cases hi
          simp only [e1, e2, e3, e4, e5, if_true, if_false, Option.none_or, Option.some_or] at hi ⊢
          exact hi
  · rw [look_append] at hi
    cases hu : look i [(fr, Box.res (kidsR Q (ts ++ us))), (id, .dead), (id2, .dead)] with
    | none =>
      rw [hu] at hi
      exact Box.inB_mono (fun j hj => dom_append hj) b (hm.clo i b hi)
    | some b' =>
      rw [hu] at hi
      injection hi with hi
      subst hi
      rcases look_of3 hu with ⟨_, rfl⟩ | ⟨_, rfl⟩ | ⟨_, rfl⟩ <;> trivial
end
end Go.Proofs.YtfplkakfakdfhaaDoor


/-
  cmp.Compare, seek, insert as contracts. No condition but few keys.
-/
namespace Go.Proofs.YtfplkakfakdfhaaDoor
set_option linter.unusedSimpArgs false
set_option linter.unusedVariables false
open Go.RowKit

abbrev ltB (x y : ByteArray) : Bool := Op.bytesLess x.toList y.toList
def cmpB (x y : ByteArray) : Int := if ltB x y = true then -1 else if (!(ltB x y || x.toList == y.toList)) = true then 1 else 0
def seekF (key : ByteArray) : List ByteArray → Nat × Bool
  | [] => (0, false)
  | k :: r => if cmpB key k ≤ 0 then (0, decide (cmpB key k = 0)) else ((seekF key r).1 + 1, (seekF key r).2)
def insL {α : Type} (l : List α) (i : Nat) (x : α) : List α := l.take i ++ x :: l.drop i
theorem isNaN_pc (x : ByteArray) : PC Tryd.prog 59 [strD x] (bD false) := by
  refine pc_of_aw Tryd.func59 rfl (by kernel_rfl) mixed (by kernel_rfl) (by rw [Tryd.ntmps59]; exact Nat.le_of_ble_eq_true rfl) Tryd.results59 ?_
  repeat (first | (with_reducible first | apply aw_seq | apply aw_reg | apply rp_nil | apply ae_norm | apply aw_ret | apply re_ret) | ((with_reducible apply rp); first | ((with_reducible apply does_move); (conv => lhs; whnf)) | ((with_reducible apply does_assign); (conv => lhs; whnf)) | ((with_reducible apply does_sne); exact rfl; exact rfl)))
  (with_reducible apply ret_ok); (focus (repeat' (first | (with_reducible apply rv_nil) | (with_reducible apply rv_cons) | ((with_reducible apply rv_tmp); exact rfl)))); exact rfl; refine SubD.of_eq ?_
  show D.sc (.bool (!(x.toList == x.toList))) = bD false
  rw [beq_self_eq_true]
  rfl
theorem cmp_pc (x y : ByteArray) : PC Tryd.prog 49 [strD x, strD y] (iD (cmpB x y)) := by
  have n1 := isNaN_pc x
  have n2 := isNaN_pc y
  refine pc_of_aw Tryd.func49 rfl (by kernel_rfl) mixed (by kernel_rfl) (by rw [Tryd.ntmps49]; exact Nat.le_of_ble_eq_true rfl) Tryd.results49 ?_
  repeat (first | (with_reducible first | apply aw_seq | apply aw_reg | apply rp_nil | apply ae_norm | apply aw_skip) | ((with_reducible apply rp); first | ((with_reducible apply does_call_flat); exact rfl; exact rfl; exact (n1); exact rfl) | ((with_reducible apply does_call_flat); exact rfl; exact rfl; exact (n2); exact rfl) | ((with_reducible apply does_move); (conv => lhs; whnf)) | ((with_reducible apply does_assign); (conv => lhs; whnf)) | ((with_reducible apply does_slt); exact rfl; exact rfl)) | ((with_reducible apply aw_cond); exact rfl; (focus (intro hd; (cases hd; done))); (intro hd; clear hd)))
  refine aw_cond rfl (fun h1 => ?_) (fun h1 => ?_)
  · repeat (first | (with_reducible first | apply aw_seq | apply aw_reg | apply rp_nil | apply ae_norm | apply aw_ret | apply ae_ret | apply re_ret) | ((with_reducible apply rp); ((with_reducible apply does_assign); (conv => lhs; whnf))))
    (with_reducible apply ret_ok); (focus (repeat' (first | (with_reducible apply rv_nil) | (with_reducible apply rv_cons) | ((with_reducible apply rv_tmp); exact rfl)))); exact rfl; refine SubD.of_eq ?_
    unfold cmpB
    rw [if_pos h1]
    rfl
  · repeat (first | (with_reducible first | apply aw_seq | apply aw_reg | apply rp_nil | apply ae_norm | apply aw_skip) | ((with_reducible apply rp); first | ((with_reducible apply does_move); (conv => lhs; whnf)) | ((with_reducible apply does_sgt); exact rfl; exact rfl)))
    refine aw_cond rfl (fun h2 => ?_) (fun h2 => ?_)
    · repeat (first | (with_reducible first | apply aw_seq | apply aw_reg | apply rp_nil | apply ae_norm | apply aw_ret | apply ae_ret | apply re_ret) | ((with_reducible apply rp); ((with_reducible apply does_assign); (conv => lhs; whnf))))
      (with_reducible apply ret_ok); (focus (repeat' (first | (with_reducible apply rv_nil) | (with_reducible apply rv_cons) | ((with_reducible apply rv_tmp); exact rfl)))); exact rfl; refine SubD.of_eq ?_
      unfold cmpB
      rw [if_neg (by rw [show ltB x y = false from h1]; decide), if_pos h2]
      rfl
    · repeat (first | (with_reducible first | apply aw_seq | apply aw_reg | apply rp_nil | apply ae_norm | apply aw_ret | apply re_ret | apply aw_skip) | ((with_reducible apply rp); ((with_reducible apply does_assign); (conv => lhs; whnf))))
      (with_reducible apply ret_ok); (focus (repeat' (first | (with_reducible apply rv_nil) | (with_reducible apply rv_cons) | ((with_reducible apply rv_tmp); exact rfl)))); exact rfl; refine SubD.of_eq ?_
      unfold cmpB
      rw [if_neg (by rw [show ltB x y = false from h1]; decide), if_neg (by rw [show (!(ltB x y || x.toList == y.toList)) = false from h2]; decide)]
      rfl
theorem seekF_get {key : ByteArray} : ∀ {l : List ByteArray} {k : Nat} {g : ByteArray}, (∀ j < k, ∀ x, l[j]? = some x → ¬ cmpB key x ≤ 0) → l[k]? = some g → cmpB key g ≤ 0 → seekF key l = (k, decide (cmpB key g = 0))
  | [], k, g, _, h, _ => by simp at h
  | a :: l, 0, g, _, h, h2 => by
    simp only [List.getElem?_cons_zero, Option.some.injEq] at h
    subst h
    unfold seekF
    rw [if_pos h2]
  | a :: l, k + 1, g, h1, h, h2 => by
    have ha := h1 0 (by omega) a rfl
    unfold seekF
    rw [if_neg ha, seekF_get (l := l) (k := k) (fun j hj x hx => h1 (j + 1) (by omega) x (by simpa using hx)) (by simpa using h) h2]
theorem seekF_end {key : ByteArray} : ∀ {l : List ByteArray}, (∀ j < l.length, ∀ x, l[j]? = some x → ¬ cmpB key x ≤ 0) → seekF key l = (l.length, false)
  | [], _ => rfl
  | a :: l, h => by
    unfold seekF
    rw [if_neg (h 0 (by simp) a rfl), seekF_end fun j hj x hx => h (j + 1) (by simpa using hj) x (by simpa using hx)]
    rfl
theorem seek_pc (l : List ByteArray) (key : ByteArray) (hl : l.length ≤ 4611686018427387904) : PC Tryd.prog 37 [.sl 1 (l.map strE), strD key] (.tu [iD (seekF key l).1, bD (seekF key l).2]) := by
  refine pc_of_aw Tryd.func37 rfl (by kernel_rfl) mixed (by kernel_rfl) (by rw [Tryd.ntmps37]; exact Nat.le_of_ble_eq_true rfl) Tryd.results37 ?_
  repeat (first | (with_reducible first | apply aw_seq | apply aw_reg | apply rp_nil | apply ae_norm | apply aw_block) | ((with_reducible apply rp); first | ((with_reducible apply does_move); (conv => lhs; whnf)) | ((with_reducible apply does_assign); (conv => lhs; whnf)) | ((with_reducible apply does_len_map); exact tyOk rfl; exact rfl; exact rfl)))
  refine aw_loop (fun n s => ∃ k, k ≤ l.length ∧ n = l.length - k ∧ (∀ j < k, ∀ x, l[j]? = some x → ¬ cmpB key x ≤ 0) ∧ s = ⟨[(0, .d (.sl 1 (l.map strE))), (1, .d (strD key)), (4, .d (iD 0)), (5, .d (bD false)), (9, .d (.sl 1 (l.map strE))), (10, .d (iD l.length)), (11, .d (iD k))], []⟩) _ _ ?_ ⟨0, by omega, rfl, fun j hj => absurd hj (Nat.not_lt_zero j), rfl⟩ ?_
  · refine forget_of [] (by repeat' (first | exact ks_nil | (refine ks_cons rfl (by exact SubA.refl _) ?_))) (by repeat' exact trivial) rfl (by repeat' (first | exact trivial | refine And.intro ?_ ?_)) (by repeat' (first | exact trivial | refine And.intro ?_ ?_))
  · rintro n s1 ⟨k, hk, rfl, hpre, rfl⟩
    repeat (first | (with_reducible first | apply aw_seq | apply aw_reg | apply rp_nil | apply ae_norm) | ((with_reducible apply rp); ((with_reducible apply does_lt); exact rfl; exact rfl)))
    refine aw_cond rfl (fun hd => ?_) (fun hd => ?_)
    · have hlt : k < l.length := by simpa using hd
      obtain ⟨g, hg⟩ : ∃ g, l[k]? = some g := ⟨_, List.getElem?_eq_getElem hlt⟩
      have c1 := cmp_pc key g
      generalize hc : cmpB key g = c at c1
      repeat (first | (with_reducible first | apply aw_seq | apply aw_reg | apply rp_nil | apply ae_norm | apply aw_block | apply aw_skip) | ((with_reducible apply rp); first | ((with_reducible apply does_call_flat); exact rfl; exact rfl; exact (c1); exact rfl) | ((with_reducible apply does_move); (conv => lhs; whnf)) | ((with_reducible apply does_assign); (conv => lhs; whnf)) | ((with_reducible apply does_load_elem); exact tyOk rfl; exact rfl; exact rfl; exact map_get (by assumption); exact rfl) | ((with_reducible apply does_index_sl); exact tyOk rfl; exact rfl; exact tyOk rfl; exact rfl; exact rfl; exact rfl; exact rfl; (simp only [List.length_map, List.length_append, List.length_cons, List.length_nil] at *; omega)) | ((with_reducible apply does_le); exact rfl; exact rfl)))
      refine aw_cond rfl (fun he => ?_) (fun he => ?_)
      · have hle : c ≤ 0 := by simpa using he
        repeat (first | (with_reducible first | apply aw_seq | apply aw_reg | apply rp_nil | apply ae_norm | apply aw_ret | apply ae_ret | apply be_ret | apply re_ret) | ((with_reducible apply rp); first | ((with_reducible apply does_move); (conv => lhs; whnf)) | ((with_reducible apply does_assign); (conv => lhs; whnf)) | ((with_reducible apply does_eq); exact rfl; exact rfl)))
        (with_reducible apply ret_ok); (focus (repeat' (first | (with_reducible apply rv_nil) | (with_reducible apply rv_cons) | ((with_reducible apply rv_tmp); exact rfl)))); exact rfl; refine SubD.of_eq ?_
        rw [seekF_get hpre hg (by rw [hc]; exact hle), hc]
        show D.tu [iD k, bD (c == 0)] = D.tu [iD k, bD (decide (c = 0))]
        rw [show (c == 0) = decide (c = 0) from rfl]
      · have hgt : ¬ c ≤ 0 := by simpa using he
        repeat (first | (with_reducible first | apply aw_reg | apply rp_nil | apply ae_norm | apply be_norm | apply aw_skip) | ((with_reducible apply rp); first | ((with_reducible apply does_move); (conv => lhs; whnf)) | ((with_reducible apply does_add); exact rfl; exact rfl; omega; omega)))
        refine ⟨l.length - (k + 1), _, by omega, ?_, k + 1, by omega, rfl, fun j hj x hx => ?_, rfl⟩
        · refine forget_of [] (by repeat' (first | exact ks_nil | (refine ks_cons rfl (by exact SubA.refl _) ?_))) (by repeat' exact trivial) rfl (by repeat' (first | exact trivial | refine And.intro ?_ ?_)) (by repeat' (first | exact trivial | refine And.intro ?_ ?_))
        · rcases Nat.lt_succ_iff_lt_or_eq.1 hj with hj | rfl
          · exact hpre j hj x hx
          · rw [hg] at hx
            injection hx with hx
            subst hx
            rw [hc]
            exact hgt
    · have hkl : k = l.length := by simp at hd; omega
      subst hkl
      repeat (first | (with_reducible first | apply aw_seq | apply aw_reg | apply rp_nil | apply ae_norm | apply aw_exit | apply ae_exit | apply be_exit | apply aw_ret | apply re_ret) | ((with_reducible apply rp); first | ((with_reducible apply does_move); (conv => lhs; whnf)) | ((with_reducible apply does_assign); (conv => lhs; whnf)) | ((with_reducible apply does_len_map); exact tyOk rfl; exact rfl; exact rfl)))
      (with_reducible apply ret_ok); (focus (repeat' (first | (with_reducible apply rv_nil) | (with_reducible apply rv_cons) | ((with_reducible apply rv_tmp); exact rfl)))); exact rfl; refine SubD.of_eq ?_
      rw [seekF_end hpre]
      rfl
theorem insL_map {α β : Type} (f : α → β) (l : List α) (i : Nat) (x : α) : (insL l i x).map f = (l.map f).take i ++ f x :: (l.map f).drop i := by
  unfold insL
  rw [List.map_append, List.map_cons, List.map_take, List.map_drop]
theorem does_slice_e {P : Program} {dst : Option Nat} {ty : TypeId} {e : Operand → A} {β : Bx} {T : TypeId} {x : Operand} {t te : TyI} {el : TypeId} {lo hi : Option Operand} {sz l h : Nat} {es r : List (List D)} (ht : mkTy P T = some t) (hk : t.kind = .slice el) (hte : mkTy P el = some te) (hx : e x = .d (.sl sz es)) (hsz : te.size = sz) (hl : loIs e l lo) (hh : hiIs e h es.length hi) (h1 : l ≤ h) (h2 : h ≤ es.length) (hr : (es.take h).drop l = r) :
    Does P dst (.slice T x lo hi none) ty e β (.d (.sl sz r)) [] [] := hr ▸ does_slice ht hk hte hx hsz hl hh h1 h2
theorem ins_parts {α : Type} (es : List α) (i : Nat) (hi : i ≤ es.length) (hl : es.length ≤ 1000) : ∃ a b, (es.take i).drop 0 = a ∧ (es.take es.length).drop i = b ∧ es.take i = a ∧ es.drop i = b ∧ a.length ≤ 1000 ∧ b.length ≤ 1000 :=
  ⟨_, _, rfl, rfl, rfl, by rw [List.take_length], by rw [List.drop_zero, List.length_take]; omega, by rw [List.take_length, List.length_drop]; omega⟩
theorem insS_pco (l : List ByteArray) (i : Nat) (x : ByteArray) (hi : i ≤ l.length) (hl : l.length ≤ 1000) : PCO Tryd.prog 50 [.sl 1 (l.map strE), iD i, strD x] 9 1 ((insL l i x).map strE) [] := by
  rw [insL_map]
  generalize hes : l.map strE = es at *
  have hel : i ≤ es.length := by rw [← hes, List.length_map]; exact hi
  obtain ⟨a, b, hA, hB, hT, hD, ha, hb⟩ := ins_parts es i hel (by rw [← hes, List.length_map]; exact hl)
  rw [hT, hD]
  refine pco_of_aw Tryd.func50 rfl (by kernel_rfl) mixed (by kernel_rfl) (by rw [Tryd.ntmps50]; exact Nat.le_of_ble_eq_true rfl) Tryd.results50 ?_
  repeat (first | (with_reducible first | apply aw_seq | apply aw_reg | apply rp_nil | apply ae_norm | apply aw_regD | apply aw_ret | apply oe_ret) | ((with_reducible apply dr_nil); (first | kernel_rfl | exact rfl)) | ((with_reducible first | apply rp | apply dr); first | (exact does_slice_e (tyOk rfl) rfl (tyOk rfl) rfl rfl rfl ⟨_, _, rfl, rfl⟩ (by omega) (by omega) hA) | (exact does_slice_e (tyOk rfl) rfl (tyOk rfl) rfl rfl ⟨_, _, rfl, rfl⟩ rfl (by omega) (by omega) hB) | ((with_reducible apply does_move); (conv => lhs; whnf)) | ((with_reducible apply does_assign); (conv => lhs; whnf))) | ((with_reducible first | apply rp1 | apply dr1); ((with_reducible apply does_buildSlice); exact tyOk rfl; exact rfl; exact tyOk rfl; exact rfl; exact rfl; (focus repeat' (first | exact trivial | refine And.intro rfl (And.intro rfl ?_))); decide; decide; exact rfl)) | ((with_reducible first | apply rp2 | apply dr2); ((with_reducible apply does_append_own); exact tyOk rfl; exact rfl; exact tyOk rfl; exact rfl; exact rfl; exact rfl; decide; (first | (dsimp only; simp only [List.length_map, List.length_append, List.length_cons, List.length_nil] at *; omega) | (simp only [List.length_map, List.length_append, List.length_cons, List.length_nil] at *; omega)); (first | (dsimp only; simp only [List.length_map, List.length_append, List.length_cons, List.length_nil] at *; omega) | (simp only [List.length_map, List.length_append, List.length_cons, List.length_nil] at *; omega)); exact rfl)))
  (with_reducible apply reto_ok); (focus (repeat' (first | (with_reducible apply rv_nil) | (with_reducible apply rv_cons) | ((with_reducible apply rv_tmp); exact rfl)))); exact rfl; exact rfl; exact rfl
  simp [D.cells]
theorem insI_pco (l : List Int) (i : Nat) (x : Int) (hi : i ≤ l.length) (hl : l.length ≤ 1000) : PCO Tryd.prog 51 [.sl 1 (l.map intE), iD i, iD x] 3 1 ((insL l i x).map intE) [] := by
  rw [insL_map]
  generalize hes : l.map intE = es at *
  have hel : i ≤ es.length := by rw [← hes, List.length_map]; exact hi
  obtain ⟨a, b, hA, hB, hT, hD, ha, hb⟩ := ins_parts es i hel (by rw [← hes, List.length_map]; exact hl)
  rw [hT, hD]
  refine pco_of_aw Tryd.func51 rfl (by kernel_rfl) mixed (by kernel_rfl) (by rw [Tryd.ntmps51]; exact Nat.le_of_ble_eq_true rfl) Tryd.results51 ?_
  repeat (first | (with_reducible first | apply aw_seq | apply aw_reg | apply rp_nil | apply ae_norm | apply aw_regD | apply aw_ret | apply oe_ret) | ((with_reducible apply dr_nil); (first | kernel_rfl | exact rfl)) | ((with_reducible first | apply rp | apply dr); first | (exact does_slice_e (tyOk rfl) rfl (tyOk rfl) rfl rfl rfl ⟨_, _, rfl, rfl⟩ (by omega) (by omega) hA) | (exact does_slice_e (tyOk rfl) rfl (tyOk rfl) rfl rfl ⟨_, _, rfl, rfl⟩ rfl (by omega) (by omega) hB) | ((with_reducible apply does_move); (conv => lhs; whnf)) | ((with_reducible apply does_assign); (conv => lhs; whnf))) | ((with_reducible first | apply rp1 | apply dr1); ((with_reducible apply does_buildSlice); exact tyOk rfl; exact rfl; exact tyOk rfl; exact rfl; exact rfl; (focus repeat' (first | exact trivial | refine And.intro rfl (And.intro rfl ?_))); decide; decide; exact rfl)) | ((with_reducible first | apply rp2 | apply dr2); ((with_reducible apply does_append_own); exact tyOk rfl; exact rfl; exact tyOk rfl; exact rfl; exact rfl; exact rfl; decide; (first | (dsimp only; simp only [List.length_map, List.length_append, List.length_cons, List.length_nil] at *; omega) | (simp only [List.length_map, List.length_append, List.length_cons, List.length_nil] at *; omega)); (first | (dsimp only; simp only [List.length_map, List.length_append, List.length_cons, List.length_nil] at *; omega) | (simp only [List.length_map, List.length_append, List.length_cons, List.length_nil] at *; omega)); exact rfl)))
  (with_reducible apply reto_ok); (focus (repeat' (first | (with_reducible apply rv_nil) | (with_reducible apply rv_cons) | ((with_reducible apply rv_tmp); exact rfl)))); exact rfl; exact rfl; exact rfl
  simp [D.cells]
end Go.Proofs.YtfplkakfakdfhaaDoor


/-
  insert for the kids of a node as a contract. No condition but few kids.
-/
namespace Go.Proofs.YtfplkakfakdfhaaDoor
set_option linter.unusedSimpArgs false
set_option linter.unusedVariables false
open Go.RowKit

def TQ : TrTy := ⟨94, 9, 3, 76⟩
section
variable {Q : TrTy} {σ : Sl} {β : Bx} {C : Ctx} {a : Act} {w : World}
/-- A row in a slot, as data from now on. -/
theorem ent_frz (s id n : Nat) {E : TypeId} {sz : Nat} {es : List (List D)} (hs : look s σ = some (.ow id n)) (hl : look id β = some (.row E sz es)) (hat : At C ⟨σ, β⟩ a w) : At C ⟨(s, .d (.sl sz es)) :: σ, [(id, .frz sz es)] ++ β⟩ a w := by
  obtain ⟨ρ, I, hm, hfr⟩ := hat
  obtain ⟨I', m1, m2, m3⟩ := hm.freeze_any (id := id) (sz := sz) (es := es) (by unfold rowsOf; rw [hl])
  refine ⟨ρ, I', m1, hfr.defers, hfr.size, hfr.keep, fun t v ht => ?_⟩
  rw [look_cons] at ht
  split at ht
  · rename_i e
    subst e
    injection ht with ht
    subst ht
    obtain ⟨q1, q2, q3⟩ := hfr.val s _ hs
    exact ⟨q1, trivial, by rw [q3.1]; exact m3⟩
  · obtain ⟨q1, q2, q3⟩ := hfr.val t v ht
    exact ⟨q1, A.inB_mono (fun i hi => dom_append hi) v q2, RepA.ext m2 v _ q2 q3⟩
theorem at_trans {β' : Bx} (h : At C ⟨σ, β⟩ a w) (f : At C ⟨σ, β⟩ a w → At C ⟨σ, β'⟩ a w) : At C ⟨σ, β'⟩ a w := f h
/-- Kids and one more: data and a forest. -/
theorem ent_ins (s2 i3 X i4 j i n : Nat) {ts : List Tn} {t : Tn} {p : Value} (hs2 : look s2 σ = some (.ow i3 n)) (hX : look X β = some (.res (forestR Q [t] [p]))) (h3 : look i3 β = some (.res (kidsR Q ts))) (h4 : look i4 β = none) (hj : look j β = none) (hi : i ≤ ts.length) (h34 : i3 ≠ i4) (hX3 : X ≠ i3) (h4j : i4 ≠ j) (h3j : i3 ≠ j) (hat : At C ⟨σ, β⟩ a w) :
    ∃ ps : {ps : List Value // ps.length = ts.length}, At C ⟨(s2, .d (.sl 1 (ps.1.map ptrE))) :: σ, [(i4, .res (forestR Q (insL ts i t) (insL ps.1 i p))), (j, .dead)] ++ ([(i4, .res (forestR Q (ts.take i ++ [t]) (ps.1.take i ++ [p]))), (X, .dead)] ++ ([(i4, .res (forestR Q (ts.take i) (ps.1.take i))), (j, .res (forestR Q (ts.drop i) (ps.1.drop i)))] ++ ([(i3, .frz 1 (ps.1.map ptrE))] ++ ([(i3, .row Q.E 1 (ps.1.map ptrE)), (i4, .res (forestR Q ts ps.1))] ++ β))))⟩ a w := by
  have hX4 : X ≠ i4 := fun e => by rw [e, h4] at hX; cases hX
  have hXj : X ≠ j := fun e => by rw [e, hj] at hX; cases hX
  obtain ⟨⟨ps, hps⟩, a1⟩ := ent_kopen i3 i4 h3 h4 hat
  dsimp only at a1
  have a2 := ent_frz (E := Q.E) (sz := 1) (es := ps.map ptrE) s2 i3 n hs2 (by simp [look]) a1
  have e1 : forestR Q ts ps = forestR Q (ts.take i ++ ts.drop i) (ps.take i ++ ps.drop i) := by rw [List.take_append_drop, List.take_append_drop]
  have a3 := ent_split (Q := Q) (l1 := ts.take i) (l2 := ts.drop i) (p1 := ps.take i) (p2 := ps.drop i) i4 j (by simp only [List.cons_append, List.nil_append, look]; simp [h34, ← e1]) (by rw [List.length_take, List.length_take, hps]) (by simp only [List.cons_append, List.nil_append, look]; simp [h3j, h4j, hj]) a2
  have a4 := at_mem (fun _ _ hm => mem_fjoin (Q := Q) (l1 := ts.take i) (l2 := [t]) (p1 := ps.take i) (p2 := [p]) i4 X (by simp [look]) (by simp only [List.cons_append, List.nil_append, look]; simp [Ne.symm hX3, Ne.symm hX4, Ne.symm hXj, hX]) (Ne.symm hX4) hm) a3
  have a5 := at_mem (fun _ _ hm => mem_fjoin (Q := Q) (l1 := ts.take i ++ [t]) (l2 := ts.drop i) (p1 := ps.take i ++ [p]) (p2 := ps.drop i) i4 j (by simp [look]) (by simp only [List.cons_append, List.nil_append, look]; simp [hXj, h4j]) h4j hm) a4
  have e2 : forestR Q (ts.take i ++ [t] ++ ts.drop i) (ps.take i ++ [p] ++ ps.drop i) = forestR Q (insL ts i t) (insL ps i p) := by unfold insL; rw [List.append_assoc, List.append_assoc]; rfl
  rw [e2] at a5
  exact ⟨⟨ps, hps⟩, a5⟩
/-- A tree's box as a forest of one: its address is data. -/
theorem ent_fone (s X : Nat) {t : Tn} (hs : look s σ = some (.px X 0)) (hX : look X β = some (.res (treeR Q t))) (hat : At C ⟨σ, β⟩ a w) :
    ∃ p : {p : Value // ∃ g : Nat, p = .pointer (some ⟨g, 0, none⟩)}, At C ⟨(s, .d (.sc p.1)) :: σ, [(X, .res (forestR Q [t] [p.1]))] ++ β⟩ a w := by
  obtain ⟨ρ, I, hm, hfr⟩ := hat
  obtain ⟨ft, ht⟩ := hm.box X _ hX
  obtain ⟨g, hg⟩ := tree_ptr (ht : TreeRep Q w t (ρ X) ft)
  refine ⟨⟨ρ X, g, hg⟩, ρ, I, mem_fone X hX hm, hfr.defers, hfr.size, hfr.keep, fun t v ht => ?_⟩
  rw [look_cons] at ht
  split at ht
  · rename_i e
    subst e
    injection ht with ht
    subst ht
    obtain ⟨q1, q2, q3⟩ := hfr.val s _ hs
    obtain ⟨g', k1, k2⟩ := q3
    exact ⟨q1, trivial, k2.trans k1.symm, by show (ρ X).oneCell' = true; rw [hg]; rfl⟩
  · obtain ⟨q1, q2, q3⟩ := hfr.val t v ht
    exact ⟨q1, A.inB_mono (fun i hi => dom_append hi) v q2, q3⟩
end
theorem insK_pg (ts : List Tn) (i : Nat) (t : Tn) (hi : i ≤ ts.length) (hl : ts.length ≤ 1000) (p : Value) : PG Tryd.prog 52 [.ow 1000 ts.length, .d (iD i), .d (.sc p)] [] [(1000, .res (kidsR TQ ts)), (1001, .res (forestR TQ [t] [p]))] (.ow 2000 (ts.length + 1)) [] [(2000, .res (kidsR TQ (insL ts i t)))] := by
  refine pg_of_aw Tryd.func52 rfl (by kernel_rfl) mixed (by kernel_rfl) (by rw [Tryd.ntmps52]; exact Nat.le_of_ble_eq_true rfl) Tryd.results52 rfl ?_
  repeat (with_reducible apply aw_seq)
  refine aw_exR mixed (s' := fun q : {q : List Value // q.length = ts.length} => ⟨_, _⟩) (fun C a w h => ent_ins (Q := TQ) (ts := ts) (t := t) 0 1000 1001 1002 1003 i ts.length rfl rfl rfl rfl rfl hi (by decide) (by decide) (by decide) (by decide) h) ?_
  rintro ⟨ps, hps⟩
  dsimp only
  obtain ⟨es, hes⟩ : ∃ es, ps.map ptrE = es := ⟨_, rfl⟩
  rw [hes]
  have hel : i ≤ es.length := by rw [← hes, List.length_map, hps]; exact hi
  obtain ⟨a, b, hA, hB, hT, hD, ha, hb⟩ := ins_parts es i hel (by rw [← hes, List.length_map, hps]; exact hl)
  repeat (first | (refine aw_after (id := 2) mixed ?_; (with_reducible apply aw_regD)) | (with_reducible first | apply aw_seq | apply aw_reg | apply rp_nil | apply ae_norm) | ((with_reducible apply dr_nil); (first | kernel_rfl | exact rfl)) | ((with_reducible first | apply rp | apply dr); first | (exact does_slice_e (tyOk rfl) rfl (tyOk rfl) rfl rfl rfl ⟨_, _, rfl, rfl⟩ (by omega) (by omega) hA) | (exact does_slice_e (tyOk rfl) rfl (tyOk rfl) rfl rfl ⟨_, _, rfl, rfl⟩ rfl (by omega) (by omega) hB) | ((with_reducible apply does_move); (conv => lhs; whnf)) | ((with_reducible apply does_assign); (conv => lhs; whnf))) | ((with_reducible first | apply rp1 | apply dr1); ((with_reducible apply does_buildSlice); exact tyOk rfl; exact rfl; exact tyOk rfl; exact rfl; exact rfl; (focus repeat' (first | exact trivial | refine And.intro rfl (And.intro rfl ?_))); decide; decide; exact rfl)) | ((with_reducible first | apply rp2 | apply dr2); ((with_reducible apply does_append_own); exact tyOk rfl; exact rfl; exact tyOk rfl; exact rfl; exact rfl; exact rfl; decide; (first | (dsimp only; simp only [List.length_map, List.length_append, List.length_cons, List.length_nil] at *; omega) | (simp only [List.length_map, List.length_append, List.length_cons, List.length_nil] at *; omega)); (first | (dsimp only; simp only [List.length_map, List.length_append, List.length_cons, List.length_nil] at *; omega) | (simp only [List.length_map, List.length_append, List.length_cons, List.length_nil] at *; omega)); exact rfl)))
  have hrow : ([] ++ a ++ [(D.sc p).cells] ++ b) = (insL ps i p).map ptrE := by
    rw [insL_map, hes, hT, hD]
    simp [D.cells]
  have hab : a.length + b.length = ts.length := by
    rw [← hT, ← hD, List.length_take, List.length_drop, ← hps, ← List.length_map (f := ptrE), hes]
    omega
  refine ⟨Unit, fun _ => ⟨_, _⟩, fun C a w h => ⟨(), ent_kshut (Q := TQ) (ts := insL ts i t) (ps := insL ps i p) 20 1002 (by rw [← hrow]; rfl) rfl h⟩, fun _ => ?_⟩
  repeat (first | (with_reducible first | apply ae_norm | apply aw_ret | apply xg_ret))
  (with_reducible apply retg_ok (l := [(2000, 20)])); (focus (repeat' (first | (with_reducible apply rv_nil) | (with_reducible apply rv_cons) | ((with_reducible apply rv_tmp); exact rfl)))); rotate_left; refine ⟨(by repeat' exact ks_nil), (by repeat' (first | exact trivial | exact rfl | refine And.intro ?_ ?_)), rfl, (by repeat' (first | exact trivial | refine And.intro ?_ ?_)), (by repeat' (first | exact trivial | refine And.intro ?_ ?_))⟩; refine SubA.of_eq ?_
  show A.ow 20 _ = A.ow 20 _
  simp
  omega
end Go.Proofs.YtfplkakfakdfhaaDoor

