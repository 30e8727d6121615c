/-
  The pure layer: operations on a row of rows. No condition.
-/
import Derived.Test.YtfplkakfakdfhaaDoorZM20
import Derived.Test.YtfplkakfakdfhaaDoorZM9
import Derived.Test.YtfplkakfakdfhaaDoorZM7
import Derived.Test.YtfplkakfakdfhaaDoorZM6
import Derived.Test.YtfplkakfakdfhaaDoorZC
namespace Go.Proofs.YtfplkakfakdfhaaDoor
set_option linter.unusedSimpArgs false
set_option linter.unusedVariables false
open Go.RowKit

section
variable {Q : NsTy} {σ : Sl} {β : Bx} {C : Ctx} {w : World} {ρ : Nat → Value} {I : Nat → Prop}
variable {P : Program} {fr : Nat} {ty : TypeId} {e : Operand → A}
/-- An inner row: it has a box of its own then. -/
theorem does_load_nest {T : TypeId} {t : TyI} {x : Operand} {id k : Nat} {l1 l2 : List Ir} {l0 : Ir} (ht : mkTy P T = some t) (hr : t.row = false) (hx : e x = .pr id 1 k 0) (hl : look id β = some (.res (nestR Q (l1 ++ l0 :: l2)))) (hk : l1.length = k) (hf : look fr β = none) :
    Does P (some fr) (.load T x) ty e β (.ow fr l0.length) [(fr, .row Q.E Q.sz (rowE l0)), (id, .rel fr (nestHole Q l1 l2))] [id] := by
  subst hk
  intro C γ hag ρ I w hm a hops o ho hd hty K Q' hK
  have hf2 : look fr γ = none := (hag fr (by simp)).trans hf
  have hl2 : look id γ = some (.res (nestR Q (l1 ++ l0 :: l2))) := (hag id (by simp)).trans hl
  obtain ⟨_, hp⟩ := hops x (by simp [Op.operands])
  rw [hx] at hp
  obtain ⟨g, n, c, hρ, hkn, hv⟩ := hp
  obtain ⟨fs, xs, f0, b1, b2, b3, b4⟩ := hm.box id _ hl2
  have hlen := rows_len b2
  obtain ⟨p1, p, p2, hxs, hp1⟩ := split_at (xs := xs) (k := l1.length) (by rw [hlen]; simp)
  subst hxs
  obtain ⟨fa, fb, k1, k2, k3⟩ := rows_app hp1 b2
  obtain ⟨ft, fc, k4, k5, k6⟩ := rows_app (a := [l0]) (pa := [p]) rfl k2
  have k4 := one_of_rows k4
  obtain ⟨ad, cc, hform, hfo1, hfo2⟩ := own_form k4.1
  have hcell : w.cell? ⟨g, l1.length, none⟩ = some p := by
    have := b1.cells (g := g) (by rw [hρ]; rfl) l1.length p (by rw [← hp1]; simp)
    rwa [show (⟨g, 0, none⟩ : Addr).add l1.length = ⟨g, l1.length, none⟩ by unfold Addr.add; split <;> simp_all] at this
  have hnd := rows_nodup b2
  rw [k3, k6] at hnd
  have hne : id ≠ fr := fun h => by rw [h, hf2] at hl2; cases hl2
  have hrep : (nestR Q (l1 ++ l0 :: l2)).rep w (ρ id) fs := ⟨_, f0, b1, b2, b3, b4⟩
  have hhas : ∀ g ∈ fs, (Box.res (nestR Q (l1 ++ l0 :: l2))).has w (ρ id) g := fun g hg => ⟨fs, hrep, hg⟩
  have knew := app_rows k1 k5 fun x hx hc => (List.nodup_append.1 hnd).2.2 x hx x (List.mem_append_right _ hc) rfl
  rw [b3, k3, k6] at b4
  have hsub : (blkL (ρ id) ++ (fa ++ fc)).Nodup := by
    refine List.nodup_append.2 ⟨(List.nodup_append.1 b4).1, rows_nodup knew, fun x hx y hy e => ?_⟩
    subst e
    refine (List.nodup_append.1 b4).2.2 x hx x ?_ rfl
    rcases List.mem_append.1 hy with h | h <;> simp [h]
  have hid : updF ρ fr p id = ρ id := upd_dom hf2 ρ p id (by unfold dom; rw [hl2]; simp)
  have hhole : (nestHole Q l1 l2).rep w (updF ρ fr p fr) (updF ρ fr p id) (blkL (ρ id) ++ (fa ++ fc)) := by
    rw [upd_same, hid]
    refine ⟨p1, p2, _, ?_, hp1, knew, rfl, hsub⟩
    have : (l1 ++ l0 :: l2).length = l1.length + 1 + l2.length := by rw [List.length_append, List.length_cons]; omega
    rwa [this] at b1
  have cls : ∀ (z : Nat) (B : Box) (k : Nat), look z [(fr, Box.row Q.E Q.sz (rowE l0)), (id, .rel fr (nestHole Q l1 l2))] = some B → B.has w (updF ρ fr p z) k → (z = fr ∧ k ∈ ft) ∨ (z = id ∧ k ∈ blkL (ρ id) ++ (fa ++ fc)) := by
    intro z B k hz hB
    rcases look_of2 hz with ⟨rfl, rfl⟩ | ⟨rfl, rfl⟩
    · have hB : blk _ = some k := hB
      rw [upd_same] at hB
      exact .inl ⟨rfl, by rw [k4.2.2]; exact blkL_mem hB⟩
    · obtain ⟨u, f', hf', hk⟩ := hB
      rw [(nestHole Q l1 l2).det hf' hhole] at hk
      exact .inr ⟨rfl, hk⟩
  obtain ⟨m1, m2⟩ := mem_regroup hm [(fr, .row Q.E Q.sz (rowE l0)), (id, .rel fr (nestHole Q l1 l2))] (updF ρ fr p) (upd_dom hf2 ρ p) (fun i b hi => by
      rcases look_of2 hi with ⟨rfl, rfl⟩ | ⟨rfl, rfl⟩
      · exact ⟨inner_row (fs := ft) (by rw [upd_same]; exact k4), trivial⟩
      · exact ⟨⟨_, hhole⟩, dom_left look_a⟩) (fun i b k hi hh => ⟨id, _, hl2, look_b, hhas k (by
      rw [b3, k3, k6]
      rcases cls i b k hi hh with ⟨_, h⟩ | ⟨_, h⟩
      · simp [h]
      · rcases List.mem_append.1 h with h | h
        · simp [h]
        · rcases List.mem_append.1 h with h | h <;> simp [h])⟩) (fun i j b b' k hi hj hh hh' => by
      have hdd : ∀ x ∈ ft, x ∈ blkL (ρ id) ++ (fa ++ fc) → False := fun x hx hy => by
        rcases List.mem_append.1 hy with hy | hy
        · exact (List.nodup_append.1 b4).2.2 x hy x (by simp [hx]) rfl
        · rcases List.mem_append.1 hy with hy | hy
          · exact (List.nodup_append.1 hnd).2.2 x hy x (List.mem_append_left _ hx) rfl
          · exact (List.nodup_append.1 (List.nodup_append.1 hnd).2.1).2.2 x hx x hy rfl
      rcases cls i b k hi hh with ⟨rfl, h⟩ | ⟨rfl, h⟩ <;> rcases cls j b' k hj hh' with ⟨rfl, h'⟩ | ⟨rfl, h'⟩
      · rfl
      · exact (hdd k h h').elim
      · exact (hdd k h' h).elim
      · rfl)
  have hrun : (execOp a.eval o).run P w = .ok (.value p) w := by
    have hv2 : a.eval x = .pointer (some ⟨g, l1.length, none⟩) := by rw [hv, Nat.mul_one, Nat.add_zero]
    have h9 := run_loadVar_one ht hr hcell
    simp [execOp, ho, hv2, Instr.loadAt, Instr.sureAddr, Sem.run_bind, h9]
  unfold Oper.wp
  rw [hrun, Oper.upon_value, hd]
  exact hK _ _ I w m1 m2 (dom_left look_a) ⟨(upd_same _ _ _).symm, ad, cc, hform, hfo1, hfo2⟩
/-- A row of one row. -/
theorem does_build_nest {T el : TypeId} {t te : TyI} {x : Operand} {X n : Nat} {l0 : Ir} (ht : mkTy P T = some t) (hk : t.kind = .slice el) (hte : mkTy P el = some te) (hes : te.size = 1) (hel : el = Q.T) (hx : e x = .ow X n) (hl : look X β = some (.row Q.E Q.sz (rowE l0))) (hf : look fr β = none) :
    Does P (some fr) (.buildSlice T 1 #[(0, x)]) ty e β (.ow fr 1) [(fr, .res (nestR Q [l0])), (X, .dead)] [X] := by
  intro C γ hag ρ I w hm a hops o ho hd hty K Q' hK
  have hf2 : look fr γ = none := (hag fr (by simp)).trans hf
  have hl2 : look X γ = some (.row Q.E Q.sz (rowE l0)) := (hag X (by simp)).trans hl
  obtain ⟨_, hp⟩ := hops x (by simp [Op.operands])
  rw [hx] at hp
  obtain ⟨hv, ad, cc, hg, _⟩ := hp
  have hfX : X ≠ fr := fun h => by rw [h, hf2] at hl2; cases hl2
  have h := does_buildSlice (P := P) (fr := fr) (ty := ty) (e := fun y => .d (.sc (a.eval y))) (β := γ) (T := T) (len := 1) (parts := #[(0, x)]) (es := [[.sc (a.eval x)]]) ht hk hte rfl rfl (by rw [hes]; exact ⟨rfl, rfl, trivial⟩) (by omega) (by omega) hf2
  refine h C γ (fun _ _ => rfl) ρ I w hm a (fun y hy => ⟨trivial, rfl, ?_⟩) o ho hd hty K Q' fun vv ρ' I' w' hm' hx' hb' hr' => ?_
  · have : y = x := by simpa [Op.operands] using hy
    subst this
    rw [hg]; rfl
  have hX' : look X ([(fr, Box.row el te.size [[.sc (a.eval x)]])] ++ γ) = some (.row Q.E Q.sz (rowE l0)) := by
    rw [look_append, look_cons, if_neg (fun h => hfX h.symm)]; exact hl2
  have hρ : ρ' X = a.eval x := (hx'.rho X (by unfold dom; rw [hl2]; simp)).trans hv.symm
  have m1 := mem_none (Q := Q) X hX' hm'
  have m2 := mem_nshut (Q := Q) (ls := [l0]) (ps := [ρ' X]) fr X (by rw [look_append, look_cons, if_neg hfX, hρ, ← hel]; simp [look, hes]) (by simp [look]) m1
  refine hK vv ρ' I' w' (m2.congr fun i => ?_) hx' (dom_left look_a) hr'
  simp only [look_append, look_cons, look]
  by_cases e1 : fr = i
  · simp [e1]
  · by_cases e2 : X = i
    · simp [e1, e2]
    · simp [e1, e2]
/-- Rows, others behind them. -/
theorem does_append_nest {T el : TypeId} {t te : TyI} {s x : Operand} {id id2 n m : Nat} {ts us : List Ir} (ht : mkTy P T = some t) (hk : t.kind = .slice el) (hte : mkTy P el = some te) (hes : te.size = 1) (hel : el = Q.T) (hs : e s = .ow id n) (hx : e x = .ow id2 m) (hl : look id β = some (.res (nestR Q ts))) (hl2 : look id2 β = some (.res (nestR Q us)))
    (hb : (ts.length + us.length) * te.bytes ≤ 140737488355328) (h63 : ts.length + us.length ≤ 9223372036854775807) (hne : id ≠ id2) (hf : look fr β = none) :
    Does P (some fr) (.call { callee := .builtin .append, args := #[s, x], argTypes := #[T, T] }) ty e β (.ow fr (ts.length + us.length)) [(fr, .res (nestR Q (ts ++ us))), (id, .dead), (id2, .dead)] [id, id2] := by
  intro C γ hag ρ I w hm a hops o ho hd hty K Q' hK
  have hf2 : look fr γ = none := (hag fr (by simp)).trans hf
  have hl1 : look id γ = some (.res (nestR Q ts)) := (hag id (by simp)).trans hl
  have hl2 : look id2 γ = some (.res (nestR Q us)) := (hag id2 (by simp)).trans hl2
  have hf1 : id ≠ fr := fun h => by rw [h, hf2] at hl1; cases hl1
  have hf3 : id2 ≠ fr := fun h => by rw [h, hf2] at hl2; cases hl2
  obtain ⟨i4, f4, g4⟩ := fresh_id γ [fr, id, id2]
  obtain ⟨i5, f5, g5⟩ := fresh_id γ [fr, id, id2, i4]
  simp only [List.mem_cons, List.not_mem_nil, or_false, not_or] at g4 g5
  obtain ⟨⟨ps, hps⟩, m1⟩ := mem_nopen id i4 hl1 f4 hm
  obtain ⟨⟨qs, hqs⟩, m2⟩ := mem_nopen (Q := Q) (ls := us) id2 i5 (by simp only [look_append, look_cons, look]; simp [hne, g4.2.2, hl2]) (by simp only [look_append, look_cons, look]; simp [Ne.symm g5.2.1, Ne.symm g5.2.2.2, f5]) m1
  dsimp only at m1 m2
  have hmono : ∀ i, dom γ i → dom ([(id2, Box.row Q.T 1 (qs.map ptrE)), (i5, .res (rowsR Q us qs))] ++ ([(id, .row Q.T 1 (ps.map ptrE)), (i4, .res (rowsR Q ts ps))] ++ γ)) i := fun i hi => dom_append (dom_append hi)
  have h := does_append_own (P := P) (fr := fr) (ty := ty) (e := e) (β := [(id2, Box.row Q.T 1 (qs.map ptrE)), (i5, .res (rowsR Q us qs))] ++ ([(id, .row Q.T 1 (ps.map ptrE)), (i4, .res (rowsR Q ts ps))] ++ γ)) (T := T) (s := s) (x := x) (id := id) (n := n) (es := ps.map ptrE) (ns := qs.map ptrE) ht hk hte hs
    (by simp only [look_append, look_cons, look]; simp [Ne.symm hne, g5.2.1, hel, hes]) (by rw [hx]; simp [newsA, rowsOf, look, hes]) (by omega) (by simpa [hps, hqs] using hb) (by simpa [hps, hqs] using h63) (by simp only [look_append, look_cons, look]; simp [hf3, g5.1, hf1, g4.1, hf2])
  refine h C _ (fun _ _ => rfl) ρ I w m2 a (fun y hy => ?_) o ho hd hty K Q' fun vv ρ' I' w' hm' hx' hb' hr' => ?_
  · obtain ⟨q1, q2⟩ := hops y hy
    exact ⟨A.inB_mono hmono _ q1, q2⟩
  have m3 := mem_njoin (Q := Q) (l1 := ts) (l2 := us) (p1 := ps) (p2 := qs) i4 i5 (by simp only [look_append, look_cons, look]; simp [Ne.symm g4.1, Ne.symm g4.2.1, Ne.symm g4.2.2, g5.2.2.2]) (by simp only [look_append, look_cons, look]; simp [Ne.symm g5.1, Ne.symm g5.2.1, Ne.symm g5.2.2.1]) (Ne.symm g5.2.2.2) hm'
  have m4 := mem_nshut (Q := Q) (ls := ts ++ us) (ps := ps ++ qs) fr i4 (by simp only [look_append, look_cons, look]; simp [g4.1, g5.1, hel, hes]) (by simp [look]) m3
  have m5 := mem_kill id2 (by unfold dom; simp only [look_append, look_cons, look]; simp [Ne.symm hf3, g4.2.2, g5.2.2.1, hne]) m4
  have hlen : (ps.map ptrE).length + (qs.map ptrE).length = ts.length + us.length := by rw [List.length_map, List.length_map, hps, hqs]
  rw [hlen] at hr'
  refine hK vv ρ' I' w' (m5.sub (fun i b hi => ?_) (fun i b hi => ?_)) ⟨hx'.toExtI, fun i hi => hx'.rho i (hmono i hi)⟩ (dom_left look_a) hr'
  · obtain ⟨g41, g42, g43⟩ := g4
    obtain ⟨g51, g52, g53, g54⟩ := g5
    simp only [look_append, look_cons, look] at hi ⊢
    by_cases e1 : fr = i
    · have e3 : ¬ id2 = i := fun h => hf3 (h.trans e1.symm)
      simp only [e1, e3, if_true, if_false, Option.none_or, Option.some_or] at hi ⊢
      exact hi
    · by_cases e3 : id2 = i
      · have e2 : ¬ id = i := fun h => hne (h.trans e3.symm)
        simp only [e1, e2, e3, if_true, if_false, Option.none_or, Option.some_or] at hi ⊢
        exact hi
      · by_cases e2 : id = i
        · have e4 : ¬ i4 = i := fun h => g42 (h.trans e2.symm)
          have e5 : ¬ i5 = i := fun h => g52 (h.trans e2.symm)
          simp only [e1, e2, e3, e4, e5, if_true, if_false, Option.none_or, Option.some_or] at hi ⊢
          exact hi
        · have e4 : ¬ i4 = i := fun h => by
            simp only [e1, e2, e3, if_false, Option.none_or] at hi
            rw [← h, f4] at hi
            cases hi
          have e5 : ¬ i5 = i := fun h => by
            simp only [e1, e2, e3, if_false, Option.none_or] at hi
            rw [← h, f5] at hi
            cases hi
          simp only [e1, e2, e3, e4, e5, if_true, if_false, Option.none_or, Option.some_or] at hi ⊢
          exact hi
  · rw [look_append] at hi
    cases hu : look i [(fr, Box.res (nestR Q (ts ++ us))), (id, .dead), (id2, .dead)] with
    | none =>
      rw [hu] at hi
      exact Box.inB_mono (fun j hj => dom_append hj) b (hm.clo i b hi)
    | some b' =>
      rw [hu] at hi
      injection hi with hi
      subst hi
      rcases look_of3 hu with ⟨_, rfl⟩ | ⟨_, rfl⟩ | ⟨_, rfl⟩ <;> trivial
/-- Rows as data from now on. -/
theorem rows_freeze : ∀ (ls : List Ir) (ps : List Value) (i4 : Nat) (β : Bx) (ρ : Nat → Value) (I : Nat → Prop), Mem C β ρ I w → look i4 β = some (.res (rowsR Q ls ps)) →
    ∃ ρ' I', Mem C ([(i4, .dead)] ++ β) ρ' I' w ∧ Ext β ρ I w ρ' I' w ∧ RepR I' w 1 (ls.map fun l => [.sl Q.sz (rowE l)]) ps
  | [], ps, i4, β, ρ, I, hm, hl => by
    obtain ⟨fs, h1, h2⟩ := hm.box i4 _ hl
    exact ⟨ρ, I, mem_kill i4 (by unfold dom; rw [hl]; simp) hm, ⟨⟨fun _ h => h, fun _ _ => rfl⟩, fun _ _ => rfl⟩, h1⟩
  | l :: ls, ps, i4, β, ρ, I, hm, hl => by
    obtain ⟨fs, p, ps', f1, f2, h1, h2, h3, h4, h5⟩ := hm.box i4 _ hl
    subst h1
    obtain ⟨k, hk, hk4⟩ := fresh_id β [i4]
    have hk4 : k ≠ i4 := by simpa using hk4
    have hrep : RowsRep Q w (l :: ls) (p :: ps') fs := ⟨p, ps', f1, f2, rfl, h2, h3, h4, h5⟩
    have hhas : ∀ g ∈ fs, (Box.res (rowsR Q (l :: ls) (p :: ps'))).has w (ρ i4) g := fun g hg => ⟨fs, hrep, hg⟩
    have cls : ∀ (z : Nat) (B : Box) (g : Nat), look z [(i4, Box.res (rowsR Q ls ps')), (k, .row Q.E Q.sz (rowE l))] = some B → B.has w (updF ρ k p z) g → (z = i4 ∧ g ∈ f2) ∨ (z = k ∧ g ∈ f1) := by
      intro z B g hz hB
      rcases look_of2 hz with ⟨rfl, rfl⟩ | ⟨rfl, rfl⟩
      · obtain ⟨f', hf', hk'⟩ := hB
        rw [RowsRep.det _ hf' h3] at hk'
        exact .inl ⟨rfl, hk'⟩
      · have hB : blk _ = some g := hB
        rw [upd_same] at hB
        exact .inr ⟨rfl, by rw [h2.2.2]; exact blkL_mem hB⟩
    rw [h4] at h5
    obtain ⟨m1, x1⟩ := mem_regroup hm [(i4, .res (rowsR Q ls ps')), (k, .row Q.E Q.sz (rowE l))] (updF ρ k p) (upd_dom hk ρ p) (fun i b hi => by
        rcases look_of2 hi with ⟨rfl, rfl⟩ | ⟨rfl, rfl⟩
        · exact ⟨⟨f2, h3⟩, trivial⟩
        · exact ⟨inner_row (fs := f1) (by rw [upd_same]; exact h2), trivial⟩) (fun i b g hi hh => ⟨i4, _, hl, look_a, hhas g (by
        rw [h4]
        rcases cls i b g hi hh with ⟨_, h⟩ | ⟨_, h⟩ <;> simp [h])⟩) (fun i j b b' g hi hj hh hh' => by
        rcases cls i b g hi hh with ⟨rfl, h⟩ | ⟨rfl, h⟩ <;> rcases cls j b' g hj hh' with ⟨rfl, h'⟩ | ⟨rfl, h'⟩
        · rfl
        · exact absurd rfl ((List.nodup_append.1 h5).2.2 g h' g h)
        · exact absurd rfl ((List.nodup_append.1 h5).2.2 g h g h')
        · rfl)
    obtain ⟨I1, m2, x2, r2⟩ := m1.freeze_any (id := k) (sz := Q.sz) (es := rowE l) (by unfold rowsOf; simp [look, hk4.symm])
    rw [upd_same] at r2
    have m3 : Mem C ([(i4, .res (rowsR Q ls ps'))] ++ β) (updF ρ k p) I1 w := m2.sub (fun i b hi => by
        simp only [look_append, look_cons, look] at hi ⊢
        by_cases e1 : i4 = i
        · have : ¬ k = i := fun h => hk4 (h.trans e1.symm)
          simp only [e1, this, if_true, if_false, Option.none_or, Option.some_or] at hi ⊢
          exact hi
        · have : ¬ k = i := fun h => by
            simp only [e1, if_false, Option.none_or] at hi
            rw [← h, hk] at hi
            cases hi
          simp only [e1, this, if_false, Option.none_or] at hi ⊢
          exact hi) (fun i b hi => by
        rw [look_append] at hi
        cases hu : look i [(i4, Box.res (rowsR Q ls ps'))] with
        | none =>
          rw [hu] at hi
          exact Box.inB_mono (fun j hj => dom_append hj) b (hm.clo i b hi)
        | some b' =>
          rw [hu] at hi
          injection hi with hi
          subst hi
          obtain ⟨_, rfl⟩ := look_one hu
          trivial)
    obtain ⟨ρ2, I2, m4, x4, r4⟩ := rows_freeze ls ps' i4 _ _ _ m3 (by simp [look])
    have hdm : ∀ i, dom β i → dom ([(i4, Box.res (rowsR Q ls ps')), (k, .row Q.E Q.sz (rowE l))] ++ β) i := fun i hi => dom_append hi
    have hdm2 : ∀ i, dom β i → dom ([(i4, Box.res (rowsR Q ls ps'))] ++ β) i := fun i hi => dom_append hi
    have xA : Ext β ρ I w ρ2 I2 w := ⟨⟨fun g hg => x4.imm g (x2.imm g (x1.imm g hg)), fun g hg => rfl⟩, fun i hi => (x4.rho i (hdm2 i hi)).trans ((x2.rho i (hdm i hi)).trans (x1.rho i hi))⟩
    refine ⟨ρ2, I2, m4.sub (fun i b hi => ?_) (fun i b hi => ?_), xA, ⟨[p], ps', rfl, rfl, ⟨p, [], rfl, fun _ => rfl, RepD.ext x4.toExtI _ _ r2, rfl⟩, r4⟩⟩
    · simp only [look_append, look_cons, look] at hi ⊢
      by_cases e1 : i4 = i
      · simp only [e1, if_true, Option.some_or] at hi ⊢
        exact hi
      · simp only [e1, if_false, Option.none_or] at hi ⊢
        exact hi
    · rw [look_append] at hi
      cases hu : look i [(i4, Box.dead)] with
      | none =>
        rw [hu] at hi
        exact Box.inB_mono (fun j hj => dom_append hj) b (hm.clo i b hi)
      | some b' =>
        rw [hu] at hi
        injection hi with hi
        subst hi
        obtain ⟨_, rfl⟩ := look_one hu
        trivial
/-- A row of rows in a slot, as data from now on. -/
theorem ent_nfrz {σ : Sl} {β : Bx} {a : Act} (s id n : Nat) {ls : List Ir} (hs : look s σ = some (.ow id n)) (hl : look id β = some (.res (nestR Q ls))) (hat : At C ⟨σ, β⟩ a w) :
    At C ⟨(s, .d (.sl 1 (ls.map fun l => [.sl Q.sz (rowE l)]))) :: σ, [(id, .frz 1 (ls.map fun l => [.sl Q.sz (rowE l)]))] ++ β⟩ a w := by
  obtain ⟨ρ, I, hm, hfr⟩ := hat
  obtain ⟨i4, f4, g4⟩ := fresh_id β [id]
  have g4 : i4 ≠ id := by simpa using g4
  obtain ⟨⟨ps, hps⟩, m1⟩ := mem_nopen id i4 hl f4 hm
  dsimp only at m1
  obtain ⟨ρ2, I2, m2, x2, r2⟩ := rows_freeze (Q := Q) ls ps i4 _ _ _ m1 (by simp only [look_append, look_cons, look]; simp [g4.symm])
  have hl2 : look id ([(i4, Box.dead)] ++ ([(id, .row Q.T 1 (ps.map ptrE)), (i4, .res (rowsR Q ls ps))] ++ β)) = some (.row Q.T 1 (ps.map ptrE)) := by simp only [look_append, look_cons, look]; simp [g4]
  obtain ⟨xs, b1, b2⟩ := m2.box id _ hl2
  rw [ptrs_repC b2, List.length_map, hps] at b1
  have hx1 : ∀ k, blk (ρ2 id) = some k → (Box.row Q.T 1 (ps.map ptrE)).has w (ρ2 id) k := fun k hk => hk
  obtain ⟨m3, x3⟩ := mem_regroup m2 [(id, .row Q.T 1 (ls.map fun l => [.sl Q.sz (rowE l)]))] ρ2 (fun _ _ => rfl) (fun i b hi => by
      obtain ⟨rfl, rfl⟩ := look_one hi
      exact ⟨⟨ps, by rw [List.length_map]; exact b1, r2⟩, trivial⟩) (fun i b k hi hh => by
      obtain ⟨rfl, rfl⟩ := look_one hi
      exact ⟨i, _, hl2, look_a, hh⟩) (fun i j b b' k hi hj hh hh' => by
      obtain ⟨rfl, rfl⟩ := look_one hi
      obtain ⟨rfl, rfl⟩ := look_one hj
      rfl)
  obtain ⟨I3, m4, x4, r4⟩ := m3.freeze_any (id := id) (sz := 1) (es := ls.map fun l => [.sl Q.sz (rowE l)]) (by unfold rowsOf; simp [look])
  have hd1 : ∀ i, dom β i → dom ([(id, Box.row Q.T 1 (ps.map ptrE)), (i4, .res (rowsR Q ls ps))] ++ β) i := fun i hi => dom_append hi
  have hd2 : ∀ i, dom β i → dom ([(i4, Box.dead)] ++ ([(id, Box.row Q.T 1 (ps.map ptrE)), (i4, .res (rowsR Q ls ps))] ++ β)) i := fun i hi => dom_append (dom_append hi)
  have hd3 : ∀ i, dom β i → dom ([(id, Box.row Q.T 1 (ls.map fun l => [D.sl Q.sz (rowE l)]))] ++ ([(i4, Box.dead)] ++ ([(id, Box.row Q.T 1 (ps.map ptrE)), (i4, .res (rowsR Q ls ps))] ++ β))) i := fun i hi => dom_append (dom_append (dom_append hi))
  have xA : Ext β ρ I w ρ2 I3 w := ⟨⟨fun g hg => x4.imm g (x3.imm g (x2.imm g hg)), fun g hg => rfl⟩, fun i hi => (x4.rho i (hd3 i hi)).trans ((x3.rho i (hd2 i hi)).trans (x2.rho i (hd1 i hi)))⟩
  have m5 : Mem C ([(id, .frz 1 (ls.map fun l => [D.sl Q.sz (rowE l)]))] ++ β) ρ2 I3 w := m4.sub (fun i b hi => by
      simp only [look_append, look_cons, look] at hi ⊢
      by_cases e1 : id = i
      · simp only [e1, if_true, Option.some_or] at hi ⊢
        exact hi
      · have : ¬ i4 = i := fun h => by
          simp only [e1, if_false, Option.none_or] at hi
          rw [← h, f4] at hi
          cases hi
        simp only [e1, this, if_false, Option.none_or] at hi ⊢
        exact hi) (fun i b hi => by
      rw [look_append] at hi
      cases hu : look i [(id, Box.frz 1 (ls.map fun l => [D.sl Q.sz (rowE l)]))] with
      | none =>
        rw [hu] at hi
        exact Box.inB_mono (fun j hj => dom_append hj) b (hm.clo i b hi)
      | some b' =>
        rw [hu] at hi
        injection hi with hi
        subst hi
        obtain ⟨_, rfl⟩ := look_one hu
        trivial)
  refine ⟨ρ2, I3, m5, hfr.defers, hfr.size, hfr.keep, fun t v ht => ?_⟩
  rw [look_cons] at ht
  split at ht
  · rename_i e
    subst e
    injection ht with ht
    subst ht
    obtain ⟨q1, q2, q3⟩ := hfr.val s _ hs
    refine ⟨q1, trivial, ?_⟩
    have e1 : ρ2 id = ρ id := xA.rho id (by unfold dom; rw [hl]; simp)
    show RepD I3 w _ _
    rw [q3.1, ← e1]
    exact r4
  · obtain ⟨q1, q2, q3⟩ := hfr.val t v ht
    exact ⟨q1, A.inB_mono (fun i hi => dom_append hi) v q2, RepA.ext xA v _ q2 q3⟩
/-- nil is a row of no rows. -/
theorem ent_nnil {σ : Sl} {β : Bx} {a : Act} (s id : Nat) (hs : look s σ = some (.d .nl)) (hj : look id β = none) (hat : At C ⟨σ, β⟩ a w) :
    At C ⟨(s, .ow id 0) :: σ, [(id, .res (nestR Q []))] ++ β⟩ a w := by
  obtain ⟨ρ, I, hm, hfr⟩ := hat
  have hk : NestRep Q w [] (updF ρ id (.slice none 0 0) id) [] := ⟨[], [], by rw [upd_same]; exact ⟨by simp, .inl ⟨rfl, rfl⟩⟩, ⟨rfl, rfl⟩, by rw [upd_same]; rfl, List.nodup_nil⟩
  have cls : ∀ (z : Nat) (B : Box) (k : Nat), look z [(id, Box.res (nestR Q []))] = some B → B.has w (updF ρ id (.slice none 0 0) z) k → False := by
    intro z B k hz hB
    obtain ⟨rfl, rfl⟩ := look_one hz
    obtain ⟨f', hf', hk'⟩ := hB
    rw [(nestR Q []).det hf' hk] at hk'
    cases hk'
  refine at_regroup hm hfr [(id, .res (nestR Q []))] (updF ρ id (.slice none 0 0)) [(s, .ow id 0)] (upd_dom hj ρ _) (fun i b hi => ?_) (fun i b k hi hh => (cls i b k hi hh).elim) (fun i j b b' k hi hj hh hh' => (cls i b k hi hh).elim) (fun t v ht => ?_)
  · obtain ⟨rfl, rfl⟩ := look_one hi
    exact ⟨⟨_, hk⟩, trivial⟩
  · rw [look_cons] at ht
    split at ht
    · rename_i e
      subst e
      injection ht with ht
      subst ht
      have q3 : a.tmps.getD s undef = .slice none 0 0 := (hfr.val s _ hs).2.2
      exact ⟨by rw [hs]; simp, dom_left look_a, by rw [upd_same]; exact q3, none, 0, q3, Nat.le_refl _, fun h => by omega⟩
    · cases ht
end
end Go.Proofs.YtfplkakfakdfhaaDoor


/-
  rows of a heap; query.Fit, index.number, index.key. No condition but the sizes.
-/
namespace Go.Proofs.YtfplkakfakdfhaaDoor
set_option linter.unusedSimpArgs false
set_option linter.unusedVariables false
open Go.RowKit

def Vl.sv (v : Vl) : List Value := (Vl.cs v).map fun d => match d with
  | .sc x => x
  | _ => undef
theorem Vl.cs_sv (v : Vl) : v.cs = v.sv.map D.sc := rfl
theorem cs_row (r : List Vl) : r.map Vl.cs = rowE (r.map Vl.sv) := by
  unfold rowE
  rw [List.map_map]
  rfl
def NQ : NsTy := ⟨31, 30, 4⟩
noncomputable def rowsF (l : List Raw) (n : Nat) (cols : List Cl) : Nat → List (List Vl)
  | 0 => []
  | i + 1 => rowsF l n cols i ++ [rowF l (n + i * cols.length) (i : Int) 0 cols]
theorem rowsF_len (l : List Raw) (n : Nat) (cols : List Cl) : ∀ i, (rowsF l n cols i).length = i
  | 0 => rfl
  | i + 1 => by rw [rowsF, List.length_append, rowsF_len l n cols i]; rfl
theorem rows_pg (l : List Raw) (n m : Nat) (cols : List Cl) (hl5 : cols.length ≤ 5) (hk4 : ∀ c ∈ cols, c.kind ≤ 4) (hn : n ≤ 1000) (hm : m ≤ 100) : PG Tryd.prog 5 [.px 1000 0, .d (iD m)] [hpB l n cols] [] (.ow 2000 m) [hpB l (n + m * cols.length) cols] [(2000, .res (nestR NQ ((rowsF l n cols m).map (·.map Vl.sv))))] := by
  unfold hpB
  refine pg_of_aw Tryd.func5 rfl (by kernel_rfl) mixed (by kernel_rfl) (by rw [Tryd.ntmps5]; exact Nat.le_of_ble_eq_true rfl) Tryd.results5 rfl ?_
  repeat (with_reducible apply aw_seq)
  repeat (first | (refine aw_exR1 (id := 2) mixed (fun C ac w h => ent_nnil (Q := NQ) 5 2001 rfl rfl h) ?_; (with_reducible apply aw_reg)) | (with_reducible first | apply aw_seq | apply aw_reg | apply rp_nil | apply ae_norm | apply aw_block) | ((with_reducible apply rp); first | ((with_reducible apply does_move); (conv => lhs; whnf)) | ((with_reducible apply does_assign); (conv => lhs; whnf))))
  refine aw_loop (fun q s => ∃ (i p : Nat) (R : List Ir), i ≤ m ∧ q = m - i ∧ p = n + i * cols.length ∧ R = (rowsF l n cols i).map (·.map Vl.sv) ∧ s = ⟨[(0, .px 1000 0), (5, .ow 2001 i), (7, .d (iD m)), (8, .d (iD i))], [(1000, .var 40 [.d (rawsD l), .d (iD (p : Nat)), .d (colsD cols)]), (2001, .res (nestR NQ R))]⟩) _ _ ?_ ⟨0, n, [], by omega, rfl, by omega, rfl, rfl⟩ ?_
  · refine forget_of [] (by repeat' (first | exact ks_nil | (refine ks_cons rfl (by exact SubA.refl _) ?_))) (by repeat' (first | exact trivial | exact rfl | refine And.intro ?_ ?_)) rfl (by repeat' (first | exact trivial | exact inB_ow rfl | exact inB_px rfl | refine And.intro ?_ ?_)) (by repeat' (first | exact trivial | exact inB_ow rfl | exact inB_px rfl | refine And.intro ?_ ?_))
  · rintro q s ⟨i, p, R, hi, rfl, hp, hR, rfl⟩
    have hRl : R.length = i := by rw [hR, List.length_map, rowsF_len]
    have hpl : p ≤ 1000000 := by have : i * cols.length ≤ 100 * 5 := Nat.mul_le_mul (by omega) hl5; omega
    repeat (first | (with_reducible first | apply aw_seq | apply aw_reg | apply rp_nil | apply ae_norm) | ((with_reducible apply rp); ((with_reducible apply does_lt); exact rfl; exact rfl)))
    refine aw_cond rfl (fun hd => ?_) (fun hd => ?_)
    · have hlt : i < m := by simp at hd; omega
      have r1 := row_pg l p cols hl5 hk4 (i : Int) hpl
      rw [cs_row] at r1
      have hnx : R ++ [(rowF l p i 0 cols).map Vl.sv] = (rowsF l n cols (i + 1)).map (·.map Vl.sv) := by rw [rowsF, List.map_append, ← hR, hp]; rfl
      have hpn : p + cols.length = n + (i + 1) * cols.length := by rw [hp, Nat.succ_mul, Nat.add_assoc]
      have hrl : ((rowF l p i 0 cols).map Vl.sv).length = cols.length := by rw [List.length_map, rowF_len]
      generalize (rowF l p i 0 cols).map Vl.sv = r0 at *
      unfold hpB at r1
      subst hRl
      clear hd
      repeat (first | (with_reducible first | apply aw_seq | apply aw_reg | apply rp_nil | apply ae_norm | apply aw_block | apply be_norm | apply aw_skip) | ((with_reducible apply rp); first | ((with_reducible apply does_move); (conv => lhs; whnf)) | ((with_reducible apply does_assign); (conv => lhs; whnf)) | ((with_reducible apply does_add); exact rfl; exact rfl; omega; omega)) | ((with_reducible apply rp2); (exact does_build_nest (Q := NQ) (tyOk rfl) rfl (tyOk rfl) rfl rfl rfl rfl rfl)) | ((with_reducible apply rpL); (refine does_callG' [] [(2000, 14)] (ups := [(1000, .var 40 [.d (rawsD l), .d (iD (p + cols.length : Nat)), .d (colsD cols)]), (14, .row 30 4 (rowE r0))]) (v := (.ow 14 cols.length)) rfl (r1) rfl ?_ rfl ?_ ?_ rfl rfl rfl rfl rfl ?_ ?_ rfl rfl rfl; (focus repeat' (first | exact trivial | exact rfl | refine And.intro ?_ ?_)); (focus repeat' (first | exact trivial | exact inB_ow rfl | exact inB_px rfl | refine And.intro ?_ ?_)); (focus repeat' (first | exact trivial | exact inB_ow rfl | exact inB_px rfl | refine And.intro ?_ ?_)); (focus repeat' (first | exact trivial | exact inB_ow rfl | exact inB_px rfl | refine And.intro ?_ ?_)); (focus repeat' (first | exact trivial | exact inB_ow rfl | exact inB_px rfl | refine And.intro ?_ ?_))); exact lapp_nil _) | ((with_reducible apply rpL); (exact does_append_nest (Q := NQ) (tyOk rfl) rfl (tyOk rfl) rfl rfl rfl rfl rfl rfl (by simp; omega) (by simp; omega) (by decide) rfl); exact lapp_nil _))
      refine ⟨m - (R.length + 1), _, by omega, ?_, R.length + 1, p + cols.length, R ++ [r0], by omega, rfl, hpn, hnx, rfl⟩
      refine forget_of [(2001, 16)] (by repeat' (first | exact ks_nil | (refine ks_cons rfl (by exact SubA.refl _) ?_))) (by repeat' (first | exact trivial | exact rfl | refine And.intro ?_ ?_)) rfl (by repeat' (first | exact trivial | exact inB_ow rfl | exact inB_px rfl | refine And.intro ?_ ?_)) (by repeat' (first | exact trivial | exact inB_ow rfl | exact inB_px rfl | refine And.intro ?_ ?_))
    · have him : i = m := by simp at hd; omega
      subst him
      subst hp hR
      repeat (first | (with_reducible first | apply aw_seq | apply aw_reg | apply rp_nil | apply ae_norm | apply aw_exit | apply ae_exit | apply be_exit | apply aw_ret | apply xg_ret) | ((with_reducible apply rp); first | ((with_reducible apply does_move); (conv => lhs; whnf)) | ((with_reducible apply does_assign); (conv => lhs; whnf))))
      (with_reducible apply retg_ok (l := [(2000, 2001)])); (focus (repeat' (first | (with_reducible apply rv_nil) | (with_reducible apply rv_cons) | ((with_reducible apply rv_tmp); exact rfl)))); rotate_left; refine ⟨(by repeat' (first | exact ks_nil | (refine ks_cons rfl (by exact SubA.refl _) ?_))), (by repeat' (first | exact trivial | exact rfl | refine And.intro ?_ ?_)), rfl, (by repeat' (first | exact trivial | exact inB_px rfl | refine And.intro ?_ ?_)), (by repeat' (first | exact trivial | exact inB_px rfl | refine And.intro ?_ ?_))⟩; refine SubA.of_eq ?_
      rfl
theorem fit_pc (cols : List Cl) (rows : List (List Vl)) (hc : ColsOk cols) (hl : rows.length ≤ 64) (hf : ∀ r ∈ rows, FitR r cols) : PC Tryd.prog 13 [colsD cols, .sl 1 (rows.map fun r => [valsD r])] (iD 0) := by
  have c1 := columns_pc cols hc
  have hg : ∀ {k : Nat} {r : List Vl}, rows[k]? = some r → (rows.map fun r => [valsD r])[k]? = some [valsD r] := fun h => by rw [List.getElem?_map, h]; rfl
  have hel : (rows.map fun r => [valsD r]).length = rows.length := List.length_map _
  generalize (rows.map fun r => [valsD r]) = es at *
  have hel2 : es.length ≤ 64 := by omega
  refine pc_of_aw Tryd.func13 rfl (by kernel_rfl) mixed (by kernel_rfl) (by rw [Tryd.ntmps13]; exact Nat.le_of_ble_eq_true rfl) Tryd.results13 ?_
  repeat (with_reducible apply aw_seq)
  repeat (first | (with_reducible first | apply aw_seq | apply aw_reg | apply rp_nil | apply ae_norm | apply aw_block | apply aw_skip) | ((with_reducible apply rp); first | ((with_reducible apply does_call_flat); exact rfl; exact rfl; exact (c1); exact rfl) | ((with_reducible apply does_move); (conv => lhs; whnf)) | ((with_reducible apply does_assign); (conv => lhs; whnf)) | ((with_reducible apply does_ne); exact rfl; exact rfl) | ((with_reducible apply does_gt); exact rfl; exact rfl) | ((with_reducible apply does_len_sl); exact tyOk rfl; exact rfl; exact rfl)) | ((with_reducible apply aw_cond); exact rfl; (focus (intro hd; (first | (cases hd; done) | (exfalso; simp at hd; omega)))); (intro hd; clear hd)))
  refine aw_loop (fun n s => ∃ k, k ≤ es.length ∧ n = es.length - k ∧ s = ⟨[(0, .d (colsD cols)), (17, .d (.sl 1 es)), (18, .d (iD es.length)), (19, .d (iD k))], []⟩) _ _ ?_ ⟨0, by omega, rfl, rfl⟩ ?_
  · refine forget_of [] (by repeat' (first | exact ks_nil | (refine ks_cons rfl (by exact SubA.refl _) ?_))) (by repeat' exact trivial) rfl (by repeat' (first | exact trivial | refine And.intro ?_ ?_)) (by repeat' (first | exact trivial | refine And.intro ?_ ?_))
  · rintro n s1 ⟨k, hk, rfl, rfl⟩
    repeat (first | (with_reducible first | apply aw_seq | apply aw_reg | apply rp_nil | apply ae_norm) | ((with_reducible apply rp); ((with_reducible apply does_lt); exact rfl; exact rfl)))
    refine aw_cond rfl (fun hd => ?_) (fun hd => ?_)
    · have hlt : k < es.length := by simpa using hd
      obtain ⟨r, hr⟩ : ∃ r, rows[k]? = some r := ⟨_, List.getElem?_eq_getElem (by omega)⟩
      have hr2 := hg hr
      have k1 := kRow_pc r cols hc (hf r (List.mem_of_getElem? hr))
      repeat (first | (with_reducible first | apply aw_seq | apply aw_reg | apply rp_nil | apply ae_norm | apply aw_block | apply be_norm | apply aw_skip) | ((with_reducible apply rp); first | ((with_reducible apply does_call_flat); exact rfl; exact rfl; exact (k1); exact rfl) | ((with_reducible apply does_move); (conv => lhs; whnf)) | ((with_reducible apply does_assign); (conv => lhs; whnf)) | ((with_reducible apply does_load_elem); exact tyOk rfl; exact rfl; exact rfl; assumption; exact rfl) | ((with_reducible apply does_index_sl); exact tyOk rfl; exact rfl; exact tyOk rfl; exact rfl; exact rfl; exact rfl; exact rfl; omega) | ((with_reducible apply does_ne); exact rfl; exact rfl) | ((with_reducible apply does_add); exact rfl; exact rfl; omega; omega)) | ((with_reducible apply aw_cond); exact rfl; (focus (intro hd; (cases hd; done))); (intro hd; clear hd)))
      refine ⟨es.length - (k + 1), _, by omega, ?_, k + 1, by omega, rfl, rfl⟩
      refine forget_of [] (by repeat' (first | exact ks_nil | (refine ks_cons rfl (by exact SubA.refl _) ?_))) (by repeat' exact trivial) rfl (by repeat' (first | exact trivial | refine And.intro ?_ ?_)) (by repeat' (first | exact trivial | refine And.intro ?_ ?_))
    · repeat (first | (with_reducible first | apply aw_seq | apply aw_reg | apply rp_nil | apply ae_norm | apply aw_exit | apply ae_exit | apply be_exit | apply aw_ret | apply re_ret) | ((with_reducible apply rp); ((with_reducible apply does_assign); (conv => lhs; whnf))))
      (with_reducible apply ret_ok); (focus (repeat' (first | (with_reducible apply rv_nil) | (with_reducible apply rv_cons) | ((with_reducible apply rv_tmp); exact rfl)))); exact rfl; refine SubD.of_eq ?_
      rfl
theorem number_pc (k : ByteArray) (b : Bool) (cols : List Cl) : PC Tryd.prog 14 [colsD (⟨k, 2, b⟩ :: cols), strD k] (.tu [iD 0, iD 0]) := by
  have hg : ((⟨k, 2, b⟩ :: cols : List Cl).map Cl.cs)[0]? = some [strD k, iD 2, bD b] := rfl
  have hlen : 0 < ((⟨k, 2, b⟩ :: cols : List Cl).map Cl.cs).length := by simp
  show PC _ _ [.sl 3 ((⟨k, 2, b⟩ :: cols : List Cl).map Cl.cs), _] _
  generalize (⟨k, 2, b⟩ :: cols : List Cl).map Cl.cs = es at *
  have hsame : (k.toList == k.toList) = true := by simp
  refine pc_of_aw Tryd.func14 rfl (by kernel_rfl) mixed (by kernel_rfl) (by rw [Tryd.ntmps14]; exact Nat.le_of_ble_eq_true rfl) Tryd.results14 ?_
  repeat (with_reducible apply aw_seq)
  repeat (first | (with_reducible first | apply aw_seq | apply aw_reg | apply rp_nil | apply ae_norm | apply aw_block) | ((with_reducible apply rp); first | ((with_reducible apply does_move); (conv => lhs; whnf)) | ((with_reducible apply does_assign); (conv => lhs; whnf)) | ((with_reducible apply does_len_sl); exact tyOk rfl; exact rfl; exact rfl)))
  refine aw_loop (fun n s => n = 0 ∧ s = ⟨[(1, .d (strD k)), (8, .d (.sl 3 es)), (9, .d (iD es.length)), (10, .d (iD (0 : Nat)))], []⟩) _ _ ?_ ⟨rfl, rfl⟩ ?_
  · refine forget_of [] (by repeat' (first | exact ks_nil | (refine ks_cons rfl (by exact SubA.refl _) ?_))) (by repeat' exact trivial) rfl (by repeat' (first | exact trivial | refine And.intro ?_ ?_)) (by repeat' (first | exact trivial | refine And.intro ?_ ?_))
  · rintro n s1 ⟨rfl, rfl⟩
    have hd0 : decide (((0 : Nat) : Int) < (es.length : Int)) = true := decide_eq_true (by omega)
    repeat (first | (with_reducible first | apply aw_seq | apply aw_reg | apply rp_nil | apply ae_norm | apply aw_block | apply aw_ret | apply ae_ret | apply be_ret | apply re_ret | apply aw_skip) | ((with_reducible apply rp); first | ((with_reducible apply does_move); (conv => lhs; whnf)) | ((with_reducible apply does_assign); (conv => lhs; whnf)) | ((with_reducible apply does_fieldAddr); exact tyOk rfl; exact rfl; exact rfl; decide; exact rfl) | ((with_reducible apply does_load_var); exact tyOk rfl; exact rfl; exact rfl; exact rfl; exact rfl) | ((with_reducible apply does_load_elem_whole); exact tyOk rfl; exact rfl; exact rfl; assumption; exact rfl) | ((with_reducible apply does_index_sl); exact tyOk rfl; exact rfl; exact tyOk rfl; exact rfl; exact rfl; exact rfl; exact rfl; omega) | ((with_reducible apply does_ne); exact rfl; exact rfl) | ((with_reducible apply does_lt); exact rfl; exact rfl) | ((with_reducible apply does_seq); exact rfl; exact rfl)) | ((with_reducible apply rp1); ((with_reducible apply does_alloc); exact tyOk rfl; exact rfl)) | ((with_reducible apply rpN); ((with_reducible apply does_store_whole); exact tyOk rfl; exact rfl; exact rfl; exact rfl; exact rfl; exact rfl)) | ((with_reducible apply aw_cond); exact rfl; (focus (intro hd; (first | (cases hd; done) | (exfalso; simp at hd; done) | (exact absurd (hd.symm.trans (by assumption : _ = true)) (by decide))))); (intro hd; clear hd)) | ((with_reducible apply aw_cond); exact rfl; rotate_left; (focus (intro hd; (first | (cases hd; done) | (exfalso; simp at hd; done) | (exact absurd (hd.symm.trans (by assumption : _ = true)) (by decide))))); (intro hd; clear hd)))
    (with_reducible apply ret_ok); (focus (repeat' (first | (with_reducible apply rv_nil) | (with_reducible apply rv_cons) | ((with_reducible apply rv_tmp); exact rfl)))); exact rfl; refine SubD.of_eq ?_
    rfl
theorem does_conv_of {P : Program} {dst : Option Nat} {ty : TypeId} {e : Operand → A} {β : Bx} {S T : TypeId} {x : Operand} {s t : TyI} {m : Nat} (hs : mkTy P S = some s) (ht : mkTy P T = some t) (hk : t.kind = .int .u8) (hx : e x = .d (iD m)) : Does P dst (.convert S T x) ty e β (.d (u8D (UInt8.ofNat m))) [] [] := by
  have := does_conv_int (P := P) (dst := dst) (ty := ty) (β := β) hs ht hk hx
  have e1 : IntKind.u8.wrap (m : Int) = ((UInt8.ofNat m).toNat : Int) := by
    unfold IntKind.wrap
    simp only [IntKind.bits, IntKind.signed]
    simp
  rw [e1] at this
  exact this
theorem does_frzK {P : Program} {dst : Option Nat} {ty : TypeId} {e : Operand → A} {β : Bx} {op : Op} (t : Nat) {id n sz : Nat} {es : List (List D)} {v : A} {rd : List Nat} (hx : e (.tmp t) = .ow id n) (hro : rowsOf β id = some (sz, es))
    (h : Does P dst op ty (setE e t (.d (.sl sz es))) ([(id, .frz sz es)] ++ β) v [] rd) : Does P dst op ty e β v [(id, .frz sz es)] (id :: rd) := does_frz t hx hro h
def EI (n : Int) : List UInt8 := encF 0 0 [numV n]
theorem byS_app (a b : List UInt8) : byS a ++ byS b = byS (a ++ b) := by
  apply ByteArray.ext
  rw [ByteArray.data_append]
  simp
theorem key_pc (n : Int) (i : Nat) (hi : i < 65536) : PC Tryd.prog 16 [.ag (numV n).cs, iD i] (strD (keyI EI n i)) := by
  have e1 := Encode_pc [numV n] 0 (by simp) (fun v hv => by rw [List.mem_singleton.1 hv]; exact .int n)
  have e1 : PC _ _ [.sl 4 [(numV n).cs], iD 0] (.tu [byD (EI n), iD 0]) := e1
  have hmod : UInt8.ofNat (i % 256) = UInt8.ofNat i := by
    apply UInt8.toNat_inj.1
    simp
  have hlen : (EI n).length ≤ 83 := (encK_len 0 0 [numV n] (fun v hv => by rw [List.mem_singleton.1 hv]; exact .int n)).1
  unfold keyI
  rw [hmod, ← byS_app]
  have hcz : (byS (EI n)).size + (byS [UInt8.ofNat (i / 256), UInt8.ofNat i]).size ≤ 9223372036854775807 := by
    have h1 : (byS (EI n)).size = (EI n).length := by show (EI n).toArray.size = _; simp
    have h2 : (byS [UInt8.ofNat (i / 256), UInt8.ofNat i]).size = 2 := rfl
    rw [h1, h2]; omega
  generalize EI n = E at *
  unfold Vl.cs at *
  refine pc_of_aw Tryd.func16 rfl (by kernel_rfl) mixed (by kernel_rfl) (by rw [Tryd.ntmps16]; exact Nat.le_of_ble_eq_true rfl) Tryd.results16 ?_
  repeat (with_reducible apply aw_seq)
  repeat (first | (with_reducible first | apply aw_seq | apply aw_reg | apply rp_nil | apply ae_norm | apply aw_ret | apply re_ret) | ((with_reducible apply rp); first | (exact does_shr_p (k := 8) (z := ((i / 256 : Nat) : Int)) rfl rfl rfl (by decide) (by omega)) | (exact does_conv_of (tyOk rfl) (tyOk rfl) rfl rfl) | (exact does_cat rfl rfl hcz) | ((with_reducible apply does_move); (conv => lhs; whnf)) | ((with_reducible apply does_assign); (conv => lhs; whnf)) | ((with_reducible apply does_load_row); exact tyOk rfl; exact rfl; exact rfl; exact rfl; exact Nat.le_of_ble_eq_true rfl; exact rfl) | ((with_reducible apply does_extract); exact rfl; exact rfl) | ((with_reducible apply does_conv_bs); exact tyOk rfl; exact rfl; exact tyOk rfl; exact rfl; exact tyOk rfl; exact rfl; exact rfl)) | ((with_reducible apply rp1); first | ((with_reducible apply does_call1); exact rfl; exact rfl; exact rfl; exact (e1)) | (exact does_frzK 20 rfl rfl (does_conv_bs (k := [_, _]) (tyOk rfl) rfl (tyOk rfl) rfl (tyOk rfl) rfl rfl)) | ((with_reducible apply does_box_ag); exact rfl; exact rfl) | ((with_reducible apply does_buildSlice); exact tyOk rfl; exact rfl; exact tyOk rfl; exact rfl; exact rfl; (focus repeat' (first | exact trivial | refine And.intro rfl (And.intro rfl ?_))); decide; decide; exact rfl)))
  (with_reducible apply ret_ok); (focus (repeat' (first | (with_reducible apply rv_nil) | (with_reducible apply rv_cons) | ((with_reducible apply rv_tmp); exact rfl)))); exact rfl; refine SubD.of_eq ?_
  rfl
end Go.Proofs.YtfplkakfakdfhaaDoor

