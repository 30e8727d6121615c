/-
  The pure layer: the head of a row of one's own, as a row of one's own. No condition.
-/
import Derived.Test.YtclhmdobhlalmaaDoorZPlNil
namespace Go.Proofs.YtclhmdobhlalmaaDoor
set_option linter.unusedSimpArgs false
set_option linter.unusedVariables false
open Go.RowKit

theorem Mem.cut_box {C : Ctx} {γ : Bx} {ρ : Nat → Value} {I : Nat → Prop} {w w' : World} (hm : Mem C γ ρ I w) {fr id : Nat} (hf : look fr γ = none) {E : TypeId} {sz : Nat} {es es2 : List (List D)} (hl : look id γ = some (.row E sz es)) {v' : Value} {xs : List Value}
    (hg : w.grownBy w' (ρ id).ownBlock) (hblk : v'.ownBlock = (ρ id).ownBlock ∨ v'.ownBlock = some w.heap.size) (hown : w'.ownsRow 0 E sz v' es2.length xs) (hR : RepR I w sz es2 xs) :
    Mem C ([(fr, .row E sz es2), (id, .dead)] ++ γ) (updF ρ fr v') I w' ∧ Ext γ ρ I w (updF ρ fr v') I w' := by
  obtain ⟨xs0, k1, k2⟩ := hm.box id _ hl
  obtain ⟨ad, c, k3, _⟩ := own_form k1
  have hb0 : blk (ρ id) = (ρ id).ownBlock := blk_own k3
  obtain ⟨ad', c', k4, _⟩ := own_form hown
  have hb1 : blk v' = v'.ownBlock := blk_own k4
  have hne : id ≠ fr := fun e => by rw [e, hf] at hl; cases hl
  have hx : Ext γ ρ I w (updF ρ fr v') I w' := ⟨⟨fun _ h => h, fun g h => hg.block g (hm.imm g h) (fun e => by
    exact (hm.own id _ g hl rfl (hb0.trans e.symm)).2.1 h)⟩, upd_dom hf ρ v'⟩
  have hlt : ∀ g, v'.ownBlock = some g → g < w'.heap.size := fun g h => (hown.lt g h).2
  refine ⟨hm.upd _ hx hg.os hg.tape hg.output hg.size (fun g h => Nat.lt_of_lt_of_le (hm.imm g h) hg.size) (fun g h => .inl h) (fun k => (ρ id).ownBlock = some k) (fun k hk hn => hg.block k hk (fun e => hn e.symm)) (fun k h => (hm.own id _ k hl rfl (hb0.trans h)).2.2)
    (fun i b g hi hn hlv hbk => ⟨fun e => ?_, (hm.own i b g hi hlv hbk).2.1⟩) (fun i b h => ?_) (fun i j b b' g hi hj hl1 hl2 _ _ => ?_), hx⟩
  · exact (look_pair_none hn).2 (hm.inj i id b _ g hi hl hlv rfl hbk (hb0.trans e))
  · rcases look_pair h with ⟨rfl, rfl⟩ | ⟨h1, rfl, rfl⟩
    · refine ⟨⟨xs, by rw [upd_same]; exact hown, RepR.ext hx.toExtI _ _ _ hR⟩, trivial, fun _ g hbk => ?_⟩
      rw [upd_same, hb1] at hbk
      refine ⟨hlt g hbk, ?_, ?_, fun id2 b2 hl2 hn2 hlv2 hbk2 => ?_⟩
      · rcases hblk with h | h
        · exact (hm.own id _ g hl rfl (hb0.trans (h.symm.trans hbk))).2.1
        · intro hI
          rw [h] at hbk
          injection hbk with hbk
          have := hm.imm g hI
          omega
      · rcases hblk with h | h
        · exact (hm.own id _ g hl rfl (hb0.trans (h.symm.trans hbk))).2.2
        · rw [h] at hbk
          injection hbk with hbk
          have := hm.size
          exact .inl (by omega)
      · rcases hblk with h | h
        · exact (look_pair_none hn2).2 (hm.inj id2 id b2 _ g hl2 hl hlv2 rfl hbk2 (hb0.trans (h.symm.trans hbk)))
        · have := (hm.own id2 b2 g hl2 hlv2 hbk2).1
          rw [h] at hbk
          injection hbk with hbk
          omega
    · exact ⟨trivial, trivial, fun h => by cases h⟩
  · rcases look_pair hi with ⟨e1, rfl⟩ | ⟨_, _, rfl⟩
    · rcases look_pair hj with ⟨e2, rfl⟩ | ⟨_, _, rfl⟩
      · rw [e1, e2]
      · cases hl2
    · cases hl1
theorem own_take {w : World} {base : Nat} {E : TypeId} {size h n c : Nat} {ad : Option Addr} {xs : List Value} (hw : w.ownsRow base E size (.slice ad n c) n xs) (hh : h ≤ n) : w.ownsRow base E size (.slice ad h c) h (xs.take (h * size)) := by
  obtain ⟨h1, h2⟩ := hw
  have hm : h * size ≤ n * size := Nat.mul_le_mul_right _ hh
  refine ⟨by rw [List.length_take, h1]; omega, ?_⟩
  rcases h2 with ⟨h2, h3⟩ | ⟨g, cap, cur, h2, h3, h4, h5, h6, h7, h8⟩
  · injection h2 with e1 e2 e3
    subst e1 e3
    exact .inl ⟨by rw [show h = 0 by omega], by omega⟩
  · injection h2 with e1 e2 e3
    subst e1 e3
    exact .inr ⟨g, _, cur, rfl, h3, h4, by omega, h6, h7, by rw [← h8, List.take_take, Nat.min_eq_left hm]⟩
section
variable {P : Program} {fr : Nat} {ty : TypeId} {e : Operand → A} {β : Bx}
theorem does_slice_own {T el : TypeId} {t te : TyI} {x : Operand} {hi : Option Operand} {id n h : Nat} {E : TypeId} {sz : Nat} {es es2 : List (List D)} (ht : mkTy P T = some t) (hk : t.kind = .slice el) (hte : mkTy P el = some te) (hx : e x = .ow id n) (hl : look id β = some (.row E sz es)) (hn : es.length = n) (hh : hiIs e h n hi) (h1 : h ≤ n) (h2 : es.take h = es2) (hf : look fr β = none) :
    Does P (some fr) (.slice T x none hi none) ty e β (.ow fr h) [(fr, .row E sz es2), (id, .dead)] [id] := by
  subst h2 hn
  intro C γ hag ρ I w hm a hops o ho hd hty K Q hK
  have hf2 : look fr γ = none := (hag fr (by simp)).trans hf
  have hl2 : look id γ = some (.row E sz es) := (hag id (by simp)).trans hl
  have q1 := (hops x (by simp [Op.operands])).2
  rw [hx] at q1
  have q1 : a.eval x = ρ id := q1.1
  obtain ⟨xs0, k1, k2⟩ := hm.box id _ hl2
  obtain ⟨ad, c, k3, k4, k5⟩ := own_form k1
  obtain ⟨kk, v2⟩ := hi_val (a := a) hh fun y hy => (hops y (by cases hi <;> simp_all [Op.operands])).2
  have hrun := run_slice (P := P) ht hk hte (ad := ad) (c := c) (nn := es.length) (lo := none) (k1 := .i64) (.inr ⟨rfl, rfl⟩) v2 (Nat.zero_le h) (by omega) w
  have had : (if c = 0 then ad else ad.map (·.add (0 * te.size))) = ad := by
    split
    · rfl
    · rw [Nat.zero_mul]
      cases ad with
      | none => rfl
      | some p => rfl
  rw [had, Nat.sub_zero, Nat.sub_zero] at hrun
  rw [k3] at k1
  have hown := own_take k1 h1
  have hlen : (es.take h).length = h := by rw [List.length_take]; omega
  have hb : (Value.slice ad h c).ownBlock = (ρ id).ownBlock := by rw [k3]; cases ad <;> rfl
  obtain ⟨m1, m2⟩ := hm.cut_box (v' := .slice ad h c) (es2 := es.take h) hf2 hl2 (World.grownBy.refl w _) (.inl hb) (by rw [hlen]; exact hown) (repR_take h k2)
  unfold Oper.wp
  have hrun : (execOp a.eval o).run P w = .ok (.value (.slice ad h c)) w := by
    simp only [execOp, ho, q1, k3, Sem.run_bind, Option.map_none, hrun]
    rfl
  rw [hrun, Oper.upon_value, hd]
  exact hK _ _ I w m1 m2 (by unfold A.inB dom; simp [look_append, look_cons]) (ow_rep hown (upd_same _ _ _))
end
end Go.Proofs.YtclhmdobhlalmaaDoor
