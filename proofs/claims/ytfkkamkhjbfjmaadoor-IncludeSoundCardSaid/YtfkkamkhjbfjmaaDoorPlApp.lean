/-
  The pure layer: append; stores into own rows; lengths, slices, fields, texts. No condition.
-/
import Derived.Test.YtfkkamkhjbfjmaaDoorPlRows
namespace Go.Proofs.YtfkkamkhjbfjmaaDoor
set_option linter.unusedSimpArgs false
set_option linter.unusedVariables false
open Go.RowKit

section
variable {P : Program} {fr : Nat} {dst : Option Nat} {ty : TypeId} {e : Operand → A} {β : Bx}
theorem run_append_nil_src {w : World} (t ty el : TypeId) (i : TypeInfo) (size : Nat) (ht : P.underlying t = some (.slice el)) (hi : P.info? el = some i)
    (v : Value) (n : Nat) (xs : List Value) (hown : w.ownsRow 0 el size v n xs) (c : Nat) : (Builtin.append_ #[t, t] ty #[v, .slice none 0 c]).run P w = .ok v w := by
  rcases hown.2 with ⟨rfl, rfl⟩ | ⟨g, cap, cur, rfl, _, _, hnc, _⟩
  · simp [Builtin.append_, run_underlying ht, sizeOf, typeInfo, hi, Builtin.lenOf, Builtin.firstCells]
  · simp [Builtin.append_, run_underlying ht, sizeOf, typeInfo, hi, Builtin.lenOf, Builtin.firstCells, hnc, storeCells]
/-- The elements of what is appended. -/
def newsA (β : Bx) (sz : Nat) : A → Option (List (List D))
  | .d .nl => some []
  | .d (.sl sz' ns) => if sz' = sz then some ns else none
  | .ow id _ => match rowsOf β id with
    | some (sz', ns) => if sz' = sz then some ns else none
    | none => none
  | _ => none
def idsA : A → List Nat
  | .ow id _ => [id]
  | _ => []
/-- What a slice that is appended to has so far. -/
def ownA (β : Bx) (el : TypeId) (sz : Nat) : A → Option (List (List D))
  | .d .nl => some []
  | .ow id _ => match look id β with
    | some (.row E sz' es) => if E = el ∧ sz' = sz then some es else none
    | _ => none
  | _ => none
def killA : A → Bx
  | .ow id _ => [(id, .dead)]
  | _ => []
theorem news_ok {C : Ctx} {γ : Bx} {ρ : Nat → Value} {I : Nat → Prop} {w : World} (hm : Mem C γ ρ I w) {v : A} {u : Value} {sz : Nat} {ns : List (List D)} (hag : ∀ id ∈ idsA v, look id γ = look id β) (h : newsA β sz v = some ns) (hr : RepA ρ I w v u) :
    ∃ ad c news, u = .slice ad ns.length c ∧ RepR I w sz ns news ∧ (0 < ns.length → ∃ g off, ad = some ⟨g, off, none⟩ ∧ ∀ (j : Nat) (z : Value), news[j]? = some z → w.cell? ⟨g, off + j, none⟩ = some z) := by
  cases v with
  | d x =>
    cases x with
    | nl =>
      simp only [newsA, Option.some.injEq] at h
      subst h
      exact ⟨none, 0, [], hr, rfl, fun h => by simp at h⟩
    | sl sz' es =>
      simp only [newsA] at h
      split at h
      · rename_i hsz
        simp only [Option.some.injEq] at h
        subst h hsz
        obtain ⟨ad, c, xs, h1, _, h2, h3⟩ := hr
        exact ⟨ad, c, xs, h1, h2, fun h0 => by obtain ⟨g, off, e1, _, e3⟩ := h3 h0; exact ⟨g, off, e1, e3⟩⟩
      · cases h
    | _ => cases h
  | ow id m =>
    simp only [newsA] at h
    split at h
    · rename_i sz' ns' hrows
      split at h
      · rename_i hsz
        simp only [Option.some.injEq] at h
        subst h hsz
        rw [← rowsOf_agree (hag id (by simp [idsA]))] at hrows
        obtain ⟨h1, ad, c, h2, h3, h4⟩ := hr
        rcases Nat.eq_zero_or_pos m with h0 | h0
        · subst h0
          have hns : ns' = [] := by
            unfold rowsOf at hrows
            split at hrows
            · rename_i hl
              injection hrows with hrows; injection hrows with e1 e2; subst e1 e2
              obtain ⟨xs, k1, k2⟩ := hm.box id _ hl
              obtain ⟨ad', c', k3, _⟩ := own_form k1
              rw [← h1, h2] at k3
              injection k3 with _ k3
              exact List.eq_nil_of_length_eq_zero k3.symm
            · rename_i hl
              injection hrows with hrows; injection hrows with e1 e2; subst e1 e2
              obtain ⟨ad', c', xs, k3, _⟩ := hm.box id _ hl
              rw [← h1, h2] at k3
              injection k3 with _ k3
              exact List.eq_nil_of_length_eq_zero k3.symm
            · cases hrows
          subst hns
          exact ⟨ad, c, [], h2, rfl, fun h => by simp at h⟩
        · obtain ⟨g, rfl⟩ := h4 h0
          obtain ⟨xs, k1, k2, k3⟩ := rows_cells hm hrows (h1.symm.trans h2) h0
          subst k2
          exact ⟨_, c, xs, h2, k1, fun _ => ⟨g, 0, rfl, fun j z hz => by rw [Nat.zero_add]; exact k3 j z hz⟩⟩
      · cases h
    · cases h
  | _ => cases h
theorem run_append_rows {w : World} {T el : TypeId} {i : TypeInfo} {z : Value} (tyr : TypeId) (ht : P.underlying T = some (.slice el)) (hi : P.info? el = some i) (hz : i.zero = some z) (hzs : z.cells.size = i.size) (hsz : 0 < i.size)
    {v : Value} {n : Nat} {xs : List Value} (hown : w.ownsRow 0 el i.size v n xs) {I : Nat → Prop} {ns : List (List D)} {ad : Option Addr} {c : Nat} {news : List Value} (hR : RepR I w i.size ns news)
    (hc : 0 < ns.length → ∃ g off, ad = some ⟨g, off, none⟩ ∧ ∀ (j : Nat) (z : Value), news[j]? = some z → w.cell? ⟨g, off + j, none⟩ = some z) (h63 : n + ns.length ≤ maxLen) (hb : (n + ns.length) * i.bytes ≤ 140737488355328) :
    ∃ v' w', (Builtin.append_ #[T, T] tyr #[v, .slice ad ns.length c]).run P w = .ok v' w' ∧ w'.ownsRow 0 el i.size v' (n + ns.length) (xs ++ news) ∧ w.grownBy w' v.ownBlock ∧ (v'.ownBlock = v.ownBlock ∨ v'.ownBlock = some w.heap.size) := by
  have hnl := repR_len hR
  rcases ad with _ | ad
  · have h0 : ns.length = 0 := by
      rcases Nat.eq_zero_or_pos ns.length with h | h
      · exact h
      · obtain ⟨g, off, h, _⟩ := hc h; cases h
    have hns : ns = [] := List.eq_nil_of_length_eq_zero h0
    subst hns
    cases hR
    exact ⟨v, w, run_append_nil_src T tyr el i i.size ht hi v n xs hown c, by simpa using hown, World.grownBy.refl w _, .inl rfl⟩
  · have hcells : ∀ j u, news[j]? = some u → w.cell? (ad.add j) = some u := by
      intro j u hu
      have hp : 0 < ns.length := by
        rcases Nat.eq_zero_or_pos ns.length with h | h
        · rw [h, Nat.zero_mul] at hnl
          have := List.eq_nil_of_length_eq_zero hnl
          subst this
          simp at hu
        · exact h
      obtain ⟨g, off, h, h2⟩ := hc hp
      injection h with h
      subst h
      rw [Addr.add_mid]
      exact h2 j u hu
    obtain ⟨v', w', hrun, h2, h3, _, h5⟩ := run_append_own_at (P := P) w 0 T tyr el i z i.size i.bytes ht hi hz rfl rfl hzs hsz v n xs hown ad ns.length c news hnl hcells (repR_one hR) h63 hb (Nat.zero_le _)
    exact ⟨v', w', hrun, h2, h3, h5⟩
theorem look_pair {fr id i : Nat} {b b' x : Box} (h : look i [(fr, b), (id, b')] = some x) : (i = fr ∧ x = b) ∨ (i ≠ fr ∧ i = id ∧ x = b') := by
  rw [look_cons] at h
  split at h
  · rename_i hk; injection h with h; exact .inl ⟨hk.symm, h.symm⟩
  · rename_i hk
    obtain ⟨h1, h2⟩ := look_one h
    exact .inr ⟨fun e => hk e.symm, h1, h2⟩
theorem look_pair_none {fr id i : Nat} {b b' : Box} (h : look i [(fr, b), (id, b')] = none) : i ≠ fr ∧ i ≠ id := by
  rw [look_cons] at h
  split at h
  · cases h
  · rename_i hk; exact ⟨fun e => hk e.symm, look_one_none h⟩
theorem Mem.append_box {C : Ctx} {γ : Bx} {ρ : Nat → Value} {I : Nat → Prop} {w w' : World} (hm : Mem C γ ρ I w) {fr id : Nat} (hf : look fr γ = none) {E : TypeId} {sz : Nat} {es ns : List (List D)} (hl : look id γ = some (.row E sz es)) {v' : Value} {xs : List Value}
    (hg : w.grownBy w' (ρ id).ownBlock) (hblk : v'.ownBlock = (ρ id).ownBlock ∨ v'.ownBlock = some w.heap.size) (hown : w'.ownsRow 0 E sz v' (es.length + ns.length) xs) (hR : RepR I w sz (es ++ ns) xs) :
    Mem C ([(fr, .row E sz (es ++ ns)), (id, .dead)] ++ γ) (updF ρ fr v') I w' ∧ Ext γ ρ I w (updF ρ fr v') I w' := by
  obtain ⟨xs0, k1, k2⟩ := hm.box id _ hl
  obtain ⟨ad, c, k3, _⟩ := own_form k1
  have hb0 : blk (ρ id) = (ρ id).ownBlock := blk_own k3
  obtain ⟨ad', c', k4, _⟩ := own_form hown
  have hb1 : blk v' = v'.ownBlock := blk_own k4
  have hne : id ≠ fr := fun e => by rw [e, hf] at hl; cases hl
  have hx : Ext γ ρ I w (updF ρ fr v') I w' := ⟨⟨fun _ h => h, fun g h => hg.block g (hm.imm g h) (fun e => by
    exact (hm.own id _ g hl rfl (hb0.trans e.symm)).2.1 h)⟩, upd_dom hf ρ v'⟩
  have hlt : ∀ g, v'.ownBlock = some g → g < w'.heap.size := fun g h => (hown.lt g h).2
  refine ⟨hm.upd _ hx hg.os hg.tape hg.output hg.size (fun g h => Nat.lt_of_lt_of_le (hm.imm g h) hg.size) (fun g h => .inl h) (fun k => (ρ id).ownBlock = some k) (fun k hk hn => hg.block k hk (fun e => hn e.symm)) (fun k h => (hm.own id _ k hl rfl (hb0.trans h)).2.2)
    (fun i b g hi hn hlv hbk => ⟨fun e => ?_, (hm.own i b g hi hlv hbk).2.1⟩) (fun i b h => ?_) (fun i j b b' g hi hj hl1 hl2 _ _ => ?_), hx⟩
  · exact (look_pair_none hn).2 (hm.inj i id b _ g hi hl hlv rfl hbk (hb0.trans e))
  · rcases look_pair h with ⟨rfl, rfl⟩ | ⟨h1, rfl, rfl⟩
    · refine ⟨⟨xs, by rw [upd_same, List.length_append]; exact hown, RepR.ext hx.toExtI _ _ _ hR⟩, trivial, fun _ g hbk => ?_⟩
      rw [upd_same, hb1] at hbk
      refine ⟨hlt g hbk, ?_, ?_, fun id2 b2 hl2 hn2 hlv2 hbk2 => ?_⟩
      · rcases hblk with h | h
        · exact (hm.own id _ g hl rfl (hb0.trans (h.symm.trans hbk))).2.1
        · intro hI
          rw [h] at hbk
          injection hbk with hbk
          have := hm.imm g hI
          omega
      · rcases hblk with h | h
        · exact (hm.own id _ g hl rfl (hb0.trans (h.symm.trans hbk))).2.2
        · rw [h] at hbk
          injection hbk with hbk
          have := hm.size
          exact .inl (by omega)
      · rcases hblk with h | h
        · exact (look_pair_none hn2).2 (hm.inj id2 id b2 _ g hl2 hl hlv2 rfl hbk2 (hb0.trans (h.symm.trans hbk)))
        · have := (hm.own id2 b2 g hl2 hlv2 hbk2).1
          rw [h] at hbk
          injection hbk with hbk
          omega
    · exact ⟨trivial, trivial, fun h => by cases h⟩
  · rcases look_pair hi with ⟨e1, rfl⟩ | ⟨_, _, rfl⟩
    · rcases look_pair hj with ⟨e2, rfl⟩ | ⟨_, _, rfl⟩
      · rw [e1, e2]
      · cases hl2
    · cases hl1
theorem does_append_nil {T el : TypeId} {t te : TyI} {s x : Operand} {ns : List (List D)} (ht : mkTy P T = some t) (hk : t.kind = .slice el) (hte : mkTy P el = some te) (hs : e s = .d .nl) (hx : newsA β te.size (e x) = some ns) (hsz : 0 < te.size)
    (hb : ns.length * te.bytes ≤ 140737488355328) (h63 : ns.length ≤ 9223372036854775807) (hf : look fr β = none) :
    Does P (some fr) (.call { callee := .builtin .append, args := #[s, x], argTypes := #[T, T] }) ty e β (.ow fr ns.length) [(fr, .row el te.size ns)] (idsA (e x)) := by
  intro C γ hag ρ I w hm a hops o ho hd hty K Q hK
  have hf2 : look fr γ = none := (hag fr (by simp)).trans hf
  have h1 := (hops s (by simp [Op.operands, Call.operands])).2
  have h2 := (hops x (by simp [Op.operands, Call.operands])).2
  rw [hs] at h1
  have h1 : a.eval s = .slice none 0 0 := h1
  obtain ⟨ad, c, news, h3, h4, h5⟩ := news_ok hm (fun id hid => hag id (List.mem_append_left _ hid)) hx h2
  obtain ⟨i, d, z, _, hu, _, _, _, _, _, hkd⟩ := mkTy_spec ht
  have hu2 : P.underlying T = some (.slice el) := by rw [hu, kind_slice (hkd.symm.trans hk)]
  obtain ⟨i', d', z', hi', _, hz', hsz', hby', _, hzr', _, hone', hzs'⟩ := mkTy_all hte
  rw [hsz'] at h4 hsz
  have hown0 : w.ownsRow 0 el i'.size (.slice none 0 0) 0 [] := World.ownsRow_nil w 0 el i'.size
  obtain ⟨v', w', hrun, hown, hgr, hbl⟩ := run_append_rows (P := P) o.type hu2 hi' hz' hzs' hsz hown0 h4 h5 (by unfold maxLen; omega) (by rw [← hby']; simpa using hb) (c := c)
  rw [Nat.zero_add, List.nil_append, ← hsz'] at hown
  rw [← hsz'] at h4
  obtain ⟨ad', c', k4, _⟩ := own_form hown
  obtain ⟨m1, m2⟩ := hm.new_box hf2 (v := v') (b := .row el te.size ns) hgr (fun g hg => by
      rw [blk_own k4] at hg
      have := (hown.lt g hg).2
      rcases hbl with h | h
      · rw [h] at hg; cases hg
      · rw [h] at hg; injection hg with hg; omega) (fun hx => ⟨news, by rw [upd_same]; exact hown, RepR.ext hx.toExtI _ _ _ h4⟩) trivial
  unfold Oper.wp
  have hrun : (execOp a.eval o).run P w = .ok (.value v') w' := by
    simp [execOp, ho, resolve, invoke, builtin, Sem.run_bind, h1, h3, hrun]
  rw [hrun, Oper.upon_value, hd]
  exact hK _ _ I w' m1 m2 (by unfold A.inB dom; simp [look_append, look_cons]) (ow_rep hown (upd_same _ _ _))
theorem does_append_own {T el : TypeId} {t te : TyI} {s x : Operand} {id n : Nat} {es ns : List (List D)} (ht : mkTy P T = some t) (hk : t.kind = .slice el) (hte : mkTy P el = some te) (hs : e s = .ow id n) (hl : look id β = some (.row el te.size es)) (hx : newsA β te.size (e x) = some ns) (hsz : 0 < te.size)
    (hb : (es.length + ns.length) * te.bytes ≤ 140737488355328) (h63 : es.length + ns.length ≤ 9223372036854775807) (hf : look fr β = none) :
    Does P (some fr) (.call { callee := .builtin .append, args := #[s, x], argTypes := #[T, T] }) ty e β (.ow fr (es.length + ns.length)) [(fr, .row el te.size (es ++ ns)), (id, .dead)] (id :: idsA (e x)) := by
  intro C γ hag ρ I w hm a hops o ho hd hty K Q hK
  have hf2 : look fr γ = none := (hag fr (by simp)).trans hf
  have hl2 : look id γ = some (.row el te.size es) := (hag id (by simp)).trans hl
  have h1 := (hops s (by simp [Op.operands, Call.operands])).2
  have h2 := (hops x (by simp [Op.operands, Call.operands])).2
  rw [hs] at h1
  have h1 : a.eval s = ρ id := h1.1
  obtain ⟨ad, c, news, h3, h4, h5⟩ := news_ok hm (fun id hid => hag id (List.mem_append_left _ (List.mem_cons_of_mem _ hid))) hx h2
  obtain ⟨i, d, z, _, hu, _, _, _, _, _, hkd⟩ := mkTy_spec ht
  have hu2 : P.underlying T = some (.slice el) := by rw [hu, kind_slice (hkd.symm.trans hk)]
  obtain ⟨i', d', z', hi', _, hz', hsz', hby', _, hzr', _, hone', hzs'⟩ := mkTy_all hte
  obtain ⟨xs0, k1, k2⟩ := hm.box id _ hl2
  rw [hsz'] at h4 hsz k1
  obtain ⟨v', w', hrun, hown, hgr, hbl⟩ := run_append_rows (P := P) o.type hu2 hi' hz' hzs' hsz k1 h4 h5 (by unfold maxLen; omega) (by rw [← hby']; exact hb) (c := c)
  rw [← hsz'] at hown h4
  obtain ⟨m1, m2⟩ := hm.append_box hf2 hl2 hgr hbl hown (repR_append k2 h4)
  unfold Oper.wp
  have hrun : (execOp a.eval o).run P w = .ok (.value v') w' := by
    simp [execOp, ho, resolve, invoke, builtin, Sem.run_bind, h1, h3, hrun]
  rw [hrun, Oper.upon_value, hd]
  exact hK _ _ I w' m1 m2 (by unfold A.inB dom; simp [look_append, look_cons]) (ow_rep hown (upd_same _ _ _))

theorem repR_set {I : Nat → Prop} {w : World} {sz : Nat} {ds : List D} {us : List Value} (hc : RepC I w true ds us) (hlen : ds.length = sz) : ∀ {es : List (List D)} {l : List Value} (i : Nat), RepR I w sz es l → i < es.length → RepR I w sz (es.set i ds) (putAt l (i * sz) us)
  | [], l, i, h, hi => by simp at hi
  | e0 :: es, _, 0, ⟨vs, vs', rfl, h1, h2, h3⟩, _ => by
    have a1 := repC_len hc
    have a2 := repC_len h2
    refine ⟨us, vs', ?_, hlen, hc, h3⟩
    unfold putAt
    rw [Nat.zero_mul, Nat.zero_add, List.take_zero, List.nil_append, List.drop_append, List.drop_eq_nil_of_le (by omega), List.nil_append, show us.length - vs.length = 0 by omega, List.drop_zero]
  | e0 :: es, _, i + 1, ⟨vs, vs', rfl, h1, h2, h3⟩, hi => by
    have a2 := repC_len h2
    have ih := repR_set hc hlen i h3 (by simpa using hi)
    refine ⟨vs, _, ?_, h1, h2, ih⟩
    have e1 : (i + 1) * sz = vs.length + i * sz := by rw [Nat.add_mul, Nat.one_mul]; omega
    unfold putAt
    rw [e1, List.take_append, List.take_of_length_le (by omega), List.drop_append, List.drop_eq_nil_of_le (by omega), List.nil_append]
    rw [show vs.length + i * sz - vs.length = i * sz by omega, show vs.length + i * sz + us.length - vs.length = i * sz + us.length by omega]
    simp
theorem set_putAt {α : Type} (l : List α) (i : Nat) (u : α) (h : i < l.length) : l.set i u = putAt l i [u] := by
  unfold putAt
  rw [List.set_eq_take_append_cons_drop, if_pos h]
  simp
theorem putAt_mid {α : Type} (l ds z us : List α) (b : Nat) (h : b + us.length ≤ ds.length) : putAt (l ++ (ds ++ z)) (l.length + b) us = l ++ (putAt ds b us ++ z) := by
  unfold putAt
  rw [List.take_append, List.take_of_length_le (Nat.le_add_right _ _), Nat.add_sub_cancel_left, List.take_append_of_le_length (by omega), Nat.add_assoc, List.drop_append, List.drop_eq_nil_of_le (Nat.le_add_right _ _), List.nil_append, Nat.add_sub_cancel_left, List.drop_append_of_le_length (by omega)]
  simp
theorem putAt_putAt {α : Type} {l ds : List α} {a b : Nat} {us : List α} (h : (l.drop a).take ds.length = ds) (ha : a + ds.length ≤ l.length) (hb : b + us.length ≤ ds.length) : putAt l (a + b) us = putAt l a (putAt ds b us) := by
  have hl : l = l.take a ++ (ds ++ l.drop (a + ds.length)) := by
    conv => lhs; rw [← List.take_append_drop a l]
    congr 1
    conv => lhs; rw [← List.take_append_drop ds.length (l.drop a), h]
    rw [List.drop_drop]
  have hta : (l.take a).length = a := by rw [List.length_take]; omega
  have e1 := putAt_mid (l.take a) ds (l.drop (a + ds.length)) us b hb
  rw [← hl, hta] at e1
  rw [e1]
  conv => rhs; unfold putAt
  have e2 : (putAt ds b us).length = ds.length := putAt_length hb
  unfold putAt at e2
  rw [e2]
  unfold putAt
  simp
/-- One cell, or several, of an element of an own row is written. -/
theorem does_store_own {T : TypeId} {t : TyI} {x y : Operand} {id sz i off : Nat} {E : TypeId} {es : List (List D)} {el : List D} {d : D} (ht : mkTy P T = some t) (hx : e x = .pr id sz i off) (hy : e y = .d d) (h1 : d.cells.all D.one = true) (hl : look id β = some (.row E sz es)) (he : es[i]? = some el) (hs : d.cells.length = t.size) (hoff : off + t.size ≤ el.length) :
    Does P dst (.store T x y) ty e β .un [(id, .row E sz (es.set i (putAt el off d.cells)))] [id] := by
  intro C γ hag ρ I w hm a hops o ho hd hty K Q hK
  have hl2 : look id γ = some (.row E sz es) := (hag id (by simp)).trans hl
  obtain ⟨hb, hp⟩ := hops x (by simp [Op.operands])
  obtain ⟨hvb, hv⟩ := hops y (by simp [Op.operands])
  rw [hx] at hp
  rw [hy] at hv
  obtain ⟨g, n, c, hρ, hin, hp⟩ := hp
  obtain ⟨xs, k1, k2⟩ := hm.box id _ hl2
  have hcv := cellsD_rep hv h1
  have hcl := repC_len hcv
  obtain ⟨us, q1, q2, q3, q4⟩ := repR_get k2 he
  have hn : n = es.length := by
    obtain ⟨ad, c', k3, _⟩ := own_form k1
    rw [hρ] at k3; injection k3
  rw [hρ] at k1
  rcases k1.2 with ⟨h', _⟩ | ⟨g', cap', cur, h', _, hg, hnc, hcm, hcs, htk⟩
  · cases h'
  injection h' with h' _ h''
  injection h' with h'
  injection h' with h'
  subst h' h''
  have hil : i < es.length := (List.getElem?_eq_some_iff.1 he).1
  have hisz : i * sz + sz ≤ es.length * sz := by have := Nat.mul_le_mul_right sz hil; rw [Nat.succ_mul] at this; exact this
  have hcap : es.length * sz ≤ c * sz := Nat.mul_le_mul_right sz hnc
  have hxl := repR_len k2
  have hfit : i * sz + off + (a.eval y).cells.toList.length ≤ cur.size := by omega
  have hthere : w.there g (i * sz + off) (a.eval y).cells.size := fun j hj => by
    refine ⟨?_, by simp [World.frozen?, hg]⟩
    rw [← Array.length_toList] at hj
    rw [cell_in hg, Array.getElem?_eq_getElem (by omega)]; rfl
  obtain ⟨ii, dd, z, hi, _, _, hsz, _⟩ := mkTy_spec ht
  have hone : (a.eval y).cells.all (·.oneCell') = true := Array.all_eq_true_iff_forall_mem.2 fun v hv' => repC_one hcv v (by simpa using hv')
  have hrun0 : (storeVar T ⟨g, i * sz + off, none⟩ (a.eval y)).run P w = .ok () (w.setCells g (i * sz + off) (a.eval y).cells.toList) := by
    have h0 := run_storeVar_mid (P := P) w g (i * sz + off) T (a.eval y).cells hthere (by rw [hi]; simp; rw [← Array.length_toList]; omega) hone
    have : storeVar T ⟨g, i * sz + off, none⟩ (a.eval y) = storeVar T ⟨g, i * sz + off, none⟩ (.agg (a.eval y).cells) := rfl
    rw [this]; exact h0
  have hgr := setCells_grown g (a.eval y).cells.toList (i * sz + off) w
  obtain ⟨us', e1, e2⟩ := setCells_at (g := g) (a.eval y).cells.toList (i * sz + off) w cur hg hfit
  have hR2 : RepR I w sz (es.set i (putAt el off d.cells)) (putAt xs (i * sz + off) (a.eval y).cells.toList) := by
    have hp2 := repR_set (repC_putAt q1 hcv off) (by rw [putAt_length (by omega)]; exact q2) i k2 hil
    rwa [putAt_putAt (by rw [q3]; exact q4) (by omega) (by omega)]
  have hmem := hm.set_box hl2 rfl (g := g) (by rw [hρ]; rfl) hgr (b := .row E sz (es.set i (putAt el off d.cells))) (fun hx => ⟨putAt xs (i * sz + off) (a.eval y).cells.toList, by
    rw [hρ, List.length_set, ← hn]
    refine ⟨by rw [putAt_length (by rw [hxl, hcl]; omega)]; rw [hn]; exact hxl, .inr ⟨g, c, us', rfl, Nat.zero_le _, e1, by omega, hcm, ?_, ?_⟩⟩
    · rw [← Array.length_toList, e2, putAt_length (by rw [Array.length_toList]; omega), Array.length_toList, hcs]
    · rw [e2, ← htk]
      rw [hn] at *
      unfold putAt
      have hcl2 : cur.toList.length = c * sz := by rw [Array.length_toList, hcs]
      have t1 : (cur.toList.take (es.length * sz)).take (i * sz + off) = cur.toList.take (i * sz + off) := by rw [List.take_take]; congr 1; omega
      have t2 : ((cur.toList.take (es.length * sz)).drop (i * sz + off + (a.eval y).cells.toList.length)) = (cur.toList.drop (i * sz + off + (a.eval y).cells.toList.length)).take (es.length * sz - (i * sz + off + (a.eval y).cells.toList.length)) := by rw [List.drop_take]
      rw [t1, t2]
      have l1 : (cur.toList.take (i * sz + off) ++ (a.eval y).cells.toList).length = i * sz + off + (a.eval y).cells.toList.length := by rw [List.length_append, List.length_take]; omega
      rw [List.take_append, List.take_of_length_le (show (cur.toList.take (i * sz + off) ++ (a.eval y).cells.toList).length ≤ es.length * sz by rw [l1]; omega), l1], RepR.ext hx.toExtI _ _ _ hR2⟩) trivial
  unfold Oper.wp
  have hrun : (execOp a.eval o).run P w = .ok .skip (w.setCells g (i * sz + off) (a.eval y).cells.toList) := by
    simp only [execOp, ho, hp, Instr.storeAt, Instr.sureAddr, Sem.run_bind, Sem.run_pure, Result.andThen_ok, hrun0]
  rw [hrun, Oper.upon_skip, hd]
  exact hK _ ρ I _ hmem.1 hmem.2 trivial trivial
end
end Go.Proofs.YtfkkamkhjbfjmaaDoor
