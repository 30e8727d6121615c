/-
  The pure layer: a text is appended to a row of bytes of the call's own. No condition but the sizes.
-/
import Derived.Test.YtpaccaojgbfjdaaZC
import Derived.Lib.AppendStr
namespace Go.Proofs.Ytpaccaojgbfjdaa
set_option linter.unusedSimpArgs false
set_option linter.unusedVariables false
open Go.RowKit

theorem run_append_txt {P : Program} (w : World) (t u ty e : TypeId) (i : TypeInfo) (ht : P.underlying t = some (.slice e)) (hu : P.underlying u = some .string) (hi : P.info? e = some i) (hz : i.zero = some (.int .u8 0))
    (hsize : i.size = 1) (hby : i.bytes = 1) (v : Value) (n : Nat) (xs : List Value) (hown : w.ownsRow 0 e 1 v n xs) (s : ByteArray) (hb : n + s.size ≤ 140737488355328) :
    ∃ v' w', (Builtin.append_ #[t, u] ty #[v, .string s]).run P w = .ok v' w' ∧ w'.ownsRow 0 e 1 v' (n + s.size) (xs ++ Lib.strCells s) ∧ w.grownBy w' v.ownBlock ∧ (v'.ownBlock = v.ownBlock ∨ v'.ownBlock = some w.heap.size) := by
  obtain ⟨v', w', hrun, h1, h2, h3⟩ := Lib.run_append_own_string (P := P) w 0 t u ty e i ht hu hi hz hsize hby v n xs hown s (by unfold maxLen; omega) hb (Nat.zero_le _)
  refine ⟨v', w', hrun, h1, h2, ?_⟩
  have hxl : xs.length = n := by simpa using hown.1
  rcases hown.2 with ⟨rfl, rfl⟩ | ⟨g, cap, cur, rfl, hbg, hg, hnc, hcm, hcs, htake⟩
  · by_cases hm : s.size = 0
    · have := h3.2 ⟨rfl, hm⟩
      subst this
      exact .inl rfl
    · have hr := run_append_nil_string (P := P) w t u ty e i (.int .u8 0) ht hu hi hz s (by omega) (by omega) (by rw [hby]; omega)
      rw [hrun] at hr
      injection hr with hr
      subst hr
      exact .inr rfl
  · have hcs' : cur.size = cap := by simpa using hcs
    by_cases hroom : n + s.size ≤ cap
    · have hr := Lib.run_append_room_string (P := P) w t u ty e i ht hu hi hsize g n cap cur hg s hroom (by omega)
      rw [hrun] at hr
      injection hr with hr
      subst hr
      exact .inl rfl
    · have hr := Lib.run_append_grow_string (P := P) w t u ty e i (.int .u8 0) ht hu hi hz ⟨g, 0, none⟩ n cap xs (by rw [hsize]; simpa using hxl) (hown.cells (g := g) rfl) s (by omega) (by omega) (by rw [hby]; exact growslice_fits (by omega) (by omega))
      rw [hrun] at hr
      injection hr with hr
      subst hr
      exact .inr rfl
theorem repC_str {I : Nat → Prop} {w : World} (l : List UInt8) : RepC I w true (l.map u8D) (l.map fun c => Value.int .u8 (c.toNat : Int)) := by
  induction l with
  | nil => exact rfl
  | cons c l ih => exact ⟨_, _, rfl, fun _ => rfl, ⟨rfl, rfl⟩, ih⟩
section
variable {P : Program} {fr : Nat} {ty : TypeId} {e : Operand → A} {β : Bx}
theorem info_of {P : Program} {e : TypeId} {zv : Value} {sz by' : Nat} (h : (P.info? e).map (fun i => (i.zero, i.size, i.bytes)) = some (some zv, sz, by')) : ∃ i, P.info? e = some i ∧ i.zero = some zv ∧ i.size = sz ∧ i.bytes = by' := by
  rcases hi : P.info? e with _ | i
  · rw [hi] at h; cases h
  · rw [hi] at h
    injection h with h
    injection h with h1 h
    injection h with h2 h3
    exact ⟨i, rfl, h1, h2, h3⟩
theorem does_append_txt {T U el : TypeId} {t tu : TyI} {s x : Operand} {id n : Nat} {es : List (List D)} {b : ByteArray} (hx : e x = .d (strD b)) (hs : e s = .ow id n) (ht : mkTy P T = some t) (hk : t.kind = .slice el) (hu : mkTy P U = some tu) (hku : tu.kind = .str) (hl : look id β = some (.row el 1 es)) (hI : (P.info? el).map (fun i => (i.zero, i.size, i.bytes)) = some (some (.int .u8 0), 1, 1))
    (hb : es.length + b.size ≤ 140737488355328) (hf : look fr β = none) :
    Does P (some fr) (.call { callee := .builtin .append, args := #[s, x], argTypes := #[T, U] }) ty e β (.ow fr (es.length + b.size)) [(fr, .row el 1 (es ++ b.data.toList.map fun c => [u8D c])), (id, .dead)] [id] := by
  intro C γ hag ρ I w hm a hops o ho hd hty K Q hK
  have hf2 : look fr γ = none := (hag fr (by simp)).trans hf
  have hl2 : look id γ = some (.row el 1 es) := (hag id (by simp)).trans hl
  have h1 := (hops s (by simp [Op.operands, Call.operands])).2
  have h2 := (hops x (by simp [Op.operands, Call.operands])).2
  rw [hs] at h1
  rw [hx] at h2
  have h1 : a.eval s = ρ id := h1.1
  have h2 : a.eval x = .string b := repA_sc h2
  obtain ⟨i, d, z, _, hu1, _, _, _, _, _, hkd⟩ := mkTy_spec ht
  have hu2 : P.underlying T = some (.slice el) := by rw [hu1, kind_slice (hkd.symm.trans hk)]
  obtain ⟨i2, d2, z2, _, hu3, _, _, _, _, _, hkd2⟩ := mkTy_spec hu
  have hu4 : P.underlying U = some .string := by rw [hu3, kind_str (hkd2.symm.trans hku)]
  obtain ⟨i', hi', hz', hsz', hby'⟩ := info_of hI
  obtain ⟨xs0, k1, k2⟩ := hm.box id _ hl2
  have hlen : (b.data.toList.map fun c => [u8D c]).length = b.size := by rw [List.length_map, Array.length_toList]; rfl
  have h4 : RepR I w 1 (b.data.toList.map fun c => [u8D c]) (Lib.strCells b) := by
    have := repR_ones (repC_str (I := I) (w := w) b.data.toList)
    rw [List.map_map] at this
    exact this
  obtain ⟨v', w', hrun, hown, hgr, hbl⟩ := run_append_txt (P := P) w T U o.type el i' hu2 hu4 hi' hz' hsz' hby' (ρ id) es.length xs0 k1 b hb
  rw [← hlen] at hown
  obtain ⟨m1, m2⟩ := hm.append_box hf2 hl2 hgr hbl hown (repR_append k2 h4)
  unfold Oper.wp
  have hrun : (execOp a.eval o).run P w = .ok (.value v') w' := by
    simp [execOp, ho, resolve, invoke, builtin, Sem.run_bind, h1, h2, hrun]
  rw [hrun, Oper.upon_value, hd]
  rw [hlen] at hown
  exact hK _ _ I w' m1 m2 (by unfold A.inB dom; simp [look_append, look_cons]) (ow_rep hown (upd_same _ _ _))
end
end Go.Proofs.Ytpaccaojgbfjdaa

