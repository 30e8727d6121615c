/-
  The pure layer: what is appended to 'x[:k:k]', k may be 0; 'some', two letters as a key, pairs held against each other. No condition.
-/
import Derived.Test.YtobgjkkadnihjaaZPlFs
import Derived.Test.YtobgjkkadnihjaaZC
import Derived.Test.YtobgjkkadnihjaaZG
import Derived.Test.YtobgjkkadnihjaaZPick
import Derived.Test.YtobgjkkadnihjaaZTrGood
namespace Go.Proofs.Ytobgjkkadnihjaa
set_option linter.unusedSimpArgs false
set_option linter.unusedVariables false
open Go.RowKit

section
variable {P : Program} {dst : Option Nat} {ty : TypeId} {e : Operand → A} {β : Bx} {T T' : TypeId} {x y : Operand}
theorem does_append_fsx {fr : Nat} {el : TypeId} {t te : TyI} {s x : Operand} {es ns : List (List D)} (ht : mkTy P T = some t) (hk : t.kind = .slice el) (hte : mkTy P el = some te) (hs : e s = .fs te.size es) (hx : newsA β te.size (e x) = some ns) (hn : 0 < ns.length) (hsz : 0 < te.size)
    (hb : (es.length + ns.length) * te.bytes ≤ 140737488355328) (h63 : es.length + ns.length ≤ 9223372036854775807) (hf : look fr β = none) :
    Does P (some fr) (.call { callee := .builtin .append, args := #[s, x], argTypes := #[T, T] }) ty e β (.ow fr (es.length + ns.length)) [(fr, .row el te.size (es ++ ns))] (idsA (e x)) := by
  cases es with
  | cons a es => exact does_append_fs ht hk hte hs (by simp) hx hn hsz hb h63 hf
  | nil =>
  intro C γ hag ρ I w hm a hops o ho hd hty K Q hK
  have hf2 : look fr γ = none := (hag fr (by simp)).trans hf
  have h1 := (hops s (by simp [Op.operands, Call.operands])).2
  have h2 := (hops x (by simp [Op.operands, Call.operands])).2
  rw [hs] at h1
  obtain ⟨_, ad1, q5⟩ := h1
  have q5 : a.eval s = .slice ad1 0 0 := q5
  obtain ⟨ad, c, news, h3, h4, h5⟩ := news_ok hm (fun id hid => hag id (List.mem_append_left _ hid)) hx h2
  have h5b := h5
  obtain ⟨g1, off1, rfl, h6⟩ := h5 hn
  obtain ⟨i, d, z, _, hu, _, _, _, _, _, hkd⟩ := mkTy_spec ht
  have hu2 : P.underlying T = some (.slice el) := by rw [hu, kind_slice (hkd.symm.trans hk)]
  obtain ⟨i', d', z', hi', _, hz', hsz', hby', _, hzr', _, hone', hzs'⟩ := mkTy_all hte
  rw [hsz'] at h4 hsz
  rw [List.length_nil, Nat.zero_add] at hb h63 hK
  obtain ⟨v', w', hrun, hown0, hgr, hlt⟩ : ∃ v' w', (Builtin.append_ #[T, T] o.type #[.slice ad1 0 0, .slice (some ⟨g1, off1, none⟩) ns.length c]).run P w = .ok v' w' ∧ w'.ownsRow 0 el te.size v' ns.length news ∧ w.grownBy w' none ∧ ∀ g, blk v' = some g → w.heap.size ≤ g ∧ g < w'.heap.size := by
    cases ad1 with
    | none =>
      have hown0 : w.ownsRow 0 el i'.size (.slice none 0 0) 0 [] := World.ownsRow_nil w 0 el i'.size
      obtain ⟨v', w', hrun, hown, hgr, hbl⟩ := run_append_rows (P := P) o.type hu2 hi' hz' hzs' hsz hown0 h4 h5b (by unfold maxLen; omega) (by rw [← hby']; simpa using hb) (c := c)
      rw [Nat.zero_add, List.nil_append, ← hsz'] at hown
      obtain ⟨ad', c', k4, _⟩ := own_form hown
      refine ⟨v', w', hrun, hown, hgr, fun g hg => ?_⟩
      rw [blk_own k4] at hg
      have := (hown.lt g hg).2
      rcases hbl with h | h
      · rw [h] at hg; cases hg
      · rw [h] at hg; injection hg with hg; omega
    | some b =>
      obtain ⟨v', w', hrun, hown, hgr⟩ := run_append_arg_grows (P := P) w T o.type el i' z' i'.size i'.bytes hu2 hi' hz' rfl rfl hzs' hsz b 0 0 [] (by simp) (fun j u hj => by simp at hj) ⟨g1, off1, none⟩ ns.length c news (repR_len h4) (fun j u hj => by rw [Addr.add_mid]; exact h6 j u hj) (by omega) (by unfold maxLen; omega) (by rw [← hby', Nat.zero_add]; exact hb)
      rw [← hsz', Nat.zero_add, List.nil_append] at hown
      have hlt := fun g h => hown.lt g h
      have hown0 : w'.ownsRow 0 el te.size v' ns.length news := by
        obtain ⟨k1, k2 | ⟨g, cap, cur, k2, _, k3⟩⟩ := hown
        · exact ⟨k1, .inl k2⟩
        · exact ⟨k1, .inr ⟨g, cap, cur, k2, Nat.zero_le _, k3⟩⟩
      obtain ⟨ad', c', k4, _⟩ := own_form hown0
      refine ⟨v', w', hrun, hown0, hgr, fun g hg => ?_⟩
      rw [blk_own k4] at hg
      exact hlt g hg
  rw [← hsz'] at h4
  obtain ⟨ad', c', k4, _⟩ := own_form hown0
  obtain ⟨m1, m2⟩ := hm.new_box hf2 (v := v') (b := .row el te.size ns) hgr hlt (fun hx => ⟨news, by rw [upd_same]; exact hown0, RepR.ext hx.toExtI _ _ _ h4⟩) trivial
  unfold Oper.wp
  have hrun : (execOp a.eval o).run P w = .ok (.value v') w' := by
    simp [execOp, ho, resolve, invoke, builtin, Sem.run_bind, q5, h3, hrun]
  rw [hrun, Oper.upon_value, hd]
  exact hK _ _ I w' m1 m2 (by unfold A.inB dom; simp [look_append, look_cons]) (ow_rep hown0 (upd_same _ _ _))
theorem does_frzT {op : Op} (t : Nat) {id n sz : Nat} {es : List (List D)} {v : A} {rd : List Nat} (hx : e (.tmp t) = .ow id n) (hro : rowsOf β id = some (sz, es))
    (h : Does P dst op ty (setE e t (.d (.sl sz es))) ([(id, .frz sz es)] ++ β) v [] rd) : Does P dst op ty e β v [(id, .frz sz es)] (id :: rd) := does_frz t hx hro h
def chrB (c u : Nat) : UInt8 := UInt8.ofNat (c + u)
theorem does_chr {c u : Nat} (h : c + u < 256) (hx : e x = .d (.sc (.int .u8 (c : Int)))) (hy : e y = .d (.sc (.int .u8 (u : Int)))) : Does P dst (.binOp .add T x y T') ty e β (.d (u8D (chrB c u))) [] [] := by
  refine does_int_to hx hy trivial ?_
  have e1 : (chrB c u).toNat = c + u := by simp [chrB]; omega
  show D.sc (.int .u8 (IntKind.u8.wrap ((c : Int) + (u : Int)))) = D.sc (.int .u8 ((chrB c u).toNat : Int))
  rw [e1]
  congr 2
  unfold IntKind.wrap
  simp only [IntKind.bits, IntKind.signed]
  simp
  omega
theorem does_conv_chr {S T : TypeId} {s t : TyI} {u : Nat} (h : u < 256) (hs : mkTy P S = some s) (ht : mkTy P T = some t) (hk : t.kind = .int .u8) (hx : e x = .d (iD u)) : Does P dst (.convert S T x) ty e β (.d (.sc (.int .u8 (u : Int)))) [] [] := by
  have := does_conv_int (P := P) (dst := dst) (ty := ty) (β := β) hs ht hk hx
  have e1 : IntKind.u8.wrap (u : Int) = u := by
    unfold IntKind.wrap
    simp only [IntKind.bits, IntKind.signed]
    simp
    omega
  rw [e1] at this
  exact this
/-- Structs of a text and a number. -/
theorem ne_pair {w : World} {T : TypeId} {fs : Array Field} {f g : Field} (hu : P.underlying T = some (.struct fs)) (hfs : fs.toList = [f, g]) (hp : P.stoodInHeld T = false) (hf : f.name ≠ "_") (hg : g.name ≠ "_") (hf1 : f.offset = 0) (hg1 : g.offset = 1) (hS : P.underlying f.type = some .string) (hN : P.underlying g.type = some (.int .i64)) (kf : P.plainKey f.type = true) (kg : P.plainKey g.type = true) (a b : ByteArray) (m n : Int) :
    (Op.equalIn 10000 T (.agg #[.string a, .int .i64 m]) (.agg #[.string b, .int .i64 n])).run P w = .ok (a.toList == b.toList && m == n) w := by
  have hfo : P.fieldsOf T = fs := by unfold Program.fieldsOf; rw [hu]
  rw [run_equalIn_struct w 9999 T _ _ (by rw [hfo]; exact hu) hp, hfo, hfs]
  have p1 := run_part_plain (P := P) w kf (xs := #[.string a, .int .i64 m]) (off := f.offset) (v := .string a) (by rw [hf1]; rfl)
  have p2 := run_part_plain (P := P) w kf (xs := #[.string b, .int .i64 n]) (off := f.offset) (v := .string b) (by rw [hf1]; rfl)
  have p3 := run_part_plain (P := P) w kg (xs := #[.string a, .int .i64 m]) (off := g.offset) (v := .int .i64 m) (by rw [hg1]; rfl)
  have p4 := run_part_plain (P := P) w kg (xs := #[.string b, .int .i64 n]) (off := g.offset) (v := .int .i64 n) (by rw [hg1]; rfl)
  have q1 : (Op.equalIn 9999 f.type (.string a) (.string b)).run P w = .ok (a.toList == b.toList) w := run_equalIn_string (P := P) w 9998 f.type a b hS
  have q2 : (Op.equalIn 9999 g.type (.int .i64 m) (.int .i64 n)).run P w = .ok (m == n) w := run_equalIn_int (P := P) w 9998 g.type .i64 .i64 m n hN
  simp only [Op.eqFields, hf, hg, ne_eq, not_false_eq_true, if_true, Sem.run_bind, p1, p2, p3, p4, q1, q2, Result.andThen_ok]
  cases h1 : (a.toList == b.toList) <;> cases h2 : (m == n) <;> simp [p3, p4, q2, h2]
end
theorem pair_fields : ∃ (fs : Array Field) (f g : Field), Try.prog.underlying 50 = some (.struct fs) ∧ fs.toList = [f, g] ∧ f.name ≠ "_" ∧ g.name ≠ "_" ∧ f.offset = 0 ∧ g.offset = 1 ∧ Try.prog.underlying f.type = some .string ∧ Try.prog.underlying g.type = some (.int .i64) ∧ Try.prog.plainKey f.type = true ∧ Try.prog.plainKey g.type = true :=
  ⟨_, _, _, Try.underlying50, rfl, by decide, by decide, rfl, rfl, by kernel_rfl, by kernel_rfl, by kernel_rfl, by kernel_rfl⟩
theorem does_ne_pair {dst : Option Nat} {ty : TypeId} {e : Operand → A} {β : Bx} {T' : TypeId} {x y : Operand} {a b : ByteArray} {m n : Int} (hx : e x = .d (.ag [strD a, iD m])) (hy : e y = .d (.ag [strD b, iD n])) : Does Try.prog dst (.binOp .neq 50 x y T') ty e β (.d (bD (!(a.toList == b.toList && m == n)))) [] [] :=
  Does.of_run fun C γ _ ρ I w _ ac hops o ho _ => by
    have h1 := (hops x (by simp [Op.operands])).2
    have h2 := (hops y (by simp [Op.operands])).2
    rw [hx] at h1
    rw [hy] at h2
    obtain ⟨ua, h1, u1, r1, q1, _, ⟨q2, _⟩, u2, r2, q3, _, ⟨q4, _⟩, q5⟩ := h1
    obtain ⟨ub, h2, v1, s1, z1, _, ⟨z2, _⟩, v2, s2, z3, _, ⟨z4, _⟩, z5⟩ := h2
    have e1 : ua = #[.string a, .int .i64 m] := by apply Array.toList_inj.1; rw [q1, q3, q5, q2, q4]
    have e2 : ub = #[.string b, .int .i64 n] := by apply Array.toList_inj.1; rw [z1, z3, z5, z2, z4]
    obtain ⟨fs, f, g, k1, k2, k3, k4, k5, k6, k7, k8, k9, k10⟩ := pair_fields
    have p1 := ne_pair (w := w) k1 k2 (by kernel_rfl) k3 k4 k5 k6 k7 k8 k9 k10 a b m n
    refine ⟨.bool (!(a.toList == b.toList && m == n)), ?_, trivial, rfl, rfl⟩
    have hg : Try.prog.eqGuardType Try.prog.depth 50 = false := by kernel_rfl
    simp only [execOp, ho, h1, h2, e1, e2, Sem.run_bind, run_eqGuard_agg w .neq _ x y _ _ hg, Result.andThen_ok, run_neq_struct, p1, Sem.run_pure]
theorem somet_pc (l : List Raw) (m : Nat) (hl : l.length ≤ 4611686018427387904) : PC Try.prog 24 [.sl 4 (l.map Raw.cs), iD m] (.sl 4 ((l.take m).map Raw.cs)) := by
  refine pc_of_aw Try.func24 rfl (by kernel_rfl) mixed (by kernel_rfl) (by rw [Try.ntmps24]; exact Nat.le_of_ble_eq_true rfl) Try.results24 ?_
  repeat (first | (with_reducible first | apply aw_seq | apply aw_reg | apply rp_nil | apply ae_norm | apply aw_ret | apply re_ret) | ((with_reducible apply rp); first | (exact does_min_nat (a := l.length) (b := m) rfl rfl (by simp) rfl) | ((with_reducible apply does_move); (conv => lhs; whnf)) | ((with_reducible apply does_assign); (conv => lhs; whnf)) | ((with_reducible apply does_len_map); exact tyOk rfl; exact rfl; exact rfl) | ((with_reducible apply does_slice); exact tyOk rfl; exact rfl; exact tyOk rfl; exact rfl; exact rfl; (first | exact rfl | exact ⟨_, _, rfl, rfl⟩); (first | exact rfl | exact ⟨_, _, rfl, rfl⟩); (first | omega | (simp only [List.length_map, List.length_append, List.length_cons, List.length_nil] at *; omega)); (first | omega | (simp only [List.length_map, List.length_append, List.length_cons, List.length_nil] at *; omega)))))
  (with_reducible apply ret_ok); (focus (repeat' (first | (with_reducible apply rv_nil) | (with_reducible apply rv_cons) | ((with_reducible apply rv_tmp); exact rfl)))); exact rfl; refine SubD.of_eq ?_
  show D.sl 4 (List.drop 0 (List.take (min l.length m) (List.map Raw.cs l))) = D.sl 4 (List.map Raw.cs (List.take m l))
  rw [List.drop_zero, ← List.map_take]
  rcases Nat.le_total l.length m with h | h
  · rw [Nat.min_eq_left h, List.take_of_length_le (Nat.le_refl _), List.take_of_length_le h]
  · rw [Nat.min_eq_right h]
end Go.Proofs.Ytobgjkkadnihjaa

