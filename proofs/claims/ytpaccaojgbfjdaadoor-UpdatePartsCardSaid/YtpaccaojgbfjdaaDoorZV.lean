/-
  What an expression says of a row: a value, or what is wrong. No program in sight.
-/
import Derived.Test.YtpaccaojgbfjdaaDoorZEx
import Derived.Test.YtpaccaojgbfjdaaDoorZOrd
import Derived.Test.YtpaccaojgbfjdaaDoorZG
set_option linter.unusedSimpArgs false
set_option linter.unusedVariables false
namespace Go.Proofs.YtpaccaojgbfjdaaDoor
open Go.Lib

structure Tv where
  v : Vl
  e : Nat
abbrev nullV : Vl := ⟨0, 0, 0, .empty⟩
abbrev Tv.bad (e : Nat) : Tv := ⟨nullV, e⟩
abbrev numV (n : Int) : Vl := ⟨2, n, 0, .empty⟩
abbrev txtV (t : ByteArray) : Vl := ⟨4, 0, 0, t⟩
abbrev w64 (n : Int) : Int := IntKind.i64.wrap n
def qDD : Nat → List UInt8 → Nat
  | 0, _ => 0
  | f + 1, l => if l = [] then 0 else qDD f (l.drop (decodeL l).2) + 1
def runeN (s : ByteArray) : Nat := qDD s.size s.data.toList
theorem qFq : ∀ (f g : Nat) (l : List UInt8), l.length ≤ f → l.length ≤ g → qDD f l = qDD g l
  | 0, 0, _, _, _ => rfl
  | 0, g + 1, l, h, _ => by
    have : l = [] := List.length_eq_zero_iff.1 (by omega)
    subst this; rfl
  | f + 1, 0, l, _, h => by
    have : l = [] := List.length_eq_zero_iff.1 (by omega)
    subst this; rfl
  | f + 1, g + 1, l, h1, h2 => by
    have hw := decodeL_width l
    unfold qDD
    split
    · rfl
    · rw [qFq f g _ (by rw [List.length_drop]; omega) (by rw [List.length_drop]; omega)]
theorem sz_eq (s : ByteArray) : s.size = s.data.toList.length := by rw [Array.length_toList]; rfl
def yesI (g : Bool) : Int := if g = true then 2 else 0
def partI (v : Vl) : Int := if v.k = 0 then 1 else w64 (2 * v.n)
def truI (t : Int) : Vl := if t = 1 then nullV else ⟨1, Int.tdiv t 2, 0, .empty⟩
def oneF (op : Nat) (v : Vl) : Tv :=
  if op = 17 then (if v.k = 0 then ⟨truI 2, 0⟩ else ⟨truI 0, 0⟩) else
  if v.k = 0 then ⟨v, 0⟩ else
  if op = 4 then (if v.k = 1 then ⟨⟨1, w64 (1 - v.n), 0, .empty⟩, 0⟩ else .bad 2) else
  if op = 18 then (if v.k = 4 then ⟨numV (runeN v.t), 0⟩ else .bad 2) else
  if v.k = 2 then (if v.n = -9223372036854775808 then .bad 6 else ⟨numV (w64 (0 - v.n)), 0⟩) else .bad 2
def logF (op : Nat) (v w : Vl) : Tv := if v.k ≤ 1 ∧ w.k ≤ 1 then ⟨truI (if op = 16 then max (partI v) (partI w) else min (partI v) (partI w)), 0⟩ else .bad 2
def fitK (k : Int) (v w : Vl) : Bool := (v.k == 0 || v.k == k) && (w.k == 0 || w.k == k)
def catF (v w : Vl) : Tv := if fitK 4 v w = true then (if v.k = 0 ∨ w.k = 0 then ⟨nullV, 0⟩ else if v.t.size + w.t.size > 40 then .bad 1 else ⟨txtV (v.t ++ w.t), 0⟩) else .bad 2
def addB (a b : Int) : Bool := decide (w64 (a + b) > a) == decide (b > 0) || b == 0
def subB (a b : Int) : Bool := decide (w64 (a - b) < a) == decide (b > 0) || b == 0
def mulB (a b : Int) : Bool := !(a == -1 && b == -9223372036854775808) && !(b == -1 && a == -9223372036854775808) && w64 (Int.tdiv (w64 (a * b)) b) == a
def reckN (op : Nat) (a b : Int) : Tv :=
  if op = 5 then (if addB a b = true then ⟨numV (w64 (a + b)), 0⟩ else .bad 6) else
  if op = 6 then (if subB a b = true then ⟨numV (w64 (a - b)), 0⟩ else .bad 6) else
  if op = 7 then (if a = 0 ∨ b = 0 then ⟨numV 0, 0⟩ else if mulB a b = true then ⟨numV (w64 (a * b)), 0⟩ else .bad 6) else
  if b = 0 then .bad 7 else if a = -9223372036854775808 ∧ b = -1 then .bad 6 else ⟨numV (w64 (Int.tdiv a b)), 0⟩
def reckF (op : Nat) (v w : Vl) : Tv := if fitK 2 v w = true then (if v.k = 0 ∨ w.k = 0 then ⟨nullV, 0⟩ else reckN op v.n w.n) else .bad 2
def cmpT (op : Nat) (v w : Vl) : Int :=
  if op = 9 then yesI (ordV v w == 0) else if op = 10 then 2 - yesI (ordV v w == 0) else if op = 11 then yesI (decide (ordV v w < 0)) else
  if op = 14 then 2 - yesI (decide (ordV v w < 0)) else if op = 13 then yesI (decide (ordV w v < 0)) else 2 - yesI (decide (ordV w v < 0))
def compF (op : Nat) (v w : Vl) : Tv := if v.k = 0 ∨ w.k = 0 then ⟨nullV, 0⟩ else if v.k = w.k then ⟨truI (cmpT op v w), 0⟩ else .bad 2
def twoF (op : Nat) (v w : Vl) : Tv :=
  if op = 15 ∨ op = 16 then logF op v w else if op = 20 then ⟨w, 0⟩ else if op = 19 then catF v w else if op ≤ 8 then reckF op v w else compF op v w

def qF7 (n : ByteArray) : Nat → List Cl → Option Nat
  | _, [] => none
  | i, c :: l => if c.name = n then some i else qF7 n (i + 1) l
def qED (op : Nat) (v : Vl) : Bool := (op == 20 && v.k != 0) || (op == 15 && v.k == 1 && v.n == 0) || (op == 16 && v.k == 1 && v.n == 1)
def evF (cols : List Cl) (row : List Vl) : Ex → Tv
  | .lit v => ⟨v, 0⟩
  | .col n => match qF7 n 0 cols with
    | some i => match row[i]? with
      | some v => ⟨v, 0⟩
      | none => .bad 5
    | none => .bad 5
  | .un op a => if (evF cols row a).e = 0 then oneF op (evF cols row a).v else .bad (evF cols row a).e
  | .bi op a b => if (evF cols row a).e = 0 then
      (if qED op (evF cols row a).v = true then ⟨(evF cols row a).v, 0⟩ else
       if (evF cols row b).e = 0 then twoF op (evF cols row a).v (evF cols row b).v else .bad (evF cols row b).e)
    else .bad (evF cols row a).e

theorem qEN (g : Bool) : yesI g = 0 ∨ yesI g = 2 := by cases g <;> simp [yesI]
theorem truI_gd {t : Int} (h : t = 0 ∨ t = 1 ∨ t = 2) : Gd (truI t) ∧ ((truI t).k = 1 ∨ (t = 1 ∧ (truI t).k = 0)) := by
  rcases h with rfl | rfl | rfl
  · exact ⟨.bool 0 (.inl rfl), .inl rfl⟩
  · exact ⟨.null, .inr ⟨rfl, rfl⟩⟩
  · exact ⟨.bool 1 (.inr rfl), .inl rfl⟩
theorem qFa {v : Vl} (h : Gd v) (hk : v.k ≤ 1) : partI v = 0 ∨ partI v = 1 ∨ partI v = 2 := by
  cases h with
  | null => exact .inr (.inl rfl)
  | bool n h => rcases h with rfl | rfl
                · exact .inl rfl
                · exact .inr (.inr rfl)
  | int n => have hk : (2 : Int) ≤ 1 := hk; omega
  | real b h1 h2 h3 => have hk : (3 : Int) ≤ 1 := hk; omega
  | text t h1 h2 => have hk : (4 : Int) ≤ 1 := hk; omega
theorem Gd.k_in {v : Vl} (h : Gd v) : v.k = 0 ∨ v.k = 1 ∨ v.k = 2 ∨ v.k = 3 ∨ v.k = 4 := by
  cases h with
  | null => exact .inl rfl
  | bool n h => exact .inr (.inl rfl)
  | int n => exact .inr (.inr (.inl rfl))
  | real b h1 h2 h3 => exact .inr (.inr (.inr (.inl rfl)))
  | text t h1 h2 => exact .inr (.inr (.inr (.inr rfl)))
theorem Gd.bool_n {v : Vl} (h : Gd v) (hk : v.k = 1) : ∃ n, (n = 0 ∨ n = 1) ∧ v = ⟨1, n, 0, .empty⟩ := by
  cases h with
  | bool n h => exact ⟨n, h, rfl⟩
  | null => have hk : (0 : Int) = 1 := hk; omega
  | int n => have hk : (2 : Int) = 1 := hk; omega
  | real b h1 h2 h3 => have hk : (3 : Int) = 1 := hk; omega
  | text t h1 h2 => have hk : (4 : Int) = 1 := hk; omega
theorem Gd.int_n {v : Vl} (h : Gd v) (hk : v.k = 2) : v = numV v.n := by
  cases h with
  | int n => rfl
  | null => have hk : (0 : Int) = 2 := hk; omega
  | bool n h => have hk : (1 : Int) = 2 := hk; omega
  | real b h1 h2 h3 => have hk : (3 : Int) = 2 := hk; omega
  | text t h1 h2 => have hk : (4 : Int) = 2 := hk; omega
theorem Gd.null_n {v : Vl} (h : Gd v) (hk : v.k = 0) : v = nullV := by
  cases h with
  | null => rfl
  | int n => have hk : (2 : Int) = 0 := hk; omega
  | bool n h => have hk : (1 : Int) = 0 := hk; omega
  | real b h1 h2 h3 => have hk : (3 : Int) = 0 := hk; omega
  | text t h1 h2 => have hk : (4 : Int) = 0 := hk; omega
theorem Gd.text_v {v : Vl} (h : Gd v) (hk : v.k = 4) : v.t.size ≤ 40 ∧ validD v.t.data.toList = true ∧ v = txtV v.t := by
  cases h with
  | text t h1 h2 => exact ⟨h1, h2, rfl⟩
  | null => have hk : (0 : Int) = 4 := hk; omega
  | int n => have hk : (2 : Int) = 4 := hk; omega
  | bool n h => have hk : (1 : Int) = 4 := hk; omega
  | real b h1 h2 h3 => have hk : (3 : Int) = 4 := hk; omega
theorem oneF_gd (op : Nat) {v : Vl} (h : Gd v) : Gd (oneF op v).v := by
  unfold oneF
  split
  · split
    · exact (truI_gd (.inr (.inr rfl))).1
    · exact (truI_gd (.inl rfl)).1
  · split
    · exact h
    · split
      · split
        · rename_i hk
          obtain ⟨n, hn, rfl⟩ := h.bool_n hk
          rcases hn with rfl | rfl
          · exact .bool 1 (.inr rfl)
          · exact .bool 0 (.inl rfl)
        · exact .null
      · split
        · split
          · exact .int _
          · exact .null
        · split
          · split
            · exact .null
            · exact .int _
          · exact .null
theorem reckN_gd (op : Nat) (a b : Int) : Gd (reckN op a b).v := by
  unfold reckN
  repeat' split
  all_goals first | exact .null | exact .int _
theorem cmpT_in (op : Nat) (v w : Vl) : cmpT op v w = 0 ∨ cmpT op v w = 2 := by
  have h1 := qEN (ordV v w == 0)
  have h2 := qEN (decide (ordV v w < 0))
  have h3 := qEN (decide (ordV w v < 0))
  unfold cmpT
  repeat' split
  all_goals omega
theorem twoF_gd (op : Nat) {v w : Vl} (hv : Gd v) (hw : Gd w) : Gd (twoF op v w).v := by
  unfold twoF
  split
  · unfold logF
    split
    · rename_i hk
      have h1 := qFa hv hk.1
      have h2 := qFa hw hk.2
      refine (truI_gd ?_).1
      split <;> omega
    · exact .null
  · split
    · exact hw
    · split
      · unfold catF
        split
        · rename_i hf
          split
          · exact .null
          · rename_i h0
            split
            · exact .null
            · rename_i hs
              unfold fitK at hf
              simp only [Bool.and_eq_true, Bool.or_eq_true, beq_iff_eq] at hf
              have k1 : v.k = 4 := by omega
              have k2 : w.k = 4 := by omega
              obtain ⟨a1, a2, _⟩ := hv.text_v k1
              obtain ⟨b1, b2, _⟩ := hw.text_v k2
              refine .text _ (by rw [ByteArray.size_append]; omega) ?_
              rw [ByteArray.data_append, Array.toList_append]
              exact qFB _ _ _ (Nat.le_refl _) a2 b2
        · exact .null
      · split
        · unfold reckF
          split
          · split
            · exact .null
            · exact reckN_gd _ _ _
          · exact .null
        · unfold compF
          split
          · exact .null
          · split
            · exact (truI_gd (by have := cmpT_in op v w; omega)).1
            · exact .null
theorem evF_gd {cols : List Cl} {row : List Vl} (hr : ∀ v ∈ row, Gd v) : ∀ {x : Ex}, x.ok → Gd (evF cols row x).v
  | .lit v, h => h.1
  | .col n, h => by
    unfold evF
    split
    · split
      · rename_i v hv; exact hr v (List.mem_of_getElem? hv)
      · exact .null
    · exact .null
  | .un op a, h => by
    have ih := evF_gd (cols := cols) hr (x := a) h.2
    unfold evF
    split
    · exact oneF_gd op ih
    · exact .null
  | .bi op a b, h => by
    have ih := evF_gd (cols := cols) hr (x := a) h.2.1
    have ih' := evF_gd (cols := cols) hr (x := b) h.2.2
    unfold evF
    split
    · split
      · exact ih
      · split
        · exact twoF_gd op ih ih'
        · exact .null
    · exact .null
end Go.Proofs.YtpaccaojgbfjdaaDoor


/-
  value.asked, Less, Equal, of any two values that may be; value.And, Or, Not of truths. No condition but that the values may be.
-/
namespace Go.Proofs.YtpaccaojgbfjdaaDoor
open Go.RowKit

section
variable {P : Program} {dst : Option Nat} {ty : TypeId} {e : Operand → A} {β : Bx} {T T' : TypeId} {x y : Operand}
theorem does_max {ts : Array TypeId} {a b : Int} (hx : e x = .d (iD a)) (hy : e y = .d (iD b)) : Does P dst (.call { callee := .builtin .max, args := #[x, y], argTypes := ts }) ty e β (.d (iD (if a < b then b else a))) [] [] :=
  Does.of_run fun C γ _ ρ I w _ ac hops o ho _ => by
    have h1 := (hops x (by simp [Op.operands, Call.operands])).2
    have h2 := (hops y (by simp [Op.operands, Call.operands])).2
    rw [hx] at h1
    rw [hy] at h2
    have h1 := qBv h1
    have h2 := qBv h2
    refine ⟨.int .i64 (if a < b then b else a), ?_, trivial, rfl, rfl⟩
    simp [execOp, ho, resolve, invoke, builtin, Sem.run_bind, h1, h2, Builtin.max_, Builtin.max2]
end
theorem less1_pc (c : Int) : PC Tryd.prog 151 [iD c] (bD (decide (c < 0))) := by
  refine qAs Tryd.func151 rfl (by kernel_rfl) mixed (by kernel_rfl) (qle (by kernel_rfl)) Tryd.results151 ?_
  repeat (first | (with_reducible first | apply qAj | apply qAi | apply qAh | apply qAf | apply qAu | apply qAz) | ((with_reducible apply rp); first | ((with_reducible apply qAd); (conv => lhs; whnf)) | ((with_reducible apply qAa); (conv => lhs; whnf)) | ((with_reducible apply qAN); eq_refl; eq_refl)))
  (with_reducible apply qAA); (focus (repeat' (first | (with_reducible apply qAv) | (with_reducible apply qAq) | ((with_reducible apply qAD); eq_refl)))); eq_refl; refine SubD.of_eq ?_
  rfl
theorem equal1_pc (c : Int) : PC Tryd.prog 152 [iD c] (bD (c == 0)) := by
  refine qAs Tryd.func152 rfl (by kernel_rfl) mixed (by kernel_rfl) (qle (by kernel_rfl)) Tryd.results152 ?_
  repeat (first | (with_reducible first | apply qAj | apply qAi | apply qAh | apply qAf | apply qAu | apply qAz) | ((with_reducible apply rp); first | ((with_reducible apply qAd); (conv => lhs; whnf)) | ((with_reducible apply qAa); (conv => lhs; whnf)) | ((with_reducible apply qAr); eq_refl; eq_refl)))
  (with_reducible apply qAA); (focus (repeat' (first | (with_reducible apply qAv) | (with_reducible apply qAq) | ((with_reducible apply qAD); eq_refl)))); eq_refl; refine SubD.of_eq ?_
  rfl
def askT (g : Bool) (a b : Vl) : Int := if a.k = 0 ∨ b.k = 0 then 1 else if a.k = b.k then yesI g else 0
def askE (a b : Vl) : Nat := if a.k = 0 ∨ b.k = 0 then 0 else if a.k = b.k then 0 else 2
theorem asked_px (F : Nat) (g : Bool) {a b : Vl} (ha : Gd a) (hb : Gd b) (hf : PC Tryd.prog F [iD (ordV a b)] (bD g)) :
    PX Tryd.prog 150 [.d (.ag a.cs), .d (.ag b.cs), .fn (.func F) [] []] [] [] (.tu [iD (askT g a b), iD (askE a b)]) [] [] := by
  have c1 := both_pc a b (Nat.le_trans ha.size (by omega)) (Nat.le_trans hb.size (by omega)) ha.chk hb.chk
  have c2 := order_pc a b
  unfold askT askE
  by_cases h0 : a.k = 0 ∨ b.k = 0
  · rw [if_pos h0, if_pos h0]
    have h1 : (a.k == 0 || b.k == 0) = true := by simpa using h0
    clear ha hb c2 hf h0
    generalize ordV a b = z at *
    obtain ⟨ak, an, ab, at_⟩ := a
    obtain ⟨bk, bn, bb, bt⟩ := b
    unfold Vl.cs at *
    dsimp only at *
    refine px_of_aw Tryd.func150 rfl (by kernel_rfl) mixed (by kernel_rfl) (qle (by kernel_rfl)) Tryd.results150 rfl ?_
    repeat (first | (with_reducible first | apply qAj | apply qAi | apply qAh | apply qAf | apply qAm) | ((first | (with_reducible apply rp) | ((with_reducible apply rpG); eq_refl; exact qAP rfl; (focus repeat' (first | exact trivial | exact id | apply And.intro)); intro zg; have zh := zg; (try simp only [zs1, zs2, zs3, zs4] at zg))); first | ((with_reducible apply qAg); eq_refl; eq_refl; exact (c1); eq_refl) | ((with_reducible first | apply qAd | apply qAa); (conv => lhs; whnf)) | ((with_reducible first | apply qAJ | apply qAc | apply qAe | apply qAr | apply qAU) <;> first | ((with_reducible apply tyOk); eq_refl) | eq_refl | exact id | decide) | ((with_reducible apply qAl); exact tyOk rfl; (iterate 3 eq_refl); exact qle rfl; eq_refl)) | ((with_reducible apply rp1); ((with_reducible apply qAp); eq_refl; eq_refl)) | ((with_reducible apply qA6); eq_refl; eq_refl))
    refine qAn rfl (fun _ => ?_) (fun h => absurd (h1.symm.trans h) (by decide))
    repeat (first | (with_reducible first | apply qAj | apply qAi | apply qAh | apply qAf | apply qAu | apply qAS | apply xe_ret) | ((with_reducible apply rp); ((with_reducible apply qAa); (conv => lhs; whnf))))
    (with_reducible apply retx_ok (l := [])); (focus (repeat' (first | (with_reducible apply qAv) | (with_reducible apply qAq) | ((with_reducible apply qAD); eq_refl)))); eq_refl; exact SubD.refl _; refine ⟨(by repeat' exact qAG), (by repeat' exact trivial), rfl, insS rfl, (by repeat' exact trivial)⟩
  · rw [if_neg h0, if_neg h0]
    have h1 : (a.k == 0 || b.k == 0) = false := by simpa using h0
    by_cases hk : a.k = b.k
    · rw [if_pos hk, if_pos hk]
      have h2 : (a.k != b.k) = false := by rw [hk]; simp
      clear ha hb h0 hk
      generalize ordV a b = z at *
      obtain ⟨ak, an, ab, at_⟩ := a
      obtain ⟨bk, bn, bb, bt⟩ := b
      unfold Vl.cs at *
      dsimp only at *
      refine px_of_aw Tryd.func150 rfl (by kernel_rfl) mixed (by kernel_rfl) (qle (by kernel_rfl)) Tryd.results150 rfl ?_
      repeat (first | (with_reducible first | apply qAj | apply qAi | apply qAh | apply qAf | apply qAm) | ((first | (with_reducible apply rp) | ((with_reducible apply rpG); eq_refl; exact qAP rfl; (focus repeat' (first | exact trivial | exact id | apply And.intro)); intro zg; have zh := zg; (try simp only [zs1, zs2, zs3, zs4] at zg))); first | ((with_reducible apply qAg); eq_refl; eq_refl; exact (c1); eq_refl) | ((with_reducible first | apply qAd | apply qAa); (conv => lhs; whnf)) | ((with_reducible first | apply qAJ | apply qAc | apply qAe | apply qAr | apply qAU) <;> first | ((with_reducible apply tyOk); eq_refl) | eq_refl | exact id | decide) | ((with_reducible apply qAl); exact tyOk rfl; (iterate 3 eq_refl); exact qle rfl; eq_refl)) | ((with_reducible apply rp1); ((with_reducible apply qAp); eq_refl; eq_refl)) | ((with_reducible apply qA6); eq_refl; eq_refl))
      refine qAn rfl (fun h => absurd (h1.symm.trans h) (by decide)) (fun h => ?_)
      repeat (first | (with_reducible first | apply qAj | apply qAi | apply qAh | apply qAf | apply qAm) | ((with_reducible apply rp); first | ((with_reducible apply qAc); exact tyOk rfl; eq_refl; eq_refl; decide; eq_refl) | ((with_reducible apply qAe); exact tyOk rfl; (iterate 4 eq_refl)) | ((with_reducible apply qAU); eq_refl; eq_refl)))
      refine qAn rfl (fun h => absurd (h2.symm.trans h) (by decide)) (fun h => ?_)
      repeat (first | (with_reducible first | apply qAj | apply qAi | apply qAh | apply qAf | apply qAm) | ((with_reducible apply rp); first | ((with_reducible apply qAg); eq_refl; eq_refl; exact (c2); eq_refl) | ((with_reducible apply qAg); eq_refl; eq_refl; exact (hf); eq_refl) | ((with_reducible apply qAd); (conv => lhs; whnf)) | ((with_reducible apply qAl); exact tyOk rfl; (iterate 3 eq_refl); exact qle rfl; eq_refl)))
      cases g with
      | true =>
        refine qAn rfl (fun _ => ?_) (fun h => (by cases h))
        repeat (first | (with_reducible first | apply qAj | apply qAi | apply qAh | apply qAf | apply qAu | apply qAS | apply xe_ret) | ((with_reducible apply rp); ((with_reducible apply qAa); (conv => lhs; whnf))))
        (with_reducible apply retx_ok (l := [])); (focus (repeat' (first | (with_reducible apply qAv) | (with_reducible apply qAq) | ((with_reducible apply qAD); eq_refl)))); eq_refl; exact SubD.refl _; refine ⟨(by repeat' exact qAG), (by repeat' exact trivial), rfl, insS rfl, (by repeat' exact trivial)⟩
      | false =>
        refine qAn rfl (fun h => (by cases h)) (fun _ => ?_)
        repeat (first | (with_reducible first | apply qAj | apply qAi | apply qAh | apply qAf | apply qAu | apply xe_ret | apply qAm) | ((with_reducible apply rp); ((with_reducible apply qAa); (conv => lhs; whnf))))
        (with_reducible apply retx_ok (l := [])); (focus (repeat' (first | (with_reducible apply qAv) | (with_reducible apply qAq) | ((with_reducible apply qAD); eq_refl)))); eq_refl; exact SubD.refl _; refine ⟨(by repeat' exact qAG), (by repeat' exact trivial), rfl, insS rfl, (by repeat' exact trivial)⟩
    · rw [if_neg hk, if_neg hk]
      have h2 : (a.k != b.k) = true := by simpa using hk
      clear ha hb h0 hk c2 hf
      generalize ordV a b = z at *
      obtain ⟨ak, an, ab, at_⟩ := a
      obtain ⟨bk, bn, bb, bt⟩ := b
      unfold Vl.cs at *
      dsimp only at *
      refine px_of_aw Tryd.func150 rfl (by kernel_rfl) mixed (by kernel_rfl) (qle (by kernel_rfl)) Tryd.results150 rfl ?_
      repeat (first | (with_reducible first | apply qAj | apply qAi | apply qAh | apply qAf | apply qAm) | ((first | (with_reducible apply rp) | ((with_reducible apply rpG); eq_refl; exact qAP rfl; (focus repeat' (first | exact trivial | exact id | apply And.intro)); intro zg; have zh := zg; (try simp only [zs1, zs2, zs3, zs4] at zg))); first | ((with_reducible apply qAg); eq_refl; eq_refl; exact (c1); eq_refl) | ((with_reducible first | apply qAd | apply qAa); (conv => lhs; whnf)) | ((with_reducible first | apply qAJ | apply qAc | apply qAe | apply qAr | apply qAU) <;> first | ((with_reducible apply tyOk); eq_refl) | eq_refl | exact id | decide) | ((with_reducible apply qAl); exact tyOk rfl; (iterate 3 eq_refl); exact qle rfl; eq_refl)) | ((with_reducible apply rp1); ((with_reducible apply qAp); eq_refl; eq_refl)) | ((with_reducible apply qA6); eq_refl; eq_refl))
      refine qAn rfl (fun h => absurd (h1.symm.trans h) (by decide)) (fun h => ?_)
      repeat (first | (with_reducible first | apply qAj | apply qAi | apply qAh | apply qAf | apply qAm) | ((with_reducible apply rp); first | ((with_reducible apply qAc); exact tyOk rfl; eq_refl; eq_refl; decide; eq_refl) | ((with_reducible apply qAe); exact tyOk rfl; (iterate 4 eq_refl)) | ((with_reducible apply qAU); eq_refl; eq_refl)))
      refine qAn rfl (fun _ => ?_) (fun h => absurd (h2.symm.trans h) (by decide))
      repeat (first | (with_reducible first | apply qAj | apply qAi | apply qAh | apply qAf | apply qAu | apply qAS | apply xe_ret) | ((with_reducible apply rp); ((with_reducible apply qAa); (conv => lhs; whnf))))
      (with_reducible apply retx_ok (l := [])); (focus (repeat' (first | (with_reducible apply qAv) | (with_reducible apply qAq) | ((with_reducible apply qAD); eq_refl)))); eq_refl; exact SubD.refl _; refine ⟨(by repeat' exact qAG), (by repeat' exact trivial), rfl, insS rfl, (by repeat' exact trivial)⟩
theorem less_pc {a b : Vl} (ha : Gd a) (hb : Gd b) : PC Tryd.prog 146 [.ag a.cs, .ag b.cs] (.tu [iD (askT (decide (ordV a b < 0)) a b), iD (askE a b)]) := by
  have p1 := asked_px _ _ ha hb (less1_pc (ordV a b))
  generalize askT (decide (ordV a b < 0)) a b = y at *
  generalize askE a b = z at *
  clear ha hb
  obtain ⟨ak, an, ab, at_⟩ := a
  obtain ⟨bk, bn, bb, bt⟩ := b
  unfold Vl.cs at *
  refine qAs Tryd.func146 rfl (by kernel_rfl) mixed (by kernel_rfl) (qle (by kernel_rfl)) Tryd.results146 ?_
  repeat (first | (with_reducible first | apply qAj | apply qAi | apply qAh | apply qAf | apply qAu | apply qAz) | ((with_reducible apply rp); first | ((with_reducible apply qAa); (conv => lhs; whnf)) | ((with_reducible apply qAl); exact tyOk rfl; (iterate 3 eq_refl); exact qle rfl; eq_refl) | ((with_reducible apply qAt); eq_refl; eq_refl)) | ((with_reducible apply rp1); ((with_reducible apply qAp); eq_refl; eq_refl)) | ((with_reducible apply rpL); (refine qAC [] [] (ups := []) rfl (p1) rfl (kpX rfl) rfl (insX rfl) (insQ rfl) rfl rfl rfl rfl rfl (insX rfl) rfl rfl); exact qAB _))
  (with_reducible apply qAA); (focus (repeat' (first | (with_reducible apply qAv) | (with_reducible apply qAq) | ((with_reducible apply qAD); eq_refl)))); eq_refl; refine SubD.of_eq ?_
  rfl
theorem equal_pc {a b : Vl} (ha : Gd a) (hb : Gd b) : PC Tryd.prog 147 [.ag a.cs, .ag b.cs] (.tu [iD (askT (ordV a b == 0) a b), iD (askE a b)]) := by
  have p1 := asked_px _ _ ha hb (equal1_pc (ordV a b))
  generalize askT (ordV a b == 0) a b = y at *
  generalize askE a b = z at *
  clear ha hb
  obtain ⟨ak, an, ab, at_⟩ := a
  obtain ⟨bk, bn, bb, bt⟩ := b
  unfold Vl.cs at *
  refine qAs Tryd.func147 rfl (by kernel_rfl) mixed (by kernel_rfl) (qle (by kernel_rfl)) Tryd.results147 ?_
  repeat (first | (with_reducible first | apply qAj | apply qAi | apply qAh | apply qAf | apply qAu | apply qAz) | ((with_reducible apply rp); first | ((with_reducible apply qAa); (conv => lhs; whnf)) | ((with_reducible apply qAl); exact tyOk rfl; (iterate 3 eq_refl); exact qle rfl; eq_refl) | ((with_reducible apply qAt); eq_refl; eq_refl)) | ((with_reducible apply rp1); ((with_reducible apply qAp); eq_refl; eq_refl)) | ((with_reducible apply rpL); (refine qAC [] [] (ups := []) rfl (p1) rfl (kpX rfl) rfl (insX rfl) (insQ rfl) rfl rfl rfl rfl rfl (insX rfl) rfl rfl); exact qAB _))
  (with_reducible apply qAA); (focus (repeat' (first | (with_reducible apply qAv) | (with_reducible apply qAq) | ((with_reducible apply qAD); eq_refl)))); eq_refl; refine SubD.of_eq ?_
  rfl
theorem tru_pc (l : List Int) (hl : l.length ≤ 1000) (h : ∀ t ∈ l, 0 ≤ t ∧ t ≤ 2) : PC Tryd.prog 149 [.sl 1 (l.map fun t => [iD t])] (iD 0) := by
  refine qAs Tryd.func149 rfl (by kernel_rfl) mixed (by kernel_rfl) (qle (by kernel_rfl)) Tryd.results149 ?_
  repeat (first | (with_reducible first | apply qAj | apply qAi | apply qAh | apply qAf | apply qAo) | ((with_reducible apply rp); first | ((with_reducible apply qAd); (conv => lhs; whnf)) | ((with_reducible apply qAa); (conv => lhs; whnf)) | ((with_reducible apply qA7); exact tyOk rfl; eq_refl; eq_refl)))
  refine qBf (fun m s => ∃ k, k ≤ l.length ∧ m = l.length - k ∧ s = ⟨[(5, .d (.sl 1 (l.map fun t => [iD t]))), (6, .d (iD l.length)), (7, .d (iD k))], []⟩) _ _ ?_ ⟨0, by omega, rfl, rfl⟩ ?_
  · refine qAw [] (by repeat' (first | exact qAG | (refine qAx rfl (by exact SubA.refl _) ?_))) (kpX rfl) rfl (insS rfl) (insX rfl)
  · rintro m s ⟨k, hk, rfl, rfl⟩
    repeat (first | (with_reducible first | apply qAj | apply qAi | apply qAh | apply qAf) | ((with_reducible apply rp); ((with_reducible apply qAN); eq_refl; eq_refl)))
    refine qAn rfl (fun hd => ?_) (fun hd => ?_)
    · have hlt : k < l.length := by simp at hd; omega
      clear hd
      obtain ⟨t, ht⟩ : ∃ t, l[k]? = some t := ⟨_, List.getElem?_eq_getElem hlt⟩
      have ht2 : (l.map fun t => [iD t])[k]? = some [iD t] := by rw [List.getElem?_map, ht]; rfl
      have h1 := h t (List.mem_of_getElem? ht)
      repeat (first | (with_reducible first | apply qAj | apply qAi | apply qAh | apply qAf | apply qAo | apply qAF | apply qAm) | ((first | (with_reducible apply rp) | ((with_reducible apply rpG); eq_refl; exact qAP rfl; (focus repeat' (first | exact trivial | exact id | apply And.intro)); intro zg; have zh := zg; (try simp only [zs1, zs2, zs3, zs4] at zg))); first | ((with_reducible first | apply qAd | apply qAa); (conv => lhs; whnf)) | ((with_reducible first | apply qAJ | apply qAN | apply qBH) <;> first | eq_refl | exact id) | ((with_reducible apply qBp); exact tyOk rfl; eq_refl; eq_refl; assumption; eq_refl) | ((with_reducible apply qAH); exact tyOk rfl; eq_refl; exact tyOk rfl; (iterate 4 eq_refl); (simp only [List.length_map, List.length_append, List.length_cons, List.length_nil] at *; omega)) | ((with_reducible apply qAI); eq_refl; eq_refl; omega; omega)) | ((with_reducible apply qAn); eq_refl; (focus (intro hd; (exfalso; simp at hd; omega))); (intro hd; clear hd)))
      refine ⟨_, _, ?_, ?_, k + 1, by omega, rfl, rfl⟩
      · omega
      · refine qAw [] (by repeat' (first | exact qAG | (refine qAx rfl (by exact SubA.refl _) ?_))) (kpX rfl) rfl (insS rfl) (insX rfl)
    · have hke : k = l.length := by simp at hd; omega
      clear hd
      subst hke
      repeat (first | (with_reducible first | apply qAj | apply qAi | apply qAh | apply qAf | apply qA5 | apply qA9 | apply qA8 | apply qAu | apply qAz) | ((with_reducible apply rp); ((with_reducible apply qAa); (conv => lhs; whnf))))
      (with_reducible apply qAA); (focus (repeat' (first | (with_reducible apply qAv) | (with_reducible apply qAq) | ((with_reducible apply qAD); eq_refl)))); eq_refl; refine SubD.of_eq ?_
      rfl
theorem and_pc (a b : Int) (ha : 0 ≤ a ∧ a ≤ 2) (hb : 0 ≤ b ∧ b ≤ 2) : PC Tryd.prog 143 [iD a, iD b] (.tu [iD (if b < a then b else a), iD 0]) := by
  have t1 := tru_pc [a, b] (by simp) (by intro t ht; simp at ht; rcases ht with rfl | rfl <;> assumption)
  simp only [List.map_cons, List.map_nil] at t1
  refine qAs Tryd.func143 rfl (by kernel_rfl) mixed (by kernel_rfl) (qle (by kernel_rfl)) Tryd.results143 ?_
  repeat (first | (with_reducible first | apply qAj | apply qAi | apply qAh | apply qAf | apply qAu | apply qAz | apply qAm) | ((with_reducible apply rp); first | ((with_reducible apply qAg); eq_refl; eq_refl; exact (t1); eq_refl) | (exact does_min rfl rfl) | ((with_reducible apply qAd); (conv => lhs; whnf)) | ((with_reducible apply qAa); (conv => lhs; whnf)) | ((with_reducible apply qAU); eq_refl; eq_refl)) | ((with_reducible apply rp1); ((with_reducible apply qA2); exact tyOk rfl; eq_refl; exact tyOk rfl; eq_refl; eq_refl; (focus repeat' (first | exact trivial | refine And.intro rfl (And.intro rfl ?_))); decide; decide; eq_refl)) | ((with_reducible apply qA6); eq_refl; eq_refl))
  (with_reducible apply qAA); (focus (repeat' (first | (with_reducible apply qAv) | (with_reducible apply qAq) | ((with_reducible apply qAD); eq_refl)))); eq_refl; refine SubD.of_eq ?_
  rfl
theorem or_pc (a b : Int) (ha : 0 ≤ a ∧ a ≤ 2) (hb : 0 ≤ b ∧ b ≤ 2) : PC Tryd.prog 144 [iD a, iD b] (.tu [iD (if a < b then b else a), iD 0]) := by
  have t1 := tru_pc [a, b] (by simp) (by intro t ht; simp at ht; rcases ht with rfl | rfl <;> assumption)
  simp only [List.map_cons, List.map_nil] at t1
  refine qAs Tryd.func144 rfl (by kernel_rfl) mixed (by kernel_rfl) (qle (by kernel_rfl)) Tryd.results144 ?_
  repeat (first | (with_reducible first | apply qAj | apply qAi | apply qAh | apply qAf | apply qAu | apply qAz | apply qAm) | ((with_reducible apply rp); first | ((with_reducible apply qAg); eq_refl; eq_refl; exact (t1); eq_refl) | (exact does_max rfl rfl) | ((with_reducible apply qAd); (conv => lhs; whnf)) | ((with_reducible apply qAa); (conv => lhs; whnf)) | ((with_reducible apply qAU); eq_refl; eq_refl)) | ((with_reducible apply rp1); ((with_reducible apply qA2); exact tyOk rfl; eq_refl; exact tyOk rfl; eq_refl; eq_refl; (focus repeat' (first | exact trivial | refine And.intro rfl (And.intro rfl ?_))); decide; decide; eq_refl)) | ((with_reducible apply qA6); eq_refl; eq_refl))
  (with_reducible apply qAA); (focus (repeat' (first | (with_reducible apply qAv) | (with_reducible apply qAq) | ((with_reducible apply qAD); eq_refl)))); eq_refl; refine SubD.of_eq ?_
  rfl
theorem not_pc (a : Int) (ha : 0 ≤ a ∧ a ≤ 2) : PC Tryd.prog 148 [iD a] (.tu [iD (2 - a), iD 0]) := by
  have t1 := tru_pc [a] (by simp) (by intro t ht; simp at ht; subst ht; exact ha)
  simp only [List.map_cons, List.map_nil] at t1
  obtain ⟨n, hn⟩ : ∃ n : Nat, a = n := ⟨a.toNat, by omega⟩
  subst hn
  refine qAs Tryd.func148 rfl (by kernel_rfl) mixed (by kernel_rfl) (qle (by kernel_rfl)) Tryd.results148 ?_
  repeat (first | (with_reducible first | apply qAj | apply qAi | apply qAh | apply qAf | apply qAu | apply qAz | apply qAm) | ((with_reducible apply rp); first | ((with_reducible apply qAg); eq_refl; eq_refl; exact (t1); eq_refl) | ((with_reducible apply qAd); (conv => lhs; whnf)) | ((with_reducible apply qAa); (conv => lhs; whnf)) | ((with_reducible apply qAU); eq_refl; eq_refl) | ((with_reducible apply qCK); eq_refl; eq_refl; omega; omega)) | ((with_reducible apply rp1); ((with_reducible apply qA2); exact tyOk rfl; eq_refl; exact tyOk rfl; eq_refl; eq_refl; (focus repeat' (first | exact trivial | refine And.intro rfl (And.intro rfl ?_))); decide; decide; eq_refl)) | ((with_reducible apply qA6); eq_refl; eq_refl))
  (with_reducible apply qAA); (focus (repeat' (first | (with_reducible apply qAv) | (with_reducible apply qAq) | ((with_reducible apply qAD); eq_refl)))); eq_refl; refine SubD.of_eq ?_
  rfl
end Go.Proofs.YtpaccaojgbfjdaaDoor


/-
  chirograph/eval: what is done to one value and to two, as contracts. No condition but that the values may be.
-/
namespace Go.Proofs.YtpaccaojgbfjdaaDoor
open Go.RowKit
open Go.Lib

abbrev tvD (t : Tv) : D := .tu [.ag t.v.cs, iD t.e]
theorem qDo (t : Int) (h : t = 0 ∨ t = 1 ∨ t = 2) : PC Tryd.prog 133 [iD t] (.ag (truI t).cs) := by
  rcases h with rfl | rfl | rfl
  · refine qAs Tryd.func133 rfl (by kernel_rfl) mixed (by kernel_rfl) (qle (by kernel_rfl)) Tryd.results133 ?_
    repeat (first | (with_reducible first | apply qAj | apply qAi | apply qAh | apply qAf | apply qAu | apply qAz | apply qAm) | ((with_reducible apply rp); first | ((with_reducible apply qAd); (conv => lhs; whnf)) | ((with_reducible apply qAr); eq_refl; eq_refl) | ((with_reducible apply qDF); eq_refl; eq_refl; omega) | ((with_reducible apply qAR); exact tyOk rfl; eq_refl; eq_refl; (focus repeat' (first | eq_refl | refine ⟨_, _, rfl, rfl, qle rfl, rfl, ?_⟩)); eq_refl)) | ((with_reducible apply rp1); ((with_reducible apply qAk); exact tyOk rfl; eq_refl)) | ((with_reducible apply rpN); ((with_reducible apply qAb); exact tyOk rfl; (iterate 5 eq_refl))) | ((with_reducible apply qA6); eq_refl; eq_refl))
    (with_reducible apply qAA); (focus (repeat' (first | (with_reducible apply qAv) | (with_reducible apply qAq) | ((with_reducible apply qAy); eq_refl; eq_refl; exact tyOk rfl; eq_refl; eq_refl)))); eq_refl; refine SubD.of_eq ?_
    rfl
  · refine qAs Tryd.func133 rfl (by kernel_rfl) mixed (by kernel_rfl) (qle (by kernel_rfl)) Tryd.results133 ?_
    repeat (first | (with_reducible first | apply qAj | apply qAi | apply qAh | apply qAf | apply qAu | apply qAS | apply qAz) | ((with_reducible apply rp); first | ((with_reducible apply qAd); (conv => lhs; whnf)) | ((with_reducible apply qAr); eq_refl; eq_refl) | ((with_reducible apply qAV); exact tyOk rfl; eq_refl; eq_refl)) | ((with_reducible apply rp1); ((with_reducible apply qAk); exact tyOk rfl; eq_refl)) | ((with_reducible apply rpN); ((with_reducible apply qAb); exact tyOk rfl; (iterate 5 eq_refl))) | ((with_reducible apply qBq); eq_refl; eq_refl))
    (with_reducible apply qAA); (focus (repeat' (first | (with_reducible apply qAv) | (with_reducible apply qAq) | ((with_reducible apply qAy); eq_refl; eq_refl; exact tyOk rfl; eq_refl; eq_refl)))); eq_refl; refine SubD.of_eq ?_
    rfl
  · refine qAs Tryd.func133 rfl (by kernel_rfl) mixed (by kernel_rfl) (qle (by kernel_rfl)) Tryd.results133 ?_
    repeat (first | (with_reducible first | apply qAj | apply qAi | apply qAh | apply qAf | apply qAu | apply qAz | apply qAm) | ((with_reducible apply rp); first | ((with_reducible apply qAd); (conv => lhs; whnf)) | ((with_reducible apply qAr); eq_refl; eq_refl) | ((with_reducible apply qDF); eq_refl; eq_refl; omega) | ((with_reducible apply qAR); exact tyOk rfl; eq_refl; eq_refl; (focus repeat' (first | eq_refl | refine ⟨_, _, rfl, rfl, qle rfl, rfl, ?_⟩)); eq_refl)) | ((with_reducible apply rp1); ((with_reducible apply qAk); exact tyOk rfl; eq_refl)) | ((with_reducible apply rpN); ((with_reducible apply qAb); exact tyOk rfl; (iterate 5 eq_refl))) | ((with_reducible apply qA6); eq_refl; eq_refl))
    (with_reducible apply qAA); (focus (repeat' (first | (with_reducible apply qAv) | (with_reducible apply qAq) | ((with_reducible apply qAy); eq_refl; eq_refl; exact tyOk rfl; eq_refl; eq_refl)))); eq_refl; refine SubD.of_eq ?_
    rfl
theorem qCG (n : Int) : PC Tryd.prog 134 [iD n] (.ag (numV n).cs) := by
  refine qAs Tryd.func134 rfl (by kernel_rfl) mixed (by kernel_rfl) (qle (by kernel_rfl)) Tryd.results134 ?_
  repeat (first | (with_reducible first | apply qAj | apply qAi | apply qAh | apply qAf | apply qAu | apply qAz) | ((with_reducible apply rp); first | ((with_reducible apply qAd); (conv => lhs; whnf)) | ((with_reducible apply qAR); exact tyOk rfl; eq_refl; eq_refl; (focus repeat' (first | eq_refl | refine ⟨_, _, rfl, rfl, qle rfl, rfl, ?_⟩)); eq_refl)) | ((with_reducible apply rp1); ((with_reducible apply qAk); exact tyOk rfl; eq_refl)) | ((with_reducible apply rpN); ((with_reducible apply qAb); exact tyOk rfl; (iterate 5 eq_refl))))
  (with_reducible apply qAA); (focus (repeat' (first | (with_reducible apply qAv) | (with_reducible apply qAq) | ((with_reducible apply qAy); eq_refl; eq_refl; exact tyOk rfl; eq_refl; eq_refl)))); eq_refl; refine SubD.of_eq ?_
  rfl
theorem runes_pc (s : ByteArray) (hs : s.size ≤ 1000000) : PC Tryd.prog 135 [strD s] (iD (runeN s)) := by
  have hz := sz_eq s
  refine qAs Tryd.func135 rfl (by kernel_rfl) mixed (by kernel_rfl) (qle (by kernel_rfl)) Tryd.results135 ?_
  repeat (first | (with_reducible first | apply qAj | apply qAi | apply qAh | apply qAf | apply qAo) | ((with_reducible apply rp); first | ((with_reducible apply qAd); (conv => lhs; whnf)) | ((with_reducible apply qAa); (conv => lhs; whnf))) | ((with_reducible apply rp1); (exact does_range (tyOk rfl) rfl rfl rfl)))
  refine qBf (fun m st => ∃ pos n : Nat, m = s.size + 1 - pos ∧ n ≤ pos ∧ n + qDD s.size (s.data.toList.drop pos) = runeN s ∧ st = ⟨[(2, .d (iD n)), (4, .px 4 0)], [(4, .itr s pos)]⟩) _ _ ?_ ⟨0, 0, rfl, Nat.le_refl _, by rw [Nat.zero_add]; rfl, rfl⟩ ?_
  · refine qAw [] (by repeat' (first | exact qAG | (refine qAx rfl (by exact SubA.refl _) ?_))) (kpX rfl) rfl (insS rfl) (insX rfl)
  · rintro m st ⟨pos, n, rfl, h1, h2, rfl⟩
    by_cases hp : pos < s.size
    · have hw := decode_w s pos
      have hne : s.data.toList.drop pos ≠ [] := by
        intro h0
        have := congrArg List.length h0
        rw [List.length_drop, ← hz] at this
        simp at this
        omega
      have h3 : n + 1 + qDD s.size (s.data.toList.drop (pos + (Utf8.decode s pos).2)) = runeN s := by
        rw [← h2]
        obtain ⟨f, hf⟩ : ∃ f, s.size = f + 1 := ⟨s.size - 1, by omega⟩
        have e1 : qDD s.size (s.data.toList.drop pos) = qDD f ((s.data.toList.drop pos).drop (decodeL (s.data.toList.drop pos)).2) + 1 := by rw [hf, qDD, if_neg hne]
        rw [e1, decodeL_drop, List.drop_drop, qFq s.size f _ (by rw [List.length_drop]; omega) (by rw [List.length_drop]; omega)]
        omega
      have hd := fun (P : Program) (dst : Option Nat) (ty : TypeId) (x : Operand) (e : Operand → A) (β : Bx) id (hx : e x = .px id 0) (hl : look id β = some (.itr s pos)) => does_next (P := P) (dst := dst) (ty := ty) hx hl hp
      generalize (Utf8.decode s pos).1 = c at *
      generalize (Utf8.decode s pos).2 = wd at *
      repeat (first | (with_reducible first | apply qAj | apply qAi | apply qAh | apply qAf) | ((with_reducible apply rp); ((with_reducible apply qAt); eq_refl; eq_refl)) | ((with_reducible apply rp1); (exact hd _ _ _ _ _ _ _ rfl rfl)))
      refine qAn rfl (fun _ => ?_) (fun h => (by cases h))
      repeat (first | (with_reducible first | apply qAi | apply qAh | apply qAf | apply qAo | apply qAF | apply qAm) | ((with_reducible apply rp); first | (exact qBE (z := ((n + 1 : Nat) : Int)) rfl rfl (by omega) (by omega) (by omega)) | ((with_reducible apply qAd); (conv => lhs; whnf)) | ((with_reducible apply qAa); (conv => lhs; whnf))))
      refine ⟨_, _, ?_, ?_, pos + wd, n + 1, rfl, by omega, h3, rfl⟩
      · omega
      · refine qAw [] (by repeat' (first | exact qAG | (refine qAx rfl (by exact SubA.refl _) ?_))) (kpX rfl) rfl (insS rfl) (insX rfl)
    · have h3 : n = runeN s := by
        rw [← h2, List.drop_eq_nil_of_le (by rw [← hz]; omega)]
        have : qDD s.size [] = 0 := by cases s.size <;> rfl
        rw [this]
        rfl
      repeat (first | (with_reducible first | apply qAj | apply qAi | apply qAh | apply qAf) | ((with_reducible apply rp); first | (exact qEx rfl rfl (by omega)) | ((with_reducible apply qAt); eq_refl; eq_refl)))
      refine qAn rfl (fun h => (by cases h)) (fun _ => ?_)
      repeat (first | (with_reducible first | apply qAj | apply qAi | apply qAh | apply qAf | apply qA5 | apply qA9 | apply qA8 | apply qAu | apply qAz) | ((with_reducible apply rp); first | ((with_reducible apply qAd); (conv => lhs; whnf)) | ((with_reducible apply qAa); (conv => lhs; whnf))))
      (with_reducible apply qAA); (focus (repeat' (first | (with_reducible apply qAv) | (with_reducible apply qAq) | ((with_reducible apply qAD); eq_refl)))); eq_refl; refine SubD.of_eq ?_
      rw [h3]
      rfl
set_option maxHeartbeats 2000000 in
theorem one_pc (op : Nat) (hop : un1 op) {v : Vl} (hv : Gd v) : PC Tryd.prog 132 [iD op, .ag v.cs] (tvD (oneF op v)) := by
  have t2 := qDo 2 (.inr (.inr rfl))
  have t0 := qDo 0 (.inl rfl)
  by_cases hk : v.k = 0
  · have e1 := hv.null_n hk
    subst e1
    rcases hop with rfl | rfl | rfl | rfl
    · refine qAs Tryd.func132 rfl (by kernel_rfl) mixed (by kernel_rfl) (qle (by kernel_rfl)) Tryd.results132 ?_
      repeat (first | (with_reducible first | apply qAj | apply qAi | apply qAh | apply qAf | apply qAo | apply qAF | apply qAu | apply qAS | apply qAz | apply qAm) | ((with_reducible apply rp); first | ((with_reducible apply qAd); (conv => lhs; whnf)) | ((with_reducible apply qAa); (conv => lhs; whnf)) | ((with_reducible apply qAc); exact tyOk rfl; eq_refl; eq_refl; decide; eq_refl) | ((with_reducible apply qAe); exact tyOk rfl; (iterate 4 eq_refl)) | ((with_reducible apply qAl); exact tyOk rfl; (iterate 3 eq_refl); exact qle rfl; eq_refl) | ((with_reducible apply qAr); eq_refl; eq_refl)) | ((with_reducible apply rp1); first | ((with_reducible apply qAp); eq_refl; eq_refl) | ((with_reducible apply qAk); exact tyOk rfl; eq_refl)) | ((with_reducible apply rpN); ((with_reducible apply qAb); exact tyOk rfl; (iterate 5 eq_refl))) | ((with_reducible apply qA6); eq_refl; eq_refl) | ((with_reducible apply qBq); eq_refl; eq_refl))
      (with_reducible apply qAA); (focus (repeat' (first | (with_reducible apply qAv) | (with_reducible apply qAq) | ((with_reducible apply qAD); eq_refl) | ((with_reducible apply qAy); eq_refl; eq_refl; exact tyOk rfl; eq_refl; eq_refl)))); eq_refl; refine SubD.of_eq ?_
      rfl
    · refine qAs Tryd.func132 rfl (by kernel_rfl) mixed (by kernel_rfl) (qle (by kernel_rfl)) Tryd.results132 ?_
      repeat (first | (with_reducible first | apply qAj | apply qAi | apply qAh | apply qAf | apply qAo | apply qAF | apply qAu | apply qAS | apply qAz | apply qAm) | ((with_reducible apply rp); first | ((with_reducible apply qAd); (conv => lhs; whnf)) | ((with_reducible apply qAa); (conv => lhs; whnf)) | ((with_reducible apply qAc); exact tyOk rfl; eq_refl; eq_refl; decide; eq_refl) | ((with_reducible apply qAe); exact tyOk rfl; (iterate 4 eq_refl)) | ((with_reducible apply qAl); exact tyOk rfl; (iterate 3 eq_refl); exact qle rfl; eq_refl) | ((with_reducible apply qAr); eq_refl; eq_refl)) | ((with_reducible apply rp1); first | ((with_reducible apply qAp); eq_refl; eq_refl) | ((with_reducible apply qAk); exact tyOk rfl; eq_refl)) | ((with_reducible apply rpN); ((with_reducible apply qAb); exact tyOk rfl; (iterate 5 eq_refl))) | ((with_reducible apply qA6); eq_refl; eq_refl) | ((with_reducible apply qBq); eq_refl; eq_refl))
      (with_reducible apply qAA); (focus (repeat' (first | (with_reducible apply qAv) | (with_reducible apply qAq) | ((with_reducible apply qAD); eq_refl) | ((with_reducible apply qAy); eq_refl; eq_refl; exact tyOk rfl; eq_refl; eq_refl)))); eq_refl; refine SubD.of_eq ?_
      rfl
    · refine qAs Tryd.func132 rfl (by kernel_rfl) mixed (by kernel_rfl) (qle (by kernel_rfl)) Tryd.results132 ?_
      repeat (first | (with_reducible first | apply qAj | apply qAi | apply qAh | apply qAf | apply qAu | apply qAS | apply qAz) | ((with_reducible apply rp); first | ((with_reducible apply qAg); eq_refl; eq_refl; exact (t2); eq_refl) | ((with_reducible apply qAd); (conv => lhs; whnf)) | ((with_reducible apply qAa); (conv => lhs; whnf)) | ((with_reducible apply qAc); exact tyOk rfl; eq_refl; eq_refl; decide; eq_refl) | ((with_reducible apply qAe); exact tyOk rfl; (iterate 4 eq_refl)) | ((with_reducible apply qAr); eq_refl; eq_refl)) | ((with_reducible apply rp1); first | ((with_reducible apply qAp); eq_refl; eq_refl) | ((with_reducible apply qAk); exact tyOk rfl; eq_refl)) | ((with_reducible apply rpN); ((with_reducible apply qAb); exact tyOk rfl; (iterate 5 eq_refl))) | ((with_reducible apply qBq); eq_refl; eq_refl))
      (with_reducible apply qAA); (focus (repeat' (first | (with_reducible apply qAv) | (with_reducible apply qAq) | ((with_reducible apply qAD); eq_refl) | ((with_reducible apply qAy); eq_refl; eq_refl; exact tyOk rfl; eq_refl; eq_refl)))); eq_refl; refine SubD.of_eq ?_
      rfl
    · refine qAs Tryd.func132 rfl (by kernel_rfl) mixed (by kernel_rfl) (qle (by kernel_rfl)) Tryd.results132 ?_
      repeat (first | (with_reducible first | apply qAj | apply qAi | apply qAh | apply qAf | apply qAo | apply qAF | apply qAu | apply qAS | apply qAz | apply qAm) | ((with_reducible apply rp); first | ((with_reducible apply qAd); (conv => lhs; whnf)) | ((with_reducible apply qAa); (conv => lhs; whnf)) | ((with_reducible apply qAc); exact tyOk rfl; eq_refl; eq_refl; decide; eq_refl) | ((with_reducible apply qAe); exact tyOk rfl; (iterate 4 eq_refl)) | ((with_reducible apply qAl); exact tyOk rfl; (iterate 3 eq_refl); exact qle rfl; eq_refl) | ((with_reducible apply qAr); eq_refl; eq_refl)) | ((with_reducible apply rp1); first | ((with_reducible apply qAp); eq_refl; eq_refl) | ((with_reducible apply qAk); exact tyOk rfl; eq_refl)) | ((with_reducible apply rpN); ((with_reducible apply qAb); exact tyOk rfl; (iterate 5 eq_refl))) | ((with_reducible apply qA6); eq_refl; eq_refl) | ((with_reducible apply qBq); eq_refl; eq_refl))
      (with_reducible apply qAA); (focus (repeat' (first | (with_reducible apply qAv) | (with_reducible apply qAq) | ((with_reducible apply qAD); eq_refl) | ((with_reducible apply qAy); eq_refl; eq_refl; exact tyOk rfl; eq_refl; eq_refl)))); eq_refl; refine SubD.of_eq ?_
      rfl
  · have r1 := runes_pc v.t (by have := hv.size; omega)
    have n1 := qCG (runeN v.t)
    have n2 := qCG (w64 (0 - v.n))
    have hk2 : (v.k == 0) = false := beq_eq_false_iff_ne.2 hk
    clear hv
    obtain ⟨k, n, b, t⟩ := v
    dsimp only at *
    unfold Vl.cs
    dsimp only
    rcases hop with rfl | rfl | rfl | rfl
    · unfold oneF
      rw [if_neg (by decide), if_neg hk, if_neg (by decide), if_neg (by decide)]
      by_cases h2 : k = 2
      · subst h2
        rw [if_pos rfl]
        by_cases hm : n = -9223372036854775808
        · subst hm
          rw [if_pos rfl]
          refine qAs Tryd.func132 rfl (by kernel_rfl) mixed (by kernel_rfl) (qle (by kernel_rfl)) Tryd.results132 ?_
          repeat (first | (with_reducible first | apply qAj | apply qAi | apply qAh | apply qAf | apply qAo | apply qAF | apply qAu | apply qAS | apply qAz | apply qAm) | ((with_reducible apply rp); first | ((with_reducible apply qAd); (conv => lhs; whnf)) | ((with_reducible apply qAa); (conv => lhs; whnf)) | ((with_reducible apply qAc); exact tyOk rfl; eq_refl; eq_refl; decide; eq_refl) | ((with_reducible apply qAe); exact tyOk rfl; (iterate 4 eq_refl)) | ((with_reducible apply qAr); eq_refl; eq_refl) | ((with_reducible apply qAU); eq_refl; eq_refl) | ((with_reducible apply qAV); exact tyOk rfl; eq_refl; eq_refl)) | ((with_reducible apply rp1); first | ((with_reducible apply qAp); eq_refl; eq_refl) | ((with_reducible apply qAk); exact tyOk rfl; eq_refl)) | ((with_reducible apply rpN); ((with_reducible apply qAb); exact tyOk rfl; (iterate 5 eq_refl))) | ((with_reducible apply qA6); eq_refl; eq_refl) | ((with_reducible apply qBq); eq_refl; eq_refl))
          (with_reducible apply qAA); (focus (repeat' (first | (with_reducible apply qAv) | (with_reducible apply qAq) | ((with_reducible apply qAD); eq_refl) | ((with_reducible apply qAy); eq_refl; eq_refl; exact tyOk rfl; eq_refl; eq_refl)))); eq_refl; refine SubD.of_eq ?_
          rfl
        · rw [if_neg hm]
          refine qAs Tryd.func132 rfl (by kernel_rfl) mixed (by kernel_rfl) (qle (by kernel_rfl)) Tryd.results132 ?_
          repeat (first | (with_reducible first | apply qAj | apply qAi | apply qAh | apply qAf | apply qAo | apply qAF | apply qAu | apply qAz | apply qAm) | ((with_reducible apply rp); first | ((with_reducible apply qAg); eq_refl; eq_refl; exact (n2); eq_refl) | ((with_reducible apply qAd); (conv => lhs; whnf)) | ((with_reducible apply qAa); (conv => lhs; whnf)) | ((with_reducible apply qAc); exact tyOk rfl; eq_refl; eq_refl; decide; eq_refl) | ((with_reducible apply qAe); exact tyOk rfl; (iterate 4 eq_refl)) | ((with_reducible apply qAr); eq_refl; eq_refl) | ((with_reducible apply qAU); eq_refl; eq_refl) | ((with_reducible apply does_neg); eq_refl)) | ((with_reducible apply rp1); first | ((with_reducible apply qAp); eq_refl; eq_refl) | ((with_reducible apply qAk); exact tyOk rfl; eq_refl)) | ((with_reducible apply rpN); ((with_reducible apply qAb); exact tyOk rfl; (iterate 5 eq_refl))) | ((with_reducible apply qAn); eq_refl; (focus (intro hd; (first | (cases hd; done) | (exfalso; simp at hd; omega)))); (intro hd; clear hd)))
          (with_reducible apply qAA); (focus (repeat' (first | (with_reducible apply qAv) | (with_reducible apply qAq) | ((with_reducible apply qAD); eq_refl) | ((with_reducible apply qAy); eq_refl; eq_refl; exact tyOk rfl; eq_refl; eq_refl)))); eq_refl; refine SubD.of_eq ?_
          rfl
      · rw [if_neg h2]
        refine qAs Tryd.func132 rfl (by kernel_rfl) mixed (by kernel_rfl) (qle (by kernel_rfl)) Tryd.results132 ?_
        repeat (first | (with_reducible first | apply qAj | apply qAi | apply qAh | apply qAf | apply qAo | apply qAF | apply qAu | apply qAS | apply qAz | apply qAm) | ((with_reducible apply rp); first | ((with_reducible apply qAd); (conv => lhs; whnf)) | ((with_reducible apply qAa); (conv => lhs; whnf)) | ((with_reducible apply qAc); exact tyOk rfl; eq_refl; eq_refl; decide; eq_refl) | ((with_reducible apply qAe); exact tyOk rfl; (iterate 4 eq_refl)) | ((with_reducible apply qAr); eq_refl; eq_refl) | ((with_reducible apply qAU); eq_refl; eq_refl) | ((with_reducible apply qAV); exact tyOk rfl; eq_refl; eq_refl)) | ((with_reducible apply rp1); first | ((with_reducible apply qAp); eq_refl; eq_refl) | ((with_reducible apply qAk); exact tyOk rfl; eq_refl)) | ((with_reducible apply rpN); ((with_reducible apply qAb); exact tyOk rfl; (iterate 5 eq_refl))) | ((with_reducible apply qAn); eq_refl; (focus (intro hd; (first | (cases hd; done) | (exfalso; simp at hd; omega)))); (intro hd; clear hd)) | ((with_reducible apply qAn); eq_refl; rotate_left; (focus (intro hd; (first | (cases hd; done) | (exfalso; simp at hd; omega)))); (intro hd; clear hd)))
        (with_reducible apply qAA); (focus (repeat' (first | (with_reducible apply qAv) | (with_reducible apply qAq) | ((with_reducible apply qAD); eq_refl) | ((with_reducible apply qAy); eq_refl; eq_refl; exact tyOk rfl; eq_refl; eq_refl)))); eq_refl; refine SubD.of_eq ?_
        rfl
    · unfold oneF
      rw [if_neg (by decide), if_neg hk, if_pos rfl]
      by_cases h2 : k = 1
      · subst h2
        rw [if_pos rfl]
        refine qAs Tryd.func132 rfl (by kernel_rfl) mixed (by kernel_rfl) (qle (by kernel_rfl)) Tryd.results132 ?_
        repeat (first | (with_reducible first | apply qAj | apply qAi | apply qAh | apply qAf | apply qAo | apply qAF | apply qAu | apply qAS | apply qBc | apply qAz | apply qAm) | ((with_reducible apply rp); first | (exact qF1 rfl rfl) | ((with_reducible apply qAd); (conv => lhs; whnf)) | ((with_reducible apply qAa); (conv => lhs; whnf)) | ((with_reducible apply qAc); exact tyOk rfl; eq_refl; eq_refl; decide; eq_refl) | ((with_reducible apply qAe); exact tyOk rfl; (iterate 4 eq_refl)) | ((with_reducible apply qAr); eq_refl; eq_refl) | ((with_reducible apply qAU); eq_refl; eq_refl) | ((with_reducible apply qAR); exact tyOk rfl; eq_refl; eq_refl; (focus repeat' (first | eq_refl | refine ⟨_, _, rfl, rfl, qle rfl, rfl, ?_⟩)); eq_refl)) | ((with_reducible apply rp1); first | ((with_reducible apply qAp); eq_refl; eq_refl) | ((with_reducible apply qAk); exact tyOk rfl; eq_refl)) | ((with_reducible apply rpN); ((with_reducible apply qAb); exact tyOk rfl; (iterate 5 eq_refl))) | ((with_reducible apply qA6); eq_refl; eq_refl) | ((with_reducible apply qBq); eq_refl; eq_refl))
        (with_reducible apply qAA); (focus (repeat' (first | (with_reducible apply qAv) | (with_reducible apply qAq) | ((with_reducible apply qAD); eq_refl) | ((with_reducible apply qAy); eq_refl; eq_refl; exact tyOk rfl; eq_refl; eq_refl)))); eq_refl; refine SubD.of_eq ?_
        rfl
      · rw [if_neg h2]
        refine qAs Tryd.func132 rfl (by kernel_rfl) mixed (by kernel_rfl) (qle (by kernel_rfl)) Tryd.results132 ?_
        repeat (first | (with_reducible first | apply qAj | apply qAi | apply qAh | apply qAf | apply qAo | apply qAF | apply qAu | apply qAS | apply qAz | apply qAm) | ((with_reducible apply rp); first | ((with_reducible apply qAd); (conv => lhs; whnf)) | ((with_reducible apply qAa); (conv => lhs; whnf)) | ((with_reducible apply qAc); exact tyOk rfl; eq_refl; eq_refl; decide; eq_refl) | ((with_reducible apply qAe); exact tyOk rfl; (iterate 4 eq_refl)) | ((with_reducible apply qAr); eq_refl; eq_refl) | ((with_reducible apply qAU); eq_refl; eq_refl) | ((with_reducible apply qAV); exact tyOk rfl; eq_refl; eq_refl)) | ((with_reducible apply rp1); first | ((with_reducible apply qAp); eq_refl; eq_refl) | ((with_reducible apply qAk); exact tyOk rfl; eq_refl)) | ((with_reducible apply rpN); ((with_reducible apply qAb); exact tyOk rfl; (iterate 5 eq_refl))) | ((with_reducible apply qAn); eq_refl; (focus (intro hd; (first | (cases hd; done) | (exfalso; simp at hd; omega)))); (intro hd; clear hd)) | ((with_reducible apply qAn); eq_refl; rotate_left; (focus (intro hd; (first | (cases hd; done) | (exfalso; simp at hd; omega)))); (intro hd; clear hd)))
        (with_reducible apply qAA); (focus (repeat' (first | (with_reducible apply qAv) | (with_reducible apply qAq) | ((with_reducible apply qAD); eq_refl) | ((with_reducible apply qAy); eq_refl; eq_refl; exact tyOk rfl; eq_refl; eq_refl)))); eq_refl; refine SubD.of_eq ?_
        rfl
    · unfold oneF
      rw [if_pos rfl, if_neg hk]
      refine qAs Tryd.func132 rfl (by kernel_rfl) mixed (by kernel_rfl) (qle (by kernel_rfl)) Tryd.results132 ?_
      repeat (first | (with_reducible first | apply qAj | apply qAi | apply qAh | apply qAf | apply qAu | apply qAS | apply qAz | apply qAm) | ((with_reducible apply rp); first | ((with_reducible apply qAg); eq_refl; eq_refl; exact (t0); eq_refl) | ((with_reducible apply qAd); (conv => lhs; whnf)) | ((with_reducible apply qAa); (conv => lhs; whnf)) | ((with_reducible apply qAc); exact tyOk rfl; eq_refl; eq_refl; decide; eq_refl) | ((with_reducible apply qAe); exact tyOk rfl; (iterate 4 eq_refl)) | ((with_reducible apply qAr); eq_refl; eq_refl)) | ((with_reducible apply rp1); first | ((with_reducible apply qAp); eq_refl; eq_refl) | ((with_reducible apply qAk); exact tyOk rfl; eq_refl)) | ((with_reducible apply rpN); ((with_reducible apply qAb); exact tyOk rfl; (iterate 5 eq_refl))) | ((with_reducible apply qAn); eq_refl; (focus (intro hd; (first | (cases hd; done) | (exfalso; simp at hd; omega)))); (intro hd; clear hd)) | ((with_reducible apply qAn); eq_refl; rotate_left; (focus (intro hd; (first | (cases hd; done) | (exfalso; simp at hd; omega)))); (intro hd; clear hd)))
      (with_reducible apply qAA); (focus (repeat' (first | (with_reducible apply qAv) | (with_reducible apply qAq) | ((with_reducible apply qAD); eq_refl) | ((with_reducible apply qAy); eq_refl; eq_refl; exact tyOk rfl; eq_refl; eq_refl)))); eq_refl; refine SubD.of_eq ?_
      rfl
    · unfold oneF
      rw [if_neg (by decide), if_neg hk, if_neg (by decide), if_pos rfl]
      by_cases h2 : k = 4
      · subst h2
        rw [if_pos rfl]
        refine qAs Tryd.func132 rfl (by kernel_rfl) mixed (by kernel_rfl) (qle (by kernel_rfl)) Tryd.results132 ?_
        repeat (first | (with_reducible first | apply qAj | apply qAi | apply qAh | apply qAf | apply qAo | apply qAF | apply qAu | apply qAS | apply qBc | apply qAz | apply qAm) | ((with_reducible apply rp); first | ((with_reducible apply qAg); eq_refl; eq_refl; exact (r1); eq_refl) | ((with_reducible apply qAg); eq_refl; eq_refl; exact (n1); eq_refl) | ((with_reducible apply qAd); (conv => lhs; whnf)) | ((with_reducible apply qAa); (conv => lhs; whnf)) | ((with_reducible apply qAc); exact tyOk rfl; eq_refl; eq_refl; decide; eq_refl) | ((with_reducible apply qAe); exact tyOk rfl; (iterate 4 eq_refl)) | ((with_reducible apply qAr); eq_refl; eq_refl) | ((with_reducible apply qAU); eq_refl; eq_refl)) | ((with_reducible apply rp1); first | ((with_reducible apply qAp); eq_refl; eq_refl) | ((with_reducible apply qAk); exact tyOk rfl; eq_refl)) | ((with_reducible apply rpN); ((with_reducible apply qAb); exact tyOk rfl; (iterate 5 eq_refl))) | ((with_reducible apply qA6); eq_refl; eq_refl) | ((with_reducible apply qBq); eq_refl; eq_refl))
        (with_reducible apply qAA); (focus (repeat' (first | (with_reducible apply qAv) | (with_reducible apply qAq) | ((with_reducible apply qAD); eq_refl) | ((with_reducible apply qAy); eq_refl; eq_refl; exact tyOk rfl; eq_refl; eq_refl)))); eq_refl; refine SubD.of_eq ?_
        rfl
      · rw [if_neg h2]
        refine qAs Tryd.func132 rfl (by kernel_rfl) mixed (by kernel_rfl) (qle (by kernel_rfl)) Tryd.results132 ?_
        repeat (first | (with_reducible first | apply qAj | apply qAi | apply qAh | apply qAf | apply qAo | apply qAF | apply qAu | apply qAS | apply qAz | apply qAm) | ((with_reducible apply rp); first | ((with_reducible apply qAd); (conv => lhs; whnf)) | ((with_reducible apply qAa); (conv => lhs; whnf)) | ((with_reducible apply qAc); exact tyOk rfl; eq_refl; eq_refl; decide; eq_refl) | ((with_reducible apply qAe); exact tyOk rfl; (iterate 4 eq_refl)) | ((with_reducible apply qAr); eq_refl; eq_refl) | ((with_reducible apply qAU); eq_refl; eq_refl) | ((with_reducible apply qAV); exact tyOk rfl; eq_refl; eq_refl)) | ((with_reducible apply rp1); first | ((with_reducible apply qAp); eq_refl; eq_refl) | ((with_reducible apply qAk); exact tyOk rfl; eq_refl)) | ((with_reducible apply rpN); ((with_reducible apply qAb); exact tyOk rfl; (iterate 5 eq_refl))) | ((with_reducible apply qAn); eq_refl; (focus (intro hd; (first | (cases hd; done) | (exfalso; simp at hd; omega)))); (intro hd; clear hd)) | ((with_reducible apply qAn); eq_refl; rotate_left; (focus (intro hd; (first | (cases hd; done) | (exfalso; simp at hd; omega)))); (intro hd; clear hd)))
        (with_reducible apply qAA); (focus (repeat' (first | (with_reducible apply qAv) | (with_reducible apply qAq) | ((with_reducible apply qAD); eq_refl) | ((with_reducible apply qAy); eq_refl; eq_refl; exact tyOk rfl; eq_refl; eq_refl)))); eq_refl; refine SubD.of_eq ?_
        rfl
theorem part_ok {v : Vl} (hv : Gd v) (h : v.k ≤ 1) : PC Tryd.prog 142 [.ag v.cs] (.tu [iD (partI v), bD true]) := by
  rcases (show v.k = 0 ∨ v.k = 1 by have := hv.k_in; omega) with hk | hk
  · have e1 := hv.null_n hk
    subst e1
    refine qAs Tryd.func142 rfl (by kernel_rfl) mixed (by kernel_rfl) (qle (by kernel_rfl)) Tryd.results142 ?_
    repeat (first | (with_reducible first | apply qAj | apply qAi | apply qAh | apply qAf | apply qAo | apply qAu | apply qAS | apply qBc | apply qAz) | ((with_reducible apply rp); first | ((with_reducible apply qAa); (conv => lhs; whnf)) | ((with_reducible apply qAc); exact tyOk rfl; eq_refl; eq_refl; decide; eq_refl) | ((with_reducible apply qAe); exact tyOk rfl; (iterate 4 eq_refl)) | ((with_reducible apply qAr); eq_refl; eq_refl)) | ((with_reducible apply rp1); ((with_reducible apply qAp); eq_refl; eq_refl)) | ((with_reducible apply qBq); eq_refl; eq_refl))
    (with_reducible apply qAA); (focus (repeat' (first | (with_reducible apply qAv) | (with_reducible apply qAq) | ((with_reducible apply qAD); eq_refl)))); eq_refl; refine SubD.of_eq ?_
    rfl
  · obtain ⟨n, hn, e1⟩ := hv.bool_n hk
    subst e1
    refine qAs Tryd.func142 rfl (by kernel_rfl) mixed (by kernel_rfl) (qle (by kernel_rfl)) Tryd.results142 ?_
    repeat (first | (with_reducible first | apply qAj | apply qAi | apply qAh | apply qAf | apply qAo | apply qAu | apply qAS | apply qBc | apply qAz) | ((with_reducible apply rp); first | (exact qFW rfl rfl) | ((with_reducible apply qAa); (conv => lhs; whnf)) | ((with_reducible apply qAc); exact tyOk rfl; eq_refl; eq_refl; decide; eq_refl) | ((with_reducible apply qAe); exact tyOk rfl; (iterate 4 eq_refl)) | ((with_reducible apply qAr); eq_refl; eq_refl)) | ((with_reducible apply rp1); ((with_reducible apply qAp); eq_refl; eq_refl)) | ((with_reducible apply qA6); eq_refl; eq_refl) | ((with_reducible apply qBq); eq_refl; eq_refl))
    (with_reducible apply qAA); (focus (repeat' (first | (with_reducible apply qAv) | (with_reducible apply qAq) | ((with_reducible apply qAD); eq_refl)))); eq_refl; refine SubD.of_eq ?_
    rfl
theorem qFj {v : Vl} (h : ¬ v.k ≤ 1) : PC Tryd.prog 142 [.ag v.cs] (.tu [iD 0, bD false]) := by
  have h0 : ¬ v.k = 0 := by omega
  have h1 : ¬ v.k = 1 := by omega
  obtain ⟨k, n, b, t⟩ := v
  dsimp only at *
  unfold Vl.cs
  dsimp only
  refine qAs Tryd.func142 rfl (by kernel_rfl) mixed (by kernel_rfl) (qle (by kernel_rfl)) Tryd.results142 ?_
  repeat (first | (with_reducible first | apply qAj | apply qAi | apply qAh | apply qAf | apply qAo | apply qAF | apply qAu | apply qAz | apply qAm) | ((with_reducible apply rp); first | ((with_reducible apply qAa); (conv => lhs; whnf)) | ((with_reducible apply qAc); exact tyOk rfl; eq_refl; eq_refl; decide; eq_refl) | ((with_reducible apply qAe); exact tyOk rfl; (iterate 4 eq_refl)) | ((with_reducible apply qAr); eq_refl; eq_refl)) | ((with_reducible apply rp1); ((with_reducible apply qAp); eq_refl; eq_refl)) | ((with_reducible apply qAn); eq_refl; (focus (intro hd; (exfalso; simp at hd; omega))); (intro hd; clear hd)))
  (with_reducible apply qAA); (focus (repeat' (first | (with_reducible apply qAv) | (with_reducible apply qAq) | ((with_reducible apply qAD); eq_refl)))); eq_refl; refine SubD.of_eq ?_
  rfl
set_option maxHeartbeats 2000000 in
theorem logic_pc (op : Nat) (hop : op = 15 ∨ op = 16) {v w : Vl} (hv : Gd v) (hw : Gd w) : PC Tryd.prog 138 [iD op, .ag v.cs, .ag w.cs] (tvD (logF op v w)) := by
  unfold logF
  by_cases h : v.k ≤ 1 ∧ w.k ≤ 1
  · rw [if_pos h]
    have p1 := part_ok hv h.1
    have p2 := part_ok hw h.2
    have i1 := qFa hv h.1
    have i2 := qFa hw h.2
    generalize partI v = a at *
    generalize partI w = b at *
    clear hv hw h
    have a1 := and_pc a b (by omega) (by omega)
    have o1 := or_pc a b (by omega) (by omega)
    have em : (if b < a then b else a) = min a b := by split <;> omega
    have eM : (if a < b then b else a) = max a b := by split <;> omega
    rw [em] at a1
    rw [eM] at o1
    have t1 := qDo (min a b) (by omega)
    have t2 := qDo (max a b) (by omega)
    generalize min a b = x at *
    generalize max a b = y at *
    clear em eM i1 i2
    obtain ⟨k, n, b', t⟩ := v
    obtain ⟨k2, n2, b2, t'⟩ := w
    unfold Vl.cs at *
    dsimp only at *
    rcases hop with rfl | rfl
    · rw [if_neg (by decide)]
      refine qAs Tryd.func138 rfl (by kernel_rfl) mixed (by kernel_rfl) (qle (by kernel_rfl)) Tryd.results138 ?_
      repeat (first | (with_reducible first | apply qAj | apply qAi | apply qAh | apply qAf | apply qAu | apply qAz | apply qAm) | ((first | (with_reducible apply rp) | ((with_reducible apply rpG); eq_refl; exact qAP rfl; (focus repeat' (first | exact trivial | exact id | apply And.intro)); intro zg; have zh := zg; (try simp only [zs1, zs2, zs3, zs4] at zg))); first | ((with_reducible apply qAg); eq_refl; eq_refl; (first | exact (p1) | exact (p2) | exact (a1) | exact (t1)); eq_refl) | ((with_reducible first | apply qAd | apply qAa); (conv => lhs; whnf)) | ((with_reducible first | apply qAJ | apply qAl | apply qAr | apply qAZ | apply qAt) <;> first | ((with_reducible apply tyOk); eq_refl) | eq_refl | exact qle rfl | exact id)) | ((with_reducible apply rp1); first | ((with_reducible apply qAp); eq_refl; eq_refl) | ((with_reducible apply qAk); exact tyOk rfl; eq_refl)) | ((with_reducible apply rpN); ((with_reducible apply qAb); exact tyOk rfl; (iterate 5 eq_refl))) | ((with_reducible apply qA6); eq_refl; eq_refl))
      (with_reducible apply qAA); (focus (repeat' (first | (with_reducible apply qAv) | (with_reducible apply qAq) | ((with_reducible apply qAD); eq_refl) | ((with_reducible apply qAy); eq_refl; eq_refl; exact tyOk rfl; eq_refl; eq_refl)))); eq_refl; refine SubD.of_eq ?_
      rfl
    · rw [if_pos rfl]
      refine qAs Tryd.func138 rfl (by kernel_rfl) mixed (by kernel_rfl) (qle (by kernel_rfl)) Tryd.results138 ?_
      repeat (first | (with_reducible first | apply qAj | apply qAi | apply qAh | apply qAf | apply qAu | apply qAz | apply qAm) | ((first | (with_reducible apply rp) | ((with_reducible apply rpG); eq_refl; exact qAP rfl; (focus repeat' (first | exact trivial | exact id | apply And.intro)); intro zg; have zh := zg; (try simp only [zs1, zs2, zs3, zs4] at zg))); first | ((with_reducible apply qAg); eq_refl; eq_refl; (first | exact (p1) | exact (p2) | exact (a1) | exact (o1) | exact (t2)); eq_refl) | ((with_reducible first | apply qAd | apply qAa); (conv => lhs; whnf)) | ((with_reducible first | apply qAJ | apply qAl | apply qAr | apply qAZ | apply qAt) <;> first | ((with_reducible apply tyOk); eq_refl) | eq_refl | exact qle rfl | exact id)) | ((with_reducible apply rp1); first | ((with_reducible apply qAp); eq_refl; eq_refl) | ((with_reducible apply qAk); exact tyOk rfl; eq_refl)) | ((with_reducible apply rpN); ((with_reducible apply qAb); exact tyOk rfl; (iterate 5 eq_refl))) | ((with_reducible apply qA6); eq_refl; eq_refl) | ((with_reducible apply qBq); eq_refl; eq_refl))
      (with_reducible apply qAA); (focus (repeat' (first | (with_reducible apply qAv) | (with_reducible apply qAq) | ((with_reducible apply qAD); eq_refl) | ((with_reducible apply qAy); eq_refl; eq_refl; exact tyOk rfl; eq_refl; eq_refl)))); eq_refl; refine SubD.of_eq ?_
      rfl
  · rw [if_neg h]
    obtain ⟨a, pa, b, pb, p1, p2, hab⟩ : ∃ a pa b pb, PC Tryd.prog 142 [.ag v.cs] (.tu [iD a, bD pa]) ∧ PC Tryd.prog 142 [.ag w.cs] (.tu [iD b, bD pb]) ∧ (!pa || !pb) = true := by
      by_cases hk : v.k ≤ 1
      · by_cases hk2 : w.k ≤ 1
        · exact absurd ⟨hk, hk2⟩ h
        · exact ⟨_, _, _, _, part_ok hv hk, qFj hk2, rfl⟩
      · by_cases hk2 : w.k ≤ 1
        · exact ⟨_, _, _, _, qFj hk, part_ok hw hk2, rfl⟩
        · exact ⟨_, _, _, _, qFj hk, qFj hk2, rfl⟩
    clear hv hw h hop
    obtain ⟨k, n, b', t⟩ := v
    obtain ⟨k2, n2, b2, t'⟩ := w
    unfold Vl.cs at *
    dsimp only at *
    refine qAs Tryd.func138 rfl (by kernel_rfl) mixed (by kernel_rfl) (qle (by kernel_rfl)) Tryd.results138 ?_
    repeat (first | (with_reducible first | apply qAj | apply qAi | apply qAh | apply qAf) | ((first | (with_reducible apply rp) | ((with_reducible apply rpG); eq_refl; exact qAP rfl; (focus repeat' (first | exact trivial | exact id | apply And.intro)); intro zg; have zh := zg; (try simp only [zs1, zs2, zs3, zs4] at zg))); first | ((with_reducible apply qAg); eq_refl; eq_refl; (first | exact (p1) | exact (p2)); eq_refl) | ((with_reducible first | apply qAd | apply qAa); (conv => lhs; whnf)) | ((with_reducible first | apply qAJ | apply qAl | apply qAZ | apply qAt) <;> first | ((with_reducible apply tyOk); eq_refl) | eq_refl | exact qle rfl | exact id)) | ((with_reducible apply rp1); first | ((with_reducible apply qAp); eq_refl; eq_refl) | ((with_reducible apply qAk); exact tyOk rfl; eq_refl)))
    refine qAn rfl (fun _ => ?_) (fun hd => absurd (hab.symm.trans hd) (by decide))
    repeat (first | (with_reducible first | apply qAj | apply qAi | apply qAh | apply qAf | apply qAu | apply qAS | apply qAz) | ((with_reducible apply rp); first | ((with_reducible apply qAa); (conv => lhs; whnf)) | ((with_reducible apply qAV); exact tyOk rfl; eq_refl; eq_refl)) | ((with_reducible apply rpN); ((with_reducible apply qAb); exact tyOk rfl; (iterate 5 eq_refl))))
    (with_reducible apply qAA); (focus (repeat' (first | (with_reducible apply qAv) | (with_reducible apply qAq) | ((with_reducible apply qAD); eq_refl) | ((with_reducible apply qAy); eq_refl; eq_refl; exact tyOk rfl; eq_refl; eq_refl)))); eq_refl; refine SubD.of_eq ?_
    rfl
theorem asked_k (k : Nat) (v w : Vl) : PC Tryd.prog 145 [iD k, .ag v.cs, .ag w.cs] (bD (fitK k v w)) := by
  unfold fitK
  obtain ⟨vk, n, b', t⟩ := v
  obtain ⟨wk, n2, b2, t'⟩ := w
  unfold Vl.cs
  dsimp only
  refine qAs Tryd.func145 rfl (by kernel_rfl) mixed (by kernel_rfl) (qle (by kernel_rfl)) Tryd.results145 ?_
  repeat (first | (with_reducible first | apply qAj | apply qAi | apply qAh | apply qAf | apply qAu | apply qAz) | ((first | (with_reducible apply rp) | ((with_reducible apply rpG); eq_refl; (first | exact qAT rfl | exact qAP rfl | exact qBs rfl); (focus repeat' (first | exact trivial | exact id | apply And.intro | (intro h; simp_all))); intro zg; have zh := zg; (try simp only [zs1, zs2, zs3, zs4] at zg))); first | ((with_reducible first | apply qAd | apply qAa); (conv => lhs; whnf)) | ((with_reducible apply qAM); (iterate 3 eq_refl); (first | exact id | (intro h; (rw [zh, h]; rfl)))) | ((with_reducible apply qAJ); (iterate 3 eq_refl); (first | exact id | (intro h; (rw [zh, h]; rfl)))) | ((with_reducible first | apply qAc | apply qAe | apply qAr) <;> first | ((with_reducible apply tyOk); eq_refl) | eq_refl | decide)) | ((with_reducible apply rp1); ((with_reducible apply qAp); eq_refl; eq_refl)) | ((first | (with_reducible apply rpGP) | (with_reducible apply drGP)); eq_refl; (first | exact qAT rfl | exact qAP rfl | exact qBs rfl); (focus repeat' (first | exact trivial | exact id | apply And.intro | (intro h; simp_all))); (intro zg; have zh := zg; (try simp only [zs1, zs2, zs3, zs4] at zg); first | ((with_reducible apply qAJ); (iterate 3 eq_refl); (first | exact id | (intro h; (rw [zh, h]; rfl)))) | ((with_reducible apply qAM); (iterate 3 eq_refl); (first | exact id | (intro h; (rw [zh, h]; rfl)))))))
  (with_reducible apply qAA); (focus (repeat' (first | (with_reducible apply qAv) | (with_reducible apply qAq) | ((with_reducible apply qAD); eq_refl)))); eq_refl; refine SubD.of_eq ?_
  rfl
end Go.Proofs.YtpaccaojgbfjdaaDoor

