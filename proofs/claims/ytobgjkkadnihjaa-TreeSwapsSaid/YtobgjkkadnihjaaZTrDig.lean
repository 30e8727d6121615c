/-
  Keys of two letters; a full tree. No condition.
-/
import Derived.Test.YtobgjkkadnihjaaZTrSm
namespace Go.Proofs.Ytobgjkkadnihjaa
set_option linter.unusedSimpArgs false
set_option linter.unusedVariables false
open Go.RowKit

section
variable {σ : Sl} {β : Bx} {C : Ctx} {a : Act} {w : World}
/-- nil is an empty row of data. -/
theorem ent_nl (id sz : Nat) {T : TypeId} (hl : look id β = some (.var T [.d .nl])) (hat : At C ⟨σ, β⟩ a w) : At C ⟨σ, [(id, .var T [.d (.sl sz [])])] ++ β⟩ a w := by
  refine at_mem (fun ρ I hm => ?_) hat
  obtain ⟨g, us, h1, h2, x, u1, q1, o1, r1, q2⟩ := hm.box id _ hl
  refine (mem_regroup hm _ ρ (fun _ _ => rfl) (fun i b hi => ?_) (fun i b k hi hh => ?_) (fun i j b b' k hi hj hh hh' => ?_)).1
  · obtain ⟨rfl, rfl⟩ := look_one hi
    exact ⟨⟨g, us, h1, h2, x, u1, q1, fun _ => rfl, SubD.nil sz I w x r1, q2⟩, trivial, trivial⟩
  · obtain ⟨rfl, rfl⟩ := look_one hi
    exact ⟨i, _, hl, look_a, hh⟩
  · obtain ⟨rfl, rfl⟩ := look_one hi
    obtain ⟨rfl, rfl⟩ := look_one hj
    rfl
end
/-- A key of two letters. -/
def two (c d u v : Nat) : ByteArray := byS [chrB c u, chrB d v]
theorem chr_nat {c u : Nat} (h : c + u < 256) : (chrB c u).toNat = c + u := by simp [chrB]; omega
theorem two_inj {c d u v u2 v2 : Nat} (h1 : c + u < 256) (h2 : d + v < 256) (h3 : c + u2 < 256) (h4 : d + v2 < 256) (h : two c d u v = two c d u2 v2) : u = u2 ∧ v = v2 := by
  unfold two at h
  have h : ([chrB c u, chrB d v] : List UInt8) = [chrB c u2, chrB d v2] := by
    have := congrArg (fun b : ByteArray => b.data.toList) h
    simpa using this
  injection h with e1 h
  injection h with e2 _
  have e1 := congrArg UInt8.toNat e1
  have e2 := congrArg UInt8.toNat e2
  rw [chr_nat h1, chr_nat h3] at e1
  rw [chr_nat h2, chr_nat h4] at e2
  omega
theorem two_size (c d u v : Nat) : (two c d u v).size = 2 := rfl
theorem two_kx {c d u v : Nat} {k : ByteArray} (hk : k.size = 1) : two c d u v ≠ k := fun h => by
  have := congrArg ByteArray.size h
  rw [two_size, hk] at this
  cases this
theorem lookL_put_ne {key key2 : ByteArray} {val : Int} (hne : key2 ≠ key) : ∀ {l : Pairs}, lookL key2 (putL key val l) = lookL key2 l
  | [] => lookL_none fun p hp e => (by rw [List.mem_singleton.1 hp] at e; exact hne e.symm)
  | (k, v) :: l => by
    have hz : ¬ cmpB key2 key = 0 := fun h0 => by
      rcases cmp_cases key2 key with ⟨_, h2⟩ | ⟨h2, _⟩ | ⟨_, h2⟩
      · rw [h2] at h0; cases h0
      · exact hne h2
      · rw [h2] at h0; cases h0
    rw [putL]
    rcases cmp_cases key k with ⟨h3, h4⟩ | ⟨rfl, h4⟩ | ⟨h3, h4⟩
    · rw [h4, if_pos (by decide), lookL, if_neg hz]
    · rw [h4, if_neg (by decide), if_pos rfl, lookL, lookL, if_neg hz, if_neg hz]
    · rw [h4, if_neg (by decide), if_neg (by decide), lookL, lookL, lookL_put_ne hne]
def dig (n : Nat) : ByteArray := two 48 48 (n / 10) (n % 10)
theorem dig_inj {m n : Nat} (hm : m < 100) (hn : n < 100) (h : dig m = dig n) : m = n := by
  obtain ⟨h1, h2⟩ := two_inj (by omega) (by omega) (by omega) (by omega) h
  omega
def stepF (k : Nat) : Nat → Option (Nat × Tn)
  | 0 => none
  | i + 1 => growO (dig (i * k % 100)) ((i * k % 100 : Nat) : Int) (stepF k i)
structure FullOk (k i : Nat) : Prop where
  good : Good (stepF k i)
  len : (itemsO (stepF k i)).length = i
  of : ∀ p ∈ itemsO (stepF k i), ∃ j, j < i ∧ p = (dig (j * k % 100), ((j * k % 100 : Nat) : Int))
  has : ∀ j, j < i → lookL (dig (j * k % 100)) (itemsO (stepF k i)) = some ((j * k % 100 : Nat) : Int)
theorem full_new {k i : Nat} (hi : i < 100) (hinj : ∀ a b, a < 100 → b < 100 → a * k % 100 = b * k % 100 → a = b) (h : FullOk k i) : lookL (dig (i * k % 100)) (itemsO (stepF k i)) = none := by
  cases hl : lookL (dig (i * k % 100)) (itemsO (stepF k i)) with
  | none => rfl
  | some v =>
    obtain ⟨j, hj, he⟩ := h.of _ (lookL_some hl)
    have e1 := dig_inj (by omega) (by omega) (congrArg Prod.fst he)
    have := hinj i j hi (by omega) e1
    omega
theorem full_step {k i : Nat} (hi : i < 100) (hinj : ∀ a b, a < 100 → b < 100 → a * k % 100 = b * k % 100 → a = b) (h : FullOk k i) : FullOk k (i + 1) := by
  have hno := full_new hi hinj h
  have hit : itemsO (stepF k (i + 1)) = putL (dig (i * k % 100)) ((i * k % 100 : Nat) : Int) (itemsO (stepF k i)) := growO_items _ _ _ h.good.sh h.good.asc
  refine ⟨good_put h.good _ (Nat.le_of_ble_eq_true rfl) (.inr (by rw [h.len]; exact hi)), ?_, fun p hp => ?_, fun j hj => ?_⟩
  · rw [hit, putL_len h.good.asc, hno, h.len]; rfl
  · rw [hit] at hp
    rcases putL_mem hp with rfl | hp
    · exact ⟨i, by omega, rfl⟩
    · obtain ⟨j, hj, he⟩ := h.of p hp
      exact ⟨j, by omega, he⟩
  · rw [hit]
    by_cases he : j = i
    · subst he; exact putL_look
    · rw [lookL_put_ne fun h2 => he (hinj j i (by omega) hi (dig_inj (by omega) (by omega) h2))]
      exact h.has j (by omega)
theorem full_zero (k : Nat) : FullOk k 0 := ⟨good_nil, rfl, fun p hp => (by cases hp), fun j hj => absurd hj (Nat.not_lt_zero j)⟩
theorem full_all {k : Nat} (hinj : ∀ a b, a < 100 → b < 100 → a * k % 100 = b * k % 100 → a = b) : ∀ i, i ≤ 100 → FullOk k i
  | 0, _ => full_zero k
  | i + 1, h => full_step (by omega) hinj (full_all hinj i (by omega))
/-- The steps that are asked. -/
theorem steps_inj (k : Nat) (hk : k = 1 ∨ k = 3 ∨ k = 7 ∨ k = 9 ∨ k = 11 ∨ k = 99) : (∀ a b, a < 100 → b < 100 → a * k % 100 = b * k % 100 → a = b) ∧ ∀ m, m < 100 → ∃ j, j < 100 ∧ j * k % 100 = m := by
  rcases hk with rfl | rfl | rfl | rfl | rfl | rfl
  · exact ⟨fun a b _ _ _ => by omega, fun m _ => ⟨m, by omega, by omega⟩⟩
  · exact ⟨fun a b _ _ _ => by omega, fun m _ => ⟨m * 67 % 100, by omega, by omega⟩⟩
  · exact ⟨fun a b _ _ _ => by omega, fun m _ => ⟨m * 43 % 100, by omega, by omega⟩⟩
  · exact ⟨fun a b _ _ _ => by omega, fun m _ => ⟨m * 89 % 100, by omega, by omega⟩⟩
  · exact ⟨fun a b _ _ _ => by omega, fun m _ => ⟨m * 91 % 100, by omega, by omega⟩⟩
  · exact ⟨fun a b _ _ _ => by omega, fun m _ => ⟨m * 99 % 100, by omega, by omega⟩⟩
end Go.Proofs.Ytobgjkkadnihjaa

