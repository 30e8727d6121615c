/-
  Frames that are the same have the same in them; eight bytes tell a number. Plain laws.
-/
import Derived.Test.YtfkkamkhjbfjmaaDoorFrame
namespace Go.Proofs.YtfkkamkhjbfjmaaDoor
set_option linter.unusedSimpArgs false
set_option linter.unusedVariables false

theorem lowB_eq {m n : Int} (h : lowB m = lowB n) : m % 256 = n % 256 := by
  have e := congrArg UInt8.toNat h
  unfold lowB at e
  rw [UInt8.toNat_ofNat', UInt8.toNat_ofNat'] at e
  have h0 := Int.emod_nonneg m (show (256 : Int) ≠ 0 by omega)
  have h1 := Int.emod_lt_of_pos m (show (0 : Int) < 256 by omega)
  have h2 := Int.emod_nonneg n (show (256 : Int) ≠ 0 by omega)
  have h3 := Int.emod_lt_of_pos n (show (0 : Int) < 256 by omega)
  omega
theorem fourB_eq {m n : Int} (h : fourB m = fourB n) : m % 4294967296 = n % 4294967296 := by
  unfold fourB at h
  simp only [List.cons.injEq, and_true] at h
  obtain ⟨h3, h2, h1, h0⟩ := h
  have a0 := lowB_eq h0
  have a1 := lowB_eq h1
  have a2 := lowB_eq h2
  have a3 := lowB_eq h3
  omega
theorem partB_inj {p q x y : List UInt8} (hp : p.length < 4294967296) (hq : q.length < 4294967296) (h : partB p ++ x = partB q ++ y) : p = q ∧ x = y := by
  unfold partB at h
  rw [List.append_assoc, List.append_assoc] at h
  obtain ⟨h1, h2⟩ := List.append_inj h rfl
  have h3 := fourB_eq h1
  exact List.append_inj h2 (by omega)
theorem flat_inj : ∀ {l k : List (List UInt8)}, l.length = k.length → (∀ p ∈ l, p.length < 4294967296) → (∀ p ∈ k, p.length < 4294967296) → l.flatMap partB = k.flatMap partB → l = k
  | [], [], _, _, _, _ => rfl
  | [], q :: k, h, _, _, _ => by simp at h
  | p :: l, [], h, _, _, _ => by simp at h
  | p :: l, q :: k, hl, h1, h2, h => by
    rw [List.flatMap_cons, List.flatMap_cons] at h
    obtain ⟨e1, e2⟩ := partB_inj (h1 p (by simp)) (h2 q (by simp)) h
    rw [e1, flat_inj (by simpa using hl) (fun p hp => h1 p (by simp [hp])) (fun p hp => h2 p (by simp [hp])) e2]
theorem frameB_inj {t u : Int} {l k : List (List UInt8)} (hl : l.length < 256) (hk : k.length < 256) (h1 : ∀ p ∈ l, p.length < 4294967296) (h2 : ∀ p ∈ k, p.length < 4294967296) (h : frameB t l = frameB u k) : t % 256 = u % 256 ∧ l = k := by
  unfold frameB at h
  obtain ⟨e1, e2⟩ := List.append_inj h rfl
  simp only [List.cons.injEq, and_true] at e1
  have e3 := lowB_eq e1.2
  exact ⟨lowB_eq e1.1, flat_inj (by omega) h1 h2 e2⟩
end Go.Proofs.YtfkkamkhjbfjmaaDoor
