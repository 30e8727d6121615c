/-
  A number from 0 on, below another one. No condition.
-/
import Derived.Test.YtlpnnnmdkglkcaaDoorZB
import Derived.Test.YtlpnnnmdkglkcaaDoorZTl
import Derived.Test.YtlpnnnmdkglkcaaDoorZD
set_option linter.unusedSimpArgs false
set_option linter.unusedVariables false
namespace Go.Proofs.YtlpnnnmdkglkcaaDoor
open Go.RowKit

def Raw.cs (r : Raw) : List D := [iD r.kind, iD r.a, iD r.b, strD r.text]
theorem picked_pc (n : Int) (m : Nat) (hm : 0 < m) (hm2 : m ≤ 4611686018427387904) : PC Tryd.prog 20 [iD n, iD m] (iD (n % m)) := by
  have h1 : n % (m : Int) = if n.tmod m < 0 then n.tmod m + m else n.tmod m := by
    rw [Int.tmod_eq_emod]
    have := Int.emod_nonneg n (show (m : Int) ≠ 0 by omega)
    have := Int.emod_lt_of_pos n (show (0 : Int) < m by omega)
    have : ((m : Int).natAbs : Int) = m := by omega
    split <;> split <;> omega
  have h2 : -(m : Int) < n.tmod m ∧ n.tmod m < m := by
    rw [Int.tmod_eq_emod]
    have := Int.emod_nonneg n (show (m : Int) ≠ 0 by omega)
    have := Int.emod_lt_of_pos n (show (0 : Int) < m by omega)
    have : ((m : Int).natAbs : Int) = m := by omega
    split <;> omega
  refine qAM Tryd.func20 rfl (by kernel_rfl) mixed (by kernel_rfl) (qle (by kernel_rfl)) Tryd.results20 ?_
  repeat (first | (with_reducible apply qAl) | (with_reducible apply qAm) | (with_reducible apply qAn) | (with_reducible apply qAk) | (with_reducible apply qAF) | (with_reducible apply qAX) | (with_reducible apply qAC) | ((with_reducible apply qDv); eq_refl) | ((with_reducible apply qBt); (first | kernel_rfl | eq_refl)) | ((first | (with_reducible first | apply rp | apply dr) | ((with_reducible first | apply rpG | apply drG); eq_refl; (first | exact qAo rfl | exact qAt rfl | exact qAw rfl | exact qAy rfl); (focus repeat' (first | exact trivial | exact id | apply And.intro | (intro h; (first | exact h | (simp only [Bool.and_eq_true] at h; (first | exact h.1 | exact h.1.1 | exact h.1.1.1 | exact h.2)) | (rw [h]; rfl) | (rw [zh, h]; rfl) | simp_all)))); intro zg; have zh := zg; (try simp only [zs1, zs2, zs3, zs4] at zg))); first | (exact qDN rfl rfl (by omega)) | ((with_reducible first | apply qAc | apply qAa); (conv => lhs; whnf)) | ((with_reducible apply qBm); eq_refl; eq_refl) | ((with_reducible apply qA1); eq_refl; eq_refl; omega; omega)) | ((with_reducible first | apply rp1 | apply dr1); first | (exact qDN rfl rfl (by omega))) | ((with_reducible first | apply rp2 | apply dr2); first | (exact qDN rfl rfl (by omega))) | ((with_reducible first | apply rpN | apply drN); first | (exact qDN rfl rfl (by omega))) | ((first | (with_reducible apply rpGF) | (with_reducible apply drGF)); eq_refl; (first | exact qAo rfl | exact qAt rfl | exact qAw rfl | exact qAy rfl); (first | assumption | decide | eq_refl); (focus repeat' (first | exact trivial | exact id | apply And.intro | (intro h; (first | exact h | (simp only [Bool.and_eq_true] at h; (first | exact h.1 | exact h.1.1 | exact h.1.1.1 | exact h.2)) | (rw [h]; rfl) | (rw [zh, h]; rfl) | simp_all))))))
  generalize n.tmod m = x at *
  refine qA7 rfl (fun hc => ?_) (fun hc => ?_)
  · have hx : x < 0 := by simpa using hc
    repeat (first | (with_reducible apply qAl) | (with_reducible apply qAm) | (with_reducible apply qAn) | (with_reducible apply qAk) | (with_reducible apply qAF) | (with_reducible apply qAX) | (with_reducible apply qAC) | ((with_reducible apply qDv); eq_refl) | ((with_reducible apply qBt); (first | kernel_rfl | eq_refl)) | ((first | (with_reducible first | apply rp | apply dr) | ((with_reducible first | apply rpG | apply drG); eq_refl; (first | exact qAo rfl | exact qAt rfl | exact qAw rfl | exact qAy rfl); (focus repeat' (first | exact trivial | exact id | apply And.intro | (intro h; (first | exact h | (simp only [Bool.and_eq_true] at h; (first | exact h.1 | exact h.1.1 | exact h.1.1.1 | exact h.2)) | (rw [h]; rfl) | (rw [zh, h]; rfl) | simp_all)))); intro zg; have zh := zg; (try simp only [zs1, zs2, zs3, zs4] at zg))); first | ((with_reducible first | apply qAc | apply qAa); (conv => lhs; whnf)) | ((with_reducible apply qBm); eq_refl; eq_refl) | ((with_reducible apply qA1); eq_refl; eq_refl; omega; omega)) | ((first | (with_reducible apply rpGF) | (with_reducible apply drGF)); eq_refl; (first | exact qAo rfl | exact qAt rfl | exact qAw rfl | exact qAy rfl); (first | assumption | decide | eq_refl); (focus repeat' (first | exact trivial | exact id | apply And.intro | (intro h; (first | exact h | (simp only [Bool.and_eq_true] at h; (first | exact h.1 | exact h.1.1 | exact h.1.1.1 | exact h.2)) | (rw [h]; rfl) | (rw [zh, h]; rfl) | simp_all))))))
    (with_reducible apply qAY); (focus (repeat' (first | (with_reducible apply qAE) | (with_reducible apply qAx) | ((with_reducible apply qAI); eq_refl) | ((with_reducible apply rv_cell); eq_refl; eq_refl; exact tyOk rfl; eq_refl; eq_refl) | ((with_reducible apply qBh); eq_refl; eq_refl; exact tyOk rfl; eq_refl; (first | (with_reducible assumption) | eq_refl | ((try simp only [List.length_map]); first | assumption | omega) | (simp; omega))) | ((with_reducible apply rv_row); eq_refl; eq_refl; exact tyOk rfl; eq_refl; (first | exact qle rfl | omega | (simp; omega)))))); (first | eq_refl | (focus repeat' (first | exact frzVs_one (qEp _ _) | eq_refl | (apply frzVs_cons; (first | exact qEp _ _ | eq_refl))))); refine SubD.of_eq ?_
    rw [h1, if_pos hx]; rfl
  · have hx : ¬ x < 0 := by simpa using hc
    repeat (first | (with_reducible apply qAl) | (with_reducible apply qAm) | (with_reducible apply qAn) | (with_reducible apply qAk) | (with_reducible apply qAF) | (with_reducible apply qAX) | (with_reducible apply qAC) | ((with_reducible apply qDv); eq_refl) | ((with_reducible apply qBt); (first | kernel_rfl | eq_refl)) | ((first | (with_reducible first | apply rp | apply dr) | ((with_reducible first | apply rpG | apply drG); eq_refl; (first | exact qAo rfl | exact qAt rfl | exact qAw rfl | exact qAy rfl); (focus repeat' (first | exact trivial | exact id | apply And.intro | (intro h; (first | exact h | (simp only [Bool.and_eq_true] at h; (first | exact h.1 | exact h.1.1 | exact h.1.1.1 | exact h.2)) | (rw [h]; rfl) | (rw [zh, h]; rfl) | simp_all)))); intro zg; have zh := zg; (try simp only [zs1, zs2, zs3, zs4] at zg))); first | ((with_reducible first | apply qAc | apply qAa); (conv => lhs; whnf)) | ((with_reducible apply qBm); eq_refl; eq_refl) | ((with_reducible apply qA1); eq_refl; eq_refl; omega; omega)) | ((first | (with_reducible apply rpGF) | (with_reducible apply drGF)); eq_refl; (first | exact qAo rfl | exact qAt rfl | exact qAw rfl | exact qAy rfl); (first | assumption | decide | eq_refl); (focus repeat' (first | exact trivial | exact id | apply And.intro | (intro h; (first | exact h | (simp only [Bool.and_eq_true] at h; (first | exact h.1 | exact h.1.1 | exact h.1.1.1 | exact h.2)) | (rw [h]; rfl) | (rw [zh, h]; rfl) | simp_all))))))
    (with_reducible apply qAY); (focus (repeat' (first | (with_reducible apply qAE) | (with_reducible apply qAx) | ((with_reducible apply qAI); eq_refl) | ((with_reducible apply rv_cell); eq_refl; eq_refl; exact tyOk rfl; eq_refl; eq_refl) | ((with_reducible apply qBh); eq_refl; eq_refl; exact tyOk rfl; eq_refl; (first | (with_reducible assumption) | eq_refl | ((try simp only [List.length_map]); first | assumption | omega) | (simp; omega))) | ((with_reducible apply rv_row); eq_refl; eq_refl; exact tyOk rfl; eq_refl; (first | exact qle rfl | omega | (simp; omega)))))); (first | eq_refl | (focus repeat' (first | exact frzVs_one (qEp _ _) | eq_refl | (apply frzVs_cons; (first | exact qEp _ _ | eq_refl))))); refine SubD.of_eq ?_
    rw [h1, if_neg hx]; rfl
theorem qDr (n : Int) (m : Nat) (hm : 0 < m) (hm2 : m ≤ 4611686018427387904) : ∃ u : Nat, u < m ∧ PC Tryd.prog 20 [iD n, iD m] (iD u) := by
  have h1 := emod_in n m (by omega)
  refine ⟨(n % m).toNat, by omega, ?_⟩
  have := picked_pc n m hm hm2
  rwa [show (((n % (m : Int)).toNat : Nat) : Int) = n % m by omega]
end Go.Proofs.YtlpnnnmdkglkcaaDoor

