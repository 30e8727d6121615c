/-
  What the bound of an '..UptoSaid' gives for slices and texts. No condition.
-/
import Derived.Test.YtgakkghlphnoaaaRows
namespace Go.Proofs.Ytgakkghlphnoaaa
set_option linter.unusedSimpArgs false
set_option linter.unusedVariables false

theorem bulk_one {H : Type} (d : DataW H) : 1 ≤ Rows.uptoBulk d := by
  cases d with
  | lit l => cases l <;> simp [Rows.uptoBulk]
  | nil => simp [Rows.uptoBulk]
  | ptr d => simp [Rows.uptoBulk]
  | slice elems spare => simp [Rows.uptoBulk]
  | agg parts => simp [Rows.uptoBulk]
  | iface t d => simp [Rows.uptoBulk]
  | map entries => simp [Rows.uptoBulk]
  | held h => simp [Rows.uptoBulk]
theorem bulk_part {H : Type} {d : DataW H} {l : List (DataW H)} (h : d ∈ l) : Rows.uptoBulk d ≤ Rows.uptoBulkAll l := by
  induction l with
  | nil => cases h
  | cons x r ih =>
    simp only [Rows.uptoBulkAll]
    cases List.mem_cons.1 h with
    | inl e => subst e; omega
    | inr e => have := ih e; omega
theorem bulk_length {H : Type} (l : List (DataW H)) : l.length ≤ Rows.uptoBulkAll l := by
  induction l with
  | nil => simp [Rows.uptoBulkAll]
  | cons x r ih => have := bulk_one x; simp only [Rows.uptoBulkAll, List.length_cons]; omega
theorem bulk_bound {H : Type} {l : List (DataW H)} (hk : Rows.uptoSmall H l = true) : Rows.uptoBulkAll l ≤ 1048576 := of_decide_eq_true hk
theorem upto_slice {H : Type} {ds : List (DataW H)} {d : DataW H} {c : Nat} (hk : Rows.uptoSmall H ds = true) (hd : d ∈ ds) (hc : d = .nil ∧ c = 0 ∨ ∃ es sp, d = .slice es sp ∧ es.length + sp.length = c) : c ≤ 1048576 := by
  rcases hc with ⟨_, rfl⟩ | ⟨es, sp, rfl, rfl⟩
  · omega
  · have h1 := bulk_part hd
    have h2 := bulk_bound hk
    have h3 := bulk_length es
    have h4 := bulk_length sp
    simp only [Rows.uptoBulk] at h1
    omega
theorem upto_string {H : Type} {ds : List (DataW H)} {d : DataW H} {s : ByteArray} (hk : Rows.uptoSmall H ds = true) (hd : d ∈ ds) (hs : d = .lit (.string s.data.toList)) : s.size ≤ 1048576 := by
  subst hs
  have h1 := bulk_part hd
  have h2 := bulk_bound hk
  simp only [Rows.uptoBulk, Array.length_toList] at h1
  have : s.size = s.data.size := rfl
  omega
end Go.Proofs.Ytgakkghlphnoaaa
