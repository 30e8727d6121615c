/-
  put: any tree whose leaves are all equally deep.
-/
import Derived.Test.YtobgjkkadnihjaaZTr5
namespace Go.Proofs.Ytobgjkkadnihjaa
set_option linter.unusedSimpArgs false
set_option linter.unusedVariables false
open Go.RowKit

theorem put_pg (key : ByteArray) (val : Int) : ∀ (h : Nat) (t : Tn), Sh h t → PutPG key val t (putH key val h t)
  | 0, .node ks vs ts, hs => by
    obtain ⟨h1, h2, h3, rfl⟩ := hs
    by_cases hb : (seekF key ks).2 = true
    · have := put_there key val ks vs [] h1 h3 hb
      unfold putH
      rw [if_pos hb]
      exact this
    · have hb2 : (seekF key ks).2 = false := by simpa using hb
      unfold putH
      rw [if_neg hb]
      by_cases h4 : ks.length = 3
      · exact put_leaf_cut key val ks vs h1 h4 hb2
      · have := put_leaf_few key val ks vs h1 (by omega) hb2
        show PutPG key val _ (splitN _ _ _)
        rw [splitN_few (by rw [insL_len _ _ _ (seekF_le key ks)]; omega)]
        exact this
  | h + 1, .node ks vs ts, hs => by
    obtain ⟨h1, h2, h3, h4, h5⟩ := hs
    by_cases hb : (seekF key ks).2 = true
    · have := put_there key val ks vs ts h1 h3 hb
      unfold putH
      rw [if_pos hb]
      exact this
    · have hb2 : (seekF key ks).2 = false := by simpa using hb
      have hle := seekF_le key ks
      have hlt : (seekF key ks).1 < ts.length := by omega
      obtain ⟨l1, t0, l2, hts, hl1⟩ := split_at hlt
      have hget : ts.getD (seekF key ks).1 noTn = t0 := by rw [hts, ← hl1]; simp
      have hset : ∀ t1, ts.set (seekF key ks).1 t1 = l1 ++ t1 :: l2 := fun t1 => by rw [hts, ← hl1]; simp
      have ih := put_pg key val h t0 (h5 t0 (by rw [hts]; simp))
      unfold putH
      rw [if_neg hb]
      dsimp only
      rw [hget]
      subst hts
      rcases ho : putH key val h t0 with ⟨t1, o⟩
      rw [ho] at ih
      cases o with
      | none =>
        dsimp only
        rw [hset]
        exact put_node_none key val ks vs l1 l2 t0 t1 h3 hb2 hl1 ih
      | some q =>
        obtain ⟨m, v, r⟩ := q
        dsimp only
        rw [hset]
        by_cases h6 : ks.length = 3
        · exact put_node_cut key val ks vs l1 l2 t0 t1 r m v h1 h6 h4 hb2 hl1 ih
        · have := put_node_few key val ks vs l1 l2 t0 t1 r m v h1 (by omega) h4 hb2 hl1 ih
          rw [splitN_few (by rw [insL_len _ _ _ (seekF_le key ks)]; omega)]
          exact this
end Go.Proofs.Ytobgjkkadnihjaa

