/-
  A tape on a disk: a record is there whole or not at all, wherever all falls, whatever lasts. No program in sight, no condition.
-/
import Derived.Test.YtpaccaojgbfjdaaZCrcF
namespace Go.Proofs.Ytpaccaojgbfjdaa
set_option linter.unusedSimpArgs false
set_option linter.unusedVariables false

structure Dk where
  lasts : List (List UInt8)
  writes : List (Nat × List UInt8)
structure DkOk (d : Dk) : Prop where
  one : 1 ≤ d.lasts.length
  most : d.lasts.length ≤ 400
  few : d.writes.length ≤ 60
  at_ : ∀ w ∈ d.writes, w.1 < d.lasts.length
  sec : ∀ s ∈ d.lasts, s.length = 32
  wsec : ∀ w ∈ d.writes, w.2.length = 32
def readL (i : Nat) (b : List UInt8) : List (Nat × List UInt8) → List UInt8
  | [] => b
  | w :: ws => readL i (if w.1 = i then w.2 else b) ws
def fallL (keep : Nat → Bool) : Nat → List (List UInt8) → List (Nat × List UInt8) → List (List UInt8)
  | _, l, [] => l
  | i, l, w :: ws => fallL keep (i + 1) (if keep i = true then l.set w.1 w.2 else l) ws
theorem fallL_len (keep : Nat → Bool) : ∀ (ws : List (Nat × List UInt8)) (i : Nat) (l : List (List UInt8)), (fallL keep i l ws).length = l.length
  | [], _, _ => rfl
  | w :: ws, i, l => by
    rw [fallL, fallL_len keep ws]
    split
    · rw [List.length_set]
    · rfl
theorem fallL_get (keep : Nat → Bool) (q : Nat) : ∀ (ws : List (Nat × List UInt8)) (i : Nat) (l : List (List UInt8)), (fallL keep i l ws)[q]? = l[q]? ∨ ∃ w ∈ ws, w.1 = q ∧ q < l.length ∧ (fallL keep i l ws)[q]? = some w.2
  | [], _, _ => .inl rfl
  | w :: ws, i, l => by
    rw [fallL]
    split
    · rcases fallL_get keep q ws (i + 1) (l.set w.1 w.2) with h | ⟨v, hv, h1, h2, h3⟩
      · rw [h, List.getElem?_set]
        split
        · rename_i he
          split
          · rename_i hl
            exact .inr ⟨w, List.mem_cons_self, he, by omega, rfl⟩
          · rename_i hl
            left
            rw [List.getElem?_eq_none (by omega)]
        · exact .inl rfl
      · rw [List.length_set] at h2
        exact .inr ⟨v, List.mem_cons_of_mem _ hv, h1, h2, h3⟩
    · rcases fallL_get keep q ws (i + 1) l with h | ⟨v, hv, h1, h2, h3⟩
      · exact .inl h
      · exact .inr ⟨v, List.mem_cons_of_mem _ hv, h1, h2, h3⟩
theorem fallL_all {keep : Nat → Bool} (hk : ∀ i, keep i = true) (q : Nat) : ∀ (ws : List (Nat × List UInt8)) (i : Nat) (l : List (List UInt8)), (∃ w ∈ ws, w.1 = q) → q < l.length → ∃ w ∈ ws, w.1 = q ∧ (fallL keep i l ws)[q]? = some w.2
  | [], _, _, ⟨w, hw, _⟩, _ => (by cases hw)
  | w :: ws, i, l, h, hq => by
    rw [fallL, if_pos (hk i)]
    by_cases hex : ∃ v ∈ ws, v.1 = q
    · obtain ⟨v, hv, h1, h2⟩ := fallL_all hk q ws (i + 1) (l.set w.1 w.2) hex (by rw [List.length_set]; exact hq)
      exact ⟨v, List.mem_cons_of_mem _ hv, h1, h2⟩
    · have hw : w.1 = q := by
        obtain ⟨v, hv, h1⟩ := h
        rcases List.mem_cons.1 hv with rfl | hv
        · exact h1
        · exact absurd ⟨v, hv, h1⟩ hex
      refine ⟨w, List.mem_cons_self, hw, ?_⟩
      rcases fallL_get keep q ws (i + 1) (l.set w.1 w.2) with h' | ⟨v, hv, h1, _⟩
      · rw [h', hw, List.getElem?_set_self hq]
      · exact absurd ⟨v, hv, h1⟩ hex
/-- Bytes as a number. -/
def numB (l : List UInt8) : Nat := l.foldl (fun n c => n * 256 + c.toNat) 0
abbrev b8 (n : Nat) : UInt8 := UInt8.ofNat n
theorem b8_toNat (n : Nat) : (b8 n).toNat = n % 256 := by simp [b8]
abbrev zeros (n : Nat) : List UInt8 := List.replicate n 0
def headS (n : Nat) : List UInt8 := [0, 0, 0, 0, 0, b8 (n / 65536), b8 (n / 256), b8 n] ++ zeros 24
theorem headS_len (n : Nat) : (headS n).length = 32 := rfl
theorem headS_num {n : Nat} (h : n < 16777216) : numB [b8 (n / 65536), b8 (n / 256), b8 n] = n := by
  simp only [numB, List.foldl_cons, List.foldl_nil, b8_toNat]
  omega
theorem headS_zero : headS 0 = zeros 32 := rfl
/-- A record in its frame. -/
def recB (r : List UInt8) : List UInt8 := [b8 (r.length / 256), b8 r.length, b8 (crcL r / 16777216), b8 (crcL r / 65536), b8 (crcL r / 256), b8 (crcL r)] ++ r
theorem recB_len (r : List UInt8) : (recB r).length = 6 + r.length := by
  unfold recB
  rw [List.length_append]
  rfl
def recsB : List (List UInt8) → List UInt8
  | [] => []
  | r :: l => recB r ++ recsB l
theorem recsB_app (l : List (List UInt8)) (r : List UInt8) : recsB (l ++ [r]) = recsB l ++ recB r := by
  induction l with
  | nil => show recB r ++ [] = [] ++ recB r; rw [List.append_nil, List.nil_append]
  | cons q l ih => show recB q ++ recsB (l ++ [r]) = recB q ++ recsB l ++ recB r; rw [ih, List.append_assoc]
def RecOk (r : List UInt8) : Prop := 1 ≤ r.length ∧ r.length ≤ 310
/-- A byte of what lies behind the first sector. -/
def byteAt (l : List (List UInt8)) (p : Nat) : Option UInt8 := (l[1 + p / 32]?).bind (·[p % 32]?)
structure Tape (d : Dk) (recs : List (List UInt8)) : Prop where
  one : 1 ≤ d.lasts.length
  most : d.lasts.length ≤ 400
  sec : ∀ s ∈ d.lasts, s.length = 32
  none_ : d.writes = []
  head : d.lasts[0]? = some (headS (recsB recs).length)
  body : ∀ p, p < (recsB recs).length → byteAt d.lasts p = (recsB recs)[p]?
  fit : (recsB recs).length ≤ (d.lasts.length - 1) * 32
  recs : ∀ r ∈ recs, RecOk r
theorem Tape.ok {d : Dk} {recs : List (List UInt8)} (h : Tape d recs) : DkOk d := by
  refine ⟨h.one, h.most, by rw [h.none_]; exact Nat.zero_le _, ?_, h.sec, ?_⟩ <;> intro w hw <;> rw [h.none_] at hw <;> cases hw
theorem Tape.small {d : Dk} {recs : List (List UInt8)} (h : Tape d recs) : (recsB recs).length ≤ 12768 := by
  have := h.fit
  have := h.most
  omega
theorem tape_new (k : Nat) (h1 : 1 ≤ k) (h2 : k ≤ 400) : Tape ⟨List.replicate k (zeros 32), []⟩ [] := by
  refine ⟨by rw [List.length_replicate]; exact h1, by rw [List.length_replicate]; exact h2, fun s hs => ?_, rfl, ?_, fun p hp => absurd hp (by simp [recsB]), Nat.zero_le _, fun r hr => absurd hr (by simp)⟩
  · rw [List.eq_of_mem_replicate hs]; rfl
  · show (List.replicate k (zeros 32))[0]? = some (headS 0)
    rw [List.getElem?_replicate, if_pos (by omega), headS_zero]

/-! ### what is written -/
/-- The i-th part of some bytes, filled up with noughts. -/
def chunkF (all : List UInt8) (i : Nat) : List UInt8 := (List.range 32).map fun q => all.getD (32 * i + q) 0
theorem chunkF_len (all : List UInt8) (i : Nat) : (chunkF all i).length = 32 := by simp [chunkF]
theorem chunkF_get (all : List UInt8) (i q : Nat) (hq : q < 32) (hl : 32 * i + q < all.length) : (chunkF all i)[q]? = all[32 * i + q]? := by
  unfold chunkF
  rw [List.getElem?_map, List.getElem?_range hq]
  show some (all.getD (32 * i + q) 0) = _
  rw [List.getD_eq_getElem?_getD, List.getElem?_eq_getElem hl]
  rfl
theorem chunkF_eq (all : List UInt8) (i : Nat) : chunkF all i = (all.drop (32 * i)).take 32 ++ zeros (32 - ((all.drop (32 * i)).take 32).length) := by
  refine List.ext_getElem? fun q => ?_
  by_cases hq : q < 32
  · unfold chunkF
    rw [List.getElem?_map, List.getElem?_range hq]
    show some (all.getD (32 * i + q) 0) = _
    rw [List.getD_eq_getElem?_getD, List.getElem?_append]
    split
    · rename_i hl
      rw [List.length_take, List.length_drop] at hl
      rw [List.getElem?_take, if_pos hq, List.getElem?_drop, List.getElem?_eq_getElem (by omega)]
      rfl
    · rename_i hl
      rw [List.length_take, List.length_drop] at hl
      rw [List.getElem?_replicate, if_pos (by rw [List.length_take, List.length_drop]; omega), List.getElem?_eq_none (by omega)]
      rfl
  · rw [List.getElem?_eq_none (by rw [chunkF_len]; omega), List.getElem?_eq_none (by simp; omega)]
/-- The first writes of a record. -/
def wsF (all : List UInt8) (i0 k : Nat) : List (Nat × List UInt8) := (List.range k).map fun j => (1 + (i0 + j), chunkF all (i0 + j))
theorem wsF_succ (all : List UInt8) (i0 k : Nat) : wsF all i0 (k + 1) = wsF all i0 k ++ [(1 + (i0 + k), chunkF all (i0 + k))] := by
  unfold wsF
  rw [List.range_succ, List.map_append]
  rfl
theorem wsF_len (all : List UInt8) (i0 k : Nat) : (wsF all i0 k).length = k := by simp [wsF]
theorem wsF_mem {all : List UInt8} {i0 k : Nat} {w : Nat × List UInt8} (h : w ∈ wsF all i0 k) : ∃ i, i0 ≤ i ∧ i < i0 + k ∧ w = (1 + i, chunkF all i) := by
  unfold wsF at h
  rw [List.mem_map] at h
  obtain ⟨j, hj, rfl⟩ := h
  rw [List.mem_range] at hj
  exact ⟨i0 + j, by omega, by omega, rfl⟩
theorem wsF_in (all : List UInt8) (i0 k i : Nat) (h1 : i0 ≤ i) (h2 : i < i0 + k) : (1 + i, chunkF all i) ∈ wsF all i0 k := by
  unfold wsF
  rw [List.mem_map]
  exact ⟨i - i0, by rw [List.mem_range]; omega, by rw [show i0 + (i - i0) = i by omega]⟩
/-- How many sectors a record writes. -/
def manyF (n a : Nat) : Nat := (a + 31) / 32 - n / 32
/-- The disk behind so many deeds. -/
def stepsF (d : Dk) (recs : List (List UInt8)) (r : List UInt8) (k : Nat) : Dk :=
  let all := recsB (recs ++ [r])
  let i0 := (recsB recs).length / 32
  let m := manyF (recsB recs).length all.length
  if k ≤ m then ⟨d.lasts, wsF all i0 k⟩ else
  let l := fallL (fun _ => true) 0 d.lasts (wsF all i0 m)
  if k = m + 1 then ⟨l, []⟩ else
  if k = m + 2 then ⟨l, [(0, headS all.length)]⟩ else ⟨l.set 0 (headS all.length), []⟩
def deedsF (recs : List (List UInt8)) (r : List UInt8) : Nat := manyF (recsB recs).length (recsB (recs ++ [r])).length + 3
/-- The disk behind a fall. -/
def crashF (keep : Nat → Bool) (d : Dk) : Dk := ⟨fallL keep 0 d.lasts d.writes, []⟩
theorem Tape.of {d e : Dk} {recs : List (List UInt8)} (h : Tape d recs) (hn : e.writes = []) (hl : e.lasts.length = d.lasts.length) (hs : ∀ s ∈ e.lasts, s.length = 32) (h0 : e.lasts[0]? = d.lasts[0]?) (hb : ∀ p, p < (recsB recs).length → byteAt e.lasts p = byteAt d.lasts p) : Tape e recs :=
  ⟨by rw [hl]; exact h.one, by rw [hl]; exact h.most, hs, hn, h0.trans h.head, fun p hp => (hb p hp).trans (h.body p hp), by rw [hl]; exact h.fit, h.recs⟩
theorem fallL_sec {keep : Nat → Bool} {ws : List (Nat × List UInt8)} {i : Nat} {l : List (List UInt8)} (h : ∀ s ∈ l, s.length = 32) (hw : ∀ w ∈ ws, w.2.length = 32) : ∀ s ∈ fallL keep i l ws, s.length = 32 := by
  intro s hs
  obtain ⟨q, hq⟩ := List.getElem?_of_mem hs
  rcases fallL_get keep q ws i l with h' | ⟨w, hw', _, _, h3⟩
  · rw [h'] at hq; exact h s (List.mem_of_getElem? hq)
  · rw [h3] at hq
    injection hq with hq
    subst hq
    exact hw w hw'
theorem app_get {recs : List (List UInt8)} {r : List UInt8} {p : Nat} (hp : p < (recsB recs).length) : (recsB (recs ++ [r]))[p]? = (recsB recs)[p]? := by
  rw [recsB_app, List.getElem?_append_left hp]
theorem app_len (recs : List (List UInt8)) (r : List UInt8) : (recsB (recs ++ [r])).length = (recsB recs).length + (6 + r.length) := by
  rw [recsB_app, List.length_append, recB_len]
/-- Whatever of the sectors lasts, what was there is there. -/
theorem tape_some {d : Dk} {recs : List (List UInt8)} (h : Tape d recs) (r : List UInt8) (keep : Nat → Bool) (k : Nat) : Tape ⟨fallL keep 0 d.lasts (wsF (recsB (recs ++ [r])) ((recsB recs).length / 32) k), []⟩ recs := by
  have hw : ∀ w ∈ wsF (recsB (recs ++ [r])) ((recsB recs).length / 32) k, w.2.length = 32 := fun w hw => by
    obtain ⟨i, _, _, rfl⟩ := wsF_mem hw
    exact chunkF_len _ _
  refine h.of rfl (fallL_len _ _ _ _) (fallL_sec h.sec hw) ?_ fun p hp => ?_
  · rcases fallL_get keep 0 (wsF (recsB (recs ++ [r])) ((recsB recs).length / 32) k) 0 d.lasts with h' | ⟨w, hw', h1, _⟩
    · exact h'
    · obtain ⟨i, _, _, rfl⟩ := wsF_mem hw'
      exact absurd h1 (by simp)
  · rcases fallL_get keep (1 + p / 32) (wsF (recsB (recs ++ [r])) ((recsB recs).length / 32) k) 0 d.lasts with h' | ⟨w, hw', h1, _, h3⟩
    · unfold byteAt
      rw [h']
    · obtain ⟨i, hi, _, rfl⟩ := wsF_mem hw'
      have hi2 : i = p / 32 := by simp at h1; omega
      subst hi2
      have hlt : p < (recsB (recs ++ [r])).length := by rw [app_len]; omega
      rw [h.body p hp]
      unfold byteAt
      rw [h3]
      show (chunkF _ (p / 32))[p % 32]? = _
      have hpp : 32 * (p / 32) + p % 32 = p := by omega
      rw [chunkF_get _ _ _ (by omega) (by omega), hpp, app_get hp]
/-- All sectors are there. -/
theorem tape_all {d : Dk} {recs : List (List UInt8)} (h : Tape d recs) {r : List UInt8} (hr : RecOk r) (hf : (recsB (recs ++ [r])).length ≤ (d.lasts.length - 1) * 32) :
    Tape ⟨(fallL (fun _ => true) 0 d.lasts (wsF (recsB (recs ++ [r])) ((recsB recs).length / 32) (manyF (recsB recs).length (recsB (recs ++ [r])).length))).set 0 (headS (recsB (recs ++ [r])).length), []⟩ (recs ++ [r]) := by
  have hl := app_len recs r
  have h1 := h.one
  have hw : ∀ w ∈ wsF (recsB (recs ++ [r])) ((recsB recs).length / 32) (manyF (recsB recs).length (recsB (recs ++ [r])).length), w.2.length = 32 := fun w hw => by
    obtain ⟨i, _, _, rfl⟩ := wsF_mem hw
    exact chunkF_len _ _
  have hlen : (fallL (fun _ => true) 0 d.lasts (wsF (recsB (recs ++ [r])) ((recsB recs).length / 32) (manyF (recsB recs).length (recsB (recs ++ [r])).length))).length = d.lasts.length := fallL_len _ _ _ _
  refine ⟨by rw [List.length_set, hlen]; exact h1, by rw [List.length_set, hlen]; exact h.most, fun s hs => ?_, rfl, ?_, fun p hp => ?_, by rw [List.length_set, hlen]; exact hf, fun q hq => ?_⟩
  · rcases List.mem_or_eq_of_mem_set hs with hs | rfl
    · exact fallL_sec h.sec hw s hs
    · exact headS_len _
  · exact List.getElem?_set_self (by rw [hlen]; omega)
  · have hpl : 1 + p / 32 < d.lasts.length := by
      have : p < (d.lasts.length - 1) * 32 := by omega
      omega
    unfold byteAt
    rw [List.getElem?_set_ne (by omega)]
    have hpp : 32 * (p / 32) + p % 32 = p := by omega
    by_cases hin : (recsB recs).length / 32 ≤ p / 32
    · obtain ⟨w, hw', h2, h3⟩ := fallL_all (keep := fun _ => true) (fun _ => rfl) (1 + p / 32) _ 0 d.lasts ⟨_, wsF_in (recsB (recs ++ [r])) ((recsB recs).length / 32) (manyF (recsB recs).length (recsB (recs ++ [r])).length) (p / 32) hin (by unfold manyF; omega), rfl⟩ hpl
      obtain ⟨i, _, _, rfl⟩ := wsF_mem hw'
      have hi2 : i = p / 32 := by simp at h2; omega
      subst hi2
      rw [h3]
      show (chunkF _ (p / 32))[p % 32]? = _
      rw [chunkF_get _ _ _ (by omega) (by omega), hpp]
    · have hpo : p < (recsB recs).length := by omega
      rcases fallL_get (fun _ => true) (1 + p / 32) (wsF (recsB (recs ++ [r])) ((recsB recs).length / 32) (manyF (recsB recs).length (recsB (recs ++ [r])).length)) 0 d.lasts with h' | ⟨w, hw', h2, _⟩
      · rw [h', app_get hpo]
        exact h.body p hpo
      · obtain ⟨i, _, _, rfl⟩ := wsF_mem hw'
        have : i = p / 32 := by simp at h2; omega
        omega
  · rcases List.mem_append.1 hq with hq | hq
    · exact h.recs q hq
    · rw [List.mem_singleton] at hq
      subst hq
      exact hr
theorem fallL_nil (keep : Nat → Bool) (i : Nat) (l : List (List UInt8)) : fallL keep i l [] = l := rfl
/-- A record is there whole or not at all. -/
theorem crash_tape {d : Dk} {recs : List (List UInt8)} (h : Tape d recs) {r : List UInt8} (hr : RecOk r) (hf : (recsB (recs ++ [r])).length ≤ (d.lasts.length - 1) * 32) (keep : Nat → Bool) (k : Nat) :
    Tape (crashF keep (stepsF d recs r k)) (recs ++ [r]) ∨ (k < deedsF recs r ∧ Tape (crashF keep (stepsF d recs r k)) recs) := by
  have ha := tape_all h hr hf
  have hs := tape_some h r (fun _ => true) (manyF (recsB recs).length (recsB (recs ++ [r])).length)
  unfold crashF deedsF stepsF
  dsimp only
  split
  · exact .inr ⟨by omega, tape_some h r keep k⟩
  · split
    · exact .inr ⟨by omega, hs⟩
    · split
      · unfold fallL
        rw [fallL_nil]
        dsimp only
        split
        · exact .inl ha
        · exact .inr ⟨by omega, hs⟩
      · exact .inl ha
theorem done_tape {d : Dk} {recs : List (List UInt8)} (h : Tape d recs) {r : List UInt8} (hr : RecOk r) (hf : (recsB (recs ++ [r])).length ≤ (d.lasts.length - 1) * 32) {k : Nat} (hk : deedsF recs r ≤ k) : Tape (stepsF d recs r k) (recs ++ [r]) := by
  unfold deedsF at hk
  unfold stepsF
  dsimp only
  rw [if_neg (by omega), if_neg (by omega), if_neg (by omega)]
  exact tape_all h hr hf
theorem steps_len (d : Dk) (recs : List (List UInt8)) (r : List UInt8) (k : Nat) : (stepsF d recs r k).lasts.length = d.lasts.length := by
  unfold stepsF
  dsimp only
  split
  · rfl
  · split
    · exact fallL_len _ _ _ _
    · split
      · exact fallL_len _ _ _ _
      · rw [List.length_set]; exact fallL_len _ _ _ _
end Go.Proofs.Ytpaccaojgbfjdaa

