/-
  What has a kind has values of that kind in each row that fits, or null, if it may be; and no kinds clash. No program in sight.
-/
import Derived.Test.YtnkpnnphmimagaaDoorZEv5
namespace Go.Proofs.YtnkpnnphmimagaaDoor
set_option linter.unusedSimpArgs false
set_option linter.unusedVariables false
open Go.Lib

/-- What is told fits what was said of it. -/
structure Sound (s : So) (t : Tv) : Prop where
  null : s.k = 0 → s.n = true
  val : t.e = 0 → t.v.k = s.k ∨ (t.v.k = 0 ∧ s.n = true)
  err : t.e = 0 ∨ t.e = 1 ∨ t.e = 6 ∨ t.e = 7
  gd : Gd t.v
theorem Sound.null0 {s : So} {t : Tv} (h : Sound s t) (he : t.e = 0) (hk : t.v.k = 0) : s.n = true := by
  rcases h.val he with h1 | h1
  · exact h.null (h1.symm.trans hk)
  · exact h1.2
theorem Sound.kd {s : So} {t : Tv} {K : Nat} (h : Sound s t) (hk : Kd s K) (he : t.e = 0) : t.v.k = K ∨ t.v.k = 0 := by
  rcases h.val he with h1 | h1
  · rcases hk.2 with h2 | h2
    · exact .inl (h1.trans h2)
    · exact .inr (h1.trans h2)
  · exact .inr h1.1
theorem Sound.bad {s : So} {e : Nat} (h0 : s.k = 0 → s.n = true) (h : e = 1 ∨ e = 6 ∨ e = 7) : Sound s (.bad e) := ⟨h0, fun he => by
  have : e = 0 := he
  omega, by
  show e = 0 ∨ e = 1 ∨ e = 6 ∨ e = 7
  omega, .null⟩
theorem findI_get {cols : List Cl} : ∀ {k i : Nat} {n : ByteArray}, findI n k cols = some i → ∃ c, cols[i - k]? = some c ∧ c.name = n ∧ k ≤ i := by
  induction cols with
  | nil => intro k i n h; cases h
  | cons c l ih =>
    intro k i n h
    unfold findI at h
    split at h
    · simp only [Option.some.injEq] at h
      subst h
      exact ⟨c, by rw [Nat.sub_self]; rfl, by assumption, Nat.le_refl _⟩
    · obtain ⟨c', h1, h2, h3⟩ := ih h
      refine ⟨c', ?_, h2, by omega⟩
      rw [show i - k = (i - (k + 1)) + 1 by omega, List.getElem?_cons_succ]
      exact h1
theorem findI_mem {cols : List Cl} : ∀ {k : Nat} {c : Cl}, c ∈ cols → ∃ i, findI c.name k cols = some i := by
  induction cols with
  | nil => intro k c h; cases h
  | cons d l ih =>
    intro k c h
    unfold findI
    split
    · exact ⟨k, rfl⟩
    · rename_i hne
      rcases List.mem_cons.1 h with rfl | h
      · exact absurd rfl hne
      · exact ih h
theorem once_same {cols : List Cl} (h : cols.Pairwise fun c d => c.name ≠ d.name) {c d : Cl} (hc : c ∈ cols) (hd : d ∈ cols) (hn : c.name = d.name) : c = d := by
  induction cols with
  | nil => cases hc
  | cons a l ih =>
    rw [List.pairwise_cons] at h
    rcases List.mem_cons.1 hc with h1 | h1 <;> rcases List.mem_cons.1 hd with h2 | h2
    · rw [h1, h2]
    · exact absurd hn (by rw [h1]; exact h.1 d h2)
    · exact absurd hn.symm (by rw [h2]; exact h.1 c h1)
    · exact ih h.2 h1 h2
theorem sound_col {cols : List Cl} {row : List Vl} (hc : cols.Pairwise fun c d => c.name ≠ d.name) (hk : ∀ c ∈ cols, 1 ≤ c.kind) (hr : FitR row cols) {c : Cl} (h : c ∈ cols) : Sound (ofF cols (.col c.name)) (evF cols row (.col c.name)) := by
  obtain ⟨i, hi⟩ := findI_mem (k := 0) h
  obtain ⟨d, h1, h2, _⟩ := findI_get hi
  rw [Nat.sub_zero] at h1
  have hd := List.mem_of_getElem? h1
  obtain rfl := once_same hc h hd h2.symm
  have hlt : i < row.length := by have := hr.len; have := (List.getElem?_eq_some_iff.1 h1).1; omega
  obtain ⟨v, hv⟩ : ∃ v, row[i]? = some v := ⟨_, List.getElem?_eq_getElem hlt⟩
  obtain ⟨g, hf⟩ := hr.fit i v c hv h1
  have e1 : ofF cols (.col c.name) = ⟨0, c.kind, c.null⟩ := find_mem hc h
  have e2 : evF cols row (.col c.name) = ⟨v, 0⟩ := by
    unfold evF
    rw [hi]
    dsimp only
    rw [hv]
  rw [e1, e2]
  refine ⟨fun h0 => ?_, fun _ => ?_, .inl rfl, g⟩
  · have := hk c h
    have h0 : (c.kind : Int) = 0 := h0
    omega
  · exact hf
theorem ofF_un {cols : List Cl} {op : Nat} {a : Ex} (h : (ofF cols a).e = 0) : ofF cols (.un op a) = joinF1 op (ofF cols a) := by rw [ofF, if_pos h]
theorem ofF_bi {cols : List Cl} {op : Nat} {a b : Ex} (h : (ofF cols a).e = 0) (h' : (ofF cols b).e = 0) : ofF cols (.bi op a b) = joinF2 op (ofF cols a) (ofF cols b) := by rw [ofF, if_pos h, if_pos h']
theorem ask_ok {s : So} {K : Nat} (h : Kd s K) (g : Int) : askF s K g = ⟨0, g, s.n⟩ := if_pos h.fits
theorem ask2_ok {s t : So} {K : Nat} (h : Kd s K) (h' : Kd t K) (g : Int) : askF2 s t K g = ⟨0, g, s.n || t.n⟩ := if_pos (by rw [h.fits, h'.fits]; rfl)
/-- An operation on one value. -/
theorem sound_un {cols : List Cl} {row : List Vl} {op K G : Nat} {a : Ex} (hk : Kd (ofF cols a) K) (h : Sound (ofF cols a) (evF cols row a)) (hop : (op = 3 ∧ K = 2 ∧ G = 2) ∨ (op = 18 ∧ K = 4 ∧ G = 2) ∨ (op = 4 ∧ K = 1 ∧ G = 1)) :
    Sound (ofF cols (.un op a)) (evF cols row (.un op a)) := by
  have e1 : ofF cols (.un op a) = ⟨0, G, (ofF cols a).n⟩ := by
    rw [ofF_un hk.1]
    rcases hop with ⟨rfl, rfl, rfl⟩ | ⟨rfl, rfl, rfl⟩ | ⟨rfl, rfl, rfl⟩ <;> exact ask_ok hk _
  have hG : ¬ ((G : Int) = 0) := by omega
  rw [e1, evF]
  split
  · rename_i he
    have hv := h.kd hk he
    have hn := h.null0 he
    have hg := h.gd
    generalize (evF cols row a).v = v at *
    generalize (ofF cols a).n = n at *
    refine ⟨fun h0 => absurd h0 hG, ?_, ?_, oneF_gd op hg⟩
    · intro h0
      unfold oneF at h0 ⊢
      rw [if_neg (by omega)] at h0 ⊢
      by_cases hz : v.k = 0
      · rw [if_pos hz]
        exact .inr ⟨hz, hn hz⟩
      · rw [if_neg hz] at h0 ⊢
        rcases hop with ⟨rfl, rfl, rfl⟩ | ⟨rfl, rfl, rfl⟩ | ⟨rfl, rfl, rfl⟩
        · rw [if_neg (by decide), if_neg (by decide), if_pos (by omega)] at h0 ⊢
          split at h0
          · cases h0
          · rename_i hm; rw [if_neg hm]; exact .inl rfl
        · rw [if_neg (by decide), if_pos rfl, if_pos (by omega)]
          exact .inl rfl
        · rw [if_pos rfl, if_pos (by omega)]
          exact .inl rfl
    · unfold oneF
      rw [if_neg (by omega)]
      by_cases hz : v.k = 0
      · rw [if_pos hz]; exact .inl rfl
      · rw [if_neg hz]
        rcases hop with ⟨rfl, rfl, rfl⟩ | ⟨rfl, rfl, rfl⟩ | ⟨rfl, rfl, rfl⟩
        · rw [if_neg (by decide), if_neg (by decide), if_pos (by omega)]
          split
          · exact .inr (.inr (.inl rfl))
          · exact .inl rfl
        · rw [if_neg (by decide), if_pos rfl, if_pos (by omega)]; exact .inl rfl
        · rw [if_pos rfl, if_pos (by omega)]; exact .inl rfl
  · rename_i he
    exact .bad (fun h0 => absurd h0 hG) (by have := h.err; omega)
theorem sound_isn {cols : List Cl} {row : List Vl} {a : Ex} (hk : (ofF cols a).e = 0) (h : Sound (ofF cols a) (evF cols row a)) : Sound (ofF cols (.un 17 a)) (evF cols row (.un 17 a)) := by
  have e1 : ofF cols (.un 17 a) = ⟨0, 1, false⟩ := by rw [ofF_un hk]; rfl
  have hG : ¬ ((1 : Int) = 0) := by omega
  rw [e1, evF]
  split
  · refine ⟨fun h0 => absurd h0 hG, fun h0 => ?_, ?_, oneF_gd 17 h.gd⟩
    · unfold oneF
      rw [if_pos rfl]
      split <;> exact .inl rfl
    · unfold oneF
      rw [if_pos rfl]
      split <;> exact .inl rfl
  · rename_i he
    exact .bad (fun h0 => absurd h0 hG) (by have := h.err; omega)
theorem fitK_ok {K : Nat} {v w : Vl} (hv : v.k = K ∨ v.k = 0) (hw : w.k = K ∨ w.k = 0) : fitK K v w = true := by
  unfold fitK
  rcases hv with h | h <;> rcases hw with h' | h' <;> rw [h, h'] <;> simp
theorem reckN_k {op : Nat} {a b : Int} (h : (reckN op a b).e = 0) : (reckN op a b).v.k = 2 := by
  revert h
  unfold reckN
  repeat' split
  all_goals (intro h; first | rfl | (cases h; done))
theorem reckN_e (op : Nat) (a b : Int) : (reckN op a b).e = 0 ∨ (reckN op a b).e = 6 ∨ (reckN op a b).e = 7 := by
  unfold reckN
  repeat' split
  all_goals simp
theorem truI_k {t : Int} (h : t ≠ 1) : (truI t).k = 1 := by unfold truI; rw [if_neg h]
/-- An operation on two values, both looked at. -/
theorem two_sound {op K G : Nat} {v w : Vl} (hv : v.k = K ∨ v.k = 0) (hw : w.k = K ∨ w.k = 0) (gv : Gd v) (gw : Gd w) {n m : Bool} (hn : v.k = 0 → n = true) (hm : w.k = 0 → m = true)
    (hop : (5 ≤ op ∧ op ≤ 8 ∧ K = 2 ∧ G = 2) ∨ (9 ≤ op ∧ op ≤ 14 ∧ G = 1) ∨ ((op = 15 ∨ op = 16) ∧ K = 1 ∧ G = 1) ∨ (op = 19 ∧ K = 4 ∧ G = 4)) : Sound ⟨0, G, n || m⟩ (twoF op v w) := by
  have hG : ¬ ((G : Int) = 0) := by omega
  have hnm : v.k = 0 ∨ w.k = 0 → (n || m) = true := by
    rintro (h | h)
    · rw [hn h]; rfl
    · rw [hm h]; cases n <;> rfl
  have key : ((twoF op v w).e = 0 → (twoF op v w).v.k = G ∨ ((twoF op v w).v.k = 0 ∧ (v.k = 0 ∨ w.k = 0))) ∧ ((twoF op v w).e = 0 ∨ (twoF op v w).e = 1 ∨ (twoF op v w).e = 6 ∨ (twoF op v w).e = 7) := by
    unfold twoF
    rcases hop with ⟨h1, h2, rfl, rfl⟩ | ⟨h1, h2, rfl⟩ | ⟨h1, rfl, rfl⟩ | ⟨rfl, rfl, rfl⟩
    · rw [if_neg (by omega), if_neg (by omega), if_neg (by omega), if_pos h2]
      unfold reckF
      rw [if_pos (show fitK 2 v w = true from fitK_ok (K := 2) hv hw)]
      split
      · rename_i h; exact ⟨fun _ => .inr ⟨rfl, h⟩, .inl rfl⟩
      · exact ⟨fun h => .inl (reckN_k h), by have := reckN_e op v.n w.n; omega⟩
    · rw [if_neg (by omega), if_neg (by omega), if_neg (by omega), if_neg (by omega)]
      unfold compF
      split
      · rename_i h; exact ⟨fun _ => .inr ⟨rfl, h⟩, .inl rfl⟩
      · rename_i h
        rw [if_pos (by omega)]
        exact ⟨fun _ => .inl (truI_k (by have := cmpT_in op v w; omega)), .inl rfl⟩
    · rw [if_pos h1]
      unfold logF
      rw [if_pos (by omega)]
      refine ⟨fun _ => ?_, .inl rfl⟩
      have i1 := partI_in gv (by omega)
      have i2 := partI_in gw (by omega)
      have p1 : v.k ≠ 0 → partI v ≠ 1 := fun h => by
        obtain ⟨q, hq, e⟩ := gv.bool_n (by omega)
        rw [e]
        rcases hq with hq | hq <;> subst hq <;> decide
      have p2 : w.k ≠ 0 → partI w ≠ 1 := fun h => by
        obtain ⟨q, hq, e⟩ := gw.bool_n (by omega)
        rw [e]
        rcases hq with hq | hq <;> subst hq <;> decide
      by_cases ht : (if op = 16 then max (partI v) (partI w) else min (partI v) (partI w)) = 1
      · right
        refine ⟨by show (truI _).k = 0; rw [ht]; rfl, ?_⟩
        split at ht <;> omega
      · left
        exact truI_k ht
    · rw [if_neg (by omega), if_neg (by omega), if_pos rfl]
      unfold catF
      rw [if_pos (show fitK 4 v w = true from fitK_ok (K := 4) hv hw)]
      split
      · rename_i h; exact ⟨fun _ => .inr ⟨rfl, h⟩, .inl rfl⟩
      · split
        · exact ⟨fun h => (by cases h), .inr (.inl rfl)⟩
        · exact ⟨fun _ => .inl rfl, .inl rfl⟩
  refine ⟨fun h0 => absurd h0 hG, fun h0 => ?_, key.2, twoF_gd op gv gw⟩
  rcases key.1 h0 with h | h
  · exact .inl h
  · exact .inr ⟨h.1, hnm h.2⟩
theorem sound_bi {cols : List Cl} {row : List Vl} {op K G : Nat} {a b : Ex} (hk : Kd (ofF cols a) K) (hk' : Kd (ofF cols b) K) (h : Sound (ofF cols a) (evF cols row a)) (h' : Sound (ofF cols b) (evF cols row b))
    (hop : (5 ≤ op ∧ op ≤ 8 ∧ K = 2 ∧ G = 2) ∨ (9 ≤ op ∧ op ≤ 14 ∧ G = 1) ∨ ((op = 15 ∨ op = 16) ∧ K = 1 ∧ G = 1) ∨ (op = 19 ∧ K = 4 ∧ G = 4)) : Sound (ofF cols (.bi op a b)) (evF cols row (.bi op a b)) := by
  have e1 : ofF cols (.bi op a b) = ⟨0, G, (ofF cols a).n || (ofF cols b).n⟩ := by
    rw [ofF_bi hk.1 hk'.1]
    unfold joinF2
    rcases hop with ⟨h1, h2, rfl, rfl⟩ | ⟨h1, h2, rfl⟩ | ⟨h1, rfl, rfl⟩ | ⟨rfl, rfl, rfl⟩
    · rw [if_pos h2]; exact ask2_ok hk hk' _
    · obtain ⟨b1, b2, _⟩ := hk.both hk'
      rw [if_neg (by omega), if_neg (by omega), if_neg (by omega), if_pos (by rw [b1, b2]; rfl), if_neg (by omega)]
      rfl
    · rw [if_neg (by omega), if_pos h1]; exact ask2_ok hk hk' _
    · rw [if_neg (by omega), if_neg (by omega), if_pos rfl]; exact ask2_ok hk hk' _
  have hG : ¬ ((G : Int) = 0) := by omega
  rw [e1, evF]
  split
  · rename_i he
    have hv := h.kd hk he
    have hn := h.null0 he
    split
    · rename_i hs
      refine ⟨fun h0 => absurd h0 hG, fun _ => ?_, .inl rfl, h.gd⟩
      left
      unfold shortB at hs
      simp only [Bool.or_eq_true, Bool.and_eq_true, beq_iff_eq, bne_iff_ne] at hs
      show (evF cols row a).v.k = (G : Int)
      omega
    · split
      · rename_i he'
        exact two_sound hv (h'.kd hk' he') h.gd h'.gd hn (h'.null0 he') hop
      · exact .bad (fun h0 => absurd h0 hG) (by have := h'.err; omega)
  · exact .bad (fun h0 => absurd h0 hG) (by have := h.err; omega)
theorem sound_coal {cols : List Cl} {row : List Vl} {K : Nat} {a b : Ex} (hk : Kd (ofF cols a) K) (hk' : Kd (ofF cols b) K) (h : Sound (ofF cols a) (evF cols row a)) (h' : Sound (ofF cols b) (evF cols row b)) : Sound (ofF cols (.bi 20 a b)) (evF cols row (.bi 20 a b)) := by
  have e1 : ofF cols (.bi 20 a b) = ⟨0, bothK (ofF cols a) (ofF cols b), (ofF cols a).n && (ofF cols b).n⟩ := by
    rw [ofF_bi hk.1 hk'.1]
    unfold joinF2
    obtain ⟨b1, b2, _⟩ := hk.both hk'
    rw [if_neg (by omega), if_neg (by omega), if_neg (by omega), if_pos (by rw [b1, b2]; rfl), if_pos rfl]
  have h0 : bothK (ofF cols a) (ofF cols b) = 0 → ((ofF cols a).n && (ofF cols b).n) = true := by
    intro hb
    unfold bothK at hb
    split at hb
    · rename_i hz; rw [h.null hz, h'.null hb]; rfl
    · rename_i hz; exact absurd hb hz
  rw [e1, evF]
  split
  · rename_i he
    have hv := h.val he
    split
    · rename_i hs
      refine ⟨h0, fun _ => ?_, .inl rfl, h.gd⟩
      left
      have hz : (evF cols row a).v.k ≠ 0 := by
        unfold shortB at hs
        simp only [Bool.or_eq_true, Bool.and_eq_true, beq_iff_eq, bne_iff_ne] at hs
        omega
      show (evF cols row a).v.k = bothK (ofF cols a) (ofF cols b)
      unfold bothK
      rcases hv with hv | hv
      · rw [if_neg (by omega)]; exact hv
      · exact absurd hv.1 hz
    · rename_i hs
      have hz : (evF cols row a).v.k = 0 := by
        by_cases hz : (evF cols row a).v.k = 0
        · exact hz
        · exfalso
          apply hs
          unfold shortB
          simp [hz]
      have hn := h.null0 he hz
      split
      · rename_i he'
        refine ⟨h0, fun _ => ?_, .inl rfl, twoF_gd 20 h.gd h'.gd⟩
        show (evF cols row b).v.k = _ ∨ ((evF cols row b).v.k = 0 ∧ _)
        by_cases hwz : (evF cols row b).v.k = 0
        · exact .inr ⟨hwz, by rw [hn, h'.null0 he' hwz]; rfl⟩
        · left
          have hw := h'.val he'
          unfold bothK
          show (evF cols row b).v.k = if (ofF cols a).k = 0 then (ofF cols b).k else (ofF cols a).k
          rcases hw with hw | hw
          · split
            · exact hw
            · have := hk.2
              have := hk'.2
              omega
          · exact absurd hw.1 hwz
      · exact .bad h0 (by have := h'.err; omega)
  · exact .bad h0 (by have := h.err; omega)
theorem Gx.sound {cols : List Cl} {row : List Vl} (hc : cols.Pairwise fun c d => c.name ≠ d.name) (hk : ∀ c ∈ cols, 1 ≤ c.kind) (hr : FitR row cols) {K d : Nat} {x : Ex} (h : Gx cols K d x) : Sound (ofF cols x) (evF cols row x) := by
  induction h with
  | lit h h0 hk => exact ⟨fun h1 => by have h1 : _ = (0 : Int) := h1; exact beq_iff_eq.2 h1, fun _ => .inl rfl, .inl rfl, h⟩
  | col h hk' => exact sound_col hc hk hr h
  | neg h ih => exact sound_un (G := 2) (h.kind hc) ih (.inl ⟨rfl, rfl, rfl⟩)
  | len h ih => exact sound_un (G := 2) (h.kind hc) ih (.inr (.inl ⟨rfl, rfl, rfl⟩))
  | not h ih => exact sound_un (G := 1) (h.kind hc) ih (.inr (.inr ⟨rfl, rfl, rfl⟩))
  | isn h ih => exact sound_isn (h.kind hc).1 ih
  | sum ho h h' ih ih' => exact sound_bi (G := 2) (h.kind hc) (h'.kind hc) ih ih' (.inl ⟨ho.1, ho.2, rfl, rfl⟩)
  | cmp ho h h' ih ih' => exact sound_bi (G := 1) (h.kind hc) (h'.kind hc) ih ih' (.inr (.inl ⟨ho.1, ho.2, rfl⟩))
  | log ho h h' ih ih' => exact sound_bi (G := 1) (h.kind hc) (h'.kind hc) ih ih' (.inr (.inr (.inl ⟨ho, rfl, rfl⟩)))
  | join h h' ih ih' => exact sound_bi (G := 4) (h.kind hc) (h'.kind hc) ih ih' (.inr (.inr (.inr ⟨rfl, rfl, rfl⟩)))
  | coal h h' ih ih' => exact sound_coal (h.kind hc) (h'.kind hc) ih ih'
end Go.Proofs.YtnkpnnphmimagaaDoor

