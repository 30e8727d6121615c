/-
  Frames as plain mathematics: what is put together is taken apart, and the other way round; none begins with another one. No program here.
-/
import Derived.Test.YtgakkghlphnoaaaParse
namespace Go.Proofs.Ytgakkghlphnoaaa
set_option linter.unusedSimpArgs false
set_option linter.unusedVariables false

theorem byteOf_nat (n : Nat) : (byteOf (n : Int)).toNat = n % 256 := by
  have := byteOf_val (n : Int)
  omega
theorem byteOf_u8 (b : UInt8) : byteOf (b.toNat : Int) = b := by
  apply UInt8.toNat_inj.1
  rw [byteOf_nat]
  have := b.toNat_lt
  omega
theorem fourL_nat (n : Nat) : fourL (n : Int) = [byteOf ((n / 16777216 : Nat) : Int), byteOf ((n / 65536 : Nat) : Int), byteOf ((n / 256 : Nat) : Int), byteOf (n : Int)] := by
  simp [fourL]
theorem be4_four (n : Nat) (X : List UInt8) (h : n < 4294967296) : be4 (fourL (n : Int) ++ X) = n := by
  rw [fourL_nat]
  simp only [be4, List.cons_append, List.nil_append, List.getD_cons_zero, List.getD_cons_succ, byteOf_nat]
  omega
theorem stepP_part (p X : List UInt8) (h : p.length < 4294967296) : stepP (partF p ++ X) = some (p, X) := by
  have e : partF p ++ X = fourL (p.length : Int) ++ (p ++ X) := by simp [partF]
  unfold stepP
  rw [e, be4_four _ _ h]
  have h4 : (fourL (p.length : Int) ++ (p ++ X)).drop 4 = p ++ X := by
    rw [List.drop_append_of_le_length (by simp [fourL_len])]
    simp [fourL]
  rw [h4, if_neg (by simp [fourL_len]), if_neg (by simp)]
  simp
theorem parseP_take (ps : List (List UInt8)) (rest : List UInt8) (hp : ∀ p ∈ ps, p.length < 4294967296) (k : Nat) (hk : k ≤ ps.length) :
    parseP k (ps.flatMap partF ++ rest) = some (ps.take k, (ps.drop k).flatMap partF ++ rest) := by
  induction k with
  | zero => rfl
  | succ k ih =>
    show (parseP k _).bind _ = _
    rw [ih (by omega), Option.bind_some]
    have hd : ps.drop k = ps[k] :: ps.drop (k + 1) := List.drop_eq_getElem_cons (by omega)
    simp only [hd, List.flatMap_cons, List.append_assoc]
    rw [stepP_part _ _ (hp _ (List.getElem_mem _)), Option.map_some, List.take_succ_eq_append_getElem (by omega)]
theorem parseP_frame (ps : List (List UInt8)) (rest : List UInt8) (hp : ∀ p ∈ ps, p.length < 4294967296) : parseP ps.length (ps.flatMap partF ++ rest) = some (ps, rest) := by
  rw [parseP_take ps rest hp ps.length (Nat.le_refl _)]
  simp
theorem part_le (ps : List (List UInt8)) (p : List UInt8) (h : p ∈ ps) : p.length ≤ (ps.flatMap partF).length := by
  induction ps with
  | nil => cases h
  | cons q ps ih =>
    simp only [List.flatMap_cons, List.length_append, partF, fourL_len]
    rcases List.mem_cons.1 h with rfl | h
    · omega
    · have := ih h; omega
theorem parse_frame (t : Int) (ps : List (List UInt8)) (ht : 1 ≤ t) (ht2 : t ≤ 9) (hn : ps.length ≤ 8) (hs : (frameL t ps).length ≤ 16777216) : parseL (frameL t ps) = .ok (t, ps) := by
  have hfl := frameL_len t ps
  obtain ⟨u, rfl⟩ := Int.eq_ofNat_of_zero_le (show 0 ≤ t by omega)
  have h0 : (frameL (u : Int) ps).getD 0 0 = byteOf (u : Int) := rfl
  have h1 : (frameL (u : Int) ps).getD 1 0 = byteOf (ps.length : Int) := rfl
  have hd : (frameL (u : Int) ps).drop 2 = ps.flatMap partF ++ [] := by simp [frameL]
  unfold parseL
  rw [if_neg (by omega), if_neg (by omega), h0, h1, byteOf_nat, byteOf_nat, if_neg (by omega), if_neg (by omega), if_neg (by omega), hd, show ps.length % 256 = ps.length by omega,
    parseP_frame ps [] (fun p hp => by have := part_le ps p hp; omega), show u % 256 = u by omega]
  simp
theorem cons4 (r : List UInt8) (h : 4 ≤ r.length) : ∃ a b c d r', r = a :: b :: c :: d :: r' := by
  match r with
  | [] => simp at h
  | [_] => simp at h
  | [_, _] => simp at h
  | [_, _, _] => simp at h
  | a :: b :: c :: d :: r' => exact ⟨a, b, c, d, r', rfl⟩
theorem cons2 (r : List UInt8) (h : 2 ≤ r.length) : ∃ a b r', r = a :: b :: r' := by
  match r with
  | [] => simp at h
  | [_] => simp at h
  | a :: b :: r' => exact ⟨a, b, r', rfl⟩
theorem stepP_inv (r p X : List UInt8) (h : stepP r = some (p, X)) : r = partF p ++ X := by
  unfold stepP at h
  by_cases c1 : r.length < 4
  · rw [if_pos c1] at h; cases h
  · rw [if_neg c1] at h
    by_cases c2 : (r.drop 4).length < be4 r
    · rw [if_pos c2] at h; cases h
    · rw [if_neg c2] at h
      simp only [Option.some.injEq, Prod.mk.injEq] at h
      obtain ⟨rfl, rfl⟩ := h
      obtain ⟨a, b, c, d, r', rfl⟩ := cons4 r (by omega)
      have e4 : (a :: b :: c :: d :: r').drop 4 = r' := rfl
      rw [e4] at c2 ⊢
      have ha := a.toNat_lt
      have hb := b.toNat_lt
      have hc := c.toNat_lt
      have hd := d.toNat_lt
      have hbe : be4 (a :: b :: c :: d :: r') = a.toNat * 16777216 + b.toNat * 65536 + c.toNat * 256 + d.toNat := rfl
      generalize hq : be4 (a :: b :: c :: d :: r') = q at *
      have hl : (r'.take q).length = q := by rw [List.length_take]; omega
      unfold partF
      rw [hl, fourL_nat, hbe, List.append_assoc, List.take_append_drop]
      have f1 : byteOf (((a.toNat * 16777216 + b.toNat * 65536 + c.toNat * 256 + d.toNat) / 16777216 : Nat) : Int) = a := by
        rw [show (a.toNat * 16777216 + b.toNat * 65536 + c.toNat * 256 + d.toNat) / 16777216 = a.toNat by omega]; exact byteOf_u8 a
      have f2 : byteOf (((a.toNat * 16777216 + b.toNat * 65536 + c.toNat * 256 + d.toNat) / 65536 : Nat) : Int) = b := by
        apply UInt8.toNat_inj.1; rw [byteOf_nat]; omega
      have f3 : byteOf (((a.toNat * 16777216 + b.toNat * 65536 + c.toNat * 256 + d.toNat) / 256 : Nat) : Int) = c := by
        apply UInt8.toNat_inj.1; rw [byteOf_nat]; omega
      have f4 : byteOf ((a.toNat * 16777216 + b.toNat * 65536 + c.toNat * 256 + d.toNat : Nat) : Int) = d := by
        apply UInt8.toNat_inj.1; rw [byteOf_nat]; omega
      rw [f1, f2, f3, f4]
      rfl
theorem parseP_inv (b : List UInt8) (n : Nat) (ps : List (List UInt8)) (r : List UInt8) (h : parseP n b = some (ps, r)) : b = ps.flatMap partF ++ r := by
  induction n generalizing ps r with
  | zero => simp only [parseP, Option.some.injEq, Prod.mk.injEq] at h; obtain ⟨rfl, rfl⟩ := h; rfl
  | succ n ih =>
    simp only [parseP] at h
    rcases hp : parseP n b with _ | ⟨qs, q⟩
    · rw [hp] at h; cases h
    · rw [hp, Option.bind_some] at h
      rcases hs : stepP q with _ | ⟨y, z⟩
      · simp only [hs] at h; cases h
      · simp only [hs, Option.map_some, Option.some.injEq, Prod.mk.injEq] at h
        obtain ⟨rfl, rfl⟩ := h
        rw [ih qs q hp, stepP_inv q y z hs]
        simp
theorem parse_inv (b : List UInt8) (t : Int) (ps : List (List UInt8)) (h : parseL b = .ok (t, ps)) : 1 ≤ t ∧ t ≤ 9 ∧ ps.length ≤ 8 ∧ frameL t ps = b ∧ b.length ≤ 16777216 := by
  unfold parseL at h
  by_cases c1 : 16777216 < b.length
  · rw [if_pos c1] at h; cases h
  rw [if_neg c1] at h
  by_cases c2 : b.length < 1
  · rw [if_pos c2] at h; cases h
  rw [if_neg c2] at h
  by_cases c3 : (b.getD 0 0).toNat < 1 ∨ 9 < (b.getD 0 0).toNat
  · rw [if_pos c3] at h; cases h
  rw [if_neg c3] at h
  by_cases c4 : b.length < 2
  · rw [if_pos c4] at h; cases h
  rw [if_neg c4] at h
  by_cases c5 : 8 < (b.getD 1 0).toNat
  · rw [if_pos c5] at h; cases h
  rw [if_neg c5] at h
  rcases hp : parseP (b.getD 1 0).toNat (b.drop 2) with _ | ⟨qs, q⟩
  · rw [hp] at h; cases h
  rw [hp] at h
  simp only at h
  by_cases c6 : 0 < q.length
  · rw [if_pos c6] at h; cases h
  rw [if_neg c6] at h
  simp only [Except.ok.injEq, Prod.mk.injEq] at h
  obtain ⟨rfl, rfl⟩ := h
  obtain rfl := List.eq_nil_of_length_eq_zero (show q.length = 0 by omega)
  have hlen := (parseP_len _ _ _ _ hp).1
  have hinv := parseP_inv _ _ _ _ hp
  rw [List.append_nil] at hinv
  refine ⟨by omega, by omega, by omega, ?_, by omega⟩
  obtain ⟨x, y, b', rfl⟩ := cons2 b (by omega)
  simp only [List.getD_cons_zero, List.getD_cons_succ] at *
  unfold frameL
  rw [byteOf_u8, hlen, byteOf_u8, ← hinv]
  rfl
theorem frame_prefix (t u : Int) (p q : List (List UInt8)) (ht : 1 ≤ t) (ht2 : t ≤ 9) (hu : 1 ≤ u) (hu2 : u ≤ 9) (hp : p.length ≤ 8) (hq : q.length ≤ 8) (hsp : (frameL t p).length ≤ 16777216) (hsq : (frameL u q).length ≤ 16777216)
    (rest : List UInt8) (h : frameL u q = frameL t p ++ rest) : t = u ∧ p = q := by
  have h1 := frameL_len t p
  have h2 := frameL_len u q
  simp only [frameL, List.cons_append, List.cons.injEq] at h
  obtain ⟨e1, e2, e3⟩ := h
  have htu : t = u := by
    have a1 := byteOf_val t
    have a2 := byteOf_val u
    rw [e1] at a2
    omega
  have hpq : p.length = q.length := by
    have a1 := byteOf_nat p.length
    have a2 := byteOf_nat q.length
    rw [e2] at a2
    omega
  refine ⟨htu, ?_⟩
  have b1 := parseP_frame p rest (fun x hx => by have := part_le p x hx; omega)
  have b2 := parseP_frame q [] (fun x hx => by have := part_le q x hx; omega)
  rw [List.append_nil, e3, ← hpq, b1] at b2
  simp only [Option.some.injEq, Prod.mk.injEq] at b2
  exact b2.1
theorem frame_apart (t u : Int) (p q : List (List UInt8)) (ht : 1 ≤ t) (ht2 : t ≤ 9) (hu : 1 ≤ u) (hu2 : u ≤ 9) (hp : p.length ≤ 8) (hq : q.length ≤ 8) (hsp : (frameL t p).length ≤ 16777216) (hsq : (frameL u q).length ≤ 16777216)
    (n : Nat) (hn : n = min (frameL t p).length (frameL u q).length) : ((frameL t p).take n = (frameL u q).take n ↔ t = u ∧ p = q) ∧ (frameL t p = frameL u q ↔ t = u ∧ p = q) := by
  have key : (frameL t p).take n = (frameL u q).take n → t = u ∧ p = q := by
    intro h
    rcases Nat.le_total (frameL t p).length (frameL u q).length with hle | hle
    · rw [List.take_of_length_le (l := frameL t p) (by omega)] at h
      exact frame_prefix t u p q ht ht2 hu hu2 hp hq hsp hsq ((frameL u q).drop n) (by rw [h, List.take_append_drop])
    · rw [List.take_of_length_le (l := frameL u q) (by omega)] at h
      have := frame_prefix u t q p hu hu2 ht ht2 hq hp hsq hsp ((frameL t p).drop n) (by rw [← h, List.take_append_drop])
      exact ⟨this.1.symm, this.2.symm⟩
  exact ⟨⟨key, fun ⟨h1, h2⟩ => by rw [h1, h2]⟩, ⟨fun h => key (by rw [h]), fun ⟨h1, h2⟩ => by rw [h1, h2]⟩⟩
/-- How long the frame of few short parts is. -/
theorem frame_short (t : Int) (l : List Raw) : (frameL t (partsL l)).length ≤ 300 ∧ (partsL l).length ≤ 8 := by
  have h8 : (partsL l).length ≤ 8 := by simp [partsL]; omega
  have h30 : ∀ p ∈ partsL l, p.length ≤ 30 := by
    intro p hp
    unfold partsL at hp
    obtain ⟨r, _, rfl⟩ := List.mem_map.1 hp
    unfold partL
    rw [List.length_take]; omega
  refine ⟨?_, h8⟩
  rw [frameL_len]
  generalize partsL l = ps at *
  have : ∀ qs : List (List UInt8), (∀ p ∈ qs, p.length ≤ 30) → (qs.flatMap partF).length ≤ 34 * qs.length := by
    intro qs
    induction qs with
    | nil => intro _; simp
    | cons q qs ih =>
      intro h
      have h1 := ih (fun p hp => h p (List.mem_cons_of_mem _ hp))
      have h2 := h q List.mem_cons_self
      simp only [List.flatMap_cons, List.length_append, partF, fourL_len, List.length_cons]
      omega
  have := this ps h30
  omega
end Go.Proofs.Ytgakkghlphnoaaa
