/- Layer 14 in plain words: what is laid is read, what is read is laid as the same. No program. -/
import Derived.Test.Ytibnmekifaaacaa14R
namespace Go.Proofs.Ytibnmekifaaacaa
open Go.RowKit

theorem valL_digL (n : Int) : isD (digL n) = true ∧ valL (digL n) = n % 64 ∧ digL n ≠ 61 := by
  have h := d64_val (k := n % 64) (by omega)
  exact ⟨h.1, h.2.1, h.2.2.2.2⟩
theorem bare3_all : ∀ xs : List Int, ∀ y ∈ bare3 xs, ∃ n, y = digL n
  | [], y, h => by simp [bare3] at h
  | [a], y, h => by simp [bare3] at h; rcases h with h | h <;> exact ⟨_, h⟩
  | [a, b], y, h => by simp [bare3] at h; rcases h with h | h | h <;> exact ⟨_, h⟩
  | a :: b :: c :: r, y, h => by
    simp only [bare3, List.mem_cons] at h
    rcases h with h | h | h | h | h
    · exact ⟨_, h⟩
    · exact ⟨_, h⟩
    · exact ⟨_, h⟩
    · exact ⟨_, h⟩
    · exact bare3_all r y h
theorem bare3_allD (xs : List Int) : allD (bare3 xs) = true := by
  unfold allD; rw [List.all_eq_true]
  intro y hy; obtain ⟨n, rfl⟩ := bare3_all xs y hy; exact (valL_digL n).1
theorem bare3_no61 (xs : List Int) : ∀ y ∈ bare3 xs, y ≠ 61 := by
  intro y hy; obtain ⟨n, rfl⟩ := bare3_all xs y hy; exact (valL_digL n).2.2
theorem strip1_snoc (l : List Int) : strip1 (l ++ [61]) = l := by simp [strip1]
theorem strip1_none {l : List Int} (h : ∀ y ∈ l, y ≠ 61) : strip1 l = l := by
  unfold strip1
  rw [if_neg]
  intro h2
  exact h 61 (List.mem_of_getLast? h2) rfl
theorem bodyL_pad {l : List Int} (h : ∀ y ∈ l, y ≠ 61) {t : Nat} (ht : t ≤ 2) : bodyL (l ++ List.replicate t 61) = l := by
  unfold bodyL
  have : t = 0 ∨ t = 1 ∨ t = 2 := by omega
  rcases this with h1 | h1 | h1 <;> subst h1
  · simp only [List.replicate_zero, List.append_nil]; rw [strip1_none h, strip1_none h]
  · rw [show List.replicate 1 (61 : Int) = [61] from rfl, strip1_snoc, strip1_none h]
  · rw [show List.replicate 2 (61 : Int) = [61] ++ [61] from rfl, ← List.append_assoc, strip1_snoc, strip1_snoc]
theorem bodyL_lay (xs : List Int) : bodyL (layL xs) = bare3 xs := by
  unfold layL padEq
  refine bodyL_pad (bare3_no61 xs) ?_
  rw [bare3_length]; split <;> omega
theorem sixesL_cons (x : Int) (r : List Int) : sixesL (x :: r) = sixBits (valL x) ++ sixesL r := by simp [sixesL]
theorem oct_two {u v : Int} (hu : 0 ≤ u ∧ u < 64) (hv : 0 ≤ v ∧ v < 64) : oct8 (sixBits u ++ (sixBits v ++ [])) = [u * 4 + v / 16] ∧ numL (rest8 (sixBits u ++ (sixBits v ++ []))) = v % 16 := by
  obtain ⟨p1, p2, p3, p4, p5⟩ := six_parts hu
  obtain ⟨q1, q2, q3, q4, q5⟩ := six_parts hv
  simp only [List.append_nil, sixBits, List.cons_append, List.nil_append, rest8, oct8, numL, List.foldl_cons, List.foldl_nil]
  refine ⟨?_, by omega⟩
  congr 1; omega
theorem oct_three {u v w : Int} (hu : 0 ≤ u ∧ u < 64) (hv : 0 ≤ v ∧ v < 64) (hw : 0 ≤ w ∧ w < 64) : oct8 (sixBits u ++ (sixBits v ++ (sixBits w ++ []))) = [u * 4 + v / 16, v % 16 * 16 + w / 4] ∧ numL (rest8 (sixBits u ++ (sixBits v ++ (sixBits w ++ [])))) = w % 4 := by
  obtain ⟨p1, p2, p3, p4, p5⟩ := six_parts hu
  obtain ⟨q1, q2, q3, q4, q5⟩ := six_parts hv
  obtain ⟨r1, r2, r3, r4, r5⟩ := six_parts hw
  simp only [List.append_nil, sixBits, List.cons_append, List.nil_append, rest8, oct8, numL, List.foldl_cons, List.foldl_nil]
  exact ⟨cons2 (by omega) (by omega), by omega⟩
theorem oct_bare : ∀ xs : List Int, (∀ x ∈ xs, 0 ≤ x ∧ x ≤ 255) → oct8 (sixesL (bare3 xs)) = xs ∧ numL (rest8 (sixesL (bare3 xs))) = 0
  | [], _ => ⟨rfl, rfl⟩
  | [a], h => by
    have ha := h a (by simp)
    simp only [bare3, sixesL_cons, (valL_digL _).2.1]
    obtain ⟨o1, o2⟩ := oct_two (u := a / 4 % 64) (v := a % 4 * 16 % 64) (by omega) (by omega)
    rw [show sixesL [] = [] from rfl, o1, o2]
    exact ⟨by congr 1; omega, by omega⟩
  | [a, b], h => by
    have ha := h a (by simp)
    have hb := h b (by simp)
    simp only [bare3, sixesL_cons, (valL_digL _).2.1]
    obtain ⟨o1, o2⟩ := oct_three (u := a / 4 % 64) (v := (a % 4 * 16 + b / 16) % 64) (w := b % 16 * 4 % 64) (by omega) (by omega) (by omega)
    rw [show sixesL [] = [] from rfl, o1, o2]
    exact ⟨cons2 (by omega) (by omega), by omega⟩
  | a :: b :: c :: r, h => by
    have ha := h a (by simp)
    have hb := h b (by simp)
    have hc := h c (by simp)
    obtain ⟨h1, h2⟩ := oct_bare r fun x hx => h x (by simp [hx])
    simp only [bare3, sixesL_cons, (valL_digL _).2.1]
    obtain ⟨o1, o2⟩ := oct_four (a := a / 4 % 64) (b := (a % 4 * 16 + b / 16) % 64) (c := (b % 16 * 4 + c / 64) % 64) (d := c % 64 % 64) (by omega) (by omega) (by omega) (by omega) (sixesL (bare3 r))
    rw [o1, o2, h1]
    exact ⟨cons3 (by omega) (by omega) (by omega), h2⟩
theorem read_lay {xs : List Int} (h : ∀ x ∈ xs, 0 ≤ x ∧ x ≤ 255) : errB (layL xs) = 0 ∧ octB (layL xs) = xs := by
  obtain ⟨h1, h2⟩ := oct_bare xs h
  have h4 : (layL xs).length % 4 = 0 := by unfold layL padEq; rw [List.length_append, List.length_replicate]; omega
  have e : errB (layL xs) = 0 := by
    unfold errB sixB zeroL
    rw [bodyL_lay, bare3_allD, h2, h4]; rfl
  refine ⟨e, ?_⟩
  unfold octB; rw [if_pos e]; unfold sixB; rw [bodyL_lay, h1]

theorem digL_val {c : Int} (h : isD c = true) {n : Int} (e : n % 64 = valL c) : digL n = c := by
  unfold digL; rw [e]; exact (val_d64 h).1
theorem bare_oct : ∀ L : List Int, allD L = true → L.length % 4 ≠ 1 → numL (rest8 (sixesL L)) = 0 → bare3 (oct8 (sixesL L)) = L
  | [], _, _, _ => rfl
  | [a], _, h, _ => by simp at h
  | [a, b], h, _, hz => by
    simp [allD] at h
    have va := val_bd a
    have vb := val_bd b
    simp only [sixesL_cons] at hz ⊢
    obtain ⟨o1, o2⟩ := oct_two va vb
    rw [show sixesL [] = [] from rfl] at hz ⊢
    rw [o2] at hz
    rw [o1]
    simp only [bare3]
    exact cons2 (digL_val h.1 (by omega)) (digL_val h.2 (by omega))
  | [a, b, c], h, _, hz => by
    simp [allD] at h
    have va := val_bd a
    have vb := val_bd b
    have vc := val_bd c
    simp only [sixesL_cons] at hz ⊢
    obtain ⟨o1, o2⟩ := oct_three va vb vc
    rw [show sixesL [] = [] from rfl] at hz ⊢
    rw [o2] at hz
    rw [o1]
    simp only [bare3]
    exact cons3 (digL_val h.1 (by omega)) (digL_val h.2.1 (by omega)) (digL_val h.2.2 (by omega))
  | a :: b :: c :: d :: r, h, hl, hz => by
    simp [allD] at h
    have hr : allD r = true := by unfold allD; rw [List.all_eq_true]; exact h.2.2.2.2
    have va := val_bd a
    have vb := val_bd b
    have vc := val_bd c
    have vd := val_bd d
    simp only [sixesL_cons] at hz ⊢
    obtain ⟨o1, o2⟩ := oct_four va vb vc vd (sixesL r)
    rw [o2] at hz
    rw [o1, bare3, bare_oct r hr (by simp only [List.length_cons] at hl; omega) hz]
    exact cons4 (digL_val h.1 (by omega)) (digL_val h.2.1 (by omega)) (digL_val h.2.2.1 (by omega)) (digL_val h.2.2.2.1 (by omega))
theorem strip1_cases (l : List Int) : l = strip1 l ∨ l = strip1 l ++ [61] := by
  unfold strip1
  split
  · rename_i h
    right
    obtain ⟨h1, h2⟩ := List.getLast?_eq_some_iff.1 h
    rw [h2]; simp
  · left; rfl
theorem body_cases (l : List Int) : ∃ t, t ≤ 2 ∧ l = bodyL l ++ List.replicate t 61 := by
  unfold bodyL
  rcases strip1_cases l with h1 | h1 <;> rcases strip1_cases (strip1 l) with h2 | h2
  · exact ⟨0, by omega, by simp; rw [← h2, ← h1]⟩
  · exact ⟨1, by omega, by rw [show List.replicate 1 (61 : Int) = [61] from rfl, ← h2, ← h1]⟩
  · exact ⟨1, by omega, by rw [show List.replicate 1 (61 : Int) = [61] from rfl, ← h2, ← h1]⟩
  · refine ⟨2, by omega, ?_⟩
    rw [show List.replicate 2 (61 : Int) = [61] ++ [61] from rfl, ← List.append_assoc, ← h2, ← h1]
theorem lay_read {s : List Int} (h : errB s = 0) : layL (octB s) = s := by
  obtain ⟨t, ht, hs⟩ := body_cases s
  have hd : allD (bodyL s) = true := by
    cases e : allD (bodyL s)
    · unfold errB at h; rw [e] at h; simp at h
    · rfl
  have h4 : s.length % 4 = 0 := by
    rcases Nat.eq_zero_or_pos (s.length % 4) with e | e
    · exact e
    · unfold errB at h; rw [hd, if_neg (by simp), if_pos (by omega)] at h; simp at h
  have hz : numL (rest8 (sixB s)) = 0 := by
    cases e : zeroL (sixB s)
    · unfold errB at h; rw [hd, h4, e] at h; simp at h
    · simpa [zeroL] using e
  have hlen : s.length = (bodyL s).length + t := by
    have := congrArg List.length hs
    rw [List.length_append, List.length_replicate] at this; exact this
  unfold sixB at hz
  have hb := bare_oct (bodyL s) hd (by omega) hz
  unfold octB; rw [if_pos h]; unfold sixB layL; rw [hb]
  unfold padEq
  rw [show (4 - (bodyL s).length % 4) % 4 = t from by omega]
  exact hs.symm
end Go.Proofs.Ytibnmekifaaacaa
