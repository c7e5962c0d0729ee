/- Layer 47 (date): leap years, days of months, days since the first one, days of the week: what the functions of the program and of the reference return. No condition but ranges where they are named. -/
import Derived.Test.Ytjiofcnlibkhkaa47S
namespace Go.Proofs.Ytjiofcnlibkhkaa
open Go.RowKit

theorem tmod_pos {y : Int} (h : 0 ≤ y) (n : Int) : Int.tmod y n = y % n := Int.tmod_eq_emod_of_nonneg h
theorem tdiv_pos {y : Int} (h : 0 ≤ y) (n : Int) : Int.tdiv y n = y / n := Int.tdiv_eq_ediv_of_nonneg h

set_option maxRecDepth 100000 in
set_option maxHeartbeats 1000000 in
theorem p47_Leap {y : Int} {w : World} : Calls Try.prog 7 #[.int .i64 y] w (Ret (.bool (leapL y)) w) := by
  by_cases h1 : y < 1
  · have e : leapL y = false := decide_eq_false (by omega)
    rw [e]
    have h1' : ¬ 1 ≤ y := by omega
    go_enter Try.func7, Try.ntmps7
    go_wp2
    go_ret
    exact ⟨rfl, rfl⟩
  by_cases h2 : 9999 < y
  · have e : leapL y = false := decide_eq_false (by omega)
    rw [e]
    have h1' : 1 ≤ y := by omega
    have h2' : ¬ y ≤ 9999 := by omega
    go_enter Try.func7, Try.ntmps7
    go_wp2
    go_ret
    exact ⟨rfl, rfl⟩
  have h1' : 1 ≤ y := by omega
  have h2' : y ≤ 9999 := by omega
  have q4 := tmod_pos (y := y) (by omega) 4
  have q100 := tmod_pos (y := y) (by omega) 100
  have q400 := tmod_pos (y := y) (by omega) 400
  have HL : Hid (leapL y = decide (y % 4 = 0 ∧ (¬ y % 100 = 0 ∨ y % 400 = 0))) := by
    show _ = _
    unfold leapL
    rw [Bool.eq_iff_iff]; simp only [decide_eq_true_eq]; omega
  have hx : Hid ((y % 100 = 0 → y % 4 = 0) ∧ (y % 400 = 0 → y % 100 = 0)) := ⟨by omega, by omega⟩
  obtain ⟨L, hL⟩ : ∃ L, leapL y = L := ⟨_, rfl⟩
  rw [hL] at HL ⊢
  clear hL
  obtain ⟨a, ha⟩ : ∃ a, y % 4 = a := ⟨_, rfl⟩
  obtain ⟨b, hb⟩ : ∃ b, y % 100 = b := ⟨_, rfl⟩
  obtain ⟨c, hc⟩ : ∃ c, y % 400 = c := ⟨_, rfl⟩
  have ra : 0 ≤ a ∧ a < 4 := by omega
  have rb : 0 ≤ b ∧ b < 100 := by omega
  have rc : 0 ≤ c ∧ c < 400 := by omega
  rw [ha] at q4 HL hx
  rw [hb] at q100 HL hx
  rw [hc] at q400 HL hx
  clear ha hb hc
  by_cases h4 : a = 0 <;> by_cases h100 : b = 0 <;> by_cases h400 : c = 0
  all_goals first
    | exact absurd (hx.out.1 h100) h4
    | exact absurd (hx.out.2 h400) h100
    | skip
  all_goals (have e := HL.out; simp only [h4, h100, h400] at e; (try simp at e); (try subst e); clear HL hx)
  all_goals (try subst h4)
  all_goals (try subst h100)
  all_goals (try subst h400)
  all_goals (go_enter Try.func7, Try.ntmps7; go_wp2; go_ret; first | exact ⟨rfl, rfl⟩ | exact ⟨ret_bool (by simp; try omega), rfl⟩)
set_option maxRecDepth 100000 in
set_option maxHeartbeats 1000000 in
theorem r47_Leap {y : Int} {w : World} : Calls Try.prog 8 #[.int .i64 y] w (Ret (.bool (leapL y)) w) := by
  by_cases h1 : y < 1
  · have e : leapL y = false := decide_eq_false (by omega)
    rw [e]
    have h1' : ¬ 1 ≤ y := by omega
    go_enter Try.func8, Try.ntmps8
    go_wp2
    go_ret
    exact ⟨rfl, rfl⟩
  by_cases h2 : 9999 < y
  · have e : leapL y = false := decide_eq_false (by omega)
    rw [e]
    have h1' : 1 ≤ y := by omega
    have h2' : ¬ y ≤ 9999 := by omega
    go_enter Try.func8, Try.ntmps8
    go_wp2
    go_ret
    exact ⟨rfl, rfl⟩
  have h1' : 1 ≤ y := by omega
  have h2' : y ≤ 9999 := by omega
  have q4 := tmod_pos (y := y) (by omega) 4
  have q100 := tmod_pos (y := y) (by omega) 100
  have q400 := tmod_pos (y := y) (by omega) 400
  have HL : Hid (leapL y = decide (y % 4 = 0 ∧ (¬ y % 100 = 0 ∨ y % 400 = 0))) := by
    show _ = _
    unfold leapL
    rw [Bool.eq_iff_iff]; simp only [decide_eq_true_eq]; omega
  have hx : Hid ((y % 100 = 0 → y % 4 = 0) ∧ (y % 400 = 0 → y % 100 = 0)) := ⟨by omega, by omega⟩
  obtain ⟨L, hL⟩ : ∃ L, leapL y = L := ⟨_, rfl⟩
  rw [hL] at HL ⊢
  clear hL
  obtain ⟨a, ha⟩ : ∃ a, y % 4 = a := ⟨_, rfl⟩
  obtain ⟨b, hb⟩ : ∃ b, y % 100 = b := ⟨_, rfl⟩
  obtain ⟨c, hc⟩ : ∃ c, y % 400 = c := ⟨_, rfl⟩
  have ra : 0 ≤ a ∧ a < 4 := by omega
  have rb : 0 ≤ b ∧ b < 100 := by omega
  have rc : 0 ≤ c ∧ c < 400 := by omega
  rw [ha] at q4 HL hx
  rw [hb] at q100 HL hx
  rw [hc] at q400 HL hx
  clear ha hb hc
  by_cases h4 : a = 0 <;> by_cases h100 : b = 0 <;> by_cases h400 : c = 0
  all_goals first
    | exact absurd (hx.out.1 h100) h4
    | exact absurd (hx.out.2 h400) h100
    | skip
  all_goals (have e := HL.out; simp only [h4, h100, h400] at e; (try simp at e); (try subst e); clear HL hx)
  all_goals (try subst h4)
  all_goals (try subst h100)
  all_goals (try subst h400)
  all_goals (go_enter Try.func8, Try.ntmps8; go_wp2; go_ret; first | exact ⟨rfl, rfl⟩ | exact ⟨ret_bool (by simp; try omega), rfl⟩)
set_option maxRecDepth 100000 in
set_option maxHeartbeats 2000000 in
theorem p47_Days {y m : Int} {w : World} : Calls Try.prog 9 #[.int .i64 y, .int .i64 m] w (Ret (.int .i64 (daysL y m)) w) := by
  by_cases hy : 1 ≤ y ∧ y ≤ 9999
  · obtain ⟨hy1, hy2⟩ := hy
    have hy1' : ¬ y < 1 := by omega
    have hy2' : ¬ 9999 < y := by omega
    have HD := Lib.hid (show daysL y m = (if m = 4 ∨ m = 6 ∨ m = 9 ∨ m = 11 then 30 else if m = 2 then (if leapL y then 29 else 28) else if m = 1 ∨ m = 3 ∨ m = 5 ∨ m = 7 ∨ m = 8 ∨ m = 10 ∨ m = 12 then 31 else 0) from by unfold daysL; rw [if_pos ⟨hy1, hy2⟩])
    obtain ⟨D, hD⟩ : ∃ D, daysL y m = D := ⟨_, rfl⟩
    rw [hD] at HD ⊢
    clear hD
    have hlp := p47_Leap (y := y) (w := w)
    obtain ⟨L, hL⟩ : ∃ L, leapL y = L := ⟨_, rfl⟩
    rw [hL] at hlp HD
    clear hL
    by_cases h1 : m = 1
    · subst h1
      have e := HD.out; simp at e; subst e; clear HD hlp
      go_enter Try.func9, Try.ntmps9
      go_wp2
      go_ret
      exact ⟨rfl, rfl⟩
    by_cases h2 : m = 2
    · subst h2
      cases L
      all_goals (have e := HD.out; simp at e; subst e; clear HD; go_enter Try.func9, Try.ntmps9; go_wp2_with (go_at_call 7; refine hlp.mono ?_; rintro e w' ⟨rfl, rfl⟩); go_ret; exact ⟨rfl, rfl⟩)
    by_cases h3 : m = 3
    · subst h3
      have e := HD.out; simp at e; subst e; clear HD hlp
      go_enter Try.func9, Try.ntmps9
      go_wp2
      go_ret
      exact ⟨rfl, rfl⟩
    by_cases h4 : m = 4
    · subst h4
      have e := HD.out; simp at e; subst e; clear HD hlp
      go_enter Try.func9, Try.ntmps9
      go_wp2
      go_ret
      exact ⟨rfl, rfl⟩
    by_cases h5 : m = 5
    · subst h5
      have e := HD.out; simp at e; subst e; clear HD hlp
      go_enter Try.func9, Try.ntmps9
      go_wp2
      go_ret
      exact ⟨rfl, rfl⟩
    by_cases h6 : m = 6
    · subst h6
      have e := HD.out; simp at e; subst e; clear HD hlp
      go_enter Try.func9, Try.ntmps9
      go_wp2
      go_ret
      exact ⟨rfl, rfl⟩
    by_cases h7 : m = 7
    · subst h7
      have e := HD.out; simp at e; subst e; clear HD hlp
      go_enter Try.func9, Try.ntmps9
      go_wp2
      go_ret
      exact ⟨rfl, rfl⟩
    by_cases h8 : m = 8
    · subst h8
      have e := HD.out; simp at e; subst e; clear HD hlp
      go_enter Try.func9, Try.ntmps9
      go_wp2
      go_ret
      exact ⟨rfl, rfl⟩
    by_cases h9 : m = 9
    · subst h9
      have e := HD.out; simp at e; subst e; clear HD hlp
      go_enter Try.func9, Try.ntmps9
      go_wp2
      go_ret
      exact ⟨rfl, rfl⟩
    by_cases h10 : m = 10
    · subst h10
      have e := HD.out; simp at e; subst e; clear HD hlp
      go_enter Try.func9, Try.ntmps9
      go_wp2
      go_ret
      exact ⟨rfl, rfl⟩
    by_cases h11 : m = 11
    · subst h11
      have e := HD.out; simp at e; subst e; clear HD hlp
      go_enter Try.func9, Try.ntmps9
      go_wp2
      go_ret
      exact ⟨rfl, rfl⟩
    by_cases h12 : m = 12
    · subst h12
      have e := HD.out; simp at e; subst e; clear HD hlp
      go_enter Try.func9, Try.ntmps9
      go_wp2
      go_ret
      exact ⟨rfl, rfl⟩
    have e := HD.out
    simp only [h1, h2, h3, h4, h5, h6, h7, h8, h9, h10, h11, h12, or_false, if_false] at e
    subst e
    clear HD hlp
    go_enter Try.func9, Try.ntmps9
    go_wp2
    go_ret
    exact ⟨rfl, rfl⟩
  · have e : daysL y m = 0 := by unfold daysL; rw [if_neg hy]
    rw [e]
    clear e
    by_cases hlo : y < 1
    · go_enter Try.func9, Try.ntmps9
      go_wp2
      go_ret
      exact ⟨rfl, rfl⟩
    · have hhi : 9999 < y := by omega
      clear hy
      go_enter Try.func9, Try.ntmps9
      go_wp2
      go_ret
      exact ⟨rfl, rfl⟩
set_option maxRecDepth 100000 in
set_option maxHeartbeats 2000000 in
theorem r47_Days {y m : Int} {w : World} : Calls Try.prog 10 #[.int .i64 y, .int .i64 m] w (RetB (.int .i64 (daysL y m)) w) := by
  by_cases hy : 1 ≤ y ∧ y ≤ 9999
  · obtain ⟨hy1, hy2⟩ := hy
    have hy1' : ¬ y < 1 := by omega
    have hy2' : ¬ 9999 < y := by omega
    have HD := Lib.hid (show daysL y m = (if m = 4 ∨ m = 6 ∨ m = 9 ∨ m = 11 then 30 else if m = 2 then (if leapL y then 29 else 28) else if m = 1 ∨ m = 3 ∨ m = 5 ∨ m = 7 ∨ m = 8 ∨ m = 10 ∨ m = 12 then 31 else 0) from by unfold daysL; rw [if_pos ⟨hy1, hy2⟩])
    obtain ⟨D, hD⟩ : ∃ D, daysL y m = D := ⟨_, rfl⟩
    rw [hD] at HD ⊢
    clear hD
    have hlp := r47_Leap (y := y) (w := w)
    obtain ⟨L, hL⟩ : ∃ L, leapL y = L := ⟨_, rfl⟩
    rw [hL] at hlp HD
    clear hL
    by_cases h1 : m = 1
    · subst h1
      have e := HD.out; simp at e; subst e; clear HD hlp
      go_enter Try.func10, Try.ntmps10
      go_wp2
      go_ret
      exact ⟨rfl, by first | exact Below.refl _ _ | exact (Below.refl _ _).alloc (Nat.le_refl _) _⟩
    by_cases h2 : m = 2
    · subst h2
      cases L
      all_goals (have e := HD.out; simp at e; subst e; clear HD; go_enter Try.func10, Try.ntmps10; go_wp2_with (go_at_call 8; refine hlp.mono ?_; rintro e w' ⟨rfl, rfl⟩); go_ret; exact ⟨rfl, by first | exact Below.refl _ _ | exact (Below.refl _ _).alloc (Nat.le_refl _) _⟩)
    by_cases h3 : m = 3
    · subst h3
      have e := HD.out; simp at e; subst e; clear HD hlp
      go_enter Try.func10, Try.ntmps10
      go_wp2
      go_ret
      exact ⟨rfl, by first | exact Below.refl _ _ | exact (Below.refl _ _).alloc (Nat.le_refl _) _⟩
    by_cases h4 : m = 4
    · subst h4
      have e := HD.out; simp at e; subst e; clear HD hlp
      go_enter Try.func10, Try.ntmps10
      go_wp2
      go_ret
      exact ⟨rfl, by first | exact Below.refl _ _ | exact (Below.refl _ _).alloc (Nat.le_refl _) _⟩
    by_cases h5 : m = 5
    · subst h5
      have e := HD.out; simp at e; subst e; clear HD hlp
      go_enter Try.func10, Try.ntmps10
      go_wp2
      go_ret
      exact ⟨rfl, by first | exact Below.refl _ _ | exact (Below.refl _ _).alloc (Nat.le_refl _) _⟩
    by_cases h6 : m = 6
    · subst h6
      have e := HD.out; simp at e; subst e; clear HD hlp
      go_enter Try.func10, Try.ntmps10
      go_wp2
      go_ret
      exact ⟨rfl, by first | exact Below.refl _ _ | exact (Below.refl _ _).alloc (Nat.le_refl _) _⟩
    by_cases h7 : m = 7
    · subst h7
      have e := HD.out; simp at e; subst e; clear HD hlp
      go_enter Try.func10, Try.ntmps10
      go_wp2
      go_ret
      exact ⟨rfl, by first | exact Below.refl _ _ | exact (Below.refl _ _).alloc (Nat.le_refl _) _⟩
    by_cases h8 : m = 8
    · subst h8
      have e := HD.out; simp at e; subst e; clear HD hlp
      go_enter Try.func10, Try.ntmps10
      go_wp2
      go_ret
      exact ⟨rfl, by first | exact Below.refl _ _ | exact (Below.refl _ _).alloc (Nat.le_refl _) _⟩
    by_cases h9 : m = 9
    · subst h9
      have e := HD.out; simp at e; subst e; clear HD hlp
      go_enter Try.func10, Try.ntmps10
      go_wp2
      go_ret
      exact ⟨rfl, by first | exact Below.refl _ _ | exact (Below.refl _ _).alloc (Nat.le_refl _) _⟩
    by_cases h10 : m = 10
    · subst h10
      have e := HD.out; simp at e; subst e; clear HD hlp
      go_enter Try.func10, Try.ntmps10
      go_wp2
      go_ret
      exact ⟨rfl, by first | exact Below.refl _ _ | exact (Below.refl _ _).alloc (Nat.le_refl _) _⟩
    by_cases h11 : m = 11
    · subst h11
      have e := HD.out; simp at e; subst e; clear HD hlp
      go_enter Try.func10, Try.ntmps10
      go_wp2
      go_ret
      exact ⟨rfl, by first | exact Below.refl _ _ | exact (Below.refl _ _).alloc (Nat.le_refl _) _⟩
    by_cases h12 : m = 12
    · subst h12
      have e := HD.out; simp at e; subst e; clear HD hlp
      go_enter Try.func10, Try.ntmps10
      go_wp2
      go_ret
      exact ⟨rfl, by first | exact Below.refl _ _ | exact (Below.refl _ _).alloc (Nat.le_refl _) _⟩
    have e := HD.out
    simp only [h1, h2, h3, h4, h5, h6, h7, h8, h9, h10, h11, h12, or_false, if_false] at e
    subst e
    clear HD hlp
    by_cases hlo : m < 1
    · go_enter Try.func10, Try.ntmps10
      go_wp2
      go_ret
      exact ⟨rfl, Below.refl _ _⟩
    · have hhi : 12 < m := by omega
      go_enter Try.func10, Try.ntmps10
      go_wp2
      go_ret
      exact ⟨rfl, Below.refl _ _⟩
  · have e : daysL y m = 0 := by unfold daysL; rw [if_neg hy]
    rw [e]
    clear e
    by_cases hlo : y < 1
    · go_enter Try.func10, Try.ntmps10
      go_wp2
      go_ret
      exact ⟨rfl, Below.refl _ _⟩
    · have hhi : 9999 < y := by omega
      clear hy
      go_enter Try.func10, Try.ntmps10
      go_wp2
      go_ret
      exact ⟨rfl, Below.refl _ _⟩
end Go.Proofs.Ytjiofcnlibkhkaa
