/- Layer 47 (date): may a date be: what the functions of the program and of the reference return. No condition. -/
import Derived.Test.Ytjiofcnlibkhkaa47B
import Derived.Test.YtjiofcnlibkhkaaExtW
import Derived.Test.Ytjiofcnlibkhkaa47R
namespace Go.Proofs.Ytjiofcnlibkhkaa
open Go.RowKit

set_option maxRecDepth 100000 in
set_option maxHeartbeats 1000000 in
theorem p47_within {n most : Int} {w : World} : Calls Try.prog 30 #[.int .i64 n, .int .i64 most] w (Ret (.bool (wiL n most)) w) := by
  unfold wiL
  go_enter Try.func30, Try.ntmps30
  go_wp2
  all_goals go_ret
  all_goals exact ⟨ret_bool (by rw [Bool.eq_iff_iff]; simp; try omega), rfl⟩
set_option maxRecDepth 100000 in
set_option maxHeartbeats 40000000 in
theorem p47_May {Y M D h mi s z : Int} {w : World} : Calls Try.prog 19 #[.agg #[.int .i64 Y, .int .i64 M, .int .i64 D, .int .i64 h, .int .i64 mi, .int .i64 s, .int .i64 z]] w (RetB (.bool (mayL Y M D h mi s z)) w) := by
  have hc := fun w => p47_Days (y := Y) (m := M) (w := w)
  have hw4 := fun w => p47_within (n := h) (most := 23) (w := w)
  have hw5 := fun w => p47_within (n := mi) (most := 59) (w := w)
  have hw6 := fun w => p47_within (n := s) (most := 60) (w := w)
  have HM := Lib.hid (show mayL Y M D h mi s z = (decide (1900 ≤ Y) && decide (1 ≤ D) && decide (D ≤ daysL Y M) && wiL h 23 && wiL mi 59 && wiL s 60 && decide (-5999 ≤ z) && decide (z ≤ 5999)) from rfl)
  obtain ⟨R, hR⟩ : ∃ R, mayL Y M D h mi s z = R := ⟨_, rfl⟩
  rw [hR] at HM ⊢
  clear hR
  obtain ⟨DD, hD⟩ : ∃ DD, daysL Y M = DD := ⟨_, rfl⟩
  obtain ⟨b4, h4⟩ : ∃ b, wiL h 23 = b := ⟨_, rfl⟩
  obtain ⟨b5, h5⟩ : ∃ b, wiL mi 59 = b := ⟨_, rfl⟩
  obtain ⟨b6, h6⟩ : ∃ b, wiL s 60 = b := ⟨_, rfl⟩
  rw [hD] at hc HM
  rw [h4] at hw4 HM
  rw [h5] at hw5 HM
  rw [h6] at hw6 HM
  clear hD h4 h5 h6
  obtain ⟨W, hW⟩ : ∃ W, (w.alloc (.cells #[.int .i64 Y, .int .i64 M, .int .i64 D, .int .i64 h, .int .i64 mi, .int .i64 s, .int .i64 z] 29)) = W := ⟨_, rfl⟩
  have hBW : Below w.heap.size w W := by rw [← hW]; exact (Below.refl _ _).alloc (Nat.le_refl _) _
  have hcl : ∀ i u, (#[Value.int .i64 Y, .int .i64 M, .int .i64 D, .int .i64 h, .int .i64 mi, .int .i64 s, .int .i64 z] : Array Value)[i]? = some u → W.cell? ⟨w.heap.size, i, none⟩ = some u := by
    intro i u hu
    rw [← hW, cell_of_row _ w.heap.size i _ 29 (0, 0) (heap_alloc_new w _)]; exact hu
  have hlt : w.heap.size < W.heap.size := by rw [← hW]; simp
  have q : ∀ (X : ExtW W.drew) i u, (#[Value.int .i64 Y, .int .i64 M, .int .i64 D, .int .i64 h, .int .i64 mi, .int .i64 s, .int .i64 z] : Array Value)[i]? = some u → X.W.cell? ⟨w.heap.size, i, none⟩ = some u := fun X i u hu => (X.h.cell (p := ⟨w.heap.size, i, none⟩) hlt).trans (hcl i u hu)
  have q0 := fun X => q X 0 (.int .i64 Y) rfl
  have q1 := fun X => q X 1 (.int .i64 M) rfl
  have q2 := fun X => q X 2 (.int .i64 D) rfl
  have q3 := fun X => q X 3 (.int .i64 h) rfl
  have q4 := fun X => q X 4 (.int .i64 mi) rfl
  have q5 := fun X => q X 5 (.int .i64 s) rfl
  have q6 := fun X => q X 6 (.int .i64 z) rfl
  clear q hcl
  go_enter Try.func19, Try.ntmps19
  go_wp2_with fail
  refine wp_region_any (by kernel_rfl) ?_
  (try (change wpAny _ _ _ _ _ _ _ (World.drew _)))
  clear hW
  refine wpAny_lex 0 _ rfl (by kernel_rfl) (by kernel_rfl) ?_
  simp only []
  by_cases h1 : 1900 ≤ Y
  rotate_left
  · have hd1 : decide (1900 ≤ Y) = false := decide_eq_false h1
    have e := HM.out
    simp only [hd1, Bool.false_and] at e
    subst e
    clear HM
    quiet_step (fail)
    quiet_step (fail)
    quiet_step (fail)
    quiet_step (fail)
    quiet_step (fail)
    quiet_step (fail)
    quiet_step (fail)
    quiet_step (fail)
    quiet_step (fail)
    quiet_step (fail)
    quiet_step (fail)
    quiet_step (fail)
    quiet_step (fail)
    quiet_step (fail)
    quiet_step (fail)
    quiet_step (fail)
    quiet_step (fail)
    quiet_step (fail)
    quiet_step (fail)
    quiet_step (fail)
    quiet_step (fail)
    quiet_step (fail)
    quiet_step (fail)
    quiet_step (fail)
    quiet_step (fail)
    quiet_step (fail)
    quiet_step (fail)
    quiet_step (fail)
    quiet_step (fail)
    quiet_step (fail)
    quiet_step (fail)
    quiet_step (fail)
    quiet_step (fail)
    quiet_step (fail)
    quiet_step (fail)
    quiet_step (fail)
    quiet_step (fail)
    quiet_step (fail)
    quiet_step (fail)
    quiet_step (fail)
    quiet_step (fail)
    quiet_step (fail)
    quiet_step (fail)
    quiet_step (fail)
    refine wpQuiet_nil ?_
    rintro _ ⟨X, rfl⟩
    go_wp2
    go_ret
    exact ⟨rfl, hBW.drew.trans (X.h.mono hBW.size)⟩
  have hd1 : decide (1900 ≤ Y) = true := decide_eq_true h1
  by_cases h2 : 1 ≤ D
  rotate_left
  · have hd2 : decide (1 ≤ D) = false := decide_eq_false h2
    have e := HM.out
    simp only [hd1, hd2, Bool.false_and, Bool.and_false] at e
    subst e
    clear HM
    quiet_step (fail)
    quiet_step (fail)
    quiet_step (fail)
    quiet_step (fail)
    quiet_step (fail)
    quiet_step (fail)
    quiet_step (fail)
    quiet_step (fail)
    quiet_step (fail)
    quiet_step (fail)
    quiet_step (fail)
    quiet_step (fail)
    quiet_step (fail)
    quiet_step (fail)
    quiet_step (fail)
    quiet_step (fail)
    quiet_step (fail)
    quiet_step (fail)
    quiet_step (fail)
    quiet_step (fail)
    quiet_step (fail)
    quiet_step (fail)
    quiet_step (fail)
    quiet_step (fail)
    quiet_step (fail)
    quiet_step (fail)
    quiet_step (fail)
    quiet_step (fail)
    quiet_step (fail)
    quiet_step (fail)
    quiet_step (fail)
    quiet_step (fail)
    quiet_step (fail)
    quiet_step (fail)
    quiet_step (fail)
    quiet_step (fail)
    quiet_step (fail)
    quiet_step (fail)
    quiet_step (fail)
    quiet_step (fail)
    quiet_step (fail)
    quiet_step (fail)
    quiet_step (fail)
    quiet_step (fail)
    refine wpQuiet_nil ?_
    rintro _ ⟨X, rfl⟩
    go_wp2
    go_ret
    exact ⟨rfl, hBW.drew.trans (X.h.mono hBW.size)⟩
  have hd2 : decide (1 ≤ D) = true := decide_eq_true h2
  by_cases h3 : D ≤ DD
  rotate_left
  · have hd3 : decide (D ≤ DD) = false := decide_eq_false h3
    have e := HM.out
    simp only [hd1, hd2, hd3, Bool.false_and, Bool.and_false, Bool.and_self] at e
    subst e
    clear HM
    quiet_step (fail)
    quiet_step (fail)
    quiet_step (fail)
    quiet_step (fail)
    quiet_step (fail)
    quiet_step (fail)
    quiet_step (fail)
    quiet_step (fail)
    quiet_step (fail)
    quiet_step (fail)
    quiet_step (fail)
    quiet_step (fail)
    quiet_step (fail)
    quiet_step (fail)
    quiet_step (fail)
    quiet_step ((rename_i X; go_at_call 9; exact Calls.ext_same X (hc X.W)))
    quiet_step (fail)
    quiet_step (fail)
    quiet_step (fail)
    quiet_step (fail)
    quiet_step (fail)
    quiet_step (fail)
    quiet_step (fail)
    quiet_step (fail)
    quiet_step (fail)
    quiet_step (fail)
    quiet_step (fail)
    quiet_step (fail)
    quiet_step (fail)
    quiet_step (fail)
    quiet_step (fail)
    quiet_step (fail)
    quiet_step (fail)
    quiet_step (fail)
    quiet_step (fail)
    quiet_step (fail)
    quiet_step (fail)
    quiet_step (fail)
    quiet_step (fail)
    quiet_step (fail)
    quiet_step (fail)
    quiet_step (fail)
    quiet_step (fail)
    quiet_step (fail)
    refine wpQuiet_nil ?_
    rintro _ ⟨X, rfl⟩
    go_wp2
    go_ret
    exact ⟨rfl, hBW.drew.trans (X.h.mono hBW.size)⟩
  have hd3 : decide (D ≤ DD) = true := decide_eq_true h3
  cases b4
  · have e := HM.out
    simp only [hd1, hd2, hd3, Bool.false_and, Bool.and_false, Bool.and_self] at e
    subst e
    clear HM
    quiet_step (fail)
    quiet_step (fail)
    quiet_step (fail)
    quiet_step (fail)
    quiet_step (fail)
    quiet_step (fail)
    quiet_step (fail)
    quiet_step (fail)
    quiet_step (fail)
    quiet_step (fail)
    quiet_step (fail)
    quiet_step (fail)
    quiet_step (fail)
    quiet_step (fail)
    quiet_step (fail)
    quiet_step ((rename_i X; go_at_call 9; exact Calls.ext_same X (hc X.W)))
    quiet_step (fail)
    quiet_step (fail)
    quiet_step (fail)
    quiet_step (fail)
    quiet_step (fail)
    quiet_step ((rename_i X; go_at_call 30; exact Calls.ext_same X (hw4 X.W)))
    quiet_step (fail)
    quiet_step (fail)
    quiet_step (fail)
    quiet_step (fail)
    quiet_step (fail)
    quiet_step (fail)
    quiet_step (fail)
    quiet_step (fail)
    quiet_step (fail)
    quiet_step (fail)
    quiet_step (fail)
    quiet_step (fail)
    quiet_step (fail)
    quiet_step (fail)
    quiet_step (fail)
    quiet_step (fail)
    quiet_step (fail)
    quiet_step (fail)
    quiet_step (fail)
    quiet_step (fail)
    quiet_step (fail)
    quiet_step (fail)
    refine wpQuiet_nil ?_
    rintro _ ⟨X, rfl⟩
    go_wp2
    go_ret
    exact ⟨rfl, hBW.drew.trans (X.h.mono hBW.size)⟩
  cases b5
  · have e := HM.out
    simp only [hd1, hd2, hd3, Bool.false_and, Bool.and_false, Bool.and_self] at e
    subst e
    clear HM
    quiet_step (fail)
    quiet_step (fail)
    quiet_step (fail)
    quiet_step (fail)
    quiet_step (fail)
    quiet_step (fail)
    quiet_step (fail)
    quiet_step (fail)
    quiet_step (fail)
    quiet_step (fail)
    quiet_step (fail)
    quiet_step (fail)
    quiet_step (fail)
    quiet_step (fail)
    quiet_step (fail)
    quiet_step ((rename_i X; go_at_call 9; exact Calls.ext_same X (hc X.W)))
    quiet_step (fail)
    quiet_step (fail)
    quiet_step (fail)
    quiet_step (fail)
    quiet_step (fail)
    quiet_step ((rename_i X; go_at_call 30; exact Calls.ext_same X (hw4 X.W)))
    quiet_step (fail)
    quiet_step (fail)
    quiet_step (fail)
    quiet_step (fail)
    quiet_step ((rename_i X; go_at_call 30; exact Calls.ext_same X (hw5 X.W)))
    quiet_step (fail)
    quiet_step (fail)
    quiet_step (fail)
    quiet_step (fail)
    quiet_step (fail)
    quiet_step (fail)
    quiet_step (fail)
    quiet_step (fail)
    quiet_step (fail)
    quiet_step (fail)
    quiet_step (fail)
    quiet_step (fail)
    quiet_step (fail)
    quiet_step (fail)
    quiet_step (fail)
    quiet_step (fail)
    quiet_step (fail)
    refine wpQuiet_nil ?_
    rintro _ ⟨X, rfl⟩
    go_wp2
    go_ret
    exact ⟨rfl, hBW.drew.trans (X.h.mono hBW.size)⟩
  cases b6
  · have e := HM.out
    simp only [hd1, hd2, hd3, Bool.false_and, Bool.and_false, Bool.and_self] at e
    subst e
    clear HM
    quiet_step (fail)
    quiet_step (fail)
    quiet_step (fail)
    quiet_step (fail)
    quiet_step (fail)
    quiet_step (fail)
    quiet_step (fail)
    quiet_step (fail)
    quiet_step (fail)
    quiet_step (fail)
    quiet_step (fail)
    quiet_step (fail)
    quiet_step (fail)
    quiet_step (fail)
    quiet_step (fail)
    quiet_step ((rename_i X; go_at_call 9; exact Calls.ext_same X (hc X.W)))
    quiet_step (fail)
    quiet_step (fail)
    quiet_step (fail)
    quiet_step (fail)
    quiet_step (fail)
    quiet_step ((rename_i X; go_at_call 30; exact Calls.ext_same X (hw4 X.W)))
    quiet_step (fail)
    quiet_step (fail)
    quiet_step (fail)
    quiet_step (fail)
    quiet_step ((rename_i X; go_at_call 30; exact Calls.ext_same X (hw5 X.W)))
    quiet_step (fail)
    quiet_step (fail)
    quiet_step (fail)
    quiet_step (fail)
    quiet_step ((rename_i X; go_at_call 30; exact Calls.ext_same X (hw6 X.W)))
    quiet_step (fail)
    quiet_step (fail)
    quiet_step (fail)
    quiet_step (fail)
    quiet_step (fail)
    quiet_step (fail)
    quiet_step (fail)
    quiet_step (fail)
    quiet_step (fail)
    quiet_step (fail)
    quiet_step (fail)
    quiet_step (fail)
    refine wpQuiet_nil ?_
    rintro _ ⟨X, rfl⟩
    go_wp2
    go_ret
    exact ⟨rfl, hBW.drew.trans (X.h.mono hBW.size)⟩
  by_cases h7 : -5999 ≤ z
  rotate_left
  · have hd7 : decide (-5999 ≤ z) = false := decide_eq_false h7
    have e := HM.out
    simp only [hd1, hd2, hd3, hd7, Bool.false_and, Bool.and_false, Bool.and_self] at e
    subst e
    clear HM
    quiet_step (fail)
    quiet_step (fail)
    quiet_step (fail)
    quiet_step (fail)
    quiet_step (fail)
    quiet_step (fail)
    quiet_step (fail)
    quiet_step (fail)
    quiet_step (fail)
    quiet_step (fail)
    quiet_step (fail)
    quiet_step (fail)
    quiet_step (fail)
    quiet_step (fail)
    quiet_step (fail)
    quiet_step ((rename_i X; go_at_call 9; exact Calls.ext_same X (hc X.W)))
    quiet_step (fail)
    quiet_step (fail)
    quiet_step (fail)
    quiet_step (fail)
    quiet_step (fail)
    quiet_step ((rename_i X; go_at_call 30; exact Calls.ext_same X (hw4 X.W)))
    quiet_step (fail)
    quiet_step (fail)
    quiet_step (fail)
    quiet_step (fail)
    quiet_step ((rename_i X; go_at_call 30; exact Calls.ext_same X (hw5 X.W)))
    quiet_step (fail)
    quiet_step (fail)
    quiet_step (fail)
    quiet_step (fail)
    quiet_step ((rename_i X; go_at_call 30; exact Calls.ext_same X (hw6 X.W)))
    quiet_step (fail)
    quiet_step (fail)
    quiet_step (fail)
    quiet_step (fail)
    quiet_step (fail)
    quiet_step (fail)
    quiet_step (fail)
    quiet_step (fail)
    quiet_step (fail)
    quiet_step (fail)
    quiet_step (fail)
    quiet_step (fail)
    refine wpQuiet_nil ?_
    rintro _ ⟨X, rfl⟩
    go_wp2
    go_ret
    exact ⟨rfl, hBW.drew.trans (X.h.mono hBW.size)⟩
  have hd7 : decide (-5999 ≤ z) = true := decide_eq_true h7
  by_cases h8 : z ≤ 5999
  rotate_left
  · have hd8 : decide (z ≤ 5999) = false := decide_eq_false h8
    have e := HM.out
    simp only [hd1, hd2, hd3, hd7, hd8, Bool.and_false, Bool.and_self] at e
    subst e
    clear HM
    quiet_step (fail)
    quiet_step (fail)
    quiet_step (fail)
    quiet_step (fail)
    quiet_step (fail)
    quiet_step (fail)
    quiet_step (fail)
    quiet_step (fail)
    quiet_step (fail)
    quiet_step (fail)
    quiet_step (fail)
    quiet_step (fail)
    quiet_step (fail)
    quiet_step (fail)
    quiet_step (fail)
    quiet_step ((rename_i X; go_at_call 9; exact Calls.ext_same X (hc X.W)))
    quiet_step (fail)
    quiet_step (fail)
    quiet_step (fail)
    quiet_step (fail)
    quiet_step (fail)
    quiet_step ((rename_i X; go_at_call 30; exact Calls.ext_same X (hw4 X.W)))
    quiet_step (fail)
    quiet_step (fail)
    quiet_step (fail)
    quiet_step (fail)
    quiet_step ((rename_i X; go_at_call 30; exact Calls.ext_same X (hw5 X.W)))
    quiet_step (fail)
    quiet_step (fail)
    quiet_step (fail)
    quiet_step (fail)
    quiet_step ((rename_i X; go_at_call 30; exact Calls.ext_same X (hw6 X.W)))
    quiet_step (fail)
    quiet_step (fail)
    quiet_step (fail)
    quiet_step (fail)
    quiet_step (fail)
    quiet_step (fail)
    quiet_step (fail)
    quiet_step (fail)
    quiet_step (fail)
    quiet_step (fail)
    quiet_step (fail)
    quiet_step (fail)
    refine wpQuiet_nil ?_
    rintro _ ⟨X, rfl⟩
    go_wp2
    go_ret
    exact ⟨rfl, hBW.drew.trans (X.h.mono hBW.size)⟩
  have hd8 : decide (z ≤ 5999) = true := decide_eq_true h8
  have e := HM.out
  simp only [hd1, hd2, hd3, hd7, hd8, Bool.and_self] at e
  subst e
  clear HM
  quiet_step (fail)
  quiet_step (fail)
  quiet_step (fail)
  quiet_step (fail)
  quiet_step (fail)
  quiet_step (fail)
  quiet_step (fail)
  quiet_step (fail)
  quiet_step (fail)
  quiet_step (fail)
  quiet_step (fail)
  quiet_step (fail)
  quiet_step (fail)
  quiet_step (fail)
  quiet_step (fail)
  quiet_step ((rename_i X; go_at_call 9; exact Calls.ext_same X (hc X.W)))
  quiet_step (fail)
  quiet_step (fail)
  quiet_step (fail)
  quiet_step (fail)
  quiet_step (fail)
  quiet_step ((rename_i X; go_at_call 30; exact Calls.ext_same X (hw4 X.W)))
  quiet_step (fail)
  quiet_step (fail)
  quiet_step (fail)
  quiet_step (fail)
  quiet_step ((rename_i X; go_at_call 30; exact Calls.ext_same X (hw5 X.W)))
  quiet_step (fail)
  quiet_step (fail)
  quiet_step (fail)
  quiet_step (fail)
  quiet_step ((rename_i X; go_at_call 30; exact Calls.ext_same X (hw6 X.W)))
  quiet_step (fail)
  quiet_step (fail)
  quiet_step (fail)
  quiet_step (fail)
  quiet_step (fail)
  quiet_step (fail)
  quiet_step (fail)
  quiet_step (fail)
  quiet_step (fail)
  quiet_step (fail)
  quiet_step (fail)
  quiet_step (fail)
  refine wpQuiet_nil ?_
  rintro _ ⟨X, rfl⟩
  go_wp2
  go_ret
  exact ⟨rfl, hBW.drew.trans (X.h.mono hBW.size)⟩
end Go.Proofs.Ytjiofcnlibkhkaa
