/- Layer 47 (date): may a date be: what the reference's function returns. No condition. -/
import Derived.Test.Ytjiofcnlibkhkaa47B
import Derived.Test.YtjiofcnlibkhkaaExtW
import Derived.Test.Ytjiofcnlibkhkaa47R
namespace Go.Proofs.Ytjiofcnlibkhkaa
open Go.RowKit

set_option maxRecDepth 100000 in
set_option maxHeartbeats 4000000 in
theorem r47_May {Y M D h mi s z : Int} {w : World} : Calls Try.prog 20 #[.agg #[.int .i64 Y, .int .i64 M, .int .i64 D, .int .i64 h, .int .i64 mi, .int .i64 s, .int .i64 z]] w (RetB (.bool (mayL Y M D h mi s z)) w) := by
  have hc := fun w => r47_Days (y := Y) (m := M) (w := w)
  have HM := Lib.hid (show mayL Y M D h mi s z = (decide (1900 ≤ Y) && decide (1 ≤ D) && decide (D ≤ daysL Y M) && wiL h 23 && wiL mi 59 && wiL s 60 && decide (-5999 ≤ z) && decide (z ≤ 5999)) from rfl)
  obtain ⟨R, hR⟩ : ∃ R, mayL Y M D h mi s z = R := ⟨_, rfl⟩
  rw [hR] at HM ⊢
  clear hR
  obtain ⟨DD, hD⟩ : ∃ DD, daysL Y M = DD := ⟨_, rfl⟩
  rw [hD] at hc HM
  clear hD
  by_cases h1 : Y < 1900
  · have e := HM.out
    rw [show decide (1900 ≤ Y) = false from decide_eq_false (by omega)] at e
    simp only [Bool.false_and] at e
    subst e
    clear HM hc
    have hd : decide (Y < 1900) = true := decide_eq_true h1
    go_enter Try.func20, Try.ntmps20
    go_wp2_with fail
    go_quiet (fail)
    go_wp2
    go_ret
    exact ⟨rfl, below_drewN ((Below.refl _ _).alloc (Nat.le_refl _) _) _⟩
  have h1' : decide (Y < 1900) = false := decide_eq_false h1
  by_cases h2 : D < 1
  · have e := HM.out
    rw [show decide (1 ≤ D) = false from decide_eq_false (by omega)] at e
    simp only [Bool.false_and, Bool.and_false] at e
    subst e
    clear HM hc
    have hd : decide (D < 1) = true := decide_eq_true h2
    go_enter Try.func20, Try.ntmps20
    go_wp2_with fail
    go_quiet (fail)
    go_wp2
    go_ret
    exact ⟨rfl, below_drewN ((Below.refl _ _).alloc (Nat.le_refl _) _) _⟩
  have h2' : decide (D < 1) = false := decide_eq_false h2
  obtain ⟨W, hW⟩ : ∃ W, (w.alloc (.cells #[.int .i64 Y, .int .i64 M, .int .i64 D, .int .i64 h, .int .i64 mi, .int .i64 s, .int .i64 z] 28)) = W := ⟨_, rfl⟩
  have hBW : Below w.heap.size w W := by rw [← hW]; exact (Below.refl _ _).alloc (Nat.le_refl _) _
  have hcl : ∀ i u, (#[Value.int .i64 Y, .int .i64 M, .int .i64 D, .int .i64 h, .int .i64 mi, .int .i64 s, .int .i64 z] : Array Value)[i]? = some u → W.cell? ⟨w.heap.size, i, none⟩ = some u := by
    intro i u hu
    rw [← hW, cell_of_row _ w.heap.size i _ 28 (0, 0) (heap_alloc_new w _)]; exact hu
  have hlt : w.heap.size < W.heap.size := by rw [← hW]; simp
  have q : ∀ (X : ExtW W.drew) i u, (#[Value.int .i64 Y, .int .i64 M, .int .i64 D, .int .i64 h, .int .i64 mi, .int .i64 s, .int .i64 z] : Array Value)[i]? = some u → X.W.cell? ⟨w.heap.size, i, none⟩ = some u := fun X i u hu => (X.h.cell (p := ⟨w.heap.size, i, none⟩) hlt).trans (hcl i u hu)
  have q0 := fun X => q X 0 (.int .i64 Y) rfl
  have q1 := fun X => q X 1 (.int .i64 M) rfl
  have q2 := fun X => q X 2 (.int .i64 D) rfl
  have q3 := fun X => q X 3 (.int .i64 h) rfl
  have q4 := fun X => q X 4 (.int .i64 mi) rfl
  have q5 := fun X => q X 5 (.int .i64 s) rfl
  have q6 := fun X => q X 6 (.int .i64 z) rfl
  clear q hcl
  go_enter Try.func20, Try.ntmps20
  go_wp2_with fail
  refine wp_region_any (by kernel_rfl) ?_
  (try (change wpAny _ _ _ _ _ _ _ (World.drew _)))
  clear hW
  refine wpAny_lex 0 _ rfl (by kernel_rfl) (by kernel_rfl) ?_
  simp only []
  by_cases h3 : DD < D
  · have h3' : decide (DD < D) = true := decide_eq_true h3
    have e := HM.out
    rw [show decide (D ≤ DD) = false from decide_eq_false (by omega)] at e
    simp only [Bool.false_and, Bool.and_false] at e
    subst e
    clear HM
    quiet_step (fail)
    quiet_step (fail)
    quiet_step (fail)
    quiet_step (fail)
    quiet_step (fail)
    quiet_step (fail)
    quiet_step (fail)
    quiet_step (fail)
    quiet_step (fail)
    quiet_step (fail)
    quiet_step (fail)
    quiet_step (fail)
    quiet_step (fail)
    quiet_step (fail)
    quiet_step (fail)
    quiet_step ((rename_i X; go_at_call 10; exact Calls.ext X (hc X.W)))
    quiet_step (fail)
    quiet_step (fail)
    refine wpQuiet_nil ?_
    rintro _ ⟨X, rfl⟩
    go_wp2
    go_ret
    exact ⟨rfl, hBW.drew.trans (X.h.mono hBW.size)⟩
  have h3' : decide (DD < D) = false := decide_eq_false h3
  quiet_step (fail)
  quiet_step (fail)
  quiet_step (fail)
  quiet_step (fail)
  quiet_step (fail)
  quiet_step (fail)
  quiet_step (fail)
  quiet_step (fail)
  quiet_step (fail)
  quiet_step (fail)
  quiet_step (fail)
  quiet_step (fail)
  quiet_step (fail)
  quiet_step (fail)
  quiet_step (fail)
  quiet_step ((rename_i X; go_at_call 10; exact Calls.ext X (hc X.W)))
  quiet_step (fail)
  quiet_step (fail)
  refine wpQuiet_nil ?_
  rintro _ ⟨X, rfl⟩
  go_wp2
  all_goals go_ret
  all_goals exact ⟨ret_bool (by rw [HM.out, Bool.eq_iff_iff]; simp [wiL]; omega), hBW.drew.trans (X.h.mono hBW.size)⟩

end Go.Proofs.Ytjiofcnlibkhkaa
