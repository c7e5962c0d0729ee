/- Layer 47 (date): days that follow each other. Condition: the date may be. Plain lemmas. -/
import Derived.Test.Ytjiofcnlibkhkaa47E
namespace Go.Proofs.Ytjiofcnlibkhkaa
open Go.RowKit

/-- what a next day's law says of seconds and of days of the week -/
def Next47 (Y M D h mi s z Y' M' D' : Int) : Prop :=
  mayL Y' M' D' h mi s z = true ∧ unixV Y' M' D' h mi s z - unixV Y M D h mi s z = 86400 ∧ wdayL Y' M' D' = (wdayL Y M D + 1) % 7
theorem may_mk {Y M D h mi s z : Int} (h1 : 1900 ≤ Y) (h2 : 1 ≤ D) (h3 : D ≤ daysL Y M) (h4 : 0 ≤ h ∧ h ≤ 23 ∧ 0 ≤ mi ∧ mi ≤ 59 ∧ 0 ≤ s ∧ s ≤ 60 ∧ -5999 ≤ z ∧ z ≤ 5999) : mayL Y M D h mi s z = true := by
  unfold mayL wiL
  simp only [Bool.and_eq_true, decide_eq_true_iff]
  omega
theorem may_of {Y M D h mi s z : Int} (hm : mayL Y M D h mi s z = true) : 1900 ≤ Y ∧ 1 ≤ D ∧ D ≤ daysL Y M ∧ (0 ≤ h ∧ h ≤ 23 ∧ 0 ≤ mi ∧ mi ≤ 59 ∧ 0 ≤ s ∧ s ≤ 60 ∧ -5999 ≤ z ∧ z ≤ 5999) := by
  unfold mayL wiL at hm
  simp only [Bool.and_eq_true, decide_eq_true_iff] at hm
  omega
theorem next_mk {Y M D h mi s z Y' M' D' : Int} (hm : mayL Y M D h mi s z = true) (hm' : mayL Y' M' D' h mi s z = true) (hs : sinceL Y' M' D' = sinceL Y M D + 1) : Next47 Y M D h mi s z Y' M' D' := by
  refine ⟨hm', ?_, ?_⟩
  · unfold unixV
    rw [if_pos hm', if_pos hm]
    unfold unixL
    rw [hs]; omega
  · obtain ⟨_, a2, a3, _⟩ := may_of hm
    obtain ⟨_, b2, b3, _⟩ := may_of hm'
    unfold wdayL
    rw [if_neg (by omega), if_neg (by omega), hs]
    omega
theorem next_day {Y M D h mi s z : Int} (hm : mayL Y M D h mi s z = true) (hm' : mayL Y M (D + 1) h mi s z = true) : Next47 Y M D h mi s z Y M (D + 1) := next_mk hm hm' (by unfold sinceL; omega)
theorem last_day {Y M D h mi s z : Int} (hm : mayL Y M D h mi s z = true) (hn : ¬ mayL Y M (D + 1) h mi s z = true) : D = daysL Y M := by
  obtain ⟨a1, a2, a3, a4⟩ := may_of hm
  by_cases h' : D + 1 ≤ daysL Y M
  · exact absurd (may_mk a1 (by omega) h' a4) hn
  · omega
theorem next_month {Y M D h mi s z : Int} (hm : mayL Y M D h mi s z = true) (hn : ¬ mayL Y M (D + 1) h mi s z = true) (hm' : mayL Y (M + 1) 1 h mi s z = true) : Next47 Y M D h mi s z Y (M + 1) 1 := by
  refine next_mk hm hm' ?_
  have hd := last_day hm hn
  obtain ⟨a1, a2, a3, _⟩ := may_of hm
  obtain ⟨b1, b2, b3, b4⟩ := daysL_pos (y := Y) (m := M) (by omega)
  unfold sinceL
  rw [show (M + 1 - 1).toNat = (M - 1).toNat + 1 from by omega]
  show _ + (mdN Y (M - 1).toNat + daysL Y (((M - 1).toNat : Int) + 1)) + _ - _ = _
  rw [show (((M - 1).toNat : Nat) : Int) + 1 = M from by omega]
  omega
theorem last_month {Y M D h mi s z : Int} (hm : mayL Y M D h mi s z = true) (hn : ¬ mayL Y (M + 1) 1 h mi s z = true) : M = 12 := by
  obtain ⟨a1, a2, a3, a4⟩ := may_of hm
  obtain ⟨b1, b2, b3, b4⟩ := daysL_pos (y := Y) (m := M) (by omega)
  by_cases h' : 1 ≤ daysL Y (M + 1)
  · exact absurd (may_mk a1 (by omega) h' a4) hn
  · apply Classical.byContradiction
    intro hne
    apply h'
    unfold daysL
    rw [if_pos ⟨b1, b2⟩]
    repeat' split
    all_goals omega
theorem mdN_year (Y : Int) (h1 : 1 ≤ Y) (h2 : Y ≤ 9999) : mdN Y 11 + daysL Y 12 = 365 + (if leapL Y then 1 else 0) := by
  have e : ∀ m : Int, daysL Y m = if m = 4 ∨ m = 6 ∨ m = 9 ∨ m = 11 then 30 else if m = 2 then (if leapL Y then 29 else 28) else if m = 1 ∨ m = 3 ∨ m = 5 ∨ m = 7 ∨ m = 8 ∨ m = 10 ∨ m = 12 then 31 else 0 := fun m => by unfold daysL; rw [if_pos ⟨h1, h2⟩]
  simp only [mdN, e]
  cases leapL Y <;> decide
theorem next_year {Y M D h mi s z : Int} (hm : mayL Y M D h mi s z = true) (hn : ¬ mayL Y M (D + 1) h mi s z = true) (hn2 : ¬ mayL Y (M + 1) 1 h mi s z = true) (hm' : mayL (Y + 1) 1 1 h mi s z = true) : Next47 Y M D h mi s z (Y + 1) 1 1 := by
  refine next_mk hm hm' ?_
  have hd := last_day hm hn
  have hM := last_month hm hn2
  subst hM
  obtain ⟨a1, a2, a3, _⟩ := may_of hm
  obtain ⟨b1, b2, b3, b4⟩ := daysL_pos (y := Y) (m := 12) (by omega)
  have h1 := ydL_step (k := Y) b1 b2
  have h2 := mdN_year Y b1 b2
  unfold sinceL
  rw [h1]
  show _ + mdN (Y + 1) 0 + 1 - 1 = ydL Y + mdN Y 11 + D - 1 + 1
  rw [hd]
  show _ + 0 + 1 - 1 = _
  omega
theorem last_year {Y M D h mi s z : Int} (hm : mayL Y M D h mi s z = true) (hn : ¬ mayL Y M (D + 1) h mi s z = true) (hn2 : ¬ mayL Y (M + 1) 1 h mi s z = true) (hn3 : ¬ mayL (Y + 1) 1 1 h mi s z = true) : Y = 9999 ∧ M = 12 ∧ D = 31 := by
  have hd := last_day hm hn
  have hM := last_month hm hn2
  subst hM
  obtain ⟨a1, a2, a3, a4⟩ := may_of hm
  obtain ⟨b1, b2, b3, b4⟩ := daysL_pos (y := Y) (m := 12) (by omega)
  have hY : Y = 9999 := by
    apply Classical.byContradiction
    intro hne
    exact hn3 (may_mk (by omega) (by omega) (by unfold daysL; rw [if_pos ⟨by omega, by omega⟩]; simp) a4)
  subst hY
  exact ⟨rfl, rfl, by rw [hd]; decide⟩
end Go.Proofs.Ytjiofcnlibkhkaa
