/- Layer 47's law of days: it returns true for every input, and leaves what was there. Condition: the variable MaxLen holds a number. -/
import Derived.Test.Ytjiofcnlibkhkaa47liv
namespace Go.Proofs.Ytjiofcnlibkhkaa
open Go.RowKit

set_option maxRecDepth 100000 in
set_option maxHeartbeats 2000000 in
theorem law_DateDays {y m d : Int} {w : World} (hM : MaxL w) : Calls Try.prog 3 #[.int .i64 y, .int .i64 m, .int .i64 d] w (RetB (.bool true) w) := by
  have h1 := fun W => p47_Leap (y := y) (w := W)
  have h2 := fun W => r47_Leap (y := y) (w := W)
  have h3 := fun W => p47_Days (y := y) (m := m) (w := W)
  have h4 := fun W => r47_Days (y := y) (m := m) (w := W)
  have h5 := fun W => p47_Weekday (y := y) (m := m) (d := d) (w := W)
  have h6 := fun W => r47_Weekday (y := y) (m := m) (d := d) (w := W)
  obtain ⟨a, ha⟩ : ∃ a, leapL y = a := ⟨_, rfl⟩
  obtain ⟨b, hb⟩ : ∃ b, daysL y m = b := ⟨_, rfl⟩
  obtain ⟨c, hc⟩ : ∃ c, wdayL y m d = c := ⟨_, rfl⟩
  rw [ha] at h1 h2
  rw [hb] at h3 h4
  rw [hc] at h5 h6
  clear ha hb hc
  go_enter Try.func3, Try.ntmps3
  go_wp2_with fail
  refine (h1 _).mono ?_
  rintro e w' ⟨rfl, rfl⟩
  go_wp2_with fail
  refine (h2 _).mono ?_
  rintro e w' ⟨rfl, rfl⟩
  go_wp2_with fail
  refine (h3 _).mono ?_
  rintro e w' ⟨rfl, rfl⟩
  go_wp2_with fail
  refine (h4 _).mono ?_
  rintro e w1 ⟨rfl, hb1⟩
  go_wp2_with fail
  refine (h5 _).mono ?_
  rintro e w' ⟨rfl, rfl⟩
  go_wp2_with fail
  refine (h6 _).mono ?_
  rintro e w2 ⟨rfl, hb2⟩
  have hB2 := below_then hb1 hb2
  go_wp2_with fail
  refine (alive47 (hM.bel hB2)).mono ?_
  rintro e w3 ⟨rfl, hb3⟩
  go_wp2_with fail
  go_ret
  exact ⟨rfl, below_then hB2 hb3⟩
end Go.Proofs.Ytjiofcnlibkhkaa
