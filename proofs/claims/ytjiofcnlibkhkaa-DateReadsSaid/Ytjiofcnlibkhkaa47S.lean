/- Layer 47 (date) in plain words: leap years, days of months, days since the first one, days of the week. No condition: plain lemmas. -/
import Derived.Test.YtjiofcnlibkhkaaLibC
namespace Go.Proofs.Ytjiofcnlibkhkaa
open Go.RowKit

def leapL (y : Int) : Bool := decide (1 ≤ y ∧ y ≤ 9999 ∧ y % 4 = 0 ∧ (¬ y % 100 = 0 ∨ y % 400 = 0))
def daysL (y m : Int) : Int := if 1 ≤ y ∧ y ≤ 9999 then (if m = 4 ∨ m = 6 ∨ m = 9 ∨ m = 11 then 30 else if m = 2 then (if leapL y then 29 else 28) else if m = 1 ∨ m = 3 ∨ m = 5 ∨ m = 7 ∨ m = 8 ∨ m = 10 ∨ m = 12 then 31 else 0) else 0
def ydL (y : Int) : Int := (y - 1) * 365 + (y - 1) / 4 - (y - 1) / 100 + (y - 1) / 400
def mdN (y : Int) : Nat → Int
  | 0 => 0
  | k + 1 => mdN y k + daysL y ((k : Int) + 1)
def sinceL (y m d : Int) : Int := ydL y + mdN y (m - 1).toNat + d - 1
def wdayL (y m d : Int) : Int := if d < 1 ∨ d > daysL y m then -1 else (sinceL y m d + 1) % 7

theorem daysL_rng (y m : Int) : 0 ≤ daysL y m ∧ daysL y m ≤ 31 := by
  unfold daysL
  repeat' split
  all_goals omega
theorem daysL_pos {y m : Int} (h : 0 < daysL y m) : 1 ≤ y ∧ y ≤ 9999 ∧ 1 ≤ m ∧ m ≤ 12 := by
  unfold daysL at h
  repeat' split at h
  all_goals omega
theorem mdN_rng (y : Int) (k : Nat) : 0 ≤ mdN y k ∧ mdN y k ≤ 31 * k := by
  induction k with
  | zero => exact ⟨Int.le_refl _, by simp [mdN]⟩
  | succ k ih =>
    have := daysL_rng y ((k : Int) + 1)
    unfold mdN
    omega
theorem ydL_rng {y : Int} (h1 : 1 ≤ y) (h2 : y ≤ 9999) : 0 ≤ ydL y ∧ ydL y ≤ 4000000 := by unfold ydL; omega
theorem ydL_one : ydL 1 = 0 := by decide
theorem ydL_step {k : Int} (h1 : 1 ≤ k) (h2 : k ≤ 9999) : ydL (k + 1) = ydL k + 365 + (if leapL k then 1 else 0) := by
  unfold ydL leapL
  by_cases h : (1 ≤ k ∧ k ≤ 9999 ∧ k % 4 = 0 ∧ (¬ k % 100 = 0 ∨ k % 400 = 0))
  · rw [if_pos (decide_eq_true h)]; omega
  · rw [if_neg (by rw [decide_eq_true_eq]; exact h)]; omega
theorem sinceL_rng {y m d : Int} (h1 : 1 ≤ y) (h2 : y ≤ 9999) (h3 : 1 ≤ m) (h4 : m ≤ 12) (h5 : 1 ≤ d) (h6 : d ≤ 31) : 0 ≤ sinceL y m d ∧ sinceL y m d ≤ 4001000 := by
  have := ydL_rng h1 h2
  have := mdN_rng y (m - 1).toNat
  unfold sinceL
  omega
end Go.Proofs.Ytjiofcnlibkhkaa
