/- Layer 47 (date): a date's text in plain words. Condition: the date may be. -/
import Derived.Test.Ytjiofcnlibkhkaa47E
import Derived.Test.Ytjiofcnlibkhkaa47I
import Derived.Test.Ytjiofcnlibkhkaa47K
namespace Go.Proofs.Ytjiofcnlibkhkaa
open Go.RowKit

def absL (z : Int) : Int := if z < 0 then -z else z
def longL (D : Int) : Nat := if 10 ≤ D then 2 else 1
def layL (Y M D h mi s z : Int) : List Int :=
  dayL.getD (wdayL Y M D).toNat [] ++ [44, 32] ++ digL D (longL D) ++ ([32] ++ monL.getD (M - 1).toNat [] ++ [32]) ++ digL Y 4 ++ [32] ++ digL h 2 ++ [58] ++ digL mi 2 ++ [58] ++ digL s 2 ++ [32] ++ [if z < 0 then 45 else 43] ++ digL (absL z / 60 * 100 + absL z % 60) 4
def layV (Y M D h mi s z : Int) : List Int := if mayL Y M D h mi s z then layL Y M D h mi s z else []
theorem dig_two {a b : Int} (_ : 0 ≤ a) (hb : 0 ≤ b ∧ b < 100) : digL (a * 100 + b) 4 = digL a 2 ++ digL b 2 := by
  have e1 : (a * 100 + b) / 10 / 10 / 10 = a / 10 := by omega
  have e2 : (a * 100 + b) / 10 / 10 % 10 = a % 10 := by omega
  have e3 : (a * 100 + b) / 10 % 10 = b / 10 % 10 := by omega
  have e4 : (a * 100 + b) % 10 = b % 10 := by omega
  simp only [digL, List.nil_append, List.cons_append]
  rw [e1, e2, e3, e4]
theorem dayN_len : ∀ n, n < 7 → (dayL.getD n []).length = 3 ∧ ∀ x ∈ dayL.getD n [], (Lit.int .u8 x).wf = true := by decide
theorem monN_len : ∀ n, n < 12 → (monL.getD n []).length = 3 ∧ ∀ x ∈ monL.getD n [], (Lit.int .u8 x).wf = true := by decide
theorem st47a : strOfNums [44, 32] = { data := #[44, 32] } := by decide
theorem st47b : strOfNums [32] = { data := #[32] } := by decide
theorem wday_rng {Y M D : Int} (h1 : 1 ≤ D) (h2 : D ≤ daysL Y M) : ∃ n : Nat, n < 7 ∧ wdayL Y M D = n := by
  have e : wdayL Y M D = (sinceL Y M D + 1) % 7 := by unfold wdayL; rw [if_neg (by omega)]
  exact ⟨((sinceL Y M D + 1) % 7).toNat, by omega, by rw [e]; omega⟩
theorem p47_digits1 {n : Int} {B : Nat} {v : Value} {xs : List Int} {w : World} (h1 : 0 ≤ n) (h2 : n ≤ 1000000) (h3 : App w B v xs) (h4 : B ≤ w.heap.size) (h5 : xs.length ≤ 1000) : Calls Try.prog 26 #[v, .int .i64 n, .int .i64 1] w (RetApp B (xs ++ digL n 1) w) := p47_digits 0 (by omega) h1 h2 h3 h4 h5
theorem p47_digits2 {n : Int} {B : Nat} {v : Value} {xs : List Int} {w : World} (h1 : 0 ≤ n) (h2 : n ≤ 1000000) (h3 : App w B v xs) (h4 : B ≤ w.heap.size) (h5 : xs.length ≤ 1000) : Calls Try.prog 26 #[v, .int .i64 n, .int .i64 2] w (RetApp B (xs ++ digL n 2) w) := p47_digits 1 (by omega) h1 h2 h3 h4 h5
theorem p47_digits4 {n : Int} {B : Nat} {v : Value} {xs : List Int} {w : World} (h1 : 0 ≤ n) (h2 : n ≤ 1000000) (h3 : App w B v xs) (h4 : B ≤ w.heap.size) (h5 : xs.length ≤ 1000) : Calls Try.prog 26 #[v, .int .i64 n, .int .i64 4] w (RetApp B (xs ++ digL n 4) w) := p47_digits 3 (by omega) h1 h2 h3 h4 h5
theorem layL_is {Y D h mi s z : Int} {nd nm : Nat} (hwd : wdayL Y ((nm : Int) + 1) D = nd) : layL Y ((nm : Int) + 1) D h mi s z =
    dayL.getD nd [] ++ [44, 32] ++ digL D (longL D) ++ ([32] ++ monL.getD nm [] ++ [32]) ++ digL Y 4 ++ [32] ++ digL h 2 ++ [58] ++ digL mi 2 ++ [58] ++ digL s 2 ++ [32] ++ [if z < 0 then 45 else 43] ++ digL (absL z / 60 * 100 + absL z % 60) 4 := by
  unfold layL
  rw [hwd, show ((nd : Int)).toNat = nd from by omega, show (((nm : Int) + 1 - 1)).toNat = nm from by omega]
/-- returns octets and an error's number -/
def RetLay (xs : List Int) (er : Int) (w : World) (e : Ending) (w' : World) : Prop := ∃ A n c, e = .returned (.tuple #[.slice A n c, .int .i64 er]) ∧ Sl w' .u8 A n c xs ∧ Below w.heap.size w w'
end Go.Proofs.Ytjiofcnlibkhkaa
