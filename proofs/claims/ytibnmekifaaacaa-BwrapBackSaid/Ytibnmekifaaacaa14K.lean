/- Layer 14 (bcode): how long a code is. No condition: plain lemmas. -/
import Derived.Test.Ytibnmekifaaacaa14R
import Derived.Test.Ytibnmekifaaacaa14T
import Derived.Test.YtibnmekifaaacaaLibC
import Derived.Lib.SlBytesConst
namespace Go.Proofs.Ytibnmekifaaacaa
open Go.RowKit

theorem st14a : strOfNums [90, 103, 61, 61] = { data := #[90, 103, 61, 61] } := by decide
theorem st14b : strOfNums [102] = { data := #[102] } := by decide
theorem lenL_lay (xs : List Int) : lenL (xs.length : Int) = ((layL xs).length : Int) := by
  rcases Nat.eq_zero_or_pos xs.length with h | h
  · have : xs = [] := List.eq_nil_of_length_eq_zero h
    subst this; rfl
  · rw [layL_length xs h]; unfold lenL; rw [if_neg (by omega)]; omega
end Go.Proofs.Ytibnmekifaaacaa
