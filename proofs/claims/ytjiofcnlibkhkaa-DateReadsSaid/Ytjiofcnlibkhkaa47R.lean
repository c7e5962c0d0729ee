/- Layer 47 (date) in plain words: may a date be. No condition. -/
import Derived.Test.Ytjiofcnlibkhkaa47S
namespace Go.Proofs.Ytjiofcnlibkhkaa
open Go.RowKit
def wiL (n most : Int) : Bool := decide (0 ≤ n) && decide (n ≤ most)
def mayL (Y M D h mi s z : Int) : Bool := decide (1900 ≤ Y) && decide (1 ≤ D) && decide (D ≤ daysL Y M) && wiL h 23 && wiL mi 59 && wiL s 60 && decide (-5999 ≤ z) && decide (z ≤ 5999)
end Go.Proofs.Ytjiofcnlibkhkaa
