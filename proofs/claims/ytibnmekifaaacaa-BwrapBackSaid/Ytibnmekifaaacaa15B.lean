/- Layer 15 (bloose): what is counted and read loosely, by the program. Conditions: the argument reads as a list. -/
import Derived.Test.Ytibnmekifaaacaa15
namespace Go.Proofs.Ytibnmekifaaacaa
open Go.RowKit Go.Shelf
attribute [local go_sem] Oper.semAt_some

theorem numE_yes {x : Int} (h : isD x = true) : numE x = valL x := by unfold numE; rw [h]; rfl
theorem numE_no {x : Int} (h : isD x = false) : numE x = -1 := by unfold numE; rw [h]; rfl
/-- how many octets are no digits -/
def noN (xs : List Int) : Int := ((xs.filter fun x => !isD x).length : Int)
theorem noN_le (xs : List Int) : 0 ≤ noN xs ∧ noN xs ≤ xs.length := by
  have := List.length_filter_le (fun x => !isD x) xs
  unfold noN; omega
theorem noN_yes {pre : List Int} {x : Int} (h : isD x = true) : noN (pre ++ [x]) = noN pre := by simp [noN, List.filter_append, h]
theorem noN_no {pre : List Int} {x : Int} (h : isD x = false) : noN (pre ++ [x]) = noN pre + 1 := by simp [noN, List.filter_append, h]

end Go.Proofs.Ytibnmekifaaacaa
