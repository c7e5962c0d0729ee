/- Layer 15 (bloose): digits taken, by the program. Conditions: the argument reads as a list; lengths at most 2^24. -/
import Derived.Test.Ytibnmekifaaacaa15B
namespace Go.Proofs.Ytibnmekifaaacaa
open Go.RowKit Go.Shelf
attribute [local go_sem] Oper.semAt_some

theorem isD_wf {x : Int} (h : isD x = true) : (Lit.int .u8 x).wf = true := by
  unfold isD at h
  have := of_decide_eq_true h
  exact wf_u8.2 (by omega)
theorem filter_wf (xs : List Int) : ∀ x ∈ xs.filter isD, (Lit.int .u8 x).wf = true := fun _ hx => isD_wf (List.mem_filter.1 hx).2
theorem fil_yes {pre : List Int} {x : Int} (h : isD x = true) : (pre ++ [x]).filter isD = pre.filter isD ++ [x] := by simp [List.filter_append, h]
theorem fil_no {pre : List Int} {x : Int} (h : isD x = false) : (pre ++ [x]).filter isD = pre.filter isD := by simp [List.filter_append, h]

end Go.Proofs.Ytibnmekifaaacaa
