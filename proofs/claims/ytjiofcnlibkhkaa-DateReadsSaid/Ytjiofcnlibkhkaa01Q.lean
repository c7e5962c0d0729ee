/- Layer 1 (octet): single octets, and how many are of some kinds. Conditions: the arguments read as lists; lengths at most 2^30. -/
import Derived.Test.Ytjiofcnlibkhkaa01P
namespace Go.Proofs.Ytjiofcnlibkhkaa
open Go.RowKit

theorem byteAll (p : Int → Bool) (h : ∀ k : Fin 256, p (k.val : Int) = true) {c : Int} (hc : 0 ≤ c ∧ c ≤ 255) : p c = true := by
  obtain ⟨n, rfl⟩ := Int.eq_ofNat_of_zero_le hc.1
  exact h ⟨n, by omega⟩

set_option maxRecDepth 100000 in
set_option maxHeartbeats 1000000 in
theorem r01_Is {c k : Int} {w : World} (hc : (Lit.int .u8 c).wf = true) : Calls Try.prog 49 #[.int .u8 c, .int .i64 k] w (Ret (.bool (isL c k)) w) := by
  go_enter Try.func49, Try.ntmps49
  go_wp2_with (go_at_call 59; refine (r01_Kinds hc).mono ?_; rintro e w' ⟨rfl, rfl⟩)
  go_ret
  exact ⟨rfl, rfl⟩

theorem lowL_wf {c : Int} (hc : (Lit.int .u8 c).wf = true) : (Lit.int .u8 (lowL c)).wf = true := by
  have := wf_u8.1 hc
  apply wf_u8.2; unfold lowL; split <;> omega
theorem lowL_low (c : Int) : lowL (lowL c) = lowL c := by unfold lowL; repeat' split <;> omega
set_option maxRecDepth 100000 in
set_option maxHeartbeats 1000000 in
theorem r01_Lower {c : Int} {w : World} (hc : (Lit.int .u8 c).wf = true) : Calls Try.prog 60 #[.int .u8 c] w (Ret (.int .u8 (lowL c)) w) := by
  have h8 := wf_u8.1 hc
  obtain ⟨h0, h9⟩ := h8
  go_enter Try.func60, Try.ntmps60
  go_wp2
  all_goals (go_ret; exact ⟨ret_int (by unfold lowL; go_light; simp_all <;> omega), rfl⟩)
theorem or32 {c : Int} (h : 65 ≤ c ∧ c ≤ 90) : bits .or .u8 c 32 = c + 32 := by
  have := byteAll (fun c => decide (65 ≤ c ∧ c ≤ 90 → bits .or .u8 c 32 = c + 32)) (by decide +kernel) (c := c) (by omega)
  exact (of_decide_eq_true this) h
set_option maxRecDepth 100000 in
set_option maxHeartbeats 1000000 in
theorem p01_Lower {c : Int} {w : World} (hc : (Lit.int .u8 c).wf = true) : Calls Try.prog 65 #[.int .u8 c] w (Ret (.int .u8 (lowL c)) w) := by
  have h8 := wf_u8.1 hc
  obtain ⟨h0, h9⟩ := h8
  by_cases hb : 65 ≤ c ∧ c ≤ 90
  · have ho := or32 hb
    obtain ⟨hb1, hb2⟩ := hb
    go_enter Try.func65, Try.ntmps65
    go_wp2
    go_ret
    exact ⟨ret_int (by unfold lowL; rw [if_pos ⟨hb1, hb2⟩]), rfl⟩
  · have hl : lowL c = c := by unfold lowL; rw [if_neg hb]
    by_cases hb1 : 65 ≤ c
    · have hb2 : ¬ c ≤ 90 := by omega
      go_enter Try.func65, Try.ntmps65
      go_wp2
      go_ret
      exact ⟨rfl, rfl⟩
    · go_enter Try.func65, Try.ntmps65
      go_wp2
      go_ret
      exact ⟨rfl, rfl⟩

/-- how many are of some kinds -/
def cntL (k : Int) : List Int → Int
  | [] => 0
  | x :: r => (if isL x k then 1 else 0) + cntL k r
theorem cntL_le (k : Int) (xs : List Int) : 0 ≤ cntL k xs ∧ cntL k xs ≤ xs.length := by
  induction xs with
  | nil => simp [cntL]
  | cons x r ih => simp only [cntL, List.length_cons]; split <;> omega
end Go.Proofs.Ytjiofcnlibkhkaa
