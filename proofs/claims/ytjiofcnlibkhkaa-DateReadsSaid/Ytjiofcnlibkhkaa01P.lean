/- Layer 1 (octet): what the program's functions on one octet return. Condition: the argument is an octet. -/
import Derived.Test.Ytjiofcnlibkhkaa01
namespace Go.Proofs.Ytjiofcnlibkhkaa
open Go.RowKit

def plainK (c : Int) : Int := bint (ctlB c) 1 + bint (blkB c) 2 + bint (digB c) 648 + bint (letB c) 656

set_option maxHeartbeats 400000 in
theorem p01_in {s : ByteArray} {c : Int} {w : World} (hc : (Lit.int .u8 c).wf = true) (l : List Int) (h : strL s = l) : Calls Try.prog 62 #[.string s, .int .u8 c] w (Ret (.bool (hasL l c)) w) := by
  subst h
  go_enter Try.func62, Try.ntmps62
  go_wp2_with (go_at_call 67; refine (lib_strIndexByte hc).mono ?_; rintro e w' ⟨rfl, rfl⟩)
  go_ret
  exact ⟨ret_bool (by go_light; have h1 := idx_neg (isB c) (strL s); have h2 : (strL s).any (isB c) = true ↔ ¬ (strL s).any (isB c) = false := (by simp); rw [Bool.eq_iff_iff, decide_eq_true_iff]; show _ ↔ (strL s).any (isB c) = true; rw [h2, ← h1]; omega), rfl⟩

set_option maxHeartbeats 2000000 in
theorem p01_plain {c : Int} {w : World} (hc : (Lit.int .u8 c).wf = true) : Calls Try.prog 61 #[.int .u8 c] w (Ret (.int .i64 (plainK c)) w) := by
  obtain ⟨h1, h2⟩ := wf_u8.1 hc
  clear hc
  have cases9 : c ≤ 8 ∨ c = 9 ∨ (10 ≤ c ∧ c ≤ 31) ∨ c = 32 ∨ (48 ≤ c ∧ c ≤ 57) ∨ (65 ≤ c ∧ c ≤ 90) ∨ (97 ≤ c ∧ c ≤ 122) ∨ c = 127 ∨ 128 ≤ c ∨ (33 ≤ c ∧ c ≤ 47) ∨ (58 ≤ c ∧ c ≤ 64) ∨ (91 ≤ c ∧ c ≤ 96) ∨ (123 ≤ c ∧ c ≤ 126) := by omega
  rcases cases9 with h | h | h | h | h | h | h | h | h | h | h | h | h
  · have HctlB : ctlB c = true := by simp [ctlB] <;> omega
    have HblkB : blkB c = false := by simp [blkB] <;> omega
    have HprtB : prtB c = false := by simp [prtB] <;> omega
    have HdigB : digB c = false := by simp [digB] <;> omega
    have HletB : letB c = false := by simp [letB] <;> omega
    have f1 : hasL S1 c = false := no_S1 (by omega)
    have f2 : hasL S2 c = false := no_S2 (by omega)
    have f3 : hasL S3 c = false := no_S3 (by omega)
    have f4 : hasL S4 c = false := no_S4 (by omega)
    have q1 : (c == 32) = false := by simp; omega
    have q2 : (c == 9) = false := by simp; omega
    have q3 : (c == 127) = false := by simp; omega
    go_enter Try.func61, Try.ntmps61
    go_wp2
    all_goals (go_ret; exact ⟨ret_int (by go_light; simp_all [plainK, bint] <;> decide), rfl⟩)
  · have HctlB : ctlB c = true := by simp [ctlB] <;> omega
    have HblkB : blkB c = true := by simp [blkB] <;> omega
    have HprtB : prtB c = false := by simp [prtB] <;> omega
    have HdigB : digB c = false := by simp [digB] <;> omega
    have HletB : letB c = false := by simp [letB] <;> omega
    have f1 : hasL S1 c = false := no_S1 (by omega)
    have f2 : hasL S2 c = false := no_S2 (by omega)
    have f3 : hasL S3 c = false := no_S3 (by omega)
    have f4 : hasL S4 c = false := no_S4 (by omega)
    subst h
    go_enter Try.func61, Try.ntmps61
    go_wp2
    all_goals (go_ret; exact ⟨ret_int (by go_light; simp_all [plainK, bint] <;> decide), rfl⟩)
  · have HctlB : ctlB c = true := by simp [ctlB] <;> omega
    have HblkB : blkB c = false := by simp [blkB] <;> omega
    have HprtB : prtB c = false := by simp [prtB] <;> omega
    have HdigB : digB c = false := by simp [digB] <;> omega
    have HletB : letB c = false := by simp [letB] <;> omega
    have f1 : hasL S1 c = false := no_S1 (by omega)
    have f2 : hasL S2 c = false := no_S2 (by omega)
    have f3 : hasL S3 c = false := no_S3 (by omega)
    have f4 : hasL S4 c = false := no_S4 (by omega)
    have q1 : (c == 32) = false := by simp; omega
    have q2 : (c == 9) = false := by simp; omega
    have q3 : (c == 127) = false := by simp; omega
    go_enter Try.func61, Try.ntmps61
    go_wp2
    all_goals (go_ret; exact ⟨ret_int (by go_light; simp_all [plainK, bint] <;> decide), rfl⟩)
  · have HctlB : ctlB c = false := by simp [ctlB] <;> omega
    have HblkB : blkB c = true := by simp [blkB] <;> omega
    have HprtB : prtB c = false := by simp [prtB] <;> omega
    have HdigB : digB c = false := by simp [digB] <;> omega
    have HletB : letB c = false := by simp [letB] <;> omega
    have f1 : hasL S1 c = false := no_S1 (by omega)
    have f2 : hasL S2 c = false := no_S2 (by omega)
    have f3 : hasL S3 c = false := no_S3 (by omega)
    have f4 : hasL S4 c = false := no_S4 (by omega)
    subst h
    go_enter Try.func61, Try.ntmps61
    go_wp2
    all_goals (go_ret; exact ⟨ret_int (by go_light; simp_all [plainK, bint] <;> decide), rfl⟩)
  · have HctlB : ctlB c = false := by simp [ctlB] <;> omega
    have HblkB : blkB c = false := by simp [blkB] <;> omega
    have HprtB : prtB c = true := by simp [prtB] <;> omega
    have HdigB : digB c = true := by simp [digB] <;> omega
    have HletB : letB c = false := by simp [letB] <;> omega
    have f1 : hasL S1 c = false := no_S1 (by omega)
    have f2 : hasL S2 c = false := no_S2 (by omega)
    have f3 : hasL S3 c = false := no_S3 (by omega)
    have f4 : hasL S4 c = false := no_S4 (by omega)
    have q1 : (c == 32) = false := by simp; omega
    have q2 : (c == 9) = false := by simp; omega
    have q3 : (c == 127) = false := by simp; omega
    go_enter Try.func61, Try.ntmps61
    go_wp2
    all_goals (go_ret; exact ⟨ret_int (by go_light; simp_all [plainK, bint] <;> decide), rfl⟩)
  · have HctlB : ctlB c = false := by simp [ctlB] <;> omega
    have HblkB : blkB c = false := by simp [blkB] <;> omega
    have HprtB : prtB c = true := by simp [prtB] <;> omega
    have HdigB : digB c = false := by simp [digB] <;> omega
    have HletB : letB c = true := by simp [letB] <;> omega
    have f1 : hasL S1 c = false := no_S1 (by omega)
    have f2 : hasL S2 c = false := no_S2 (by omega)
    have f3 : hasL S3 c = false := no_S3 (by omega)
    have f4 : hasL S4 c = false := no_S4 (by omega)
    have q1 : (c == 32) = false := by simp; omega
    have q2 : (c == 9) = false := by simp; omega
    have q3 : (c == 127) = false := by simp; omega
    go_enter Try.func61, Try.ntmps61
    go_wp2
    all_goals (go_ret; exact ⟨ret_int (by go_light; simp_all [plainK, bint] <;> decide), rfl⟩)
  · have HctlB : ctlB c = false := by simp [ctlB] <;> omega
    have HblkB : blkB c = false := by simp [blkB] <;> omega
    have HprtB : prtB c = true := by simp [prtB] <;> omega
    have HdigB : digB c = false := by simp [digB] <;> omega
    have HletB : letB c = true := by simp [letB] <;> omega
    have f1 : hasL S1 c = false := no_S1 (by omega)
    have f2 : hasL S2 c = false := no_S2 (by omega)
    have f3 : hasL S3 c = false := no_S3 (by omega)
    have f4 : hasL S4 c = false := no_S4 (by omega)
    have q1 : (c == 32) = false := by simp; omega
    have q2 : (c == 9) = false := by simp; omega
    have q3 : (c == 127) = false := by simp; omega
    go_enter Try.func61, Try.ntmps61
    go_wp2
    all_goals (go_ret; exact ⟨ret_int (by go_light; simp_all [plainK, bint] <;> decide), rfl⟩)
  · have HctlB : ctlB c = true := by simp [ctlB] <;> omega
    have HblkB : blkB c = false := by simp [blkB] <;> omega
    have HprtB : prtB c = false := by simp [prtB] <;> omega
    have HdigB : digB c = false := by simp [digB] <;> omega
    have HletB : letB c = false := by simp [letB] <;> omega
    have f1 : hasL S1 c = false := no_S1 (by omega)
    have f2 : hasL S2 c = false := no_S2 (by omega)
    have f3 : hasL S3 c = false := no_S3 (by omega)
    have f4 : hasL S4 c = false := no_S4 (by omega)
    subst h
    go_enter Try.func61, Try.ntmps61
    go_wp2
    all_goals (go_ret; exact ⟨ret_int (by go_light; simp_all [plainK, bint] <;> decide), rfl⟩)
  · have HctlB : ctlB c = false := by simp [ctlB] <;> omega
    have HblkB : blkB c = false := by simp [blkB] <;> omega
    have HprtB : prtB c = false := by simp [prtB] <;> omega
    have HdigB : digB c = false := by simp [digB] <;> omega
    have HletB : letB c = false := by simp [letB] <;> omega
    have f1 : hasL S1 c = false := no_S1 (by omega)
    have f2 : hasL S2 c = false := no_S2 (by omega)
    have f3 : hasL S3 c = false := no_S3 (by omega)
    have f4 : hasL S4 c = false := no_S4 (by omega)
    have q1 : (c == 32) = false := by simp; omega
    have q2 : (c == 9) = false := by simp; omega
    have q3 : (c == 127) = false := by simp; omega
    go_enter Try.func61, Try.ntmps61
    go_wp2
    all_goals (go_ret; exact ⟨ret_int (by go_light; simp_all [plainK, bint] <;> decide), rfl⟩)
  · have HctlB : ctlB c = false := by simp [ctlB] <;> omega
    have HblkB : blkB c = false := by simp [blkB] <;> omega
    have HprtB : prtB c = true := by simp [prtB] <;> omega
    have HdigB : digB c = false := by simp [digB] <;> omega
    have HletB : letB c = false := by simp [letB] <;> omega
    have q1 : (c == 32) = false := by simp; omega
    have q2 : (c == 9) = false := by simp; omega
    have q3 : (c == 127) = false := by simp; omega
    go_enter Try.func61, Try.ntmps61
    go_wp2
    all_goals (go_ret; exact ⟨ret_int (by go_light; simp_all [plainK, bint] <;> decide), rfl⟩)
  · have HctlB : ctlB c = false := by simp [ctlB] <;> omega
    have HblkB : blkB c = false := by simp [blkB] <;> omega
    have HprtB : prtB c = true := by simp [prtB] <;> omega
    have HdigB : digB c = false := by simp [digB] <;> omega
    have HletB : letB c = false := by simp [letB] <;> omega
    have f2 : hasL S2 c = false := no_S2 (by omega)
    have f3 : hasL S3 c = false := no_S3 (by omega)
    have f4 : hasL S4 c = false := no_S4 (by omega)
    have q1 : (c == 32) = false := by simp; omega
    have q2 : (c == 9) = false := by simp; omega
    have q3 : (c == 127) = false := by simp; omega
    go_enter Try.func61, Try.ntmps61
    go_wp2
    all_goals (go_ret; exact ⟨ret_int (by go_light; simp_all [plainK, bint] <;> decide), rfl⟩)
  · have HctlB : ctlB c = false := by simp [ctlB] <;> omega
    have HblkB : blkB c = false := by simp [blkB] <;> omega
    have HprtB : prtB c = true := by simp [prtB] <;> omega
    have HdigB : digB c = false := by simp [digB] <;> omega
    have HletB : letB c = false := by simp [letB] <;> omega
    have f2 : hasL S2 c = false := no_S2 (by omega)
    have f3 : hasL S3 c = false := no_S3 (by omega)
    have f4 : hasL S4 c = false := no_S4 (by omega)
    have q1 : (c == 32) = false := by simp; omega
    have q2 : (c == 9) = false := by simp; omega
    have q3 : (c == 127) = false := by simp; omega
    go_enter Try.func61, Try.ntmps61
    go_wp2
    all_goals (go_ret; exact ⟨ret_int (by go_light; simp_all [plainK, bint] <;> decide), rfl⟩)
  · have HctlB : ctlB c = false := by simp [ctlB] <;> omega
    have HblkB : blkB c = false := by simp [blkB] <;> omega
    have HprtB : prtB c = true := by simp [prtB] <;> omega
    have HdigB : digB c = false := by simp [digB] <;> omega
    have HletB : letB c = false := by simp [letB] <;> omega
    have f2 : hasL S2 c = false := no_S2 (by omega)
    have f3 : hasL S3 c = false := no_S3 (by omega)
    have f4 : hasL S4 c = false := no_S4 (by omega)
    have q1 : (c == 32) = false := by simp; omega
    have q2 : (c == 9) = false := by simp; omega
    have q3 : (c == 127) = false := by simp; omega
    go_enter Try.func61, Try.ntmps61
    go_wp2
    all_goals (go_ret; exact ⟨ret_int (by go_light; simp_all [plainK, bint] <;> decide), rfl⟩)

set_option maxHeartbeats 2000000 in
theorem p01_Kinds {c : Int} {w : World} (hc : (Lit.int .u8 c).wf = true) : Calls Try.prog 55 #[.int .u8 c] w (Ret (.int .i64 (kindsL c)) w) := by
  obtain ⟨h1, h2⟩ := wf_u8.1 hc
  have cases9 : c ≤ 8 ∨ c = 9 ∨ (10 ≤ c ∧ c ≤ 31) ∨ c = 32 ∨ (48 ≤ c ∧ c ≤ 57) ∨ (65 ≤ c ∧ c ≤ 90) ∨ (97 ≤ c ∧ c ≤ 122) ∨ c = 127 ∨ 128 ≤ c ∨ (33 ≤ c ∧ c ≤ 47) ∨ (58 ≤ c ∧ c ≤ 64) ∨ (91 ≤ c ∧ c ≤ 96) ∨ (123 ≤ c ∧ c ≤ 126) := by omega
  rcases cases9 with h | h | h | h | h | h | h | h | h | h | h | h | h
  · have HctlB : ctlB c = true := by simp [ctlB] <;> omega
    have HblkB : blkB c = false := by simp [blkB] <;> omega
    have HprtB : prtB c = false := by simp [prtB] <;> omega
    have HdigB : digB c = false := by simp [digB] <;> omega
    have HletB : letB c = false := by simp [letB] <;> omega
    have f1 : hasL S1 c = false := no_S1 (by omega)
    have f2 : hasL S2 c = false := no_S2 (by omega)
    have f3 : hasL S3 c = false := no_S3 (by omega)
    have f4 : hasL S4 c = false := no_S4 (by omega)
    have q1 : (c == 32) = false := by simp; omega
    have q2 : (c == 9) = false := by simp; omega
    have q3 : (c == 127) = false := by simp; omega
    go_enter Try.func55, Try.ntmps55
    go_wp2_with (first | (go_at_call 61; refine (p01_plain hc).mono ?_; rintro e w' ⟨rfl, rfl⟩) | (go_at_call 62; first | (refine (p01_in hc S1 (by decide)).mono ?_; rintro e w' ⟨rfl, rfl⟩) | (refine (p01_in hc S2 (by decide)).mono ?_; rintro e w' ⟨rfl, rfl⟩) | (refine (p01_in hc S3 (by decide)).mono ?_; rintro e w' ⟨rfl, rfl⟩) | (refine (p01_in hc S4 (by decide)).mono ?_; rintro e w' ⟨rfl, rfl⟩)))
    all_goals (go_ret; exact ⟨ret_int (by go_light; simp_all [plainK, kindsL, bint] <;> decide), rfl⟩)
  · have HctlB : ctlB c = true := by simp [ctlB] <;> omega
    have HblkB : blkB c = true := by simp [blkB] <;> omega
    have HprtB : prtB c = false := by simp [prtB] <;> omega
    have HdigB : digB c = false := by simp [digB] <;> omega
    have HletB : letB c = false := by simp [letB] <;> omega
    have f1 : hasL S1 c = false := no_S1 (by omega)
    have f2 : hasL S2 c = false := no_S2 (by omega)
    have f3 : hasL S3 c = false := no_S3 (by omega)
    have f4 : hasL S4 c = false := no_S4 (by omega)
    subst h
    go_enter Try.func55, Try.ntmps55
    go_wp2_with (first | (go_at_call 61; refine (p01_plain hc).mono ?_; rintro e w' ⟨rfl, rfl⟩) | (go_at_call 62; first | (refine (p01_in hc S1 (by decide)).mono ?_; rintro e w' ⟨rfl, rfl⟩) | (refine (p01_in hc S2 (by decide)).mono ?_; rintro e w' ⟨rfl, rfl⟩) | (refine (p01_in hc S3 (by decide)).mono ?_; rintro e w' ⟨rfl, rfl⟩) | (refine (p01_in hc S4 (by decide)).mono ?_; rintro e w' ⟨rfl, rfl⟩)))
    all_goals (go_ret; exact ⟨ret_int (by go_light; simp_all [plainK, kindsL, bint] <;> decide), rfl⟩)
  · have HctlB : ctlB c = true := by simp [ctlB] <;> omega
    have HblkB : blkB c = false := by simp [blkB] <;> omega
    have HprtB : prtB c = false := by simp [prtB] <;> omega
    have HdigB : digB c = false := by simp [digB] <;> omega
    have HletB : letB c = false := by simp [letB] <;> omega
    have f1 : hasL S1 c = false := no_S1 (by omega)
    have f2 : hasL S2 c = false := no_S2 (by omega)
    have f3 : hasL S3 c = false := no_S3 (by omega)
    have f4 : hasL S4 c = false := no_S4 (by omega)
    have q1 : (c == 32) = false := by simp; omega
    have q2 : (c == 9) = false := by simp; omega
    have q3 : (c == 127) = false := by simp; omega
    go_enter Try.func55, Try.ntmps55
    go_wp2_with (first | (go_at_call 61; refine (p01_plain hc).mono ?_; rintro e w' ⟨rfl, rfl⟩) | (go_at_call 62; first | (refine (p01_in hc S1 (by decide)).mono ?_; rintro e w' ⟨rfl, rfl⟩) | (refine (p01_in hc S2 (by decide)).mono ?_; rintro e w' ⟨rfl, rfl⟩) | (refine (p01_in hc S3 (by decide)).mono ?_; rintro e w' ⟨rfl, rfl⟩) | (refine (p01_in hc S4 (by decide)).mono ?_; rintro e w' ⟨rfl, rfl⟩)))
    all_goals (go_ret; exact ⟨ret_int (by go_light; simp_all [plainK, kindsL, bint] <;> decide), rfl⟩)
  · have HctlB : ctlB c = false := by simp [ctlB] <;> omega
    have HblkB : blkB c = true := by simp [blkB] <;> omega
    have HprtB : prtB c = false := by simp [prtB] <;> omega
    have HdigB : digB c = false := by simp [digB] <;> omega
    have HletB : letB c = false := by simp [letB] <;> omega
    have f1 : hasL S1 c = false := no_S1 (by omega)
    have f2 : hasL S2 c = false := no_S2 (by omega)
    have f3 : hasL S3 c = false := no_S3 (by omega)
    have f4 : hasL S4 c = false := no_S4 (by omega)
    subst h
    go_enter Try.func55, Try.ntmps55
    go_wp2_with (first | (go_at_call 61; refine (p01_plain hc).mono ?_; rintro e w' ⟨rfl, rfl⟩) | (go_at_call 62; first | (refine (p01_in hc S1 (by decide)).mono ?_; rintro e w' ⟨rfl, rfl⟩) | (refine (p01_in hc S2 (by decide)).mono ?_; rintro e w' ⟨rfl, rfl⟩) | (refine (p01_in hc S3 (by decide)).mono ?_; rintro e w' ⟨rfl, rfl⟩) | (refine (p01_in hc S4 (by decide)).mono ?_; rintro e w' ⟨rfl, rfl⟩)))
    all_goals (go_ret; exact ⟨ret_int (by go_light; simp_all [plainK, kindsL, bint] <;> decide), rfl⟩)
  · have HctlB : ctlB c = false := by simp [ctlB] <;> omega
    have HblkB : blkB c = false := by simp [blkB] <;> omega
    have HprtB : prtB c = true := by simp [prtB] <;> omega
    have HdigB : digB c = true := by simp [digB] <;> omega
    have HletB : letB c = false := by simp [letB] <;> omega
    have f1 : hasL S1 c = false := no_S1 (by omega)
    have f2 : hasL S2 c = false := no_S2 (by omega)
    have f3 : hasL S3 c = false := no_S3 (by omega)
    have f4 : hasL S4 c = false := no_S4 (by omega)
    have q1 : (c == 32) = false := by simp; omega
    have q2 : (c == 9) = false := by simp; omega
    have q3 : (c == 127) = false := by simp; omega
    go_enter Try.func55, Try.ntmps55
    go_wp2_with (first | (go_at_call 61; refine (p01_plain hc).mono ?_; rintro e w' ⟨rfl, rfl⟩) | (go_at_call 62; first | (refine (p01_in hc S1 (by decide)).mono ?_; rintro e w' ⟨rfl, rfl⟩) | (refine (p01_in hc S2 (by decide)).mono ?_; rintro e w' ⟨rfl, rfl⟩) | (refine (p01_in hc S3 (by decide)).mono ?_; rintro e w' ⟨rfl, rfl⟩) | (refine (p01_in hc S4 (by decide)).mono ?_; rintro e w' ⟨rfl, rfl⟩)))
    all_goals (go_ret; exact ⟨ret_int (by go_light; simp_all [plainK, kindsL, bint] <;> decide), rfl⟩)
  · have HctlB : ctlB c = false := by simp [ctlB] <;> omega
    have HblkB : blkB c = false := by simp [blkB] <;> omega
    have HprtB : prtB c = true := by simp [prtB] <;> omega
    have HdigB : digB c = false := by simp [digB] <;> omega
    have HletB : letB c = true := by simp [letB] <;> omega
    have f1 : hasL S1 c = false := no_S1 (by omega)
    have f2 : hasL S2 c = false := no_S2 (by omega)
    have f3 : hasL S3 c = false := no_S3 (by omega)
    have f4 : hasL S4 c = false := no_S4 (by omega)
    have q1 : (c == 32) = false := by simp; omega
    have q2 : (c == 9) = false := by simp; omega
    have q3 : (c == 127) = false := by simp; omega
    go_enter Try.func55, Try.ntmps55
    go_wp2_with (first | (go_at_call 61; refine (p01_plain hc).mono ?_; rintro e w' ⟨rfl, rfl⟩) | (go_at_call 62; first | (refine (p01_in hc S1 (by decide)).mono ?_; rintro e w' ⟨rfl, rfl⟩) | (refine (p01_in hc S2 (by decide)).mono ?_; rintro e w' ⟨rfl, rfl⟩) | (refine (p01_in hc S3 (by decide)).mono ?_; rintro e w' ⟨rfl, rfl⟩) | (refine (p01_in hc S4 (by decide)).mono ?_; rintro e w' ⟨rfl, rfl⟩)))
    all_goals (go_ret; exact ⟨ret_int (by go_light; simp_all [plainK, kindsL, bint] <;> decide), rfl⟩)
  · have HctlB : ctlB c = false := by simp [ctlB] <;> omega
    have HblkB : blkB c = false := by simp [blkB] <;> omega
    have HprtB : prtB c = true := by simp [prtB] <;> omega
    have HdigB : digB c = false := by simp [digB] <;> omega
    have HletB : letB c = true := by simp [letB] <;> omega
    have f1 : hasL S1 c = false := no_S1 (by omega)
    have f2 : hasL S2 c = false := no_S2 (by omega)
    have f3 : hasL S3 c = false := no_S3 (by omega)
    have f4 : hasL S4 c = false := no_S4 (by omega)
    have q1 : (c == 32) = false := by simp; omega
    have q2 : (c == 9) = false := by simp; omega
    have q3 : (c == 127) = false := by simp; omega
    go_enter Try.func55, Try.ntmps55
    go_wp2_with (first | (go_at_call 61; refine (p01_plain hc).mono ?_; rintro e w' ⟨rfl, rfl⟩) | (go_at_call 62; first | (refine (p01_in hc S1 (by decide)).mono ?_; rintro e w' ⟨rfl, rfl⟩) | (refine (p01_in hc S2 (by decide)).mono ?_; rintro e w' ⟨rfl, rfl⟩) | (refine (p01_in hc S3 (by decide)).mono ?_; rintro e w' ⟨rfl, rfl⟩) | (refine (p01_in hc S4 (by decide)).mono ?_; rintro e w' ⟨rfl, rfl⟩)))
    all_goals (go_ret; exact ⟨ret_int (by go_light; simp_all [plainK, kindsL, bint] <;> decide), rfl⟩)
  · have HctlB : ctlB c = true := by simp [ctlB] <;> omega
    have HblkB : blkB c = false := by simp [blkB] <;> omega
    have HprtB : prtB c = false := by simp [prtB] <;> omega
    have HdigB : digB c = false := by simp [digB] <;> omega
    have HletB : letB c = false := by simp [letB] <;> omega
    have f1 : hasL S1 c = false := no_S1 (by omega)
    have f2 : hasL S2 c = false := no_S2 (by omega)
    have f3 : hasL S3 c = false := no_S3 (by omega)
    have f4 : hasL S4 c = false := no_S4 (by omega)
    subst h
    go_enter Try.func55, Try.ntmps55
    go_wp2_with (first | (go_at_call 61; refine (p01_plain hc).mono ?_; rintro e w' ⟨rfl, rfl⟩) | (go_at_call 62; first | (refine (p01_in hc S1 (by decide)).mono ?_; rintro e w' ⟨rfl, rfl⟩) | (refine (p01_in hc S2 (by decide)).mono ?_; rintro e w' ⟨rfl, rfl⟩) | (refine (p01_in hc S3 (by decide)).mono ?_; rintro e w' ⟨rfl, rfl⟩) | (refine (p01_in hc S4 (by decide)).mono ?_; rintro e w' ⟨rfl, rfl⟩)))
    all_goals (go_ret; exact ⟨ret_int (by go_light; simp_all [plainK, kindsL, bint] <;> decide), rfl⟩)
  · have HctlB : ctlB c = false := by simp [ctlB] <;> omega
    have HblkB : blkB c = false := by simp [blkB] <;> omega
    have HprtB : prtB c = false := by simp [prtB] <;> omega
    have HdigB : digB c = false := by simp [digB] <;> omega
    have HletB : letB c = false := by simp [letB] <;> omega
    have f1 : hasL S1 c = false := no_S1 (by omega)
    have f2 : hasL S2 c = false := no_S2 (by omega)
    have f3 : hasL S3 c = false := no_S3 (by omega)
    have f4 : hasL S4 c = false := no_S4 (by omega)
    have q1 : (c == 32) = false := by simp; omega
    have q2 : (c == 9) = false := by simp; omega
    have q3 : (c == 127) = false := by simp; omega
    go_enter Try.func55, Try.ntmps55
    go_wp2_with (first | (go_at_call 61; refine (p01_plain hc).mono ?_; rintro e w' ⟨rfl, rfl⟩) | (go_at_call 62; first | (refine (p01_in hc S1 (by decide)).mono ?_; rintro e w' ⟨rfl, rfl⟩) | (refine (p01_in hc S2 (by decide)).mono ?_; rintro e w' ⟨rfl, rfl⟩) | (refine (p01_in hc S3 (by decide)).mono ?_; rintro e w' ⟨rfl, rfl⟩) | (refine (p01_in hc S4 (by decide)).mono ?_; rintro e w' ⟨rfl, rfl⟩)))
    all_goals (go_ret; exact ⟨ret_int (by go_light; simp_all [plainK, kindsL, bint] <;> decide), rfl⟩)
  · have HctlB : ctlB c = false := by simp [ctlB] <;> omega
    have HblkB : blkB c = false := by simp [blkB] <;> omega
    have HprtB : prtB c = true := by simp [prtB] <;> omega
    have HdigB : digB c = false := by simp [digB] <;> omega
    have HletB : letB c = false := by simp [letB] <;> omega
    have q1 : (c == 32) = false := by simp; omega
    have q2 : (c == 9) = false := by simp; omega
    have q3 : (c == 127) = false := by simp; omega
    go_enter Try.func55, Try.ntmps55
    go_wp2_with (first | (go_at_call 61; refine (p01_plain hc).mono ?_; rintro e w' ⟨rfl, rfl⟩) | (go_at_call 62; first | (refine (p01_in hc S1 (by decide)).mono ?_; rintro e w' ⟨rfl, rfl⟩) | (refine (p01_in hc S2 (by decide)).mono ?_; rintro e w' ⟨rfl, rfl⟩) | (refine (p01_in hc S3 (by decide)).mono ?_; rintro e w' ⟨rfl, rfl⟩) | (refine (p01_in hc S4 (by decide)).mono ?_; rintro e w' ⟨rfl, rfl⟩)))
    all_goals (go_ret; exact ⟨ret_int (by go_light; simp_all [plainK, kindsL, bint] <;> decide), rfl⟩)
  · have HctlB : ctlB c = false := by simp [ctlB] <;> omega
    have HblkB : blkB c = false := by simp [blkB] <;> omega
    have HprtB : prtB c = true := by simp [prtB] <;> omega
    have HdigB : digB c = false := by simp [digB] <;> omega
    have HletB : letB c = false := by simp [letB] <;> omega
    have f2 : hasL S2 c = false := no_S2 (by omega)
    have f3 : hasL S3 c = false := no_S3 (by omega)
    have f4 : hasL S4 c = false := no_S4 (by omega)
    have q1 : (c == 32) = false := by simp; omega
    have q2 : (c == 9) = false := by simp; omega
    have q3 : (c == 127) = false := by simp; omega
    go_enter Try.func55, Try.ntmps55
    go_wp2_with (first | (go_at_call 61; refine (p01_plain hc).mono ?_; rintro e w' ⟨rfl, rfl⟩) | (go_at_call 62; first | (refine (p01_in hc S1 (by decide)).mono ?_; rintro e w' ⟨rfl, rfl⟩) | (refine (p01_in hc S2 (by decide)).mono ?_; rintro e w' ⟨rfl, rfl⟩) | (refine (p01_in hc S3 (by decide)).mono ?_; rintro e w' ⟨rfl, rfl⟩) | (refine (p01_in hc S4 (by decide)).mono ?_; rintro e w' ⟨rfl, rfl⟩)))
    all_goals (go_ret; exact ⟨ret_int (by go_light; simp_all [plainK, kindsL, bint] <;> decide), rfl⟩)
  · have HctlB : ctlB c = false := by simp [ctlB] <;> omega
    have HblkB : blkB c = false := by simp [blkB] <;> omega
    have HprtB : prtB c = true := by simp [prtB] <;> omega
    have HdigB : digB c = false := by simp [digB] <;> omega
    have HletB : letB c = false := by simp [letB] <;> omega
    have f2 : hasL S2 c = false := no_S2 (by omega)
    have f3 : hasL S3 c = false := no_S3 (by omega)
    have f4 : hasL S4 c = false := no_S4 (by omega)
    have q1 : (c == 32) = false := by simp; omega
    have q2 : (c == 9) = false := by simp; omega
    have q3 : (c == 127) = false := by simp; omega
    go_enter Try.func55, Try.ntmps55
    go_wp2_with (first | (go_at_call 61; refine (p01_plain hc).mono ?_; rintro e w' ⟨rfl, rfl⟩) | (go_at_call 62; first | (refine (p01_in hc S1 (by decide)).mono ?_; rintro e w' ⟨rfl, rfl⟩) | (refine (p01_in hc S2 (by decide)).mono ?_; rintro e w' ⟨rfl, rfl⟩) | (refine (p01_in hc S3 (by decide)).mono ?_; rintro e w' ⟨rfl, rfl⟩) | (refine (p01_in hc S4 (by decide)).mono ?_; rintro e w' ⟨rfl, rfl⟩)))
    all_goals (go_ret; exact ⟨ret_int (by go_light; simp_all [plainK, kindsL, bint] <;> decide), rfl⟩)
  · have HctlB : ctlB c = false := by simp [ctlB] <;> omega
    have HblkB : blkB c = false := by simp [blkB] <;> omega
    have HprtB : prtB c = true := by simp [prtB] <;> omega
    have HdigB : digB c = false := by simp [digB] <;> omega
    have HletB : letB c = false := by simp [letB] <;> omega
    have f2 : hasL S2 c = false := no_S2 (by omega)
    have f3 : hasL S3 c = false := no_S3 (by omega)
    have f4 : hasL S4 c = false := no_S4 (by omega)
    have q1 : (c == 32) = false := by simp; omega
    have q2 : (c == 9) = false := by simp; omega
    have q3 : (c == 127) = false := by simp; omega
    go_enter Try.func55, Try.ntmps55
    go_wp2_with (first | (go_at_call 61; refine (p01_plain hc).mono ?_; rintro e w' ⟨rfl, rfl⟩) | (go_at_call 62; first | (refine (p01_in hc S1 (by decide)).mono ?_; rintro e w' ⟨rfl, rfl⟩) | (refine (p01_in hc S2 (by decide)).mono ?_; rintro e w' ⟨rfl, rfl⟩) | (refine (p01_in hc S3 (by decide)).mono ?_; rintro e w' ⟨rfl, rfl⟩) | (refine (p01_in hc S4 (by decide)).mono ?_; rintro e w' ⟨rfl, rfl⟩)))
    all_goals (go_ret; exact ⟨ret_int (by go_light; simp_all [plainK, kindsL, bint] <;> decide), rfl⟩)

set_option maxHeartbeats 400000 in
theorem p01_Is {c k : Int} {w : World} (hc : (Lit.int .u8 c).wf = true) : Calls Try.prog 41 #[.int .u8 c, .int .i64 k] w (Ret (.bool (isL c k)) w) := by
  go_enter Try.func41, Try.ntmps41
  go_wp2_with (go_at_call 55; refine (p01_Kinds hc).mono ?_; rintro e w' ⟨rfl, rfl⟩)
  go_ret
  exact ⟨rfl, rfl⟩
end Go.Proofs.Ytjiofcnlibkhkaa
