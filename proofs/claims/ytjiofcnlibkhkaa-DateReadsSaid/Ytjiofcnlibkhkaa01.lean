/- Layer 1 (octet): what each function of the reference and of the program returns, by one plain function each. Conditions: the arguments read as lists; lengths at most 2^30. -/
import Derived.Test.YtjiofcnlibkhkaaLibB
namespace Go.Proofs.Ytjiofcnlibkhkaa
open Go.RowKit

set_option maxHeartbeats 400000 in
theorem r01_has {s : ByteArray} {c : Int} {w : World} (l : List Int) (h : strL s = l ∧ s.size ≤ 1073741824) : Calls Try.prog 66 #[.string s, .int .u8 c] w (Ret (.bool (hasL l c)) w) := by
  obtain ⟨rfl, hs⟩ := h
  go_enter Try.func66, Try.ntmps66
  go_wp2
  go_loop [5] (fun i => ∃ k : Nat, k ≤ s.size ∧ i = .int .i64 k ∧ Hid (hasL (strL s) c = hasL ((strL s).drop k) c)) (fun i => s.size - (intOf i).toNat)
  case atStart => exact ⟨0, Nat.zero_le _, rfl, rfl⟩
  case round =>
    obtain ⟨k, hk, rfl, hI⟩ := hrel
    by_cases hlt : k < s.size
    · have HD := Lib.hid (strL_drop s k hlt)
      by_cases hx : (((s[k]).toNat : Int) == c) = true
      · go_wp2
        go_ret
        exact ⟨ret_bool (by rw [hI.out, HD.out]; simp at hx; simp [hasL, hx]), rfl⟩
      · have hx' : (((s[k]).toNat : Int) == c) = false := by simpa using hx
        go_wp2
        (go_round; (case rel => exact ⟨k + 1, by omega, by go_num, by show _ = _; rw [hI.out, HD.out]; simp at hx; simp [hasL, hx]⟩); (case measure => first | (simp [intOf] <;> omega) | (simp [lenOf] <;> omega)))
    · go_wp2
      go_ret
      exact ⟨ret_bool (by rw [hI.out, List.drop_eq_nil_of_le (by rw [strL_length]; omega)]; rfl), rfl⟩

def S1 : List Int := [40, 41, 60, 62, 64, 44, 59, 58, 92, 34, 47, 91, 93, 63, 61]
def S2 : List Int := [33, 42, 43, 45, 47]
def S3 : List Int := [42, 39, 37]
def S4 : List Int := [43, 47]
def ctlB (c : Int) : Bool := decide (c < 32 ∨ c = 127)
def blkB (c : Int) : Bool := decide (c = 32 ∨ c = 9)
def prtB (c : Int) : Bool := decide (33 ≤ c ∧ c ≤ 126)
def digB (c : Int) : Bool := decide (48 ≤ c ∧ c ≤ 57)
def letB (c : Int) : Bool := decide ((65 ≤ c ∧ c ≤ 90) ∨ (97 ≤ c ∧ c ≤ 122))
def bint (b : Bool) (n : Int) : Int := if b then n else 0
/-- an octet's kinds, as one number -/
def kindsL (c : Int) : Int := bint (ctlB c) 1 + bint (blkB c) 2 + bint (prtB c) 4 + bint (digB c) 8 + bint (letB c) 16 + bint (hasL S1 c) 32 + bint (prtB c && !hasL S1 c) 64 +
  bint (letB c || digB c || hasL S2 c) 128 + bint (prtB c && !hasL S1 c && !hasL S3 c) 256 + bint (letB c || digB c || hasL S4 c) 512
def isL (c kinds : Int) : Bool := bits .and .i64 (kindsL c) kinds != 0
def lowL (c : Int) : Int := if 65 ≤ c ∧ c ≤ 90 then c + 32 else c

theorem in_S1 {c : Int} (h : hasL S1 c = true) : (33 ≤ c ∧ c ≤ 47) ∨ (58 ≤ c ∧ c ≤ 64) ∨ (91 ≤ c ∧ c ≤ 96) ∨ (123 ≤ c ∧ c ≤ 126) := by simp [hasL, S1] at h; omega
theorem in_S2 {c : Int} (h : hasL S2 c = true) : (33 ≤ c ∧ c ≤ 47) := by simp [hasL, S2] at h; omega
theorem in_S3 {c : Int} (h : hasL S3 c = true) : (33 ≤ c ∧ c ≤ 47) := by simp [hasL, S3] at h; omega
theorem in_S4 {c : Int} (h : hasL S4 c = true) : (33 ≤ c ∧ c ≤ 47) := by simp [hasL, S4] at h; omega
theorem no_S1 {c : Int} (h : ¬ ((33 ≤ c ∧ c ≤ 47) ∨ (58 ≤ c ∧ c ≤ 64) ∨ (91 ≤ c ∧ c ≤ 96) ∨ (123 ≤ c ∧ c ≤ 126))) : hasL S1 c = false := by
  cases e : hasL S1 c
  · rfl
  · exact absurd (in_S1 e) h
theorem no_S2 {c : Int} (h : ¬ (33 ≤ c ∧ c ≤ 47)) : hasL S2 c = false := by
  cases e : hasL S2 c
  · rfl
  · exact absurd (in_S2 e) h
theorem no_S3 {c : Int} (h : ¬ (33 ≤ c ∧ c ≤ 47)) : hasL S3 c = false := by
  cases e : hasL S3 c
  · rfl
  · exact absurd (in_S3 e) h
theorem no_S4 {c : Int} (h : ¬ (33 ≤ c ∧ c ≤ 47)) : hasL S4 c = false := by
  cases e : hasL S4 c
  · rfl
  · exact absurd (in_S4 e) h

set_option maxHeartbeats 2000000 in
theorem r01_Kinds {c : Int} {w : World} (hc : (Lit.int .u8 c).wf = true) : Calls Try.prog 59 #[.int .u8 c] w (Ret (.int .i64 (kindsL c)) w) := by
  obtain ⟨h1, h2⟩ := wf_u8.1 hc
  clear hc
  have cases9 : c ≤ 8 ∨ c = 9 ∨ (10 ≤ c ∧ c ≤ 31) ∨ c = 32 ∨ (48 ≤ c ∧ c ≤ 57) ∨ (65 ≤ c ∧ c ≤ 90) ∨ (97 ≤ c ∧ c ≤ 122) ∨ c = 127 ∨ 128 ≤ c ∨ (33 ≤ c ∧ c ≤ 47) ∨ (58 ≤ c ∧ c ≤ 64) ∨ (91 ≤ c ∧ c ≤ 96) ∨ (123 ≤ c ∧ c ≤ 126) := by omega
  rcases cases9 with h | h | h | h | h | h | h | h | h | h | h | h | h
  · have HctlB : ctlB c = true := by simp [ctlB] <;> omega
    have HblkB : blkB c = false := by simp [blkB] <;> omega
    have HprtB : prtB c = false := by simp [prtB] <;> omega
    have HdigB : digB c = false := by simp [digB] <;> omega
    have HletB : letB c = false := by simp [letB] <;> omega
    have f1 : hasL S1 c = false := no_S1 (by omega)
    have f2 : hasL S2 c = false := no_S2 (by omega)
    have f3 : hasL S3 c = false := no_S3 (by omega)
    have f4 : hasL S4 c = false := no_S4 (by omega)
    have q1 : (c == 32) = false := by simp; omega
    have q2 : (c == 9) = false := by simp; omega
    have q3 : (c == 127) = false := by simp; omega
    go_enter Try.func59, Try.ntmps59
    go_wp2_with (go_at_call 66; first | (refine (r01_has S1 (by decide)).mono ?_; rintro e w' ⟨rfl, rfl⟩) | (refine (r01_has S2 (by decide)).mono ?_; rintro e w' ⟨rfl, rfl⟩) | (refine (r01_has S3 (by decide)).mono ?_; rintro e w' ⟨rfl, rfl⟩) | (refine (r01_has S4 (by decide)).mono ?_; rintro e w' ⟨rfl, rfl⟩))
    all_goals (go_ret; exact ⟨ret_int (by go_light; simp_all [kindsL, bint]), rfl⟩)
  · have HctlB : ctlB c = true := by simp [ctlB] <;> omega
    have HblkB : blkB c = true := by simp [blkB] <;> omega
    have HprtB : prtB c = false := by simp [prtB] <;> omega
    have HdigB : digB c = false := by simp [digB] <;> omega
    have HletB : letB c = false := by simp [letB] <;> omega
    have f1 : hasL S1 c = false := no_S1 (by omega)
    have f2 : hasL S2 c = false := no_S2 (by omega)
    have f3 : hasL S3 c = false := no_S3 (by omega)
    have f4 : hasL S4 c = false := no_S4 (by omega)
    subst h
    go_enter Try.func59, Try.ntmps59
    go_wp2_with (go_at_call 66; first | (refine (r01_has S1 (by decide)).mono ?_; rintro e w' ⟨rfl, rfl⟩) | (refine (r01_has S2 (by decide)).mono ?_; rintro e w' ⟨rfl, rfl⟩) | (refine (r01_has S3 (by decide)).mono ?_; rintro e w' ⟨rfl, rfl⟩) | (refine (r01_has S4 (by decide)).mono ?_; rintro e w' ⟨rfl, rfl⟩))
    all_goals (go_ret; exact ⟨ret_int (by go_light; simp_all [kindsL, bint]), rfl⟩)
  · have HctlB : ctlB c = true := by simp [ctlB] <;> omega
    have HblkB : blkB c = false := by simp [blkB] <;> omega
    have HprtB : prtB c = false := by simp [prtB] <;> omega
    have HdigB : digB c = false := by simp [digB] <;> omega
    have HletB : letB c = false := by simp [letB] <;> omega
    have f1 : hasL S1 c = false := no_S1 (by omega)
    have f2 : hasL S2 c = false := no_S2 (by omega)
    have f3 : hasL S3 c = false := no_S3 (by omega)
    have f4 : hasL S4 c = false := no_S4 (by omega)
    have q1 : (c == 32) = false := by simp; omega
    have q2 : (c == 9) = false := by simp; omega
    have q3 : (c == 127) = false := by simp; omega
    go_enter Try.func59, Try.ntmps59
    go_wp2_with (go_at_call 66; first | (refine (r01_has S1 (by decide)).mono ?_; rintro e w' ⟨rfl, rfl⟩) | (refine (r01_has S2 (by decide)).mono ?_; rintro e w' ⟨rfl, rfl⟩) | (refine (r01_has S3 (by decide)).mono ?_; rintro e w' ⟨rfl, rfl⟩) | (refine (r01_has S4 (by decide)).mono ?_; rintro e w' ⟨rfl, rfl⟩))
    all_goals (go_ret; exact ⟨ret_int (by go_light; simp_all [kindsL, bint]), rfl⟩)
  · have HctlB : ctlB c = false := by simp [ctlB] <;> omega
    have HblkB : blkB c = true := by simp [blkB] <;> omega
    have HprtB : prtB c = false := by simp [prtB] <;> omega
    have HdigB : digB c = false := by simp [digB] <;> omega
    have HletB : letB c = false := by simp [letB] <;> omega
    have f1 : hasL S1 c = false := no_S1 (by omega)
    have f2 : hasL S2 c = false := no_S2 (by omega)
    have f3 : hasL S3 c = false := no_S3 (by omega)
    have f4 : hasL S4 c = false := no_S4 (by omega)
    subst h
    go_enter Try.func59, Try.ntmps59
    go_wp2_with (go_at_call 66; first | (refine (r01_has S1 (by decide)).mono ?_; rintro e w' ⟨rfl, rfl⟩) | (refine (r01_has S2 (by decide)).mono ?_; rintro e w' ⟨rfl, rfl⟩) | (refine (r01_has S3 (by decide)).mono ?_; rintro e w' ⟨rfl, rfl⟩) | (refine (r01_has S4 (by decide)).mono ?_; rintro e w' ⟨rfl, rfl⟩))
    all_goals (go_ret; exact ⟨ret_int (by go_light; simp_all [kindsL, bint]), rfl⟩)
  · have HctlB : ctlB c = false := by simp [ctlB] <;> omega
    have HblkB : blkB c = false := by simp [blkB] <;> omega
    have HprtB : prtB c = true := by simp [prtB] <;> omega
    have HdigB : digB c = true := by simp [digB] <;> omega
    have HletB : letB c = false := by simp [letB] <;> omega
    have f1 : hasL S1 c = false := no_S1 (by omega)
    have f2 : hasL S2 c = false := no_S2 (by omega)
    have f3 : hasL S3 c = false := no_S3 (by omega)
    have f4 : hasL S4 c = false := no_S4 (by omega)
    have q1 : (c == 32) = false := by simp; omega
    have q2 : (c == 9) = false := by simp; omega
    have q3 : (c == 127) = false := by simp; omega
    go_enter Try.func59, Try.ntmps59
    go_wp2_with (go_at_call 66; first | (refine (r01_has S1 (by decide)).mono ?_; rintro e w' ⟨rfl, rfl⟩) | (refine (r01_has S2 (by decide)).mono ?_; rintro e w' ⟨rfl, rfl⟩) | (refine (r01_has S3 (by decide)).mono ?_; rintro e w' ⟨rfl, rfl⟩) | (refine (r01_has S4 (by decide)).mono ?_; rintro e w' ⟨rfl, rfl⟩))
    all_goals (go_ret; exact ⟨ret_int (by go_light; simp_all [kindsL, bint]), rfl⟩)
  · have HctlB : ctlB c = false := by simp [ctlB] <;> omega
    have HblkB : blkB c = false := by simp [blkB] <;> omega
    have HprtB : prtB c = true := by simp [prtB] <;> omega
    have HdigB : digB c = false := by simp [digB] <;> omega
    have HletB : letB c = true := by simp [letB] <;> omega
    have f1 : hasL S1 c = false := no_S1 (by omega)
    have f2 : hasL S2 c = false := no_S2 (by omega)
    have f3 : hasL S3 c = false := no_S3 (by omega)
    have f4 : hasL S4 c = false := no_S4 (by omega)
    have q1 : (c == 32) = false := by simp; omega
    have q2 : (c == 9) = false := by simp; omega
    have q3 : (c == 127) = false := by simp; omega
    go_enter Try.func59, Try.ntmps59
    go_wp2_with (go_at_call 66; first | (refine (r01_has S1 (by decide)).mono ?_; rintro e w' ⟨rfl, rfl⟩) | (refine (r01_has S2 (by decide)).mono ?_; rintro e w' ⟨rfl, rfl⟩) | (refine (r01_has S3 (by decide)).mono ?_; rintro e w' ⟨rfl, rfl⟩) | (refine (r01_has S4 (by decide)).mono ?_; rintro e w' ⟨rfl, rfl⟩))
    all_goals (go_ret; exact ⟨ret_int (by go_light; simp_all [kindsL, bint]), rfl⟩)
  · have HctlB : ctlB c = false := by simp [ctlB] <;> omega
    have HblkB : blkB c = false := by simp [blkB] <;> omega
    have HprtB : prtB c = true := by simp [prtB] <;> omega
    have HdigB : digB c = false := by simp [digB] <;> omega
    have HletB : letB c = true := by simp [letB] <;> omega
    have f1 : hasL S1 c = false := no_S1 (by omega)
    have f2 : hasL S2 c = false := no_S2 (by omega)
    have f3 : hasL S3 c = false := no_S3 (by omega)
    have f4 : hasL S4 c = false := no_S4 (by omega)
    have q1 : (c == 32) = false := by simp; omega
    have q2 : (c == 9) = false := by simp; omega
    have q3 : (c == 127) = false := by simp; omega
    go_enter Try.func59, Try.ntmps59
    go_wp2_with (go_at_call 66; first | (refine (r01_has S1 (by decide)).mono ?_; rintro e w' ⟨rfl, rfl⟩) | (refine (r01_has S2 (by decide)).mono ?_; rintro e w' ⟨rfl, rfl⟩) | (refine (r01_has S3 (by decide)).mono ?_; rintro e w' ⟨rfl, rfl⟩) | (refine (r01_has S4 (by decide)).mono ?_; rintro e w' ⟨rfl, rfl⟩))
    all_goals (go_ret; exact ⟨ret_int (by go_light; simp_all [kindsL, bint]), rfl⟩)
  · have HctlB : ctlB c = true := by simp [ctlB] <;> omega
    have HblkB : blkB c = false := by simp [blkB] <;> omega
    have HprtB : prtB c = false := by simp [prtB] <;> omega
    have HdigB : digB c = false := by simp [digB] <;> omega
    have HletB : letB c = false := by simp [letB] <;> omega
    have f1 : hasL S1 c = false := no_S1 (by omega)
    have f2 : hasL S2 c = false := no_S2 (by omega)
    have f3 : hasL S3 c = false := no_S3 (by omega)
    have f4 : hasL S4 c = false := no_S4 (by omega)
    subst h
    go_enter Try.func59, Try.ntmps59
    go_wp2_with (go_at_call 66; first | (refine (r01_has S1 (by decide)).mono ?_; rintro e w' ⟨rfl, rfl⟩) | (refine (r01_has S2 (by decide)).mono ?_; rintro e w' ⟨rfl, rfl⟩) | (refine (r01_has S3 (by decide)).mono ?_; rintro e w' ⟨rfl, rfl⟩) | (refine (r01_has S4 (by decide)).mono ?_; rintro e w' ⟨rfl, rfl⟩))
    all_goals (go_ret; exact ⟨ret_int (by go_light; simp_all [kindsL, bint]), rfl⟩)
  · have HctlB : ctlB c = false := by simp [ctlB] <;> omega
    have HblkB : blkB c = false := by simp [blkB] <;> omega
    have HprtB : prtB c = false := by simp [prtB] <;> omega
    have HdigB : digB c = false := by simp [digB] <;> omega
    have HletB : letB c = false := by simp [letB] <;> omega
    have f1 : hasL S1 c = false := no_S1 (by omega)
    have f2 : hasL S2 c = false := no_S2 (by omega)
    have f3 : hasL S3 c = false := no_S3 (by omega)
    have f4 : hasL S4 c = false := no_S4 (by omega)
    have q1 : (c == 32) = false := by simp; omega
    have q2 : (c == 9) = false := by simp; omega
    have q3 : (c == 127) = false := by simp; omega
    go_enter Try.func59, Try.ntmps59
    go_wp2_with (go_at_call 66; first | (refine (r01_has S1 (by decide)).mono ?_; rintro e w' ⟨rfl, rfl⟩) | (refine (r01_has S2 (by decide)).mono ?_; rintro e w' ⟨rfl, rfl⟩) | (refine (r01_has S3 (by decide)).mono ?_; rintro e w' ⟨rfl, rfl⟩) | (refine (r01_has S4 (by decide)).mono ?_; rintro e w' ⟨rfl, rfl⟩))
    all_goals (go_ret; exact ⟨ret_int (by go_light; simp_all [kindsL, bint]), rfl⟩)
  · have HctlB : ctlB c = false := by simp [ctlB] <;> omega
    have HblkB : blkB c = false := by simp [blkB] <;> omega
    have HprtB : prtB c = true := by simp [prtB] <;> omega
    have HdigB : digB c = false := by simp [digB] <;> omega
    have HletB : letB c = false := by simp [letB] <;> omega
    have q1 : (c == 32) = false := by simp; omega
    have q2 : (c == 9) = false := by simp; omega
    have q3 : (c == 127) = false := by simp; omega
    go_enter Try.func59, Try.ntmps59
    go_wp2_with (go_at_call 66; first | (refine (r01_has S1 (by decide)).mono ?_; rintro e w' ⟨rfl, rfl⟩) | (refine (r01_has S2 (by decide)).mono ?_; rintro e w' ⟨rfl, rfl⟩) | (refine (r01_has S3 (by decide)).mono ?_; rintro e w' ⟨rfl, rfl⟩) | (refine (r01_has S4 (by decide)).mono ?_; rintro e w' ⟨rfl, rfl⟩))
    all_goals (go_ret; exact ⟨ret_int (by go_light; simp_all [kindsL, bint]), rfl⟩)
  · have HctlB : ctlB c = false := by simp [ctlB] <;> omega
    have HblkB : blkB c = false := by simp [blkB] <;> omega
    have HprtB : prtB c = true := by simp [prtB] <;> omega
    have HdigB : digB c = false := by simp [digB] <;> omega
    have HletB : letB c = false := by simp [letB] <;> omega
    have f2 : hasL S2 c = false := no_S2 (by omega)
    have f3 : hasL S3 c = false := no_S3 (by omega)
    have f4 : hasL S4 c = false := no_S4 (by omega)
    have q1 : (c == 32) = false := by simp; omega
    have q2 : (c == 9) = false := by simp; omega
    have q3 : (c == 127) = false := by simp; omega
    go_enter Try.func59, Try.ntmps59
    go_wp2_with (go_at_call 66; first | (refine (r01_has S1 (by decide)).mono ?_; rintro e w' ⟨rfl, rfl⟩) | (refine (r01_has S2 (by decide)).mono ?_; rintro e w' ⟨rfl, rfl⟩) | (refine (r01_has S3 (by decide)).mono ?_; rintro e w' ⟨rfl, rfl⟩) | (refine (r01_has S4 (by decide)).mono ?_; rintro e w' ⟨rfl, rfl⟩))
    all_goals (go_ret; exact ⟨ret_int (by go_light; simp_all [kindsL, bint]), rfl⟩)
  · have HctlB : ctlB c = false := by simp [ctlB] <;> omega
    have HblkB : blkB c = false := by simp [blkB] <;> omega
    have HprtB : prtB c = true := by simp [prtB] <;> omega
    have HdigB : digB c = false := by simp [digB] <;> omega
    have HletB : letB c = false := by simp [letB] <;> omega
    have f2 : hasL S2 c = false := no_S2 (by omega)
    have f3 : hasL S3 c = false := no_S3 (by omega)
    have f4 : hasL S4 c = false := no_S4 (by omega)
    have q1 : (c == 32) = false := by simp; omega
    have q2 : (c == 9) = false := by simp; omega
    have q3 : (c == 127) = false := by simp; omega
    go_enter Try.func59, Try.ntmps59
    go_wp2_with (go_at_call 66; first | (refine (r01_has S1 (by decide)).mono ?_; rintro e w' ⟨rfl, rfl⟩) | (refine (r01_has S2 (by decide)).mono ?_; rintro e w' ⟨rfl, rfl⟩) | (refine (r01_has S3 (by decide)).mono ?_; rintro e w' ⟨rfl, rfl⟩) | (refine (r01_has S4 (by decide)).mono ?_; rintro e w' ⟨rfl, rfl⟩))
    all_goals (go_ret; exact ⟨ret_int (by go_light; simp_all [kindsL, bint]), rfl⟩)
  · have HctlB : ctlB c = false := by simp [ctlB] <;> omega
    have HblkB : blkB c = false := by simp [blkB] <;> omega
    have HprtB : prtB c = true := by simp [prtB] <;> omega
    have HdigB : digB c = false := by simp [digB] <;> omega
    have HletB : letB c = false := by simp [letB] <;> omega
    have f2 : hasL S2 c = false := no_S2 (by omega)
    have f3 : hasL S3 c = false := no_S3 (by omega)
    have f4 : hasL S4 c = false := no_S4 (by omega)
    have q1 : (c == 32) = false := by simp; omega
    have q2 : (c == 9) = false := by simp; omega
    have q3 : (c == 127) = false := by simp; omega
    go_enter Try.func59, Try.ntmps59
    go_wp2_with (go_at_call 66; first | (refine (r01_has S1 (by decide)).mono ?_; rintro e w' ⟨rfl, rfl⟩) | (refine (r01_has S2 (by decide)).mono ?_; rintro e w' ⟨rfl, rfl⟩) | (refine (r01_has S3 (by decide)).mono ?_; rintro e w' ⟨rfl, rfl⟩) | (refine (r01_has S4 (by decide)).mono ?_; rintro e w' ⟨rfl, rfl⟩))
    all_goals (go_ret; exact ⟨ret_int (by go_light; simp_all [kindsL, bint]), rfl⟩)

end Go.Proofs.Ytjiofcnlibkhkaa
