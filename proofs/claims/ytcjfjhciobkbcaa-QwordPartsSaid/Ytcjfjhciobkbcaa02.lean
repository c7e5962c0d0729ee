/- Layer 2 (hexa): digits, escapes: what the functions of the reference and of the program return. Conditions: the arguments read as lists; lengths at most 2^24. -/
import Derived.Test.Ytcjfjhciobkbcaa01Q
namespace Go.Proofs.Ytcjfjhciobkbcaa
open Go.RowKit

/-- the digit of a number -/
def hexD (n : Int) : Int := if n % 16 < 10 then 48 + n % 16 else 55 + n % 16
/-- the number of a digit; and whether it is one -/
def hexV (c : Int) : Int := if 48 ≤ c ∧ c ≤ 57 then c - 48 else if 65 ≤ c ∧ c ≤ 70 then c - 55 else if 97 ≤ c ∧ c ≤ 102 then c - 87 else 0
def isH (c : Int) : Bool := decide ((48 ≤ c ∧ c ≤ 57) ∨ (65 ≤ c ∧ c ≤ 70) ∨ (97 ≤ c ∧ c ≤ 102))
theorem hexV_bd (c : Int) : 0 ≤ hexV c ∧ hexV c ≤ 15 := by unfold hexV; repeat' split <;> omega
theorem hexD_wf (n : Int) : (Lit.int .u8 (hexD n)).wf = true := by apply wf_u8.2; unfold hexD; split <;> omega
theorem hexV_no {c : Int} (h : isH c = false) : hexV c = 0 := by simp [isH] at h; unfold hexV; repeat' split <;> omega
/-- what two digits tell, and whether they tell any -/
def pairV (a b : Int) : Int := if isH a && isH b then 16 * hexV a + hexV b else 0
theorem pairV_wf (a b : Int) : (Lit.int .u8 (pairV a b)).wf = true := by
  have h1 := hexV_bd a
  have h2 := hexV_bd b
  apply wf_u8.2; unfold pairV; split <;> omega
/-- is there an escape at this place, of this sign? -/
def escAt (sg : Int) (l : List Int) : Option Int := match l with
  | x :: a :: b :: _ => if x = sg ∧ isH a = true ∧ isH b = true then some (16 * hexV a + hexV b) else none
  | _ => none
def takV (sg : Int) (l : List Int) : Int := (escAt sg l).getD 0
def takB (sg : Int) (l : List Int) : Bool := (escAt sg l).isSome
theorem takV_wf (sg : Int) (l : List Int) : (Lit.int .u8 (takV sg l)).wf = true := by
  unfold takV escAt
  split
  · rename_i a b _
    have h1 := hexV_bd a
    have h2 := hexV_bd b
    split <;> apply wf_u8.2 <;> simp <;> omega
  · rfl
/-- an octet's escape -/
def escL (sg c : Int) : List Int := [sg, hexD (c / 16), hexD (c % 16)]

set_option maxRecDepth 100000 in
set_option maxHeartbeats 1000000 in
theorem r02_Digit {n : Int} {w : World} (h0 : 0 ≤ n) (h1 : n ≤ 15) : Calls Try.prog 85 #[.int .i64 n] w (Ret (.int .u8 (hexD n)) w) := by
  have e1 : Int.tmod n 16 = n := by rw [Int.tmod_eq_emod_of_nonneg h0]; omega
  have e2 : Int.tmod (n + 16) 16 = n := by rw [Int.tmod_eq_emod_of_nonneg (by omega)]; omega
  by_cases hlt : n < 10
  · go_enter Try.func85, Try.ntmps85
    go_wp2
    go_ret
    exact ⟨ret_int (by unfold hexD; rw [if_pos (by omega)]; omega), rfl⟩
  · go_enter Try.func85, Try.ntmps85
    go_wp2
    go_ret
    exact ⟨ret_int (by unfold hexD; rw [if_neg (by omega)]; omega), rfl⟩

def hexdigs : ByteArray := { data := #[48, 49, 50, 51, 52, 53, 54, 55, 56, 57, 65, 66, 67, 68, 69, 70] }
theorem hex_at : ∀ k : Fin 16, ((hexdigs[k.val]'(by have := k.isLt; show _ < 16; omega)).toNat : Int) = hexD (k.val : Int) := by decide
theorem and15 (n : Int) : bits .and .i64 n 15 = n % 16 := by
  show IntKind.i64.wrap ((BitVec.ofInt 64 n &&& BitVec.ofInt 64 15).toNat : Int) = _
  rw [BitVec.toNat_and]
  have h2 : (BitVec.ofInt 64 15).toNat = 15 := by decide
  rw [h2]
  have h3 : (BitVec.ofInt 64 n).toNat &&& 15 = (BitVec.ofInt 64 n).toNat % 16 := Nat.and_two_pow_sub_one_eq_mod _ 4
  rw [h3, BitVec.toNat_ofInt, IntKind.wrap_i64]
  omega
theorem hexD_mod (n : Int) : hexD (n % 16) = hexD n := by unfold hexD; rw [Int.emod_emod_of_dvd n (by omega)]

set_option maxRecDepth 100000 in
set_option maxHeartbeats 1000000 in
theorem p02_Digit {n : Int} {w : World} : Calls Try.prog 84 #[.int .i64 n] w (Ret (.int .u8 (hexD n)) w) := by
  have ha := and15 n
  obtain ⟨k, hk⟩ : ∃ k : Nat, n % 16 = (k : Int) := ⟨(n % 16).toNat, by omega⟩
  have hk2 : k < 16 := by omega
  rw [hk] at ha
  have hd : hexD n = hexD k := by rw [← hexD_mod n, hk]
  have HD := Lib.hid hd
  clear hd hk
  go_enter Try.func84, Try.ntmps84
  go_wp2
  go_ret
  exact ⟨ret_int (by rw [HD.out]; exact hex_at ⟨k, hk2⟩), rfl⟩

theorem isL8 {c : Int} (hc : 0 ≤ c ∧ c ≤ 255) : isL c 8 = digB c := by
  have := byteAll (fun c => decide (isL c 8 = digB c)) (by decide +kernel) hc
  exact of_decide_eq_true this

set_option maxRecDepth 100000 in
set_option maxHeartbeats 1000000 in
theorem p02_Value {c : Int} {w : World} (hc : (Lit.int .u8 c).wf = true) : Calls Try.prog 90 #[.int .u8 c] w (Ret (.tuple #[.int .i64 (hexV c), .bool (isH c)]) w) := by
  have hw := lowL_wf hc
  have h8 := wf_u8.1 hc
  have hw8 := wf_u8.1 hw
  have hi := isL8 hw8
  by_cases hd : 48 ≤ c ∧ c ≤ 57
  · have e1 : lowL c = c := by unfold lowL; rw [if_neg (by omega)]
    have e2 : hexV c = c - 48 := by unfold hexV; rw [if_pos hd]
    have e3 : isH c = true := by simp [isH, hd]
    have e4 : isL c 8 = true := by rw [e1] at hi; rw [hi]; simp [digB, hd]
    rw [e2, e3]
    have HY := Lib.hid e1
    clear hi e2 e3 e1
    obtain ⟨hd1, hd2⟩ := hd
    go_enter Try.func90, Try.ntmps90
    go_wp2_with (first | (go_at_call 92; refine (p01_Lower hc).mono ?_; rw [HY.out]; rintro e w' ⟨rfl, rfl⟩) | (go_at_call 59; refine (p01_Is hc).mono ?_; rintro e w' ⟨rfl, rfl⟩))
    go_ret2
    exact ⟨rfl, rfl⟩
  · have e4 : isL (lowL c) 8 = false := by rw [hi]; unfold digB lowL; simp; split <;> omega
    obtain ⟨y, hy⟩ : ∃ y, lowL c = y := ⟨_, rfl⟩
    rw [hy] at e4 hw hw8
    clear hi
    by_cases hl : 97 ≤ y ∧ y ≤ 102
    · have e2 : hexV c = y - 97 + 10 := by unfold lowL at hy; unfold hexV; rw [if_neg hd]; split at hy <;> (repeat' split) <;> omega
      have e3 : isH c = true := by unfold lowL at hy; simp [isH]; split at hy <;> omega
      rw [e2, e3]
      obtain ⟨hl1, hl2⟩ := hl
      obtain ⟨hw1, hw2⟩ := hw8
      have HY := Lib.hid hy
      clear e2 e3 hd hy
      go_enter Try.func90, Try.ntmps90
      go_wp2_with (first | (go_at_call 92; refine (p01_Lower hc).mono ?_; rw [HY.out]; rintro e w' ⟨rfl, rfl⟩) | (go_at_call 59; refine (p01_Is hw).mono ?_; rintro e w' ⟨rfl, rfl⟩))
      go_ret2
      exact ⟨rfl, rfl⟩
    · have e3 : isH c = false := by unfold lowL at hy; simp [isH]; split at hy <;> omega
      have e2 := hexV_no e3
      rw [e2, e3]
      obtain ⟨hw1, hw2⟩ := hw8
      have HY := Lib.hid hy
      clear e2 e3 hd hy
      by_cases hl1 : 97 ≤ y
      · have hl2 : ¬ y ≤ 102 := by omega
        clear hl
        go_enter Try.func90, Try.ntmps90
        go_wp2_with (first | (go_at_call 92; refine (p01_Lower hc).mono ?_; rw [HY.out]; rintro e w' ⟨rfl, rfl⟩) | (go_at_call 59; refine (p01_Is hw).mono ?_; rintro e w' ⟨rfl, rfl⟩))
        go_ret2
        exact ⟨rfl, rfl⟩
      · clear hl
        go_enter Try.func90, Try.ntmps90
        go_wp2_with (first | (go_at_call 92; refine (p01_Lower hc).mono ?_; rw [HY.out]; rintro e w' ⟨rfl, rfl⟩) | (go_at_call 59; refine (p01_Is hw).mono ?_; rintro e w' ⟨rfl, rfl⟩))
        go_ret2
        exact ⟨rfl, rfl⟩

/-- the first number from k on that is of which c is a digit -/
def seekV (c k : Int) : Int × Bool := if isH c = true ∧ k ≤ hexV c then (hexV c, true) else (0, false)
theorem hit_lt {c k : Int} (h0 : 0 ≤ k) (h1 : k ≤ 9) (hc : hexD k = c) : hexV c = k ∧ isH c = true := by
  unfold hexD at hc; rw [if_pos (by omega)] at hc; constructor
  · unfold hexV; rw [if_pos (by omega)]; omega
  · simp [isH]; omega
theorem hit_ge {c k : Int} (h0 : 10 ≤ k) (h1 : k ≤ 15) (hc : hexD k = c ∨ hexD k + 32 = c) : hexV c = k ∧ isH c = true := by
  unfold hexD at hc; rw [if_neg (by omega)] at hc; constructor
  · unfold hexV; rw [if_neg (by omega)]; repeat' split <;> omega
  · simp [isH]; omega
theorem miss_lt {c k : Int} (h0 : 0 ≤ k) (h1 : k ≤ 9) (hc : ¬ hexD k = c) : isH c = true → hexV c ≠ k := by
  unfold hexD at hc; rw [if_pos (by omega)] at hc
  intro hh; simp [isH] at hh; unfold hexV; repeat' split <;> omega
theorem miss_ge {c k : Int} (h0 : 10 ≤ k) (h1 : k ≤ 15) (hc : ¬ hexD k = c) (hc' : ¬ hexD k + 32 = c) : isH c = true → hexV c ≠ k := by
  unfold hexD at hc hc'; rw [if_neg (by omega)] at hc hc'
  intro hh; simp [isH] at hh; unfold hexV; repeat' split <;> omega
theorem seek_hit {c k : Int} (h : hexV c = k ∧ isH c = true) : seekV c k = (hexV c, true) := by unfold seekV; rw [if_pos ⟨h.2, by omega⟩]
theorem seek_miss {c k : Int} (h : isH c = true → hexV c ≠ k) : seekV c k = seekV c (k + 1) := by
  unfold seekV
  by_cases hh : isH c = true ∧ k ≤ hexV c
  · rw [if_pos hh, if_pos ⟨hh.1, by have := h hh.1; omega⟩]
  · rw [if_neg hh, if_neg (fun h2 => hh ⟨h2.1, by omega⟩)]
theorem seek_0 (c : Int) : (hexV c, isH c) = seekV c 0 := by
  have := hexV_bd c
  unfold seekV
  by_cases hh : isH c = true
  · rw [if_pos ⟨hh, by omega⟩, hh]
  · have hf : isH c = false := by simpa using hh
    rw [if_neg (fun h => hh h.1), hf, hexV_no hf]
theorem seek_16 (c : Int) : seekV c 16 = (0, false) := by
  have := hexV_bd c
  unfold seekV; rw [if_neg (by omega)]

set_option maxRecDepth 100000 in
set_option maxHeartbeats 1000000 in
theorem r02_Value {c : Int} {w : World} (hc : (Lit.int .u8 c).wf = true) : Calls Try.prog 78 #[.int .u8 c] w (Ret (.tuple #[.int .i64 (hexV c), .bool (isH c)]) w) := by
  have h8 := wf_u8.1 hc
  obtain ⟨h81, h82⟩ := h8
  go_enter Try.func78, Try.ntmps78
  go_wp2
  go_loop [4] (fun i => ∃ k : Nat, k ≤ 16 ∧ i = .int .i64 k ∧ Hid ((hexV c, isH c) = seekV c k)) (fun i => (16 - intOf i).toNat)
  case atStart => exact ⟨0, by omega, rfl, by show _ = _; exact seek_0 c⟩
  case round =>
    obtain ⟨k, hk, rfl, hI⟩ := hrel
    by_cases hlt : k < 16
    · have hdw := wf_u8.1 (hexD_wf (k : Int))
      have hdb : hexD (k : Int) + 32 ≤ 255 := by unfold hexD; split <;> omega
      by_cases h10 : k < 10
      · by_cases hx : hexD (k : Int) = c
        · have hh := hit_lt (by omega) (by omega) hx
          have hI2 := hI.out
          rw [seek_hit hh] at hI2
          injection hI2 with h4 h5
          have hx' : (hexD (k : Int) == c) = true := by simpa using hx
          have HH := Lib.hid hh; clear hh hI hdw hdb h4
          go_wp2_with (go_at_call 85; refine (r02_Digit (by omega) (by omega)).mono ?_; rintro e w' ⟨rfl, rfl⟩)
          go_ret2
          exact ⟨ret2 (vint HH.out.1.symm) (vbool h5.symm), rfl⟩
        · have hm := seek_miss (miss_lt (by omega) (by omega) hx)
          have hx' : (hexD (k : Int) == c) = false := by simpa using hx
          have HM := Lib.hid hm; clear hm hdw hdb
          go_wp2_with (go_at_call 85; refine (r02_Digit (by omega) (by omega)).mono ?_; rintro e w' ⟨rfl, rfl⟩)
          (go_round; (case rel => exact ⟨k + 1, by omega, by go_num, by show _ = _; rw [hI.out, HM.out]; push_cast; rfl⟩); (case measure => first | (simp [intOf] <;> omega) | (simp [lenOf] <;> omega)))
      · by_cases hx : hexD (k : Int) = c
        · have hh := hit_ge (by omega) (by omega) (.inl hx)
          have hI2 := hI.out
          rw [seek_hit hh] at hI2
          injection hI2 with h4 h5
          have hx' : (hexD (k : Int) == c) = true := by simpa using hx
          have HH := Lib.hid hh; clear hh hI hdw hdb h4
          go_wp2_with (go_at_call 85; refine (r02_Digit (by omega) (by omega)).mono ?_; rintro e w' ⟨rfl, rfl⟩)
          go_ret2
          exact ⟨ret2 (vint HH.out.1.symm) (vbool h5.symm), rfl⟩
        · have hx' : (hexD (k : Int) == c) = false := by simpa using hx
          by_cases hy : hexD (k : Int) + 32 = c
          · have hh := hit_ge (by omega) (by omega) (.inr hy)
            have hI2 := hI.out
            rw [seek_hit hh] at hI2
            injection hI2 with h4 h5
            have hy' : (hexD (k : Int) + 32 == c) = true := by simpa using hy
            have HH := Lib.hid hh; clear hh hI h4
            go_wp2_with (go_at_call 85; refine (r02_Digit (by omega) (by omega)).mono ?_; rintro e w' ⟨rfl, rfl⟩)
            go_ret2
            exact ⟨ret2 (vint HH.out.1.symm) (vbool h5.symm), rfl⟩
          · have hm := seek_miss (miss_ge (by omega) (by omega) hx hy)
            have hy' : (hexD (k : Int) + 32 == c) = false := by simpa using hy
            have HM := Lib.hid hm; clear hm
            go_wp2_with (go_at_call 85; refine (r02_Digit (by omega) (by omega)).mono ?_; rintro e w' ⟨rfl, rfl⟩)
            (go_round; (case rel => exact ⟨k + 1, by omega, by go_num, by show _ = _; rw [hI.out, HM.out]; push_cast; rfl⟩); (case measure => first | (simp [intOf] <;> omega) | (simp [lenOf] <;> omega)))
    · have h16 : k = 16 := by omega
      subst h16
      have hI2 := hI.out
      have e := seek_16 c
      rw [show ((16 : Nat) : Int) = 16 from rfl, e] at hI2
      injection hI2 with h4 h5
      clear e hI
      rw [h4, h5]
      go_wp2
      go_ret2
      exact ⟨rfl, rfl⟩
end Go.Proofs.Ytcjfjhciobkbcaa
