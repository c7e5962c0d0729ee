/- Layer 1 (octet): single octets, and how many are of some kinds. Conditions: the arguments read as lists; lengths at most 2^30. -/
import Derived.Test.YtkphnhbblbamgaaDoor01P
namespace Go.Proofs.YtkphnhbblbamgaaDoor
open Go.RowKit

theorem byteAll (p : Int → Bool) (h : ∀ k : Fin 256, p (k.val : Int) = true) {c : Int} (hc : 0 ≤ c ∧ c ≤ 255) : p c = true := by
  obtain ⟨n, rfl⟩ := Int.eq_ofNat_of_zero_le hc.1
  exact h ⟨n, by omega⟩

set_option maxRecDepth 100000 in
set_option maxHeartbeats 1000000 in
theorem r01_Is {c k : Int} {w : World} (hc : (Lit.int .u8 c).wf = true) : Calls Tryd.prog 12 #[.int .u8 c, .int .i64 k] w (Ret (.bool (isL c k)) w) := by
  go_enter Tryd.func12, Tryd.ntmps12
  go_wp2_with (go_at_call 10; refine (r01_Kinds hc).mono ?_; rintro e w' ⟨rfl, rfl⟩)
  go_ret
  exact ⟨rfl, rfl⟩

theorem lowL_wf {c : Int} (hc : (Lit.int .u8 c).wf = true) : (Lit.int .u8 (lowL c)).wf = true := by
  have := wf_u8.1 hc
  apply wf_u8.2; unfold lowL; split <;> omega
theorem lowL_low (c : Int) : lowL (lowL c) = lowL c := by unfold lowL; repeat' split <;> omega
set_option maxRecDepth 100000 in
set_option maxHeartbeats 1000000 in
theorem r01_Lower {c : Int} {w : World} (hc : (Lit.int .u8 c).wf = true) : Calls Tryd.prog 14 #[.int .u8 c] w (Ret (.int .u8 (lowL c)) w) := by
  have h8 := wf_u8.1 hc
  obtain ⟨h0, h9⟩ := h8
  go_enter Tryd.func14, Tryd.ntmps14
  go_wp2
  all_goals (go_ret; exact ⟨ret_int (by unfold lowL; go_light; simp_all <;> omega), rfl⟩)
theorem or32 {c : Int} (h : 65 ≤ c ∧ c ≤ 90) : bits .or .u8 c 32 = c + 32 := by
  have := byteAll (fun c => decide (65 ≤ c ∧ c ≤ 90 → bits .or .u8 c 32 = c + 32)) (by decide +kernel) (c := c) (by omega)
  exact (of_decide_eq_true this) h
set_option maxRecDepth 100000 in
set_option maxHeartbeats 1000000 in
theorem p01_Lower {c : Int} {w : World} (hc : (Lit.int .u8 c).wf = true) : Calls Tryd.prog 13 #[.int .u8 c] w (Ret (.int .u8 (lowL c)) w) := by
  have h8 := wf_u8.1 hc
  obtain ⟨h0, h9⟩ := h8
  by_cases hb : 65 ≤ c ∧ c ≤ 90
  · have ho := or32 hb
    obtain ⟨hb1, hb2⟩ := hb
    go_enter Tryd.func13, Tryd.ntmps13
    go_wp2
    go_ret
    exact ⟨ret_int (by unfold lowL; rw [if_pos ⟨hb1, hb2⟩]), rfl⟩
  · have hl : lowL c = c := by unfold lowL; rw [if_neg hb]
    by_cases hb1 : 65 ≤ c
    · have hb2 : ¬ c ≤ 90 := by omega
      go_enter Tryd.func13, Tryd.ntmps13
      go_wp2
      go_ret
      exact ⟨rfl, rfl⟩
    · go_enter Tryd.func13, Tryd.ntmps13
      go_wp2
      go_ret
      exact ⟨rfl, rfl⟩

/-- how many are of some kinds -/
def cntL (k : Int) : List Int → Int
  | [] => 0
  | x :: r => (if isL x k then 1 else 0) + cntL k r
theorem cntL_le (k : Int) (xs : List Int) : 0 ≤ cntL k xs ∧ cntL k xs ≤ xs.length := by
  induction xs with
  | nil => simp [cntL]
  | cons x r ih => simp only [cntL, List.length_cons]; split <;> omega
set_option maxRecDepth 100000 in
set_option maxHeartbeats 1000000 in
theorem r01_Count {A n c xs} {kv : Int} {w : World} (hs : Sl w .u8 A n c xs) (_ : n ≤ 1073741824) : Calls Tryd.prog 16 #[.slice A n c, .int .i64 kv] w (Ret (.int .i64 (cntL kv xs)) w) := by
  have HL := Lib.hid hs.len; have hle := hs.le; have hcm := hs.cm; unfold maxLen at hcm
  go_enter Tryd.func16, Tryd.ntmps16
  go_wp2
  go_loop [5, 6] (fun v i => ∃ k : Nat, ∃ m : Int, k ≤ n ∧ i = .int .i64 k ∧ v = .int .i64 m ∧ (0 ≤ m ∧ m ≤ k) ∧ Hid (cntL kv xs = m + cntL kv (xs.drop k))) (fun _ i => n - (intOf i).toNat)
  case atStart => exact ⟨0, 0, Nat.zero_le _, rfl, rfl, by omega, by show _ = _; simp⟩
  case round =>
    obtain ⟨k, m, hk, rfl, rfl, ⟨hm1, hm2⟩, hI⟩ := hrel
    by_cases hlt : k < n
    · obtain ⟨b, o, x, rfl, hb, hcell, hwf, hd, _⟩ := hs.get hlt
      have HD := Lib.hid hd; clear hd
      by_cases hq : isL x kv = true
      · go_wp2_with (go_at_call 12; refine (r01_Is hwf).mono ?_; rintro e w' ⟨rfl, rfl⟩)
        (go_round; (case rel => exact ⟨k + 1, m + 1, by omega, by go_num, rfl, by omega, by show _ = _; rw [hI.out, HD.out]; simp only [cntL, hq, if_pos]; omega⟩); (case measure => first | (simp [intOf] <;> omega) | (simp [lenOf] <;> omega)))
      · have hq' : isL x kv = false := by simpa using hq
        go_wp2_with (go_at_call 12; refine (r01_Is hwf).mono ?_; rintro e w' ⟨rfl, rfl⟩)
        (go_round; (case rel => exact ⟨k + 1, m, by omega, by go_num, rfl, by omega, by show _ = _; rw [hI.out, HD.out]; simp [cntL, hq']⟩); (case measure => first | (simp [intOf] <;> omega) | (simp [lenOf] <;> omega)))
    · go_wp2
      go_ret
      exact ⟨ret_int (by rw [hI.out, List.drop_eq_nil_of_le (by have := HL.out; omega)]; simp [cntL]), rfl⟩
set_option maxRecDepth 100000 in
set_option maxHeartbeats 1000000 in
theorem p01_Count {A n c xs} {kv : Int} {w : World} (hs : Sl w .u8 A n c xs) (_ : n ≤ 1073741824) : Calls Tryd.prog 17 #[.slice A n c, .int .i64 kv] w (Ret (.int .i64 (cntL kv xs)) w) := by
  have HL := Lib.hid hs.len; have hle := hs.le; have hcm := hs.cm; unfold maxLen at hcm
  go_enter Tryd.func17, Tryd.ntmps17
  go_wp2
  go_loop [5, 10] (fun v i => ∃ k : Nat, ∃ m : Int, k ≤ n ∧ i = .int .i64 k ∧ v = .int .i64 m ∧ (0 ≤ m ∧ m ≤ k) ∧ Hid (cntL kv xs = m + cntL kv (xs.drop k))) (fun _ i => n - (intOf i).toNat)
  case atStart => exact ⟨0, 0, Nat.zero_le _, rfl, rfl, by omega, by show _ = _; simp⟩
  case round =>
    obtain ⟨k, m, hk, rfl, rfl, ⟨hm1, hm2⟩, hI⟩ := hrel
    by_cases hlt : k < n
    · obtain ⟨b, o, x, rfl, hb, hcell, hwf, hd, _⟩ := hs.get hlt
      have HD := Lib.hid hd; clear hd
      by_cases hq : isL x kv = true
      · go_wp2_with (go_at_call 11; refine (p01_Is hwf).mono ?_; rintro e w' ⟨rfl, rfl⟩)
        (go_round; (case rel => exact ⟨k + 1, m + 1, by omega, by go_num, rfl, by omega, by show _ = _; rw [hI.out, HD.out]; simp only [cntL, hq, if_pos]; omega⟩); (case measure => first | (simp [intOf] <;> omega) | (simp [lenOf] <;> omega)))
      · have hq' : isL x kv = false := by simpa using hq
        go_wp2_with (go_at_call 11; refine (p01_Is hwf).mono ?_; rintro e w' ⟨rfl, rfl⟩)
        (go_round; (case rel => exact ⟨k + 1, m, by omega, by go_num, rfl, by omega, by show _ = _; rw [hI.out, HD.out]; simp [cntL, hq']⟩); (case measure => first | (simp [intOf] <;> omega) | (simp [lenOf] <;> omega)))
    · go_wp2
      go_ret
      exact ⟨ret_int (by rw [hI.out, List.drop_eq_nil_of_le (by have := HL.out; omega)]; simp [cntL]), rfl⟩
def allL (k : Int) (xs : List Int) : Bool := decide (cntL k xs = xs.length)
set_option maxRecDepth 100000 in
set_option maxHeartbeats 1000000 in
theorem p01_All {A n c xs} {kv : Int} {w : World} (hs : Sl w .u8 A n c xs) (hn : n ≤ 1073741824) : Calls Tryd.prog 18 #[.slice A n c, .int .i64 kv] w (Ret (.bool (allL kv xs)) w) := by
  have HL := Lib.hid hs.len; have hle := hs.le; have hcm := hs.cm; unfold maxLen at hcm
  go_enter Tryd.func18, Tryd.ntmps18
  go_wp2_with (go_at_call 17; refine (p01_Count hs hn).mono ?_; rintro e w' ⟨rfl, rfl⟩)
  go_ret
  exact ⟨ret_bool (by unfold allL; rw [HL.out, Bool.eq_iff_iff]; simp), rfl⟩
end Go.Proofs.YtkphnhbblbamgaaDoor
