/- Layer 26 (lines): bare ends by the reference; the longest line; short lines: what the functions of the program and of the reference return. Conditions: the arguments read as lists; lengths at most 2^22; the variable MaxLen holds a number. -/
import Derived.Test.Ytlmkhjegckgmcaa26C
namespace Go.Proofs.Ytlmkhjegckgmcaa
open Go.RowKit

def prevV (xs : List Int) (k : Nat) : Int := if k = 0 then 0 else xs.getD (k - 1) 0
theorem bare_step {xs : List Int} {k : Nat} {x : Int} (hd : xs.drop k = x :: xs.drop (k + 1)) (hx : xs.getD k 0 = x) :
    bareV (prevV xs k) (xs.drop k) = (if x = 13 ∧ nl x (xs.drop (k + 1)) = false then 1 else 0) + (if x = 10 ∧ prevV xs k ≠ 13 then 1 else 0) + bareV (prevV xs (k + 1)) (xs.drop (k + 1)) := by
  rw [hd, bareV]
  have : prevV xs (k + 1) = x := by unfold prevV; rw [if_neg (by omega), Nat.add_sub_cancel, hx]
  rw [this]
set_option maxRecDepth 100000 in
set_option maxHeartbeats 1000000 in
theorem r26_Bare {A n c xs} {w : World} (hs : Sl w .u8 A n c xs) (hn : n ≤ 4194304) : Calls Try.prog 26 #[.slice A n c] w (Ret (.int .i64 (bareV 0 xs)) w) := by
  have HL := Lib.hid hs.len; have hle := hs.le; have hcm := hs.cm; unfold maxLen at hcm
  go_enter Try.func26, Try.ntmps26
  go_wp2
  go_loop [3, 4] (fun v i => ∃ (k : Nat) (m : Int), k ≤ n ∧ i = .int .i64 k ∧ v = .int .i64 m ∧ (0 ≤ m ∧ m ≤ k) ∧ Hid (bareV 0 xs = m + bareV (prevV xs k) (xs.drop k))) (fun _ i => n - (intOf i).toNat)
  case atStart => exact ⟨0, 0, by omega, rfl, rfl, by omega, by show _ = _; simp [prevV]⟩
  case round =>
    obtain ⟨k, m, hk, rfl, rfl, ⟨hm1, hm2⟩, hI⟩ := hrel
    by_cases hlt : k < n
    · obtain ⟨bb, o, x, rfl, hbb, hcell, hwf, hd, _⟩ := hs.get hlt
      have hx : xs.getD k 0 = x := by
        have h5 := drop_getD xs k (by have := HL.out; omega)
        rw [hd] at h5
        injection h5 with h5 _
        exact h5.symm
      have hst := bare_step hd hx
      have i2 : (k : Int) < (n : Int) := by omega
      by_cases h13 : x = 13
      · subst h13
        rw [if_neg (show ¬ ((13 : Int) = 10 ∧ prevV xs k ≠ 13) from fun h => absurd h.1 (by decide))] at hst
        by_cases hk1 : k + 1 < n
        · have hc1 := hs.cell (j := k + 1) hk1
          have hd1 := drop_getD xs (k + 1) (by have := HL.out; omega)
          obtain ⟨y, hy⟩ : ∃ y, xs.getD (k + 1) 0 = y := ⟨_, rfl⟩
          rw [hy] at hc1 hd1
          have e : nl 13 (xs.drop (k + 1)) = decide (y = 10) := by rw [hd1]; simp [nl]
          have i3 : (k : Int) + 1 < (n : Int) := by omega
          have i4 : ((k : Int) + 1 == (n : Int)) = false := by simp; omega
          by_cases hy10 : y = 10
          · subst hy10
            rw [e] at hst
            have hI2 : bareV 0 xs = m + bareV (prevV xs (k + 1)) (xs.drop (k + 1)) := by rw [hI.out, hst]; simp
            have HI := Lib.hid hI2
            clear hI hI2 hst hd hd1 hx e hy
            go_wp2
            (go_round; (case rel => exact ⟨k + 1, m, by omega, by go_num, rfl, by omega, HI⟩); (case measure => first | (simp [intOf] <;> omega) | (simp [lenOf] <;> omega)))
          · have f10 : (y == 10) = false := by simpa using hy10
            have g10 : (y != 10) = true := by simpa using hy10
            rw [e, decide_eq_false hy10] at hst
            have hI2 : bareV 0 xs = m + 1 + bareV (prevV xs (k + 1)) (xs.drop (k + 1)) := by rw [hI.out, hst]; simp; omega
            have HI := Lib.hid hI2
            clear hI hI2 hst hd hd1 hx e hy hy10
            go_wp2
            (go_round; (case rel => exact ⟨k + 1, m + 1, by omega, by go_num, by go_num, by omega, HI⟩); (case measure => first | (simp [intOf] <;> omega) | (simp [lenOf] <;> omega)))
        · have hkn : n = k + 1 := by omega
          have e : nl 13 (xs.drop (k + 1)) = false := by rw [List.drop_eq_nil_of_le (by have := HL.out; omega)]; rfl
          rw [e] at hst
          have hI2 : bareV 0 xs = m + 1 + bareV (prevV xs (k + 1)) (xs.drop (k + 1)) := by rw [hI.out, hst]; simp; omega
          have HI := Lib.hid hI2
          clear hI hI2 hst hd hx e
          subst hkn
          have i4 : ((k : Int) + 1 == ((k + 1 : Nat) : Int)) = true := by simp
          go_wp2
          (go_round; (case rel => exact ⟨k + 1, m + 1, by omega, by go_num, by go_num, by omega, HI⟩); (case measure => first | (simp [intOf] <;> omega) | (simp [lenOf] <;> omega)))
      · have f13 : (x == 13) = false := by simpa using h13
        rw [if_neg (fun h => h13 h.1)] at hst
        by_cases h10 : x = 10
        · subst h10
          by_cases hk0 : k = 0
          · subst hk0
            rw [if_pos ⟨rfl, by simp [prevV]⟩] at hst
            have hI2 : bareV 0 xs = m + 1 + bareV (prevV xs (0 + 1)) (xs.drop (0 + 1)) := by rw [hI.out, hst]; omega
            have HI := Lib.hid hI2
            clear hI hI2 hst hd hx h13
            simp only [Nat.add_zero] at hcell
            go_wp2
            (go_round; (case rel => exact ⟨0 + 1, m + 1, by omega, by go_num, by go_num, by omega, HI⟩); (case measure => first | (simp [intOf] <;> omega) | (simp [lenOf] <;> omega)))
          · have hcp := hs.cell (j := k - 1) (by omega)
            obtain ⟨y, hy⟩ : ∃ y, xs.getD (k - 1) 0 = y := ⟨_, rfl⟩
            rw [hy] at hcp
            have hpv : prevV xs k = y := by unfold prevV; rw [if_neg hk0, hy]
            rw [hpv] at hst hI
            have i5 : ((k : Int) == 0) = false := by simp; omega
            have i6 : 0 ≤ (k : Int) - 1 := by omega
            have i8 : (1 : Int) ≤ k := by omega
            have i7 : (k : Int) - 1 < (n : Int) := by omega
            by_cases hy13 : y = 13
            · subst hy13
              rw [if_neg (by decide)] at hst
              have hI2 : bareV 0 xs = m + bareV (prevV xs (k + 1)) (xs.drop (k + 1)) := by rw [hI.out, hst]; omega
              have HI := Lib.hid hI2
              clear hI hI2 hst hd hx h13 hy hpv hk0
              go_wp2
              (go_round; (case rel => exact ⟨k + 1, m, by omega, by go_num, rfl, by omega, HI⟩); (case measure => first | (simp [intOf] <;> omega) | (simp [lenOf] <;> omega)))
            · have g13 : (y != 13) = true := by simpa using hy13
              have f13' : (y == 13) = false := by simpa using hy13
              rw [if_pos ⟨rfl, hy13⟩] at hst
              have hI2 : bareV 0 xs = m + 1 + bareV (prevV xs (k + 1)) (xs.drop (k + 1)) := by rw [hI.out, hst]; omega
              have HI := Lib.hid hI2
              clear hI hI2 hst hd hx h13 hy hpv hk0 hy13
              go_wp2
              (go_round; (case rel => exact ⟨k + 1, m + 1, by omega, by go_num, by go_num, by omega, HI⟩); (case measure => first | (simp [intOf] <;> omega) | (simp [lenOf] <;> omega)))
        · have f10 : (x == 10) = false := by simpa using h10
          rw [if_neg (fun h => h10 h.1)] at hst
          have hI2 : bareV 0 xs = m + bareV (prevV xs (k + 1)) (xs.drop (k + 1)) := by rw [hI.out, hst]; omega
          have HI := Lib.hid hI2
          clear hI hI2 hst hd hx h13 h10
          go_wp2
          (go_round; (case rel => exact ⟨k + 1, m, by omega, by go_num, rfl, by omega, HI⟩); (case measure => first | (simp [intOf] <;> omega) | (simp [lenOf] <;> omega)))
    · have hI2 : bareV 0 xs = m := by rw [hI.out, List.drop_eq_nil_of_le (by have := HL.out; omega)]; simp [bareV]
      have HI := Lib.hid hI2
      clear hI hI2
      go_wp2
      go_ret
      exact ⟨ret_int (by rw [HI.out]), rfl⟩

theorem maxL_cons {ls : List (List Int)} {k : Nat} {x : List Int} (hd : ls.drop k = x :: ls.drop (k + 1)) : maxL (ls.drop k) = max (x.length : Int) (maxL (ls.drop (k + 1))) := by rw [hd]; rfl
theorem maxL_0 (ls : List (List Int)) : 0 ≤ maxL ls := by
  cases ls with
  | nil => exact Int.le_refl _
  | cons l r => simp only [maxL]; omega
set_option maxRecDepth 100000 in
set_option maxHeartbeats 1000000 in
theorem p26_Longest {A n c xs} {w : World} (hs : Sl w .u8 A n c xs) (hn : n ≤ 4194304) (hM : MaxL w) : Calls Try.prog 14 #[.slice A n c] w (RetB (.int .i64 (maxL (splitL xs))) w) := by
  obtain ⟨ls, hls⟩ : ∃ ls, splitL xs = ls := ⟨_, rfl⟩
  have hp := p26_Split hs hn hM
  rw [hls] at hp ⊢
  clear hls
  go_enter Try.func14, Try.ntmps14
  go_wp2_with ((go_at_call 21; refine hp.mono ?_; rintro e w1 ⟨v1, rfl, ho1, hb1⟩); obtain ⟨A1, n1, c1, rfl, hL⟩ := ho1.lns)
  clear ho1
  have HL := Lib.hid hL.len
  have hcm := hL.cm
  have hle := hL.le
  unfold maxLen at hcm
  go_loop [3, 9] (fun v i => ∃ (k : Nat) (m : Int), k ≤ n1 ∧ i = .int .i64 k ∧ v = .int .i64 m ∧ 0 ≤ m ∧ Hid (maxL ls = max m (maxL (ls.drop k)))) (fun _ i => n1 - (intOf i).toNat)
  case atStart => exact ⟨0, 0, by omega, rfl, rfl, by omega, by have := maxL_0 ls; show _ = _; rw [List.drop_zero]; omega⟩
  case round =>
    obtain ⟨k, m, hk, rfl, rfl, hm, hI⟩ := hrel
    by_cases hlt : k < n1
    · obtain ⟨b, o, A', n', c', x, rfl, hb, hcell, hx, _, hd, _⟩ := hL.get hlt
      have hst := maxL_cons hd
      rw [hx.len] at hst
      have hI2 := hI.out
      rw [hst] at hI2
      clear hd hI hst
      have HI : Hid (maxL ls = max (max m (n' : Int)) (maxL (ls.drop (k + 1)))) := by show _ = _; omega
      clear hI2
      go_wp2
      (go_round; (case rel => exact ⟨k + 1, max m (n' : Int), by omega, by go_num, rfl, by omega, HI⟩); (case measure => first | (simp [intOf] <;> omega) | (simp [lenOf] <;> omega)))
    · have hI2 : maxL ls = m := by have h5 := hI.out; rw [List.drop_eq_nil_of_le (by have := HL.out; omega)] at h5; simp only [maxL] at h5; omega
      have HI := Lib.hid hI2
      clear hI hI2
      go_wp2
      go_ret
      exact ⟨ret_int (by rw [HI.out]), hb1⟩
set_option maxRecDepth 100000 in
set_option maxHeartbeats 1000000 in
theorem r26_Longest {A n c xs} {w : World} (hs : Sl w .u8 A n c xs) (hn : n ≤ 4194304) : Calls Try.prog 15 #[.slice A n c] w (RetB (.int .i64 (maxL (splitL xs))) w) := by
  obtain ⟨ls, hls⟩ : ∃ ls, splitL xs = ls := ⟨_, rfl⟩
  have hp := r26_Split hs hn
  rw [hls] at hp ⊢
  clear hls
  go_enter Try.func15, Try.ntmps15
  go_wp2_with ((go_at_call 22; refine hp.mono ?_; rintro e w1 ⟨A1, n1, c1, rfl, hL, hb1⟩))
  have HL := Lib.hid hL.len
  have hcm := hL.cm
  have hle := hL.le
  unfold maxLen at hcm
  go_loop [4, 5] (fun v i => ∃ (k : Nat) (m : Int), k ≤ n1 ∧ i = .int .i64 k ∧ v = .int .i64 m ∧ 0 ≤ m ∧ Hid (maxL ls = max m (maxL (ls.drop k)))) (fun _ i => n1 - (intOf i).toNat)
  case atStart => exact ⟨0, 0, by omega, rfl, rfl, by omega, by have := maxL_0 ls; show _ = _; rw [List.drop_zero]; omega⟩
  case round =>
    obtain ⟨k, m, hk, rfl, rfl, hm, hI⟩ := hrel
    by_cases hlt : k < n1
    · obtain ⟨b, o, A', n', c', x, rfl, hb, hcell, hx, _, hd, _⟩ := hL.get hlt
      have hst := maxL_cons hd
      rw [hx.len] at hst
      have hI2 := hI.out
      rw [hst] at hI2
      clear hd hI hst
      have HI : Hid (maxL ls = max (max m (n' : Int)) (maxL (ls.drop (k + 1)))) := by show _ = _; omega
      clear hI2
      go_wp2
      (go_round; (case rel => exact ⟨k + 1, max m (n' : Int), by omega, by go_num, rfl, by omega, HI⟩); (case measure => first | (simp [intOf] <;> omega) | (simp [lenOf] <;> omega)))
    · have hI2 : maxL ls = m := by have h5 := hI.out; rw [List.drop_eq_nil_of_le (by have := HL.out; omega)] at h5; simp only [maxL] at h5; omega
      have HI := Lib.hid hI2
      clear hI hI2
      go_wp2
      go_ret
      exact ⟨ret_int (by rw [HI.out]), hb1⟩
end Go.Proofs.Ytlmkhjegckgmcaa
