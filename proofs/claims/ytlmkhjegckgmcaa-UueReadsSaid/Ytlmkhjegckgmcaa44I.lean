/- Layer 44 (uue): files laid: what the functions of the program and of the reference return. Conditions: the arguments read as lists; lengths at most 2^16. -/
import Derived.Test.Ytlmkhjegckgmcaa44H
import Derived.Test.Ytlmkhjegckgmcaa44T
import Derived.Test.YtlmkhjegckgmcaaAppF
namespace Go.Proofs.Ytlmkhjegckgmcaa
open Go.RowKit

theorem nm_no {xs : List Int} {k : Nat} {x : Int} (hA : ∀ y ∈ xs.take k, isNm y = true) (hd : xs.drop k = x :: xs.drop (k + 1)) (hx : isNm x = false) : nameU xs = false := by
  unfold nameU; rw [all_drop hA, hd]; simp [hx]
theorem nm_yes {xs : List Int} {n : Nat} (hl : xs.length = n) (hA : ∀ y ∈ xs, isNm y = true) : nameU xs = (decide (0 < n) && decide (n ≤ 40)) := by
  unfold nameU; rw [List.all_eq_true.2 hA, hl, Bool.true_and]
set_option maxRecDepth 100000 in
set_option maxHeartbeats 1000000 in
theorem p44_isName {A n c xs} {w : World} (hs : Sl w .u8 A n c xs) : Calls Try.prog 73 #[.slice A n c] w (Ret (.bool (nameU xs)) w) := by
  have HL := Lib.hid hs.len; have hle := hs.le; have hcm := hs.cm; unfold maxLen at hcm
  go_enter Try.func73, Try.ntmps73
  go_wp2
  go_loop [7] (fun i => ∃ k : Nat, k ≤ n ∧ i = .int .i64 k ∧ Hid (∀ y ∈ xs.take k, isNm y = true)) (fun i => n - (intOf i).toNat)
  case atStart => exact ⟨0, Nat.zero_le _, rfl, by show ∀ x ∈ xs.take 0, _; simp⟩
  case round =>
    obtain ⟨k, hk, rfl, hA⟩ := hrel
    by_cases hlt : k < n
    · obtain ⟨b, o, x, rfl, hb, hcell, hwf, hd, ht⟩ := hs.get hlt
      by_cases h1 : x < 33
      · have HE := Lib.hid (nm_no hA.out hd (decide_eq_false (by omega)))
        clear hd ht
        go_wp2
        go_ret
        exact ⟨ret_bool HE.out.symm, rfl⟩
      · by_cases h2 : 126 < x
        · have HE := Lib.hid (nm_no hA.out hd (decide_eq_false (by omega)))
          clear hd ht
          go_wp2
          go_ret
          exact ⟨ret_bool HE.out.symm, rfl⟩
        · have HA1 : Hid (∀ z ∈ xs.take (k + 1), isNm z = true) := by
            show ∀ z ∈ _, _
            rw [ht]; intro z hz
            rcases List.mem_append.1 hz with hz | hz
            · exact hA.out z hz
            · simp at hz; subst hz; exact decide_eq_true (by omega)
          clear hd ht
          go_wp2
          (go_round; (case rel => exact ⟨k + 1, by omega, by go_num, HA1⟩); (case measure => first | (simp [intOf] <;> omega) | (simp [lenOf] <;> omega)))
    · rw [List.take_of_length_le (by have := HL.out; omega)] at hA
      have HE := Lib.hid (nm_yes HL.out hA.out)
      by_cases h3 : 0 < n
      · by_cases h4 : n ≤ 40
        · go_wp2
          go_ret
          exact ⟨ret_bool (by rw [HE.out]; simp [h3, h4]; omega), rfl⟩
        · go_wp2
          go_ret
          exact ⟨ret_bool (by rw [HE.out]; simp [h3]; omega), rfl⟩
      · go_wp2
        go_ret
        exact ⟨ret_bool (by rw [HE.out]; simp; omega), rfl⟩
set_option maxRecDepth 100000 in
set_option maxHeartbeats 1000000 in
theorem r44_name {A n c xs} {w : World} (hs : Sl w .u8 A n c xs) : Calls Try.prog 74 #[.slice A n c] w (Ret (.bool (nameU xs)) w) := by
  have HL := Lib.hid hs.len; have hle := hs.le; have hcm := hs.cm; unfold maxLen at hcm
  go_enter Try.func74, Try.ntmps74
  go_wp2
  go_loop [3] (fun i => ∃ k : Nat, k ≤ n ∧ i = .int .i64 k ∧ Hid (∀ y ∈ xs.take k, isNm y = true)) (fun i => n - (intOf i).toNat)
  case atStart => exact ⟨0, Nat.zero_le _, rfl, by show ∀ x ∈ xs.take 0, _; simp⟩
  case round =>
    obtain ⟨k, hk, rfl, hA⟩ := hrel
    by_cases hlt : k < n
    · obtain ⟨b, o, x, rfl, hb, hcell, hwf, hd, ht⟩ := hs.get hlt
      by_cases h1 : x < 33
      · have HE := Lib.hid (nm_no hA.out hd (decide_eq_false (by omega)))
        clear hd ht
        go_wp2
        go_ret
        exact ⟨ret_bool HE.out.symm, rfl⟩
      · by_cases h2 : 126 < x
        · have HE := Lib.hid (nm_no hA.out hd (decide_eq_false (by omega)))
          clear hd ht
          go_wp2
          go_ret
          exact ⟨ret_bool HE.out.symm, rfl⟩
        · have HA1 : Hid (∀ z ∈ xs.take (k + 1), isNm z = true) := by
            show ∀ z ∈ _, _
            rw [ht]; intro z hz
            rcases List.mem_append.1 hz with hz | hz
            · exact hA.out z hz
            · simp at hz; subst hz; exact decide_eq_true (by omega)
          clear hd ht
          go_wp2
          (go_round; (case rel => exact ⟨k + 1, by omega, by go_num, HA1⟩); (case measure => first | (simp [intOf] <;> omega) | (simp [lenOf] <;> omega)))
    · rw [List.take_of_length_le (by have := HL.out; omega)] at hA
      have HE := Lib.hid (nm_yes HL.out hA.out)
      by_cases h3 : 0 < n
      · by_cases h4 : n ≤ 40
        · go_wp2
          go_ret
          exact ⟨ret_bool (by rw [HE.out]; simp [h3, h4]; omega), rfl⟩
        · go_wp2
          go_ret
          exact ⟨ret_bool (by rw [HE.out]; simp [h3]; omega), rfl⟩
      · go_wp2
        go_ret
        exact ⟨ret_bool (by rw [HE.out]; simp; omega), rfl⟩
end Go.Proofs.Ytlmkhjegckgmcaa
