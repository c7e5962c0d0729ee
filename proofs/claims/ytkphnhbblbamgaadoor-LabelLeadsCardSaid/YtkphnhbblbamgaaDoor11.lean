/- Layer 11 (label): names and their numbers: what the functions of the program and of the reference return. Conditions: the arguments read as lists; lengths at most 2^30. -/
import Derived.Test.YtkphnhbblbamgaaDoor11S
namespace Go.Proofs.YtkphnhbblbamgaaDoor
open Go.RowKit Go.Maps

/-- returns texts -/
def RetSs (xs : List (List Int)) (w : World) (e : Ending) (w' : World) : Prop := ∃ A c, e = .returned (.slice A xs.length c) ∧ Ss w' A xs.length xs ∧ Below w.heap.size w w'
set_option maxRecDepth 100000 in
set_option maxHeartbeats 1000000 in
theorem p11_Names {k : Int} {w : World} : Calls Tryd.prog 32 #[.int .i64 k] w (RetSs (nmL k) w) := by
  by_cases h1 : k = 1
  · subst h1
    go_enter Tryd.func32, Tryd.ntmps32
    go_wp2
    go_ret
    exact ⟨_, _, rfl, Ss.new w _ _ nm1 (by simp only [nm1, List.map, sn1_0, sn1_1, sn1_2, sn1_3]), (Below.refl _ _).alloc (Nat.le_refl _) _⟩
  by_cases h2 : k = 2
  · subst h2
    go_enter Tryd.func32, Tryd.ntmps32
    go_wp2
    go_ret
    exact ⟨_, _, rfl, Ss.new w _ _ nm2 (by simp only [nm2, List.map, sn2_0, sn2_1, sn2_2, sn2_3]), (Below.refl _ _).alloc (Nat.le_refl _) _⟩
  by_cases h3 : k = 3
  · subst h3
    go_enter Tryd.func32, Tryd.ntmps32
    go_wp2
    go_ret
    exact ⟨_, _, rfl, Ss.new w _ _ nm3 (by simp only [nm3, List.map, sn3_0, sn3_1, sn3_2]), (Below.refl _ _).alloc (Nat.le_refl _) _⟩
  by_cases h4 : k = 4
  · subst h4
    go_enter Tryd.func32, Tryd.ntmps32
    go_wp2
    go_ret
    exact ⟨_, _, rfl, Ss.new w _ _ nm4 (by simp only [nm4, List.map, sn4_0, sn4_1]), (Below.refl _ _).alloc (Nat.le_refl _) _⟩
  by_cases h5 : k = 5
  · subst h5
    go_enter Tryd.func32, Tryd.ntmps32
    go_wp2
    go_ret
    exact ⟨_, _, rfl, Ss.new w _ _ nm5 (by simp only [nm5, List.map, sn5_0, sn5_1]), (Below.refl _ _).alloc (Nat.le_refl _) _⟩
  have e : nmL k = [] := by unfold nmL; rw [if_neg h1, if_neg h2, if_neg h3, if_neg h4, if_neg h5]
  go_enter Tryd.func32, Tryd.ntmps32
  go_wp2
  go_ret
  rw [e]
  exact ⟨none, 0, rfl, Ss.nil _ _, Below.refl _ _⟩
set_option maxRecDepth 100000 in
set_option maxHeartbeats 1000000 in
theorem r11_Names {k : Int} {w : World} : Calls Tryd.prog 44 #[.int .i64 k] w (RetSs (nmL k) w) := by
  by_cases h1 : k = 1
  · subst h1
    go_enter Tryd.func44, Tryd.ntmps44
    go_wp2
    go_ret
    exact ⟨_, _, rfl, Ss.new w _ _ nm1 (by simp only [nm1, List.map, sn1_0, sn1_1, sn1_2, sn1_3]), (Below.refl _ _).alloc (Nat.le_refl _) _⟩
  by_cases h2 : k = 2
  · subst h2
    go_enter Tryd.func44, Tryd.ntmps44
    go_wp2
    go_ret
    exact ⟨_, _, rfl, Ss.new w _ _ nm2 (by simp only [nm2, List.map, sn2_0, sn2_1, sn2_2, sn2_3]), (Below.refl _ _).alloc (Nat.le_refl _) _⟩
  by_cases h3 : k = 3
  · subst h3
    go_enter Tryd.func44, Tryd.ntmps44
    go_wp2
    go_ret
    exact ⟨_, _, rfl, Ss.new w _ _ nm3 (by simp only [nm3, List.map, sn3_0, sn3_1, sn3_2]), (Below.refl _ _).alloc (Nat.le_refl _) _⟩
  by_cases h4 : k = 4
  · subst h4
    go_enter Tryd.func44, Tryd.ntmps44
    go_wp2
    go_ret
    exact ⟨_, _, rfl, Ss.new w _ _ nm4 (by simp only [nm4, List.map, sn4_0, sn4_1]), (Below.refl _ _).alloc (Nat.le_refl _) _⟩
  by_cases h5 : k = 5
  · subst h5
    go_enter Tryd.func44, Tryd.ntmps44
    go_wp2
    go_ret
    exact ⟨_, _, rfl, Ss.new w _ _ nm5 (by simp only [nm5, List.map, sn5_0, sn5_1]), (Below.refl _ _).alloc (Nat.le_refl _) _⟩
  have e : nmL k = [] := by unfold nmL; rw [if_neg h1, if_neg h2, if_neg h3, if_neg h4, if_neg h5]
  go_enter Tryd.func44, Tryd.ntmps44
  go_wp2
  go_ret
  rw [e]
  exact ⟨none, 0, rfl, Ss.nil _ _, Below.refl _ _⟩
set_option maxRecDepth 100000 in
set_option maxHeartbeats 1000000 in
theorem p11_IsCharset {k : Int} {w : World} : Calls Tryd.prog 42 #[.int .i64 k] w (Ret (.bool (decide (1 ≤ k ∧ k ≤ 5))) w) := by
  go_enter Tryd.func42, Tryd.ntmps42
  go_wp2
  all_goals go_ret
  all_goals exact ⟨ret_bool (by rw [Bool.eq_iff_iff]; simp; omega), rfl⟩
set_option maxRecDepth 100000 in
set_option maxHeartbeats 1000000 in
theorem p11_IsCoding {k : Int} {w : World} : Calls Tryd.prog 34 #[.int .i64 k] w (Ret (.bool (decide (1 ≤ k ∧ k ≤ 3))) w) := by
  go_enter Tryd.func34, Tryd.ntmps34
  go_wp2
  all_goals go_ret
  all_goals exact ⟨ret_bool (by rw [Bool.eq_iff_iff]; simp; omega), rfl⟩
set_option maxRecDepth 100000 in
set_option maxHeartbeats 1000000 in
theorem p11_CodingName {k : Int} {w : World} {s : ByteArray} (hs : strOfNums (cdL k) = s) : Calls Tryd.prog 33 #[.int .i64 k] w (Ret (.string s) w) := by
  by_cases h1 : k = 1
  · subst h1
    go_enter Tryd.func33, Tryd.ntmps33
    go_wp2
    go_ret
    exact ⟨by rw [← hs]; show _ = Ending.returned (.string (strOfNums [55, 98, 105, 116])); rw [sc1]; rfl, rfl⟩
  by_cases h2 : k = 2
  · subst h2
    go_enter Tryd.func33, Tryd.ntmps33
    go_wp2
    go_ret
    exact ⟨by rw [← hs]; show _ = Ending.returned (.string (strOfNums [113, 117, 111, 116, 101, 100, 45, 112, 114, 105, 110, 116, 97, 98, 108, 101])); rw [sc2]; rfl, rfl⟩
  by_cases h3 : k = 3
  · subst h3
    go_enter Tryd.func33, Tryd.ntmps33
    go_wp2
    go_ret
    exact ⟨by rw [← hs]; show _ = Ending.returned (.string (strOfNums [98, 97, 115, 101, 54, 52])); rw [sc3]; rfl, rfl⟩
  have e : cdL k = [] := by unfold cdL; rw [if_neg h1, if_neg h2, if_neg h3]
  rw [e, sc0] at hs
  subst hs
  go_enter Tryd.func33, Tryd.ntmps33
  go_wp2
  go_ret
  exact ⟨rfl, rfl⟩
set_option maxRecDepth 100000 in
set_option maxHeartbeats 1000000 in
theorem r11_CodingName {k : Int} {w : World} {s : ByteArray} (hs : strOfNums (cdL k) = s) : Calls Tryd.prog 45 #[.int .i64 k] w (RetB (.string s) w) := by
  by_cases h1 : k = 1
  · subst h1
    go_enter Tryd.func45, Tryd.ntmps45
    go_wp2
    go_ret
    exact ⟨by rw [← hs]; show _ = Ending.returned (.string (strOfNums [55, 98, 105, 116])); rw [sc1]; rfl, (Below.refl _ _).alloc (Nat.le_refl _) _⟩
  by_cases h2 : k = 2
  · subst h2
    go_enter Tryd.func45, Tryd.ntmps45
    go_wp2
    go_ret
    exact ⟨by rw [← hs]; show _ = Ending.returned (.string (strOfNums [113, 117, 111, 116, 101, 100, 45, 112, 114, 105, 110, 116, 97, 98, 108, 101])); rw [sc2]; rfl, (Below.refl _ _).alloc (Nat.le_refl _) _⟩
  by_cases h3 : k = 3
  · subst h3
    go_enter Tryd.func45, Tryd.ntmps45
    go_wp2
    go_ret
    exact ⟨by rw [← hs]; show _ = Ending.returned (.string (strOfNums [98, 97, 115, 101, 54, 52])); rw [sc3]; rfl, (Below.refl _ _).alloc (Nat.le_refl _) _⟩
  have e : cdL k = [] := by unfold cdL; rw [if_neg h1, if_neg h2, if_neg h3]
  rw [e, sc0] at hs
  subst hs
  by_cases h4 : k < 1
  · go_enter Tryd.func45, Tryd.ntmps45
    go_wp2
    go_ret
    exact ⟨rfl, Below.refl _ _⟩
  · have h5 : 3 < k := by omega
    go_enter Tryd.func45, Tryd.ntmps45
    go_wp2
    go_ret
    exact ⟨rfl, Below.refl _ _⟩
set_option maxRecDepth 100000 in
set_option maxHeartbeats 1000000 in
theorem p11_Bare {A n c xs} {w : World} (hs : Sl w .u8 A n c xs) (hn : n ≤ 1073741824) : Calls Tryd.prog 30 #[.slice A n c] w (RetOwn id 5 .u8 (bareL xs) w) := by
  have hl := cutS_len xs
  rw [hs.len] at hl
  have ht := cutS_take xs
  have HI := lib_IndexByte hs (w := w) (cv := 42) (by decide)
  rcases cutS_idx xs 0 (by omega) with ⟨h1, h2⟩ | ⟨h1, h2⟩
  · rw [h1] at HI
    have hb : bareL xs = tbL xs := by unfold bareL; rw [h2]
    go_enter Tryd.func30, Tryd.ntmps30
    go_wp2_with (go_at_call 46; refine HI.mono ?_; rintro e w' ⟨rfl, rfl⟩)
    refine (p01_Trim hs hn).mono ?_
    rintro e w1 ⟨v1, rfl, ho1, hb1⟩
    go_wp2
    go_ret
    exact ⟨_, rfl, by rw [hb]; exact ho1, hb1⟩
  · have hs2 := hs.cut (lo := 0) (hi := (cutS xs).length) (m := (cutS xs).length) (c' := c) (Nat.zero_le _) hl (by omega) (by omega)
    have e2 : (xs.take (cutS xs).length).drop 0 = cutS xs := by rw [List.drop_zero, ← ht]
    rw [e2] at hs2
    rw [hs.len] at h2
    rw [h1, Int.zero_add] at HI
    have hle := hs.le
    have hcm := hs.cm
    unfold maxLen at hcm
    have hb : bareL xs = tbL (cutS xs) := rfl
    obtain ⟨b, o, rfl, _⟩ := hs.form (by omega)
    have hs3 := hs.take_ (m := (cutS xs).length) hl
    rw [← ht] at hs3
    obtain ⟨K, hK⟩ : ∃ K, (cutS xs).length = K := ⟨_, rfl⟩
    rw [hK] at HI hs2 hs3 hl h2
    clear h1 e2 ht hK hs2
    go_enter Tryd.func30, Tryd.ntmps30
    go_wp2_with (go_at_call 46; refine HI.mono ?_; rintro e w' ⟨rfl, rfl⟩)
    refine (p01_Trim hs3 (by omega)).mono ?_
    rintro e w1 ⟨v1, rfl, ho1, hb1⟩
    go_wp2
    go_ret
    exact ⟨_, rfl, by rw [hb]; exact ho1, hb1⟩
set_option maxRecDepth 100000 in
set_option maxHeartbeats 1000000 in
theorem r11_Bare {A n c xs} {w : World} (hs : Sl w .u8 A n c xs) (hn : n ≤ 1073741824) : Calls Tryd.prog 31 #[.slice A n c] w (RetRd (bareL xs) w) := by
  have HL := Lib.hid hs.len
  have hle := hs.le
  have hcm := hs.cm
  unfold maxLen at hcm
  go_enter Tryd.func31, Tryd.ntmps31
  go_wp2
  go_loop [3, 4] (fun e i => ∃ k m : Nat, k ≤ n ∧ i = .int .i64 ((k : Int) - 1) ∧ e = .int .i64 m ∧ m ≤ n ∧ Hid (m = k + (cutS (xs.drop k)).length)) (fun _ i => (intOf i + 1).toNat)
  case atStart => exact ⟨n, n, Nat.le_refl _, by go_num, rfl, Nat.le_refl _, by show _ = _; rw [List.drop_eq_nil_of_le (by have := HL.out; omega)]; rfl⟩
  case round =>
    obtain ⟨k, m, hk, rfl, rfl, hm, hI⟩ := hrel
    by_cases h0 : k = 0
    · subst h0
      have hm0 : m = (cutS xs).length := by have := hI.out; simpa using this
      have hs3 := hs.take_ (m := m) hm
      have ht := cutS_take xs
      rw [← hm0] at ht
      rw [← ht] at hs3
      clear hI ht hm0
      have hmc : m ≤ c := by omega
      go_wp2_with fail
      refine (r01_Trim hs3).mono ?_
      rintro e w1 ⟨A1, n1, c1, rfl, hs1, hb1⟩
      go_wp2
      go_ret
      exact ⟨_, _, _, rfl, hs1, hb1⟩
    · obtain ⟨j, rfl⟩ : ∃ j, k = j + 1 := ⟨k - 1, by omega⟩
      obtain ⟨b, o, x, rfl, hb, hcell, hwf, hd, ht⟩ := hs.get (j := j) (by omega)
      have e1 : ((j + 1 : Nat) : Int) - 1 = (j : Int) := by omega
      rw [e1]
      by_cases hx : x = 42
      · have hJ : Hid (j = j + (cutS (xs.drop j)).length) := by show _ = _; rw [hd]; simp [cutS, hx]
        subst hx
        clear hd ht hI
        go_wp2
        (go_round; (case rel => exact ⟨j, j, by omega, by go_num, rfl, by omega, hJ⟩); (case measure => first | (simp [intOf] <;> omega) | (simp [lenOf] <;> omega)))
      · have hJ : Hid (m = j + (cutS (xs.drop j)).length) := by
          show _ = _
          rw [hd, hI.out]; simp [cutS, hx]; omega
        clear hd ht hI
        go_wp2
        (go_round; (case rel => exact ⟨j, m, by omega, by go_num, rfl, hm, hJ⟩); (case measure => first | (simp [intOf] <;> omega) | (simp [lenOf] <;> omega)))
end Go.Proofs.YtkphnhbblbamgaaDoor
