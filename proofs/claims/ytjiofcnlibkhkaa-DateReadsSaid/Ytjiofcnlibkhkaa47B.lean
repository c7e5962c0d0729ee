/- Layer 47 (date): days since the first one, days of the week: what the functions of the program and of the reference return. No condition but ranges where they are named. -/
import Derived.Test.Ytjiofcnlibkhkaa47
namespace Go.Proofs.Ytjiofcnlibkhkaa
open Go.RowKit

set_option maxRecDepth 100000 in
set_option maxHeartbeats 2000000 in
theorem p47_since {y m d : Int} {w : World} (hy : 1 ≤ y ∧ y ≤ 9999) (hm : 1 ≤ m ∧ m ≤ 12) (hd : 1 ≤ d ∧ d ≤ 31) : Calls Try.prog 23 #[.int .i64 y, .int .i64 m, .int .i64 d] w (Ret (.int .i64 (sinceL y m d)) w) := by
  obtain ⟨hy1, hy2⟩ := hy
  obtain ⟨hd1, hd2⟩ := hd
  obtain ⟨M, rfl⟩ : ∃ M : Nat, m = (M : Int) + 1 := ⟨(m - 1).toNat, by omega⟩
  have hM : M ≤ 11 := by omega
  have q4 := tdiv_pos (y := y - 1) (by omega) 4
  have q100 := tdiv_pos (y := y - 1) (by omega) 100
  have q400 := tdiv_pos (y := y - 1) (by omega) 400
  have HS : Hid (sinceL y ((M : Int) + 1) d = ydL y + mdN y M + d - 1) := by show _ = _; unfold sinceL; rw [show (((M : Int) + 1 - 1).toNat) = M from by omega]
  have hyd := ydL_rng hy1 hy2
  have HY : Hid (ydL y = (y - 1) * 365 + (y - 1) / 4 - (y - 1) / 100 + (y - 1) / 400) := rfl
  obtain ⟨a, ha⟩ : ∃ a, (y - 1) / 4 = a := ⟨_, rfl⟩
  obtain ⟨b, hb⟩ : ∃ b, (y - 1) / 100 = b := ⟨_, rfl⟩
  obtain ⟨c, hc⟩ : ∃ c, (y - 1) / 400 = c := ⟨_, rfl⟩
  have ra : 0 ≤ a ∧ a ≤ 2500 := by omega
  have rb : 0 ≤ b ∧ b ≤ 100 := by omega
  have rc : 0 ≤ c ∧ c ≤ 25 := by omega
  rw [ha] at q4 HY
  rw [hb] at q100 HY
  rw [hc] at q400 HY
  clear ha hb hc
  obtain ⟨ra1, ra2⟩ := ra
  obtain ⟨rb1, rb2⟩ := rb
  obtain ⟨rc1, rc2⟩ := rc
  go_enter Try.func23, Try.ntmps23
  go_wp2
  go_loop [8, 9] (fun n k => ∃ j : Nat, j ≤ M ∧ k = .int .i64 ((j : Int) + 1) ∧ n = .int .i64 (ydL y + mdN y j)) (fun _ k => M + 1 - (intOf k).toNat)
  case atStart => exact ⟨0, by omega, rfl, by rw [HY.out]; show _ = Value.int .i64 (_ + 0); go_num⟩
  case round =>
    obtain ⟨j, hj, rfl, rfl⟩ := hrel
    have hr := mdN_rng y j
    by_cases hlt : j < M
    · have HE := Lib.hid (show mdN y (j + 1) = mdN y j + daysL y ((j : Int) + 1) from rfl)
      have hc := fun w => p47_Days (y := y) (m := ((j : Int) + 1)) (w := w)
      have hdr := daysL_rng y ((j : Int) + 1)
      obtain ⟨D, hD⟩ : ∃ D, daysL y ((j : Int) + 1) = D := ⟨_, rfl⟩
      rw [hD] at HE hc hdr
      clear hD
      go_wp2_with (go_at_call 9; refine (hc _).mono ?_; rintro e w' ⟨rfl, rfl⟩)
      (go_round; (case rel => exact ⟨j + 1, by omega, by go_num, by rw [HE.out]; go_num⟩); (case measure => first | (simp [intOf] <;> omega) | (simp [lenOf] <;> omega)))
    · obtain rfl : j = M := by omega
      go_wp2
      go_ret
      exact ⟨by rw [HS.out]; exact ret_int (by omega), rfl⟩
set_option maxRecDepth 100000 in
set_option maxHeartbeats 2000000 in
theorem r47_since {y m d : Int} {w : World} (hy : 1 ≤ y ∧ y ≤ 9999) (hm : 1 ≤ m ∧ m ≤ 12) (hd : 1 ≤ d ∧ d ≤ 31) : Calls Try.prog 24 #[.int .i64 y, .int .i64 m, .int .i64 d] w (RetB (.int .i64 (sinceL y m d)) w) := by
  obtain ⟨Y, rfl⟩ : ∃ Y : Nat, y = (Y : Int) + 1 := ⟨(y - 1).toNat, by omega⟩
  obtain ⟨hy1, hy2⟩ := hy
  obtain ⟨hd1, hd2⟩ := hd
  obtain ⟨M, rfl⟩ : ∃ M : Nat, m = (M : Int) + 1 := ⟨(m - 1).toNat, by omega⟩
  have hM : M ≤ 11 := by omega
  have HS : Hid (sinceL ((Y : Int) + 1) ((M : Int) + 1) d = ydL ((Y : Int) + 1) + mdN ((Y : Int) + 1) M + d - 1) := by show _ = _; unfold sinceL; rw [show (((M : Int) + 1 - 1).toNat) = M from by omega]
  go_enter Try.func24, Try.ntmps24
  go_wp2
  go_loop [7, 8] (fun n k => ∃ j : Nat, j ≤ Y ∧ k = .int .i64 ((j : Int) + 1) ∧ n = .int .i64 (ydL ((j : Int) + 1))) (fun _ k => Y + 1 - (intOf k).toNat)
  case atStart => exact ⟨0, by omega, rfl, rfl⟩
  case round =>
    obtain ⟨j, hj, rfl, rfl⟩ := hrel
    have hyd := ydL_rng (y := ((j : Int) + 1)) (by omega) (by omega)
    by_cases hlt : j < Y
    · have HE := Lib.hid (ydL_step (k := ((j : Int) + 1)) (by omega) (by omega))
      have hc := fun w => r47_Leap (y := ((j : Int) + 1)) (w := w)
      obtain ⟨L, hL⟩ : ∃ L, leapL ((j : Int) + 1) = L := ⟨_, rfl⟩
      rw [hL] at HE hc
      clear hL
      obtain ⟨N, hN⟩ : ∃ N, ydL ((j : Int) + 1) = N := ⟨_, rfl⟩
      rw [hN] at HE hyd ⊢
      clear hN
      have HE2 : Hid (ydL ((j : Int) + 1 + 1) = N + 365 + (if L then 1 else 0)) := HE.out
      clear HE
      cases L
      · go_wp2_with (go_at_call 8; refine (hc _).mono ?_; rintro e w' ⟨rfl, rfl⟩)
        (go_round; (case rel => exact ⟨j + 1, by omega, by go_num, by rw [show (((j + 1 : Nat) : Int) + 1) = (j : Int) + 1 + 1 from by omega, HE2.out]; simp⟩); (case measure => first | (simp [intOf] <;> omega) | (simp [lenOf] <;> omega)))
      · go_wp2_with (go_at_call 8; refine (hc _).mono ?_; rintro e w' ⟨rfl, rfl⟩)
        (go_round; (case rel => exact ⟨j + 1, by omega, by go_num, by rw [show (((j + 1 : Nat) : Int) + 1) = (j : Int) + 1 + 1 from by omega, HE2.out]; simp⟩); (case measure => first | (simp [intOf] <;> omega) | (simp [lenOf] <;> omega)))
    · obtain rfl : j = Y := by omega
      obtain ⟨N, hN⟩ : ∃ N, ydL ((j : Int) + 1) = N := ⟨_, rfl⟩
      rw [hN] at HS hyd ⊢
      clear hN
      go_wp2
      go_loopw [7, 9] (fun n k wr => ∃ i : Nat, i ≤ M ∧ k = .int .i64 ((i : Int) + 1) ∧ n = .int .i64 (N + mdN ((j : Int) + 1) i) ∧ Below w.heap.size w wr) (fun _ k _ => M + 1 - (intOf k).toNat)
      case atStart => exact ⟨0, by omega, rfl, by show _ = Value.int .i64 (_ + 0); go_num, Below.refl _ _⟩
      case round =>
        obtain ⟨i, hi, rfl, rfl, hbel⟩ := hrel
        have hr := mdN_rng ((j : Int) + 1) i
        by_cases hlt2 : i < M
        · have HE := Lib.hid (show mdN ((j : Int) + 1) (i + 1) = mdN ((j : Int) + 1) i + daysL ((j : Int) + 1) ((i : Int) + 1) from rfl)
          have hc := fun w => r47_Days (y := ((j : Int) + 1)) (m := ((i : Int) + 1)) (w := w)
          have hdr := daysL_rng ((j : Int) + 1) ((i : Int) + 1)
          obtain ⟨D, hD⟩ : ∃ D, daysL ((j : Int) + 1) ((i : Int) + 1) = D := ⟨_, rfl⟩
          rw [hD] at HE hc hdr
          clear hD
          go_wp2_with (go_at_call 10; refine (hc _).mono ?_; rintro e w2 ⟨rfl, hb2⟩)
          (first | (go_roundw; (case rel => exact ⟨i + 1, by omega, by go_num, by rw [HE.out]; go_num, below_then hbel hb2⟩); (case measure => first | (simp [intOf] <;> omega) | (simp [lenOf] <;> omega))) | (refine ⟨?_, ?measure⟩; (repeat apply Exists.intro); refine ⟨?rel, ?eqs⟩; (case eqs => first | rfl | ((repeat (refine ⟨rfl, ?_⟩)); rfl)); (case rel => exact ⟨i + 1, by omega, by go_num, by rw [HE.out]; go_num, below_then hbel hb2⟩); (case measure => first | (simp [intOf] <;> omega) | (simp [lenOf] <;> omega))) | ((repeat apply Exists.intro); refine ⟨?rel, ?eqs⟩; (case eqs => first | rfl | ((repeat (refine ⟨rfl, ?_⟩)); rfl)); (case rel => exact ⟨i + 1, by omega, by go_num, by rw [HE.out]; go_num, below_then hbel hb2⟩)))
        · obtain rfl : i = M := by omega
          go_wp2
          go_ret
          exact ⟨by rw [HS.out]; exact ret_int (by omega), hbel⟩

set_option maxRecDepth 100000 in
set_option maxHeartbeats 1000000 in
theorem p47_Weekday {y m d : Int} {w : World} : Calls Try.prog 11 #[.int .i64 y, .int .i64 m, .int .i64 d] w (Ret (.int .i64 (wdayL y m d)) w) := by
  have hc := p47_Days (y := y) (m := m) (w := w)
  have hdr := daysL_rng y m
  have hdp := daysL_pos (y := y) (m := m)
  have HW := Lib.hid (show wdayL y m d = if d < 1 ∨ d > daysL y m then -1 else (sinceL y m d + 1) % 7 from rfl)
  obtain ⟨W, hW⟩ : ∃ W, wdayL y m d = W := ⟨_, rfl⟩
  rw [hW] at HW ⊢
  clear hW
  obtain ⟨D, hD⟩ : ∃ D, daysL y m = D := ⟨_, rfl⟩
  rw [hD] at hc hdr hdp HW
  clear hD
  by_cases h1 : d < 1
  · have e := HW.out
    rw [if_pos (.inl h1)] at e
    subst e
    clear HW hdp
    go_enter Try.func11, Try.ntmps11
    go_wp2
    go_ret
    exact ⟨rfl, rfl⟩
  by_cases h2 : D < d
  · have e := HW.out
    rw [if_pos (.inr h2)] at e
    subst e
    clear HW hdp
    go_enter Try.func11, Try.ntmps11
    go_wp2_with (go_at_call 9; refine hc.mono ?_; rintro e w' ⟨rfl, rfl⟩)
    go_ret
    exact ⟨rfl, rfl⟩
  · have e := HW.out
    rw [if_neg (by omega)] at e
    obtain ⟨k1, k2, k3, k4⟩ := hdp (by omega)
    have hs := fun w => p47_since (y := y) (m := m) (d := d) (w := w) ⟨k1, k2⟩ ⟨k3, k4⟩ ⟨by omega, by omega⟩
    have hsr := sinceL_rng (y := y) (m := m) (d := d) k1 k2 k3 k4 (by omega) (by omega)
    obtain ⟨N, hN⟩ : ∃ N, sinceL y m d = N := ⟨_, rfl⟩
    rw [hN] at hs hsr e
    clear hN HW hdp
    have q := tmod_pos (y := N + 1) (by omega) 7
    have hr : 0 ≤ (N + 1) % 7 ∧ (N + 1) % 7 < 7 := by omega
    rw [← e] at q hr
    clear e
    go_enter Try.func11, Try.ntmps11
    go_wp2_with (first | (go_at_call 9; refine hc.mono ?_; rintro e w' ⟨rfl, rfl⟩) | (go_at_call 23; refine (hs _).mono ?_; rintro e w' ⟨rfl, rfl⟩))
    go_ret
    exact ⟨rfl, rfl⟩
set_option maxRecDepth 100000 in
set_option maxHeartbeats 1000000 in
theorem r47_Weekday {y m d : Int} {w : World} : Calls Try.prog 12 #[.int .i64 y, .int .i64 m, .int .i64 d] w (RetB (.int .i64 (wdayL y m d)) w) := by
  have hc := r47_Days (y := y) (m := m) (w := w)
  have hdr := daysL_rng y m
  have hdp := daysL_pos (y := y) (m := m)
  have HW := Lib.hid (show wdayL y m d = if d < 1 ∨ d > daysL y m then -1 else (sinceL y m d + 1) % 7 from rfl)
  obtain ⟨W, hW⟩ : ∃ W, wdayL y m d = W := ⟨_, rfl⟩
  rw [hW] at HW ⊢
  clear hW
  obtain ⟨D, hD⟩ : ∃ D, daysL y m = D := ⟨_, rfl⟩
  rw [hD] at hc hdr hdp HW
  clear hD
  by_cases h1 : d < 1
  · have e := HW.out
    rw [if_pos (.inl h1)] at e
    subst e
    clear HW hdp
    go_enter Try.func12, Try.ntmps12
    go_wp2
    go_ret
    exact ⟨rfl, Below.refl _ _⟩
  by_cases h2 : D < d
  · have e := HW.out
    rw [if_pos (.inr h2)] at e
    subst e
    clear HW hdp
    go_enter Try.func12, Try.ntmps12
    go_wp2_with (go_at_call 10; refine hc.mono ?_; rintro e w1 ⟨rfl, hbw1⟩)
    go_ret
    exact ⟨rfl, hbw1⟩
  · have e := HW.out
    rw [if_neg (by omega)] at e
    obtain ⟨k1, k2, k3, k4⟩ := hdp (by omega)
    have hs := fun w => r47_since (y := y) (m := m) (d := d) (w := w) ⟨k1, k2⟩ ⟨k3, k4⟩ ⟨by omega, by omega⟩
    have hsr := sinceL_rng (y := y) (m := m) (d := d) k1 k2 k3 k4 (by omega) (by omega)
    obtain ⟨N, hN⟩ : ∃ N, sinceL y m d = N := ⟨_, rfl⟩
    rw [hN] at hs hsr e
    clear hN HW hdp
    have q := tmod_pos (y := N + 1) (by omega) 7
    have hr : 0 ≤ (N + 1) % 7 ∧ (N + 1) % 7 < 7 := by omega
    rw [← e] at q hr
    clear e
    go_enter Try.func12, Try.ntmps12
    go_wp2_with (first | (go_at_call 10; refine hc.mono ?_; rintro e w1 ⟨rfl, hbw1⟩) | (go_at_call 24; refine (hs _).mono ?_; rintro e w2 ⟨rfl, hbw2⟩))
    go_ret
    exact ⟨rfl, below_then hbw1 hbw2⟩
end Go.Proofs.Ytjiofcnlibkhkaa
