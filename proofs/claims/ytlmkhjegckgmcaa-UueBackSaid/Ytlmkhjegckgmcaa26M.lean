/- Layer 26's laws of lines split and joined: each returns true for every input, and leaves what was there. Conditions: the arguments read as lists; the variable MaxLen holds a number. -/
import Derived.Test.Ytlmkhjegckgmcaa26L
namespace Go.Proofs.Ytlmkhjegckgmcaa
open Go.RowKit

theorem like_true {A n c xs A' n' c'} {w : World} (hs : Sl w .u8 A n c xs) (ht : Sl w .u8 A' n' c' xs) :
    Calls Try.prog 27 #[.slice A n c, .slice A' n' c'] w (fun e w' => e = .returned (.bool true) ∧ ∃ q, w' = w.drewN q) := by
  have h := r01_LikeQ hs ht
  rw [likeL_self] at h
  exact h
set_option maxRecDepth 100000 in
set_option maxHeartbeats 1000000 in
theorem law_same {A n c ls A' n' c'} {w : World} (hs : Lns w A n c ls) (ht : Lns w A' n' c' ls) : Calls Try.prog 20 #[.slice A n c, .slice A' n' c'] w (RetB (.bool true) w) := by
  have hnn : n = n' := by rw [← hs.len, ht.len]
  subst hnn
  have HL := Lib.hid hs.len
  have hle := hs.le
  have hcm := hs.cm
  unfold maxLen at hcm
  go_enter Try.func20, Try.ntmps20
  go_wp2
  go_loopw [13] (fun i wr => ∃ k : Nat, k ≤ n ∧ i = .int .i64 k ∧ Below w.heap.size w wr) (fun i _ => n - (intOf i).toNat)
  case atStart => exact ⟨0, by omega, rfl, Below.refl _ _⟩
  case round =>
    obtain ⟨k, hk, rfl, hbel⟩ := hrel
    by_cases hlt : k < n
    · obtain ⟨b, o, A1, n1, c1, x, rfl, hb, hcell, hx, hx1, _, _⟩ := (hs.bel hbel).get hlt
      obtain ⟨b', o', A2, n2, c2, y, rfl, hb', hcell', hy, hy1, _, _⟩ := (ht.bel hbel).get hlt
      obtain rfl : x = y := by rw [← hx1, ← hy1]
      have hxd : ∀ q, Sl (wr.drewN q) .u8 A1 n1 c1 x := fun q => hx.bel (below_drewN (Below.refl _ _) q)
      have hyd : ∀ q, Sl (wr.drewN q) .u8 A2 n2 c2 x := fun q => hy.bel (below_drewN (Below.refl _ _) q)
      have i2 : (k : Int) < (n : Int) := by omega
      clear hx1 hy1
      go_wp2_with fail
      go_quiet ((go_at_call 27; exact Calls.quiet_of (like_true (hxd _) (hyd _))))
      go_wp2
      (first | (go_roundw; (case rel => exact ⟨k + 1, by omega, by go_num, below_drewN hbel _⟩); (case measure => first | (simp [intOf] <;> omega) | (simp [lenOf] <;> omega))) | (refine ⟨?_, ?measure⟩; (repeat apply Exists.intro); refine ⟨?rel, ?eqs⟩; (case eqs => first | rfl | ((repeat (refine ⟨rfl, ?_⟩)); rfl)); (case rel => exact ⟨k + 1, by omega, by go_num, below_drewN hbel _⟩); (case measure => first | (simp [intOf] <;> omega) | (simp [lenOf] <;> omega))) | ((repeat apply Exists.intro); refine ⟨?rel, ?eqs⟩; (case eqs => first | rfl | ((repeat (refine ⟨rfl, ?_⟩)); rfl)); (case rel => exact ⟨k + 1, by omega, by go_num, below_drewN hbel _⟩)))
    · go_wp2
      go_ret
      exact ⟨rfl, hbel⟩

theorem joinL_le (xs : List Int) : (joinL (splitL xs)).length ≤ xs.length + 2 := by
  rw [joinL_split]
  have := whole_len xs
  split at this <;> omega
theorem split_len (xs : List Int) : (splitL xs).length ≤ xs.length := by
  have h : ∀ xs : List Int, (splitL xs).length ≤ xs.length := by
    intro xs
    suffices h : ∀ n, ∀ xs : List Int, xs.length ≤ n → (splitL xs).length ≤ xs.length from h xs.length xs (Nat.le_refl _)
    intro n
    induction n with
    | zero => intro xs hx; have : xs = [] := List.eq_nil_of_length_eq_zero (by omega); subst this; decide
    | succ n ih =>
      intro xs hx
      by_cases h0 : xs = []
      · subst h0; decide
      · have hp : 0 < xs.length := List.length_pos_iff.2 h0
        rcases cutI_bd xs with h | ⟨k, h, hk⟩
        · rw [split_none h h0]; simp; omega
        · rw [(split_at h).2]
          have := ih (xs.drop (k + 2)) (by rw [List.length_drop]; omega)
          rw [List.length_drop] at this
          simp only [List.length_cons]; omega
  exact h xs

set_option maxRecDepth 100000 in
set_option maxHeartbeats 1000000 in
theorem law_LinesBack {A n c xs} {w : World} (hM : MaxL w) (hs : Sl w .u8 A n c xs) : Calls Try.prog 5 #[.slice A n c] w (RetB (.bool true) w) := by
  by_cases hbig : 1000 < n
  · go_enter Try.func5, Try.ntmps5
    go_wp2_with (go_at_call 13; refine (alive26 hM).mono ?_; rintro e w1 ⟨rfl, hb⟩)
    go_ret
    exact ⟨rfl, hb⟩
  · have hn := hs.len
    have F1 := Lib.hid (joinL_split xs)
    have F2 := Lib.hid (split_whole xs)
    have F3 := Lib.hid (ends_whole xs)
    have F4 := Lib.hid (whole_len xs)
    have F5 := Lib.hid (whole_take xs)
    have F6 := Lib.hid (joinL_le xs)
    have F7 := Lib.hid (split_len xs)
    have HN := Lib.hid hn
    clear hn
    have e1 := likeL_self (wholeL xs)
    have e2 := likeL_self xs
    obtain ⟨ls, hls⟩ : ∃ ls, splitL xs = ls := ⟨_, rfl⟩
    have HLS := Lib.hid hls; clear hls
    go_enter Try.func5, Try.ntmps5
    go_wp2_with fail
    refine (p26_Whole hs (by omega)).mono ?_
    rintro e w1 ⟨v1, rfl, ho1, hb1⟩
    obtain ⟨A1, n1, c1, rfl, hs1⟩ := ho1.sl
    clear ho1
    have hn1 : n1 ≤ 1002 := by have h1 := hs1.len; have h2 := F4.out; have h3 := HN.out; split at h2 <;> omega
    have hnn1 : n ≤ n1 := by have h1 := hs1.len; have h2 := F4.out; have h3 := HN.out; split at h2 <;> omega
    go_wp2_with fail
    refine (p26_Split (hs.bel hb1) (by omega) (hM.bel hb1)).mono ?_
    rw [HLS.out]
    rintro e w2 ⟨v2, rfl, ho2, hb2⟩
    obtain ⟨A2, n2, c2, rfl, hL2⟩ := ho2.lns
    clear ho2
    have hn2 : n2 ≤ 1000 := by have h1 := hL2.len; have h2 := F7.out; rw [HLS.out] at h2; have h3 := HN.out; omega
    have hB2 := below_then hb1 hb2
    have hs12 := hs1.bel hb2
    go_wp2_with fail
    refine (p26_Ends (hs.bel hB2) (by omega)).mono ?_
    rintro e w3 ⟨rfl, hb3⟩
    have hB3 := below_then hB2 hb3
    have hs13 := hs12.bel hb3
    have hL3 := hL2.bel hb3
    have hjl : (joinL ls).length ≤ 1073741824 := by have h2 := F6.out; rw [HLS.out] at h2; have h3 := HN.out; omega
    obtain ⟨q, hq⟩ : ∃ q, endsV xs = q := ⟨_, rfl⟩
    rw [hq]
    have hlong : (n1 : Int) = if q = true then (n : Int) else (n : Int) + 2 := by have h1 := hs1.len; have h2 := F4.out; rw [h1, HN.out, hq] at h2; exact h2
    have HLONG := Lib.hid hlong
    clear hq hlong
    have hcut := hs13.take_ (m := n) hnn1
    have F5' : Hid ((wholeL xs).take n = xs) := by show _ = _; rw [← HN.out]; exact F5.out
    rw [F5'.out] at hcut
    have hcle := hs1.le
    have hccm := hs1.cm
    unfold maxLen at hccm
    cases q
    all_goals
      have hlo := HLONG.out
      simp only [Bool.false_eq_true, if_false, if_true] at hlo
      go_wp2_with fail
      refine (p26_Join hL3 (by omega) hjl).mono ?_
      rintro e w4 ⟨v4, rfl, ho4, hb4⟩
      have hB4 := below_then hB3 hb4
      have F1' : Hid (joinL ls = wholeL xs) := by show _ = _; rw [← HLS.out]; exact F1.out
      rw [F1'.out] at ho4
      obtain ⟨A4, n4, c4, rfl, hs4⟩ := ho4.sl
      clear ho4
      go_wp2_with fail
      refine (like_true hs4 (hs13.bel hb4)).mono ?_
      rintro e w5 ⟨rfl, q5, hq5⟩
      have hb5 : Below w4.heap.size w4 w5 := by rw [hq5]; exact below_drewN (Below.refl _ _) _
      clear hq5
      have hB5 := below_then hB4 hb5
      have hb35 := below_then hb4 hb5
      go_wp2_with fail
      refine (p26_Split (hs13.bel hb35) (by omega) (hM.bel hB5)).mono ?_
      rw [F2.out, HLS.out]
      rintro e w6 ⟨v6, rfl, ho6, hb6⟩
      obtain ⟨A6, n6, c6, rfl, hL6⟩ := ho6.lns
      clear ho6
      have hB6 := below_then hB5 hb6
      have hb36 := below_then hb35 hb6
      go_wp2_with fail
      refine (law_same hL6 (hL3.bel hb36)).mono ?_
      rintro e w7 ⟨rfl, hb7⟩
      have hB7 := below_then hB6 hb7
      have hb37 := below_then hb36 hb7
      go_wp2_with fail
      refine (p26_Ends (hs13.bel hb37) (by omega)).mono ?_
      rw [F3.out]
      rintro e w8 ⟨rfl, hb8⟩
      have hB8 := below_then hB7 hb8
      have hb38 := below_then hb37 hb8
      have hcut8 := hcut.bel hb38
      go_wp2_with fail
      refine (like_true hcut8 (hs.bel hB8)).mono ?_
      rintro e w9 ⟨rfl, q9, hq9⟩
      have hb9 : Below w8.heap.size w8 w9 := by rw [hq9]; exact below_drewN (Below.refl _ _) _
      clear hq9
      have hB9 := below_then hB8 hb9
      go_wp2_with (go_at_call 13; refine (alive26 (hM.bel hB9)).mono ?_; rintro e w10 ⟨rfl, hb10⟩)
      go_ret
      exact ⟨rfl, below_then hB9 hb10⟩
end Go.Proofs.Ytlmkhjegckgmcaa
