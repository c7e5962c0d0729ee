/- Layer 21's law of what is read: it returns true for every input. No condition but that the arguments read as lists. -/
import Derived.Test.Ytcjfjhciobkbcaa21L
namespace Go.Proofs.Ytcjfjhciobkbcaa
open Go.RowKit

theorem ev_len (s : Nat) (l : List Int) : (ev s l).length ≤ l.length := by
  induction l generalizing s with
  | nil => simp [ev]
  | cons x r ih =>
    cases s with
    | succ s => simp only [ev, List.length_cons]; have := ih s; omega
    | zero =>
      unfold ev
      split <;> simp only [List.length_cons]
      · have := ih 2; omega
      · have := ih 0; omega

set_option maxRecDepth 100000 in
set_option maxHeartbeats 1000000 in
theorem law_PctReads {A n c xs} {w : World} (hs : Sl w .u8 A n c xs) : Calls Try.prog 8 #[.slice A n c] w (RetB (.bool true) w) := by
  by_cases hbig : 1000 < n
  · go_enter Try.func8, Try.ntmps8
    go_wp2_with (go_at_call 27; refine alive21.mono ?_; rintro e w1 ⟨rfl, hb⟩)
    go_ret
    exact ⟨rfl, hb⟩
  · have e1 := likeL_self (fsV (ev 0 xs))
    have hl0 : (fsV (ev 0 xs)).length ≤ n := by rw [fsV_len, ← hs.len]; exact ev_len 0 xs
    go_enter Try.func8, Try.ntmps8
    go_wp2_with fail
    refine (r21_Read hs (by omega)).mono ?_
    rintro e w1 ⟨v1, rfl, ho1, hb1⟩
    obtain ⟨A1, n1, c1, rfl, hs1⟩ := ho1.sl
    have hn1 : n1 ≤ n := by rw [← hs1.len]; exact hl0
    clear ho1 hl0
    go_wp2_with fail
    refine (p21_Read (hs.bel hb1) (by omega)).mono ?_
    rintro e w2 ⟨v2, rfl, ho2, hb2⟩
    obtain ⟨A2, n2, c2, rfl, hs2⟩ := ho2.sl
    clear ho2
    have hB2 := below_then hb1 hb2
    go_wp2_with fail
    refine (r01_Like hs2 (hs1.bel hb2)).mono ?_
    rintro e w3 ⟨rfl, hb3⟩
    have hB3 := below_then hB2 hb3
    go_wp2_with fail
    refine (p21_Strange (hs.bel hB3) (by omega)).mono ?_
    rintro e w4 ⟨rfl, hb4⟩
    have hB4 := below_then hB3 hb4
    go_wp2_with fail
    refine (p21_Check (hs.bel hB4) (by omega)).mono ?_
    rintro e w5 ⟨rfl, hb5⟩
    have hB5 := below_then hB4 hb5
    go_wp2_with fail
    refine (r21_Check (hs.bel hB5) (by omega)).mono ?_
    rintro e w6 ⟨rfl, hb6⟩
    have hB6 := below_then hB5 hb6
    go_wp2_with (go_at_call 27; refine alive21.mono ?_; rintro e w7 ⟨rfl, hb7⟩)
    go_ret
    exact ⟨rfl, below_then hB6 hb7⟩
end Go.Proofs.Ytcjfjhciobkbcaa
