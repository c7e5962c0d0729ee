/- Layer 14's laws: each returns true for every input, and leaves what was there. No condition but that the arguments read as lists. -/
import Derived.Test.Ytonellflklaggaa14T
import Derived.Lib.SlBytesConst
namespace Go.Proofs.Ytonellflklaggaa
open Go.RowKit

theorem ev14a : errB [90, 103, 61, 61] = 0 ∧ octB [90, 103, 61, 61] = [102] := by decide
theorem ev14b : errB [90, 104, 61, 61] = 3 ∧ octB [90, 104, 61, 61] = [] := by decide
theorem ev14c : layL [102] = [90, 103, 61, 61] := by decide
theorem ev14d : lenL 4 = 8 := by decide
theorem st14a : strOfNums [90, 103, 61, 61] = { data := #[90, 103, 61, 61] } := by decide
theorem st14b : strOfNums [102] = { data := #[102] } := by decide

set_option maxRecDepth 100000 in
set_option maxHeartbeats 1000000 in
theorem alive14 {w : World} : Calls Try.prog 19 #[] w (RetB (.bool true) w) := by
  have kc := fun (w : World) (C : Array Value) (n c : Nat) => Lib.run_convert_bytes_const (P := Try.prog) w 28 5 C n c Try.underlying28 Try.underlying5
  have e4 := ev14d
  go_enter Try.func19, Try.ntmps19
  go_wp2_with fail
  refine (p14_Read (Sl.newF w .u8 5 [90, 103, 61, 61] _ (by decide) (by decide)) (by decide)).mono ?_
  rintro e w1 ⟨v1, rfl, ho1, hb1⟩
  rw [ev14a.2] at ho1
  rw [ev14a.1]
  have hB1 := below_then' ((Below.refl _ _).alloc (Nat.le_refl _) _) hb1 (Nat.le_refl w.heap.size)
  obtain ⟨A1, n1, c1, rfl, hs1⟩ := ho1.sl
  clear ho1
  go_wp2_with fail
  refine (p14_Read (Sl.newF w1 .u8 5 [90, 104, 61, 61] _ (by decide) (by decide)) (by decide)).mono ?_
  rintro e w2 ⟨v2, rfl, ho2, hb2⟩
  rw [ev14b.1]
  have hb12 := below_then' ((Below.refl _ _).alloc (Nat.le_refl _) _) hb2 (Nat.le_refl w1.heap.size)
  have hB2 := below_then hB1 hb12
  have hs1b := hs1.bel hb12
  obtain ⟨A2, n2, c2, rfl, hs2⟩ := ho2.sl
  clear ho2 hs2
  go_wp2_with fail
  refine (p14_Lay (Sl.newF w2 .u8 5 [102] _ (by decide) (by decide)) (by decide)).mono ?_
  rintro e w3 ⟨A3, n3, c3, rfl, hs3, hb3⟩
  rw [ev14c] at hs3
  have hb23 := below_then' ((Below.refl _ _).alloc (Nat.le_refl _) _) hb3 (Nat.le_refl w2.heap.size)
  have hB3 := below_then hB2 hb23
  have hs1c := hs1b.bel hb23
  have q1 := hs3.str (P := Try.prog) 28 5 9 Try.underlying28 Try.underlying5 Try.underlying9
  have q2 := hs1c.str (P := Try.prog) 28 5 9 Try.underlying28 Try.underlying5 Try.underlying9
  rw [st14a] at q1
  rw [st14b] at q2
  clear hs3 hs1c hs1b hs1
  go_wp2_with (go_at_call 17; refine (p14_Len (by decide)).mono ?_; rintro e w' ⟨rfl, rfl⟩)
  go_ret
  exact ⟨rfl, hB3⟩
set_option maxRecDepth 100000 in
set_option maxHeartbeats 1000000 in
theorem law_BcodeDigits {n c : Int} {w : World} (hn : (Lit.int .i64 n).wf = true) (hc : (Lit.int .u8 c).wf = true) : Calls Try.prog 3 #[.int .i64 n, .int .u8 c] w (RetB (.bool true) w) := by
  by_cases hbig : 1099511627776 < n
  · go_enter Try.func3, Try.ntmps3
    go_wp2_with (first | (go_at_call 13; refine (p14_Value hc).mono ?_; rintro e w' ⟨rfl, rfl⟩) | (go_at_call 14; refine r14_Value.mono ?_; rintro e w' ⟨rfl, rfl⟩) | (go_at_call 15; refine p14_Digit.mono ?_; rintro e w' ⟨rfl, rfl⟩) | (go_at_call 16; refine (r14_Digit hn).mono ?_; rintro e w' ⟨rfl, rfl⟩) | (go_at_call 19; refine alive14.mono ?_; rintro e w1 ⟨rfl, hb⟩))
    go_ret
    exact ⟨rfl, hb⟩
  · go_enter Try.func3, Try.ntmps3
    go_wp2_with (first | (go_at_call 13; refine (p14_Value hc).mono ?_; rintro e w' ⟨rfl, rfl⟩) | (go_at_call 14; refine r14_Value.mono ?_; rintro e w' ⟨rfl, rfl⟩) | (go_at_call 15; refine p14_Digit.mono ?_; rintro e w' ⟨rfl, rfl⟩) | (go_at_call 16; refine (r14_Digit hn).mono ?_; rintro e w' ⟨rfl, rfl⟩) | (go_at_call 17; refine (p14_Len (by omega)).mono ?_; rintro e w' ⟨rfl, rfl⟩) | (go_at_call 18; refine (r14_Len (by omega)).mono ?_; rintro e w' ⟨rfl, rfl⟩) | (go_at_call 19; refine alive14.mono ?_; rintro e w1 ⟨rfl, hb⟩))
    go_ret
    exact ⟨rfl, hb⟩

theorem lenL_lay (xs : List Int) : lenL (xs.length : Int) = ((layL xs).length : Int) := by
  rcases Nat.eq_zero_or_pos xs.length with h | h
  · have : xs = [] := List.eq_nil_of_length_eq_zero h
    subst this; rfl
  · rw [layL_length xs h]; unfold lenL; rw [if_neg (by omega)]; omega

set_option maxRecDepth 100000 in
set_option maxHeartbeats 1000000 in
theorem law_BcodeLays {A n c xs} {w : World} (hs : Sl w .u8 A n c xs) : Calls Try.prog 4 #[.slice A n c] w (RetB (.bool true) w) := by
  by_cases hbig : 1000 < n
  · go_enter Try.func4, Try.ntmps4
    go_wp2_with (go_at_call 19; refine alive14.mono ?_; rintro e w1 ⟨rfl, hb⟩)
    go_ret
    exact ⟨rfl, hb⟩
  · have e1 := likeL_self (layL xs)
    have e2 := likeL_self (bare3 xs)
    have HL := Lib.hid hs.len
    go_enter Try.func4, Try.ntmps4
    go_wp2_with fail
    refine (p14_Lay hs (by omega)).mono ?_
    rintro e w1 ⟨A1, n1, c1, rfl, hs1, hb1⟩
    have hlen : lenL (n : Int) = (n1 : Int) := by rw [← hs1.len, ← lenL_lay, HL.out]
    go_wp2_with (first | (go_at_call 22; refine (r14_Lay (hs.bel hb1) (by omega)).mono ?_; rintro e w2 ⟨v2, rfl, ho2, hb2⟩; obtain ⟨A2, n2, c2, rfl, hs2⟩ := ho2.sl) | (go_at_call 23; refine (p14_Bare (hs.bel hB3) (by omega)).mono ?_; rintro e w4 ⟨v4, rfl, ho4, hb4⟩; obtain ⟨A4, n4, c4, rfl, hs4⟩ := ho4.sl; have hB4 := below_then hB3 hb4) | (go_at_call 24; refine (r14_Bare (hs.bel hB4) (by omega)).mono ?_; rintro e w5 ⟨v5, rfl, ho5, hb5⟩; obtain ⟨A5, n5, c5, rfl, hs5⟩ := ho5.sl; have hB5 := below_then hB4 hb5) | (go_at_call 21; first | (refine (r01_Like (hs4.bel hb5) hs5).mono ?_; rintro e w6 ⟨rfl, hb6⟩; have hB6 := below_then hB5 hb6) | (refine (r01_Like (hs1.bel hb2) hs2).mono ?_; rintro e w3 ⟨rfl, hb3⟩; have hB3 := below_then (below_then hb1 hb2) hb3)) | (go_at_call 17; refine (p14_Len (by omega)).mono ?_; rintro e w' ⟨rfl, rfl⟩) | (go_at_call 19; refine alive14.mono ?_; rintro e w7 ⟨rfl, hb7⟩))
    go_ret
    exact ⟨rfl, below_then hB6 hb7⟩

set_option maxRecDepth 100000 in
set_option maxHeartbeats 1000000 in
theorem law_BcodeReads {A n c xs} {w : World} (hs : Sl w .u8 A n c xs) : Calls Try.prog 6 #[.slice A n c] w (RetB (.bool true) w) := by
  by_cases hbig : 1000 < n
  · go_enter Try.func6, Try.ntmps6
    go_wp2_with (go_at_call 19; refine alive14.mono ?_; rintro e w1 ⟨rfl, hb⟩)
    go_ret
    exact ⟨rfl, hb⟩
  · have e1 := likeL_self (octB xs)
    have e2 : (decide (errB xs = 0) == (errB xs == 0)) = true := by by_cases h : errB xs = 0 <;> simp [h]
    go_enter Try.func6, Try.ntmps6
    go_wp2_with (first | (go_at_call 25; refine (p14_Read hs (by omega)).mono ?_; rintro e w1 ⟨v1, rfl, ho1, hb1⟩; obtain ⟨A1, n1, c1, rfl, hs1⟩ := ho1.sl) | (go_at_call 26; refine (r14_Read (hs.bel hb1) (by omega)).mono ?_; rintro e w2 ⟨v2, rfl, ho2, hb2⟩; obtain ⟨A2, n2, c2, rfl, hs2⟩ := ho2.sl; have hB2 := below_then hb1 hb2) | (go_at_call 21; refine (r01_Like (hs1.bel hb2) hs2).mono ?_; rintro e w3 ⟨rfl, hb3⟩; have hB3 := below_then hB2 hb3) | (go_at_call 27; refine (p14_Right (hs.bel hB3) (by omega)).mono ?_; rintro e w4 ⟨rfl, hb4⟩; have hB4 := below_then hB3 hb4) | (go_at_call 19; refine alive14.mono ?_; rintro e w7 ⟨rfl, hb7⟩))
    go_ret
    exact ⟨rfl, below_then hB4 hb7⟩

set_option maxRecDepth 100000 in
set_option maxHeartbeats 1000000 in
theorem law_BcodeBack {A n c xs} {w : World} (hs : Sl w .u8 A n c xs) : Calls Try.prog 5 #[.slice A n c] w (RetB (.bool true) w) := by
  by_cases hbig : 1000 < n
  · go_enter Try.func5, Try.ntmps5
    go_wp2_with (go_at_call 19; refine alive14.mono ?_; rintro e w1 ⟨rfl, hb⟩)
    go_ret
    exact ⟨rfl, hb⟩
  · obtain ⟨r1, r2⟩ := read_lay (xs := xs) fun x hx => wf_u8.1 (hs.wf x hx)
    have HR1 := Lib.hid r1; have HR2 := Lib.hid r2
    clear r1 r2
    have e1 := likeL_self xs
    have HL := Lib.hid hs.len
    go_enter Try.func5, Try.ntmps5
    go_wp2_with fail
    refine (p14_Lay hs (by omega)).mono ?_
    rintro e w1 ⟨A1, n1, c1, rfl, hs1, hb1⟩
    have hn1 : n1 ≤ 3000 := by have h5 := hs1.len; have h6 := lenL_lay xs; have h7 := HL.out; unfold lenL at h6; split at h6 <;> omega
    go_wp2_with fail
    refine (p14_Read hs1 (by omega)).mono ?_
    rintro e w2 ⟨v2, rfl, ho2, hb2⟩
    rw [HR2.out] at ho2
    rw [HR1.out]
    obtain ⟨A2, n2, c2, rfl, hs2⟩ := ho2.sl
    clear ho2
    have hB2 := below_then hb1 hb2
    go_wp2_with fail
    refine (r01_Like hs2 (hs.bel hB2)).mono ?_
    rintro e w3 ⟨rfl, hb3⟩
    have hB3 := below_then hB2 hb3
    go_wp2_with fail
    refine (p14_Read (hs.bel hB3) (by omega)).mono ?_
    rintro e w4 ⟨v4, rfl, ho4, hb4⟩
    have hB4 := below_then hB3 hb4
    by_cases he : errB xs = 0
    · have HLR := Lib.hid (lay_read he)
      obtain ⟨A4, n4, c4, rfl, hs4⟩ := ho4.sl
      clear ho4
      rw [he]
      have hn4 : n4 ≤ 3000 := by
        have h5 := hs4.len
        have h6 := bare_lay (octB xs)
        have h8 := bare3_length (octB xs)
        rw [HLR.out, HL.out] at h6
        rw [h8] at h6
        split at h6 <;> omega
      go_wp2_with fail
      refine (p14_Lay hs4 hn4).mono ?_
      rintro e w5 ⟨A5, n5, c5, rfl, hs5, hb5⟩
      rw [HLR.out] at hs5
      have hB5 := below_then hB4 hb5
      go_wp2_with (first | (go_at_call 21; refine (r01_Like hs5 (hs.bel hB5)).mono ?_; rintro e w6 ⟨rfl, hb6⟩) | (go_at_call 19; refine alive14.mono ?_; rintro e w7 ⟨rfl, hb7⟩))
      go_ret
      exact ⟨rfl, below_then (below_then hB5 hb6) hb7⟩
    · have he' : (errB xs != 0) = true := by simpa using he
      have ho5 : octB xs = [] := by unfold octB; rw [if_neg he]
      rw [ho5] at ho4
      obtain ⟨A4, n4, c4, rfl, hs4⟩ := ho4.sl
      clear ho4
      have hn4 : n4 = 0 := hs4.len.symm
      subst hn4
      clear he
      go_wp2_with (go_at_call 19; refine alive14.mono ?_; rintro e w7 ⟨rfl, hb7⟩)
      go_ret
      exact ⟨rfl, below_then hB4 hb7⟩
end Go.Proofs.Ytonellflklaggaa
