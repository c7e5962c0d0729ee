/- Layer 9's laws: each returns true for every input, and leaves what was there. No condition but that the arguments read as lists. -/
import Derived.Test.Ytilplkbepcbbmaa09P
namespace Go.Proofs.Ytilplkbepcbbmaa
open Go.RowKit

theorem oct9_a : oct9 8364 = 164 := by decide
theorem has9_a : has9 8364 = true := by decide
theorem has9_b : has9 164 = false := by decide
theorem err9_a : err9 [164] = 9 := by decide
theorem sign9_a : sign9 190 = 376 := by decide

set_option maxRecDepth 100000 in
set_option maxHeartbeats 1000000 in
theorem alive09 {w : World} : Calls Try.prog 15 #[] w (RetB (.bool true) w) := by
  have e1 := oct9_a
  have e2 := has9_a
  have e3 := has9_b
  have e4 := err9_a
  have e5 := sign9_a
  go_enter Try.func15, Try.ntmps15
  go_wp2_with fail
  refine (p09_Put (by decide)).mono ?_
  rintro e w1 ⟨rfl, hb1⟩
  have hb2 := hb1.alloc hb1.size (.cells #[.int .i32 164] 21)
  go_wp2_with fail
  refine (p09_Lay (Sl.one _ _ _ _ (by decide)) (by decide)).mono ?_
  rintro e w2 ⟨v2, rfl, ho2, hb3⟩
  have hb4 := below_then hb2 hb3
  go_wp2_with fail
  refine (p09_Has (by decide)).mono ?_
  rintro e w3 ⟨rfl, hb5⟩
  have hb6 := below_then hb4 hb5
  go_wp2_with fail
  refine (p09_Sign (by decide)).mono ?_
  rintro e w4 ⟨rfl, hb7⟩
  go_wp2
  go_ret
  exact ⟨rfl, below_then hb6 hb7⟩

set_option maxRecDepth 100000 in
set_option maxHeartbeats 1000000 in
theorem law_LatnineOne {c x : Int} {w : World} (hc : (Lit.int .i32 c).wf = true) (hx : (Lit.int .u8 x).wf = true) : Calls Try.prog 3 #[.int .i32 c, .int .u8 x] w (RetB (.bool true) w) := by
  go_enter Try.func3, Try.ntmps3
  go_wp2_with (first | (go_at_call 10; refine (p09_Put hc).mono ?_; rintro e w1 ⟨rfl, hb1⟩) | (go_at_call 11; refine r09_Put.mono ?_; rintro e w' ⟨rfl, rfl⟩) | (go_at_call 12; refine (p09_Has hc).mono ?_; rintro e w2 ⟨rfl, hb2⟩) | (go_at_call 13; refine (p09_Sign hx).mono ?_; rintro e w3 ⟨rfl, hb3⟩) | (go_at_call 14; refine (r09_Sign hx).mono ?_; rintro e w' ⟨rfl, rfl⟩) | (go_at_call 15; refine alive09.mono ?_; rintro e w4 ⟨rfl, hb4⟩))
  go_ret
  exact ⟨rfl, below_then (below_then (below_then hb1 hb2) hb3) hb4⟩

set_option maxRecDepth 100000 in
set_option maxHeartbeats 1000000 in
theorem law_LatnineTexts {A n c xs A' n' c' ys} {w : World} (hs : Sl w .i32 A n c xs) (ht : Sl w .u8 A' n' c' ys) :
    Calls Try.prog 5 #[.slice A n c, .slice A' n' c'] w (RetB (.bool true) w) := by
  by_cases h1 : 300 < n
  · go_enter Try.func5, Try.ntmps5
    go_wp2_with (go_at_call 15; refine alive09.mono ?_; rintro e w1 ⟨rfl, hb⟩)
    go_ret
    exact ⟨rfl, hb⟩
  · by_cases h2 : 1000 < n'
    · go_enter Try.func5, Try.ntmps5
      go_wp2_with (go_at_call 15; refine alive09.mono ?_; rintro e w1 ⟨rfl, hb⟩)
      go_ret
      exact ⟨rfl, hb⟩
    · have e1 := likeL_self (lay9 xs)
      have e2 := likeL_self (ys.map sign9)
      go_enter Try.func5, Try.ntmps5
      go_wp2_with (first | (go_at_call 23; refine (p09_Lay hs (by omega)).mono ?_; rintro e w1 ⟨v1, rfl, ho1, hb1⟩; obtain ⟨A1, n1, c1, rfl, hs1⟩ := ho1.sl) | (go_at_call 24; refine (r09_Lay (hs.bel hb1) (by omega)).mono ?_; rintro e w2 ⟨v2, rfl, ho2, hb2⟩; obtain ⟨A2, n2, c2, rfl, hs2⟩ := ho2.sl) | (go_at_call 25; refine (r01_Like (hs1.bel hb2) hs2).mono ?_; rintro e w3 ⟨rfl, hb3⟩; have hB3 := below_then (below_then hb1 hb2) hb3) | (go_at_call 26; refine (p09_Lacks (hs.bel hB3)).mono ?_; rintro e w4 ⟨rfl, hb4⟩; have hB4 := below_then hB3 hb4) | (go_at_call 27; refine (r09_Lacks (hs.bel hB4)).mono ?_; rintro e w' ⟨rfl, rfl⟩) | (go_at_call 29; refine (p09_Read (ht.bel hB4) (by omega)).mono ?_; rintro e w5 ⟨v5, rfl, ho5, hb5⟩; obtain ⟨A5, n5, c5, rfl, hs5⟩ := ho5.sl; have hB5 := below_then hB4 hb5) | (go_at_call 30; refine (r09_Read (ht.bel hB5) (by omega)).mono ?_; rintro e w6 ⟨v6, rfl, ho6, hb6⟩; obtain ⟨A6, n6, c6, rfl, hs6⟩ := ho6.sl; have hB6 := below_then hB5 hb6) | (go_at_call 28; refine (r03_Like (hs5.bel hb6) hs6).mono ?_; rintro e w7 ⟨rfl, hb7⟩; have hB7 := below_then hB6 hb7) | (go_at_call 15; refine alive09.mono ?_; rintro e w8 ⟨rfl, hb8⟩))
      go_ret
      exact ⟨rfl, below_then hB7 hb8⟩

theorem back9 {xs : List Int} (h : xs.all has9 = true) : (xs.map oct9).map sign9 = xs := by
  rw [List.map_map]
  rw [List.all_eq_true] at h
  induction xs with
  | nil => rfl
  | cons x r ih => rw [List.map_cons, ih fun y hy => h y (by simp [hy])]; simp [(oct9_sign (h x (by simp))).1]
theorem sign9_ne {y : Int} (h : (Lit.int .u8 y).wf = true) : sign9 y ≠ 65533 := by
  obtain ⟨h1, h2⟩ := wf_u8.1 h
  unfold sign9
  repeat' split
  all_goals omega
theorem sign9_back {ys : List Int} (h : ∀ y ∈ ys, (Lit.int .u8 y).wf = true) : (ys.map sign9).all has9 = true ∧ (ys.map sign9).map oct9 = ys := by
  induction ys with
  | nil => exact ⟨rfl, rfl⟩
  | cons y r ih =>
    obtain ⟨h1, h2⟩ := ih fun z hz => h z (by simp [hz])
    have hy := h y (by simp)
    have h3 := sign9_oct (n := y) (by have := wf_u8.1 hy; omega) rfl (sign9_ne hy)
    exact ⟨by simp only [List.map_cons, List.all_cons, h1, h3.1, Bool.and_self], by simp only [List.map_cons, h2, h3.2]⟩

set_option maxRecDepth 100000 in
set_option maxHeartbeats 1000000 in
theorem law_LatnineBack {A n c xs A' n' c' ys} {w : World} (hs : Sl w .i32 A n c xs) (ht : Sl w .u8 A' n' c' ys) :
    Calls Try.prog 6 #[.slice A n c, .slice A' n' c'] w (RetB (.bool true) w) := by
  by_cases h1 : 300 < n
  · go_enter Try.func6, Try.ntmps6
    go_wp2_with (go_at_call 15; refine alive09.mono ?_; rintro e w1 ⟨rfl, hb⟩)
    go_ret
    exact ⟨rfl, hb⟩
  by_cases h2 : 1000 < n'
  · go_enter Try.func6, Try.ntmps6
    go_wp2_with (go_at_call 15; refine alive09.mono ?_; rintro e w1 ⟨rfl, hb⟩)
    go_ret
    exact ⟨rfl, hb⟩
  have hl9 := lacks9_neg xs
  obtain ⟨ha9, hb9⟩ := sign9_back ht.wf
  have HA9 := Lib.hid ha9; clear ha9
  have HB9 := Lib.hid hb9; clear hb9
  have hwy := Lib.hid ht.wf
  have HLt := Lib.hid ht.len
  have HLs := Lib.hid hs.len
  by_cases hall : xs.all has9 = true
  · have h0 : lacks9 xs < 0 := hl9.2 hall
    clear hl9
    have HAx := Lib.hid hall; clear hall
    go_enter Try.func6, Try.ntmps6
    go_wp2_with fail
    refine (p09_Lay hs (by omega)).mono ?_
    rintro e w1 ⟨v1, rfl, ho1, hb1⟩
    rw [(lay9_yes HAx.out).1] at ho1
    rw [(lay9_yes HAx.out).2]
    obtain ⟨A1, n1, c1, rfl, hs1⟩ := ho1.sl
    obtain rfl : n1 = n := by have := hs1.len; have := HLs.out; simp at *; omega
    clear ho1
    go_wp2_with fail
    refine (p09_Read hs1 (by omega)).mono ?_
    rintro e w2 ⟨v2, rfl, ho2, hb2⟩
    rw [back9 HAx.out] at ho2
    obtain ⟨A2, n2, c2, rfl, hs2⟩ := ho2.sl
    clear ho2
    have hB2 := below_then hb1 hb2
    have e1 := likeL_self xs
    go_wp2_with fail
    refine (r03_Like hs2 (hs.bel hB2)).mono ?_
    rintro e w3 ⟨rfl, hb3⟩
    have hB3 := below_then hB2 hb3
    go_wp2_with fail
    refine (p09_Lacks (hs.bel hB3)).mono ?_
    rintro e w4 ⟨rfl, hb4⟩
    have hB := below_then hB3 hb4
    go_wp2_with fail
    refine (p09_Read (ht.bel hB) (by omega)).mono ?_
    rintro e w5 ⟨v5, rfl, ho5, hb5⟩
    obtain ⟨A5, n5, c5, rfl, hs5⟩ := ho5.sl
    obtain rfl : n5 = n' := by have := hs5.len; have := HLt.out; simp at *; omega
    have hB5 := below_then hB hb5
    clear ho5
    go_wp2_with fail
    go_loop [60] (fun i => ∃ k : Nat, k ≤ n5 ∧ i = .int .i64 k) (fun i => n5 - (intOf i).toNat)
    case atStart => exact ⟨0, Nat.zero_le _, rfl⟩
    case round =>
      obtain ⟨k, hk, rfl⟩ := hrel
      by_cases hlt : k < n5
      · obtain ⟨b, o, y, rfl, hbo, hcell, _, hd, _⟩ := hs5.get hlt
        have hm : y ∈ ys.map sign9 := List.mem_of_mem_drop (i := k) (by rw [hd]; simp)
        clear hd
        have hne : (y == 65533) = false := by
          obtain ⟨z, hz, rfl⟩ := List.mem_map.1 hm
          simpa using sign9_ne (hwy.out z hz)
        clear hm
        go_wp2
        (go_round; (case rel => exact ⟨k + 1, by omega, by go_num⟩); (case measure => simp [intOf]; omega))
      · go_wp2_with fail
        refine (p09_Lay hs5 (by omega)).mono ?_
        rintro e w6 ⟨v6, rfl, ho6, hb6⟩
        rw [(lay9_yes HA9.out).1, (lay9_yes HA9.out).2, HB9.out] at *
        obtain ⟨A6, n6, c6, rfl, hs6⟩ := ho6.sl
        have hB6 := below_then hB5 hb6
        have e3 := likeL_self ys
        go_wp2_with (first | (go_at_call 25; refine (r01_Like hs6 (ht.bel hB6)).mono ?_; rintro e w7 ⟨rfl, hb7⟩) | (go_at_call 15; refine alive09.mono ?_; rintro e w8 ⟨rfl, hb8⟩))
        go_ret
        exact ⟨rfl, below_then (below_then hB6 hb7) hb8⟩
  · have h0 : 0 ≤ lacks9 xs := by have := mt hl9.1 hall; omega
    clear hl9
    have HAx : Hid (xs.all has9 = false) := Lib.hid (by simpa using hall); clear hall
    go_enter Try.func6, Try.ntmps6
    go_wp2_with fail
    refine (p09_Lay hs (by omega)).mono ?_
    rintro e w1 ⟨v1, rfl, ho1, hb1⟩
    rw [(lay9_no HAx.out).1] at ho1
    rw [(lay9_no HAx.out).2]
    obtain ⟨A1, n1, c1, rfl, hs1⟩ := ho1.sl
    clear ho1
    go_wp2_with fail
    refine (p09_Lacks (hs.bel hb1)).mono ?_
    rintro e w4 ⟨rfl, hb4⟩
    have hB := below_then hb1 hb4
    go_wp2_with fail
    refine (p09_Read (ht.bel hB) (by omega)).mono ?_
    rintro e w5 ⟨v5, rfl, ho5, hb5⟩
    obtain ⟨A5, n5, c5, rfl, hs5⟩ := ho5.sl
    obtain rfl : n5 = n' := by have := hs5.len; have := HLt.out; simp at *; omega
    have hB5 := below_then hB hb5
    clear ho5
    go_wp2_with fail
    go_loop [60] (fun i => ∃ k : Nat, k ≤ n5 ∧ i = .int .i64 k) (fun i => n5 - (intOf i).toNat)
    case atStart => exact ⟨0, Nat.zero_le _, rfl⟩
    case round =>
      obtain ⟨k, hk, rfl⟩ := hrel
      by_cases hlt : k < n5
      · obtain ⟨b, o, y, rfl, hbo, hcell, _, hd, _⟩ := hs5.get hlt
        have hm : y ∈ ys.map sign9 := List.mem_of_mem_drop (i := k) (by rw [hd]; simp)
        clear hd
        have hne : (y == 65533) = false := by
          obtain ⟨z, hz, rfl⟩ := List.mem_map.1 hm
          simpa using sign9_ne (hwy.out z hz)
        clear hm
        go_wp2
        (go_round; (case rel => exact ⟨k + 1, by omega, by go_num⟩); (case measure => simp [intOf]; omega))
      · go_wp2_with fail
        refine (p09_Lay hs5 (by omega)).mono ?_
        rintro e w6 ⟨v6, rfl, ho6, hb6⟩
        rw [(lay9_yes HA9.out).1, (lay9_yes HA9.out).2, HB9.out] at *
        obtain ⟨A6, n6, c6, rfl, hs6⟩ := ho6.sl
        have hB6 := below_then hB5 hb6
        have e3 := likeL_self ys
        go_wp2_with (first | (go_at_call 25; refine (r01_Like hs6 (ht.bel hB6)).mono ?_; rintro e w7 ⟨rfl, hb7⟩) | (go_at_call 15; refine alive09.mono ?_; rintro e w8 ⟨rfl, hb8⟩))
        go_ret
        exact ⟨rfl, below_then (below_then hB6 hb7) hb8⟩
end Go.Proofs.Ytilplkbepcbbmaa
