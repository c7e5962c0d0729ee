/- Layer 20's laws: each returns true for every input, and leaves what was there. No condition but that the arguments read as lists. -/
import Derived.Test.Ytcjfjhciobkbcaa20B
import Derived.Test.YtcjfjhciobkbcaaLibC
import Derived.Lib.SlBytesConst
namespace Go.Proofs.Ytcjfjhciobkbcaa
open Go.RowKit

theorem ev20a : lay20 [97, 32, 98, 61] = [97, 95, 98, 61, 51, 68] := by decide +kernel
theorem ev20b : rd20 [97, 95, 98, 61, 51, 68] = [97, 32, 98, 61] := by decide +kernel
theorem ev20c : chk20 [97, 95, 98, 61, 51, 68] = 0 := by decide +kernel
theorem ev20d : chk20 [63] = 3 := by decide +kernel
theorem ev20e : sn20 [61, 120] = 1 := by decide +kernel
theorem st20a : strOfNums [97, 95, 98, 61, 51, 68] = { data := #[97, 95, 98, 61, 51, 68] } := by decide
theorem st20b : strOfNums [97, 32, 98, 61] = { data := #[97, 32, 98, 61] } := by decide

set_option maxRecDepth 100000 in
set_option maxHeartbeats 1000000 in
theorem alive20 {w : World} : Calls Try.prog 15 #[] w (RetB (.bool true) w) := by
  have kc := fun (w : World) (C : Array Value) (n c : Nat) => Lib.run_convert_bytes_const (P := Try.prog) w 22 5 C n c Try.underlying22 Try.underlying5
  go_enter Try.func15, Try.ntmps15
  go_wp2_with fail
  refine (p20_Lay (Sl.newF w .u8 5 [97, 32, 98, 61] _ (by decide) (by decide)) (by decide)).mono ?_
  rintro e w1 h1
  rw [ev20a] at h1
  obtain ⟨v1, rfl, ho1, hb1⟩ := h1
  have hB1 := below_then' ((Below.refl _ _).alloc (Nat.le_refl _) _) hb1 (Nat.le_refl w.heap.size)
  obtain ⟨A1, n1, c1, rfl, hs1⟩ := ho1.sl
  have hn1 : n1 = 6 := hs1.len.symm
  subst hn1
  clear ho1
  have q1 := hs1.str (P := Try.prog) 22 5 9 Try.underlying22 Try.underlying5 Try.underlying9
  rw [st20a] at q1
  go_wp2_with fail
  refine (p20_Read hs1 (by decide)).mono ?_
  rintro e w2 h2
  rw [ev20b] at h2
  obtain ⟨v2, rfl, ho2, hb2⟩ := h2
  have hB2 := below_then hB1 hb2
  have hs1b := hs1.bel hb2
  obtain ⟨A2, n2, c2, rfl, hs2⟩ := ho2.sl
  clear ho2 hs1 q1
  have q2 := hs2.str (P := Try.prog) 22 5 9 Try.underlying22 Try.underlying5 Try.underlying9
  rw [st20b] at q2
  go_wp2_with fail
  refine (p20_Check hs1b (by decide)).mono ?_
  rintro e w3 ⟨rfl, hb3⟩
  rw [ev20c]
  have hB3 := below_then hB2 hb3
  clear hs1b hs2 q2
  go_wp2_with fail
  refine (p20_Check (Sl.newF w3 .u8 5 [63] _ (by decide) (by decide)) (by decide)).mono ?_
  rintro e w4 ⟨rfl, hb4⟩
  rw [ev20d]
  have hb34 := below_then' ((Below.refl _ _).alloc (Nat.le_refl _) _) hb4 (Nat.le_refl w3.heap.size)
  have hB4 := below_then hB3 hb34
  go_wp2_with fail
  refine (p20_Strange (Sl.newF w4 .u8 5 [61, 120] _ (by decide) (by decide)) (by decide)).mono ?_
  rintro e w5 ⟨rfl, hb5⟩
  rw [ev20e]
  have hb45 := below_then' ((Below.refl _ _).alloc (Nat.le_refl _) _) hb5 (Nat.le_refl w4.heap.size)
  have hB5 := below_then hB4 hb45
  go_wp2
  go_ret
  exact ⟨rfl, hB5⟩

set_option maxRecDepth 100000 in
set_option maxHeartbeats 1000000 in
theorem law_QwordLays {A n c xs} {x : Int} {w : World} (hs : Sl w .u8 A n c xs) (hx : (Lit.int .u8 x).wf = true) : Calls Try.prog 3 #[.slice A n c, .int .u8 x] w (RetB (.bool true) w) := by
  by_cases hbig : 1000 < n
  · go_enter Try.func3, Try.ntmps3
    go_wp2_with (go_at_call 15; refine alive20.mono ?_; rintro e w1 ⟨rfl, hb⟩)
    go_ret
    exact ⟨rfl, hb⟩
  · have e1 := likeL_self (lay20 xs)
    go_enter Try.func3, Try.ntmps3
    go_wp2_with fail
    refine (p20_Lay hs (by omega)).mono ?_
    rintro e w1 ⟨v1, rfl, ho1, hb1⟩
    obtain ⟨A1, n1, c1, rfl, hs1⟩ := ho1.sl
    clear ho1
    have hl1 : ((lay20 xs).length : Int) = n1 := by rw [hs1.len]
    go_wp2_with fail
    refine (r20_Lay (hs.bel hb1) (by omega)).mono ?_
    rintro e w2 ⟨v2, rfl, ho2, hb2⟩
    obtain ⟨A2, n2, c2, rfl, hs2⟩ := ho2.sl
    clear ho2
    have hB2 := below_then hb1 hb2
    go_wp2_with fail
    refine (r01_Like (hs1.bel hb2) hs2).mono ?_
    rintro e w3 ⟨rfl, hb3⟩
    have hB3 := below_then hB2 hb3
    go_wp2_with fail
    refine (p20_Len (hs.bel hB3) (by omega)).mono ?_
    rw [hl1]
    rintro e w' ⟨rfl, rfl⟩
    clear hl1
    go_wp2_with fail
    refine (p20_One hx).mono ?_
    rintro e w' ⟨rfl, rfl⟩
    go_wp2_with fail
    refine (r20_One hx).mono ?_
    rintro e w4 ⟨rfl, hb4⟩
    have hB4 := below_then hB3 hb4
    go_wp2_with (go_at_call 15; refine alive20.mono ?_; rintro e w8 ⟨rfl, hb8⟩)
    go_ret
    exact ⟨rfl, below_then hB4 hb8⟩

set_option maxRecDepth 100000 in
set_option maxHeartbeats 1000000 in
theorem r20_Check {A n c xs} {w : World} (hs : Sl w .u8 A n c xs) (hn : n ≤ 4194304) : Calls Try.prog 26 #[.slice A n c] w (RetB (.int .i64 (chk20 xs)) w) := by
  have HL := Lib.hid hs.len
  have hsn := sn20_le xs
  go_enter Try.func26, Try.ntmps26
  go_wp2
  go_loopw [3] (fun i wr => ∃ k : Nat, k ≤ n ∧ i = .int .i64 k ∧ Hid (bad20 xs = bad20 (xs.drop k)) ∧ Below w.heap.size w wr) (fun i _ => n - (intOf i).toNat)
  case atStart => exact ⟨0, by omega, rfl, rfl, Below.refl _ _⟩
  case round =>
    obtain ⟨k, hk, rfl, hI, hbel⟩ := hrel
    have hs' := hs.bel hbel
    by_cases hlt : k < n
    · obtain ⟨bb, o, x, rfl, hbb, hcell, hwf, hd, _⟩ := hs'.get hlt
      have hI2 := hI.out
      rw [hd] at hI2
      have e : bad20 (x :: xs.drop (k + 1)) = ((!isL x 4 || decide (x = 63)) || bad20 (xs.drop (k + 1))) := by simp [bad20]
      rw [e] at hI2
      clear e hd hI
      cases hq : isL x 4 with
      | false =>
        have hb : chk20 xs = 3 := by unfold chk20; rw [hI2, hq]; rfl
        have HB := Lib.hid hb; have HQ := Lib.hid hq; clear hb hI2 hq
        go_wp2_with (go_at_call 56; refine (r01_Is hwf).mono ?_; rw [HQ.out]; rintro e w' ⟨rfl, rfl⟩)
        go_ret
        exact ⟨ret_int HB.out.symm, hbel⟩
      | true =>
        have HQ := Lib.hid hq
        rw [hq] at hI2
        clear hq
        by_cases h63 : x = 63
        · subst h63
          have hb : chk20 xs = 3 := by unfold chk20; rw [hI2]; rfl
          have HB := Lib.hid hb; clear hb hI2
          go_wp2_with (go_at_call 56; refine (r01_Is hwf).mono ?_; rw [HQ.out]; rintro e w' ⟨rfl, rfl⟩)
          go_ret
          exact ⟨ret_int HB.out.symm, hbel⟩
        · have f63 : (x == 63) = false := by simpa using h63
          have hb : bad20 xs = bad20 (xs.drop (k + 1)) := by rw [hI2]; simp [h63]
          have HB := Lib.hid hb; clear hb hI2 h63
          go_wp2_with (go_at_call 56; refine (r01_Is hwf).mono ?_; rw [HQ.out]; rintro e w' ⟨rfl, rfl⟩)
          (first | (go_roundw; (case rel => exact ⟨k + 1, by omega, by go_num, HB, hbel⟩); (case measure => first | (simp [intOf] <;> omega) | (simp [lenOf] <;> omega))) | (refine ⟨?_, ?measure⟩; (repeat apply Exists.intro); refine ⟨?rel, ?eqs⟩; (case eqs => first | rfl | ((repeat (refine ⟨rfl, ?_⟩)); rfl)); (case rel => exact ⟨k + 1, by omega, by go_num, HB, hbel⟩); (case measure => first | (simp [intOf] <;> omega) | (simp [lenOf] <;> omega))) | ((repeat apply Exists.intro); refine ⟨?rel, ?eqs⟩; (case eqs => first | rfl | ((repeat (refine ⟨rfl, ?_⟩)); rfl)); (case rel => exact ⟨k + 1, by omega, by go_num, HB, hbel⟩)))
    · have hI2 := hI.out
      rw [List.drop_eq_nil_of_le (by have := HL.out; omega)] at hI2
      have HB : Hid (bad20 xs = false) := hI2
      clear hI2 hI
      obtain ⟨t, ht⟩ : ∃ t, sn20 xs = t := ⟨_, rfl⟩
      have hr := r20_Read hs' hn
      rw [ht] at hr hsn
      obtain ⟨hs0, hs1⟩ := hsn
      have HT := Lib.hid ht; clear ht
      by_cases h0 : 0 < t
      · have hb : chk20 xs = 3 := by unfold chk20; rw [HB.out, HT.out, if_pos h0]; rfl
        have HC := Lib.hid hb; clear hb
        go_wp2_with ((go_at_call 22; refine hr.mono ?_; rintro e w1 ⟨v1, rfl, ho1, hb1⟩))
        go_ret
        exact ⟨ret_int HC.out.symm, below_then' hbel hb1 (Nat.le_refl _)⟩
      · have hb : chk20 xs = 0 := by unfold chk20; rw [HB.out, HT.out, if_neg h0]; rfl
        have HC := Lib.hid hb; clear hb
        go_wp2_with ((go_at_call 22; refine hr.mono ?_; rintro e w1 ⟨v1, rfl, ho1, hb1⟩))
        go_ret
        exact ⟨ret_int HC.out.symm, below_then' hbel hb1 (Nat.le_refl _)⟩

set_option maxRecDepth 100000 in
set_option maxHeartbeats 1000000 in
theorem law_QwordReads {A n c xs} {w : World} (hs : Sl w .u8 A n c xs) : Calls Try.prog 4 #[.slice A n c] w (RetB (.bool true) w) := by
  by_cases hbig : 1000 < n
  · go_enter Try.func4, Try.ntmps4
    go_wp2_with (go_at_call 15; refine alive20.mono ?_; rintro e w1 ⟨rfl, hb⟩)
    go_ret
    exact ⟨rfl, hb⟩
  · have e1 := likeL_self (rd20 xs)
    have hl0 : (rd20 xs).length ≤ n := by rw [← hs.len]; exact rd20_len xs
    go_enter Try.func4, Try.ntmps4
    go_wp2_with fail
    refine (r20_Read hs (by omega)).mono ?_
    rintro e w1 ⟨v1, rfl, ho1, hb1⟩
    obtain ⟨A1, n1, c1, rfl, hs1⟩ := ho1.sl
    have hn1 : n1 ≤ n := by rw [← hs1.len]; exact hl0
    clear ho1 hl0
    go_wp2_with fail
    refine (p20_Read (hs.bel hb1) (by omega)).mono ?_
    rintro e w2 ⟨v2, rfl, ho2, hb2⟩
    obtain ⟨A2, n2, c2, rfl, hs2⟩ := ho2.sl
    clear ho2
    have hB2 := below_then hb1 hb2
    go_wp2_with fail
    refine (r01_Like hs2 (hs1.bel hb2)).mono ?_
    rintro e w3 ⟨rfl, hb3⟩
    have hB3 := below_then hB2 hb3
    go_wp2_with fail
    refine (p20_Strange (hs.bel hB3) (by omega)).mono ?_
    rintro e w4 ⟨rfl, hb4⟩
    have hB4 := below_then hB3 hb4
    go_wp2_with fail
    refine (p20_Check (hs.bel hB4) (by omega)).mono ?_
    rintro e w5 ⟨rfl, hb5⟩
    have hB5 := below_then hB4 hb5
    go_wp2_with fail
    refine (r20_Check (hs.bel hB5) (by omega)).mono ?_
    rintro e w6 ⟨rfl, hb6⟩
    have hB6 := below_then hB5 hb6
    go_wp2_with (go_at_call 15; refine alive20.mono ?_; rintro e w7 ⟨rfl, hb7⟩)
    go_ret
    exact ⟨rfl, below_then hB6 hb7⟩

set_option maxRecDepth 100000 in
set_option maxHeartbeats 1000000 in
theorem law_QwordBack {A n c xs} {w : World} (hs : Sl w .u8 A n c xs) : Calls Try.prog 5 #[.slice A n c] w (RetB (.bool true) w) := by
  by_cases hbig : 1000 < n
  · go_enter Try.func5, Try.ntmps5
    go_wp2_with (go_at_call 15; refine alive20.mono ?_; rintro e w1 ⟨rfl, hb⟩)
    go_ret
    exact ⟨rfl, hb⟩
  · have e1 := likeL_self xs
    have e2 := likeL_self (rd20 xs)
    have F1 := Lib.hid (back20_rd hs.wf)
    have F2 := Lib.hid (back20_chk hs.wf)
    have F3 := Lib.hid (back20_sn hs.wf)
    have hl0 : (rd20 xs).length ≤ n := by rw [← hs.len]; exact rd20_len xs
    have HL := Lib.hid hs.len
    go_enter Try.func5, Try.ntmps5
    go_wp2_with fail
    refine (p20_Lay hs (by omega)).mono ?_
    rintro e w1 ⟨v1, rfl, ho1, hb1⟩
    obtain ⟨A1, n1, c1, rfl, hs1⟩ := ho1.sl
    clear ho1
    have hn1 : n1 ≤ 3000 := by have := (lay20_len xs).2; have := hs1.len; have := HL.out; omega
    go_wp2_with fail
    refine (p20_Read (hs.bel hb1) (by omega)).mono ?_
    rintro e w2 ⟨v2, rfl, ho2, hb2⟩
    obtain ⟨A2, n2, c2, rfl, hs2⟩ := ho2.sl
    have hn2 : n2 ≤ n := by rw [← hs2.len]; exact hl0
    have F4 := Lib.hid (back20_rd hs2.wf)
    clear ho2 hl0
    have hB2 := below_then hb1 hb2
    have hs1b := hs1.bel hb2
    go_wp2_with fail
    refine (p20_Read hs1b (by omega)).mono ?_
    rintro e w3 ⟨v3, rfl, ho3, hb3⟩
    rw [F1.out] at ho3
    obtain ⟨A3, n3, c3, rfl, hs3⟩ := ho3.sl
    clear ho3
    have hB3 := below_then hB2 hb3
    go_wp2_with fail
    refine (r01_Like hs3 (hs.bel hB3)).mono ?_
    rintro e w4 ⟨rfl, hb4⟩
    have hb34 := below_then hb3 hb4
    have hB4 := below_then hB2 hb34
    go_wp2_with fail
    refine (p20_Check (hs1b.bel hb34) (by omega)).mono ?_
    rintro e w5 ⟨rfl, hb5⟩
    rw [F2.out]
    have hb35 := below_then hb34 hb5
    have hB5 := below_then hB2 hb35
    go_wp2_with fail
    refine (p20_Strange (hs1b.bel hb35) (by omega)).mono ?_
    rintro e w6 ⟨rfl, hb6⟩
    rw [F3.out]
    have hb36 := below_then hb35 hb6
    have hB6 := below_then hB2 hb36
    go_wp2_with fail
    refine (p20_Lay (hs2.bel hb36) (by omega)).mono ?_
    rintro e w7 ⟨v7, rfl, ho7, hb7⟩
    obtain ⟨A7, n7, c7, rfl, hs7⟩ := ho7.sl
    have hn7 : n7 ≤ 3000 := by have := (lay20_len (rd20 xs)).2; have := hs7.len; have := hs2.len; omega
    clear ho7
    have hb37 := below_then hb36 hb7
    have hB7 := below_then hB2 hb37
    go_wp2_with fail
    refine (p20_Read hs7 (by omega)).mono ?_
    rintro e w8 ⟨v8, rfl, ho8, hb8⟩
    rw [F4.out] at ho8
    obtain ⟨A8, n8, c8, rfl, hs8⟩ := ho8.sl
    clear ho8
    have hb38 := below_then hb37 hb8
    have hB8 := below_then hB2 hb38
    go_wp2_with fail
    refine (r01_Like hs8 (hs2.bel hb38)).mono ?_
    rintro e w9 ⟨rfl, hb9⟩
    have hB9 := below_then hB8 hb9
    go_wp2_with (go_at_call 15; refine alive20.mono ?_; rintro e w10 ⟨rfl, hb10⟩)
    go_ret
    exact ⟨rfl, below_then hB9 hb10⟩
end Go.Proofs.Ytcjfjhciobkbcaa
