/- Layer 21's laws: each returns true for every input, and leaves what was there. No condition but that the arguments read as lists. -/
import Derived.Test.Ytcjfjhciobkbcaa21H
import Derived.Test.YtcjfjhciobkbcaaLibC
import Derived.Lib.SlBytesConst
namespace Go.Proofs.Ytcjfjhciobkbcaa
open Go.RowKit

theorem ev21a : unqS [34, 97, 92, 34, 98, 34, 99] = ([97, 34, 98], 6, 0) := by decide
theorem ev21b : lay21 [97, 32, 98] = [97, 37, 50, 48, 98] := by decide +kernel
theorem ev21c : fsV (ev 0 [97, 37, 50, 48, 98, 37]) = [97, 32, 98, 37] := by decide +kernel
theorem ev21d : stV (ev 0 [37]) = 1 := by decide +kernel
theorem st21a : strOfNums [97, 37, 50, 48, 98] = { data := #[97, 37, 50, 48, 98] } := by decide
theorem st21b : strOfNums [97, 32, 98, 37] = { data := #[97, 32, 98, 37] } := by decide
theorem st21c : strOfNums [97, 34, 98] = { data := #[97, 34, 98] } := by decide

set_option maxRecDepth 100000 in
set_option maxHeartbeats 1000000 in
theorem alive21 {w : World} : Calls Try.prog 27 #[] w (RetB (.bool true) w) := by
  have kc := fun (w : World) (C : Array Value) (n c : Nat) => Lib.run_convert_bytes_const (P := Try.prog) w 22 5 C n c Try.underlying22 Try.underlying5
  go_enter Try.func27, Try.ntmps27
  go_wp2_with fail
  refine (p21_Unquote (Sl.newF w .u8 5 [34, 97, 92, 34, 98, 34, 99] _ (by decide) (by decide)) (by decide)).mono ?_
  rintro e w1 h1
  rw [ev21a] at h1
  obtain ⟨v1, rfl, ho1, hb1⟩ := h1
  have hB1 := below_then' ((Below.refl _ _).alloc (Nat.le_refl _) _) hb1 (Nat.le_refl w.heap.size)
  obtain ⟨A1, n1, c1, rfl, hs1⟩ := ho1.sl
  clear ho1
  go_wp2_with fail
  refine (p21_Lay (Sl.newF w1 .u8 5 [97, 32, 98] _ (by decide) (by decide)) (by decide)).mono ?_
  rintro e w2 ⟨v2, rfl, ho2, hb2⟩
  rw [ev21b] at ho2
  have hb12 := below_then' ((Below.refl _ _).alloc (Nat.le_refl _) _) hb2 (Nat.le_refl w1.heap.size)
  have hB2 := below_then hB1 hb12
  have hs1b := hs1.bel hb12
  obtain ⟨A2, n2, c2, rfl, hs2⟩ := ho2.sl
  clear ho2 hs1
  have q1 := hs2.str (P := Try.prog) 22 5 9 Try.underlying22 Try.underlying5 Try.underlying9
  rw [st21a] at q1
  clear hs2
  go_wp2_with fail
  refine (p21_Read (Sl.newF w2 .u8 5 [97, 37, 50, 48, 98, 37] _ (by decide) (by decide)) (by decide)).mono ?_
  rintro e w3 ⟨v3, rfl, ho3, hb3⟩
  rw [ev21c] at ho3
  have hb23 := below_then' ((Below.refl _ _).alloc (Nat.le_refl _) _) hb3 (Nat.le_refl w2.heap.size)
  have hB3 := below_then hB2 hb23
  have hs1c := hs1b.bel hb23
  obtain ⟨A3, n3, c3, rfl, hs3⟩ := ho3.sl
  clear ho3 hs1b
  have q2 := hs3.str (P := Try.prog) 22 5 9 Try.underlying22 Try.underlying5 Try.underlying9
  rw [st21b] at q2
  have q3 := hs1c.str (P := Try.prog) 22 5 9 Try.underlying22 Try.underlying5 Try.underlying9
  rw [st21c] at q3
  clear hs3 hs1c
  go_wp2_with fail
  refine (p21_Strange (Sl.newF w3 .u8 5 [37] _ (by decide) (by decide)) (by decide)).mono ?_
  rintro e w4 ⟨rfl, hb4⟩
  rw [ev21d]
  have hb34 := below_then' ((Below.refl _ _).alloc (Nat.le_refl _) _) hb4 (Nat.le_refl w3.heap.size)
  have hB4 := below_then hB3 hb34
  go_wp2
  go_ret
  exact ⟨rfl, hB4⟩

set_option maxRecDepth 100000 in
set_option maxHeartbeats 1000000 in
theorem law_PctUnquotes {A n c xs} {w : World} (hs : Sl w .u8 A n c xs) : Calls Try.prog 7 #[.slice A n c] w (RetB (.bool true) w) := by
  by_cases hbig : 1000 < n
  · go_enter Try.func7, Try.ntmps7
    go_wp2_with (go_at_call 27; refine alive21.mono ?_; rintro e w1 ⟨rfl, hb⟩)
    go_ret
    exact ⟨rfl, hb⟩
  · have e1 := likeL_self (unqS xs).1
    go_enter Try.func7, Try.ntmps7
    go_wp2_with fail
    refine (p21_Unquote hs (by omega)).mono ?_
    rintro e w1 ⟨v1, rfl, ho1, hb1⟩
    obtain ⟨A1, n1, c1, rfl, hs1⟩ := ho1.sl
    clear ho1
    go_wp2_with fail
    refine (r21_Unquote (hs.bel hb1) (by omega)).mono ?_
    rintro e w2 ⟨v2, rfl, ho2, hb2⟩
    obtain ⟨A2, n2, c2, rfl, hs2⟩ := ho2.sl
    clear ho2
    have hB2 := below_then hb1 hb2
    go_wp2_with fail
    refine (r01_Like (hs1.bel hb2) hs2).mono ?_
    rintro e w3 ⟨rfl, hb3⟩
    have hB3 := below_then hB2 hb3
    go_wp2_with (go_at_call 27; refine alive21.mono ?_; rintro e w4 ⟨rfl, hb4⟩)
    go_ret
    exact ⟨rfl, below_then hB3 hb4⟩

set_option maxRecDepth 100000 in
set_option maxHeartbeats 1000000 in
theorem law_PctLays {A n c xs} {x : Int} {w : World} (hs : Sl w .u8 A n c xs) (hx : (Lit.int .u8 x).wf = true) : Calls Try.prog 9 #[.slice A n c, .int .u8 x] w (RetB (.bool true) w) := by
  by_cases hbig : 1000 < n
  · go_enter Try.func9, Try.ntmps9
    go_wp2_with (go_at_call 27; refine alive21.mono ?_; rintro e w1 ⟨rfl, hb⟩)
    go_ret
    exact ⟨rfl, hb⟩
  · have e1 := likeL_self (lay21 xs)
    have e2 := likeL_self (quoL xs)
    go_enter Try.func9, Try.ntmps9
    go_wp2_with fail
    refine (p21_Lay hs (by omega)).mono ?_
    rintro e w1 ⟨v1, rfl, ho1, hb1⟩
    obtain ⟨A1, n1, c1, rfl, hs1⟩ := ho1.sl
    clear ho1
    go_wp2_with fail
    refine (r21_Lay (hs.bel hb1) (by omega)).mono ?_
    rintro e w2 ⟨v2, rfl, ho2, hb2⟩
    obtain ⟨A2, n2, c2, rfl, hs2⟩ := ho2.sl
    clear ho2
    have hB2 := below_then hb1 hb2
    go_wp2_with fail
    refine (r01_Like (hs1.bel hb2) hs2).mono ?_
    rintro e w3 ⟨rfl, hb3⟩
    have hB3 := below_then hB2 hb3
    go_wp2_with fail
    refine (p21_One hx).mono ?_
    rintro e w' ⟨rfl, rfl⟩
    go_wp2_with fail
    refine (r21_One hx).mono ?_
    rintro e w4 ⟨rfl, hb4⟩
    have hB4 := below_then hB3 hb4
    go_wp2_with fail
    refine (p21_Quote (hs.bel hB4) (by omega)).mono ?_
    rintro e w5 ⟨v5, rfl, ho5, hb5⟩
    obtain ⟨A5, n5, c5, rfl, hs5⟩ := ho5.sl
    clear ho5
    have hB5 := below_then hB4 hb5
    go_wp2_with fail
    refine (r21_Quote (hs.bel hB5) (by omega)).mono ?_
    rintro e w6 ⟨v6, rfl, ho6, hb6⟩
    obtain ⟨A6, n6, c6, rfl, hs6⟩ := ho6.sl
    clear ho6
    have hB6 := below_then hB5 hb6
    go_wp2_with fail
    refine (r01_Like (hs5.bel hb6) hs6).mono ?_
    rintro e w7 ⟨rfl, hb7⟩
    have hB7 := below_then hB6 hb7
    go_wp2_with (go_at_call 27; refine alive21.mono ?_; rintro e w8 ⟨rfl, hb8⟩)
    go_ret
    exact ⟨rfl, below_then hB7 hb8⟩
end Go.Proofs.Ytcjfjhciobkbcaa
