/- Layer 15's laws of what is read loosely: each returns true for every input, and leaves what was there. Conditions: the arguments read as lists. -/
import Derived.Test.Ytonellflklaggaa15E
namespace Go.Proofs.Ytonellflklaggaa
open Go.RowKit

theorem ev15a : lrdL [90, 32, 103, 61, 106, 117, 110, 107] = [102] := by decide
theorem ev15b : strF [90, 32, 103, 61, 106, 117, 110, 107] = 1 := by decide
theorem ev15c : leftL [90, 32, 103, 61, 106, 117, 110, 107] = 4 := by decide
theorem ev15d : clnL [90, 32, 103, 61, 106, 117, 110, 107] = [90, 103, 61, 61] := by decide

set_option maxRecDepth 100000 in
set_option maxHeartbeats 2000000 in
theorem alive15 {w : World} : Calls Try.prog 28 #[] w (RetB (.bool true) w) := by
  have kc := fun (w : World) (C : Array Value) (n c : Nat) => Lib.run_convert_bytes_const (P := Try.prog) w 28 5 C n c Try.underlying28 Try.underlying5
  go_enter Try.func28, Try.ntmps28
  go_wp2_with fail
  have hs0 := Sl.newF w .u8 5 [90, 32, 103, 61, 106, 117, 110, 107] (8, 9) (by decide) (by decide)
  have hb0 := (Below.refl w.heap.size w).alloc (Nat.le_refl _) (.cells ([90, 32, 103, 61, 106, 117, 110, 107].map (Value.int .u8)).toArray 5 (8, 9))
  refine (p15_Read hs0 (by decide)).mono ?_
  rw [ev15a]
  rintro e w1 ⟨v1, rfl, ho1, hb1⟩
  obtain ⟨A1, n1, c1, rfl, hs1⟩ := ho1.sl
  have hn1 : n1 = 1 := hs1.len.symm
  subst hn1
  clear ho1
  have hs01 := hs0.bel hb1
  have hB1 := below_then' hb0 hb1 (Nat.le_refl _)
  have q1 := hs1.str (P := Try.prog) 28 5 9 Try.underlying28 Try.underlying5 Try.underlying9
  rw [st14b] at q1
  clear hs0 hb0
  go_wp2_with fail
  refine (p15_Strange hs01).mono ?_
  rw [ev15b]
  rintro e w2 ⟨rfl, hb2⟩
  have hB2 := below_then hB1 hb2
  have hs02 := hs01.bel hb2
  clear hs01 q1 hs1
  go_wp2_with fail
  refine (p15_Dropped hs02 (by decide)).mono ?_
  rw [ev15c]
  rintro e w3 ⟨rfl, hb3⟩
  have hB3 := below_then hB2 hb3
  have hs03 := hs02.bel hb3
  clear hs02
  go_wp2_with fail
  refine (p15_Clean hs03 (by decide)).mono ?_
  rw [ev15d]
  rintro e w4 ⟨A4, n4, c4, rfl, hs4, hb4⟩
  have hn4 : n4 = 4 := hs4.len.symm
  subst hn4
  have q4 := hs4.str (P := Try.prog) 28 5 9 Try.underlying28 Try.underlying5 Try.underlying9
  rw [st14a] at q4
  go_wp2
  go_ret
  exact ⟨rfl, below_then hB3 hb4⟩

set_option maxRecDepth 100000 in
set_option maxHeartbeats 4000000 in
theorem law_BlooseReads {A n c xs} {w : World} (hs : Sl w .u8 A n c xs) : Calls Try.prog 9 #[.slice A n c] w (RetB (.bool true) w) := by
  by_cases hbig : 1000 < n
  · go_enter Try.func9, Try.ntmps9
    go_wp2_with (go_at_call 28; refine alive15.mono ?_; rintro e w1 ⟨rfl, hb⟩)
    go_ret
    exact ⟨rfl, hb⟩
  · have e1 := likeL_self (lrdL xs)
    have e2 := likeL_self (digF xs)
    go_enter Try.func9, Try.ntmps9
    go_wp2_with fail
    refine (r15_Read hs (by omega)).mono ?_
    rintro e w1 ⟨v1, rfl, ho1, hb1⟩
    obtain ⟨A1, n1, c1, rfl, hs1⟩ := ho1.sl
    have hl1 := hs1.len
    clear ho1
    go_wp2_with fail
    refine (r15_Digits (hs.bel hb1) (by omega)).mono ?_
    rintro e w2 ⟨v2, rfl, ho2, hb2⟩
    obtain ⟨A2, n2, c2, rfl, hs2⟩ := ho2.sl
    clear ho2
    have hB2 := below_then hb1 hb2
    go_wp2_with fail
    refine (p15_Read (hs.bel hB2) (by omega)).mono ?_
    rintro e w3 ⟨v3, rfl, ho3, hb3⟩
    obtain ⟨A3, n3, c3, rfl, hs3⟩ := ho3.sl
    clear ho3
    have hB3 := below_then hB2 hb3
    have hb13 := below_then hb2 hb3
    go_wp2_with fail
    refine (r01_Like hs3 (hs1.bel hb13)).mono ?_
    rintro e w4 ⟨rfl, hb4⟩
    rw [e1]
    have hB4 := below_then hB3 hb4
    have hb24 := below_then hb3 hb4
    go_wp2_with fail
    refine (p15_Len (hs.bel hB4) (by omega)).mono ?_
    rintro e w5 ⟨rfl, hb5⟩
    rw [hl1]
    have hB5 := below_then hB4 hb5
    have hb25 := below_then hb24 hb5
    go_wp2_with fail
    refine (p15_Dropped (hs.bel hB5) (by omega)).mono ?_
    rintro e w6 ⟨rfl, hb6⟩
    have hB6 := below_then hB5 hb6
    have hb26 := below_then hb25 hb6
    go_wp2_with fail
    refine (p15_Digits (hs.bel hB6) (by omega)).mono ?_
    rintro e w7 ⟨v7, rfl, ho7, hb7⟩
    obtain ⟨A7, n7, c7, rfl, hs7⟩ := ho7.sl
    clear ho7
    have hB7 := below_then hB6 hb7
    have hb27 := below_then hb26 hb7
    go_wp2_with fail
    refine (r01_Like hs7 (hs2.bel hb27)).mono ?_
    rintro e w8 ⟨rfl, hb8⟩
    rw [e2]
    have hB8 := below_then hB7 hb8
    go_wp2_with fail
    refine (p15_Strange (hs.bel hB8)).mono ?_
    rintro e w9 ⟨rfl, hb9⟩
    have hB9 := below_then hB8 hb9
    go_wp2_with fail
    refine alive15.mono ?_
    rintro e w10 ⟨rfl, hb10⟩
    go_wp2
    go_ret
    exact ⟨rfl, below_then hB9 hb10⟩

set_option maxRecDepth 100000 in
set_option maxHeartbeats 4000000 in
theorem law_BlooseStrict {A n c xs} {w : World} (hs : Sl w .u8 A n c xs) : Calls Try.prog 7 #[.slice A n c] w (RetB (.bool true) w) := by
  by_cases hbig : 1000 < n
  · go_enter Try.func7, Try.ntmps7
    go_wp2_with (go_at_call 28; refine alive15.mono ?_; rintro e w1 ⟨rfl, hb⟩)
    go_ret
    exact ⟨rfl, hb⟩
  · obtain ⟨f1, f2, f3⟩ := cln_read xs
    have hln := hs.len
    have hll := lrd_len xs
    have hcl : (clnL xs).length ≤ 3000 := by
      have h6 := lenL_lay (lrdL xs)
      unfold lenL at h6
      unfold clnL
      split at h6 <;> omega
    have e1 := likeL_self (lrdL xs)
    have e2 := likeL_self (clnL xs)
    have e3 := likeL_self xs
    have hC := fun (W : World) (A : Option Addr) (n c : Nat) (h : Sl W .u8 A n c (clnL xs)) (hm : n ≤ 3000) => p15_Clean h hm
    have hR := fun (W : World) (A : Option Addr) (n c : Nat) (h : Sl W .u8 A n c (clnL xs)) (hm : n ≤ 16777216) => r14_Read h hm
    rw [f3] at hC
    rw [f1, f2] at hR
    have HC := Lib.hid hC; have HR := Lib.hid hR
    have HS := Lib.hid (fun (h : errB xs = 0) => And.intro (lrd_strict h) (cln_strict h))
    clear f1 f2 f3 hC hR
    obtain ⟨cs, hcs⟩ : ∃ cs, clnL xs = cs := ⟨_, rfl⟩
    have hCl := fun (W : World) (h : Sl W .u8 A n c xs) => p15_Clean h (by omega)
    simp only [hcs] at HC HR HS e2 hcl hCl
    have HCl := Lib.hid hCl
    clear hCl hcs
    by_cases he : errB xs = 0
    · obtain ⟨g1, g2⟩ := HS.out he
      clear HS
      have hr := r14_Read hs (by omega)
      rw [he, ← g1] at hr
      have HRd := Lib.hid hr
      rw [g2] at HCl HC HR e2
      clear hr g1 he g2
      go_enter Try.func7, Try.ntmps7
      go_wp2_with fail
      refine HRd.out.mono ?_
      rintro e w1 ⟨v1, rfl, ho1, hb1⟩
      obtain ⟨A1, n1, c1, rfl, hs1⟩ := ho1.sl
      clear ho1
      go_wp2_with fail
      refine (p15_Read (hs.bel hb1) (by omega)).mono ?_
      rintro e w2 ⟨v2, rfl, ho2, hb2⟩
      obtain ⟨A2, n2, c2, rfl, hs2⟩ := ho2.sl
      clear ho2
      have hB2 := below_then hb1 hb2
      go_wp2_with fail
      refine (r01_Like hs2 (hs1.bel hb2)).mono ?_
      rw [e1]
      rintro e w3 ⟨rfl, hb3⟩
      have hB3 := below_then hB2 hb3
      go_wp2_with fail
      refine (HCl.out _ (hs.bel hB3)).mono ?_
      rintro e w4 ⟨A4, n4, c4, rfl, hs4, hb4⟩
      have hB4 := below_then hB3 hb4
      go_wp2_with fail
      refine (r01_Like hs4 (hs.bel hB4)).mono ?_
      rw [e3]
      rintro e w5 ⟨rfl, hb5⟩
      have hB5 := below_then hB4 hb5
      go_wp2_with fail
      refine (HCl.out _ (hs.bel hB5)).mono ?_
      rintro e w6 ⟨A6, n6, c6, rfl, hs6, hb6⟩
      have hn6 := hs6.len
      have hB6 := below_then hB5 hb6
      go_wp2_with fail
      refine (HR.out _ _ _ _ hs6 (by omega)).mono ?_
      rintro e w7 ⟨v7, rfl, ho7, hb7⟩
      obtain ⟨A7, n7, c7, rfl, hs7⟩ := ho7.sl
      clear ho7
      have hB7 := below_then hB6 hb7
      have hs67 := hs6.bel hb7
      go_wp2_with fail
      refine (p15_Read (hs.bel hB7) (by omega)).mono ?_
      rintro e w8 ⟨v8, rfl, ho8, hb8⟩
      obtain ⟨A8, n8, c8, rfl, hs8⟩ := ho8.sl
      clear ho8
      have hB8 := below_then hB7 hb8
      have hs68 := hs67.bel hb8
      go_wp2_with fail
      refine (r01_Like (hs7.bel hb8) hs8).mono ?_
      rw [e1]
      rintro e w9 ⟨rfl, hb9⟩
      have hB9 := below_then hB8 hb9
      have hs69 := hs68.bel hb9
      go_wp2_with fail
      refine (HC.out _ _ _ _ hs69 (by omega)).mono ?_
      rintro e wa ⟨Aa, na, ca, rfl, hsa, hba⟩
      have hBa := below_then hB9 hba
      go_wp2_with fail
      refine (r01_Like hsa (hs69.bel hba)).mono ?_
      rw [e3]
      rintro e wb ⟨rfl, hbb⟩
      have hBb := below_then hBa hbb
      go_wp2_with fail
      refine alive15.mono ?_
      rintro e wc ⟨rfl, hbc⟩
      go_wp2
      go_ret
      exact ⟨rfl, below_then hBb hbc⟩
    · have fe : (errB xs == 0) = false := by simpa using he
      clear HS
      go_enter Try.func7, Try.ntmps7
      go_wp2_with fail
      refine (r14_Read hs (by omega)).mono ?_
      rintro e w5 ⟨v1, rfl, ho1, hB5⟩
      obtain ⟨A1, n1, c1, rfl, hs1⟩ := ho1.sl
      clear ho1
      go_wp2_with fail
      refine (HCl.out _ (hs.bel hB5)).mono ?_
      rintro e w6 ⟨A6, n6, c6, rfl, hs6, hb6⟩
      have hn6 := hs6.len
      have hB6 := below_then hB5 hb6
      go_wp2_with fail
      refine (HR.out _ _ _ _ hs6 (by omega)).mono ?_
      rintro e w7 ⟨v7, rfl, ho7, hb7⟩
      obtain ⟨A7, n7, c7, rfl, hs7⟩ := ho7.sl
      clear ho7
      have hB7 := below_then hB6 hb7
      have hs67 := hs6.bel hb7
      go_wp2_with fail
      refine (p15_Read (hs.bel hB7) (by omega)).mono ?_
      rintro e w8 ⟨v8, rfl, ho8, hb8⟩
      obtain ⟨A8, n8, c8, rfl, hs8⟩ := ho8.sl
      clear ho8
      have hB8 := below_then hB7 hb8
      have hs68 := hs67.bel hb8
      go_wp2_with fail
      refine (r01_Like (hs7.bel hb8) hs8).mono ?_
      rw [e1]
      rintro e w9 ⟨rfl, hb9⟩
      have hB9 := below_then hB8 hb9
      have hs69 := hs68.bel hb9
      go_wp2_with fail
      refine (HC.out _ _ _ _ hs69 (by omega)).mono ?_
      rintro e wa ⟨Aa, na, ca, rfl, hsa, hba⟩
      have hBa := below_then hB9 hba
      go_wp2_with fail
      refine (r01_Like hsa (hs69.bel hba)).mono ?_
      rw [e2]
      rintro e wb ⟨rfl, hbb⟩
      have hBb := below_then hBa hbb
      go_wp2_with fail
      refine alive15.mono ?_
      rintro e wc ⟨rfl, hbc⟩
      go_wp2
      go_ret
      exact ⟨rfl, below_then hBb hbc⟩
end Go.Proofs.Ytonellflklaggaa
