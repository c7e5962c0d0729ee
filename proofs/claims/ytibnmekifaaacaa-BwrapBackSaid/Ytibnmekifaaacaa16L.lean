/- Layer 16's laws of lines laid and read: each returns true for every input, and leaves what was there. Conditions: the arguments read as lists; the variable MaxLen holds a number. -/
import Derived.Test.Ytibnmekifaaacaa16B
namespace Go.Proofs.Ytibnmekifaaacaa
open Go.RowKit

theorem ev16a : er16 [90, 103, 61, 61, 13, 10] = 0 ∧ rd16 [90, 103, 61, 61, 13, 10] = [102] := by decide
theorem ev16b : wrapL (layL [102]) = [90, 103, 61, 61, 13, 10] := by decide
theorem ev16c : er16 [90, 103, 61, 61] = 4 := by decide
theorem ev16d : linN 58 = 2 := by decide
theorem st16a : strOfNums [90, 103, 61, 61, 13, 10] = { data := #[90, 103, 61, 61, 13, 10] } := by decide
set_option maxRecDepth 100000 in
set_option maxHeartbeats 2000000 in
theorem alive16 {w : World} (hM : MaxL w) : Calls Try.prog 7 #[] w (RetB (.bool true) w) := by
  have kc := fun (w : World) (C : Array Value) (n c : Nat) => Lib.run_convert_bytes_const (P := Try.prog) w 22 5 C n c Try.underlying22 Try.underlying5
  have hli := p16_Lines (n := 58) (w := w) (by decide)
  go_enter Try.func7, Try.ntmps7
  go_wp2_with fail
  have hs0 := Sl.newF w .u8 5 [90, 103, 61, 61, 13, 10] (6, 7) (by decide) (by decide)
  have hb0 := (Below.refl w.heap.size w).alloc (Nat.le_refl _) (.cells ([90, 103, 61, 61, 13, 10].map (Value.int .u8)).toArray 5 (6, 7))
  refine (p16_Read hs0 (by decide) (hM.alloc _)).mono ?_
  rw [ev16a.1, ev16a.2]
  rintro e w1 ⟨v1, rfl, ho1, hb1⟩
  obtain ⟨A1, n1, c1, rfl, hs1⟩ := ho1.sl
  have hn1 : n1 = 1 := hs1.len.symm
  subst hn1
  clear ho1
  have hB1 := below_then' hb0 hb1 (Nat.le_refl _)
  clear hs0 hb0 hb1
  go_wp2_with fail
  have hs9 := Sl.newF w1 .u8 5 [102] (1, 2) (by decide) (by decide)
  have hb9 := (Below.refl w1.heap.size w1).alloc (Nat.le_refl _) (.cells ([102].map (Value.int .u8)).toArray 5 (1, 2))
  refine (p16_Lay hs9 (by decide)).mono ?_
  rw [ev16b]
  rintro e w2 ⟨v2, rfl, ho2, hb2⟩
  obtain ⟨A2, n2, c2, rfl, hs2⟩ := ho2.sl
  have hn2 : n2 = 6 := hs2.len.symm
  subst hn2
  clear ho2
  have hb12 := below_then' hb9 hb2 (Nat.le_refl _)
  have hB2 := below_then hB1 hb12
  have hs12 := hs1.bel hb12
  have q2 := hs2.str (P := Try.prog) 22 5 9 Try.underlying22 Try.underlying5 Try.underlying9
  have q1 := hs12.str (P := Try.prog) 22 5 9 Try.underlying22 Try.underlying5 Try.underlying9
  rw [st16a] at q2
  rw [st14b] at q1
  clear hs9 hb9 hb2 hb12 hs1 hs12 hs2 hli
  go_wp2_with fail
  have hs3 := Sl.newF w2 .u8 5 [90, 103, 61, 61] (4, 5) (by decide) (by decide)
  have hb3 := (Below.refl w2.heap.size w2).alloc (Nat.le_refl _) (.cells ([90, 103, 61, 61].map (Value.int .u8)).toArray 5 (4, 5))
  refine (p16_Check hs3 (by decide) ((hM.bel hB2).alloc _)).mono ?_
  rw [ev16c]
  rintro e w4 ⟨rfl, hb4⟩
  have hB4 := below_then hB2 (below_then' hb3 hb4 (Nat.le_refl _))
  have hli := p16_Lines (n := 58) (w := w4) (by decide)
  rw [ev16d] at hli
  go_wp2_with (go_at_call 9; refine hli.mono ?_; rintro e w' ⟨rfl, rfl⟩)
  go_ret
  exact ⟨rfl, hB4⟩

set_option maxRecDepth 100000 in
set_option maxHeartbeats 4000000 in
theorem law_BwrapLays {A n c xs} {d : Int} {w : World} (hM : MaxL w) (hs : Sl w .u8 A n c xs) (hd : (Lit.int .i64 d).wf = true) : Calls Try.prog 4 #[.slice A n c, .int .i64 d] w (RetB (.bool true) w) := by
  by_cases hbig : 1000 < n
  · go_enter Try.func4, Try.ntmps4
    go_wp2_with (go_at_call 7; refine (alive16 hM).mono ?_; rintro e w1 ⟨rfl, hb⟩)
    go_ret
    exact ⟨rfl, hb⟩
  · by_cases hbig2 : 1099511627776 < d
    · go_enter Try.func4, Try.ntmps4
      go_wp2_with (go_at_call 7; refine (alive16 hM).mono ?_; rintro e w1 ⟨rfl, hb⟩)
      go_ret
      exact ⟨rfl, hb⟩
    · have e1 := likeL_self (wrapL (layL xs))
      have hwl := wrap_wlen xs
      have hln := hs.len
      rw [hln] at hwl
      have h1 := p16_Lay hs (by omega)
      have h2 := fun (W : World) (h : Sl W .u8 A n c xs) => r16_Lay h (by omega)
      obtain ⟨zs, hzs⟩ : ∃ zs, wrapL (layL xs) = zs := ⟨_, rfl⟩
      rw [hzs] at e1 hwl h1
      simp only [hzs] at h2
      have H2 := Lib.hid h2
      clear h2 hzs
      go_enter Try.func4, Try.ntmps4
      go_wp2_with fail
      refine h1.mono ?_
      rintro e w1 ⟨v1, rfl, ho1, hb1⟩
      obtain ⟨A1, n1, c1, rfl, hs1⟩ := ho1.sl
      have hl1 := hs1.len
      clear ho1
      rw [hl1] at hwl
      go_wp2_with fail
      refine (H2.out _ (hs.bel hb1)).mono ?_
      rintro e w2 ⟨v2, rfl, ho2, hb2⟩
      obtain ⟨A2, n2, c2, rfl, hs2⟩ := ho2.sl
      clear ho2
      have hB2 := below_then hb1 hb2
      go_wp2_with fail
      refine (r01_Like (hs1.bel hb2) hs2).mono ?_
      rw [e1]
      rintro e w3 ⟨rfl, hb3⟩
      have hB3 := below_then hB2 hb3
      have g1 := p16_Len (n := (n : Int)) (w := w3) (by omega)
      rw [hwl] at g1
      have g2 := p16_Lines (n := d) (w := w3) (by omega)
      have g3 := r16_Lines (n := d) (w := w3) (by omega)
      have g4 := p16_Len (n := d) (w := w3) (by omega)
      have g5 := r16_Len (n := d) (w := w3) (by omega)
      clear hwl
      go_wp2_with fail
      refine g1.mono ?_
      rintro e w' ⟨rfl, rfl⟩
      go_wp2_with fail
      refine g2.mono ?_
      rintro e w' ⟨rfl, rfl⟩
      go_wp2_with fail
      refine g3.mono ?_
      rintro e w' ⟨rfl, rfl⟩
      go_wp2_with fail
      refine g4.mono ?_
      rintro e w' ⟨rfl, rfl⟩
      go_wp2_with fail
      refine g5.mono ?_
      rintro e w' ⟨rfl, rfl⟩
      go_wp2_with fail
      refine (alive16 (hM.bel hB3)).mono ?_
      rintro e w10 ⟨rfl, hb10⟩
      go_wp2
      go_ret
      exact ⟨rfl, below_then hB3 hb10⟩

set_option maxRecDepth 100000 in
set_option maxHeartbeats 4000000 in
theorem law_BwrapReads {A n c xs} {w : World} (hM : MaxL w) (hs : Sl w .u8 A n c xs) : Calls Try.prog 5 #[.slice A n c] w (RetB (.bool true) w) := by
  by_cases hbig : 1000 < n
  · go_enter Try.func5, Try.ntmps5
    go_wp2_with (go_at_call 7; refine (alive16 hM).mono ?_; rintro e w1 ⟨rfl, hb⟩)
    go_ret
    exact ⟨rfl, hb⟩
  · have hln := hs.len
    have e1 := likeL_self (rd16 xs)
    have e2 := likeL_self (lrdL xs)
    have e3 := likeL_self (wrapL (layL (lrdL xs)))
    have hlr := lrd_len xs
    have hcl := codL_len xs
    have hc16 : (cod16 xs).length ≤ n := by
      unfold cod16
      split
      · omega
      · simp
    have he0 : er16 xs = 0 → octB (cod16 xs) = rd16 xs := by
      intro h
      unfold cod16
      rw [if_pos h]
      by_cases h2 : (codL xs).2 = 0
      · rw [(er16_on h2).2]
      · rw [(er16_no h2).1] at h; exact absurd h h2
    have hrd := fun (h : er16 xs ≠ 0) => rd16_err h
    have h1 := r16_Check hs (by omega)
    have h2 := fun (W : World) (h : Sl W .u8 A n c xs) (hm : MaxL W) => p16_Read h (by omega) hm
    have h3 := fun (W : World) (h : Sl W .u8 A n c xs) (hm : MaxL W) => p16_Check h (by omega) hm
    have h4 := fun (W : World) (A : Option Addr) (n c : Nat) (h : Sl W .u8 A n c (cod16 xs)) (hm : n ≤ 16777216) => r14_Read h hm
    obtain ⟨ee, hee⟩ : ∃ ee, er16 xs = ee := ⟨_, rfl⟩
    obtain ⟨cs, hcs⟩ : ∃ cs, cod16 xs = cs := ⟨_, rfl⟩
    simp only [hee, hcs] at he0 hrd h1 h2 h3 h4 hc16
    have H2 := Lib.hid h2; have H3 := Lib.hid h3; have H4 := Lib.hid h4; have HRD := Lib.hid hrd; have HE0 := Lib.hid he0
    clear h2 h3 h4 hee hcs hrd he0 hcl
    by_cases he : ee = 0
    · subst he
      have hoc := HE0.out rfl
      have H4' := H4.out
      rw [hoc] at H4'
      have H5 := Lib.hid H4'
      clear H4 H4' hoc HE0 HRD
      go_enter Try.func5, Try.ntmps5
      go_wp2_with fail
      refine h1.mono ?_
      rintro e w1 ⟨v1, rfl, ho1, hb1⟩
      obtain ⟨A1, n1, c1, rfl, hs1⟩ := ho1.sl
      have hl1 := hs1.len
      clear ho1
      go_wp2_with fail
      refine (H2.out _ (hs.bel hb1) (hM.bel hb1)).mono ?_
      rintro e w2 ⟨v2, rfl, ho2, hb2⟩
      obtain ⟨A2, n2, c2, rfl, hs2⟩ := ho2.sl
      clear ho2
      have hB2 := below_then hb1 hb2
      go_wp2_with fail
      refine (H5.out _ _ _ _ (hs1.bel hb2) (by omega)).mono ?_
      rintro e w3 ⟨v3, rfl, ho3, hb3⟩
      obtain ⟨A3, n3, c3, rfl, hs3⟩ := ho3.sl
      clear ho3
      have hB3 := below_then hB2 hb3
      go_wp2_with fail
      refine (r01_Like (hs2.bel hb3) hs3).mono ?_
      rw [e1]
      rintro e w4 ⟨rfl, hb4⟩
      have hB4 := below_then hB3 hb4
      go_wp2_with fail
      refine (H3.out _ (hs.bel hB4) (hM.bel hB4)).mono ?_
      rintro e w5 ⟨rfl, hb5⟩
      have hB5 := below_then hB4 hb5
      go_wp2_with fail
      refine (r15_Read (hs.bel hB5) (by omega)).mono ?_
      rintro e w6 ⟨v6, rfl, ho6, hb6⟩
      obtain ⟨A6, n6, c6, rfl, hs6⟩ := ho6.sl
      have hl6 := hs6.len
      clear ho6
      have hB6 := below_then hB5 hb6
      go_wp2_with fail
      refine (p16_Loose (hs.bel hB6) (by omega)).mono ?_
      rintro e w7 ⟨v7, rfl, ho7, hb7⟩
      obtain ⟨A7, n7, c7, rfl, hs7⟩ := ho7.sl
      clear ho7
      have hB7 := below_then hB6 hb7
      have hs67 := hs6.bel hb7
      go_wp2_with fail
      refine (r01_Like hs7 hs67).mono ?_
      rw [e2]
      rintro e w8 ⟨rfl, hb8⟩
      have hB8 := below_then hB7 hb8
      have hs68 := hs67.bel hb8
      go_wp2_with fail
      refine (p16_Again (hs.bel hB8) (by omega)).mono ?_
      rintro e w9 ⟨v9, rfl, ho9, hb9⟩
      obtain ⟨A9, n9, c9, rfl, hs9⟩ := ho9.sl
      clear ho9
      have hB9 := below_then hB8 hb9
      have hs69 := hs68.bel hb9
      go_wp2_with fail
      refine (r16_Lay hs69 (by omega)).mono ?_
      rintro e wa ⟨va, rfl, hoa, hba⟩
      obtain ⟨Aa, na, ca, rfl, hsa⟩ := hoa.sl
      clear hoa
      have hBa := below_then hB9 hba
      go_wp2_with fail
      refine (r01_Like (hs9.bel hba) hsa).mono ?_
      rw [e3]
      rintro e wb ⟨rfl, hbb⟩
      have hBb := below_then hBa hbb
      go_wp2_with fail
      refine (alive16 (hM.bel hBb)).mono ?_
      rintro e wc ⟨rfl, hbc⟩
      go_wp2
      go_ret
      exact ⟨rfl, below_then hBb hbc⟩
    · have fe : (ee == 0) = false := by simpa using he
      have fe2 : (ee != 0) = true := by simpa using he
      have hr := HRD.out he
      rw [hr] at H2
      clear hr HE0 HRD e1
      go_enter Try.func5, Try.ntmps5
      go_wp2_with fail
      refine h1.mono ?_
      rintro e w1 ⟨v1, rfl, ho1, hb1⟩
      obtain ⟨A1, n1, c1, rfl, hs1⟩ := ho1.sl
      have hl1 := hs1.len
      clear ho1
      go_wp2_with fail
      refine (H2.out _ (hs.bel hb1) (hM.bel hb1)).mono ?_
      rintro e w2 ⟨v2, rfl, ho2, hb2⟩
      obtain ⟨A2, n2, c2, rfl, hs2⟩ := ho2.sl
      obtain rfl : n2 = 0 := hs2.len.symm
      clear ho2
      have hB2 := below_then hb1 hb2
      go_wp2_with fail
      refine (H4.out _ _ _ _ (hs1.bel hb2) (by omega)).mono ?_
      rintro e w3 ⟨v3, rfl, ho3, hb3⟩
      obtain ⟨A3, n3, c3, rfl, hs3⟩ := ho3.sl
      clear ho3
      have hB3 := below_then hB2 hb3
      go_wp2_with fail
      refine (H3.out _ (hs.bel hB3) (hM.bel hB3)).mono ?_
      rintro e w5 ⟨rfl, hb5⟩
      have hB5 := below_then hB3 hb5
      go_wp2_with fail
      refine (r15_Read (hs.bel hB5) (by omega)).mono ?_
      rintro e w6 ⟨v6, rfl, ho6, hb6⟩
      obtain ⟨A6, n6, c6, rfl, hs6⟩ := ho6.sl
      have hl6 := hs6.len
      clear ho6
      have hB6 := below_then hB5 hb6
      go_wp2_with fail
      refine (p16_Loose (hs.bel hB6) (by omega)).mono ?_
      rintro e w7 ⟨v7, rfl, ho7, hb7⟩
      obtain ⟨A7, n7, c7, rfl, hs7⟩ := ho7.sl
      clear ho7
      have hB7 := below_then hB6 hb7
      have hs67 := hs6.bel hb7
      go_wp2_with fail
      refine (r01_Like hs7 hs67).mono ?_
      rw [e2]
      rintro e w8 ⟨rfl, hb8⟩
      have hB8 := below_then hB7 hb8
      have hs68 := hs67.bel hb8
      go_wp2_with fail
      refine (p16_Again (hs.bel hB8) (by omega)).mono ?_
      rintro e w9 ⟨v9, rfl, ho9, hb9⟩
      obtain ⟨A9, n9, c9, rfl, hs9⟩ := ho9.sl
      clear ho9
      have hB9 := below_then hB8 hb9
      have hs69 := hs68.bel hb9
      go_wp2_with fail
      refine (r16_Lay hs69 (by omega)).mono ?_
      rintro e wa ⟨va, rfl, hoa, hba⟩
      obtain ⟨Aa, na, ca, rfl, hsa⟩ := hoa.sl
      clear hoa
      have hBa := below_then hB9 hba
      go_wp2_with fail
      refine (r01_Like (hs9.bel hba) hsa).mono ?_
      rw [e3]
      rintro e wb ⟨rfl, hbb⟩
      have hBb := below_then hBa hbb
      go_wp2_with fail
      refine (alive16 (hM.bel hBb)).mono ?_
      rintro e wc ⟨rfl, hbc⟩
      go_wp2
      go_ret
      exact ⟨rfl, below_then hBb hbc⟩
end Go.Proofs.Ytibnmekifaaacaa
