/- Layer 16's laws of what comes back, and of lines laid: each returns true for every input, and leaves what was there. Conditions: the argument reads as a list; the variable MaxLen holds a number. -/
import Derived.Test.Ytibnmekifaaacaa16L
namespace Go.Proofs.Ytibnmekifaaacaa
open Go.RowKit

theorem wrap_len2 (xs : List Int) (h : xs.length ≤ 1000) : (wrapL (layL xs)).length ≤ 1400 ∧ (layL xs).length ≤ 1340 := by
  have h6 := lenL_lay xs
  have h7 := wrap_len (layL xs)
  unfold lenL at h6
  split at h6 <;> omega
set_option maxRecDepth 100000 in
set_option maxHeartbeats 4000000 in
theorem law_BwrapBack {A n c xs} {w : World} (hM : MaxL w) (hs : Sl w .u8 A n c xs) : Calls Try.prog 6 #[.slice A n c] w (RetB (.bool true) w) := by
  by_cases hbig : 1000 < n
  · go_enter Try.func6, Try.ntmps6
    go_wp2_with (go_at_call 7; refine (alive16 hM).mono ?_; rintro e w1 ⟨rfl, hb⟩)
    go_ret
    exact ⟨rfl, hb⟩
  · have hln := hs.len
    have hwl := (wrap_len2 xs (by omega)).1
    obtain ⟨f1, f2, f3, f4⟩ := back16 (xs := xs) fun x hx => by have := hs.rng x hx; omega
    have hbo := fun (h : er16 xs = 0) => both16 h
    have e1 := likeL_self xs
    have e2 := likeL_self (wrapL (layL xs))
    have e3 := likeL_self (lrdL xs)
    have h1 := p16_Lay hs (by omega)
    have h2 := fun (W : World) (A : Option Addr) (n c : Nat) (h : Sl W .u8 A n c (wrapL (layL xs))) (hn : n ≤ 65536) (hm : MaxL W) => p16_Read h hn hm
    have h3 := fun (W : World) (A : Option Addr) (n c : Nat) (h : Sl W .u8 A n c (wrapL (layL xs))) (hn : n ≤ 65536) (hm : MaxL W) => p16_Check h hn hm
    have h4 := fun (W : World) (A : Option Addr) (n c : Nat) (h : Sl W .u8 A n c (wrapL (layL xs))) (hn : n ≤ 65536) => p16_Loose h hn
    have h5 := fun (W : World) (A : Option Addr) (n c : Nat) (h : Sl W .u8 A n c (wrapL (layL xs))) (hn : n ≤ 3000) => p16_Again h hn
    have h6 := fun (W : World) (h : Sl W .u8 A n c xs) (hm : MaxL W) => p16_Read h (by omega) hm
    simp only [f1, f2] at h2 h3
    simp only [f3] at h4 h5
    obtain ⟨zs, hzs⟩ : ∃ zs, wrapL (layL xs) = zs := ⟨_, rfl⟩
    obtain ⟨ee, hee⟩ : ∃ ee, er16 xs = ee := ⟨_, rfl⟩
    simp only [hzs] at h1 h2 h3 h4 h5 e2 hwl
    simp only [hee] at h6 hbo
    have H2 := Lib.hid h2; have H3 := Lib.hid h3; have H4 := Lib.hid h4; have H5 := Lib.hid h5; have H6 := Lib.hid h6; have HBO := Lib.hid hbo
    clear h2 h3 h4 h5 h6 f1 f2 f3 f4 hzs hee hbo
    go_enter Try.func6, Try.ntmps6
    go_wp2_with fail
    refine h1.mono ?_
    rintro e w1 ⟨v1, rfl, ho1, hb1⟩
    obtain ⟨A1, n1, c1, rfl, hs1⟩ := ho1.sl
    have hl1 := hs1.len
    clear ho1
    go_wp2_with fail
    refine (H2.out _ _ _ _ hs1 (by omega) (hM.bel hb1)).mono ?_
    rintro e w2 ⟨v2, rfl, ho2, hb2⟩
    obtain ⟨A2, n2, c2, rfl, hs2⟩ := ho2.sl
    clear ho2
    have hB2 := below_then hb1 hb2
    have hs12 := hs1.bel hb2
    go_wp2_with fail
    refine (r01_Like hs2 (hs.bel hB2)).mono ?_
    rw [e1]
    rintro e w3 ⟨rfl, hb3⟩
    have hB3 := below_then hB2 hb3
    have hs13 := hs12.bel hb3
    go_wp2_with fail
    refine (H3.out _ _ _ _ hs13 (by omega) (hM.bel hB3)).mono ?_
    rintro e w4 ⟨rfl, hb4⟩
    have hB4 := below_then hB3 hb4
    have hs14 := hs13.bel hb4
    go_wp2_with fail
    refine (H4.out _ _ _ _ hs14 (by omega)).mono ?_
    rintro e w5 ⟨v5, rfl, ho5, hb5⟩
    obtain ⟨A5, n5, c5, rfl, hs5⟩ := ho5.sl
    clear ho5
    have hB5 := below_then hB4 hb5
    have hs15 := hs14.bel hb5
    go_wp2_with fail
    refine (r01_Like hs5 (hs.bel hB5)).mono ?_
    rw [e1]
    rintro e w6 ⟨rfl, hb6⟩
    have hB6 := below_then hB5 hb6
    have hs16 := hs15.bel hb6
    go_wp2_with fail
    refine (H5.out _ _ _ _ hs16 (by omega)).mono ?_
    rintro e w7 ⟨v7, rfl, ho7, hb7⟩
    obtain ⟨A7, n7, c7, rfl, hs7⟩ := ho7.sl
    clear ho7
    have hB7 := below_then hB6 hb7
    have hs17 := hs16.bel hb7
    go_wp2_with fail
    refine (r01_Like hs7 hs17).mono ?_
    rw [e2]
    rintro e w8 ⟨rfl, hb8⟩
    have hB8 := below_then hB7 hb8
    go_wp2_with fail
    refine (H6.out _ (hs.bel hB8) (hM.bel hB8)).mono ?_
    rintro e w9 ⟨v9, rfl, ho9, hb9⟩
    obtain ⟨A9, n9, c9, rfl, hs9⟩ := ho9.sl
    clear ho9
    have hB9 := below_then hB8 hb9
    by_cases he : ee = 0
    · subst he
      have hbo := HBO.out rfl
      rw [← hbo] at hs9
      clear HBO hbo
      go_wp2_with fail
      refine (p16_Loose (hs.bel hB9) (by omega)).mono ?_
      rintro e wa ⟨va, rfl, hoa, hba⟩
      obtain ⟨Aa, na, ca, rfl, hsa⟩ := hoa.sl
      clear hoa
      have hBa := below_then hB9 hba
      go_wp2_with fail
      refine (r01_Like hsa (hs9.bel hba)).mono ?_
      rw [e3]
      rintro e wb ⟨rfl, hbb⟩
      have hBb := below_then hBa hbb
      go_wp2_with fail
      refine (alive16 (hM.bel hBb)).mono ?_
      rintro e wc ⟨rfl, hbc⟩
      go_wp2
      go_ret
      exact ⟨rfl, below_then hBb hbc⟩
    · have fe2 : (ee != 0) = true := by simpa using he
      clear HBO
      go_wp2_with fail
      refine (alive16 (hM.bel hB9)).mono ?_
      rintro e wc ⟨rfl, hbc⟩
      go_wp2
      go_ret
      exact ⟨rfl, below_then hB9 hbc⟩

set_option maxRecDepth 100000 in
set_option maxHeartbeats 4000000 in
theorem law_BwrapLines {A n c xs} {w : World} (hM : MaxL w) (hs : Sl w .u8 A n c xs) : Calls Try.prog 3 #[.slice A n c] w (RetB (.bool true) w) := by
  by_cases hbig : 1000 < n
  · go_enter Try.func3, Try.ntmps3
    go_wp2_with (go_at_call 7; refine (alive16 hM).mono ?_; rintro e w1 ⟨rfl, hb⟩)
    go_ret
    exact ⟨rfl, hb⟩
  · have hln := hs.len
    have hwl := (wrap_len2 xs (by omega)).1
    have hck := chkW_wrap (layL xs) (layL_no13 xs) 0
    have hlin : (0 : Int) + (((layL xs).length : Int) + 75) / 76 = linN (n : Int) := by unfold linN; rw [← hln, lenL_lay]; omega
    rw [hlin] at hck
    have hlb : 0 ≤ linN (n : Int) ∧ linN (n : Int) ≤ 1000 := by
      have := (wrap_len2 xs (by omega)).2
      omega
    have h1 := p16_Lay hs (by omega)
    have h2 := fun (W : World) => p16_Lines (n := (n : Int)) (w := W) (by omega)
    obtain ⟨zs, hzs⟩ : ∃ zs, wrapL (layL xs) = zs := ⟨_, rfl⟩
    obtain ⟨L, hL⟩ : ∃ L, linN (n : Int) = L := ⟨_, rfl⟩
    simp only [hzs, hL] at h1 h2 hck hwl hlb
    have HC := Lib.hid hck; have H2 := Lib.hid h2
    clear hzs hL hck h2 hlin
    obtain ⟨hlb1, hlb2⟩ := hlb
    go_enter Try.func3, Try.ntmps3
    go_wp2_with fail
    refine h1.mono ?_
    rintro e w1 ⟨v1, rfl, ho1, hb1⟩
    obtain ⟨A1, n1, c1, rfl, hs1⟩ := ho1.sl
    have hl1 := hs1.len
    have hle1 := hs1.le
    have hcm1 := hs1.cm
    unfold maxLen at hcm1
    clear ho1
    go_wp2
    go_loop [4, 5, 6] (fun g s i => ∃ (k : Nat) (a b : Nat), k ≤ n1 ∧ i = .int .i64 k ∧ g = .int .i64 a ∧ s = .int .i64 b ∧ a ≤ k ∧ b ≤ k ∧ Hid (chkW a b (zs.drop k) = some (0, L))) (fun _ _ i => n1 - (intOf i).toNat)
    case atStart => exact ⟨0, 0, 0, Nat.zero_le _, rfl, rfl, rfl, Nat.le_refl _, Nat.le_refl _, HC.out⟩
    case round =>
      obtain ⟨k, a, b, hk, rfl, rfl, rfl, hak, hbk, hI⟩ := hrel
      by_cases hlt : k < n1
      · obtain ⟨b3, o3, x, rfl, _, hcell, hwf, hd, _⟩ := hs1.get hlt
        by_cases hx : x = 13
        · subst hx
          have hI2 := hI.out
          rw [hd] at hI2
          by_cases hk1 : k + 1 < n1
          · obtain ⟨b2, o2, y, e2, _, hcell2, hwf2, hd2, _⟩ := hs1.get hk1
            injection e2 with e2; injection e2 with e21 e22 _
            subst e21; subst e22
            rw [hd2] at hI2
            by_cases hbad : (y ≠ 10 ∨ (a : Int) = 0 ∨ 76 < (a : Int) ∨ ((a : Int) < 76 ∧ zs.drop (k + 1 + 1) ≠ []))
            · rw [chkW_bad hbad] at hI2
              exact absurd hI2 (by simp)
            · rw [chkW_good hbad] at hI2
              have hy : y = 10 := by
                by_cases h : y = 10
                · exact h
                · exact absurd (.inl h) hbad
              have ha0 : a ≠ 0 := fun h => hbad (.inr (.inl (by omega)))
              have ha1 : a ≤ 76 := by
                rcases Nat.lt_or_ge 76 a with h | h
                · exact absurd (.inr (.inr (.inl (by omega)))) hbad
                · exact h
              have ha2 : a < 76 → k + 2 = n1 := by
                intro h
                by_cases h5 : zs.drop (k + 1 + 1) = []
                · have := congrArg List.length h5
                  rw [List.length_drop, List.length_nil] at this
                  omega
                · exact absurd (.inr (.inr (.inr ⟨by omega, h5⟩))) hbad
              subst hy
              have fa : ((a : Int) == 0) = false := by simpa using ha0
              have HE : Hid (chkW ((0 : Nat) : Int) ((b + 1 : Nat) : Int) (zs.drop (k + 2)) = some (0, L)) := by
                show _ = _
                push_cast
                exact hI2
              clear hI hd hd2 hI2 hbad
              by_cases h76 : a < 76
              · have hke := ha2 h76
                have fk : ((k : Int) + 2 != (n1 : Int)) = false := by simp; omega
                go_wp2
                (go_round; (case rel => exact ⟨k + 2, 0, b + 1, by omega, by go_num, rfl, by go_num, by omega, by omega, HE⟩); (case measure => first | (simp [intOf] <;> omega) | (simp [lenOf] <;> omega)))
              · go_wp2
                (go_round; (case rel => exact ⟨k + 2, 0, b + 1, by omega, by go_num, rfl, by go_num, by omega, by omega, HE⟩); (case measure => first | (simp [intOf] <;> omega) | (simp [lenOf] <;> omega)))
          · have e5 : zs.drop (k + 1) = [] := List.drop_eq_nil_of_le (by omega)
            rw [e5, chkW_last] at hI2
            exact absurd hI2 (by simp)
        · have fx : (x != 13) = true := by simpa using hx
          have HE : Hid (chkW ((a + 1 : Nat) : Int) (b : Int) (zs.drop (k + 1)) = some (0, L)) := by
            show _ = _
            have hI2 := hI.out
            rw [hd, chkW_on hx] at hI2
            push_cast
            exact hI2
          clear hI hd
          go_wp2
          (go_round; (case rel => exact ⟨k + 1, a + 1, b, by omega, by go_num, by go_num, rfl, by omega, by omega, HE⟩); (case measure => first | (simp [intOf] <;> omega) | (simp [lenOf] <;> omega)))
      · have hI2 := hI.out
        rw [List.drop_eq_nil_of_le (by omega), chkW] at hI2
        have h5 : (a : Int) = 0 ∧ (b : Int) = L := by simpa using hI2
        obtain ⟨h5a, h5b⟩ := h5
        obtain rfl : a = 0 := by omega
        clear hI hI2
        go_wp2_with fail
        refine (H2.out _).mono ?_
        rintro e w' ⟨rfl, rfl⟩
        go_wp2_with fail
        refine (alive16 (hM.bel hb1)).mono ?_
        rintro e wc ⟨rfl, hbc⟩
        go_wp2
        go_ret
        exact ⟨rfl, below_then hb1 hbc⟩
end Go.Proofs.Ytibnmekifaaacaa
