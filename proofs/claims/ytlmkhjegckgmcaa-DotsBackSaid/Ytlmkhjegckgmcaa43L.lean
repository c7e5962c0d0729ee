/- Layer 43's laws: each returns true for every input, and leaves what was there. Conditions: the arguments read as lists; the variable MaxLen holds a number. -/
import Derived.Test.Ytlmkhjegckgmcaa43G
namespace Go.Proofs.Ytlmkhjegckgmcaa
open Go.RowKit

theorem r43_Dotted_take {ls : List (List Int)} {k : Nat} {x : List Int} (h : ls.take (k + 1) = ls.take k ++ [x]) (hx : dotV x = false) : dotN (ls.take (k + 1)) = dotN (ls.take k) := by
  rw [dotN_take h, hx]; simp
set_option maxRecDepth 100000 in
set_option maxHeartbeats 1000000 in
theorem r43_Dotted {A n c xs} {w : World} (hs : Sl w .u8 A n c xs) (hn : n ≤ 1048576) : Calls Try.prog 37 #[.slice A n c] w (RetB (.int .i64 (dotN (splitL xs))) w) := by
  have hl := hs.len
  have h2 := split_len xs
  obtain ⟨ls, hls⟩ : ∃ ls, splitL xs = ls := ⟨_, rfl⟩
  have hp := r26_Split hs (by omega)
  rw [hls] at hp h2
  rw [hls]
  clear hls
  go_enter Try.func37, Try.ntmps37
  go_wp2_with fail
  refine hp.mono ?_
  rintro e w1 ⟨A1, n1, c1, rfl, hL1, hb1⟩
  have hl1 := hL1.len
  have hle1 := hL1.le
  have hcm1 := hL1.cm
  unfold maxLen at hcm1
  clear hp
  go_wp2
  go_loopw [3, 5] (fun m i wr => ∃ k : Nat, k ≤ n1 ∧ i = .int .i64 k ∧ m = .int .i64 (dotN (ls.take k)) ∧ Below w1.heap.size w1 wr) (fun _ i _ => n1 - (intOf i).toNat)
  case atStart => exact ⟨0, Nat.zero_le _, rfl, rfl, Below.refl _ _⟩
  case round =>
    obtain ⟨k, hk, rfl, rfl, hbel1⟩ := hrel
    have hd0 := dotN_le (ls.take k)
    have hkl : (ls.take k).length ≤ k := by simp; omega
    by_cases hlt : k < n1
    · obtain ⟨b, o, A', n', c', x, rfl, hb, hcell, hx, _, _, ht⟩ := (hL1.bel hbel1).get hlt
      have HT := Lib.hid (dotN_take ht)
      have hxn := hx.len
      have hxle := hx.le
      have hxcm := hx.cm
      unfold maxLen at hxcm
      have hcase : (n' = 0 ∧ dotV x = false) ∨ (0 < n' ∧ ∃ b' o' z, A' = some ⟨b', o', none⟩ ∧ wr.cell? ⟨b', o', none⟩ = some (.int .u8 z) ∧ dotV x = (z == 46)) := by
        rcases Nat.eq_zero_or_pos n' with h0 | h0
        · exact .inl ⟨h0, by rw [List.eq_nil_of_length_eq_zero (show x.length = 0 by omega)]; rfl⟩
        · obtain ⟨b', o', z, e, _, hc, _, hd, _⟩ := hx.get (j := 0) h0
          refine .inr ⟨h0, b', o', z, e, by simpa using hc, ?_⟩
          rw [List.drop_zero] at hd
          rw [hd, dotV_cons, Bool.eq_iff_iff]; simp
      clear ht
      rcases hcase with ⟨h0, hv⟩ | ⟨h0, b', o', z, rfl, hz, hv⟩
      · subst h0
        have HV := Lib.hid hv; clear hv
        go_wp2
        (first | (go_roundw; (case rel => exact ⟨k + 1, by omega, by go_num, vint (by rw [HT.out, HV.out]; simp), hbel1⟩); (case measure => first | (simp [intOf] <;> omega) | (simp [lenOf] <;> omega))) | (refine ⟨?_, ?measure⟩; (repeat apply Exists.intro); refine ⟨?rel, ?eqs⟩; (case eqs => first | rfl | ((repeat (refine ⟨rfl, ?_⟩)); rfl)); (case rel => exact ⟨k + 1, by omega, by go_num, vint (by rw [HT.out, HV.out]; simp), hbel1⟩); (case measure => first | (simp [intOf] <;> omega) | (simp [lenOf] <;> omega))) | ((repeat apply Exists.intro); refine ⟨?rel, ?eqs⟩; (case eqs => first | rfl | ((repeat (refine ⟨rfl, ?_⟩)); rfl)); (case rel => exact ⟨k + 1, by omega, by go_num, vint (by rw [HT.out, HV.out]; simp), hbel1⟩)))
      · by_cases h46 : z = 46
        · subst h46
          have HV := Lib.hid hv; clear hv
          go_wp2
          (first | (go_roundw; (case rel => exact ⟨k + 1, by omega, by go_num, vint (by rw [HT.out, HV.out]; rfl), hbel1⟩); (case measure => first | (simp [intOf] <;> omega) | (simp [lenOf] <;> omega))) | (refine ⟨?_, ?measure⟩; (repeat apply Exists.intro); refine ⟨?rel, ?eqs⟩; (case eqs => first | rfl | ((repeat (refine ⟨rfl, ?_⟩)); rfl)); (case rel => exact ⟨k + 1, by omega, by go_num, vint (by rw [HT.out, HV.out]; rfl), hbel1⟩); (case measure => first | (simp [intOf] <;> omega) | (simp [lenOf] <;> omega))) | ((repeat apply Exists.intro); refine ⟨?rel, ?eqs⟩; (case eqs => first | rfl | ((repeat (refine ⟨rfl, ?_⟩)); rfl)); (case rel => exact ⟨k + 1, by omega, by go_num, vint (by rw [HT.out, HV.out]; rfl), hbel1⟩)))
        · have f46 : (z == 46) = false := by simpa using h46
          rw [f46] at hv
          have HV := Lib.hid hv; clear hv h46
          go_wp2
          (first | (go_roundw; (case rel => exact ⟨k + 1, by omega, by go_num, vint (by rw [HT.out, HV.out]; simp), hbel1⟩); (case measure => first | (simp [intOf] <;> omega) | (simp [lenOf] <;> omega))) | (refine ⟨?_, ?measure⟩; (repeat apply Exists.intro); refine ⟨?rel, ?eqs⟩; (case eqs => first | rfl | ((repeat (refine ⟨rfl, ?_⟩)); rfl)); (case rel => exact ⟨k + 1, by omega, by go_num, vint (by rw [HT.out, HV.out]; simp), hbel1⟩); (case measure => first | (simp [intOf] <;> omega) | (simp [lenOf] <;> omega))) | ((repeat apply Exists.intro); refine ⟨?rel, ?eqs⟩; (case eqs => first | rfl | ((repeat (refine ⟨rfl, ?_⟩)); rfl)); (case rel => exact ⟨k + 1, by omega, by go_num, vint (by rw [HT.out, HV.out]; simp), hbel1⟩)))
    · rw [List.take_of_length_le (by omega)]
      go_wp2
      go_ret
      exact ⟨rfl, below_then hb1 hbel1⟩

set_option maxRecDepth 100000 in
set_option maxHeartbeats 1000000 in
theorem law_DotsSends {A n c xs A' n' c' ys} {w : World} (hM : MaxL w) (hs : Sl w .u8 A n c xs) (ht : Sl w .u8 A' n' c' ys) : Calls Try.prog 6 #[.slice A n c, .slice A' n' c'] w (RetB (.bool true) w) := by
  by_cases hbig : 600 < n
  · go_enter Try.func6, Try.ntmps6
    go_wp2_with (go_at_call 31; refine (alive43 hM).mono ?_; rintro e w1 ⟨rfl, hb⟩)
    go_ret
    exact ⟨rfl, hb⟩
  · by_cases hbig2 : 200 < n'
    · go_enter Try.func6, Try.ntmps6
      go_wp2_with (go_at_call 31; refine (alive43 hM).mono ?_; rintro e w1 ⟨rfl, hb⟩)
      go_ret
      exact ⟨rfl, hb⟩
    · obtain ⟨zs, hz⟩ : ∃ zs, sendV xs = zs := ⟨_, rfl⟩
      obtain ⟨d, hd⟩ : ∃ d, dotN (splitL xs) = d := ⟨_, rfl⟩
      obtain ⟨l, hl⟩ : ∃ l, lineV ys = l := ⟨_, rfl⟩
      have HZ := Lib.hid hz; have HD := Lib.hid hd; have HLn := Lib.hid hl
      clear hz hd hl
      go_enter Try.func6, Try.ntmps6
      go_wp2_with fail
      refine (p43_Send hs (by omega) hM).mono ?_
      rw [HZ.out]
      rintro e w1 ⟨v1, rfl, ho1, hb1⟩
      obtain ⟨A1, n1, c1, rfl, hs1⟩ := ho1.sl
      clear ho1
      go_wp2_with fail
      refine (r43_Send (hs.bel hb1) (by omega)).mono ?_
      rw [HZ.out]
      rintro e w2 ⟨v2, rfl, ho2, hb2⟩
      obtain ⟨A2, n2, c2, rfl, hs2⟩ := ho2.sl
      clear ho2
      have hB2 := below_then hb1 hb2
      go_wp2_with fail
      refine (like_true (hs1.bel hb2) hs2).mono ?_
      rintro e w3 ⟨rfl, q3, hq3⟩
      have hb3 : Below w2.heap.size w2 w3 := by rw [hq3]; exact below_drewN (Below.refl _ _) _
      clear hq3
      have hB3 := below_then hB2 hb3
      go_wp2_with fail
      refine (p43_Line (ht.bel hB3) (by omega)).mono ?_
      rw [HLn.out]
      rintro e w4 ⟨v4, rfl, ho4, hb4⟩
      obtain ⟨A4, n4, c4, rfl, hs4⟩ := ho4.sl
      clear ho4
      have hB4 := below_then hB3 hb4
      go_wp2_with fail
      refine (r43_Line (ht.bel hB4) (by omega)).mono ?_
      rw [HLn.out]
      rintro e w5 ⟨A5, n5, c5, rfl, hs5, hb5⟩
      have hB5 := below_then hB4 hb5
      go_wp2_with fail
      refine (like_true (hs4.bel hb5) hs5).mono ?_
      rintro e w6 ⟨rfl, q6, hq6⟩
      have hb6 : Below w5.heap.size w5 w6 := by rw [hq6]; exact below_drewN (Below.refl _ _) _
      clear hq6
      have hB6 := below_then hB5 hb6
      go_wp2_with fail
      refine (p43_Dotted (hs.bel hB6) (by omega) (hM.bel hB6)).mono ?_
      rw [HD.out]
      rintro e w7 ⟨rfl, hb7⟩
      have hB7 := below_then hB6 hb7
      go_wp2_with fail
      refine (r43_Dotted (hs.bel hB7) (by omega)).mono ?_
      rw [HD.out]
      rintro e w8 ⟨rfl, hb8⟩
      have hB8 := below_then hB7 hb8
      go_wp2_with fail
      refine (alive43 (hM.bel hB8)).mono ?_
      rintro e w9 ⟨rfl, hb9⟩
      go_wp2
      go_ret
      exact ⟨rfl, below_then hB8 hb9⟩
end Go.Proofs.Ytlmkhjegckgmcaa
