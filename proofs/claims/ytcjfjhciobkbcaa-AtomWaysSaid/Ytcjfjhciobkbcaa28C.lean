/- Layer 28 (atom): what stands behind gaps, tokens, values: what the functions of the program and of the reference return. Conditions: the arguments read as lists; lengths at most 2^22. -/
import Derived.Test.Ytcjfjhciobkbcaa28B
namespace Go.Proofs.Ytcjfjhciobkbcaa
open Go.RowKit

theorem getD_drop {xs : List Int} {k : Nat} {x : Int} {r : List Int} (h : xs.drop k = x :: r) : xs.getD k 0 = x := by
  have : (xs.drop k)[0]? = some x := by rw [h]; rfl
  rw [List.getElem?_drop] at this
  simp only [Nat.add_zero] at this
  rw [List.getD_eq_getElem?_getD, this]; rfl
theorem skip_end {xs : List Int} {k : Nat} {c : Int} (h : xs.length ≤ gapL xs k) : skipV xs k c = (k, false) := by unfold skipV; rw [if_neg (by omega)]
theorem skip_yes {xs : List Int} {k : Nat} {c : Int} {r : List Int} (h : gapL xs k < xs.length) (hd : xs.drop (gapL xs k) = c :: r) : skipV xs k c = (gapL xs k + 1, true) := by unfold skipV; rw [if_pos ⟨h, getD_drop hd⟩]
theorem skip_no {xs : List Int} {k : Nat} {c x : Int} {r : List Int} (hd : xs.drop (gapL xs k) = x :: r) (h : ¬ x = c) : skipV xs k c = (k, false) := by unfold skipV; rw [if_neg (fun h2 => h (by rw [← getD_drop hd]; exact h2.2))]

set_option maxRecDepth 100000 in
set_option maxHeartbeats 1000000 in
theorem p28_Skip {A n c xs} {a y : Int} {w : World} (hs : Sl w .u8 A n c xs) (hn : n ≤ 4194304) : Calls Try.prog 45 #[.slice A n c, .int .i64 a, .int .u8 y] w (RetB (.tuple #[.int .i64 (skipV xs (withL n a) y).1, .bool (skipV xs (withL n a) y).2]) w) := by
  have HL := Lib.hid hs.len; have hle := hs.le; have hcm := hs.cm; unfold maxLen at hcm
  have hp := p28_Gap (a := a) hs hn
  have hq := @p28_within A n c xs a
  have hw := withL_le n a
  obtain ⟨j, hj⟩ : ∃ j, withL n a = j := ⟨_, rfl⟩
  rw [hj] at hp hw hq ⊢
  have hg := gapL_bd (xs := xs) (k := j) (by have := HL.out; omega)
  obtain ⟨g, hgg⟩ : ∃ g, gapL xs j = g := ⟨_, rfl⟩
  rw [HL.out, hgg] at hg
  rw [hgg] at hp
  obtain ⟨hg1, hg2⟩ := hg
  have HG := Lib.hid hgg
  clear hj hgg
  by_cases hlt : g < n
  · obtain ⟨bb, o, x, rfl, hbb, hcell, hwf, hd, _⟩ := hs.get hlt
    by_cases hx : x = y
    · subst hx
      have e := skip_yes (k := j) (c := x) (r := xs.drop (g + 1)) (by rw [HG.out, HL.out]; exact hlt) (by rw [HG.out]; exact hd)
      rw [e, HG.out]
      clear e hd
      go_enter Try.func45, Try.ntmps45
      go_wp2_with (go_at_call 42; refine hp.mono ?_; rintro e w1 ⟨rfl, hb1⟩; have hcell1 := (hb1.cell hbb).trans hcell)
      go_ret2
      exact ⟨ret2 (vint (by push_cast; rfl)) rfl, hb1⟩
    · have e := skip_no (k := j) (c := y) (by rw [HG.out]; exact hd) hx
      rw [e]
      have fx : (x != y) = true := by simpa using hx
      have fx2 : (x == y) = false := by simpa using hx
      clear e hd hx
      go_enter Try.func45, Try.ntmps45
      go_wp2_with (first | (go_at_call 42; refine hp.mono ?_; rintro e w1 ⟨rfl, hb1⟩; have hcell1 := (hb1.cell hbb).trans hcell; have hs1 := hs.bel hb1) | (go_at_call 69; refine (hq hs1).mono ?_; rintro e w' ⟨rfl, rfl⟩))
      go_ret2
      exact ⟨rfl, hb1⟩
  · obtain rfl : g = n := by omega
    have e := skip_end (xs := xs) (k := j) (c := y) (by rw [HG.out, HL.out]; omega)
    rw [e]
    clear e hlt
    go_enter Try.func45, Try.ntmps45
    go_wp2_with (first | (go_at_call 42; refine hp.mono ?_; rintro e w1 ⟨rfl, hb1⟩; have hs1 := hs.bel hb1) | (go_at_call 69; refine (hq hs1).mono ?_; rintro e w' ⟨rfl, rfl⟩))
    go_ret2
    exact ⟨rfl, hb1⟩
set_option maxRecDepth 100000 in
set_option maxHeartbeats 1000000 in
theorem r28_Skip {A n c xs} {a y : Int} {w : World} (hs : Sl w .u8 A n c xs) (hn : n ≤ 4194304) : Calls Try.prog 46 #[.slice A n c, .int .i64 a, .int .u8 y] w (Ret (.tuple #[.int .i64 (skipV xs (withL n a) y).1, .bool (skipV xs (withL n a) y).2]) w) := by
  have HL := Lib.hid hs.len; have hle := hs.le; have hcm := hs.cm; unfold maxLen at hcm
  have hp := r28_Gap (a := a) hs hn
  have hq := r28_within (a := a) hs
  have hw := withL_le n a
  obtain ⟨j, hj⟩ : ∃ j, withL n a = j := ⟨_, rfl⟩
  rw [hj] at hp hw hq ⊢
  have hg := gapL_bd (xs := xs) (k := j) (by have := HL.out; omega)
  obtain ⟨g, hgg⟩ : ∃ g, gapL xs j = g := ⟨_, rfl⟩
  rw [HL.out, hgg] at hg
  rw [hgg] at hp
  obtain ⟨hg1, hg2⟩ := hg
  have HG := Lib.hid hgg
  clear hj hgg
  by_cases hlt : g < n
  · obtain ⟨bb, o, x, rfl, hbb, hcell, hwf, hd, _⟩ := hs.get hlt
    by_cases hx : x = y
    · subst hx
      have e := skip_yes (k := j) (c := x) (r := xs.drop (g + 1)) (by rw [HG.out, HL.out]; exact hlt) (by rw [HG.out]; exact hd)
      rw [e, HG.out]
      clear e hd
      go_enter Try.func46, Try.ntmps46
      go_wp2_with (go_at_call 47; refine hp.mono ?_; rintro e w1 ⟨rfl, rfl⟩)
      go_ret2
      exact ⟨ret2 (vint (by push_cast; rfl)) rfl, rfl⟩
    · have e := skip_no (k := j) (c := y) (by rw [HG.out]; exact hd) hx
      rw [e]
      have fx : (x != y) = true := by simpa using hx
      have fx2 : (x == y) = false := by simpa using hx
      clear e hd hx
      go_enter Try.func46, Try.ntmps46
      go_wp2_with (first | (go_at_call 47; refine hp.mono ?_; rintro e w1 ⟨rfl, rfl⟩) | (go_at_call 72; refine hq.mono ?_; rintro e w' ⟨rfl, rfl⟩))
      go_ret2
      exact ⟨rfl, rfl⟩
  · obtain rfl : g = n := by omega
    have e := skip_end (xs := xs) (k := j) (c := y) (by rw [HG.out, HL.out]; omega)
    rw [e]
    clear e hlt
    go_enter Try.func46, Try.ntmps46
    go_wp2_with (first | (go_at_call 47; refine hp.mono ?_; rintro e w1 ⟨rfl, rfl⟩) | (go_at_call 72; refine hq.mono ?_; rintro e w' ⟨rfl, rfl⟩))
    go_ret2
    exact ⟨rfl, rfl⟩

set_option maxRecDepth 100000 in
set_option maxHeartbeats 1000000 in
theorem p28_Depth {A n c xs} {w : World} (hs : Sl w .u8 A n c xs) (hn : n ≤ 4194304) : Calls Try.prog 48 #[.slice A n c] w (RetB (.int .i64 (depthV xs)) w) := by
  have HL := Lib.hid hs.len
  by_cases h0 : n = 0
  · subst h0
    obtain rfl : xs = [] := List.eq_nil_of_length_eq_zero HL.out
    go_enter Try.func48, Try.ntmps48
    go_wp2
    go_ret
    exact ⟨rfl, Below.refl _ _⟩
  · have hp := p28_over hs hn
    obtain ⟨bb, o, x, rfl, hbb, hcell, hwf, hd, _⟩ := hs.get (j := 0) (by omega)
    rw [List.drop_zero] at hd
    simp only [Nat.add_zero] at hcell
    have hne : ((n : Int) == 0) = false := by simpa using h0
    by_cases hx : x = 40
    · have e : depthV xs = commD xs := by rw [hd]; simp only [depthV]; rw [if_pos hx]
      rw [e]
      subst hx
      clear e hd
      go_enter Try.func48, Try.ntmps48
      go_wp2_with fail
      refine hp.mono ?_
      rintro e w1 ⟨rfl, hb1⟩
      go_wp2
      go_ret
      exact ⟨rfl, hb1⟩
    · have e : depthV xs = 0 := by rw [hd]; simp only [depthV]; rw [if_neg hx]
      rw [e]
      have fx : (x != 40) = true := by simpa using hx
      have fx2 : (x == 40) = false := by simpa using hx
      clear e hd hx
      go_enter Try.func48, Try.ntmps48
      go_wp2
      go_ret
      exact ⟨rfl, Below.refl _ _⟩
set_option maxRecDepth 100000 in
set_option maxHeartbeats 1000000 in
theorem r28_Depth {A n c xs} {w : World} (hs : Sl w .u8 A n c xs) (hn : n ≤ 4194304) : Calls Try.prog 49 #[.slice A n c] w (Ret (.int .i64 (depthV xs)) w) := by
  have HL := Lib.hid hs.len
  by_cases h0 : n = 0
  · subst h0
    obtain rfl : xs = [] := List.eq_nil_of_length_eq_zero HL.out
    go_enter Try.func49, Try.ntmps49
    go_wp2
    go_ret
    exact ⟨rfl, rfl⟩
  · have hp := r28_comment (j := 0) hs hn (by omega)
    obtain ⟨bb, o, x, rfl, hbb, hcell, hwf, hd, _⟩ := hs.get (j := 0) (by omega)
    rw [List.drop_zero] at hd hp
    simp only [Nat.add_zero] at hcell
    have hne : ((n : Int) == 0) = false := by simpa using h0
    by_cases hx : x = 40
    · have e : depthV xs = commD xs := by rw [hd]; simp only [depthV]; rw [if_pos hx]
      rw [e]
      subst hx
      clear e hd
      go_enter Try.func49, Try.ntmps49
      go_wp2_with fail
      refine hp.mono ?_
      rintro e w1 ⟨rfl, rfl⟩
      go_wp2
      go_ret
      exact ⟨rfl, rfl⟩
    · have e : depthV xs = 0 := by rw [hd]; simp only [depthV]; rw [if_neg hx]
      rw [e]
      have fx : (x != 40) = true := by simpa using hx
      have fx2 : (x == 40) = false := by simpa using hx
      clear e hd hx
      go_enter Try.func49, Try.ntmps49
      go_wp2
      go_ret
      exact ⟨rfl, rfl⟩

def tupV (V : List Int × Int × Int) (v : Value) : Value := .tuple #[v, .int .i64 V.2.1, .int .i64 V.2.2]
theorem tok_step {xs : List Int} {k : Nat} {x : Int} {r : List Int} (hd : xs.drop k = x :: r) (h : isL x 64 = true) : tokN (xs.drop k) = tokN (xs.drop (k + 1)) + 1 := by
  rw [← List.drop_drop, hd, tokN_yes h]; rfl
set_option maxRecDepth 100000 in
set_option maxHeartbeats 1000000 in
theorem p28_Token {A n c xs} {a : Int} {w : World} (hs : Sl w .u8 A n c xs) (hn : n ≤ 4194304) : Calls Try.prog 43 #[.slice A n c, .int .i64 a] w (RetOwn (tupV (tokV xs (withL n a))) 5 .u8 (tokV xs (withL n a)).1 w) := by
  have HL := Lib.hid hs.len; have hle := hs.le; have hcm := hs.cm; unfold maxLen at hcm
  have hw := withL_le n a
  obtain ⟨j, hj⟩ : ∃ j, withL n a = j := ⟨_, rfl⟩
  rw [hj] at hw ⊢
  have HJ := Lib.hid hj; clear hj
  go_enter Try.func43, Try.ntmps43
  go_wp2_with (go_at_call 69; refine (p28_within hs).mono ?_; rw [HJ.out]; rintro e w' ⟨rfl, rfl⟩)
  go_loop [7] (fun i => ∃ k : Nat, j ≤ k ∧ k ≤ n ∧ i = .int .i64 k ∧ Hid (tokN (xs.drop j) = k - j + tokN (xs.drop k))) (fun i => n - (intOf i).toNat)
  case atStart => exact ⟨j, by omega, hw, rfl, by show _ = _; omega⟩
  case round =>
    obtain ⟨k, hjk, hk, rfl, hI⟩ := hrel
    have hfin : k < n → ∀ x r, xs.drop k = x :: r → isL x 64 = false → tokN (xs.drop j) = k - j := by
      intro _ x r hd hq
      rw [hI.out, hd, tokN_no hq]; rfl
    by_cases hlt : k < n
    · obtain ⟨bb, o, x, rfl, hbb, hcell, hwf, hd, _⟩ := hs.get hlt
      cases hq : isL x 64 with
      | true =>
        have h5 : tokN (xs.drop j) = k + 1 - j + tokN (xs.drop (k + 1)) := by rw [hI.out, tok_step hd hq]; omega
        have HI := Lib.hid h5
        have HQ := Lib.hid hq
        clear hd hq hI h5 hfin
        go_wp2_with (go_at_call 59; refine (p01_Is hwf).mono ?_; rw [HQ.out]; rintro e w' ⟨rfl, rfl⟩)
        (go_round; (case rel => exact ⟨k + 1, by omega, by omega, by go_num, HI⟩); (case measure => first | (simp [intOf] <;> omega) | (simp [lenOf] <;> omega)))
      | false =>
        have h5 := hfin hlt x _ hd hq
        have hjn : ¬ j = n := by omega
        have hjn' : ((j : Int) == n) = false := by simp; omega
        by_cases hkj : k = j
        · subst hkj
          have e : tokV xs k = ([], 0, 3) := by unfold tokV; rw [HL.out, if_neg (by omega), if_pos (by omega)]
          have E := Lib.hid e
          have HQ := Lib.hid hq
          clear e h5 hd hq hI hfin
          go_wp2_with (go_at_call 59; refine (p01_Is hwf).mono ?_; rw [HQ.out]; rintro e w' ⟨rfl, rfl⟩)
          go_ret3
          rw [E.out]
          exact ⟨_, rfl, Own.nil _ _ _ _, Below.refl _ _⟩
        · have e : tokV xs j = ((xs.drop j).take (k - j), (k : Int), 0) := by
            unfold tokV; rw [HL.out, if_neg (by omega), if_neg (by omega), h5, show j + (k - j) = k from by omega]
          have E := Lib.hid e
          have hs2 := hs.cutAt (lo := j) (hi := k) (m := k - j) (c' := c - j) (by omega) (by omega) rfl rfl
          have ht : (xs.take k).drop j = (xs.drop j).take (k - j) := List.drop_take
          rw [ht] at hs2
          have hkj' : ((k : Int) == j) = false := by simp; omega
          have HQ := Lib.hid hq
          have hcj : ¬ c = j := by omega
          clear e h5 hd hq hI hfin ht hkj
          go_wp2_with (first | (go_at_call 59; refine (p01_Is hwf).mono ?_; rw [HQ.out]; rintro e w' ⟨rfl, rfl⟩) | (go_at_call 71; refine (lib_BClone hs2 (by omega)).mono ?_; rintro e w1 ⟨v1, rfl, ho1, hb1⟩))
          go_ret3
          rw [E.out]
          exact ⟨v1, rfl, ho1, hb1⟩
    · obtain rfl : k = n := by omega
      have h5 : tokN (xs.drop j) = k - j := by
        rw [hI.out, show xs.drop k = [] from List.drop_eq_nil_of_le (by have := HL.out; omega), tokN_nil]; rfl
      by_cases hkj : k = j
      · subst hkj
        have e : tokV xs k = ([], 0, 4) := by unfold tokV; rw [HL.out, if_pos (Nat.le_refl _)]
        have E := Lib.hid e
        clear e h5 hI hfin hlt
        go_wp2
        go_ret3
        rw [E.out]
        exact ⟨_, rfl, Own.nil _ _ _ _, Below.refl _ _⟩
      · have e : tokV xs j = ((xs.drop j).take (k - j), (k : Int), 0) := by
          unfold tokV; rw [HL.out, if_neg (by omega), if_neg (by omega), h5, show j + (k - j) = k from by omega]
        have E := Lib.hid e
        obtain ⟨bb, o, rfl, hbb⟩ := hs.form (by omega)
        have hs2 := hs.cutAt (lo := j) (hi := k) (m := k - j) (c' := c - j) (by omega) (by omega) rfl rfl
        have ht : (xs.take k).drop j = (xs.drop j).take (k - j) := List.drop_take
        rw [ht] at hs2
        have hkj' : ((k : Int) == j) = false := by simp; omega
        have hjk' : ((j : Int) == k) = false := by simp; omega
        have hcj : ¬ c = j := by omega
        clear e h5 hI hfin ht hkj hlt
        go_wp2_with (go_at_call 71; refine (lib_BClone hs2 (by omega)).mono ?_; rintro e w1 ⟨v1, rfl, ho1, hb1⟩)
        go_ret3
        rw [E.out]
        exact ⟨v1, rfl, ho1, hb1⟩
set_option maxRecDepth 100000 in
set_option maxHeartbeats 1000000 in
theorem r28_Token {A n c xs} {a : Int} {w : World} (hs : Sl w .u8 A n c xs) (hn : n ≤ 4194304) : Calls Try.prog 50 #[.slice A n c, .int .i64 a] w (RetSl (tupV (tokV xs (withL n a))) .u8 (tokV xs (withL n a)).1 w) := by
  have HL := Lib.hid hs.len; have hle := hs.le; have hcm := hs.cm; unfold maxLen at hcm
  have hw := withL_le n a
  obtain ⟨j, hj⟩ : ∃ j, withL n a = j := ⟨_, rfl⟩
  rw [hj] at hw ⊢
  have HJ := Lib.hid hj; clear hj
  by_cases hjn : j = n
  · subst hjn
    have e : tokV xs j = ([], 0, 4) := by unfold tokV; rw [HL.out, if_pos (Nat.le_refl _)]
    rw [e]
    clear e
    go_enter Try.func50, Try.ntmps50
    go_wp2_with (go_at_call 72; refine (r28_within hs).mono ?_; rw [HJ.out]; rintro e w' ⟨rfl, rfl⟩)
    go_ret3
    exact ⟨_, _, _, rfl, Sl.nil _ _, Below.refl _ _⟩
  have hjn' : ((j : Int) == n) = false := by simp; omega
  go_enter Try.func50, Try.ntmps50
  go_wp2_with (go_at_call 72; refine (r28_within hs).mono ?_; rw [HJ.out]; rintro e w' ⟨rfl, rfl⟩)
  go_loop [8] (fun i => ∃ k : Nat, j ≤ k ∧ k ≤ n ∧ i = .int .i64 k ∧ Hid (tokN (xs.drop j) = k - j + tokN (xs.drop k))) (fun i => n - (intOf i).toNat)
  case atStart => exact ⟨j, by omega, hw, rfl, by show _ = _; omega⟩
  case round =>
    obtain ⟨k, hjk, hk, rfl, hI⟩ := hrel
    have hfin : k < n → ∀ x r, xs.drop k = x :: r → isL x 64 = false → tokN (xs.drop j) = k - j := by
      intro _ x r hd hq
      rw [hI.out, hd, tokN_no hq]; rfl
    by_cases hlt : k < n
    · obtain ⟨bb, o, x, rfl, hbb, hcell, hwf, hd, _⟩ := hs.get hlt
      cases hq : isL x 64 with
      | true =>
        have h5 : tokN (xs.drop j) = k + 1 - j + tokN (xs.drop (k + 1)) := by rw [hI.out, tok_step hd hq]; omega
        have HI := Lib.hid h5
        have HQ := Lib.hid hq
        clear hd hq hI h5 hfin
        go_wp2_with (go_at_call 56; refine (r01_Is hwf).mono ?_; rw [HQ.out]; rintro e w' ⟨rfl, rfl⟩)
        (go_round; (case rel => exact ⟨k + 1, by omega, by omega, by go_num, HI⟩); (case measure => first | (simp [intOf] <;> omega) | (simp [lenOf] <;> omega)))
      | false =>
        have h5 := hfin hlt x _ hd hq
        by_cases hkj : k = j
        · subst hkj
          have e : tokV xs k = ([], 0, 3) := by unfold tokV; rw [HL.out, if_neg (by omega), if_pos (by omega)]
          have E := Lib.hid e
          have HQ := Lib.hid hq
          clear e h5 hd hq hI hfin
          go_wp2_with (go_at_call 56; refine (r01_Is hwf).mono ?_; rw [HQ.out]; rintro e w' ⟨rfl, rfl⟩)
          go_ret3
          rw [E.out]
          exact ⟨_, _, _, rfl, Sl.nil _ _, Below.refl _ _⟩
        · have e : tokV xs j = ((xs.drop j).take (k - j), (k : Int), 0) := by
            unfold tokV; rw [HL.out, if_neg (by omega), if_neg (by omega), h5, show j + (k - j) = k from by omega]
          have E := Lib.hid e
          have hs2 := hs.cutAt (lo := j) (hi := k) (m := k - j) (c' := c - j) (by omega) (by omega) rfl rfl
          have ht : (xs.take k).drop j = (xs.drop j).take (k - j) := List.drop_take
          rw [ht] at hs2
          have hkj' : ((k : Int) == j) = false := by simp; omega
          have HQ := Lib.hid hq
          have hcj : ¬ c = j := by omega
          clear e h5 hd hq hI hfin ht hkj
          go_wp2_with (go_at_call 56; refine (r01_Is hwf).mono ?_; rw [HQ.out]; rintro e w' ⟨rfl, rfl⟩)
          go_ret3
          rw [E.out]
          exact ⟨_, _, _, rfl, hs2, Below.refl _ _⟩
    · obtain rfl : k = n := by omega
      have h5 : tokN (xs.drop j) = k - j := by
        rw [hI.out, show xs.drop k = [] from List.drop_eq_nil_of_le (by have := HL.out; omega), tokN_nil]; rfl
      have hkj : ¬ k = j := by omega
      have e : tokV xs j = ((xs.drop j).take (k - j), (k : Int), 0) := by
        unfold tokV; rw [HL.out, if_neg (by omega), if_neg (by omega), h5, show j + (k - j) = k from by omega]
      have E := Lib.hid e
      obtain ⟨bb, o, rfl, hbb⟩ := hs.form (by omega)
      have hs2 := hs.cutAt (lo := j) (hi := k) (m := k - j) (c' := c - j) (by omega) (by omega) rfl rfl
      have ht : (xs.take k).drop j = (xs.drop j).take (k - j) := List.drop_take
      rw [ht] at hs2
      have hkj' : ((k : Int) == j) = false := by simp; omega
      have hcj : ¬ c = j := by omega
      clear e h5 hI hfin ht hkj hlt
      go_wp2
      go_ret3
      rw [E.out]
      exact ⟨_, _, _, rfl, hs2, Below.refl _ _⟩
end Go.Proofs.Ytcjfjhciobkbcaa
