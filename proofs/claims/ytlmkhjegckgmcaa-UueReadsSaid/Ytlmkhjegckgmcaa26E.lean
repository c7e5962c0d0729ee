/- Layer 26 (lines): short lines, octets as they are: what the functions of the program and of the reference return. Conditions: the arguments read as lists; lengths at most 2^22; the variable MaxLen holds a number. -/
import Derived.Test.Ytlmkhjegckgmcaa26D
namespace Go.Proofs.Ytlmkhjegckgmcaa
open Go.RowKit

def fitA (m : Int) (ls : List (List Int)) : Bool := ls.all fun l => decide ((l.length : Int) ≤ m)
def fitK (f m : Int) (k : Nat) : List (List Int) → Bool
  | [] => true
  | l :: r => decide ((l.length : Int) ≤ m) && (decide (k ≠ 0) || decide ((l.length : Int) ≤ m - f)) && fitA m r
def fitsV (f m : Int) (ls : List (List Int)) : Bool := decide (0 ≤ f) && decide (0 ≤ m) && fitK f m 0 ls
theorem fitK_S (f m : Int) (k : Nat) (ls : List (List Int)) : fitK f m (k + 1) ls = fitA m ls := by
  cases ls with
  | nil => rfl
  | cons l r => simp [fitK, fitA]

/-- what both loops do -/
theorem fit_long {f m : Int} {k : Nat} {l : List Int} {r : List (List Int)} (h : m < l.length) : fitK f m k (l :: r) = false := by simp only [fitK]; rw [decide_eq_false (by omega)]; rfl
theorem fit_first {f m : Int} {l : List Int} {r : List (List Int)} (h : m - f < l.length) : fitK f m 0 (l :: r) = false := by simp only [fitK]; rw [decide_eq_false (show ¬ (l.length : Int) ≤ m - f by omega)]; simp
theorem fit_ok {f m : Int} {k : Nat} {l : List Int} {r : List (List Int)} (h : (l.length : Int) ≤ m) (h2 : k ≠ 0 ∨ (l.length : Int) ≤ m - f) : fitK f m k (l :: r) = fitK f m (k + 1) r := by
  rw [fitK_S]; simp only [fitK]
  rw [decide_eq_true h]
  rcases h2 with h2 | h2
  · rw [decide_eq_true h2]; simp
  · rw [decide_eq_true h2]; simp
set_option maxRecDepth 100000 in
set_option maxHeartbeats 1000000 in
theorem p26_Fits {A n c xs} {f m : Int} {w : World} (hs : Sl w .u8 A n c xs) (hn : n ≤ 4194304) (hM : MaxL w) (hf : (Lit.int .i64 f).wf = true) (hm : (Lit.int .i64 m).wf = true) :
    Calls Try.prog 16 #[.slice A n c, .int .i64 f, .int .i64 m] w (RetB (.bool (fitsV f m (splitL xs))) w) := by
  obtain ⟨f1, f2⟩ := wf_i64.1 hf
  obtain ⟨m1, m2⟩ := wf_i64.1 hm
  clear hf hm
  by_cases hf0 : f < 0
  · have e : fitsV f m (splitL xs) = false := by unfold fitsV; rw [decide_eq_false (by omega)]; rfl
    rw [e]
    clear e
    go_enter Try.func16, Try.ntmps16
    go_wp2
    go_ret
    exact ⟨rfl, Below.refl _ _⟩
  by_cases hm0 : m < 0
  · have e : fitsV f m (splitL xs) = false := by unfold fitsV; rw [decide_eq_false (show ¬ 0 ≤ m by omega)]; simp
    rw [e]
    clear e
    go_enter Try.func16, Try.ntmps16
    go_wp2
    go_ret
    exact ⟨rfl, Below.refl _ _⟩
  obtain ⟨ls, hls⟩ : ∃ ls, splitL xs = ls := ⟨_, rfl⟩
  have hp := p26_Split hs hn hM
  rw [hls] at hp ⊢
  have e : fitsV f m ls = fitK f m 0 ls := by unfold fitsV; rw [decide_eq_true (by omega), decide_eq_true (by omega)]; rfl
  rw [e]
  clear hls e
  go_enter Try.func16, Try.ntmps16
  go_wp2_with ((go_at_call 21; refine hp.mono ?_; rintro e w1 ⟨v1, rfl, ho1, hb1⟩); obtain ⟨A1, n1, c1, rfl, hL⟩ := ho1.lns)
  clear ho1
  have HL := Lib.hid hL.len
  have hcm := hL.cm
  have hle := hL.le
  unfold maxLen at hcm
  go_loop [18] (fun i => ∃ k : Nat, k ≤ n1 ∧ i = .int .i64 k ∧ Hid (fitK f m 0 ls = fitK f m k (ls.drop k))) (fun i => n1 - (intOf i).toNat)
  case atStart => exact ⟨0, by omega, rfl, rfl⟩
  case round =>
    obtain ⟨k, hk, rfl, hI⟩ := hrel
    by_cases hlt : k < n1
    · obtain ⟨b, o, A', n', c', x, rfl, hb, hcell, hx, _, hd, _⟩ := hL.get hlt
      have hI2 := hI.out
      rw [hd] at hI2
      have hxl := hx.len
      have hxc := hx.le
      have hxm := hx.cm
      unfold maxLen at hxm
      clear hd hI
      by_cases hlong : m < n'
      · rw [fit_long (by rw [hxl]; exact hlong)] at hI2
        have HI := Lib.hid hI2
        clear hI2 hxl
        go_wp2
        go_ret
        exact ⟨ret_bool HI.out.symm, hb1⟩
      · by_cases hk0 : k = 0
        · subst hk0
          simp only [Nat.add_zero] at hcell
          by_cases hfl : m - f < n'
          · rw [fit_first (by rw [hxl]; exact hfl)] at hI2
            have HI := Lib.hid hI2
            clear hI2 hxl
            go_wp2
            go_ret
            exact ⟨ret_bool HI.out.symm, hb1⟩
          · rw [fit_ok (by rw [hxl]; omega) (.inr (by rw [hxl]; omega))] at hI2
            have HI := Lib.hid hI2
            clear hI2 hxl
            go_wp2
            (go_round; (case rel => exact ⟨0 + 1, by omega, by go_num, HI⟩); (case measure => first | (simp [intOf] <;> omega) | (simp [lenOf] <;> omega)))
        · have i0 : ((k : Int) == 0) = false := by simp; omega
          rw [fit_ok (by rw [hxl]; omega) (.inl hk0)] at hI2
          have HI := Lib.hid hI2
          clear hI2 hxl hk0
          go_wp2
          (go_round; (case rel => exact ⟨k + 1, by omega, by go_num, HI⟩); (case measure => first | (simp [intOf] <;> omega) | (simp [lenOf] <;> omega)))
    · have hI2 := hI.out
      rw [List.drop_eq_nil_of_le (by have := HL.out; omega)] at hI2
      have HI : Hid (fitK f m 0 ls = true) := hI2
      clear hI hI2
      go_wp2
      go_ret
      exact ⟨ret_bool HI.out.symm, hb1⟩
set_option maxRecDepth 100000 in
set_option maxHeartbeats 1000000 in
theorem r26_Fits {A n c xs} {f m : Int} {w : World} (hs : Sl w .u8 A n c xs) (hn : n ≤ 4194304) (hf : (Lit.int .i64 f).wf = true) (hm : (Lit.int .i64 m).wf = true) :
    Calls Try.prog 17 #[.slice A n c, .int .i64 f, .int .i64 m] w (RetB (.bool (fitsV f m (splitL xs))) w) := by
  obtain ⟨f1, f2⟩ := wf_i64.1 hf
  obtain ⟨m1, m2⟩ := wf_i64.1 hm
  clear hf hm
  by_cases hf0 : f < 0
  · have e : fitsV f m (splitL xs) = false := by unfold fitsV; rw [decide_eq_false (by omega)]; rfl
    rw [e]
    clear e
    go_enter Try.func17, Try.ntmps17
    go_wp2
    go_ret
    exact ⟨rfl, Below.refl _ _⟩
  by_cases hm0 : m < 0
  · have e : fitsV f m (splitL xs) = false := by unfold fitsV; rw [decide_eq_false (show ¬ 0 ≤ m by omega)]; simp
    rw [e]
    clear e
    go_enter Try.func17, Try.ntmps17
    go_wp2
    go_ret
    exact ⟨rfl, Below.refl _ _⟩
  obtain ⟨ls, hls⟩ : ∃ ls, splitL xs = ls := ⟨_, rfl⟩
  have hp := r26_Split hs hn
  rw [hls] at hp ⊢
  have e : fitsV f m ls = fitK f m 0 ls := by unfold fitsV; rw [decide_eq_true (by omega), decide_eq_true (by omega)]; rfl
  rw [e]
  clear hls e
  go_enter Try.func17, Try.ntmps17
  go_wp2_with ((go_at_call 22; refine hp.mono ?_; rintro e w1 ⟨A1, n1, c1, rfl, hL, hb1⟩))
  have HL := Lib.hid hL.len
  have hcm := hL.cm
  have hle := hL.le
  unfold maxLen at hcm
  go_loop [8] (fun i => ∃ k : Nat, k ≤ n1 ∧ i = .int .i64 k ∧ Hid (fitK f m 0 ls = fitK f m k (ls.drop k))) (fun i => n1 - (intOf i).toNat)
  case atStart => exact ⟨0, by omega, rfl, rfl⟩
  case round =>
    obtain ⟨k, hk, rfl, hI⟩ := hrel
    by_cases hlt : k < n1
    · obtain ⟨b, o, A', n', c', x, rfl, hb, hcell, hx, _, hd, _⟩ := hL.get hlt
      have hI2 := hI.out
      rw [hd] at hI2
      have hxl := hx.len
      have hxc := hx.le
      have hxm := hx.cm
      unfold maxLen at hxm
      clear hd hI
      by_cases hlong : m < n'
      · rw [fit_long (by rw [hxl]; exact hlong)] at hI2
        have HI := Lib.hid hI2
        clear hI2 hxl
        go_wp2
        go_ret
        exact ⟨ret_bool HI.out.symm, hb1⟩
      · by_cases hk0 : k = 0
        · subst hk0
          simp only [Nat.add_zero] at hcell
          by_cases hfl : m - f < n'
          · rw [fit_first (by rw [hxl]; exact hfl)] at hI2
            have HI := Lib.hid hI2
            clear hI2 hxl
            go_wp2
            go_ret
            exact ⟨ret_bool HI.out.symm, hb1⟩
          · rw [fit_ok (by rw [hxl]; omega) (.inr (by rw [hxl]; omega))] at hI2
            have HI := Lib.hid hI2
            clear hI2 hxl
            go_wp2
            (go_round; (case rel => exact ⟨0 + 1, by omega, by go_num, HI⟩); (case measure => first | (simp [intOf] <;> omega) | (simp [lenOf] <;> omega)))
        · have i0 : ((k : Int) == 0) = false := by simp; omega
          rw [fit_ok (by rw [hxl]; omega) (.inl hk0)] at hI2
          have HI := Lib.hid hI2
          clear hI2 hxl hk0
          go_wp2
          (go_round; (case rel => exact ⟨k + 1, by omega, by go_num, HI⟩); (case measure => first | (simp [intOf] <;> omega) | (simp [lenOf] <;> omega)))
    · have hI2 := hI.out
      rw [List.drop_eq_nil_of_le (by have := HL.out; omega)] at hI2
      have HI : Hid (fitK f m 0 ls = true) := hI2
      clear hI hI2
      go_wp2
      go_ret
      exact ⟨ret_bool HI.out.symm, hb1⟩

def highV (xs : List Int) : Bool := xs.any fun x => decide (128 ≤ x)
def sevV (xs : List Int) (m : Int) : Int := if 0 < bareV 0 xs ∨ hasL xs 0 = true then 8 else if highV xs = true then 9 else if xs ≠ [] ∧ m < maxL (splitL xs) then 12 else 0
set_option maxRecDepth 100000 in
set_option maxHeartbeats 1000000 in
theorem p26_high {y : Int} {w : World} : Calls Try.prog 56 #[.int .u8 y] w (Ret (.bool (decide (128 ≤ y))) w) := by
  go_enter Try.func56, Try.ntmps56
  go_wp2
  go_ret
  exact ⟨rfl, rfl⟩
theorem p26_highE {y : Int} {b : Bool} {w : World} (h : decide (128 ≤ y) = b) : Calls Try.prog 56 #[.int .u8 y] w (Ret (.bool b) w) := h ▸ p26_high
theorem idx_has' (xs : List Int) (c : Int) : hasL xs c = decide (0 ≤ idx (isB c) xs 0) := by
  have h := idx_neg (isB c) xs
  have e : hasL xs c = xs.any (isB c) := rfl
  rw [e]
  cases h2 : xs.any (isB c) with
  | true => rw [h2] at h; simp at h; symm; simpa using h
  | false => have := h.2 h2; symm; simp; omega
set_option maxRecDepth 100000 in
set_option maxHeartbeats 1000000 in
theorem p26_Seven {A n c xs} {m : Int} {w : World} (hs : Sl w .u8 A n c xs) (hn : n ≤ 4194304) (hM : MaxL w) :
    Calls Try.prog 18 #[.slice A n c, .int .i64 m] w (RetB (.int .i64 (sevV xs m)) w) := by
  have HL := Lib.hid hs.len; have hle := hs.le; have hcm := hs.cm; unfold maxLen at hcm
  have hent := enters_of Try.func56 (by kernel_rfl) rfl
  go_enter Try.func18, Try.ntmps18
  go_wp2
  go_loop [6, 11] (fun v i => ∃ (k : Nat) (b : Bool), k ≤ n ∧ i = .int .i64 k ∧ v = .bool b ∧ Hid (highV xs = (b || highV (xs.drop k)))) (fun _ i => n - (intOf i).toNat)
  case atStart => exact ⟨0, false, by omega, rfl, rfl, rfl⟩
  case round =>
    obtain ⟨k, b, hk, rfl, rfl, hI⟩ := hrel
    by_cases hlt : k < n
    · obtain ⟨bb, o, x, rfl, hbb, hcell, hwf, hd, _⟩ := hs.get hlt
      have hI2 := hI.out
      rw [hd] at hI2
      have e : highV (x :: xs.drop (k + 1)) = (decide (128 ≤ x) || highV (xs.drop (k + 1))) := by simp [highV]
      rw [e] at hI2
      clear e hd hI
      cases b with
      | true =>
        have HI : Hid (highV xs = (true || highV (xs.drop (k + 1)))) := by show _ = _; rw [hI2]; rfl
        clear hI2
        go_wp2
        (go_round; (case rel => exact ⟨k + 1, true, by omega, by go_num, rfl, HI⟩); (case measure => first | (simp [intOf] <;> omega) | (simp [lenOf] <;> omega)))
      | false =>
        obtain ⟨q, hq⟩ : ∃ q, decide (128 ≤ x) = q := ⟨_, rfl⟩
        rw [hq] at hI2
        have HI : Hid (highV xs = (q || highV (xs.drop (k + 1)))) := by show _ = _; rw [hI2]; rfl
        have HQ := Lib.hid hq
        clear hI2 hq
        go_wp2_with (go_at_call 56; refine (p26_highE HQ.out).mono ?_; rintro e w' ⟨rfl, rfl⟩)
        (go_round; (case rel => exact ⟨k + 1, q, by omega, by go_num, rfl, HI⟩); (case measure => first | (simp [intOf] <;> omega) | (simp [lenOf] <;> omega)))
    · have hI2 := hI.out
      rw [List.drop_eq_nil_of_le (by have := HL.out; omega)] at hI2
      have hh : highV xs = b := by rw [hI2]; simp [highV]
      obtain ⟨t, ht⟩ : ∃ t, bareV 0 xs = t := ⟨_, rfl⟩
      obtain ⟨j, hj⟩ : ∃ j, idx (isB 0) xs 0 = j := ⟨_, rfl⟩
      obtain ⟨l, hl⟩ : ∃ l, maxL (splitL xs) = l := ⟨_, rfl⟩
      have hsv : sevV xs m = if 0 < t ∨ 0 ≤ j then 8 else if b = true then 9 else if 0 < n ∧ m < l then 12 else 0 := by
        unfold sevV
        have e1 : hasL xs 0 = true ↔ 0 ≤ j := by rw [idx_has', hj]; simp
        have e2 : xs ≠ [] ↔ 0 < n := by rw [← HL.out]; simp [List.length_pos_iff]
        simp only [ht, e1, hh, e2, hl]
      have HS := Lib.hid hsv
      have HT := Lib.hid ht; have HJ := Lib.hid hj; have HLm := Lib.hid hl
      clear hI hI2 hh hsv ht hj hl
      by_cases h1 : 0 < t
      · have HC : Hid (sevV xs m = 8) := by show _ = _; rw [HS.out, if_pos (.inl h1)]
        go_wp2_with (go_at_call 25; refine (p26_Bare hs hn hM).mono ?_; rw [HT.out]; rintro e w1 ⟨rfl, hb1⟩)
        go_ret
        exact ⟨ret_int HC.out.symm, hb1⟩
      · by_cases h2 : 0 ≤ j
        · have HC : Hid (sevV xs m = 8) := by show _ = _; rw [HS.out, if_pos (.inr h2)]
          go_wp2_with (first | (go_at_call 25; refine (p26_Bare hs hn hM).mono ?_; rw [HT.out]; rintro e w1 ⟨rfl, hb1⟩; have hs1 := hs.bel hb1) | (go_at_call 57; refine (lib_IndexByte hs1 (by decide)).mono ?_; rw [HJ.out]; rintro e w' ⟨rfl, rfl⟩))
          go_ret
          exact ⟨ret_int HC.out.symm, hb1⟩
        · have h12 : ¬ (0 < t ∨ 0 ≤ j) := by omega
          cases b with
          | true =>
            have HC : Hid (sevV xs m = 9) := by show _ = _; rw [HS.out, if_neg h12, if_pos rfl]
            go_wp2_with (first | (go_at_call 25; refine (p26_Bare hs hn hM).mono ?_; rw [HT.out]; rintro e w1 ⟨rfl, hb1⟩; have hs1 := hs.bel hb1) | (go_at_call 57; refine (lib_IndexByte hs1 (by decide)).mono ?_; rw [HJ.out]; rintro e w' ⟨rfl, rfl⟩))
            go_ret
            exact ⟨ret_int HC.out.symm, hb1⟩
          | false =>
            by_cases h3 : 0 < n
            · by_cases h4 : m < l
              · have HC : Hid (sevV xs m = 12) := by show _ = _; rw [HS.out, if_neg h12, if_neg (by decide), if_pos ⟨h3, h4⟩]
                go_wp2_with (first | (go_at_call 25; refine (p26_Bare hs hn hM).mono ?_; rw [HT.out]; rintro e w1 ⟨rfl, hb1⟩; have hs1 := hs.bel hb1; have hM1 := hM.bel hb1) | (go_at_call 57; refine (lib_IndexByte hs1 (by decide)).mono ?_; rw [HJ.out]; rintro e w' ⟨rfl, rfl⟩) | (go_at_call 14; refine (p26_Longest hs1 hn hM1).mono ?_; rw [HLm.out]; rintro e w2 ⟨rfl, hb2⟩))
                go_ret
                exact ⟨ret_int HC.out.symm, below_then hb1 hb2⟩
              · have HC : Hid (sevV xs m = 0) := by show _ = _; rw [HS.out, if_neg h12, if_neg (by decide), if_neg (fun h => h4 h.2)]
                go_wp2_with (first | (go_at_call 25; refine (p26_Bare hs hn hM).mono ?_; rw [HT.out]; rintro e w1 ⟨rfl, hb1⟩; have hs1 := hs.bel hb1; have hM1 := hM.bel hb1) | (go_at_call 57; refine (lib_IndexByte hs1 (by decide)).mono ?_; rw [HJ.out]; rintro e w' ⟨rfl, rfl⟩) | (go_at_call 14; refine (p26_Longest hs1 hn hM1).mono ?_; rw [HLm.out]; rintro e w2 ⟨rfl, hb2⟩))
                go_ret
                exact ⟨ret_int HC.out.symm, below_then hb1 hb2⟩
            · have HC : Hid (sevV xs m = 0) := by show _ = _; rw [HS.out, if_neg h12, if_neg (by decide), if_neg (fun h => h3 h.1)]
              go_wp2_with (first | (go_at_call 25; refine (p26_Bare hs hn hM).mono ?_; rw [HT.out]; rintro e w1 ⟨rfl, hb1⟩; have hs1 := hs.bel hb1) | (go_at_call 57; refine (lib_IndexByte hs1 (by decide)).mono ?_; rw [HJ.out]; rintro e w' ⟨rfl, rfl⟩))
              go_ret
              exact ⟨ret_int HC.out.symm, hb1⟩

theorem any_gt (ls : List (List Int)) (m : Int) : (ls.any fun l => decide (m < (l.length : Int))) = true ↔ ls ≠ [] ∧ m < maxL ls := by
  induction ls with
  | nil => simp
  | cons l r ih =>
    rw [List.any_cons, Bool.or_eq_true, ih, decide_eq_true_iff]
    have h0 := maxL_0 r
    have e : maxL (l :: r) = max (l.length : Int) (maxL r) := rfl
    rw [e]
    constructor
    · rintro (h | ⟨_, h⟩)
      · exact ⟨by simp, by omega⟩
      · exact ⟨by simp, by omega⟩
    · rintro ⟨_, h⟩
      by_cases h1 : m < l.length
      · exact .inl h1
      · refine .inr ⟨?_, by omega⟩
        intro hr
        subst hr
        simp [maxL] at h
        omega
set_option maxRecDepth 100000 in
set_option maxHeartbeats 1000000 in
theorem r26_Seven {A n c xs} {m : Int} {w : World} (hs : Sl w .u8 A n c xs) (hn : n ≤ 4194304) :
    Calls Try.prog 19 #[.slice A n c, .int .i64 m] w (RetB (.int .i64 (sevV xs m)) w) := by
  have HL := Lib.hid hs.len; have hle := hs.le; have hcm := hs.cm; unfold maxLen at hcm
  go_enter Try.func19, Try.ntmps19
  go_wp2
  go_loop [5, 6] (fun v i => ∃ (k : Nat) (b : Bool), k ≤ n ∧ i = .int .i64 k ∧ v = .bool b ∧ Hid (highV xs = (b || highV (xs.drop k)) ∧ hasL xs 0 = hasL (xs.drop k) 0)) (fun _ i => n - (intOf i).toNat)
  case atStart => exact ⟨0, false, by omega, rfl, rfl, rfl, rfl⟩
  case round =>
    obtain ⟨k, b, hk, rfl, rfl, hI⟩ := hrel
    by_cases hlt : k < n
    · obtain ⟨bb, o, x, rfl, hbb, hcell, hwf, hd, _⟩ := hs.get hlt
      obtain ⟨hI2, hI3⟩ := hI.out
      rw [hd] at hI2 hI3
      have e : highV (x :: xs.drop (k + 1)) = (decide (128 ≤ x) || highV (xs.drop (k + 1))) := by simp [highV]
      have e' : hasL (x :: xs.drop (k + 1)) 0 = (decide (x = 0) || hasL (xs.drop (k + 1)) 0) := by simp [hasL]
      rw [e] at hI2
      rw [e'] at hI3
      clear e e' hd hI
      by_cases hx : x = 0
      · subst hx
        have HC : Hid (sevV xs m = 8) := by show _ = _; unfold sevV; rw [if_pos (.inr (by rw [hI3]; rfl))]
        clear hI2 hI3
        go_wp2
        go_ret
        exact ⟨ret_int HC.out.symm, Below.refl _ _⟩
      · have f0 : (x == 0) = false := by simpa using hx
        rw [decide_eq_false hx, Bool.false_or] at hI3
        cases b with
        | true =>
          have HI : Hid (highV xs = (true || highV (xs.drop (k + 1))) ∧ hasL xs 0 = hasL (xs.drop (k + 1)) 0) := ⟨by rw [hI2]; rfl, hI3⟩
          clear hI2 hI3 hx
          go_wp2
          (go_round; (case rel => exact ⟨k + 1, true, by omega, by go_num, rfl, HI⟩); (case measure => first | (simp [intOf] <;> omega) | (simp [lenOf] <;> omega)))
        | false =>
          by_cases h128 : 127 < x
          · have HI : Hid (highV xs = (true || highV (xs.drop (k + 1))) ∧ hasL xs 0 = hasL (xs.drop (k + 1)) 0) := ⟨by rw [hI2, decide_eq_true (by omega)]; rfl, hI3⟩
            clear hI2 hI3 hx
            go_wp2
            (go_round; (case rel => exact ⟨k + 1, true, by omega, by go_num, rfl, HI⟩); (case measure => first | (simp [intOf] <;> omega) | (simp [lenOf] <;> omega)))
          · have HI : Hid (highV xs = (false || highV (xs.drop (k + 1))) ∧ hasL xs 0 = hasL (xs.drop (k + 1)) 0) := ⟨by rw [hI2, decide_eq_false (by omega)]; rfl, hI3⟩
            clear hI2 hI3 hx
            have d128 : decide (127 < x) = false := by simp; omega
            go_wp2
            (go_round; (case rel => exact ⟨k + 1, false, by omega, by go_num, rfl, HI⟩); (case measure => first | (simp [intOf] <;> omega) | (simp [lenOf] <;> omega)))
    · obtain ⟨hI2, hI3⟩ := hI.out
      rw [List.drop_eq_nil_of_le (by have := HL.out; omega)] at hI2 hI3
      have hh : highV xs = b := by rw [hI2]; simp [highV]
      have h0 : hasL xs 0 = false := hI3
      obtain ⟨t, ht⟩ : ∃ t, bareV 0 xs = t := ⟨_, rfl⟩
      obtain ⟨ls, hls⟩ : ∃ ls, splitL xs = ls := ⟨_, rfl⟩
      have hnil : xs ≠ [] ↔ ls ≠ [] := by
        rw [← hls]
        constructor
        · exact split_ne
        · intro h hx; rw [hx] at h; exact h rfl
      have hsv : sevV xs m = if 0 < t then 8 else if b = true then 9 else if (ls.any fun l => decide (m < (l.length : Int))) = true then 12 else 0 := by
        unfold sevV
        simp only [ht, h0, hh, hls, any_gt, hnil]
        simp
      have HS := Lib.hid hsv
      have HT := Lib.hid ht
      have hp := r26_Split hs hn
      rw [hls] at hp
      clear hI hI2 hI3 hh h0 hsv ht hls hnil
      by_cases h1 : 0 < t
      · have HC : Hid (sevV xs m = 8) := by show _ = _; rw [HS.out, if_pos h1]
        go_wp2_with (go_at_call 26; refine (r26_Bare hs hn).mono ?_; rw [HT.out]; rintro e w1 ⟨rfl, rfl⟩)
        go_ret
        exact ⟨ret_int HC.out.symm, Below.refl _ _⟩
      · cases b with
        | true =>
          have HC : Hid (sevV xs m = 9) := by show _ = _; rw [HS.out, if_neg h1, if_pos rfl]
          go_wp2_with (go_at_call 26; refine (r26_Bare hs hn).mono ?_; rw [HT.out]; rintro e w1 ⟨rfl, rfl⟩)
          go_ret
          exact ⟨ret_int HC.out.symm, Below.refl _ _⟩
        | false =>
          have HS2 : Hid (sevV xs m = if (ls.any fun l => decide (m < (l.length : Int))) = true then 12 else 0) := by show _ = _; rw [HS.out, if_neg h1, if_neg (by decide)]
          clear HS
          go_wp2_with (first | (go_at_call 26; refine (r26_Bare hs hn).mono ?_; rw [HT.out]; rintro e w1 ⟨rfl, rfl⟩) | (go_at_call 22; refine hp.mono ?_; rintro e w1 ⟨A1, n1, c1, rfl, hL, hb1⟩))
          have HL1 := Lib.hid hL.len
          have hcm1 := hL.cm
          have hle1 := hL.le
          unfold maxLen at hcm1
          go_loop [8] (fun i => ∃ k : Nat, k ≤ n1 ∧ i = .int .i64 k ∧ Hid (sevV xs m = if ((ls.drop k).any fun l => decide (m < (l.length : Int))) = true then 12 else 0)) (fun i => n1 - (intOf i).toNat)
          case atStart => exact ⟨0, by omega, rfl, HS2⟩
          case round =>
            clear HS2
            obtain ⟨k, hk, rfl, hI⟩ := hrel
            by_cases hlt : k < n1
            · obtain ⟨b, o, A', n', c', x, rfl, hb, hcell, hx, _, hd, _⟩ := hL.get hlt
              have hI2 := hI.out
              rw [hd, List.any_cons, hx.len] at hI2
              have hxc := hx.le
              have hxm := hx.cm
              unfold maxLen at hxm
              clear hd hI
              by_cases hlong : m < n'
              · have HC : Hid (sevV xs m = 12) := by show _ = _; rw [hI2, decide_eq_true hlong]; rfl
                clear hI2
                go_wp2
                go_ret
                exact ⟨ret_int HC.out.symm, hb1⟩
              · rw [decide_eq_false hlong, Bool.false_or] at hI2
                have HI := Lib.hid hI2
                clear hI2
                go_wp2
                (go_round; (case rel => exact ⟨k + 1, by omega, by go_num, HI⟩); (case measure => first | (simp [intOf] <;> omega) | (simp [lenOf] <;> omega)))
            · have hI2 := hI.out
              rw [List.drop_eq_nil_of_le (by have := HL1.out; omega)] at hI2
              have HC : Hid (sevV xs m = 0) := by show _ = _; rw [hI2]; rfl
              clear hI hI2
              go_wp2
              go_ret
              exact ⟨ret_int HC.out.symm, hb1⟩
end Go.Proofs.Ytlmkhjegckgmcaa
