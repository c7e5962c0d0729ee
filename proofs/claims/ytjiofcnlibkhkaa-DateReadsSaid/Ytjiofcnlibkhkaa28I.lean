/- Layer 28 (atom): gaps: what the functions of the program and of the reference return. Conditions: the arguments read as lists; lengths at most 2^22. -/
import Derived.Test.Ytjiofcnlibkhkaa28H
namespace Go.Proofs.Ytjiofcnlibkhkaa
open Go.RowKit

theorem comm_shift (l : List Int) : ∀ (d m : Int) (t : Bool) (i : Nat), comm l d m t i = (i + (comm l d m t 0).1, (comm l d m t 0).2) := by
  induction l with
  | nil => intro d m t i; rw [comm_nil, comm_nil]; rfl
  | cons x r ih =>
    intro d m t i
    rw [comm_step, comm_step x d m t r 0]
    by_cases h : (stepC x d m t).2.2.2 = true
    · rw [if_pos h, if_pos h]
    · rw [if_neg h, if_neg h, ih _ _ _ (i + 1), ih _ _ _ (0 + 1)]
      simp only [Prod.mk.injEq, and_true]; omega

set_option maxRecDepth 100000 in
set_option maxHeartbeats 1000000 in
theorem p28_within {A n c xs} {a : Int} {w : World} (hs : Sl w .u8 A n c xs) : Calls Try.prog 39 #[.slice A n c, .int .i64 a] w (Ret (.int .i64 (withL n a)) w) := by
  have HL := Lib.hid hs.len; have hle := hs.le; have hcm := hs.cm; unfold maxLen at hcm
  by_cases h0 : a < 0
  · have e : withL n a = 0 := by unfold withL; omega
    rw [e]
    clear e
    go_enter Try.func39, Try.ntmps39
    go_wp2
    go_ret
    exact ⟨rfl, rfl⟩
  · by_cases h1 : a ≤ n
    · have e : (withL n a : Int) = a := by unfold withL; omega
      rw [e]
      clear e
      go_enter Try.func39, Try.ntmps39
      go_wp2
      go_ret
      exact ⟨rfl, rfl⟩
    · have e : withL n a = n := by unfold withL; omega
      rw [e]
      clear e
      go_enter Try.func39, Try.ntmps39
      go_wp2
      go_ret
      exact ⟨rfl, rfl⟩
set_option maxRecDepth 100000 in
set_option maxHeartbeats 1000000 in
theorem r28_within {A n c xs} {a : Int} {w : World} (hs : Sl w .u8 A n c xs) : Calls Try.prog 48 #[.slice A n c, .int .i64 a] w (Ret (.int .i64 (withL n a)) w) := by
  have HL := Lib.hid hs.len; have hle := hs.le; have hcm := hs.cm; unfold maxLen at hcm
  by_cases h0 : a < 0
  · have e : withL n a = 0 := by unfold withL; omega
    rw [e]
    clear e
    go_enter Try.func48, Try.ntmps48
    go_wp2
    go_ret
    exact ⟨rfl, rfl⟩
  · by_cases h1 : a ≤ n
    · have e : (withL n a : Int) = a := by unfold withL; omega
      rw [e]
      clear e
      go_enter Try.func48, Try.ntmps48
      go_wp2
      go_ret
      exact ⟨rfl, rfl⟩
    · have e : withL n a = n := by unfold withL; omega
      rw [e]
      clear e
      go_enter Try.func48, Try.ntmps48
      go_wp2
      go_ret
      exact ⟨rfl, rfl⟩

def RetC (l : List Int) (j : Nat) (w : World) (e : Ending) (w' : World) : Prop := e = .returned (.tuple #[.int .i64 ((j + commN l : Nat) : Int), .int .i64 (commD l)]) ∧ w = w'
set_option maxRecDepth 100000 in
set_option maxHeartbeats 1000000 in
theorem r28_comment {A n c xs} {j : Nat} {w : World} (hs : Sl w .u8 A n c xs) (hn : n ≤ 4194304) (hj : j ≤ n) : Calls Try.prog 50 #[.slice A n c, .int .i64 j] w (RetC (xs.drop j) j w) := by
  have HL := Lib.hid hs.len
  have hsh := comm_shift (xs.drop j) 0 0 false j
  have HS : Hid (comm (xs.drop j) 0 0 false j = (j + commN (xs.drop j), commD (xs.drop j))) := hsh
  clear hsh
  go_enter Try.func50, Try.ntmps50
  go_wp2
  go_loop [6, 7, 8] (fun dv mv i => ∃ (k : Nat) (d m : Int), k ≤ n + 1 ∧ i = .int .i64 k ∧ dv = .int .i64 d ∧ mv = .int .i64 m ∧ (-(k : Int) ≤ d ∧ d ≤ k ∧ 0 ≤ m ∧ m ≤ k) ∧ Hid (comm (xs.drop j) 0 0 false j = comm (xs.drop k) d m false (min k n))) (fun _ _ i => n + 1 - (intOf i).toNat)
  case atStart => exact ⟨j, 0, 0, by omega, rfl, rfl, rfl, by omega, by show _ = _; rw [Nat.min_eq_left hj]⟩
  case round =>
    obtain ⟨k, d, m, hk, rfl, rfl, rfl, ⟨hd1, hd2, hm1, hm2⟩, hI⟩ := hrel
    by_cases hlt : k < n
    · obtain ⟨bb, o, x, rfl, hbb, hcell, hwf, hd, _⟩ := hs.get hlt
      have hI2 := hI.out
      rw [hd, Nat.min_eq_left (by omega)] at hI2
      clear hd hI
      by_cases h92 : x = 92
      · subst h92
        rw [comm_b] at hI2
        have hI3 : comm (xs.drop j) 0 0 false j = comm (xs.drop (k + 2)) d m false (min (k + 2) n) := by
          rw [hI2]
          by_cases h2 : k + 1 < n
          · rw [drop_getD xs (k + 1) (by have := HL.out; omega), comm_t, Nat.min_eq_left (by omega)]
          · rw [List.drop_eq_nil_of_le (by have := HL.out; omega), comm_nil, List.drop_eq_nil_of_le (by have := HL.out; omega), comm_nil]
            simp only [Prod.mk.injEq, and_true]; omega
        have HI : Hid (comm (xs.drop j) 0 0 false j = comm (xs.drop (k + 2)) d m false (min (k + 2) n)) := hI3
        clear hI2 hI3
        have e : (((k + 2 : Nat) : Int)) = (k : Int) + 1 + 1 := by omega
        go_wp2
        (go_round; (case rel => exact ⟨k + 2, d, m, by omega, by rw [e], rfl, rfl, by push_cast; omega, HI⟩); (case measure => first | (simp [intOf] <;> omega) | (simp [lenOf] <;> omega)))
      · have f92 : (x == 92) = false := by simpa using h92
        by_cases h40 : x = 40
        · subst h40
          rw [comm_o] at hI2
          have HI : Hid (comm (xs.drop j) 0 0 false j = comm (xs.drop (k + 1)) (d + 1) (max m (d + 1)) false (min (k + 1) n)) := by show _ = _; rw [hI2, Nat.min_eq_left (by omega)]
          clear hI2
          by_cases hm : m < d + 1
          · have e : max m (d + 1) = d + 1 := by omega
            rw [e] at HI
            clear e h92
            go_wp2
            (go_round; (case rel => exact ⟨k + 1, d + 1, d + 1, by omega, by go_num, rfl, rfl, by push_cast; omega, HI⟩); (case measure => first | (simp [intOf] <;> omega) | (simp [lenOf] <;> omega)))
          · have e : max m (d + 1) = m := by omega
            rw [e] at HI
            clear e h92
            go_wp2
            (go_round; (case rel => exact ⟨k + 1, d + 1, m, by omega, by go_num, rfl, rfl, by push_cast; omega, HI⟩); (case measure => first | (simp [intOf] <;> omega) | (simp [lenOf] <;> omega)))
        · have f40 : (x == 40) = false := by simpa using h40
          by_cases h41 : x = 41
          · subst h41
            by_cases h0 : d - 1 = 0
            · obtain rfl : d = 1 := by omega
              rw [comm_s rfl, HS.out] at hI2
              injection hI2 with e1 e2
              have E1 := Lib.hid e1; have E2 := Lib.hid e2
              clear e1 e2 h92 h40 h0
              go_wp2
              go_ret2
              exact ⟨ret2 (vint (by rw [E1.out]; push_cast; rfl)) (vint E2.out.symm), rfl⟩
            · rw [comm_s' h0] at hI2
              have HI : Hid (comm (xs.drop j) 0 0 false j = comm (xs.drop (k + 1)) (d - 1) m false (min (k + 1) n)) := by show _ = _; rw [hI2, Nat.min_eq_left (by omega)]
              have h0' : ¬ d = 1 := by omega
              have h0'' : (d - 1 == 0) = false := by simpa using h0
              clear hI2 h92 h40 h0
              go_wp2
              (go_round; (case rel => exact ⟨k + 1, d - 1, m, by omega, by go_num, rfl, rfl, by push_cast; omega, HI⟩); (case measure => first | (simp [intOf] <;> omega) | (simp [lenOf] <;> omega)))
          · have f41 : (x == 41) = false := by simpa using h41
            rw [comm_n h92 h40 h41] at hI2
            have HI : Hid (comm (xs.drop j) 0 0 false j = comm (xs.drop (k + 1)) d m false (min (k + 1) n)) := by show _ = _; rw [hI2, Nat.min_eq_left (by omega)]
            clear hI2 h92 h40 h41
            go_wp2
            (go_round; (case rel => exact ⟨k + 1, d, m, by omega, by go_num, rfl, rfl, by push_cast; omega, HI⟩); (case measure => first | (simp [intOf] <;> omega) | (simp [lenOf] <;> omega)))
    · have hI2 := hI.out
      rw [show xs.drop k = [] from List.drop_eq_nil_of_le (by have := HL.out; omega), comm_nil, HS.out, Nat.min_eq_right (by omega)] at hI2
      injection hI2 with e1 e2
      have E1 := Lib.hid e1; have E2 := Lib.hid e2
      clear e1 e2 hI
      go_wp2
      go_ret2
      exact ⟨ret2 (vint (by rw [E1.out])) (vint E2.out.symm), rfl⟩

theorem gapL_open {xs : List Int} {k : Nat} {r : List Int} (h : xs.drop k = 40 :: r) : gapL xs k = gapL xs (k + commN (xs.drop k)) := by
  unfold gapL
  rw [← List.drop_drop, h, gap_open]; omega
theorem gapL_blank {xs : List Int} {k : Nat} {x : Int} {r : List Int} (h : xs.drop k = x :: r) (h1 : ¬ x = 40) (h2 : blankL x = true) : gapL xs k = gapL xs (k + 1) := by
  unfold gapL
  rw [← List.drop_drop, h, gap_blank h1 h2]; simp; omega
theorem gapL_none {xs : List Int} {k : Nat} {x : Int} {r : List Int} (h : xs.drop k = x :: r) (h1 : ¬ x = 40) (h2 : blankL x = false) : gapL xs k = k := by
  unfold gapL
  rw [h, gap_none h1 h2]; omega

theorem p28_overE {A n c xs} {q : Nat} {w : World} (hs : Sl w .u8 A n c xs) (hn : n ≤ 4194304) (hq : commN xs = q) : Calls Try.prog 40 #[.slice A n c] w (fun e w' => e = .returned (.tuple #[.int .i64 q, .int .i64 (commD xs)]) ∧ Below w.heap.size w w') := by subst hq; exact p28_over hs hn
set_option maxRecDepth 100000 in
set_option maxHeartbeats 1000000 in
theorem p28_Gap {A n c xs} {a : Int} {w : World} (hs : Sl w .u8 A n c xs) (hn : n ≤ 4194304) : Calls Try.prog 31 #[.slice A n c, .int .i64 a] w (RetB (.int .i64 (gapL xs (withL n a))) w) := by
  have HL := Lib.hid hs.len; have hle := hs.le; have hcm := hs.cm; unfold maxLen at hcm
  have hw := withL_le n a
  obtain ⟨j, hj⟩ : ∃ j, withL n a = j := ⟨_, rfl⟩
  rw [hj] at hw ⊢
  have HJ := Lib.hid hj; clear hj
  go_enter Try.func31, Try.ntmps31
  go_wp2_with (go_at_call 39; refine (p28_within hs).mono ?_; rw [HJ.out]; rintro e w' ⟨rfl, rfl⟩)
  go_loopw [1] (fun i wr => ∃ k : Nat, k ≤ n ∧ i = .int .i64 k ∧ Hid (gapL xs j = gapL xs k) ∧ Below w.heap.size w wr) (fun i _ => n - (intOf i).toNat)
  case atStart => exact ⟨j, hw, rfl, rfl, Below.refl _ _⟩
  case round =>
    obtain ⟨k, hk, rfl, hI, hbel⟩ := hrel
    have hz := hbel.size
    have hs' := hs.bel hbel
    by_cases hlt : k < n
    · obtain ⟨bb, o, x, rfl, hbb, hcell, hwf, hd, _⟩ := hs'.get hlt
      by_cases h40 : x = 40
      · subst h40
        have hg := gapL_open hd
        have hcb := commN_bd 40 (xs.drop (k + 1))
        rw [← hd] at hcb
        have hlen : (xs.drop (k + 1)).length = n - (k + 1) := by rw [List.length_drop, HL.out]
        rw [hlen] at hcb
        have hs2 := hs'.cutAt (lo := k) (hi := n) (m := n - k) (c' := c - k) (by omega) (Nat.le_refl _) rfl rfl
        rw [List.take_of_length_le (by have := HL.out; omega)] at hs2
        obtain ⟨q, hq⟩ : ∃ q, commN (xs.drop k) = q := ⟨_, rfl⟩
        rw [hq] at hg hcb
        have HG : Hid (gapL xs j = gapL xs (k + q)) := by show _ = _; rw [hI.out, hg]
        have HQ := Lib.hid hq
        have hne : ¬ c = k := by omega
        obtain ⟨q1, q2⟩ := hcb
        clear hd hg hlen hI hq
        go_wp2_with fail
        refine (p28_overE hs2 (by omega) HQ.out).mono ?_
        rintro e w1 ⟨rfl, hb1⟩
        go_wp2
        (first | (go_roundw; (case rel => exact ⟨k + q, by omega, by go_num, HG, below_then' hbel hb1 (Nat.le_refl _)⟩); (case measure => first | (simp [intOf] <;> omega) | (simp [lenOf] <;> omega))) | (refine ⟨?_, ?measure⟩; (repeat apply Exists.intro); refine ⟨?rel, ?eqs⟩; (case eqs => first | rfl | ((repeat (refine ⟨rfl, ?_⟩)); rfl)); (case rel => exact ⟨k + q, by omega, by go_num, HG, below_then' hbel hb1 (Nat.le_refl _)⟩); (case measure => first | (simp [intOf] <;> omega) | (simp [lenOf] <;> omega))) | ((repeat apply Exists.intro); refine ⟨?rel, ?eqs⟩; (case eqs => first | rfl | ((repeat (refine ⟨rfl, ?_⟩)); rfl)); (case rel => exact ⟨k + q, by omega, by go_num, HG, below_then' hbel hb1 (Nat.le_refl _)⟩)))
      · have f40 : (x == 40) = false := by simpa using h40
        cases hb : blankL x with
        | true =>
          have hg := gapL_blank hd h40 hb
          have HG : Hid (gapL xs j = gapL xs (k + 1)) := by show _ = _; rw [hI.out, hg]
          unfold blankL at hb
          clear hd hg hI h40
          by_cases h13 : x = 13
          · subst h13
            clear hb
            go_wp2
            (first | (go_roundw; (case rel => exact ⟨k + 1, by omega, by go_num, HG, hbel⟩); (case measure => first | (simp [intOf] <;> omega) | (simp [lenOf] <;> omega))) | (refine ⟨?_, ?measure⟩; (repeat apply Exists.intro); refine ⟨?rel, ?eqs⟩; (case eqs => first | rfl | ((repeat (refine ⟨rfl, ?_⟩)); rfl)); (case rel => exact ⟨k + 1, by omega, by go_num, HG, hbel⟩); (case measure => first | (simp [intOf] <;> omega) | (simp [lenOf] <;> omega))) | ((repeat apply Exists.intro); refine ⟨?rel, ?eqs⟩; (case eqs => first | rfl | ((repeat (refine ⟨rfl, ?_⟩)); rfl)); (case rel => exact ⟨k + 1, by omega, by go_num, HG, hbel⟩)))
          · have f13 : (x == 13) = false := by simpa using h13
            by_cases h10 : x = 10
            · subst h10
              clear hb h13
              go_wp2
              (first | (go_roundw; (case rel => exact ⟨k + 1, by omega, by go_num, HG, hbel⟩); (case measure => first | (simp [intOf] <;> omega) | (simp [lenOf] <;> omega))) | (refine ⟨?_, ?measure⟩; (repeat apply Exists.intro); refine ⟨?rel, ?eqs⟩; (case eqs => first | rfl | ((repeat (refine ⟨rfl, ?_⟩)); rfl)); (case rel => exact ⟨k + 1, by omega, by go_num, HG, hbel⟩); (case measure => first | (simp [intOf] <;> omega) | (simp [lenOf] <;> omega))) | ((repeat apply Exists.intro); refine ⟨?rel, ?eqs⟩; (case eqs => first | rfl | ((repeat (refine ⟨rfl, ?_⟩)); rfl)); (case rel => exact ⟨k + 1, by omega, by go_num, HG, hbel⟩)))
            · have f10 : (x == 10) = false := by simpa using h10
              have hq : isL x 2 = true := by simpa [h13, h10] using hb
              have HQ := Lib.hid hq
              clear hb h13 h10 hq
              go_wp2_with (go_at_call 41; refine (p01_Is hwf).mono ?_; rw [HQ.out]; rintro e w' ⟨rfl, rfl⟩)
              (first | (go_roundw; (case rel => exact ⟨k + 1, by omega, by go_num, HG, hbel⟩); (case measure => first | (simp [intOf] <;> omega) | (simp [lenOf] <;> omega))) | (refine ⟨?_, ?measure⟩; (repeat apply Exists.intro); refine ⟨?rel, ?eqs⟩; (case eqs => first | rfl | ((repeat (refine ⟨rfl, ?_⟩)); rfl)); (case rel => exact ⟨k + 1, by omega, by go_num, HG, hbel⟩); (case measure => first | (simp [intOf] <;> omega) | (simp [lenOf] <;> omega))) | ((repeat apply Exists.intro); refine ⟨?rel, ?eqs⟩; (case eqs => first | rfl | ((repeat (refine ⟨rfl, ?_⟩)); rfl)); (case rel => exact ⟨k + 1, by omega, by go_num, HG, hbel⟩)))
        | false =>
          have hg := gapL_none hd h40 hb
          have HG : Hid (gapL xs j = k) := by show _ = _; rw [hI.out, hg]
          unfold blankL at hb
          simp only [Bool.or_eq_false_iff, decide_eq_false_iff_not] at hb
          obtain ⟨h13, h10, hq⟩ := hb
          have f13 : (x == 13) = false := by simpa using h13
          have f10 : (x == 10) = false := by simpa using h10
          have HQ := Lib.hid hq
          clear hd hg hI h40 h13 h10 hq
          go_wp2_with (go_at_call 41; refine (p01_Is hwf).mono ?_; rw [HQ.out]; rintro e w' ⟨rfl, rfl⟩)
          go_ret
          exact ⟨ret_int (by rw [HG.out]), hbel⟩
    · have HG : Hid (gapL xs j = k) := by show _ = _; rw [hI.out, gapL_end (by have := HL.out; omega)]
      clear hI
      go_wp2
      go_ret
      exact ⟨ret_int (by rw [HG.out]), hbel⟩

theorem r28_commentE {A n c xs} {j q : Nat} {w : World} (hs : Sl w .u8 A n c xs) (hn : n ≤ 4194304) (hj : j ≤ n) (hq : commN (xs.drop j) = q) : Calls Try.prog 50 #[.slice A n c, .int .i64 j] w (Ret (.tuple #[.int .i64 ((j + q : Nat) : Int), .int .i64 (commD (xs.drop j))]) w) := by subst hq; exact r28_comment hs hn hj
set_option maxRecDepth 100000 in
set_option maxHeartbeats 1000000 in
theorem r28_Gap {A n c xs} {a : Int} {w : World} (hs : Sl w .u8 A n c xs) (hn : n ≤ 4194304) : Calls Try.prog 33 #[.slice A n c, .int .i64 a] w (Ret (.int .i64 (gapL xs (withL n a))) w) := by
  have HL := Lib.hid hs.len; have hle := hs.le; have hcm := hs.cm; unfold maxLen at hcm
  have hw := withL_le n a
  obtain ⟨j, hj⟩ : ∃ j, withL n a = j := ⟨_, rfl⟩
  rw [hj] at hw ⊢
  have HJ := Lib.hid hj; clear hj
  go_enter Try.func33, Try.ntmps33
  go_wp2_with (go_at_call 48; refine (r28_within hs).mono ?_; rw [HJ.out]; rintro e w' ⟨rfl, rfl⟩)
  go_loop [5] (fun i => ∃ k : Nat, k ≤ n ∧ i = .int .i64 k ∧ Hid (gapL xs j = gapL xs k)) (fun i => n - (intOf i).toNat)
  case atStart => exact ⟨j, hw, rfl, rfl⟩
  case round =>
    obtain ⟨k, hk, rfl, hI⟩ := hrel
    by_cases hlt : k < n
    · obtain ⟨bb, o, x, rfl, hbb, hcell, hwf, hd, _⟩ := hs.get hlt
      by_cases h40 : x = 40
      · subst h40
        have hg := gapL_open hd
        have hcb := commN_bd 40 (xs.drop (k + 1))
        rw [← hd] at hcb
        have hlen : (xs.drop (k + 1)).length = n - (k + 1) := by rw [List.length_drop, HL.out]
        rw [hlen] at hcb
        obtain ⟨q, hq⟩ : ∃ q, commN (xs.drop k) = q := ⟨_, rfl⟩
        rw [hq] at hg hcb
        have HG : Hid (gapL xs j = gapL xs (k + q)) := by show _ = _; rw [hI.out, hg]
        have HQ := Lib.hid hq
        have HB : Hid (isL 40 2 = false) := by show _ = _; decide +kernel
        obtain ⟨q1, q2⟩ := hcb
        clear hd hg hlen hI hq
        go_wp2_with (first | (go_at_call 49; refine (r01_Is hwf).mono ?_; rw [HB.out]; rintro e w' ⟨rfl, rfl⟩) | (go_at_call 50; refine (r28_commentE hs hn hk HQ.out).mono ?_; rintro e w' ⟨rfl, rfl⟩))
        (go_round; (case rel => exact ⟨k + q, by omega, by go_num, HG⟩); (case measure => first | (simp [intOf] <;> omega) | (simp [lenOf] <;> omega)))
      · have f40 : (x == 40) = false := by simpa using h40
        obtain ⟨q, hq⟩ : ∃ q, isL x 2 = q := ⟨_, rfl⟩
        have HQ := Lib.hid hq
        cases hb : blankL x with
        | true =>
          have hg := gapL_blank hd h40 hb
          have HG : Hid (gapL xs j = gapL xs (k + 1)) := by show _ = _; rw [hI.out, hg]
          unfold blankL at hb
          rw [hq] at hb
          clear hd hg hI h40 hq
          cases q with
          | true =>
            clear hb
            go_wp2_with (go_at_call 49; refine (r01_Is hwf).mono ?_; rw [HQ.out]; rintro e w' ⟨rfl, rfl⟩)
            (go_round; (case rel => exact ⟨k + 1, by omega, by go_num, HG⟩); (case measure => first | (simp [intOf] <;> omega) | (simp [lenOf] <;> omega)))
          | false =>
            by_cases h13 : x = 13
            · subst h13
              clear hb
              go_wp2_with (go_at_call 49; refine (r01_Is hwf).mono ?_; rw [HQ.out]; rintro e w' ⟨rfl, rfl⟩)
              (go_round; (case rel => exact ⟨k + 1, by omega, by go_num, HG⟩); (case measure => first | (simp [intOf] <;> omega) | (simp [lenOf] <;> omega)))
            · have f13 : (x == 13) = false := by simpa using h13
              have h10 : x = 10 := by simpa [h13] using hb
              subst h10
              clear hb h13
              go_wp2_with (go_at_call 49; refine (r01_Is hwf).mono ?_; rw [HQ.out]; rintro e w' ⟨rfl, rfl⟩)
              (go_round; (case rel => exact ⟨k + 1, by omega, by go_num, HG⟩); (case measure => first | (simp [intOf] <;> omega) | (simp [lenOf] <;> omega)))
        | false =>
          have hg := gapL_none hd h40 hb
          have HG : Hid (gapL xs j = k) := by show _ = _; rw [hI.out, hg]
          unfold blankL at hb
          rw [hq] at hb
          simp only [Bool.or_eq_false_iff, decide_eq_false_iff_not] at hb
          obtain ⟨h13, h10, rfl⟩ := hb
          have f13 : (x == 13) = false := by simpa using h13
          have f10 : (x == 10) = false := by simpa using h10
          clear hd hg hI h40 h13 h10 hq
          go_wp2_with (go_at_call 49; refine (r01_Is hwf).mono ?_; rw [HQ.out]; rintro e w' ⟨rfl, rfl⟩)
          go_ret
          exact ⟨ret_int (by rw [HG.out]), rfl⟩
    · have HG : Hid (gapL xs j = k) := by show _ = _; rw [hI.out, gapL_end (by have := HL.out; omega)]
      clear hI
      go_wp2
      go_ret
      exact ⟨ret_int (by rw [HG.out]), rfl⟩
end Go.Proofs.Ytjiofcnlibkhkaa
