/- Layer 28 (atom): what stands behind gaps, tokens, values: what the functions of the program and of the reference return. Conditions: the arguments read as lists; lengths at most 2^22. -/
import Derived.Test.Ytjiofcnlibkhkaa28I
namespace Go.Proofs.Ytjiofcnlibkhkaa
open Go.RowKit

theorem getD_drop {xs : List Int} {k : Nat} {x : Int} {r : List Int} (h : xs.drop k = x :: r) : xs.getD k 0 = x := by
  have : (xs.drop k)[0]? = some x := by rw [h]; rfl
  rw [List.getElem?_drop] at this
  simp only [Nat.add_zero] at this
  rw [List.getD_eq_getElem?_getD, this]; rfl
theorem skip_end {xs : List Int} {k : Nat} {c : Int} (h : xs.length ≤ gapL xs k) : skipV xs k c = (k, false) := by unfold skipV; rw [if_neg (by omega)]
theorem skip_yes {xs : List Int} {k : Nat} {c : Int} {r : List Int} (h : gapL xs k < xs.length) (hd : xs.drop (gapL xs k) = c :: r) : skipV xs k c = (gapL xs k + 1, true) := by unfold skipV; rw [if_pos ⟨h, getD_drop hd⟩]
theorem skip_no {xs : List Int} {k : Nat} {c x : Int} {r : List Int} (hd : xs.drop (gapL xs k) = x :: r) (h : ¬ x = c) : skipV xs k c = (k, false) := by unfold skipV; rw [if_neg (fun h2 => h (by rw [← getD_drop hd]; exact h2.2))]

set_option maxRecDepth 100000 in
set_option maxHeartbeats 1000000 in
theorem p28_Skip {A n c xs} {a y : Int} {w : World} (hs : Sl w .u8 A n c xs) (hn : n ≤ 4194304) : Calls Try.prog 58 #[.slice A n c, .int .i64 a, .int .u8 y] w (RetB (.tuple #[.int .i64 (skipV xs (withL n a) y).1, .bool (skipV xs (withL n a) y).2]) w) := by
  have HL := Lib.hid hs.len; have hle := hs.le; have hcm := hs.cm; unfold maxLen at hcm
  have hp := p28_Gap (a := a) hs hn
  have hq := @p28_within A n c xs a
  have hw := withL_le n a
  obtain ⟨j, hj⟩ : ∃ j, withL n a = j := ⟨_, rfl⟩
  rw [hj] at hp hw hq ⊢
  have hg := gapL_bd (xs := xs) (k := j) (by have := HL.out; omega)
  obtain ⟨g, hgg⟩ : ∃ g, gapL xs j = g := ⟨_, rfl⟩
  rw [HL.out, hgg] at hg
  rw [hgg] at hp
  obtain ⟨hg1, hg2⟩ := hg
  have HG := Lib.hid hgg
  clear hj hgg
  by_cases hlt : g < n
  · obtain ⟨bb, o, x, rfl, hbb, hcell, hwf, hd, _⟩ := hs.get hlt
    by_cases hx : x = y
    · subst hx
      have e := skip_yes (k := j) (c := x) (r := xs.drop (g + 1)) (by rw [HG.out, HL.out]; exact hlt) (by rw [HG.out]; exact hd)
      rw [e, HG.out]
      clear e hd
      go_enter Try.func58, Try.ntmps58
      go_wp2_with (go_at_call 31; refine hp.mono ?_; rintro e w1 ⟨rfl, hb1⟩; have hcell1 := (hb1.cell hbb).trans hcell)
      go_ret2
      exact ⟨ret2 (vint (by push_cast; rfl)) rfl, hb1⟩
    · have e := skip_no (k := j) (c := y) (by rw [HG.out]; exact hd) hx
      rw [e]
      have fx : (x != y) = true := by simpa using hx
      have fx2 : (x == y) = false := by simpa using hx
      clear e hd hx
      go_enter Try.func58, Try.ntmps58
      go_wp2_with (first | (go_at_call 31; refine hp.mono ?_; rintro e w1 ⟨rfl, hb1⟩; have hcell1 := (hb1.cell hbb).trans hcell; have hs1 := hs.bel hb1) | (go_at_call 39; refine (hq hs1).mono ?_; rintro e w' ⟨rfl, rfl⟩))
      go_ret2
      exact ⟨rfl, hb1⟩
  · obtain rfl : g = n := by omega
    have e := skip_end (xs := xs) (k := j) (c := y) (by rw [HG.out, HL.out]; omega)
    rw [e]
    clear e hlt
    go_enter Try.func58, Try.ntmps58
    go_wp2_with (first | (go_at_call 31; refine hp.mono ?_; rintro e w1 ⟨rfl, hb1⟩; have hs1 := hs.bel hb1) | (go_at_call 39; refine (hq hs1).mono ?_; rintro e w' ⟨rfl, rfl⟩))
    go_ret2
    exact ⟨rfl, hb1⟩
set_option maxRecDepth 100000 in
set_option maxHeartbeats 1000000 in
theorem r28_Skip {A n c xs} {a y : Int} {w : World} (hs : Sl w .u8 A n c xs) (hn : n ≤ 4194304) : Calls Try.prog 52 #[.slice A n c, .int .i64 a, .int .u8 y] w (Ret (.tuple #[.int .i64 (skipV xs (withL n a) y).1, .bool (skipV xs (withL n a) y).2]) w) := by
  have HL := Lib.hid hs.len; have hle := hs.le; have hcm := hs.cm; unfold maxLen at hcm
  have hp := r28_Gap (a := a) hs hn
  have hq := r28_within (a := a) hs
  have hw := withL_le n a
  obtain ⟨j, hj⟩ : ∃ j, withL n a = j := ⟨_, rfl⟩
  rw [hj] at hp hw hq ⊢
  have hg := gapL_bd (xs := xs) (k := j) (by have := HL.out; omega)
  obtain ⟨g, hgg⟩ : ∃ g, gapL xs j = g := ⟨_, rfl⟩
  rw [HL.out, hgg] at hg
  rw [hgg] at hp
  obtain ⟨hg1, hg2⟩ := hg
  have HG := Lib.hid hgg
  clear hj hgg
  by_cases hlt : g < n
  · obtain ⟨bb, o, x, rfl, hbb, hcell, hwf, hd, _⟩ := hs.get hlt
    by_cases hx : x = y
    · subst hx
      have e := skip_yes (k := j) (c := x) (r := xs.drop (g + 1)) (by rw [HG.out, HL.out]; exact hlt) (by rw [HG.out]; exact hd)
      rw [e, HG.out]
      clear e hd
      go_enter Try.func52, Try.ntmps52
      go_wp2_with (go_at_call 33; refine hp.mono ?_; rintro e w1 ⟨rfl, rfl⟩)
      go_ret2
      exact ⟨ret2 (vint (by push_cast; rfl)) rfl, rfl⟩
    · have e := skip_no (k := j) (c := y) (by rw [HG.out]; exact hd) hx
      rw [e]
      have fx : (x != y) = true := by simpa using hx
      have fx2 : (x == y) = false := by simpa using hx
      clear e hd hx
      go_enter Try.func52, Try.ntmps52
      go_wp2_with (first | (go_at_call 33; refine hp.mono ?_; rintro e w1 ⟨rfl, rfl⟩) | (go_at_call 48; refine hq.mono ?_; rintro e w' ⟨rfl, rfl⟩))
      go_ret2
      exact ⟨rfl, rfl⟩
  · obtain rfl : g = n := by omega
    have e := skip_end (xs := xs) (k := j) (c := y) (by rw [HG.out, HL.out]; omega)
    rw [e]
    clear e hlt
    go_enter Try.func52, Try.ntmps52
    go_wp2_with (first | (go_at_call 33; refine hp.mono ?_; rintro e w1 ⟨rfl, rfl⟩) | (go_at_call 48; refine hq.mono ?_; rintro e w' ⟨rfl, rfl⟩))
    go_ret2
    exact ⟨rfl, rfl⟩

end Go.Proofs.Ytjiofcnlibkhkaa
