/- Layer 26 (lines): ends, bare ends, the longest line, short lines, octets as they are: what the functions of the program and of the reference return. Conditions: the arguments read as lists; lengths at most 2^22; the variable MaxLen holds a number. -/
import Derived.Test.Ytlmkhjegckgmcaa26B
namespace Go.Proofs.Ytlmkhjegckgmcaa
open Go.RowKit

theorem ends_crlf (xs : List Int) : endsWith xs [13, 10] = true ↔ ∃ ys, xs = ys ++ [13, 10] := by
  unfold endsWith likeL
  simp only [Bool.and_eq_true, decide_eq_true_iff, List.length_cons, List.length_nil]
  constructor
  · rintro ⟨h1, h2⟩
    exact ⟨xs.take (xs.length - (0 + 1 + 1)), by rw [← h2, List.take_append_drop]⟩
  · rintro ⟨ys, rfl⟩
    refine ⟨by simp, ?_⟩
    simp
theorem endsV_eq (xs : List Int) (h : xs ≠ []) : endsV xs = endsWith xs [13, 10] := by
  rw [Bool.eq_iff_iff, endsV_iff, ends_crlf]
  simp [h]

set_option maxRecDepth 100000 in
set_option maxHeartbeats 1000000 in
theorem p26_Ends {A n c xs} {w : World} (hs : Sl w .u8 A n c xs) (hn : n ≤ 4194304) : Calls Try.prog 23 #[.slice A n c] w (RetB (.bool (endsV xs)) w) := by
  have kc := fun (w : World) (C : Array Value) (n c : Nat) => Lib.run_convert_bytes_const (P := Try.prog) w 22 5 C n c Try.underlying22 Try.underlying5
  have hl := hs.len
  by_cases h0 : n = 0
  · subst h0
    obtain rfl : xs = [] := List.eq_nil_of_length_eq_zero hl
    go_enter Try.func23, Try.ntmps23
    go_wp2
    go_ret
    exact ⟨rfl, Below.refl _ _⟩
  · have hne : xs ≠ [] := by intro h; rw [h] at hl; simp at hl; omega
    have e := endsV_eq xs hne
    have f0 : ((n : Int) == 0) = false := by simp; omega
    rw [e]
    clear e hl hne
    go_enter Try.func23, Try.ntmps23
    go_wp2_with (go_at_call 61; refine (lib_HasSuffix (hs.alloc _) (Sl.newF _ .u8 5 [13, 10] _ (by decide) (by decide))).mono ?_; rintro e w' ⟨rfl, rfl⟩)
    go_ret
    exact ⟨rfl, (Below.refl _ _).alloc (Nat.le_refl _) _⟩
set_option maxRecDepth 100000 in
set_option maxHeartbeats 1000000 in
theorem p26_Whole {A n c xs} {w : World} (hs : Sl w .u8 A n c xs) (hn : n ≤ 4194304) : Calls Try.prog 30 #[.slice A n c] w (RetOwn id 5 .u8 (wholeL xs) w) := by
  have hp := p26_Ends hs hn
  have HL := Lib.hid hs.len
  cases he : endsV xs with
  | true =>
    have e : wholeL xs = xs := by unfold wholeL; rw [he]; rfl
    rw [e]
    rw [he] at hp
    clear e he
    go_enter Try.func30, Try.ntmps30
    go_wp2_with (first | ((go_at_call 23; refine hp.mono ?_; rintro e w1 ⟨rfl, hb1⟩); have hs1 := hs.bel hb1) | (go_at_call 59; refine (lib_BClone hs1 (by omega)).mono ?_; rintro e w2 ⟨v2, rfl, ho2, hb2⟩))
    go_ret
    exact ⟨v2, rfl, ho2.mono hb1.size, below_then hb1 hb2⟩
  | false =>
    have e : wholeL xs = xs ++ [13, 10] := by unfold wholeL; rw [he]; rfl
    rw [e]
    rw [he] at hp
    clear e he
    have hxl : xs.length ≤ 4194304 := by have := HL.out; omega
    go_enter Try.func30, Try.ntmps30
    go_wp2_with (first | ((go_at_call 23; refine hp.mono ?_; rintro e w1 ⟨rfl, hb1⟩); have hs1 := hs.bel hb1) | ((go_at_call 59; refine (lib_BClone hs1 (by omega)).mono ?_; rintro e w2 ⟨v2, rfl, ho2, hb2⟩); have hz2 := hb2.size; have hz1 := hb1.size; have hB2 := below_then hb1 hb2) | (at_builtin; refine wpList_appS rfl rfl eltB Try.underlying9 rfl rfl ho2 hB2 (by refine ⟨?_, ?_⟩ <;> first | omega | (simp; done) | (simp; omega)) (by first | omega | (show _ + 2 ≤ _; omega) | (show _ + 3 ≤ _; omega) | (simp; done) | (simp; omega)) ?_; intro v3 w3 ho3 hb3 hg3))
    rw [strL_crlf] at ho3
    go_ret
    exact ⟨v3, rfl, ho3.mono hz1, hb3⟩

set_option maxRecDepth 100000 in
set_option maxHeartbeats 1000000 in
theorem p26_Bare1 {A n c xs} {y : Int} {p : Addr} {w : World} (hs : Sl w .u8 A n c xs) (hp : w.cell? p = some (.slice A n c)) (hy : (Lit.int .u8 y).wf = true) : Calls Try.prog 63 #[.int .u8 y, .pointer (some p)] w (RetB (.int .i64 (cntC y xs)) w) := by
  go_enter Try.func63, Try.ntmps63
  go_wp2_with (go_at_call 62; refine (lib_Count1 (hs.alloc _) (Sl.one _ .u8 5 y hy)).mono ?_; rintro e w' ⟨rfl, rfl⟩)
  go_ret
  exact ⟨rfl, (Below.refl _ _).alloc (Nat.le_refl _) _⟩
set_option maxRecDepth 100000 in
set_option maxHeartbeats 1000000 in
theorem p26_Bare {A n c xs} {w : World} (hs : Sl w .u8 A n c xs) (hn : n ≤ 4194304) (hM : MaxL w) : Calls Try.prog 25 #[.slice A n c] w (RetB (.int .i64 (bareV 0 xs)) w) := by
  have kc := fun (w : World) (C : Array Value) (n c : Nat) => Lib.run_convert_bytes_const (P := Try.prog) w 22 5 C n c Try.underlying22 Try.underlying5
  have hb := bare_count xs 0
  have h0 : nl 0 xs = false := by cases xs <;> simp [nl]
  rw [h0] at hb
  have hl := hs.len
  obtain ⟨c1, c2⟩ := cntC_le 13 xs
  obtain ⟨c3, c4⟩ := cntC_le 10 xs
  obtain ⟨c5, c6⟩ := pairN_le xs
  rw [hl] at c2 c4 c6
  obtain ⟨a, ha⟩ : ∃ a, cntC 13 xs = a := ⟨_, rfl⟩
  obtain ⟨b, hb'⟩ : ∃ b, cntC 10 xs = b := ⟨_, rfl⟩
  obtain ⟨p, hp⟩ : ∃ p, pairN xs = p := ⟨_, rfl⟩
  rw [ha] at hb c1 c2
  rw [hb'] at hb c3 c4
  rw [hp] at hb c5 c6
  have hv : bareV 0 xs = a + b - 2 * p := by simp at hb; omega
  rw [hv]
  have HA := Lib.hid ha; have HB := Lib.hid hb'; have HP := Lib.hid hp
  have hent := enters_of Try.func63 (by kernel_rfl) rfl
  have hbox : (w.alloc (.cells #[.slice A n c] 22)).cell? ⟨w.heap.size, 0, none⟩ = some (.slice A n c) := by rw [World.cell?_alloc_at _ _ _ _ rfl]; rfl
  have hs0 := hs.alloc (.cells #[.slice A n c] 22)
  have hM0 := hM.alloc (.cells #[.slice A n c] 22)
  have hb0 := (Below.refl w.heap.size w).alloc (Nat.le_refl _) (.cells #[.slice A n c] 22)
  have hz0 : w.heap.size < (w.alloc (.cells #[.slice A n c] 22)).heap.size := by simp
  have kc2 := fun (C : Array Value) (n1 c1 : Nat) => kc (w.alloc (.cells #[.slice A n c] 22)) C n1 c1
  have hsep := Sl.newF (w.alloc (.cells #[.slice A n c] 22)) .u8 5 [13, 10] (2, 3) (by decide) (by decide)
  simp only [World.size_alloc] at kc2 hsep
  clear hb hv ha hb' hp h0
  go_enter Try.func25, Try.ntmps25
  go_wp2_with fail
  refine (lib_Count2 (hs0.alloc _) hsep (hM0.alloc _) (by omega)).mono ?_
  rw [HP.out]
  rintro e w1 ⟨rfl, hb1⟩
  have hW1 := below_then' ((Below.refl (w.alloc (.cells #[.slice A n c] 22)).heap.size (w.alloc (.cells #[.slice A n c] 22))).alloc (Nat.le_refl _) _) hb1 (Nat.le_refl _)
  have hc1 := (hW1.cell (p := ⟨w.heap.size, 0, none⟩) hz0).trans hbox
  go_wp2_with fail
  refine (p26_Bare1 (hs0.bel hW1) hc1 (by decide)).mono ?_
  rw [HA.out]
  rintro e w2 ⟨rfl, hb2⟩
  have hW2 := below_then hW1 hb2
  have hc2 := (hW2.cell (p := ⟨w.heap.size, 0, none⟩) hz0).trans hbox
  go_wp2_with fail
  refine (p26_Bare1 (hs0.bel hW2) hc2 (by decide)).mono ?_
  rw [HB.out]
  rintro e w3 ⟨rfl, hb3⟩
  go_wp2
  go_ret
  exact ⟨ret_int (by first | rfl | omega), below_then' hb0 (below_then hW2 hb3) (Nat.le_refl _)⟩
end Go.Proofs.Ytlmkhjegckgmcaa
