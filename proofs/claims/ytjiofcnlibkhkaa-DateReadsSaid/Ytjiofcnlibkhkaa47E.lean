/- Layer 47 (date): the seconds of a date: what the functions of the program and of the reference return. No condition. -/
import Derived.Test.Ytjiofcnlibkhkaa47C
import Derived.Test.Ytjiofcnlibkhkaa47D
namespace Go.Proofs.Ytjiofcnlibkhkaa
open Go.RowKit

/-- what may be -/
theorem may_facts {Y M D h mi s z : Int} (hm : mayL Y M D h mi s z = true) : (1900 ≤ Y ∧ Y ≤ 9999 ∧ 1 ≤ M ∧ M ≤ 12 ∧ 1 ≤ D ∧ D ≤ 31 ∧ D ≤ daysL Y M) ∧ (0 ≤ h ∧ h ≤ 23 ∧ 0 ≤ mi ∧ mi ≤ 59 ∧ 0 ≤ s ∧ s ≤ 60 ∧ -5999 ≤ z ∧ z ≤ 5999) := by
  unfold mayL wiL at hm
  simp only [Bool.and_eq_true, decide_eq_true_eq] at hm
  obtain ⟨⟨⟨⟨⟨⟨⟨h1, h2⟩, h3⟩, h4⟩, h5⟩, h6⟩, h7⟩, h8⟩ := hm
  have hp := daysL_pos (y := Y) (m := M) (by omega)
  have hr := daysL_rng Y M
  exact ⟨by omega, by omega⟩
/-- a box's cells, in whatever world that keeps it -/
theorem boxc {w W : World} {vs : Array Value} {E : TypeId} (hb : Below (w.alloc (.cells vs E)).heap.size (w.alloc (.cells vs E)) W) (i : Nat) (u : Value) (hu : vs[i]? = some u) : W.cell? ⟨w.heap.size, i, none⟩ = some u := by
  rw [hb.cell (p := ⟨w.heap.size, i, none⟩) (by simp), cell_of_row _ w.heap.size i _ E (0, 0) (heap_alloc_new w _)]; exact hu
def unixL (Y M D h mi s z : Int) : Int := (sinceL Y M D - 719162) * 86400 + ((h * 60 + mi - z) * 60 + s)
def unixV (Y M D h mi s z : Int) : Int := if mayL Y M D h mi s z then unixL Y M D h mi s z else 0
def errV (Y M D h mi s z : Int) : Int := if mayL Y M D h mi s z then 0 else 1
set_option maxRecDepth 100000 in
set_option maxHeartbeats 4000000 in
theorem p47_Unix {Y M D h mi s z : Int} {w : World} : Calls Try.prog 16 #[.agg #[.int .i64 Y, .int .i64 M, .int .i64 D, .int .i64 h, .int .i64 mi, .int .i64 s, .int .i64 z]] w (RetB (.tuple #[.int .i64 (unixV Y M D h mi s z), .int .i64 (errV Y M D h mi s z)]) w) := by
  have hmy := fun w => p47_May (Y := Y) (M := M) (D := D) (h := h) (mi := mi) (s := s) (z := z) (w := w)
  cases hR : mayL Y M D h mi s z with
  | false =>
    rw [hR] at hmy
    have e1 : unixV Y M D h mi s z = 0 := by unfold unixV; rw [hR]; rfl
    have e2 : errV Y M D h mi s z = 1 := by unfold errV; rw [hR]; rfl
    rw [e1, e2]
    clear e1 e2 hR
    go_enter Try.func16, Try.ntmps16
    go_wp2_with fail
    refine (hmy _).mono ?_
    rintro e w1 ⟨rfl, hb1⟩
    go_wp2
    go_ret2
    exact ⟨rfl, below_then ((Below.refl _ _).alloc (Nat.le_refl _) _) hb1⟩
  | true =>
    rw [hR] at hmy
    have e1 : unixV Y M D h mi s z = unixL Y M D h mi s z := by unfold unixV; rw [hR]; rfl
    have e2 : errV Y M D h mi s z = 0 := by unfold errV; rw [hR]; rfl
    rw [e1, e2]
    obtain ⟨⟨f1, f2, f3, f4, f5, f6, f7⟩, g1, g2, g3, g4, g5, g6, g7, g8⟩ := may_facts hR
    have hs := fun w => p47_since (y := Y) (m := M) (d := D) (w := w) ⟨by omega, f2⟩ ⟨f3, f4⟩ ⟨f5, f6⟩
    have hsr := sinceL_rng (y := Y) (m := M) (d := D) (by omega) f2 f3 f4 f5 f6
    have HU := Lib.hid (show unixL Y M D h mi s z = (sinceL Y M D - 719162) * 86400 + ((h * 60 + mi - z) * 60 + s) from rfl)
    obtain ⟨U, hU⟩ : ∃ U, unixL Y M D h mi s z = U := ⟨_, rfl⟩
    rw [hU] at HU ⊢
    obtain ⟨N, hN⟩ : ∃ N, sinceL Y M D = N := ⟨_, rfl⟩
    rw [hN] at HU hs hsr
    obtain ⟨n1, n2⟩ := hsr
    clear e1 e2 hR hU hN f7
    go_enter Try.func16, Try.ntmps16
    go_wp2_with fail
    refine (hmy _).mono ?_
    rintro e w1 ⟨rfl, hb1⟩
    have c0 := boxc hb1 0 _ rfl
    have c1 := boxc hb1 1 _ rfl
    have c2 := boxc hb1 2 _ rfl
    have c3 := boxc hb1 3 _ rfl
    have c4 := boxc hb1 4 _ rfl
    have c5 := boxc hb1 5 _ rfl
    have c6 := boxc hb1 6 _ rfl
    have hB1 := below_then ((Below.refl w.heap.size w).alloc (Nat.le_refl _) _) hb1
    clear hb1 hmy
    go_wp2_with (go_at_call 23; refine (hs _).mono ?_; rintro e w' ⟨rfl, rfl⟩)
    go_ret2
    exact ⟨ret2 (vint (by rw [HU.out])) rfl, hB1⟩
set_option maxRecDepth 100000 in
set_option maxHeartbeats 4000000 in
theorem r47_Unix {Y M D h mi s z : Int} {w : World} : Calls Try.prog 17 #[.agg #[.int .i64 Y, .int .i64 M, .int .i64 D, .int .i64 h, .int .i64 mi, .int .i64 s, .int .i64 z]] w (RetB (.tuple #[.int .i64 (unixV Y M D h mi s z), .int .i64 (errV Y M D h mi s z)]) w) := by
  have hmy := fun w => r47_May (Y := Y) (M := M) (D := D) (h := h) (mi := mi) (s := s) (z := z) (w := w)
  cases hR : mayL Y M D h mi s z with
  | false =>
    rw [hR] at hmy
    have e1 : unixV Y M D h mi s z = 0 := by unfold unixV; rw [hR]; rfl
    have e2 : errV Y M D h mi s z = 1 := by unfold errV; rw [hR]; rfl
    rw [e1, e2]
    clear e1 e2 hR
    go_enter Try.func17, Try.ntmps17
    go_wp2_with fail
    refine (hmy _).mono ?_
    rintro e w1 ⟨rfl, hb1⟩
    go_wp2
    go_ret2
    exact ⟨rfl, below_then ((Below.refl _ _).alloc (Nat.le_refl _) _) hb1⟩
  | true =>
    rw [hR] at hmy
    have e1 : unixV Y M D h mi s z = unixL Y M D h mi s z := by unfold unixV; rw [hR]; rfl
    have e2 : errV Y M D h mi s z = 0 := by unfold errV; rw [hR]; rfl
    rw [e1, e2]
    obtain ⟨⟨f1, f2, f3, f4, f5, f6, f7⟩, g1, g2, g3, g4, g5, g6, g7, g8⟩ := may_facts hR
    have hs := fun w => r47_since (y := Y) (m := M) (d := D) (w := w) ⟨by omega, f2⟩ ⟨f3, f4⟩ ⟨f5, f6⟩
    have hs2 := fun w => r47_since (y := 1970) (m := 1) (d := 1) (w := w) ⟨by omega, by omega⟩ ⟨by omega, by omega⟩ ⟨by omega, by omega⟩
    rw [show sinceL 1970 1 1 = 719162 from by decide] at hs2
    have hsr := sinceL_rng (y := Y) (m := M) (d := D) (by omega) f2 f3 f4 f5 f6
    have HU := Lib.hid (show unixL Y M D h mi s z = (sinceL Y M D - 719162) * 86400 + ((h * 60 + mi - z) * 60 + s) from rfl)
    obtain ⟨U, hU⟩ : ∃ U, unixL Y M D h mi s z = U := ⟨_, rfl⟩
    rw [hU] at HU ⊢
    obtain ⟨N, hN⟩ : ∃ N, sinceL Y M D = N := ⟨_, rfl⟩
    rw [hN] at HU hs hsr
    obtain ⟨n1, n2⟩ := hsr
    clear e1 e2 hR hU hN f7
    go_enter Try.func17, Try.ntmps17
    go_wp2_with fail
    refine (hmy _).mono ?_
    rintro e w1 ⟨rfl, hb1⟩
    have c0 := boxc hb1 0 _ rfl
    have c1 := boxc hb1 1 _ rfl
    have c2 := boxc hb1 2 _ rfl
    clear hmy
    go_wp2_with fail
    refine (hs _).mono ?_
    rintro e w2 ⟨rfl, hb2⟩
    have hb3 := below_then hb1 hb2
    go_wp2_with fail
    refine (hs2 _).mono ?_
    rintro e w3 ⟨rfl, hb4⟩
    have hb5 := below_then hb3 hb4
    have c3 := boxc hb5 3 _ rfl
    have c4 := boxc hb5 4 _ rfl
    have c5 := boxc hb5 5 _ rfl
    have c6 := boxc hb5 6 _ rfl
    have hB5 := below_then ((Below.refl w.heap.size w).alloc (Nat.le_refl _) _) hb5
    clear c0 c1 c2 hb1 hb2 hb3 hb4 hb5 hs hs2
    go_wp2
    go_ret2
    exact ⟨ret2 (vint (by rw [HU.out]; omega)) rfl, hB5⟩
end Go.Proofs.Ytjiofcnlibkhkaa
