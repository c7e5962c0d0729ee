/- Layer 47's law of what octets read as: it returns true for every input, and leaves what was there. Conditions: the argument reads as a list; the variable MaxLen holds a number. -/
import Derived.Test.Ytjiofcnlibkhkaa47liv
import Derived.Test.Ytjiofcnlibkhkaa47rer
namespace Go.Proofs.Ytjiofcnlibkhkaa
open Go.RowKit

set_option maxRecDepth 100000 in
set_option maxHeartbeats 2000000 in
theorem law_DateReads {A n c xs} {w : World} (hM : MaxL w) (hs : Sl w .u8 A n c xs) : Calls Try.prog 5 #[.slice A n c] w (RetB (.bool true) w) := by
  by_cases hbig : 300 < n
  · go_enter Try.func5, Try.ntmps5
    go_wp2_with fail
    refine (alive47 hM).mono ?_
    rintro e w3 ⟨rfl, hb3⟩
    go_wp2_with fail
    go_ret
    exact ⟨rfl, hb3⟩
  · have h1 := p47_Read hs (by omega) hM
    have h2 := fun W (hs : Sl W .u8 A n c xs) => r47_Read hs (by omega)
    obtain ⟨e, he⟩ : ∃ e, readE xs = e := ⟨_, rfl⟩
    have hag : ∃ a0 a1 a2 a3 a4 a5 a6 : Int, readA xs = .agg #[.int .i64 a0, .int .i64 a1, .int .i64 a2, .int .i64 a3, .int .i64 a4, .int .i64 a5, .int .i64 a6] := by
      unfold readA
      split
      · exact ⟨0, 0, 0, 0, 0, 0, 0, rfl⟩
      · cases readO xs with
        | none => exact ⟨0, 0, 0, 0, 0, 0, 0, rfl⟩
        | some p => obtain ⟨a0, a1, a2, a3, a4, a5, a6⟩ := p; exact ⟨a0, a1, a2, a3, a4, a5, a6, rfl⟩
    obtain ⟨a0, a1, a2, a3, a4, a5, a6, hag⟩ := hag
    rw [he, hag] at h1 h2
    clear he hag
    go_enter Try.func5, Try.ntmps5
    go_wp2_with fail
    refine h1.mono ?_
    rintro e w1 ⟨rfl, hb1⟩
    have hb2 := (Below.refl w1.heap.size w1).alloc (Nat.le_refl _) (.cells #[.int .i64 a0, .int .i64 a1, .int .i64 a2, .int .i64 a3, .int .i64 a4, .int .i64 a5, .int .i64 a6] 29)
    have hx2 := Bx.new w1 29 a0 a1 a2 a3 a4 a5 a6
    have hB2 := below_then hb1 hb2
    have h3 := h2 _ (hs.bel hB2)
    clear h1 h2 hb1 hb2
    go_wp2_with fail
    refine h3.mono ?_
    rintro e w3 ⟨rfl, hb3⟩
    have hx3 := hx2.bel hb3
    have hB3 := below_then hB2 hb3
    have hb4 := (Below.refl w3.heap.size w3).alloc (Nat.le_refl _) (.cells #[.int .i64 a0, .int .i64 a1, .int .i64 a2, .int .i64 a3, .int .i64 a4, .int .i64 a5, .int .i64 a6] 28)
    have hx4 := hx3.bel hb4
    have hy4 := Bx.new w3 28 a0 a1 a2 a3 a4 a5 a6
    have hB4 := below_then hB3 hb4
    have hal := alive47 (hM.bel hB4)
    clear h3 hx2 hB2 hb3 hx3 hb4
    have x0 := hx4.c0
    have x1 := hx4.c1
    have x2 := hx4.c2
    have x3 := hx4.c3
    have x4 := hx4.c4
    have x5 := hx4.c5
    have x6 := hx4.c6
    have z0 := hy4.c0
    have z1 := hy4.c1
    have z2 := hy4.c2
    have z3 := hy4.c3
    have z4 := hy4.c4
    have z5 := hy4.c5
    have z6 := hy4.c6
    clear hx4 hy4 hB3
    go_wp2_with fail
    refine hal.mono ?_
    rintro e w5 ⟨rfl, hb5⟩
    go_wp2_with fail
    go_ret
    exact ⟨rfl, below_then hB4 hb5⟩
end Go.Proofs.Ytjiofcnlibkhkaa
