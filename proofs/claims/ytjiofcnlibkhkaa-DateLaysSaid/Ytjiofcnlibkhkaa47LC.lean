/- Layer 47's law of texts: it returns true for every input, and leaves what was there. Condition: the variable MaxLen holds a number. -/
import Derived.Test.Ytjiofcnlibkhkaa47liv
import Derived.Test.Ytjiofcnlibkhkaa47W
namespace Go.Proofs.Ytjiofcnlibkhkaa
open Go.RowKit

theorem likeL_self' (xs : List Int) : likeL xs xs = true := decide_eq_true rfl
set_option maxRecDepth 100000 in
set_option maxHeartbeats 2000000 in
theorem law_DateLays {Y M D h mi s z : Int} {w : World} (hM : MaxL w) : Calls Try.prog 4 #[.agg #[.int .i64 Y, .int .i64 M, .int .i64 D, .int .i64 h, .int .i64 mi, .int .i64 s, .int .i64 z]] w (RetB (.bool true) w) := by
  have p1 := fun W => p47_Lay (Y := Y) (M := M) (D := D) (h := h) (mi := mi) (s := s) (z := z) (w := W)
  have r1 := fun W => r47_Lay (Y := Y) (M := M) (D := D) (h := h) (mi := mi) (s := s) (z := z) (w := W)
  have p2 := fun W => p47_Unix (Y := Y) (M := M) (D := D) (h := h) (mi := mi) (s := s) (z := z) (w := W)
  have r2 := fun W => r47_Unix (Y := Y) (M := M) (D := D) (h := h) (mi := mi) (s := s) (z := z) (w := W)
  have p3 := fun W => p47_May (Y := Y) (M := M) (D := D) (h := h) (mi := mi) (s := s) (z := z) (w := W)
  have r3 := fun W => r47_May (Y := Y) (M := M) (D := D) (h := h) (mi := mi) (s := s) (z := z) (w := W)
  obtain ⟨l, hl⟩ : ∃ l, layV Y M D h mi s z = l := ⟨_, rfl⟩
  obtain ⟨er, her⟩ : ∃ e, errV Y M D h mi s z = e := ⟨_, rfl⟩
  obtain ⟨ux, hux⟩ : ∃ e, unixV Y M D h mi s z = e := ⟨_, rfl⟩
  obtain ⟨my, hmy⟩ : ∃ e, mayL Y M D h mi s z = e := ⟨_, rfl⟩
  rw [hl, her] at p1 r1
  rw [hux, her] at p2 r2
  rw [hmy] at p3 r3
  clear hl her hux hmy
  have hb0 := (Below.refl w.heap.size w).alloc (Nat.le_refl _) (.cells #[.int .i64 Y, .int .i64 M, .int .i64 D, .int .i64 h, .int .i64 mi, .int .i64 s, .int .i64 z] 28)
  have hx0 := Bx.new w 28 Y M D h mi s z
  obtain ⟨W0, hW0⟩ : ∃ W, w.alloc (.cells #[.int .i64 Y, .int .i64 M, .int .i64 D, .int .i64 h, .int .i64 mi, .int .i64 s, .int .i64 z] 28) = W := ⟨_, rfl⟩
  rw [hW0] at hb0 hx0
  have HW0 := Lib.hid hW0
  have hb1 := (Below.refl W0.heap.size W0).alloc (Nat.le_refl _) (.cells #[.int .i64 Y, .int .i64 M, .int .i64 D, .int .i64 h, .int .i64 mi, .int .i64 s, .int .i64 z] 29)
  have hy1 := Bx.new W0 29 Y M D h mi s z
  have hx1 := hx0.bel hb1
  have hB1 := below_then hb0 hb1
  have hz0 : W0.heap.size = w.heap.size + 1 := by rw [← hW0]; simp
  rw [hz0] at hy1
  obtain ⟨W1, hW1⟩ : ∃ W, W0.alloc (.cells #[.int .i64 Y, .int .i64 M, .int .i64 D, .int .i64 h, .int .i64 mi, .int .i64 s, .int .i64 z] 29) = W := ⟨_, rfl⟩
  rw [hW1] at hB1 hx1 hy1
  have HW1 := Lib.hid hW1
  clear hW0 hW1 hb0 hx0 hb1 hz0
  go_enter Try.func4, Try.ntmps4
  go_wp2_with fail
  rw [HW0.out]
  rw [HW1.out]
  clear HW0 HW1
  refine (p1 _).mono ?_
  rintro e w1 ⟨A1, n1, c1, rfl, hs1, hb1⟩
  have hx2 := hx1.bel hb1
  have hy2 := hy1.bel hb1
  have hB2 := below_then hB1 hb1
  have x0 := hx2.c0
  have x1 := hx2.c1
  have x2 := hx2.c2
  have x3 := hx2.c3
  have x4 := hx2.c4
  have x5 := hx2.c5
  have x6 := hx2.c6
  clear hx1 hy1 hB1 hb1
  go_wp2_with fail
  refine (r1 _).mono ?_
  rintro e w2 ⟨A2, n2, c2, rfl, hs2, hb2⟩
  have hx3 := hx2.bel hb2
  have hy3 := hy2.bel hb2
  have hs3 := hs1.bel hb2
  have hB3 := below_then hB2 hb2
  clear x0 x1 x2 x3 x4 x5 x6
  have z0 := hy3.c0
  have z1 := hy3.c1
  have z2 := hy3.c2
  have z3 := hy3.c3
  have z4 := hy3.c4
  have z5 := hy3.c5
  have z6 := hy3.c6
  clear hx2 hy2 hB2 hb2 hs1
  go_wp2_with fail
  refine (p2 _).mono ?_
  rintro e w3 ⟨rfl, hb3⟩
  have hx4 := hx3.bel hb3
  have hy4 := hy3.bel hb3
  have hs4 := hs3.bel hb3
  have hs5 := hs2.bel hb3
  have hB4 := below_then hB3 hb3
  clear z0 z1 z2 z3 z4 z5 z6
  have x0 := hx4.c0
  have x1 := hx4.c1
  have x2 := hx4.c2
  have x3 := hx4.c3
  have x4 := hx4.c4
  have x5 := hx4.c5
  have x6 := hx4.c6
  clear hx3 hy3 hB3 hb3 hs3 hs2
  go_wp2_with fail
  refine (r2 _).mono ?_
  rintro e w4 ⟨rfl, hb4⟩
  have hx5 := hx4.bel hb4
  have hy5 := hy4.bel hb4
  have hs6 := hs4.bel hb4
  have hs7 := hs5.bel hb4
  have hB5 := below_then hB4 hb4
  clear x0 x1 x2 x3 x4 x5 x6
  clear hx4 hy4 hB4 hb4 hs4 hs5
  have hlk := fun X : ExtW w4.drew => r01_Like (hs6.drew.bel X.h) (hs7.drew.bel X.h)
  rw [likeL_self'] at hlk
  have hal := fun X : ExtW w4.drew => alive47 (((hM.bel hB5).bel (Below.refl _ _).drew).bel X.h)
  have qx0 := fun X : ExtW w4.drew => (X.h.cell (p := ⟨w.heap.size, 0, none⟩) hx5.lt).trans hx5.c0
  have qx1 := fun X : ExtW w4.drew => (X.h.cell (p := ⟨w.heap.size, 1, none⟩) hx5.lt).trans hx5.c1
  have qx2 := fun X : ExtW w4.drew => (X.h.cell (p := ⟨w.heap.size, 2, none⟩) hx5.lt).trans hx5.c2
  have qx3 := fun X : ExtW w4.drew => (X.h.cell (p := ⟨w.heap.size, 3, none⟩) hx5.lt).trans hx5.c3
  have qx4 := fun X : ExtW w4.drew => (X.h.cell (p := ⟨w.heap.size, 4, none⟩) hx5.lt).trans hx5.c4
  have qx5 := fun X : ExtW w4.drew => (X.h.cell (p := ⟨w.heap.size, 5, none⟩) hx5.lt).trans hx5.c5
  have qx6 := fun X : ExtW w4.drew => (X.h.cell (p := ⟨w.heap.size, 6, none⟩) hx5.lt).trans hx5.c6
  have qz0 := fun X : ExtW w4.drew => (X.h.cell (p := ⟨w.heap.size + 1, 0, none⟩) hy5.lt).trans hy5.c0
  have qz1 := fun X : ExtW w4.drew => (X.h.cell (p := ⟨w.heap.size + 1, 1, none⟩) hy5.lt).trans hy5.c1
  have qz2 := fun X : ExtW w4.drew => (X.h.cell (p := ⟨w.heap.size + 1, 2, none⟩) hy5.lt).trans hy5.c2
  have qz3 := fun X : ExtW w4.drew => (X.h.cell (p := ⟨w.heap.size + 1, 3, none⟩) hy5.lt).trans hy5.c3
  have qz4 := fun X : ExtW w4.drew => (X.h.cell (p := ⟨w.heap.size + 1, 4, none⟩) hy5.lt).trans hy5.c4
  have qz5 := fun X : ExtW w4.drew => (X.h.cell (p := ⟨w.heap.size + 1, 5, none⟩) hy5.lt).trans hy5.c5
  have qz6 := fun X : ExtW w4.drew => (X.h.cell (p := ⟨w.heap.size + 1, 6, none⟩) hy5.lt).trans hy5.c6
  go_wp2_with fail
  (refine wp_region_any (by kernel_rfl) ?_; (try (change wpAny _ _ _ _ _ _ _ (World.drew _))); refine wpAny_lex 0 _ rfl (by kernel_rfl) (by kernel_rfl) ?_; (try simp only []); (repeat (go_big_quiet_step ((rename_i X; (first | (go_at_call 18; exact Calls.ext X (hlk X)) | (go_at_call 19; exact Calls.ext X (p3 X.W)) | (go_at_call 20; exact Calls.ext X (r3 X.W)) | (go_at_call 13; exact Calls.ext X (hal X))))))); refine wpQuiet_nil ?_; rintro _ ⟨X, rfl⟩)
  have hBX := below_then hB5 ((Below.refl _ _).drew.trans X.h)
  clear hlk hal hx5 hy5
  go_wp2_with fail
  go_ret
  exact ⟨rfl, hBX⟩
end Go.Proofs.Ytjiofcnlibkhkaa
