/- Layer 47's law of what is laid and read, and of days that follow each other: it returns true for every input, and leaves what was there. Condition: the variable MaxLen holds a number. -/
import Derived.Test.Ytjiofcnlibkhkaa47liv
import Derived.Test.Ytjiofcnlibkhkaa47law
import Derived.Test.Ytjiofcnlibkhkaa47nxt
namespace Go.Proofs.Ytjiofcnlibkhkaa
open Go.RowKit

set_option maxRecDepth 100000 in
set_option maxHeartbeats 2000000 in
theorem law_DateBack {Y M D h mi s z : Int} {w : World} (hM : MaxL w) : Calls Try.prog 6 #[.agg #[.int .i64 Y, .int .i64 M, .int .i64 D, .int .i64 h, .int .i64 mi, .int .i64 s, .int .i64 z]] w (RetB (.bool true) w) := by
  have p1 := fun W => p47_Lay (Y := Y) (M := M) (D := D) (h := h) (mi := mi) (s := s) (z := z) (w := W)
  have hb0 := (Below.refl w.heap.size w).alloc (Nat.le_refl _) (.cells #[.int .i64 Y, .int .i64 M, .int .i64 D, .int .i64 h, .int .i64 mi, .int .i64 s, .int .i64 z] 28)
  have hx0 := Bx.new w 28 Y M D h mi s z
  obtain ⟨W0, hW0⟩ : ∃ W, w.alloc (.cells #[.int .i64 Y, .int .i64 M, .int .i64 D, .int .i64 h, .int .i64 mi, .int .i64 s, .int .i64 z] 28) = W := ⟨_, rfl⟩
  rw [hW0] at hb0 hx0
  have HW0 := Lib.hid hW0
  have hb1 := (Below.refl W0.heap.size W0).alloc (Nat.le_refl _) (.cells #[.int .i64 Y, .int .i64 M, .int .i64 D, .int .i64 h, .int .i64 mi, .int .i64 s, .int .i64 z] 29)
  have hy1 := Bx.new W0 29 Y M D h mi s z
  have hB1 := below_then hb0 hb1
  have hz0 : W0.heap.size = w.heap.size + 1 := by rw [← hW0]; simp
  rw [hz0] at hy1
  obtain ⟨W1, hW1⟩ : ∃ W, W0.alloc (.cells #[.int .i64 Y, .int .i64 M, .int .i64 D, .int .i64 h, .int .i64 mi, .int .i64 s, .int .i64 z] 29) = W := ⟨_, rfl⟩
  rw [hW1] at hB1 hy1
  have HW1 := Lib.hid hW1
  clear hW0 hW1 hb0 hx0 hb1 hz0
  cases hmay : mayL Y M D h mi s z with
  | false =>
    have hl : layV Y M D h mi s z = [] := by unfold layV; rw [hmay]; rfl
    have her : errV Y M D h mi s z = 1 := by unfold errV; rw [hmay]; rfl
    rw [hl, her] at p1
    have p3 := fun W => p47_May (Y := Y) (M := M) (D := D) (h := h) (mi := mi) (s := s) (z := z) (w := W)
    rw [hmay] at p3
    clear hmay hl her
    go_enter Try.func6, Try.ntmps6
    go_wp2_with fail
    rw [HW0.out]
    rw [HW1.out]
    clear HW0 HW1
    refine (p1 _).mono ?_
    rintro e w1 ⟨A1, n1, c1, rfl, hs1, hb1⟩
    have hn1 : n1 = 0 := hs1.len.symm
    subst hn1
    have hy2 := hy1.bel hb1
    have hB2 := below_then hB1 hb1
    have z0 := hy2.c0
    have z1 := hy2.c1
    have z2 := hy2.c2
    have z3 := hy2.c3
    have z4 := hy2.c4
    have z5 := hy2.c5
    have z6 := hy2.c6
    clear hy1 hB1 hb1
    go_wp2_with fail
    refine (p3 _).mono ?_
    rintro e w2 ⟨rfl, hb2⟩
    have hB3 := below_then hB2 hb2
    clear z0 z1 z2 z3 z4 z5 z6
    go_wp2_with fail
    refine (alive47 (hM.bel hB3)).mono ?_
    rintro e w3 ⟨rfl, hb3⟩
    go_wp2_with fail
    go_ret
    exact ⟨rfl, below_then hB3 hb3⟩
  | true =>
    have hl : layV Y M D h mi s z = layL Y M D h mi s z := by unfold layV; rw [hmay]; rfl
    have her : errV Y M D h mi s z = 0 := by unfold errV; rw [hmay]; rfl
    obtain ⟨hr1, hr2⟩ := lay_read hmay
    have hra : readA (layL Y M D h mi s z) = .agg #[.int .i64 Y, .int .i64 M, .int .i64 D, .int .i64 h, .int .i64 mi, .int .i64 s, .int .i64 z] := by unfold readA; rw [if_neg hr2, hr1]; rfl
    have hre : readE (layL Y M D h mi s z) = 0 := by unfold readE; rw [if_neg hr2, hr1]; rfl
    rw [hl, her] at p1
    have hlen : (layL Y M D h mi s z).length ≤ 40 := lay_len hmay
    obtain ⟨l, hll⟩ : ∃ l, layL Y M D h mi s z = l := ⟨_, rfl⟩
    rw [hll] at p1 hra hre hlen
    obtain ⟨m1, m2, m3, _⟩ := may_all hmay
    obtain ⟨y1, y2, y3, y4⟩ := daysL_pos (y := Y) (m := M) (by omega)
    have hD31 := (daysL_rng Y M).2
    have hD : D ≤ 31 := by omega
    clear hl hr1 hr2 hll m3 hD31
    have HMAY := Lib.hid hmay
    have p2 := fun W => p47_Unix (Y := Y) (M := M) (D := D) (h := h) (mi := mi) (s := s) (z := z) (w := W)
    have p5 := fun W => p47_Weekday (y := Y) (m := M) (d := D) (w := W)
    rw [her] at p2
    clear her hmay
    obtain ⟨ua, hua⟩ : ∃ u, unixV Y M D h mi s z = u := ⟨_, rfl⟩
    obtain ⟨wa, hwa⟩ : ∃ u, wdayL Y M D = u := ⟨_, rfl⟩
    rw [hua] at p2
    rw [hwa] at p5
    have hwr : 0 ≤ wa ∧ wa ≤ 6 := by
      obtain ⟨q, hq, e⟩ := wday_rng (Y := Y) (M := M) (D := D) m2 (may_all HMAY.out).2.2.1
      rw [← hwa, e]; omega
    obtain ⟨hwr1, hwr2⟩ := hwr
    have HUA := Lib.hid hua
    have HWA := Lib.hid hwa
    clear hua hwa
    go_enter Try.func6, Try.ntmps6
    go_wp2_with fail
    rw [HW0.out]
    rw [HW1.out]
    clear HW0 HW1
    refine (p1 _).mono ?_
    rintro e w1 ⟨A1, n1, c1, rfl, hs1, hb1⟩
    have hn1 : n1 ≤ 40 := by rw [← hs1.len]; exact hlen
    have hy2 := hy1.bel hb1
    have hB2 := below_then hB1 hb1
    have hrd := p47_Read hs1 (by omega) (hM.bel hB2)
    rw [hra, hre] at hrd
    clear hy1 hB1 hb1 p1 hra hre hs1
    go_wp2_with fail
    refine hrd.mono ?_
    rintro e w2 ⟨rfl, hb2⟩
    have hy3 := hy2.bel hb2
    have hB3 := below_then hB2 hb2
    have hb4 := (Below.refl w2.heap.size w2).alloc (Nat.le_refl _) (.cells #[.int .i64 Y, .int .i64 M, .int .i64 D, .int .i64 h, .int .i64 mi, .int .i64 s, .int .i64 z] 29)
    have hr4 := Bx.new w2 29 Y M D h mi s z
    have hy4 := hy3.bel hb4
    have hB4 := below_then hB3 hb4
    obtain ⟨W4, hW4⟩ : ∃ W, w2.alloc (.cells #[.int .i64 Y, .int .i64 M, .int .i64 D, .int .i64 h, .int .i64 mi, .int .i64 s, .int .i64 z] 29) = W := ⟨_, rfl⟩
    rw [hW4] at hr4 hy4 hB4
    clear hrd hy2 hB2 hb2 hy3 hB3 hb4 hn1
    go_upto_region 6 with fail
    (try rw [hW4])
    clear hW4
    have z0 := hy4.c0
    have z1 := hy4.c1
    have z2 := hy4.c2
    have z3 := hy4.c3
    have z4 := hy4.c4
    have z5 := hy4.c5
    have z6 := hy4.c6
    have x0 := hr4.c0
    have x1 := hr4.c1
    have x2 := hr4.c2
    have x3 := hr4.c3
    have x4 := hr4.c4
    have x5 := hr4.c5
    have x6 := hr4.c6
    have hb5 := (Below.refl W4.heap.size W4).alloc (Nat.le_refl _) (.cells #[.int .i64 Y, .int .i64 M, .int .i64 D, .int .i64 h, .int .i64 mi, .int .i64 s, .int .i64 z] 29)
    have hn5 := Bx.new W4 29 Y M D h mi s z
    have hy5 := hy4.bel hb5
    have hB5 := below_then hB4 hb5
    have hlt5 := hy4.lt
    obtain ⟨W5, hW5⟩ : ∃ W, W4.alloc (.cells #[.int .i64 Y, .int .i64 M, .int .i64 D, .int .i64 h, .int .i64 mi, .int .i64 s, .int .i64 z] 29) = W := ⟨_, rfl⟩
    rw [hW5] at hn5 hy5 hB5
    go_upto_region 9 with fail
    (try rw [hW5])
    clear hW5 z0 x0 z1 x1 z2 x2 z3 x3 z4 x4 z5 x5 z6 x6 hr4 hb5
    obtain ⟨Bn, hBn⟩ : ∃ B, W4.heap.size = B := ⟨_, rfl⟩
    rw [hBn] at hn5 hlt5
    (try rw [hBn])
    have hBnw : w.heap.size ≤ Bn := by rw [← hBn]; exact hB4.size
    have hne : Bn ≠ w.heap.size + 1 := by omega
    clear hBn hy4 hB4
    have cc := hn5.c2
    have ff := hn5.f2
    go_upto_region 10 with fail
    have hn5 := hn5.set2 (D + 1)
    have hy5 := hy5.other (B2 := Bn) (o := 2) hne (.int .i64 (D + 1))
    have hB5 := hB5.setCell (p := ⟨Bn, 2, none⟩) hBnw (.int .i64 (D + 1))
    obtain ⟨V1, hV1⟩ : ∃ W, World.setCell W5 ⟨Bn, 2, none⟩ (.int .i64 (D + 1)) = W := ⟨_, rfl⟩
    rw [hV1] at hn5 hy5 hB5
    (try rw [hV1])
    clear hV1
    clear cc ff
    cases hm1 : mayL Y M (D + 1) h mi s z with
    | true =>
      have hnext := next_day HMAY.out hm1
      have pm := fun W => p47_May (Y := Y) (M := M) (D := (D + 1)) (h := h) (mi := mi) (s := s) (z := z) (w := W)
      rw [show mayL Y M (D + 1) h mi s z = true from hm1] at pm
      have z0 := hn5.c0
      have z1 := hn5.c1
      have z2 := hn5.c2
      have z3 := hn5.c3
      have z4 := hn5.c4
      have z5 := hn5.c5
      have z6 := hn5.c6
      go_wp2_with fail
      refine (pm _).mono ?_
      rintro e V2 ⟨rfl, hbm⟩
      have hn5 := hn5.bel hbm
      have hy5 := hy5.bel hbm
      have hB5 := below_then hB5 hbm
      clear pm hbm z0 z1 z2 z3 z4 z5 z6
      have hm2 := hm1
      have pm := fun W => p47_May (Y := Y) (M := M) (D := (D + 1)) (h := h) (mi := mi) (s := s) (z := z) (w := W)
      rw [show mayL Y M (D + 1) h mi s z = true from hm2] at pm
      have z0 := hn5.c0
      have z1 := hn5.c1
      have z2 := hn5.c2
      have z3 := hn5.c3
      have z4 := hn5.c4
      have z5 := hn5.c5
      have z6 := hn5.c6
      go_wp2_with fail
      refine (pm _).mono ?_
      rintro e V3 ⟨rfl, hbm⟩
      have hn5 := hn5.bel hbm
      have hy5 := hy5.bel hbm
      have hB5 := below_then hB5 hbm
      clear pm hbm z0 z1 z2 z3 z4 z5 z6
      have pm := fun W => p47_May (Y := Y) (M := M) (D := (D + 1)) (h := h) (mi := mi) (s := s) (z := z) (w := W)
      rw [show mayL Y M (D + 1) h mi s z = true from hm2] at pm
      have z0 := hn5.c0
      have z1 := hn5.c1
      have z2 := hn5.c2
      have z3 := hn5.c3
      have z4 := hn5.c4
      have z5 := hn5.c5
      have z6 := hn5.c6
      go_wp2_with fail
      refine (pm _).mono ?_
      rintro e V4 ⟨rfl, hbm⟩
      have hn5 := hn5.bel hbm
      have hy5 := hy5.bel hbm
      have hB5 := below_then hB5 hbm
      clear pm hbm z0 z1 z2 z3 z4 z5 z6
      clear hm1 hm2
      obtain ⟨hN1, hN2, hN3⟩ := hnext
      have p6 := fun W => p47_Unix (Y := Y) (M := M) (D := (D + 1)) (h := h) (mi := mi) (s := s) (z := z) (w := W)
      have p7 := fun W => p47_Weekday (y := Y) (m := M) (d := (D + 1)) (w := W)
      rw [show errV Y M (D + 1) h mi s z = 0 from by unfold errV; rw [hN1]; rfl] at p6
      rw [HUA.out] at hN2
      rw [HWA.out] at hN3
      obtain ⟨ub, hub⟩ : ∃ u, unixV Y M (D + 1) h mi s z = u := ⟨_, rfl⟩
      obtain ⟨wb, hwb⟩ : ∃ u, wdayL Y M (D + 1) = u := ⟨_, rfl⟩
      rw [hub] at p6 hN2
      rw [hwb] at p7 hN3
      clear hub hwb hN1
      have hsub : IntKind.i64.wrap (ub - ua) = 86400 := by rw [hN2]; decide
      have hwq : (wb == (wa + 1) % 7) = true := by rw [hN3]; simp
      clear hN2 hN3 HUA HWA
      have z0 := hy5.c0
      have z1 := hy5.c1
      have z2 := hy5.c2
      have z3 := hy5.c3
      have z4 := hy5.c4
      have z5 := hy5.c5
      have z6 := hy5.c6
      go_upto_region 18 with fail
      go_wp2_with fail
      refine (p2 _).mono ?_
      rintro e t1 ⟨rfl, hb1⟩
      have hn6 := hn5.bel hb1
      have hy6 := hy5.bel hb1
      have hB6 := below_then hB5 hb1
      clear z0 z1 z2 z3 z4 z5 z6 hn5 hy5 hB5 hb1
      have z0 := hn6.c0
      have z1 := hn6.c1
      have z2 := hn6.c2
      have z3 := hn6.c3
      have z4 := hn6.c4
      have z5 := hn6.c5
      have z6 := hn6.c6
      go_wp2_with fail
      refine (p6 _).mono ?_
      rintro e t2 ⟨rfl, hb2⟩
      have hn7 := hn6.bel hb2
      have hy7 := hy6.bel hb2
      have hB7 := below_then hB6 hb2
      clear z0 z1 z2 z3 z4 z5 z6 hn6 hy6 hB6 hb2
      have hal := fun X : ExtW t2.drew => alive47 (((hM.bel hB7).bel (Below.refl _ _).drew).bel X.h)
      have qn0 := fun X : ExtW t2.drew => (X.h.cell (p := ⟨Bn, 0, none⟩) hn7.lt).trans hn7.c0
      have qn1 := fun X : ExtW t2.drew => (X.h.cell (p := ⟨Bn, 1, none⟩) hn7.lt).trans hn7.c1
      have qn2 := fun X : ExtW t2.drew => (X.h.cell (p := ⟨Bn, 2, none⟩) hn7.lt).trans hn7.c2
      have qy0 := fun X : ExtW t2.drew => (X.h.cell (p := ⟨w.heap.size + 1, 0, none⟩) hy7.lt).trans hy7.c0
      have qy1 := fun X : ExtW t2.drew => (X.h.cell (p := ⟨w.heap.size + 1, 1, none⟩) hy7.lt).trans hy7.c1
      have qy2 := fun X : ExtW t2.drew => (X.h.cell (p := ⟨w.heap.size + 1, 2, none⟩) hy7.lt).trans hy7.c2
      have e7 := fun X : ExtW t2.drew => Calls.ext_same X (p7 X.W)
      have e5 := fun X : ExtW t2.drew => Calls.ext_same X (p5 X.W)
      clear hn7 hy7 p2 p5 p6 p7
      go_wp2_with fail
      (refine wp_region_any (by kernel_rfl) ?_; (try (change wpAny _ _ _ _ _ _ _ (World.drew _))); refine wpAny_lex 0 _ rfl (by kernel_rfl) (by kernel_rfl) ?_; (try simp only []); (repeat (go_big_quiet_step ((rename_i X; (first | (go_at_call 11; with_reducible exact e7 X) | (go_at_call 11; with_reducible exact e5 X) | (go_at_call 13; exact Calls.ext X (hal X))))))); refine wpQuiet_nil ?_; rintro _ ⟨X, rfl⟩)
      have hBX := below_then hB7 ((Below.refl _ _).drew.trans X.h)
      clear hal e5 e7 qn0 qn1 qn2 qy0 qy1 qy2
      go_wp2_with fail
      go_ret
      exact ⟨rfl, hBX⟩
    | false =>
      have pm := fun W => p47_May (Y := Y) (M := M) (D := (D + 1)) (h := h) (mi := mi) (s := s) (z := z) (w := W)
      rw [show mayL Y M (D + 1) h mi s z = false from hm1] at pm
      have z0 := hn5.c0
      have z1 := hn5.c1
      have z2 := hn5.c2
      have z3 := hn5.c3
      have z4 := hn5.c4
      have z5 := hn5.c5
      have z6 := hn5.c6
      go_wp2_with fail
      refine (pm _).mono ?_
      rintro e V2 ⟨rfl, hbm⟩
      have hn5 := hn5.bel hbm
      have hy5 := hy5.bel hbm
      have hB5 := below_then hB5 hbm
      clear pm hbm z0 z1 z2 z3 z4 z5 z6
      have hno1 : ¬ mayL Y M (D + 1) h mi s z = true := by rw [hm1]; decide
      clear hm1
      have cc := hn5.c2
      have ff := hn5.f2
      go_upto_region 12 with fail
      have hn5 := hn5.set2 (1)
      have hy5 := hy5.other (B2 := Bn) (o := 2) hne (.int .i64 (1))
      have hB5 := hB5.setCell (p := ⟨Bn, 2, none⟩) hBnw (.int .i64 (1))
      obtain ⟨V3, hV3⟩ : ∃ W, World.setCell V2 ⟨Bn, 2, none⟩ (.int .i64 (1)) = W := ⟨_, rfl⟩
      rw [hV3] at hn5 hy5 hB5
      (try rw [hV3])
      clear hV3
      clear cc ff
      have cc := hn5.c1
      have ff := hn5.f1
      go_upto_region 13 with fail
      have hn5 := hn5.set1 (M + 1)
      have hy5 := hy5.other (B2 := Bn) (o := 1) hne (.int .i64 (M + 1))
      have hB5 := hB5.setCell (p := ⟨Bn, 1, none⟩) hBnw (.int .i64 (M + 1))
      obtain ⟨V4, hV4⟩ : ∃ W, World.setCell V3 ⟨Bn, 1, none⟩ (.int .i64 (M + 1)) = W := ⟨_, rfl⟩
      rw [hV4] at hn5 hy5 hB5
      (try rw [hV4])
      clear hV4
      clear cc ff
      cases hm2 : mayL Y (M + 1) 1 h mi s z with
      | true =>
        have hnext := next_month HMAY.out hno1 hm2
        have pm := fun W => p47_May (Y := Y) (M := (M + 1)) (D := 1) (h := h) (mi := mi) (s := s) (z := z) (w := W)
        rw [show mayL Y (M + 1) 1 h mi s z = true from hm2] at pm
        have z0 := hn5.c0
        have z1 := hn5.c1
        have z2 := hn5.c2
        have z3 := hn5.c3
        have z4 := hn5.c4
        have z5 := hn5.c5
        have z6 := hn5.c6
        go_wp2_with fail
        refine (pm _).mono ?_
        rintro e V5 ⟨rfl, hbm⟩
        have hn5 := hn5.bel hbm
        have hy5 := hy5.bel hbm
        have hB5 := below_then hB5 hbm
        clear pm hbm z0 z1 z2 z3 z4 z5 z6
        have pm := fun W => p47_May (Y := Y) (M := (M + 1)) (D := 1) (h := h) (mi := mi) (s := s) (z := z) (w := W)
        rw [show mayL Y (M + 1) 1 h mi s z = true from hm2] at pm
        have z0 := hn5.c0
        have z1 := hn5.c1
        have z2 := hn5.c2
        have z3 := hn5.c3
        have z4 := hn5.c4
        have z5 := hn5.c5
        have z6 := hn5.c6
        go_wp2_with fail
        refine (pm _).mono ?_
        rintro e V6 ⟨rfl, hbm⟩
        have hn5 := hn5.bel hbm
        have hy5 := hy5.bel hbm
        have hB5 := below_then hB5 hbm
        clear pm hbm z0 z1 z2 z3 z4 z5 z6
        clear hm2 hno1
        obtain ⟨hN1, hN2, hN3⟩ := hnext
        have p6 := fun W => p47_Unix (Y := Y) (M := (M + 1)) (D := 1) (h := h) (mi := mi) (s := s) (z := z) (w := W)
        have p7 := fun W => p47_Weekday (y := Y) (m := (M + 1)) (d := 1) (w := W)
        rw [show errV Y (M + 1) 1 h mi s z = 0 from by unfold errV; rw [hN1]; rfl] at p6
        rw [HUA.out] at hN2
        rw [HWA.out] at hN3
        obtain ⟨ub, hub⟩ : ∃ u, unixV Y (M + 1) 1 h mi s z = u := ⟨_, rfl⟩
        obtain ⟨wb, hwb⟩ : ∃ u, wdayL Y (M + 1) 1 = u := ⟨_, rfl⟩
        rw [hub] at p6 hN2
        rw [hwb] at p7 hN3
        clear hub hwb hN1
        have hsub : IntKind.i64.wrap (ub - ua) = 86400 := by rw [hN2]; decide
        have hwq : (wb == (wa + 1) % 7) = true := by rw [hN3]; simp
        clear hN2 hN3 HUA HWA
        have z0 := hy5.c0
        have z1 := hy5.c1
        have z2 := hy5.c2
        have z3 := hy5.c3
        have z4 := hy5.c4
        have z5 := hy5.c5
        have z6 := hy5.c6
        go_upto_region 18 with fail
        go_wp2_with fail
        refine (p2 _).mono ?_
        rintro e t1 ⟨rfl, hb1⟩
        have hn6 := hn5.bel hb1
        have hy6 := hy5.bel hb1
        have hB6 := below_then hB5 hb1
        clear z0 z1 z2 z3 z4 z5 z6 hn5 hy5 hB5 hb1
        have z0 := hn6.c0
        have z1 := hn6.c1
        have z2 := hn6.c2
        have z3 := hn6.c3
        have z4 := hn6.c4
        have z5 := hn6.c5
        have z6 := hn6.c6
        go_wp2_with fail
        refine (p6 _).mono ?_
        rintro e t2 ⟨rfl, hb2⟩
        have hn7 := hn6.bel hb2
        have hy7 := hy6.bel hb2
        have hB7 := below_then hB6 hb2
        clear z0 z1 z2 z3 z4 z5 z6 hn6 hy6 hB6 hb2
        have hal := fun X : ExtW t2.drew => alive47 (((hM.bel hB7).bel (Below.refl _ _).drew).bel X.h)
        have qn0 := fun X : ExtW t2.drew => (X.h.cell (p := ⟨Bn, 0, none⟩) hn7.lt).trans hn7.c0
        have qn1 := fun X : ExtW t2.drew => (X.h.cell (p := ⟨Bn, 1, none⟩) hn7.lt).trans hn7.c1
        have qn2 := fun X : ExtW t2.drew => (X.h.cell (p := ⟨Bn, 2, none⟩) hn7.lt).trans hn7.c2
        have qy0 := fun X : ExtW t2.drew => (X.h.cell (p := ⟨w.heap.size + 1, 0, none⟩) hy7.lt).trans hy7.c0
        have qy1 := fun X : ExtW t2.drew => (X.h.cell (p := ⟨w.heap.size + 1, 1, none⟩) hy7.lt).trans hy7.c1
        have qy2 := fun X : ExtW t2.drew => (X.h.cell (p := ⟨w.heap.size + 1, 2, none⟩) hy7.lt).trans hy7.c2
        have e7 := fun X : ExtW t2.drew => Calls.ext_same X (p7 X.W)
        have e5 := fun X : ExtW t2.drew => Calls.ext_same X (p5 X.W)
        clear hn7 hy7 p2 p5 p6 p7
        go_wp2_with fail
        (refine wp_region_any (by kernel_rfl) ?_; (try (change wpAny _ _ _ _ _ _ _ (World.drew _))); refine wpAny_lex 0 _ rfl (by kernel_rfl) (by kernel_rfl) ?_; (try simp only []); (repeat (go_big_quiet_step ((rename_i X; (first | (go_at_call 11; with_reducible exact e7 X) | (go_at_call 11; with_reducible exact e5 X) | (go_at_call 13; exact Calls.ext X (hal X))))))); refine wpQuiet_nil ?_; rintro _ ⟨X, rfl⟩)
        have hBX := below_then hB7 ((Below.refl _ _).drew.trans X.h)
        clear hal e5 e7 qn0 qn1 qn2 qy0 qy1 qy2
        go_wp2_with fail
        go_ret
        exact ⟨rfl, hBX⟩
      | false =>
        have pm := fun W => p47_May (Y := Y) (M := (M + 1)) (D := 1) (h := h) (mi := mi) (s := s) (z := z) (w := W)
        rw [show mayL Y (M + 1) 1 h mi s z = false from hm2] at pm
        have z0 := hn5.c0
        have z1 := hn5.c1
        have z2 := hn5.c2
        have z3 := hn5.c3
        have z4 := hn5.c4
        have z5 := hn5.c5
        have z6 := hn5.c6
        go_wp2_with fail
        refine (pm _).mono ?_
        rintro e V5 ⟨rfl, hbm⟩
        have hn5 := hn5.bel hbm
        have hy5 := hy5.bel hbm
        have hB5 := below_then hB5 hbm
        clear pm hbm z0 z1 z2 z3 z4 z5 z6
        have hno2 : ¬ mayL Y (M + 1) 1 h mi s z = true := by rw [hm2]; decide
        clear hm2
        have cc := hn5.c1
        have ff := hn5.f1
        go_upto_region 15 with fail
        have hn5 := hn5.set1 (1)
        have hy5 := hy5.other (B2 := Bn) (o := 1) hne (.int .i64 (1))
        have hB5 := hB5.setCell (p := ⟨Bn, 1, none⟩) hBnw (.int .i64 (1))
        obtain ⟨V6, hV6⟩ : ∃ W, World.setCell V5 ⟨Bn, 1, none⟩ (.int .i64 (1)) = W := ⟨_, rfl⟩
        rw [hV6] at hn5 hy5 hB5
        (try rw [hV6])
        clear hV6
        clear cc ff
        have cc := hn5.c0
        have ff := hn5.f0
        go_upto_region 16 with fail
        have hn5 := hn5.set0 (Y + 1)
        have hy5 := hy5.other (B2 := Bn) (o := 0) hne (.int .i64 (Y + 1))
        have hB5 := hB5.setCell (p := ⟨Bn, 0, none⟩) hBnw (.int .i64 (Y + 1))
        obtain ⟨V7, hV7⟩ : ∃ W, World.setCell V6 ⟨Bn, 0, none⟩ (.int .i64 (Y + 1)) = W := ⟨_, rfl⟩
        rw [hV7] at hn5 hy5 hB5
        (try rw [hV7])
        clear hV7
        clear cc ff
        cases hm3 : mayL (Y + 1) 1 1 h mi s z with
        | true =>
          have hnext := next_year HMAY.out hno1 hno2 hm3
          have pm := fun W => p47_May (Y := (Y + 1)) (M := 1) (D := 1) (h := h) (mi := mi) (s := s) (z := z) (w := W)
          rw [show mayL (Y + 1) 1 1 h mi s z = true from hm3] at pm
          have z0 := hn5.c0
          have z1 := hn5.c1
          have z2 := hn5.c2
          have z3 := hn5.c3
          have z4 := hn5.c4
          have z5 := hn5.c5
          have z6 := hn5.c6
          go_wp2_with fail
          refine (pm _).mono ?_
          rintro e V8 ⟨rfl, hbm⟩
          have hn5 := hn5.bel hbm
          have hy5 := hy5.bel hbm
          have hB5 := below_then hB5 hbm
          clear pm hbm z0 z1 z2 z3 z4 z5 z6
          clear hm3 hno1 hno2
          obtain ⟨hN1, hN2, hN3⟩ := hnext
          have p6 := fun W => p47_Unix (Y := (Y + 1)) (M := 1) (D := 1) (h := h) (mi := mi) (s := s) (z := z) (w := W)
          have p7 := fun W => p47_Weekday (y := (Y + 1)) (m := 1) (d := 1) (w := W)
          rw [show errV (Y + 1) 1 1 h mi s z = 0 from by unfold errV; rw [hN1]; rfl] at p6
          rw [HUA.out] at hN2
          rw [HWA.out] at hN3
          obtain ⟨ub, hub⟩ : ∃ u, unixV (Y + 1) 1 1 h mi s z = u := ⟨_, rfl⟩
          obtain ⟨wb, hwb⟩ : ∃ u, wdayL (Y + 1) 1 1 = u := ⟨_, rfl⟩
          rw [hub] at p6 hN2
          rw [hwb] at p7 hN3
          clear hub hwb hN1
          have hsub : IntKind.i64.wrap (ub - ua) = 86400 := by rw [hN2]; decide
          have hwq : (wb == (wa + 1) % 7) = true := by rw [hN3]; simp
          clear hN2 hN3 HUA HWA
          have z0 := hy5.c0
          have z1 := hy5.c1
          have z2 := hy5.c2
          have z3 := hy5.c3
          have z4 := hy5.c4
          have z5 := hy5.c5
          have z6 := hy5.c6
          go_upto_region 18 with fail
          go_wp2_with fail
          refine (p2 _).mono ?_
          rintro e t1 ⟨rfl, hb1⟩
          have hn6 := hn5.bel hb1
          have hy6 := hy5.bel hb1
          have hB6 := below_then hB5 hb1
          clear z0 z1 z2 z3 z4 z5 z6 hn5 hy5 hB5 hb1
          have z0 := hn6.c0
          have z1 := hn6.c1
          have z2 := hn6.c2
          have z3 := hn6.c3
          have z4 := hn6.c4
          have z5 := hn6.c5
          have z6 := hn6.c6
          go_wp2_with fail
          refine (p6 _).mono ?_
          rintro e t2 ⟨rfl, hb2⟩
          have hn7 := hn6.bel hb2
          have hy7 := hy6.bel hb2
          have hB7 := below_then hB6 hb2
          clear z0 z1 z2 z3 z4 z5 z6 hn6 hy6 hB6 hb2
          have hal := fun X : ExtW t2.drew => alive47 (((hM.bel hB7).bel (Below.refl _ _).drew).bel X.h)
          have qn0 := fun X : ExtW t2.drew => (X.h.cell (p := ⟨Bn, 0, none⟩) hn7.lt).trans hn7.c0
          have qn1 := fun X : ExtW t2.drew => (X.h.cell (p := ⟨Bn, 1, none⟩) hn7.lt).trans hn7.c1
          have qn2 := fun X : ExtW t2.drew => (X.h.cell (p := ⟨Bn, 2, none⟩) hn7.lt).trans hn7.c2
          have qy0 := fun X : ExtW t2.drew => (X.h.cell (p := ⟨w.heap.size + 1, 0, none⟩) hy7.lt).trans hy7.c0
          have qy1 := fun X : ExtW t2.drew => (X.h.cell (p := ⟨w.heap.size + 1, 1, none⟩) hy7.lt).trans hy7.c1
          have qy2 := fun X : ExtW t2.drew => (X.h.cell (p := ⟨w.heap.size + 1, 2, none⟩) hy7.lt).trans hy7.c2
          have e7 := fun X : ExtW t2.drew => Calls.ext_same X (p7 X.W)
          have e5 := fun X : ExtW t2.drew => Calls.ext_same X (p5 X.W)
          clear hn7 hy7 p2 p5 p6 p7
          go_wp2_with fail
          (refine wp_region_any (by kernel_rfl) ?_; (try (change wpAny _ _ _ _ _ _ _ (World.drew _))); refine wpAny_lex 0 _ rfl (by kernel_rfl) (by kernel_rfl) ?_; (try simp only []); (repeat (go_big_quiet_step ((rename_i X; (first | (go_at_call 11; with_reducible exact e7 X) | (go_at_call 11; with_reducible exact e5 X) | (go_at_call 13; exact Calls.ext X (hal X))))))); refine wpQuiet_nil ?_; rintro _ ⟨X, rfl⟩)
          have hBX := below_then hB7 ((Below.refl _ _).drew.trans X.h)
          clear hal e5 e7 qn0 qn1 qn2 qy0 qy1 qy2
          go_wp2_with fail
          go_ret
          exact ⟨rfl, hBX⟩
        | false =>
          have pm := fun W => p47_May (Y := (Y + 1)) (M := 1) (D := 1) (h := h) (mi := mi) (s := s) (z := z) (w := W)
          rw [show mayL (Y + 1) 1 1 h mi s z = false from hm3] at pm
          have z0 := hn5.c0
          have z1 := hn5.c1
          have z2 := hn5.c2
          have z3 := hn5.c3
          have z4 := hn5.c4
          have z5 := hn5.c5
          have z6 := hn5.c6
          go_wp2_with fail
          refine (pm _).mono ?_
          rintro e V8 ⟨rfl, hbm⟩
          have hn5 := hn5.bel hbm
          have hy5 := hy5.bel hbm
          have hB5 := below_then hB5 hbm
          clear pm hbm z0 z1 z2 z3 z4 z5 z6
          have hno3 : ¬ mayL (Y + 1) 1 1 h mi s z = true := by rw [hm3]; decide
          have hE := last_year HMAY.out hno1 hno2 hno3
          have hlv := alive47 (hM.bel hB5)
          clear hm3 hno1 hno2 hno3 HMAY HUA HWA p2 p5
          obtain ⟨rfl, rfl, rfl⟩ := hE
          have z0 := hy5.c0
          have z1 := hy5.c1
          have z2 := hy5.c2
          have z3 := hy5.c3
          have z4 := hy5.c4
          have z5 := hy5.c5
          have z6 := hy5.c6
          go_wp2_with fail
          refine hlv.mono ?_
          rintro e t1 ⟨rfl, hb1⟩
          go_wp2_with fail
          go_ret
          exact ⟨rfl, below_then hB5 hb1⟩
end Go.Proofs.Ytjiofcnlibkhkaa
