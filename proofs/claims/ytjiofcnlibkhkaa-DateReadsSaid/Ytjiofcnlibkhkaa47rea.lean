/- Layer 47 (date): the program's Read. Conditions: the octets read as a list of at most 2^22; the variable MaxLen holds a number. -/
import Derived.Test.Ytjiofcnlibkhkaa47dat
import Derived.Test.Ytjiofcnlibkhkaa47B
namespace Go.Proofs.Ytjiofcnlibkhkaa
open Go.RowKit

/-- what octets read as: a date, or none -/
def readO (xs : List Int) : Option (Int × Int × Int × Int × Int × Int × Int) :=
  match dateS xs 0 with
  | some ([t, D, M, Y, h, mi, s, z], k) => if gapL xs k = xs.length ∧ mayL Y M D h mi s z = true ∧ (t < 0 ∨ t = wdayL Y M D) then some (Y, M, D, h, mi, s, z) else none
  | _ => none
def aggV : Option (Int × Int × Int × Int × Int × Int × Int) → Value
  | some (Y, M, D, h, mi, s, z) => .agg #[.int .i64 Y, .int .i64 M, .int .i64 D, .int .i64 h, .int .i64 mi, .int .i64 s, .int .i64 z]
  | none => .agg #[.int .i64 0, .int .i64 0, .int .i64 0, .int .i64 0, .int .i64 0, .int .i64 0, .int .i64 0]
def readA (xs : List Int) : Value := if gapL xs 0 = xs.length then aggV none else aggV (readO xs)
def readE (xs : List Int) : Int := if gapL xs 0 = xs.length then 4 else if (readO xs).isSome then 0 else 3
theorem read_bad {xs : List Int} {vals : List Int} {k : Nat} (h : St (dateS xs 0) vals k true) : readO xs = none := by
  unfold readO
  cases hd : dateS xs 0 with
  | none => rfl
  | some p => have := (h.2 p hd).1; cases this
theorem read_ok {xs : List Int} {t D M Y h mi s z : Int} {k : Nat} (hs : St (dateS xs 0) [t, D, M, Y, h, mi, s, z] k false) : readO xs = if gapL xs k = xs.length ∧ mayL Y M D h mi s z = true ∧ (t < 0 ∨ t = wdayL Y M D) then some (Y, M, D, h, mi, s, z) else none := by
  unfold readO
  cases hd : dateS xs 0 with
  | none => have := hs.1 hd; cases this
  | some p =>
    obtain ⟨_, e2, e3⟩ := hs.2 p hd
    obtain ⟨l, k'⟩ := p
    simp only at e2 e3
    subst e2; subst e3
    rfl
theorem read_in {xs : List Int} {t D M Y h mi s z : Int} {k : Nat} {bad bad' : Bool} (hs : St (dateS xs 0) [t, D, M, Y, h, mi, s, z] k bad) (hb : bad' = (bad || !(decide (gapL xs k = xs.length) && mayL Y M D h mi s z))) :
    (bad' = true → readO xs = none) ∧ (bad' = false → readO xs = if t < 0 ∨ t = wdayL Y M D then some (Y, M, D, h, mi, s, z) else none) := by
  cases bad with
  | true => exact ⟨fun _ => read_bad hs, fun h => by rw [hb] at h; simp at h⟩
  | false =>
    rw [read_ok hs]
    simp only [Bool.false_or] at hb
    refine ⟨fun e => ?_, fun e => ?_⟩
    · rw [e] at hb
      rw [if_neg]
      rintro ⟨h1, h2, _⟩
      rw [decide_eq_true h1, h2] at hb; cases hb
    · rw [e] at hb
      clear e
      have hb2 : (decide (gapL xs k = xs.length) && mayL Y M D h mi s z) = true := by
        cases e : (decide (gapL xs k = xs.length) && mayL Y M D h mi s z) with
        | true => rfl
        | false => rw [e] at hb; cases hb
      rw [Bool.and_eq_true, decide_eq_true_iff] at hb2
      by_cases ht : t < 0 ∨ t = wdayL Y M D
      · rw [if_pos ⟨hb2.1, hb2.2, ht⟩, if_pos ht]
      · rw [if_neg (fun h => ht h.2.2), if_neg ht]
set_option maxRecDepth 100000 in
set_option maxHeartbeats 2000000 in
theorem p47_Read {A : Option Addr} {n c : Nat} {xs : List Int} {w : World} (hs : Sl w .u8 A n c xs) (hn : n ≤ 4194304) (hm : MaxL w) :
    Calls Try.prog 21 #[.slice A n c] w (RetB (.tuple #[readA xs, .int .i64 (readE xs)]) w) := by
  have HL := Lib.hid hs.len
  have hb0 := (Below.refl w.heap.size w).alloc (Nat.le_refl _) (.cells #[.int .i64 0, .int .i64 0, .int .i64 0, .int .i64 0, .int .i64 0, .int .i64 0, .int .i64 0] 29)
  have hx0 := Bx.new w 29 0 0 0 0 0 0 0
  have hgap := p28_Gap (a := (0 : Int)) (hs.bel hb0) hn
  have hw0 : withL n (0 : Int) = 0 := withL_self (n := n) (k := 0) (Nat.zero_le _)
  rw [hw0] at hgap
  obtain ⟨g, hg⟩ : ∃ g, gapL xs 0 = g := ⟨_, rfl⟩
  rw [hg] at hgap
  have HG := Lib.hid hg
  clear hw0 hg
  obtain ⟨W0, hW0⟩ : ∃ W, w.alloc (.cells #[.int .i64 0, .int .i64 0, .int .i64 0, .int .i64 0, .int .i64 0, .int .i64 0, .int .i64 0] 29) = W := ⟨_, rfl⟩
  rw [hW0] at hb0 hx0 hgap
  have HW0 := Lib.hid hW0
  clear hW0
  by_cases hgn : g = n
  · have hA := Lib.hid (show readA xs = aggV none by unfold readA; rw [if_pos (by rw [HG.out, HL.out]; exact hgn)])
    have hE := Lib.hid (show readE xs = 4 by unfold readE; rw [if_pos (by rw [HG.out, HL.out]; exact hgn)])
    have hq : ((g : Int) == (n : Int)) = true := by simp; omega
    go_enter Try.func21, Try.ntmps21
    go_wp2_with fail
    rw [HW0.out]
    refine hgap.mono ?_
    rintro e w1 ⟨rfl, hb1⟩
    have hx1 := hx0.bel hb1
    have hB1 := hb0.trans (hb1.mono hb0.size)
    clear hgap hx0 hb1 hb0 HW0 hs hm
    have x0 := hx1.c0
    have x1 := hx1.c1
    have x2 := hx1.c2
    have x3 := hx1.c3
    have x4 := hx1.c4
    have x5 := hx1.c5
    have x6 := hx1.c6
    have f0 := hx1.f0
    have f1 := hx1.f1
    have f2 := hx1.f2
    have f3 := hx1.f3
    have f4 := hx1.f4
    have f5 := hx1.f5
    have f6 := hx1.f6
    go_wp2_with fail
    have hF := ((((((hx1.set0 0).set1 0).set2 0).set3 0).set4 0).set5 0).set6 0
    have hBF := (((((((hB1.setCell (p := ⟨w.heap.size, 0, none⟩) (Nat.le_refl _) (.int .i64 0)).setCell (p := ⟨w.heap.size, 1, none⟩) (Nat.le_refl _) (.int .i64 0)).setCell (p := ⟨w.heap.size, 2, none⟩) (Nat.le_refl _) (.int .i64 0)).setCell (p := ⟨w.heap.size, 3, none⟩) (Nat.le_refl _) (.int .i64 0)).setCell (p := ⟨w.heap.size, 4, none⟩) (Nat.le_refl _) (.int .i64 0)).setCell (p := ⟨w.heap.size, 5, none⟩) (Nat.le_refl _) (.int .i64 0)).setCell (p := ⟨w.heap.size, 6, none⟩) (Nat.le_refl _) (.int .i64 0))
    generalize World.setCell _ _ (.int .i64 0) = WF at hF hBF ⊢
    have y0 := hF.c0
    have y1 := hF.c1
    have y2 := hF.c2
    have y3 := hF.c3
    have y4 := hF.c4
    have y5 := hF.c5
    have y6 := hF.c6
    exact bodyPost_ret (v := .tuple #[aggV none, .int .i64 4]) (by simp [aggV, results, Try.results21, go_sem, y0, y1, y2, y3, y4, y5, y6]) rfl ⟨by rw [hA.out, hE.out], hBF⟩
  · have hA := Lib.hid (show readA xs = aggV (readO xs) by unfold readA; rw [if_neg (by rw [HG.out, HL.out]; exact hgn)])
    have hE := Lib.hid (show readE xs = if (readO xs).isSome then 0 else 3 by unfold readE; rw [if_neg (by rw [HG.out, HL.out]; exact hgn)])
    have hq : ((g : Int) == (n : Int)) = false := by simp; omega
    go_enter Try.func21, Try.ntmps21
    go_wp2_with fail
    rw [HW0.out]
    refine hgap.mono ?_
    rintro e w1 ⟨rfl, hb1⟩
    have hx1 := hx0.bel hb1
    have hB1 := hb0.trans (hb1.mono hb0.size)
    clear hgap hx0 hb1 hb0 HW0
    have hb2 := (Below.refl w1.heap.size w1).alloc (Nat.le_refl _) (.cells #[.slice A n c, .int .i64 0, .bool false] 57)
    have hR : Rdr w (w1.alloc (.cells #[.slice A n c, .int .i64 0, .bool false] 57)) w1.heap.size A n c xs 0 false :=
      ⟨by simp [go_sem], by simp [go_sem], by simp [go_sem], by simp [go_sem], by simp [go_sem], hs, hB1.size, by simp, hB1.trans (hb2.mono hB1.size)⟩
    go_wp2_with fail
    have hx2 := hx1.bel hb2
    have hB0 : w.heap.size ≠ w1.heap.size := by have := hx1.lt; omega
    have hB2 := hB1.trans (hb2.mono hB1.size)
    obtain ⟨W2, hW2⟩ : ∃ W, w1.alloc (.cells #[.slice A n c, .int .i64 0, .bool false] 57) = W := ⟨_, rfl⟩
    rw [hW2] at hR hx2 hB2
    rw [hW2]
    have hdt := p47_date hR hn (Nat.zero_le _) hm
    have hBs := hB1.size
    clear hW2 hb2 hx1 hB1 hR hs hm hq
    obtain ⟨b, hb⟩ : ∃ b, w1.heap.size = b := ⟨_, rfl⟩
    rw [hb] at hdt hB0 hBs
    rw [hb]
    clear hb
    refine hdt.mono ?_
    rintro e w3 ⟨Y, M, D, h, mi, s, z, t, k1, k', bad, bad', rfl, hR3, hK3, hS, hbad⟩
    have hx3 := hx2.keep hK3 hB0
    have hI := Lib.hid (read_in (bad' := bad') hS (by rw [HL.out]; exact hbad))
    have hB3 := hR3.bel
    have c2 := hR3.c2
    have hb4 := (Below.refl w3.heap.size w3).alloc (Nat.le_refl _) (.cells #[.int .i64 Y, .int .i64 M, .int .i64 D, .int .i64 h, .int .i64 mi, .int .i64 s, .int .i64 z] 29)
    have hB4 := hB3.trans (hb4.mono hB3.size)
    have hx4 := hx3.bel hb4
    have hlt3 := hR3.lt
    have c2' := (hb4.cell (p := ⟨b, 2, none⟩) hlt3).trans c2
    have hy4 := Bx.new w3 29 Y M D h mi s z
    clear hdt hx2 hB2 hK3 hS hbad hR3 hx3 hB3
    go_upto_region 5 with fail
    obtain ⟨W4, hW4⟩ : ∃ W, w3.alloc (.cells #[.int .i64 Y, .int .i64 M, .int .i64 D, .int .i64 h, .int .i64 mi, .int .i64 s, .int .i64 z] 29) = W := ⟨_, rfl⟩
    rw [hW4] at hB4 hx4 c2' hy4
    rw [hW4]
    obtain ⟨B4, hBB⟩ : ∃ B, w3.heap.size = B := ⟨_, rfl⟩
    rw [hBB] at hy4
    rw [hBB]
    clear hW4 hBB hb4 c2 hlt3
    have x0 := hx4.c0
    have x1 := hx4.c1
    have x2 := hx4.c2
    have x3 := hx4.c3
    have x4 := hx4.c4
    have x5 := hx4.c5
    have x6 := hx4.c6
    have f0 := hx4.f0
    have f1 := hx4.f1
    have f2 := hx4.f2
    have f3 := hx4.f3
    have f4 := hx4.f4
    have f5 := hx4.f5
    have f6 := hx4.f6
    have z0 := hy4.c0
    have z1 := hy4.c1
    have z2 := hy4.c2
    have z3 := hy4.c3
    have z4 := hy4.c4
    have z5 := hy4.c5
    have z6 := hy4.c6
    have hwd := fun W => p47_Weekday (y := Y) (m := M) (d := D) (w := W)
    obtain ⟨wd, hwdq⟩ : ∃ q, wdayL Y M D = q := ⟨_, rfl⟩
    rw [hwdq] at hI hwd
    clear hwdq
    cases bad' with
    | true =>
      have hO := Lib.hid (hI.out.1 rfl)
      clear hI
      go_wp2_with fail
      have hF := ((((((hx4.set0 0).set1 0).set2 0).set3 0).set4 0).set5 0).set6 0
      have hBF := (((((((hB4.setCell (p := ⟨w.heap.size, 0, none⟩) (Nat.le_refl _) (.int .i64 0)).setCell (p := ⟨w.heap.size, 1, none⟩) (Nat.le_refl _) (.int .i64 0)).setCell (p := ⟨w.heap.size, 2, none⟩) (Nat.le_refl _) (.int .i64 0)).setCell (p := ⟨w.heap.size, 3, none⟩) (Nat.le_refl _) (.int .i64 0)).setCell (p := ⟨w.heap.size, 4, none⟩) (Nat.le_refl _) (.int .i64 0)).setCell (p := ⟨w.heap.size, 5, none⟩) (Nat.le_refl _) (.int .i64 0)).setCell (p := ⟨w.heap.size, 6, none⟩) (Nat.le_refl _) (.int .i64 0))
      generalize World.setCell _ _ (.int .i64 0) = WF at hF hBF ⊢
      have y0 := hF.c0
      have y1 := hF.c1
      have y2 := hF.c2
      have y3 := hF.c3
      have y4 := hF.c4
      have y5 := hF.c5
      have y6 := hF.c6
      exact bodyPost_ret (v := .tuple #[.agg #[.int .i64 0, .int .i64 0, .int .i64 0, .int .i64 0, .int .i64 0, .int .i64 0, .int .i64 0], .int .i64 3]) (by simp [results, Try.results21, go_sem, y0, y1, y2, y3, y4, y5, y6]) rfl ⟨by rw [hA.out, hE.out, hO.out]; rfl, hBF⟩
    | false =>
      have hO1 := Lib.hid (hI.out.2 rfl)
      clear hI
      by_cases ht : 0 ≤ t
      · have ht2 : decide (0 ≤ t) = true := decide_eq_true ht
        by_cases he : t = wd
        · have hO := Lib.hid (show readO xs = some (Y, M, D, h, mi, s, z) by rw [hO1.out, if_pos (Or.inr he)])
          have he2 : (t == wd) = true := by simp; exact he
          have he3 : (t != wd) = false := by simp; exact he
          clear he
          go_wp2_with (go_at_call 11; refine (hwd _).mono ?_; rintro e w' ⟨rfl, rfl⟩)
          have hF := ((((((hx4.set0 Y).set1 M).set2 D).set3 h).set4 mi).set5 s).set6 z
          have hBF := (((((((hB4.setCell (p := ⟨w.heap.size, 0, none⟩) (Nat.le_refl _) (.int .i64 Y)).setCell (p := ⟨w.heap.size, 1, none⟩) (Nat.le_refl _) (.int .i64 M)).setCell (p := ⟨w.heap.size, 2, none⟩) (Nat.le_refl _) (.int .i64 D)).setCell (p := ⟨w.heap.size, 3, none⟩) (Nat.le_refl _) (.int .i64 h)).setCell (p := ⟨w.heap.size, 4, none⟩) (Nat.le_refl _) (.int .i64 mi)).setCell (p := ⟨w.heap.size, 5, none⟩) (Nat.le_refl _) (.int .i64 s)).setCell (p := ⟨w.heap.size, 6, none⟩) (Nat.le_refl _) (.int .i64 z))
          generalize World.setCell _ _ (.int .i64 z) = WF at hF hBF ⊢
          have y0 := hF.c0
          have y1 := hF.c1
          have y2 := hF.c2
          have y3 := hF.c3
          have y4 := hF.c4
          have y5 := hF.c5
          have y6 := hF.c6
          exact bodyPost_ret (v := .tuple #[.agg #[.int .i64 Y, .int .i64 M, .int .i64 D, .int .i64 h, .int .i64 mi, .int .i64 s, .int .i64 z], .int .i64 0]) (by simp [results, Try.results21, go_sem, y0, y1, y2, y3, y4, y5, y6]) rfl ⟨by rw [hA.out, hE.out, hO.out]; rfl, hBF⟩
        · have hO := Lib.hid (show readO xs = none by rw [hO1.out, if_neg (by omega)])
          have he2 : (t == wd) = false := by simp; exact he
          have he3 : (t != wd) = true := by simp; exact he
          clear he
          go_wp2_with (go_at_call 11; refine (hwd _).mono ?_; rintro e w' ⟨rfl, rfl⟩)
          have hF := ((((((hx4.set0 0).set1 0).set2 0).set3 0).set4 0).set5 0).set6 0
          have hBF := (((((((hB4.setCell (p := ⟨w.heap.size, 0, none⟩) (Nat.le_refl _) (.int .i64 0)).setCell (p := ⟨w.heap.size, 1, none⟩) (Nat.le_refl _) (.int .i64 0)).setCell (p := ⟨w.heap.size, 2, none⟩) (Nat.le_refl _) (.int .i64 0)).setCell (p := ⟨w.heap.size, 3, none⟩) (Nat.le_refl _) (.int .i64 0)).setCell (p := ⟨w.heap.size, 4, none⟩) (Nat.le_refl _) (.int .i64 0)).setCell (p := ⟨w.heap.size, 5, none⟩) (Nat.le_refl _) (.int .i64 0)).setCell (p := ⟨w.heap.size, 6, none⟩) (Nat.le_refl _) (.int .i64 0))
          generalize World.setCell _ _ (.int .i64 0) = WF at hF hBF ⊢
          have y0 := hF.c0
          have y1 := hF.c1
          have y2 := hF.c2
          have y3 := hF.c3
          have y4 := hF.c4
          have y5 := hF.c5
          have y6 := hF.c6
          exact bodyPost_ret (v := .tuple #[.agg #[.int .i64 0, .int .i64 0, .int .i64 0, .int .i64 0, .int .i64 0, .int .i64 0, .int .i64 0], .int .i64 3]) (by simp [results, Try.results21, go_sem, y0, y1, y2, y3, y4, y5, y6]) rfl ⟨by rw [hA.out, hE.out, hO.out]; rfl, hBF⟩
      · have ht2 : decide (0 ≤ t) = false := decide_eq_false ht
        have hO := Lib.hid (show readO xs = some (Y, M, D, h, mi, s, z) by rw [hO1.out, if_pos (Or.inl (by omega))])
        go_wp2_with fail
        have hF := ((((((hx4.set0 Y).set1 M).set2 D).set3 h).set4 mi).set5 s).set6 z
        have hBF := (((((((hB4.setCell (p := ⟨w.heap.size, 0, none⟩) (Nat.le_refl _) (.int .i64 Y)).setCell (p := ⟨w.heap.size, 1, none⟩) (Nat.le_refl _) (.int .i64 M)).setCell (p := ⟨w.heap.size, 2, none⟩) (Nat.le_refl _) (.int .i64 D)).setCell (p := ⟨w.heap.size, 3, none⟩) (Nat.le_refl _) (.int .i64 h)).setCell (p := ⟨w.heap.size, 4, none⟩) (Nat.le_refl _) (.int .i64 mi)).setCell (p := ⟨w.heap.size, 5, none⟩) (Nat.le_refl _) (.int .i64 s)).setCell (p := ⟨w.heap.size, 6, none⟩) (Nat.le_refl _) (.int .i64 z))
        generalize World.setCell _ _ (.int .i64 z) = WF at hF hBF ⊢
        have y0 := hF.c0
        have y1 := hF.c1
        have y2 := hF.c2
        have y3 := hF.c3
        have y4 := hF.c4
        have y5 := hF.c5
        have y6 := hF.c6
        exact bodyPost_ret (v := .tuple #[.agg #[.int .i64 Y, .int .i64 M, .int .i64 D, .int .i64 h, .int .i64 mi, .int .i64 s, .int .i64 z], .int .i64 0]) (by simp [results, Try.results21, go_sem, y0, y1, y2, y3, y4, y5, y6]) rfl ⟨by rw [hA.out, hE.out, hO.out]; rfl, hBF⟩
end Go.Proofs.Ytjiofcnlibkhkaa
