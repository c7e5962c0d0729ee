/- Layer 47's probe: a day in November. Condition: the variable MaxLen holds a number. -/
import Derived.Test.Ytjiofcnlibkhkaa47rea
import Derived.Test.Ytjiofcnlibkhkaa47U
import Derived.Lib.SlBytesConst
namespace Go.Proofs.Ytjiofcnlibkhkaa
open Go.RowKit

def liveX : List Int := [50, 49, 32, 110, 111, 118, 32, 49, 57, 57, 55, 32, 48, 57, 58, 53, 53, 58, 48, 54, 32, 40, 99, 41, 32, 45, 48, 54, 48, 48]
theorem evLiva : layV 1997 11 21 9 55 6 (-360) = [70, 114, 105, 44, 32, 50, 49, 32, 78, 111, 118, 32, 49, 57, 57, 55, 32, 48, 57, 58, 53, 53, 58, 48, 54, 32, 45, 48, 54, 48, 48] := by decide +kernel
theorem evLivb : errV 1997 11 21 9 55 6 (-360) = 0 := by decide +kernel
theorem evLivc : unixV 1970 1 1 0 0 0 0 = 0 := by decide +kernel
theorem evLivd : errV 1970 1 1 0 0 0 0 = 0 := by decide +kernel
theorem evLive : readO liveX = some (1997, 11, 21, 9, 55, 6, -360) := by kernel_rfl
theorem evLivg : ¬ gapL liveX 0 = liveX.length := by decide +kernel
theorem evLivh : readA liveX = .agg #[.int .i64 1997, .int .i64 11, .int .i64 21, .int .i64 9, .int .i64 55, .int .i64 6, .int .i64 (-360)] := by unfold readA; rw [if_neg evLivg, evLive]; rfl
theorem evLivi : readE liveX = 0 := by unfold readE; rw [if_neg evLivg, evLive]; rfl
theorem stLiv : strOfNums [70, 114, 105, 44, 32, 50, 49, 32, 78, 111, 118, 32, 49, 57, 57, 55, 32, 48, 57, 58, 53, 53, 58, 48, 54, 32, 45, 48, 54, 48, 48] = { data := #[70, 114, 105, 44, 32, 50, 49, 32, 78, 111, 118, 32, 49, 57, 57, 55, 32, 48, 57, 58, 53, 53, 58, 48, 54, 32, 45, 48, 54, 48, 48] } := by decide +kernel
set_option maxRecDepth 100000 in
set_option maxHeartbeats 2000000 in
theorem alive47 {w : World} (hm : MaxL w) : Calls Try.prog 13 #[] w (RetB (.bool true) w) := by
  have kc := fun (w : World) (C : Array Value) (n c : Nat) => Lib.run_convert_bytes_const (P := Try.prog) w 30 5 C n c Try.underlying30 Try.underlying5
  have hb0 := (Below.refl w.heap.size w).alloc (Nat.le_refl _) (.cells #[.int .i64 1997, .int .i64 11, .int .i64 21, .int .i64 9, .int .i64 55, .int .i64 6, .int .i64 (-360)] 29)
  have hx0 := Bx.new w 29 1997 11 21 9 55 6 (-360)
  go_enter Try.func13, Try.ntmps13
  go_wp2_with fail
  refine p47_Lay.mono ?_
  rw [evLiva, evLivb]
  rintro e w1 ⟨A1, n1, c1, rfl, hs1, hb1⟩
  have hn1 : n1 = 31 := hs1.len.symm
  subst hn1
  have hB1 := below_then' hb0 hb1 (Nat.le_refl _)
  have hx1 := hx0.bel hb1
  clear hb0 hb1 hx0
  go_wp2_with fail
  have hs9 := Sl.newF w1 .u8 5 liveX (30, 31) (by decide) (by decide)
  have hb9 := (Below.refl w1.heap.size w1).alloc (Nat.le_refl _) (.cells (liveX.map (Value.int .u8)).toArray 5 (30, 31))
  have hB9 := hB1.trans (hb9.mono hB1.size)
  refine (p47_Read hs9 (by decide) (hm.bel hB9)).mono ?_
  rw [evLivh, evLivi]
  rintro e w2 ⟨rfl, hb2⟩
  have hB2 := below_then hB9 hb2
  have hs2 := hs1.bel (hb9.trans (hb2.mono hb9.size))
  have hx2 := hx1.bel (hb9.trans (hb2.mono hb9.size))
  clear hb2 hB9 hb9 hs9 hs1 hx1 hB1
  have hb3 := (Below.refl w2.heap.size w2).alloc (Nat.le_refl _) (.cells #[.int .i64 1997, .int .i64 11, .int .i64 21, .int .i64 9, .int .i64 55, .int .i64 6, .int .i64 (-360)] 29)
  have hy3 := Bx.new w2 29 1997 11 21 9 55 6 (-360)
  go_wp2_with fail
  refine p47_Unix.mono ?_
  rw [evLivc, evLivd]
  rintro e w4 ⟨rfl, hb4⟩
  have hB4 := (hB2.trans (hb3.mono hB2.size)).trans (hb4.mono (hB2.trans (hb3.mono hB2.size)).size)
  have hs4 := (hs2.bel hb3).bel hb4
  have hx4 := (hx2.bel hb3).bel hb4
  have hy4 := hy3.bel hb4
  have q1 := hs4.str (P := Try.prog) 30 5 9 Try.underlying30 Try.underlying5 Try.underlying9
  rw [stLiv] at q1
  have x0 := hx4.c0
  have x1 := hx4.c1
  have x2 := hx4.c2
  have x3 := hx4.c3
  have x4 := hx4.c4
  have x5 := hx4.c5
  have x6 := hx4.c6
  have z0 := hy4.c0
  have z1 := hy4.c1
  have z2 := hy4.c2
  have z3 := hy4.c3
  have z4 := hy4.c4
  have z5 := hy4.c5
  have z6 := hy4.c6
  clear hb3 hy3 hb4 hB2 hs2 hx2 hs4 hx4 hy4
  go_wp2_with fail
  go_ret
  exact ⟨rfl, hB4⟩
end Go.Proofs.Ytjiofcnlibkhkaa
