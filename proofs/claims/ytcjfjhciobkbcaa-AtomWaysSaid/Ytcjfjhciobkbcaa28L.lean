/- Layer 28's laws: each returns true for every input, and leaves what was there. No condition but that the arguments read as lists. -/
import Derived.Test.Ytcjfjhciobkbcaa28D
import Derived.Test.YtcjfjhciobkbcaaLibC
import Derived.Lib.SlBytesConst
namespace Go.Proofs.Ytcjfjhciobkbcaa
open Go.RowKit

def al28 : List Int := [32, 40, 97, 32, 40, 98, 41, 41, 32, 99]
theorem ev28a : tokV al28 9 = ([99], 10, 0) := by decide +kernel
theorem ev28b : gapL al28 0 = 9 := by decide +kernel
theorem ev28c : depthV [40, 97, 32, 40, 98, 41, 41, 32, 99] = 2 := by decide +kernel
theorem ev28d : layV [97, 32, 98] = [34, 97, 32, 98, 34] := by decide +kernel
theorem st28a : strOfNums [99] = { data := #[99] } := by decide
theorem st28b : strOfNums [34, 97, 32, 98, 34] = { data := #[34, 97, 32, 98, 34] } := by decide

theorem p28_TokenE {A n c xs} {a : Int} {w : World} {j : Nat} {U : List Int} {q e : Int} (hs : Sl w .u8 A n c xs) (hn : n ≤ 4194304) (hj : withL n a = j) (hV : tokV xs j = (U, q, e)) :
    Calls Try.prog 43 #[.slice A n c, .int .i64 a] w (RetOwn (fun v => .tuple #[v, .int .i64 q, .int .i64 e]) 5 .u8 U w) := by
  have := p28_Token (a := a) hs hn
  rw [hj, hV] at this
  exact this
theorem r28_TokenE {A n c xs} {a : Int} {w : World} {j : Nat} {U : List Int} {q e : Int} (hs : Sl w .u8 A n c xs) (hn : n ≤ 4194304) (hj : withL n a = j) (hV : tokV xs j = (U, q, e)) :
    Calls Try.prog 50 #[.slice A n c, .int .i64 a] w (RetSl (fun v => .tuple #[v, .int .i64 q, .int .i64 e]) .u8 U w) := by
  have := r28_Token (a := a) hs hn
  rw [hj, hV] at this
  exact this
theorem p28_ValueE {A n c xs} {a : Int} {w : World} {j : Nat} {U : List Int} {q e : Int} (hs : Sl w .u8 A n c xs) (hn : n ≤ 4194304) (hj : withL n a = j) (hV : valV xs j = (U, q, e)) :
    Calls Try.prog 51 #[.slice A n c, .int .i64 a] w (RetOwn (fun v => .tuple #[v, .int .i64 q, .int .i64 e]) 5 .u8 U w) := by
  have := p28_Value (a := a) hs hn
  rw [hj, hV] at this
  exact this
theorem r28_ValueE {A n c xs} {a : Int} {w : World} {j : Nat} {U : List Int} {q e : Int} (hs : Sl w .u8 A n c xs) (hn : n ≤ 4194304) (hj : withL n a = j) (hV : valV xs j = (U, q, e)) :
    Calls Try.prog 52 #[.slice A n c, .int .i64 a] w (RetSl (fun v => .tuple #[v, .int .i64 q, .int .i64 e]) .u8 U w) := by
  have := r28_Value (a := a) hs hn
  rw [hj, hV] at this
  exact this
theorem p28_GapE {A n c xs} {a : Int} {w : World} {j g : Nat} (hs : Sl w .u8 A n c xs) (hn : n ≤ 4194304) (hj : withL n a = j) (hg : gapL xs j = g) : Calls Try.prog 42 #[.slice A n c, .int .i64 a] w (RetB (.int .i64 g) w) := by
  have := p28_Gap (a := a) hs hn
  rw [hj, hg] at this
  exact this
theorem r28_GapE {A n c xs} {a : Int} {w : World} {j g : Nat} (hs : Sl w .u8 A n c xs) (hn : n ≤ 4194304) (hj : withL n a = j) (hg : gapL xs j = g) : Calls Try.prog 47 #[.slice A n c, .int .i64 a] w (Ret (.int .i64 g) w) := by
  have := r28_Gap (a := a) hs hn
  rw [hj, hg] at this
  exact this
theorem p28_SkipE {A n c xs} {a y q : Int} {b : Bool} {w : World} {j : Nat} (hs : Sl w .u8 A n c xs) (hn : n ≤ 4194304) (hj : withL n a = j) (hq : ((skipV xs j y).1 : Int) = q) (hb : (skipV xs j y).2 = b) : Calls Try.prog 45 #[.slice A n c, .int .i64 a, .int .u8 y] w (RetB (.tuple #[.int .i64 q, .bool b]) w) := by
  have := p28_Skip (a := a) (y := y) hs hn
  rw [hj, hq, hb] at this
  exact this
theorem r28_SkipE {A n c xs} {a y q : Int} {b : Bool} {w : World} {j : Nat} (hs : Sl w .u8 A n c xs) (hn : n ≤ 4194304) (hj : withL n a = j) (hq : ((skipV xs j y).1 : Int) = q) (hb : (skipV xs j y).2 = b) : Calls Try.prog 46 #[.slice A n c, .int .i64 a, .int .u8 y] w (Ret (.tuple #[.int .i64 q, .bool b]) w) := by
  have := r28_Skip (a := a) (y := y) hs hn
  rw [hj, hq, hb] at this
  exact this

set_option maxRecDepth 100000 in
set_option maxHeartbeats 1000000 in
theorem alive28 {w : World} : Calls Try.prog 41 #[] w (RetB (.bool true) w) := by
  have kc := fun (w : World) (C : Array Value) (n c : Nat) => Lib.run_convert_bytes_const (P := Try.prog) w 22 5 C n c Try.underlying22 Try.underlying5
  go_enter Try.func41, Try.ntmps41
  go_wp2_with fail
  have hs0 := Sl.newF w .u8 5 al28 (10, 11) (by decide) (by decide)
  have hb0 := (Below.refl w.heap.size w).alloc (Nat.le_refl _) (.cells (al28.map (Value.int .u8)).toArray 5 (10, 11))
  refine (p28_TokenE hs0 (by decide) (j := 9) (by decide) ev28a).mono ?_
  rintro e w1 ⟨v1, rfl, ho1, hb1⟩
  obtain ⟨A1, n1, c1, rfl, hs1⟩ := ho1.sl
  clear ho1
  have hB1 := below_then' hb0 hb1 (Nat.le_refl _)
  have hs01 := hs0.bel hb1
  clear hs0 hb0
  obtain ⟨B, hB⟩ : ∃ B, w.heap.size = B := ⟨_, rfl⟩
  rw [hB] at hs01
  have HB := Lib.hid hB
  have hl : al28.length = 10 := rfl
  rw [hl] at hs01
  go_wp2_with fail
  clear hB
  refine (p28_GapE hs01 (by decide) (j := 0) (by decide) ev28b).mono ?_
  rintro e w2 ⟨rfl, hb2⟩
  have hB2 := below_then hB1 hb2
  have hs02 := hs01.bel hb2
  have hs12 := hs1.bel hb2
  have hcut := hs02.cutAt (lo := 1) (hi := 10) (m := 9) (c' := 9) (by omega) (by omega) rfl rfl
  go_wp2_with fail
  refine (p28_Depth hcut (by decide)).mono ?_
  rintro e w3 ⟨rfl, hb3⟩
  rw [show depthV (List.drop 1 (List.take 10 al28)) = 2 from ev28c]
  have hB3 := below_then hB2 hb3
  have hs13 := hs12.bel hb3
  have q1 := hs13.str (P := Try.prog) 22 5 9 Try.underlying22 Try.underlying5 Try.underlying9
  rw [st28a] at q1
  clear hs13 hs12 hs1 hs01 hs02 hcut
  go_wp2_with fail
  refine (p28_Lay (Sl.newF w3 .u8 5 [97, 32, 98] _ (by decide) (by decide)) (by decide)).mono ?_
  rintro e w4 h4
  rw [ev28d] at h4
  obtain ⟨v4, rfl, ho4, hb4⟩ := h4
  have hb34 := below_then' ((Below.refl _ _).alloc (Nat.le_refl _) _) hb4 (Nat.le_refl w3.heap.size)
  have hB4 := below_then hB3 hb34
  obtain ⟨A4, n4, c4, rfl, hs4⟩ := ho4.sl
  clear ho4
  have q2 := hs4.str (P := Try.prog) 22 5 9 Try.underlying22 Try.underlying5 Try.underlying9
  rw [st28b] at q2
  go_wp2
  go_ret
  exact ⟨rfl, hB4⟩

set_option maxRecDepth 100000 in
set_option maxHeartbeats 1000000 in
theorem law_AtomGaps {A n c xs} {a y : Int} {w : World} (hs : Sl w .u8 A n c xs) : Calls Try.prog 12 #[.slice A n c, .int .i64 a, .int .u8 y] w (RetB (.bool true) w) := by
  by_cases hbig : 500 < n
  · go_enter Try.func12, Try.ntmps12
    go_wp2_with (go_at_call 41; refine alive28.mono ?_; rintro e w1 ⟨rfl, hb⟩)
    go_ret
    exact ⟨rfl, hb⟩
  · obtain ⟨j, hj⟩ : ∃ j, withL n a = j := ⟨_, rfl⟩
    obtain ⟨g, hg⟩ : ∃ g, gapL xs j = g := ⟨_, rfl⟩
    obtain ⟨q, hq⟩ : ∃ q, ((skipV xs j y).1 : Int) = q := ⟨_, rfl⟩
    obtain ⟨b, hb⟩ : ∃ b, (skipV xs j y).2 = b := ⟨_, rfl⟩
    obtain ⟨d, hd⟩ : ∃ d, depthV xs = d := ⟨_, rfl⟩
    have HJ := Lib.hid hj; have HG := Lib.hid hg; have HQ := Lib.hid hq; have HB := Lib.hid hb; have HD := Lib.hid hd
    clear hj hg hq hb hd
    go_enter Try.func12, Try.ntmps12
    go_wp2_with fail
    refine (p28_SkipE hs (by omega) HJ.out HQ.out HB.out).mono ?_
    rintro e w1 ⟨rfl, hb1⟩
    go_wp2_with fail
    refine (r28_SkipE (hs.bel hb1) (by omega) HJ.out HQ.out HB.out).mono ?_
    rintro e w' ⟨rfl, rfl⟩
    go_wp2_with fail
    refine (p28_GapE (hs.bel hb1) (by omega) HJ.out HG.out).mono ?_
    rintro e w2 ⟨rfl, hb2⟩
    have hB2 := below_then hb1 hb2
    go_wp2_with fail
    refine (r28_GapE (hs.bel hB2) (by omega) HJ.out HG.out).mono ?_
    rintro e w' ⟨rfl, rfl⟩
    go_wp2_with fail
    refine (p28_Depth (hs.bel hB2) (by omega)).mono ?_
    rw [HD.out]
    rintro e w3 ⟨rfl, hb3⟩
    have hB3 := below_then hB2 hb3
    go_wp2_with fail
    refine (r28_Depth (hs.bel hB3) (by omega)).mono ?_
    rw [HD.out]
    rintro e w' ⟨rfl, rfl⟩
    go_wp2_with (go_at_call 41; refine alive28.mono ?_; rintro e w4 ⟨rfl, hb4⟩)
    go_ret
    exact ⟨rfl, below_then hB3 hb4⟩

set_option maxRecDepth 100000 in
set_option maxHeartbeats 1000000 in
theorem law_AtomTakes {A n c xs} {a : Int} {w : World} (hs : Sl w .u8 A n c xs) : Calls Try.prog 13 #[.slice A n c, .int .i64 a] w (RetB (.bool true) w) := by
  have HL := Lib.hid hs.len; have hle := hs.le; have hcm := hs.cm; unfold maxLen at hcm
  by_cases hbig : 500 < n
  · go_enter Try.func13, Try.ntmps13
    go_wp2_with (go_at_call 41; refine alive28.mono ?_; rintro e w1 ⟨rfl, hb⟩)
    go_ret
    exact ⟨rfl, hb⟩
  · obtain ⟨j, hj⟩ : ∃ j, withL n a = j := ⟨_, rfl⟩
    obtain ⟨⟨U, q, r⟩, hT⟩ : ∃ U, tokV xs j = U := ⟨_, rfl⟩
    obtain ⟨⟨U2, q2, r2⟩, hV⟩ : ∃ U, valV xs j = U := ⟨_, rfl⟩
    have HJ := Lib.hid hj; have HT := Lib.hid hT; have HV := Lib.hid hV
    clear hj hT hV
    have e1 := likeL_self U
    have e2 := likeL_self U2
    have e3 := likeL_self (layV xs)
    obtain ⟨pv, hpv⟩ : ∃ pv, plainV xs = pv := ⟨_, rfl⟩
    obtain ⟨cv, hcv⟩ : ∃ cv, cntL 64 xs = cv := ⟨_, rfl⟩
    have hpc : pv = (decide (0 < n) && decide (cv = n)) := by rw [← hpv, ← hcv]; unfold plainV; rw [HL.out]
    have HP := Lib.hid hpv; have HC := Lib.hid hcv
    clear hpv hcv
    go_enter Try.func13, Try.ntmps13
    go_wp2_with fail
    refine (p28_TokenE hs (by omega) HJ.out HT.out).mono ?_
    rintro e w1 ⟨v1, rfl, ho1, hb1⟩
    obtain ⟨A1, n1, c1, rfl, hs1⟩ := ho1.sl
    clear ho1
    go_wp2_with fail
    refine (r28_TokenE (hs.bel hb1) (by omega) HJ.out HT.out).mono ?_
    rintro e w2 ⟨A2, n2, c2, rfl, hs2, hb2⟩
    have hB2 := below_then hb1 hb2
    go_wp2_with fail
    refine (r01_Like (hs1.bel hb2) hs2).mono ?_
    rintro e w3 ⟨rfl, hb3⟩
    have hB3 := below_then hB2 hb3
    clear hs1 hs2
    go_wp2_with fail
    refine (p28_ValueE (hs.bel hB3) (by omega) HJ.out HV.out).mono ?_
    rintro e w4 ⟨v4, rfl, ho4, hb4⟩
    have hB4 := below_then hB3 hb4
    obtain ⟨A4, n4, c4, rfl, hs4⟩ := ho4.sl
    clear ho4
    go_wp2_with fail
    refine (r28_ValueE (hs.bel hB4) (by omega) HJ.out HV.out).mono ?_
    rintro e w5 ⟨A5, n5, c5, rfl, hs5, hb5⟩
    have hB5 := below_then hB4 hb5
    go_wp2_with fail
    refine (r01_Like (hs4.bel hb5) hs5).mono ?_
    rintro e w6 ⟨rfl, hb6⟩
    have hB6 := below_then hB5 hb6
    clear hs4 hs5
    go_wp2_with fail
    refine (p28_Lay (hs.bel hB6) (by omega)).mono ?_
    rintro e w7 ⟨v7, rfl, ho7, hb7⟩
    have hB7 := below_then hB6 hb7
    obtain ⟨A7, n7, c7, rfl, hs7⟩ := ho7.sl
    clear ho7
    go_wp2_with fail
    refine (r28_Lay (hs.bel hB7) (by omega)).mono ?_
    rintro e w8 ⟨A8, n8, c8, rfl, hs8, hb8⟩
    have hB8 := below_then hB7 hb8
    go_wp2_with fail
    refine (r01_Like (hs7.bel hb8) hs8).mono ?_
    rintro e w9 ⟨rfl, hb9⟩
    have hB9 := below_then hB8 hb9
    clear hs7 hs8
    go_wp2_with fail
    refine (p28_Plain (hs.bel hB9) (by omega)).mono ?_
    rw [HP.out]
    rintro e w' ⟨rfl, rfl⟩
    by_cases h0 : 0 < n
    · rw [decide_eq_true h0, Bool.true_and] at hpc
      have hz : (pv == (cv == (n : Int))) = true := by
        by_cases h5 : cv = n
        · subst h5; rw [hpc]; simp
        · rw [hpc]; simp [h5]
      clear hpc
      go_wp2_with fail
      refine (r01_Count (hs.bel hB9) (by omega)).mono ?_
      rw [HC.out]
      rintro e w' ⟨rfl, rfl⟩
      go_wp2_with (go_at_call 41; refine alive28.mono ?_; rintro e w10 ⟨rfl, hb10⟩)
      go_ret
      exact ⟨rfl, below_then hB9 hb10⟩
    · rw [decide_eq_false h0, Bool.false_and] at hpc
      subst hpc
      go_wp2_with (go_at_call 41; refine alive28.mono ?_; rintro e w10 ⟨rfl, hb10⟩)
      go_ret
      exact ⟨rfl, below_then hB9 hb10⟩
end Go.Proofs.Ytcjfjhciobkbcaa
