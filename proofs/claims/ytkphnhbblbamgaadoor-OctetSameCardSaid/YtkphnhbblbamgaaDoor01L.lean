/- Layer 01's laws: each returns true for every input, and leaves what was there. Conditions: the arguments read as lists. -/
import Derived.Test.YtkphnhbblbamgaaDoor01T
namespace Go.Proofs.YtkphnhbblbamgaaDoor
open Go.RowKit

set_option maxRecDepth 100000 in
set_option maxHeartbeats 2000000 in
theorem alive01 {w : World} : Calls Tryd.prog 15 #[] w (RetB (.bool true) w) := by
  have kc := fun (w : World) (C : Array Value) (n c : Nat) => Lib.run_convert_bytes_const (P := Tryd.prog) w 26 5 C n c Tryd.underlying26 Tryd.underlying5
  have kc2 := fun (o : Obj) (C : Array Value) (n c : Nat) => kc (w.alloc o) C n c
  simp only [World.size_alloc] at kc2
  have hk := p01_Kinds (c := 65) (w := w) (by decide)
  rw [show kindsL 65 = 980 from by decide] at hk
  have hl := p01_Lower (c := 65) (w := w) (by decide)
  rw [show lowL 65 = 97 from by decide] at hl
  go_enter Tryd.func15, Tryd.ntmps15
  go_wp2_with (first | (go_at_call 9; refine hk.mono ?_; rintro e w' ⟨rfl, rfl⟩) | (go_at_call 13; refine hl.mono ?_; rintro e w' ⟨rfl, rfl⟩))
  obtain ⟨W2, hW2, hs1, hs2, hb2⟩ : ∃ W2, (w.alloc (.cells #[.int .u8 97, .int .u8 66] 5 (2, 3))).alloc (.cells #[.int .u8 65, .int .u8 98] 5 (2, 3)) = W2 ∧ Sl W2 .u8 (some ⟨w.heap.size, 0, none⟩) 2 2 [97, 66] ∧ Sl W2 .u8 (some ⟨w.heap.size + 1, 0, none⟩) 2 2 [65, 98] ∧ Below w.heap.size w W2 := by
    refine ⟨_, rfl, ?_, ?_, ?_⟩
    · exact (Sl.newF w .u8 5 [97, 66] (2, 3) (by decide) (by decide)).alloc _
    · have h := Sl.newF (w.alloc (.cells #[.int .u8 97, .int .u8 66] 5 (2, 3))) .u8 5 [65, 98] (2, 3) (by decide) (by decide)
      rw [World.size_alloc] at h
      exact h
    · exact ((Below.refl w.heap.size w).alloc (Nat.le_refl _) _).alloc (by simp) _
  rw [hW2]
  clear hW2
  refine (p01_Same hs1 hs2 (by decide) (by decide)).mono ?_
  rw [show likeL (fldL [97, 66]) (fldL [65, 98]) = true from by decide]
  rintro e w1 ⟨rfl, hb1⟩
  have hB1 := below_then hb2 hb1
  clear hs1 hs2 hb2 hb1 hk hl
  go_wp2_with fail
  have hs3 := Sl.newF w1 .u8 5 [32, 120, 9] (3, 4) (by decide) (by decide)
  have hb3 := (Below.refl w1.heap.size w1).alloc (Nat.le_refl _) (.cells ([32, 120, 9].map (Value.int .u8)).toArray 5 (3, 4))
  refine (p01_Trim hs3 (by decide)).mono ?_
  rw [show tbL [32, 120, 9] = [120] from by decide]
  rintro e w2 ⟨v2, rfl, ho2, hb2⟩
  obtain ⟨A2, n2, c2, rfl, hs2⟩ := ho2.sl
  have hn2 : n2 = 1 := hs2.len.symm
  subst hn2
  have hB2 := below_then hB1 (below_then' hb3 hb2 (Nat.le_refl _))
  clear ho2 hs2 hs3 hb3 hb2
  have ha := p01_All (kv := 1) (Sl.nil w2 .u8) (by decide)
  rw [show allL 1 [] = true from by decide] at ha
  go_wp2_with (go_at_call 18; refine ha.mono ?_; rintro e w' ⟨rfl, rfl⟩)
  go_ret
  exact ⟨rfl, hB2⟩

set_option maxRecDepth 100000 in
set_option maxHeartbeats 2000000 in
theorem law_OctetKinds {c k : Int} {w : World} (hc : (Lit.int .u8 c).wf = true) : Calls Tryd.prog 3 #[.int .u8 c, .int .i64 k] w (RetB (.bool true) w) := by
  have h1 := p01_Kinds (c := c) (w := w) hc
  have h2 := r01_Kinds (c := c) (w := w) hc
  have h3 := p01_Is (c := c) (k := k) (w := w) hc
  have h4 := r01_Is (c := c) (k := k) (w := w) hc
  have h5 := p01_Lower (c := c) (w := w) hc
  have h6 := r01_Lower (c := c) (w := w) hc
  obtain ⟨K, hK⟩ : ∃ K, kindsL c = K := ⟨_, rfl⟩
  obtain ⟨B, hB⟩ : ∃ B, isL c k = B := ⟨_, rfl⟩
  obtain ⟨L, hL⟩ : ∃ L, lowL c = L := ⟨_, rfl⟩
  rw [hK] at h1 h2
  rw [hB] at h3 h4
  rw [hL] at h5 h6
  clear hK hB hL
  go_enter Tryd.func3, Tryd.ntmps3
  go_wp2_with (first | (go_at_call 9; refine h1.mono ?_; rintro e w' ⟨rfl, rfl⟩) | (go_at_call 10; refine h2.mono ?_; rintro e w' ⟨rfl, rfl⟩) | (go_at_call 11; refine h3.mono ?_; rintro e w' ⟨rfl, rfl⟩) | (go_at_call 12; refine h4.mono ?_; rintro e w' ⟨rfl, rfl⟩) | (go_at_call 13; refine h5.mono ?_; rintro e w' ⟨rfl, rfl⟩) | (go_at_call 14; refine h6.mono ?_; rintro e w' ⟨rfl, rfl⟩) | (go_at_call 15; refine alive01.mono ?_; rintro e w1 ⟨rfl, hb⟩))
  go_ret
  exact ⟨rfl, hb⟩

set_option maxRecDepth 100000 in
set_option maxHeartbeats 2000000 in
theorem law_OctetTexts {A n c xs} {k : Int} {w : World} (hs : Sl w .u8 A n c xs) : Calls Tryd.prog 4 #[.slice A n c, .int .i64 k] w (RetB (.bool true) w) := by
  by_cases hbig : 1000 < n
  · go_enter Tryd.func4, Tryd.ntmps4
    go_wp2_with (go_at_call 15; refine alive01.mono ?_; rintro e w1 ⟨rfl, hb⟩)
    go_ret
    exact ⟨rfl, hb⟩
  · have hln := hs.len
    have e1 := likeL_self (fldL xs)
    have e2 := likeL_self (tbL xs)
    have h1 := r01_Count (kv := k) hs (by omega)
    have h2 := p01_Count (kv := k) hs (by omega)
    have h3 := p01_All (kv := k) hs (by omega)
    have ea : allL k xs = (cntL k xs == (n : Int)) := by unfold allL; rw [hln]; rfl
    rw [ea] at h3
    obtain ⟨N, hN⟩ : ∃ N, cntL k xs = N := ⟨_, rfl⟩
    rw [hN] at h1 h2 h3
    clear hN ea
    go_enter Tryd.func4, Tryd.ntmps4
    go_wp2_with (first | (go_at_call 16; refine h1.mono ?_; rintro e w' ⟨rfl, rfl⟩) | (go_at_call 17; refine h2.mono ?_; rintro e w' ⟨rfl, rfl⟩) | (go_at_call 18; refine h3.mono ?_; rintro e w' ⟨rfl, rfl⟩))
    refine (p01_Fold hs (by omega)).mono ?_
    rintro e w1 ⟨v1, rfl, ho1, hb1⟩
    obtain ⟨A1, n1, c1, rfl, hs1⟩ := ho1.sl
    clear ho1
    go_wp2_with fail
    refine (r01_Fold (hs.bel hb1) (by omega)).mono ?_
    rintro e w2 ⟨v2, rfl, ho2, hb2⟩
    obtain ⟨A2, n2, c2, rfl, hs2⟩ := ho2.sl
    clear ho2
    have hB2 := below_then hb1 hb2
    go_wp2_with fail
    refine (r01_Like (hs1.bel hb2) hs2).mono ?_
    rw [e1]
    rintro e w3 ⟨rfl, hb3⟩
    have hB3 := below_then hB2 hb3
    go_wp2_with fail
    refine (p01_Trim (hs.bel hB3) (by omega)).mono ?_
    rintro e w4 ⟨v4, rfl, ho4, hb4⟩
    obtain ⟨A4, n4, c4, rfl, hs4⟩ := ho4.sl
    clear ho4
    have hB4 := below_then hB3 hb4
    go_wp2_with fail
    refine (r01_Trim (hs.bel hB4)).mono ?_
    rintro e w5 ⟨A5, n5, c5, rfl, hs5, hb5⟩
    have hB5 := below_then hB4 hb5
    go_wp2_with fail
    refine (r01_Like (hs4.bel hb5) hs5).mono ?_
    rw [e2]
    rintro e w6 ⟨rfl, hb6⟩
    have hB6 := below_then hB5 hb6
    go_wp2_with fail
    refine alive01.mono ?_
    rintro e w7 ⟨rfl, hb7⟩
    go_wp2
    go_ret
    exact ⟨rfl, below_then hB6 hb7⟩

set_option maxRecDepth 100000 in
set_option maxHeartbeats 2000000 in
theorem law_OctetSame {A n c xs A' n' c' ys} {w : World} (hs : Sl w .u8 A n c xs) (ht : Sl w .u8 A' n' c' ys) : Calls Tryd.prog 5 #[.slice A n c, .slice A' n' c'] w (RetB (.bool true) w) := by
  by_cases hbig : 1000 < n
  · go_enter Tryd.func5, Tryd.ntmps5
    go_wp2_with (go_at_call 15; refine alive01.mono ?_; rintro e w1 ⟨rfl, hb⟩)
    go_ret
    exact ⟨rfl, hb⟩
  · by_cases hbig2 : 1000 < n'
    · go_enter Tryd.func5, Tryd.ntmps5
      go_wp2_with (go_at_call 15; refine alive01.mono ?_; rintro e w1 ⟨rfl, hb⟩)
      go_ret
      exact ⟨rfl, hb⟩
    · have hln := hs.len
      have e1 := likeL_self (fldL xs)
      have e2 := fld_fld xs
      have hfl := fld_len xs
      go_enter Tryd.func5, Tryd.ntmps5
      go_wp2_with fail
      refine (p01_Fold hs (by omega)).mono ?_
      rintro e w1 ⟨v1, rfl, ho1, hb1⟩
      obtain ⟨A1, n1, c1, rfl, hs1⟩ := ho1.sl
      have hl1 := hs1.len
      clear ho1
      go_wp2_with fail
      refine (p01_Same (hs.bel hb1) (ht.bel hb1) (by omega) (by omega)).mono ?_
      rintro e w2 ⟨rfl, hb2⟩
      have hB2 := below_then hb1 hb2
      have hs12 := hs1.bel hb2
      go_wp2_with fail
      refine (r01_Fold (hs.bel hB2) (by omega)).mono ?_
      rintro e w3 ⟨v3, rfl, ho3, hb3⟩
      obtain ⟨A3, n3, c3, rfl, hs3⟩ := ho3.sl
      clear ho3
      have hB3 := below_then hB2 hb3
      have hs13 := hs12.bel hb3
      go_wp2_with fail
      refine (r01_Fold (ht.bel hB3) (by omega)).mono ?_
      rintro e w4 ⟨v4, rfl, ho4, hb4⟩
      obtain ⟨A4, n4, c4, rfl, hs4⟩ := ho4.sl
      clear ho4
      have hB4 := below_then hB3 hb4
      have hs14 := hs13.bel hb4
      go_wp2_with fail
      refine (r01_Like (hs3.bel hb4) hs4).mono ?_
      rintro e w5 ⟨rfl, hb5⟩
      have hB5 := below_then hB4 hb5
      have hs15 := hs14.bel hb5
      go_wp2_with fail
      refine (p01_Same (hs.bel hB5) hs15 (by omega) (by omega)).mono ?_
      rw [e2, e1]
      rintro e w6 ⟨rfl, hb6⟩
      have hB6 := below_then hB5 hb6
      have hs16 := hs15.bel hb6
      go_wp2_with fail
      refine (p01_Fold hs16 (by omega)).mono ?_
      rw [e2]
      rintro e w7 ⟨v7, rfl, ho7, hb7⟩
      obtain ⟨A7, n7, c7, rfl, hs7⟩ := ho7.sl
      clear ho7
      have hB7 := below_then hB6 hb7
      have hs17 := hs16.bel hb7
      go_wp2_with fail
      refine (r01_Like hs7 hs17).mono ?_
      rw [e1]
      rintro e w8 ⟨rfl, hb8⟩
      have hB8 := below_then hB7 hb8
      go_wp2_with fail
      refine alive01.mono ?_
      rintro e w9 ⟨rfl, hb9⟩
      go_wp2
      go_ret
      exact ⟨rfl, below_then hB8 hb9⟩
end Go.Proofs.YtkphnhbblbamgaaDoor
