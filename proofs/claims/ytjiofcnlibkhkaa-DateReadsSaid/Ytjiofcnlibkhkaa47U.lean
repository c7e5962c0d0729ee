/- Layer 47 (date): a date's text: what the program's function returns. No condition. -/
import Derived.Test.Ytjiofcnlibkhkaa47P
namespace Go.Proofs.Ytjiofcnlibkhkaa
open Go.RowKit

set_option maxRecDepth 100000 in
set_option maxHeartbeats 10000000 in
theorem p47_Lay {Y M D h mi s z : Int} {w : World} : Calls Try.prog 14 #[.agg #[.int .i64 Y, .int .i64 M, .int .i64 D, .int .i64 h, .int .i64 mi, .int .i64 s, .int .i64 z]] w (RetLay (layV Y M D h mi s z) (errV Y M D h mi s z) w) := by
  have hmy := fun w => p47_May (Y := Y) (M := M) (D := D) (h := h) (mi := mi) (s := s) (z := z) (w := w)
  cases hR : mayL Y M D h mi s z with
  | false =>
    rw [hR] at hmy
    have e1 : layV Y M D h mi s z = [] := by unfold layV; rw [hR]; rfl
    have e2 : errV Y M D h mi s z = 1 := by unfold errV; rw [hR]; rfl
    rw [e1, e2]
    clear e1 e2 hR
    go_enter Try.func14, Try.ntmps14
    go_wp2_with fail
    refine (hmy _).mono ?_
    rintro e w1 ⟨rfl, hb1⟩
    go_wp2
    go_ret2
    exact ⟨none, 0, 0, rfl, Sl.nil _ _, below_then ((Below.refl _ _).alloc (Nat.le_refl _) _) hb1⟩
  | true =>
    rw [hR] at hmy
    have e1 : layV Y M D h mi s z = layL Y M D h mi s z := by unfold layV; rw [hR]; rfl
    have e2 : errV Y M D h mi s z = 0 := by unfold errV; rw [hR]; rfl
    rw [e1, e2]
    obtain ⟨⟨f1, f2, f3, f4, f5, f6, f7⟩, g1, g2, g3, g4, g5, g6, g7, g8⟩ := may_facts hR
    obtain ⟨nd, hnd, hwd⟩ := wday_rng f5 f7
    obtain ⟨nm, hnm⟩ : ∃ nm : Nat, M = (nm : Int) + 1 := ⟨(M - 1).toNat, by omega⟩
    subst hnm
    have hnm12 : nm < 12 := by omega
    rw [layL_is hwd]
    have hwk := fun w => p47_Weekday (y := Y) (m := (nm : Int) + 1) (d := D) (w := w)
    rw [hwd] at hwk
    have hcD := fun w => p47_capD (n := nd) (w := w) hnd
    have hcM := fun w => p47_capM (n := nm) (w := w) hnm12
    obtain ⟨hd3, hdw⟩ := dayN_len nd hnd
    obtain ⟨hm3, hmw⟩ := monN_len nm hnm12
    obtain ⟨xd, hxd⟩ : ∃ x, dayL.getD nd [] = x := ⟨_, rfl⟩
    obtain ⟨xm, hxm⟩ : ∃ x, monL.getD nm [] = x := ⟨_, rfl⟩
    rw [hxd] at hcD hd3 hdw ⊢
    rw [hxm] at hcM hm3 hmw ⊢
    have hst1 : strOfNums (xd ++ [44, 32]) = strOfNums xd ++ { data := #[44, 32] } := by rw [← str_app, st47a]
    have hst2 : strOfNums ([32] ++ xm ++ [32]) = { data := #[32] } ++ strOfNums xm ++ { data := #[32] } := by rw [← str_app, ← str_app, st47b]
    have hz1 : (strOfNums xd).size = 3 := by rw [str_size]; exact hd3
    have hz2 : (strOfNums xm).size = 3 := by rw [str_size]; exact hm3
    obtain ⟨sd, hsd⟩ : ∃ x, strOfNums xd = x := ⟨_, rfl⟩
    obtain ⟨sm, hsm⟩ : ∃ x, strOfNums xm = x := ⟨_, rfl⟩
    rw [hsd] at hcD hst1 hz1
    rw [hsm] at hcM hst2 hz2
    have hwf1 : ∀ a ∈ xd ++ [44, 32], (Lit.int .u8 a).wf = true := by
      intro a ha
      rcases List.mem_append.1 ha with ha | ha
      · exact hdw a ha
      · have h9 : ∀ a ∈ ([44, 32] : List Int), (Lit.int .u8 a).wf = true := by decide
        exact h9 a ha
    have hwf2 : ∀ a ∈ [32] ++ xm ++ [32], (Lit.int .u8 a).wf = true := by
      intro a ha
      rcases List.mem_append.1 ha with ha | ha
      · rcases List.mem_append.1 ha with ha | ha
        · have h9 : ∀ a ∈ ([32] : List Int), (Lit.int .u8 a).wf = true := by decide
          exact h9 a ha
        · exact hmw a ha
      · have h9 : ∀ a ∈ ([32] : List Int), (Lit.int .u8 a).wf = true := by decide
        exact h9 a ha
    have hl1 : (xd ++ [44, 32]).length = 5 := by rw [List.length_append, hd3]; rfl
    have hl2 : ([32] ++ xm ++ [32]).length = 5 := by rw [List.length_append, List.length_append, hm3]; rfl
    obtain ⟨x1, hx1⟩ : ∃ x, xd ++ [44, 32] = x := ⟨_, rfl⟩
    obtain ⟨x2, hx2⟩ : ∃ x, [32] ++ xm ++ [32] = x := ⟨_, rfl⟩
    rw [hx1] at hst1 hwf1 hl1 ⊢
    rw [hx2] at hst2 hwf2 hl2 ⊢
    have HDL := Lib.hid (show (digL D (longL D)).length = longL D from digL_len _ _)
    have HDY := Lib.hid (show (digL Y 4).length = 4 from digL_len _ _)
    have HDh := Lib.hid (show (digL h 2).length = 2 from digL_len _ _)
    have HDm := Lib.hid (show (digL mi 2).length = 2 from digL_len _ _)
    have HDs := Lib.hid (show (digL s 2).length = 2 from digL_len _ _)
    generalize hRR : x1 ++ digL D (longL D) ++ x2 ++ digL Y 4 ++ [32] ++ digL h 2 ++ [58] ++ digL mi 2 ++ [58] ++ digL s 2 ++ [32] ++ [if z < 0 then 45 else 43] ++ digL (absL z / 60 * 100 + absL z % 60) 4 = R
    have HRR := Lib.hid hRR
    have ks := fun (w : World) (s : ByteArray) => Lib.run_convert_string_bytes (P := Try.prog) w 9 30 5 s Try.underlying9 Try.underlying30 Try.underlying5
    clear e1 e2 hR hwd hxd hxm hsd hsm hx1 hx2 hdw hmw f7 hRR
    by_cases hD : 10 ≤ D
    · have hlg : longL D = 2 := if_pos hD
      rw [hlg] at HDL HRR
      go_enter Try.func14, Try.ntmps14
      go_wp2_with fail
      refine (hmy _).mono ?_
      rintro e w1 ⟨rfl, hx1⟩
      have c0 := boxc hx1 0 _ rfl
      have c1 := boxc hx1 1 _ rfl
      have c2 := boxc hx1 2 _ rfl
      have hBw := (Below.refl w.heap.size w).alloc (Nat.le_refl _) (.cells #[.int .i64 Y, .int .i64 ((nm : Int) + 1), .int .i64 D, .int .i64 h, .int .i64 mi, .int .i64 s, .int .i64 z] 29)
      clear hmy
      go_wp2_with fail
      refine (hwk _).mono ?_
      rintro e w' ⟨rfl, rfl⟩
      go_wp2_with fail
      refine (hcD _).mono ?_
      rintro e w2 ⟨rfl, hb2⟩
      have hx2 := below_then hx1 hb2
      obtain ⟨ho3, hb3⟩ := App.ofStr w2 5 hst1 hwf1 (by omega)
      have ks1 := ks w2 (sd ++ { data := #[44, 32] })
      have hx3 := below_then hx2 hb3
      have ho3 := ho3.mono hx2.size
      obtain ⟨W3, hW3⟩ : ∃ W, Lib.bytesWorld w2 5 (sd ++ { data := #[44, 32] }) = W := ⟨_, rfl⟩
      rw [hW3] at ks1 ho3 hb3 hx3
      obtain ⟨V3, hV3⟩ : ∃ V, Value.slice (some ⟨w2.heap.size, 0, none⟩) (sd ++ { data := #[44, 32] }).size (grownCap w2 (sd ++ { data := #[44, 32] }).size 0 5) = V := ⟨_, rfl⟩
      rw [hV3] at ks1 ho3
      have c2 := boxc hx3 2 _ rfl
      have hz3 := hx3.size
      clear ks hW3 hV3 hb3 c0 c1 hwk hcD
      go_wp2_with fail
      refine (p47_digits2 (by omega) (by omega) ho3 hz3 (by simp [hl1])).mono ?_
      rintro e w4 ⟨v4, rfl, ho4, hb4⟩
      have hx4 := hx3.trans hb4
      have hz4 := hx4.size
      clear ho3 hb4 hx3 hz3
      have c1 := boxc hx4 1 _ rfl
      clear c2 ks1
      go_wp2_with fail
      refine (hcM _).mono ?_
      rintro e w5 ⟨rfl, hb5⟩
      have hx5 := below_then hx4 hb5
      have ho5 := ho4.bel hb5
      have hz5 := hx5.size
      clear ho4 hx4 hz4 hb5 hcM c1
      go_wp2_with (at_builtin; refine wpList_appAS rfl rfl eltB Try.underlying9 (by decide) rfl rfl hst2 hwf2 ho5 (by omega) hz5 (by simp [List.length_append, hl1, hl2, HDL.out]) ?_; intro v6 w6 ho6 hb6; have hx6 := hx5.trans hb6; have hz6 := hx6.size; have c0 := boxc hx6 0 _ rfl)
      clear ho5 hx5 hz5 hb6
      refine (p47_digits4 (by omega) (by omega) ho6 hz6 (by simp [List.length_append, hl1, hl2, HDL.out])).mono ?_
      rintro e w7 ⟨v7, rfl, ho7, hb7⟩
      have hx7 := hx6.trans hb7
      have hz7 := hx7.size
      clear ho6 hb7 hx6 hz6
      clear c0
      have hsl : Sl (w7.alloc (.cells #[.int .u8 32] 5)) .u8 (some ⟨w7.heap.size, 0, none⟩) 1 1 [32] := Sl.one w7 .u8 5 32 (by decide)
      have hoa := ho7.alloc (.cells #[.int .u8 32] 5)
      have hxa := hx7.alloc hz7 (.cells #[.int .u8 32] 5)
      have hza := hxa.size
      clear ho7 hx7 hz7
      go_wp2_with (at_builtin; refine wpList_appA rfl rfl eltB (by decide) rfl rfl hoa hsl (by omega) hza (by simp [List.length_append, hl1, hl2, HDL.out, HDY.out]) ?_; intro v8 w8 ho8 hb8; have hx8 := hxa.trans hb8; have hz8 := hx8.size; have c3 := boxc hx8 3 _ rfl)
      clear hsl hoa hxa hza hb8
      refine (p47_digits2 (by omega) (by omega) ho8 hz8 (by simp [List.length_append, hl1, hl2, HDL.out, HDY.out])).mono ?_
      rintro e w9 ⟨v9, rfl, ho9, hb9⟩
      have hx9 := hx8.trans hb9
      have hz9 := hx9.size
      clear ho8 hb9 hx8 hz8
      clear c3
      have hsl : Sl (w9.alloc (.cells #[.int .u8 58] 5)) .u8 (some ⟨w9.heap.size, 0, none⟩) 1 1 [58] := Sl.one w9 .u8 5 58 (by decide)
      have hoa := ho9.alloc (.cells #[.int .u8 58] 5)
      have hxa := hx9.alloc hz9 (.cells #[.int .u8 58] 5)
      have hza := hxa.size
      clear ho9 hx9 hz9
      go_wp2_with (at_builtin; refine wpList_appA rfl rfl eltB (by decide) rfl rfl hoa hsl (by omega) hza (by simp [List.length_append, hl1, hl2, HDL.out, HDY.out, HDh.out]) ?_; intro v10 w10 ho10 hb10; have hx10 := hxa.trans hb10; have hz10 := hx10.size; have c4 := boxc hx10 4 _ rfl)
      clear hsl hoa hxa hza hb10
      refine (p47_digits2 (by omega) (by omega) ho10 hz10 (by simp [List.length_append, hl1, hl2, HDL.out, HDY.out, HDh.out])).mono ?_
      rintro e w11 ⟨v11, rfl, ho11, hb11⟩
      have hx11 := hx10.trans hb11
      have hz11 := hx11.size
      clear ho10 hb11 hx10 hz10
      clear c4
      have hsl : Sl (w11.alloc (.cells #[.int .u8 58] 5)) .u8 (some ⟨w11.heap.size, 0, none⟩) 1 1 [58] := Sl.one w11 .u8 5 58 (by decide)
      have hoa := ho11.alloc (.cells #[.int .u8 58] 5)
      have hxa := hx11.alloc hz11 (.cells #[.int .u8 58] 5)
      have hza := hxa.size
      clear ho11 hx11 hz11
      go_wp2_with (at_builtin; refine wpList_appA rfl rfl eltB (by decide) rfl rfl hoa hsl (by omega) hza (by simp [List.length_append, hl1, hl2, HDL.out, HDY.out, HDh.out, HDm.out]) ?_; intro v12 w12 ho12 hb12; have hx12 := hxa.trans hb12; have hz12 := hx12.size; have c5 := boxc hx12 5 _ rfl)
      clear hsl hoa hxa hza hb12
      refine (p47_digits2 (by omega) (by omega) ho12 hz12 (by simp [List.length_append, hl1, hl2, HDL.out, HDY.out, HDh.out, HDm.out])).mono ?_
      rintro e w13 ⟨v13, rfl, ho13, hb13⟩
      have hx13 := hx12.trans hb13
      have hz13 := hx13.size
      clear ho12 hb13 hx12 hz12
      clear c5
      have hsl : Sl (w13.alloc (.cells #[.int .u8 32] 5)) .u8 (some ⟨w13.heap.size, 0, none⟩) 1 1 [32] := Sl.one w13 .u8 5 32 (by decide)
      have hoa := ho13.alloc (.cells #[.int .u8 32] 5)
      have hxa := hx13.alloc hz13 (.cells #[.int .u8 32] 5)
      have hza := hxa.size
      clear ho13 hx13 hz13
      go_wp2_with (at_builtin; refine wpList_appA rfl rfl eltB (by decide) rfl rfl hoa hsl (by omega) hza (by simp [List.length_append, hl1, hl2, HDL.out, HDY.out, HDh.out, HDm.out, HDs.out]) ?_; intro v14 w14 ho14 hb14; have hx14 := hxa.trans hb14; have hz14 := hx14.size; have c6 := boxc hx14 6 _ rfl)
      clear hsl hoa hxa hza hb14
      by_cases hzn : z < 0
      · have e1 : absL z = -z := if_pos hzn
        obtain ⟨A, hA⟩ : ∃ A, absL z / 60 = A := ⟨_, rfl⟩
        obtain ⟨G, hG⟩ : ∃ G, absL z % 60 = G := ⟨_, rfl⟩
        have HRR := HRR.out
        rw [hA, hG, if_pos hzn] at HRR
        have HRR := Lib.hid HRR
        rw [e1] at hA hG
        have qd := tdiv_pos (y := -z) (by omega) 60
        have qm := tmod_pos (y := -z) (by omega) 60
        rw [hA] at qd
        rw [hG] at qm
        have rA : 0 ≤ A ∧ A ≤ 99 := by omega
        have rG : 0 ≤ G ∧ G ≤ 59 := by omega
        obtain ⟨rA1, rA2⟩ := rA
        obtain ⟨rG1, rG2⟩ := rG
        clear hA hG e1
        go_quiet (fail)
        rename_i nq
        have hd14 : ∀ B, Below B w14 (w14.drewN nq) := fun B => below_drewN (Below.refl _ _) _
        obtain ⟨W15, hW15⟩ : ∃ W, w14.drewN nq = W := ⟨_, rfl⟩
        rw [hW15] at hd14 ⊢
        clear hW15
        have ho15 := ho14.bel (hd14 _)
        have hx15 := hx14.trans (hd14 _)
        have hz15 := hx15.size
        clear hd14 ho14 hx14 hz14 c6
        have hsl : Sl (W15.alloc (.cells #[.int .u8 45] 5)) .u8 (some ⟨W15.heap.size, 0, none⟩) 1 1 [45] := Sl.one W15 .u8 5 45 (by decide)
        have hoa := ho15.alloc (.cells #[.int .u8 45] 5)
        have hxa := hx15.alloc hz15 (.cells #[.int .u8 45] 5)
        have hza := hxa.size
        clear ho15 hx15 hz15
        go_wp2_with (at_builtin; refine wpList_appA rfl rfl eltB (by decide) rfl rfl hoa hsl (by omega) hza (by simp [List.length_append, hl1, hl2, HDL.out, HDY.out, HDh.out, HDm.out, HDs.out]) ?_; intro v16 w16 ho16 hb16; have hx16 := hxa.trans hb16; have hz16 := hx16.size)
        clear hsl hoa hxa hza hb16
        refine (p47_digits4 (by omega) (by omega) ho16 hz16 (by simp [List.length_append, hl1, hl2, HDL.out, HDY.out, HDh.out, HDm.out, HDs.out])).mono ?_
        rintro e w17 ⟨v17, rfl, ho17, hb17⟩
        have hx17 := hx16.trans hb17
        go_wp2
        go_ret2
        obtain ⟨A17, c17, rfl, hs17⟩ := ho17.sl
        exact ⟨A17, _, c17, rfl, by rw [← HRR.out]; exact hs17, below_then hBw hx17⟩
      · have e1 : absL z = z := if_neg hzn
        obtain ⟨A, hA⟩ : ∃ A, absL z / 60 = A := ⟨_, rfl⟩
        obtain ⟨G, hG⟩ : ∃ G, absL z % 60 = G := ⟨_, rfl⟩
        have HRR := HRR.out
        rw [hA, hG, if_neg hzn] at HRR
        have HRR := Lib.hid HRR
        rw [e1] at hA hG
        have qd := tdiv_pos (y := z) (by omega) 60
        have qm := tmod_pos (y := z) (by omega) 60
        rw [hA] at qd
        rw [hG] at qm
        have rA : 0 ≤ A ∧ A ≤ 99 := by omega
        have rG : 0 ≤ G ∧ G ≤ 59 := by omega
        obtain ⟨rA1, rA2⟩ := rA
        obtain ⟨rG1, rG2⟩ := rG
        clear hA hG e1
        go_quiet (fail)
        rename_i nq
        have hd14 : ∀ B, Below B w14 (w14.drewN nq) := fun B => below_drewN (Below.refl _ _) _
        obtain ⟨W15, hW15⟩ : ∃ W, w14.drewN nq = W := ⟨_, rfl⟩
        rw [hW15] at hd14 ⊢
        clear hW15
        have ho15 := ho14.bel (hd14 _)
        have hx15 := hx14.trans (hd14 _)
        have hz15 := hx15.size
        clear hd14 ho14 hx14 hz14 c6
        have hsl : Sl (W15.alloc (.cells #[.int .u8 43] 5)) .u8 (some ⟨W15.heap.size, 0, none⟩) 1 1 [43] := Sl.one W15 .u8 5 43 (by decide)
        have hoa := ho15.alloc (.cells #[.int .u8 43] 5)
        have hxa := hx15.alloc hz15 (.cells #[.int .u8 43] 5)
        have hza := hxa.size
        clear ho15 hx15 hz15
        go_wp2_with (at_builtin; refine wpList_appA rfl rfl eltB (by decide) rfl rfl hoa hsl (by omega) hza (by simp [List.length_append, hl1, hl2, HDL.out, HDY.out, HDh.out, HDm.out, HDs.out]) ?_; intro v16 w16 ho16 hb16; have hx16 := hxa.trans hb16; have hz16 := hx16.size)
        clear hsl hoa hxa hza hb16
        refine (p47_digits4 (by omega) (by omega) ho16 hz16 (by simp [List.length_append, hl1, hl2, HDL.out, HDY.out, HDh.out, HDm.out, HDs.out])).mono ?_
        rintro e w17 ⟨v17, rfl, ho17, hb17⟩
        have hx17 := hx16.trans hb17
        go_wp2
        go_ret2
        obtain ⟨A17, c17, rfl, hs17⟩ := ho17.sl
        exact ⟨A17, _, c17, rfl, by rw [← HRR.out]; exact hs17, below_then hBw hx17⟩
    · have hlg : longL D = 1 := if_neg hD
      rw [hlg] at HDL HRR
      go_enter Try.func14, Try.ntmps14
      go_wp2_with fail
      refine (hmy _).mono ?_
      rintro e w1 ⟨rfl, hx1⟩
      have c0 := boxc hx1 0 _ rfl
      have c1 := boxc hx1 1 _ rfl
      have c2 := boxc hx1 2 _ rfl
      have hBw := (Below.refl w.heap.size w).alloc (Nat.le_refl _) (.cells #[.int .i64 Y, .int .i64 ((nm : Int) + 1), .int .i64 D, .int .i64 h, .int .i64 mi, .int .i64 s, .int .i64 z] 29)
      clear hmy
      go_wp2_with fail
      refine (hwk _).mono ?_
      rintro e w' ⟨rfl, rfl⟩
      go_wp2_with fail
      refine (hcD _).mono ?_
      rintro e w2 ⟨rfl, hb2⟩
      have hx2 := below_then hx1 hb2
      obtain ⟨ho3, hb3⟩ := App.ofStr w2 5 hst1 hwf1 (by omega)
      have ks1 := ks w2 (sd ++ { data := #[44, 32] })
      have hx3 := below_then hx2 hb3
      have ho3 := ho3.mono hx2.size
      obtain ⟨W3, hW3⟩ : ∃ W, Lib.bytesWorld w2 5 (sd ++ { data := #[44, 32] }) = W := ⟨_, rfl⟩
      rw [hW3] at ks1 ho3 hb3 hx3
      obtain ⟨V3, hV3⟩ : ∃ V, Value.slice (some ⟨w2.heap.size, 0, none⟩) (sd ++ { data := #[44, 32] }).size (grownCap w2 (sd ++ { data := #[44, 32] }).size 0 5) = V := ⟨_, rfl⟩
      rw [hV3] at ks1 ho3
      have c2 := boxc hx3 2 _ rfl
      have hz3 := hx3.size
      clear ks hW3 hV3 hb3 c0 c1 hwk hcD
      go_wp2_with fail
      refine (p47_digits1 (by omega) (by omega) ho3 hz3 (by simp [hl1])).mono ?_
      rintro e w4 ⟨v4, rfl, ho4, hb4⟩
      have hx4 := hx3.trans hb4
      have hz4 := hx4.size
      clear ho3 hb4 hx3 hz3
      have c1 := boxc hx4 1 _ rfl
      clear c2 ks1
      go_wp2_with fail
      refine (hcM _).mono ?_
      rintro e w5 ⟨rfl, hb5⟩
      have hx5 := below_then hx4 hb5
      have ho5 := ho4.bel hb5
      have hz5 := hx5.size
      clear ho4 hx4 hz4 hb5 hcM c1
      go_wp2_with (at_builtin; refine wpList_appAS rfl rfl eltB Try.underlying9 (by decide) rfl rfl hst2 hwf2 ho5 (by omega) hz5 (by simp [List.length_append, hl1, hl2, HDL.out]) ?_; intro v6 w6 ho6 hb6; have hx6 := hx5.trans hb6; have hz6 := hx6.size; have c0 := boxc hx6 0 _ rfl)
      clear ho5 hx5 hz5 hb6
      refine (p47_digits4 (by omega) (by omega) ho6 hz6 (by simp [List.length_append, hl1, hl2, HDL.out])).mono ?_
      rintro e w7 ⟨v7, rfl, ho7, hb7⟩
      have hx7 := hx6.trans hb7
      have hz7 := hx7.size
      clear ho6 hb7 hx6 hz6
      clear c0
      have hsl : Sl (w7.alloc (.cells #[.int .u8 32] 5)) .u8 (some ⟨w7.heap.size, 0, none⟩) 1 1 [32] := Sl.one w7 .u8 5 32 (by decide)
      have hoa := ho7.alloc (.cells #[.int .u8 32] 5)
      have hxa := hx7.alloc hz7 (.cells #[.int .u8 32] 5)
      have hza := hxa.size
      clear ho7 hx7 hz7
      go_wp2_with (at_builtin; refine wpList_appA rfl rfl eltB (by decide) rfl rfl hoa hsl (by omega) hza (by simp [List.length_append, hl1, hl2, HDL.out, HDY.out]) ?_; intro v8 w8 ho8 hb8; have hx8 := hxa.trans hb8; have hz8 := hx8.size; have c3 := boxc hx8 3 _ rfl)
      clear hsl hoa hxa hza hb8
      refine (p47_digits2 (by omega) (by omega) ho8 hz8 (by simp [List.length_append, hl1, hl2, HDL.out, HDY.out])).mono ?_
      rintro e w9 ⟨v9, rfl, ho9, hb9⟩
      have hx9 := hx8.trans hb9
      have hz9 := hx9.size
      clear ho8 hb9 hx8 hz8
      clear c3
      have hsl : Sl (w9.alloc (.cells #[.int .u8 58] 5)) .u8 (some ⟨w9.heap.size, 0, none⟩) 1 1 [58] := Sl.one w9 .u8 5 58 (by decide)
      have hoa := ho9.alloc (.cells #[.int .u8 58] 5)
      have hxa := hx9.alloc hz9 (.cells #[.int .u8 58] 5)
      have hza := hxa.size
      clear ho9 hx9 hz9
      go_wp2_with (at_builtin; refine wpList_appA rfl rfl eltB (by decide) rfl rfl hoa hsl (by omega) hza (by simp [List.length_append, hl1, hl2, HDL.out, HDY.out, HDh.out]) ?_; intro v10 w10 ho10 hb10; have hx10 := hxa.trans hb10; have hz10 := hx10.size; have c4 := boxc hx10 4 _ rfl)
      clear hsl hoa hxa hza hb10
      refine (p47_digits2 (by omega) (by omega) ho10 hz10 (by simp [List.length_append, hl1, hl2, HDL.out, HDY.out, HDh.out])).mono ?_
      rintro e w11 ⟨v11, rfl, ho11, hb11⟩
      have hx11 := hx10.trans hb11
      have hz11 := hx11.size
      clear ho10 hb11 hx10 hz10
      clear c4
      have hsl : Sl (w11.alloc (.cells #[.int .u8 58] 5)) .u8 (some ⟨w11.heap.size, 0, none⟩) 1 1 [58] := Sl.one w11 .u8 5 58 (by decide)
      have hoa := ho11.alloc (.cells #[.int .u8 58] 5)
      have hxa := hx11.alloc hz11 (.cells #[.int .u8 58] 5)
      have hza := hxa.size
      clear ho11 hx11 hz11
      go_wp2_with (at_builtin; refine wpList_appA rfl rfl eltB (by decide) rfl rfl hoa hsl (by omega) hza (by simp [List.length_append, hl1, hl2, HDL.out, HDY.out, HDh.out, HDm.out]) ?_; intro v12 w12 ho12 hb12; have hx12 := hxa.trans hb12; have hz12 := hx12.size; have c5 := boxc hx12 5 _ rfl)
      clear hsl hoa hxa hza hb12
      refine (p47_digits2 (by omega) (by omega) ho12 hz12 (by simp [List.length_append, hl1, hl2, HDL.out, HDY.out, HDh.out, HDm.out])).mono ?_
      rintro e w13 ⟨v13, rfl, ho13, hb13⟩
      have hx13 := hx12.trans hb13
      have hz13 := hx13.size
      clear ho12 hb13 hx12 hz12
      clear c5
      have hsl : Sl (w13.alloc (.cells #[.int .u8 32] 5)) .u8 (some ⟨w13.heap.size, 0, none⟩) 1 1 [32] := Sl.one w13 .u8 5 32 (by decide)
      have hoa := ho13.alloc (.cells #[.int .u8 32] 5)
      have hxa := hx13.alloc hz13 (.cells #[.int .u8 32] 5)
      have hza := hxa.size
      clear ho13 hx13 hz13
      go_wp2_with (at_builtin; refine wpList_appA rfl rfl eltB (by decide) rfl rfl hoa hsl (by omega) hza (by simp [List.length_append, hl1, hl2, HDL.out, HDY.out, HDh.out, HDm.out, HDs.out]) ?_; intro v14 w14 ho14 hb14; have hx14 := hxa.trans hb14; have hz14 := hx14.size; have c6 := boxc hx14 6 _ rfl)
      clear hsl hoa hxa hza hb14
      by_cases hzn : z < 0
      · have e1 : absL z = -z := if_pos hzn
        obtain ⟨A, hA⟩ : ∃ A, absL z / 60 = A := ⟨_, rfl⟩
        obtain ⟨G, hG⟩ : ∃ G, absL z % 60 = G := ⟨_, rfl⟩
        have HRR := HRR.out
        rw [hA, hG, if_pos hzn] at HRR
        have HRR := Lib.hid HRR
        rw [e1] at hA hG
        have qd := tdiv_pos (y := -z) (by omega) 60
        have qm := tmod_pos (y := -z) (by omega) 60
        rw [hA] at qd
        rw [hG] at qm
        have rA : 0 ≤ A ∧ A ≤ 99 := by omega
        have rG : 0 ≤ G ∧ G ≤ 59 := by omega
        obtain ⟨rA1, rA2⟩ := rA
        obtain ⟨rG1, rG2⟩ := rG
        clear hA hG e1
        go_quiet (fail)
        rename_i nq
        have hd14 : ∀ B, Below B w14 (w14.drewN nq) := fun B => below_drewN (Below.refl _ _) _
        obtain ⟨W15, hW15⟩ : ∃ W, w14.drewN nq = W := ⟨_, rfl⟩
        rw [hW15] at hd14 ⊢
        clear hW15
        have ho15 := ho14.bel (hd14 _)
        have hx15 := hx14.trans (hd14 _)
        have hz15 := hx15.size
        clear hd14 ho14 hx14 hz14 c6
        have hsl : Sl (W15.alloc (.cells #[.int .u8 45] 5)) .u8 (some ⟨W15.heap.size, 0, none⟩) 1 1 [45] := Sl.one W15 .u8 5 45 (by decide)
        have hoa := ho15.alloc (.cells #[.int .u8 45] 5)
        have hxa := hx15.alloc hz15 (.cells #[.int .u8 45] 5)
        have hza := hxa.size
        clear ho15 hx15 hz15
        go_wp2_with (at_builtin; refine wpList_appA rfl rfl eltB (by decide) rfl rfl hoa hsl (by omega) hza (by simp [List.length_append, hl1, hl2, HDL.out, HDY.out, HDh.out, HDm.out, HDs.out]) ?_; intro v16 w16 ho16 hb16; have hx16 := hxa.trans hb16; have hz16 := hx16.size)
        clear hsl hoa hxa hza hb16
        refine (p47_digits4 (by omega) (by omega) ho16 hz16 (by simp [List.length_append, hl1, hl2, HDL.out, HDY.out, HDh.out, HDm.out, HDs.out])).mono ?_
        rintro e w17 ⟨v17, rfl, ho17, hb17⟩
        have hx17 := hx16.trans hb17
        go_wp2
        go_ret2
        obtain ⟨A17, c17, rfl, hs17⟩ := ho17.sl
        exact ⟨A17, _, c17, rfl, by rw [← HRR.out]; exact hs17, below_then hBw hx17⟩
      · have e1 : absL z = z := if_neg hzn
        obtain ⟨A, hA⟩ : ∃ A, absL z / 60 = A := ⟨_, rfl⟩
        obtain ⟨G, hG⟩ : ∃ G, absL z % 60 = G := ⟨_, rfl⟩
        have HRR := HRR.out
        rw [hA, hG, if_neg hzn] at HRR
        have HRR := Lib.hid HRR
        rw [e1] at hA hG
        have qd := tdiv_pos (y := z) (by omega) 60
        have qm := tmod_pos (y := z) (by omega) 60
        rw [hA] at qd
        rw [hG] at qm
        have rA : 0 ≤ A ∧ A ≤ 99 := by omega
        have rG : 0 ≤ G ∧ G ≤ 59 := by omega
        obtain ⟨rA1, rA2⟩ := rA
        obtain ⟨rG1, rG2⟩ := rG
        clear hA hG e1
        go_quiet (fail)
        rename_i nq
        have hd14 : ∀ B, Below B w14 (w14.drewN nq) := fun B => below_drewN (Below.refl _ _) _
        obtain ⟨W15, hW15⟩ : ∃ W, w14.drewN nq = W := ⟨_, rfl⟩
        rw [hW15] at hd14 ⊢
        clear hW15
        have ho15 := ho14.bel (hd14 _)
        have hx15 := hx14.trans (hd14 _)
        have hz15 := hx15.size
        clear hd14 ho14 hx14 hz14 c6
        have hsl : Sl (W15.alloc (.cells #[.int .u8 43] 5)) .u8 (some ⟨W15.heap.size, 0, none⟩) 1 1 [43] := Sl.one W15 .u8 5 43 (by decide)
        have hoa := ho15.alloc (.cells #[.int .u8 43] 5)
        have hxa := hx15.alloc hz15 (.cells #[.int .u8 43] 5)
        have hza := hxa.size
        clear ho15 hx15 hz15
        go_wp2_with (at_builtin; refine wpList_appA rfl rfl eltB (by decide) rfl rfl hoa hsl (by omega) hza (by simp [List.length_append, hl1, hl2, HDL.out, HDY.out, HDh.out, HDm.out, HDs.out]) ?_; intro v16 w16 ho16 hb16; have hx16 := hxa.trans hb16; have hz16 := hx16.size)
        clear hsl hoa hxa hza hb16
        refine (p47_digits4 (by omega) (by omega) ho16 hz16 (by simp [List.length_append, hl1, hl2, HDL.out, HDY.out, HDh.out, HDm.out, HDs.out])).mono ?_
        rintro e w17 ⟨v17, rfl, ho17, hb17⟩
        have hx17 := hx16.trans hb17
        go_wp2
        go_ret2
        obtain ⟨A17, c17, rfl, hs17⟩ := ho17.sl
        exact ⟨A17, _, c17, rfl, by rw [← HRR.out]; exact hs17, below_then hBw hx17⟩
end Go.Proofs.Ytjiofcnlibkhkaa
