/- Layer 47 (date): a date's text: what the reference's function returns. No condition. -/
import Derived.Test.Ytjiofcnlibkhkaa47P
import Derived.Test.Ytjiofcnlibkhkaa47J
import Derived.Test.YtjiofcnlibkhkaaExtW
namespace Go.Proofs.Ytjiofcnlibkhkaa
open Go.RowKit

theorem st47c : strOfNums [58] = { data := #[58] } := by decide
theorem st47d : strOfNums [43] = { data := #[43] } := by decide
theorem st47e : strOfNums [45] = { data := #[45] } := by decide
set_option maxRecDepth 100000 in
set_option maxHeartbeats 20000000 in
theorem r47_Lay {Y M D h mi s z : Int} {w : World} : Calls Try.prog 15 #[.agg #[.int .i64 Y, .int .i64 M, .int .i64 D, .int .i64 h, .int .i64 mi, .int .i64 s, .int .i64 z]] w (RetLay (layV Y M D h mi s z) (errV Y M D h mi s z) w) := by
  have hmy := fun w => r47_May (Y := Y) (M := M) (D := D) (h := h) (mi := mi) (s := s) (z := z) (w := w)
  cases hR : mayL Y M D h mi s z with
  | false =>
    rw [hR] at hmy
    have e1 : layV Y M D h mi s z = [] := by unfold layV; rw [hR]; rfl
    have e2 : errV Y M D h mi s z = 1 := by unfold errV; rw [hR]; rfl
    rw [e1, e2]
    clear e1 e2 hR
    go_enter Try.func15, Try.ntmps15
    go_wp2_with fail
    refine (hmy _).mono ?_
    rintro e w1 ⟨rfl, hb1⟩
    go_wp2
    go_ret2
    exact ⟨none, 0, 0, rfl, Sl.nil _ _, below_then ((Below.refl _ _).alloc (Nat.le_refl _) _) hb1⟩
  | true =>
    rw [hR] at hmy
    have e1 : layV Y M D h mi s z = layL Y M D h mi s z := by unfold layV; rw [hR]; rfl
    have e2 : errV Y M D h mi s z = 0 := by unfold errV; rw [hR]; rfl
    rw [e1, e2]
    obtain ⟨⟨f1, f2, f3, f4, f5, f6, f7⟩, g1, g2, g3, g4, g5, g6, g7, g8⟩ := may_facts hR
    obtain ⟨nd, hnd, hwd⟩ := wday_rng f5 f7
    obtain ⟨nm, hnm⟩ : ∃ nm : Nat, M = (nm : Int) + 1 := ⟨(M - 1).toNat, by omega⟩
    subst hnm
    have hnm12 : nm < 12 := by omega
    rw [layL_is hwd]
    have hwk := fun w => r47_Weekday (y := Y) (m := (nm : Int) + 1) (d := D) (w := w)
    rw [hwd] at hwk
    have hcD := fun w => r47_day (n := nd) (w := w) hnd
    have hcM := fun w => r47_month (n := nm) (w := w) hnm12
    obtain ⟨hd3, hdw⟩ := dayN_len nd hnd
    obtain ⟨hm3, hmw⟩ := monN_len nm hnm12
    obtain ⟨xd, hxd⟩ : ∃ x, dayL.getD nd [] = x := ⟨_, rfl⟩
    obtain ⟨xm, hxm⟩ : ∃ x, monL.getD nm [] = x := ⟨_, rfl⟩
    rw [hxd] at hcD hd3 hdw ⊢
    rw [hxm] at hcM hm3 hmw ⊢
    have rz : 0 ≤ absL z ∧ absL z ≤ 5999 := by unfold absL; split <;> omega
    have rA : 0 ≤ absL z / 60 ∧ absL z / 60 ≤ 99 := by omega
    have rG : 0 ≤ absL z % 60 ∧ absL z % 60 ≤ 59 := by omega
    rw [dig_two rA.1 ⟨rG.1, by omega⟩]
    have dD := fun w => r47_digits (longL D) (n := D) (w := w) (by unfold longL; split <;> omega) (by omega) (by omega)
    have dY := fun w => r47_digits 4 (n := Y) (w := w) (by omega) (by omega) (by omega)
    have dh := fun w => r47_digits 2 (n := h) (w := w) (by omega) (by omega) (by omega)
    have dm := fun w => r47_digits 2 (n := mi) (w := w) (by omega) (by omega) (by omega)
    have ds := fun w => r47_digits 2 (n := s) (w := w) (by omega) (by omega) (by omega)
    have dA := fun w => r47_digits 2 (n := absL z / 60) (w := w) (by omega) (by omega) (by omega)
    have dG := fun w => r47_digits 2 (n := absL z % 60) (w := w) (by omega) (by omega) (by omega)
    have wD := digL_wf (n := D) (by omega) (longL D)
    have wY := digL_wf (n := Y) (by omega) 4
    have wh := digL_wf (n := h) (by omega) 2
    have wm := digL_wf (n := mi) (by omega) 2
    have ws := digL_wf (n := s) (by omega) 2
    have wA := digL_wf (n := absL z / 60) (by omega) 2
    have wG := digL_wf (n := absL z % 60) (by omega) 2
    have lD := digL_len D (longL D)
    have lY := digL_len Y 4
    have lh := digL_len h 2
    have lm := digL_len mi 2
    have ls := digL_len s 2
    have lA := digL_len (absL z / 60) 2
    have lG := digL_len (absL z % 60) 2
    generalize digL D (longL D) = yD at dD wD lD ⊢
    generalize digL Y 4 = yY at dY wY lY ⊢
    generalize digL h 2 = yh at dh wh lh ⊢
    generalize digL mi 2 = ym at dm wm lm ⊢
    generalize digL s 2 = ys at ds ws ls ⊢
    generalize digL (absL z / 60) 2 = yA at dA wA lA ⊢
    generalize digL (absL z % 60) 2 = yG at dG wG lG ⊢
    have hls : longL D ≤ 2 := by unfold longL; split <;> omega
    obtain ⟨sg, hsg⟩ : ∃ sg : Int, (if z < 0 then (45 : Int) else 43) = sg := ⟨_, rfl⟩
    rw [hsg]
    have hsgw : (Lit.int .u8 sg).wf = true := by rw [← hsg]; split <;> decide
    generalize hRR : xd ++ [44, 32] ++ yD ++ ([32] ++ xm ++ [32]) ++ yY ++ [32] ++ yh ++ [58] ++ ym ++ [58] ++ ys ++ [32] ++ [sg] ++ (yA ++ yG) = R
    have hRw : ∀ a ∈ R, (Lit.int .u8 a).wf = true := by
      have h1 : ∀ a ∈ ([44, 32] : List Int), (Lit.int .u8 a).wf = true := by decide
      have h2 : ∀ a ∈ ([32] : List Int), (Lit.int .u8 a).wf = true := by decide
      have h3 : ∀ a ∈ ([58] : List Int), (Lit.int .u8 a).wf = true := by decide
      have h4 : ∀ a ∈ ([sg] : List Int), (Lit.int .u8 a).wf = true := by intro a ha; obtain rfl := List.mem_singleton.1 ha; exact hsgw
      intro a ha
      rw [← hRR] at ha
      simp only [List.mem_append] at ha
      rcases ha with ((((((((((((ha | ha) | ha) | (ha | ha) | ha) | ha) | ha) | ha) | ha) | ha) | ha) | ha) | ha) | ha) | ha | ha
      · exact hdw a ha
      · exact h1 a ha
      · exact wD a ha
      · exact h2 a ha
      · exact hmw a ha
      · exact h2 a ha
      · exact wY a ha
      · exact h2 a ha
      · exact wh a ha
      · exact h3 a ha
      · exact wm a ha
      · exact h3 a ha
      · exact ws a ha
      · exact h2 a ha
      · exact h4 a ha
      · exact wA a ha
      · exact wG a ha
    have hRl : R.length ≤ 1000 := by
      rw [← hRR]
      simp only [List.length_append, hd3, hm3, lD, lY, lh, lm, ls, lA, lG, List.length_cons, List.length_nil]
      omega
    have hzd : (strOfNums xd).size = 3 := by rw [str_size]; exact hd3
    have hzm : (strOfNums xm).size = 3 := by rw [str_size]; exact hm3
    have hRs : strOfNums R = strOfNums xd ++ strOfNums [44, 32] ++ strOfNums yD ++ (strOfNums [32] ++ strOfNums xm ++ strOfNums [32]) ++ strOfNums yY ++ strOfNums [32] ++ strOfNums yh ++ strOfNums [58] ++ strOfNums ym ++ strOfNums [58] ++ strOfNums ys ++ strOfNums [32] ++ strOfNums [sg] ++ (strOfNums yA ++ strOfNums yG) := by
      rw [← hRR]; simp only [str_app]
    rw [st47a, st47b, st47c] at hRs
    have zD : (strOfNums yD).size = longL D := by rw [str_size]; exact lD
    generalize strOfNums yD = sD at dD zD hRs
    have zY : (strOfNums yY).size = 4 := by rw [str_size]; exact lY
    generalize strOfNums yY = sY at dY zY hRs
    have zh : (strOfNums yh).size = 2 := by rw [str_size]; exact lh
    generalize strOfNums yh = sh at dh zh hRs
    have zm : (strOfNums ym).size = 2 := by rw [str_size]; exact lm
    generalize strOfNums ym = sm at dm zm hRs
    have zs : (strOfNums ys).size = 2 := by rw [str_size]; exact ls
    generalize strOfNums ys = ss at ds zs hRs
    have zA : (strOfNums yA).size = 2 := by rw [str_size]; exact lA
    generalize strOfNums yA = sA at dA zA hRs
    have zG : (strOfNums yG).size = 2 := by rw [str_size]; exact lG
    generalize strOfNums yG = sG at dG zG hRs
    generalize strOfNums xd = sd at hcD hzd hRs
    generalize strOfNums xm = smo at hcM hzm hRs
    have HRs := Lib.hid hRs
    have ks := fun (w : World) (s : ByteArray) => Lib.run_convert_string_bytes (P := Try.prog) w 9 30 5 s Try.underlying9 Try.underlying30 Try.underlying5
    clear e1 e2 hR hwd hxd hxm hdw hmw f7 hRR wD wY wh wm ws wA wG lD lY lh lm ls lA lG hRs hsgw hd3 hm3
    have hBw := (Below.refl w.heap.size w).alloc (Nat.le_refl _) (.cells #[.int .i64 Y, .int .i64 ((nm : Int) + 1), .int .i64 D, .int .i64 h, .int .i64 mi, .int .i64 s, .int .i64 z] 28)
    go_enter Try.func15, Try.ntmps15
    go_wp2_with fail
    refine (hmy _).mono ?_
    rintro e w1 ⟨rfl, hx1⟩
    have c2 := boxc hx1 2 _ rfl
    have c6 := boxc hx1 6 _ rfl
    clear hmy
    by_cases hD : 9 < D
    · have hlg : longL D = 2 := if_pos (by omega)
      rw [hlg] at dD zD
      go_wp2_with fail
      go_quiet (fail)
      rename_i nq
      have hx2 := hx1.trans (below_drewN (Below.refl _ w1) nq)
      obtain ⟨W2, hW2⟩ : ∃ W, w1.drewN nq = W := ⟨_, rfl⟩
      rw [hW2] at hx2 ⊢
      clear hW2 hx1 c2 c6
      by_cases hzn : z < 0
      · skip
        have e1 : absL z = -z := if_pos hzn
        have hsg2 : sg = 45 := by rw [← hsg]; exact if_pos hzn
        subst hsg2
        obtain ⟨A, hA⟩ : ∃ A, absL z / 60 = A := ⟨_, rfl⟩
        obtain ⟨G, hG⟩ : ∃ G, absL z % 60 = G := ⟨_, rfl⟩
        rw [hA] at dA rA
        rw [hG] at dG rG
        rw [e1] at hA hG
        have qd := tdiv_pos (y := -z) (by omega) 60
        have qm := tmod_pos (y := -z) (by omega) 60
        rw [hA] at qd
        rw [hG] at qm
        obtain ⟨rA1, rA2⟩ := rA
        obtain ⟨rG1, rG2⟩ := rG
        have hRs := HRs.out
        rw [st47e] at hRs
        have HRs := Lib.hid hRs
        clear hA hG e1 hRs hsg rz
        go_wp2_with fail
        refine wp_region_any (by kernel_rfl) ?_
        (try (change wpAny _ _ _ _ _ _ _ (World.drew _)))
        have hlt : w.heap.size < W2.heap.size := by have := hx2.size; rw [World.size_alloc] at this; omega
        have q0 := fun X : ExtW W2.drew => (X.h.cell (p := ⟨w.heap.size, 0, none⟩) hlt).trans (boxc hx2 0 (.int .i64 Y) rfl)
        have q1 := fun X : ExtW W2.drew => (X.h.cell (p := ⟨w.heap.size, 1, none⟩) hlt).trans (boxc hx2 1 (.int .i64 ((nm : Int) + 1)) rfl)
        have q2 := fun X : ExtW W2.drew => (X.h.cell (p := ⟨w.heap.size, 2, none⟩) hlt).trans (boxc hx2 2 (.int .i64 D) rfl)
        refine wpAny_lex 0 _ rfl (by kernel_rfl) (by kernel_rfl) ?_
        simp only []
        quiet_step (fail)
        quiet_step (fail)
        quiet_step (fail)
        quiet_step (fail)
        quiet_step (fail)
        quiet_step (fail)
        quiet_step ((rename_i X; go_at_call 12; exact Calls.ext X (hwk X.W)))
        quiet_step ((rename_i X; go_at_call 27; exact Calls.ext_same X (hcD X.W)))
        quiet_step (fail)
        quiet_step (fail)
        quiet_step (fail)
        quiet_step (fail)
        quiet_step ((rename_i X; go_at_call 28; exact Calls.ext X (dD X.W)))
        quiet_step (fail)
        quiet_step (fail)
        quiet_step (fail)
        quiet_step (fail)
        quiet_step ((rename_i X; go_at_call 29; exact Calls.ext_same X (hcM X.W)))
        quiet_step (fail)
        quiet_step (fail)
        quiet_step (fail)
        quiet_step (fail)
        quiet_step ((rename_i X; go_at_call 28; exact Calls.ext X (dY X.W)))
        quiet_step (fail)
        quiet_step (fail)
        refine wpQuiet_nil ?_
        rintro _ ⟨X, rfl⟩
        have hx3 := hx2.drew.trans (X.h.mono hx2.size)
        obtain ⟨W3, hW3⟩ : ∃ W, X.W = W := ⟨_, rfl⟩
        rw [hW3] at hx3 ⊢
        clear hW3 hlt q0 q1 q2
        generalize ht1 : sd ++ { data := #[44, 32] } ++ sD ++ { data := #[32] } ++ smo ++ { data := #[32] } ++ sY = t1
        have zt1 : t1.size = 16 := by rw [← ht1]; simp [ByteArray.size_append, hzd, zD, hzm, zY]; try rfl
        clear hwk hcD dD hcM dY hx2
        have HT1 := Lib.hid ht1
        clear ht1
        go_wp2_with fail
        refine wp_region_any (by kernel_rfl) ?_
        (try (change wpAny _ _ _ _ _ _ _ (World.drew _)))
        have hlt : w.heap.size < W3.heap.size := by have := hx3.size; rw [World.size_alloc] at this; omega
        have q3 := fun X : ExtW W3.drew => (X.h.cell (p := ⟨w.heap.size, 3, none⟩) hlt).trans (boxc hx3 3 (.int .i64 h) rfl)
        have q4 := fun X : ExtW W3.drew => (X.h.cell (p := ⟨w.heap.size, 4, none⟩) hlt).trans (boxc hx3 4 (.int .i64 mi) rfl)
        have q5 := fun X : ExtW W3.drew => (X.h.cell (p := ⟨w.heap.size, 5, none⟩) hlt).trans (boxc hx3 5 (.int .i64 s) rfl)
        refine wpAny_lex 0 _ rfl (by kernel_rfl) (by kernel_rfl) ?_
        simp only []
        quiet_step (fail)
        quiet_step (fail)
        quiet_step (fail)
        quiet_step ((rename_i X; go_at_call 28; exact Calls.ext X (dh X.W)))
        quiet_step (fail)
        quiet_step (fail)
        quiet_step (fail)
        quiet_step (fail)
        quiet_step ((rename_i X; go_at_call 28; exact Calls.ext X (dm X.W)))
        quiet_step (fail)
        quiet_step (fail)
        quiet_step (fail)
        quiet_step (fail)
        quiet_step ((rename_i X; go_at_call 28; exact Calls.ext X (ds X.W)))
        quiet_step (fail)
        quiet_step (fail)
        quiet_step (fail)
        refine wpQuiet_nil ?_
        rintro _ ⟨X, rfl⟩
        have hx4 := hx3.drew.trans (X.h.mono hx3.size)
        obtain ⟨W4, hW4⟩ : ∃ W, X.W = W := ⟨_, rfl⟩
        rw [hW4] at hx4 ⊢
        clear hW4 hlt q3 q4 q5
        generalize ht2 : t1 ++ ({ data := #[32] } ++ sh ++ { data := #[58] } ++ sm ++ { data := #[58] } ++ ss) = t2
        have zt2 : t2.size = 25 := by rw [← ht2]; simp [ByteArray.size_append, zt1, zh, zm, zs]; try rfl
        have HT2 := Lib.hid ht2
        clear ht2 dh dm ds hx3 zt1
        go_wp2_with fail
        refine (dA _).mono ?_
        rintro e w5 ⟨rfl, hb5⟩
        have hx5 := below_then hx4 hb5
        go_wp2_with fail
        refine (dG _).mono ?_
        rintro e w6 ⟨rfl, hb6⟩
        have hx6 := below_then hx5 hb6
        have hst : strOfNums R = t2 ++ { data := #[32] } ++ { data := #[45] } ++ sA ++ sG := by
          rw [HRs.out, ← HT2.out, ← HT1.out]
          simp only [ByteArray.append_assoc]
        obtain ⟨ho7, hb7⟩ := App.ofStr w6 5 hst hRw hRl
        have ks1 := ks w6 (t2 ++ { data := #[32] } ++ { data := #[45] } ++ sA ++ sG)
        have hx7 := below_then hx6 hb7
        obtain ⟨A7, c7, hv7, hs7⟩ := ho7.sl
        rw [hv7] at ks1
        obtain ⟨W7, hW7⟩ : ∃ W, Lib.bytesWorld w6 5 (t2 ++ { data := #[32] } ++ { data := #[45] } ++ sA ++ sG) = W := ⟨_, rfl⟩
        rw [hW7] at ks1 hs7 hx7
        clear ks hW7 ho7 hb7 hb5 hb6 hx4 hx5 hx6 hv7 hst HRs HT1 HT2 dA dG
        go_wp2
        go_ret2
        exact ⟨A7, _, c7, rfl, hs7, below_then hBw hx7⟩
      · skip
        have e1 : absL z = z := if_neg hzn
        have hsg2 : sg = 43 := by rw [← hsg]; exact if_neg hzn
        subst hsg2
        obtain ⟨A, hA⟩ : ∃ A, absL z / 60 = A := ⟨_, rfl⟩
        obtain ⟨G, hG⟩ : ∃ G, absL z % 60 = G := ⟨_, rfl⟩
        rw [hA] at dA rA
        rw [hG] at dG rG
        rw [e1] at hA hG
        have qd := tdiv_pos (y := z) (by omega) 60
        have qm := tmod_pos (y := z) (by omega) 60
        rw [hA] at qd
        rw [hG] at qm
        obtain ⟨rA1, rA2⟩ := rA
        obtain ⟨rG1, rG2⟩ := rG
        have hRs := HRs.out
        rw [st47d] at hRs
        have HRs := Lib.hid hRs
        clear hA hG e1 hRs hsg rz
        go_wp2_with fail
        refine wp_region_any (by kernel_rfl) ?_
        (try (change wpAny _ _ _ _ _ _ _ (World.drew _)))
        have hlt : w.heap.size < W2.heap.size := by have := hx2.size; rw [World.size_alloc] at this; omega
        have q0 := fun X : ExtW W2.drew => (X.h.cell (p := ⟨w.heap.size, 0, none⟩) hlt).trans (boxc hx2 0 (.int .i64 Y) rfl)
        have q1 := fun X : ExtW W2.drew => (X.h.cell (p := ⟨w.heap.size, 1, none⟩) hlt).trans (boxc hx2 1 (.int .i64 ((nm : Int) + 1)) rfl)
        have q2 := fun X : ExtW W2.drew => (X.h.cell (p := ⟨w.heap.size, 2, none⟩) hlt).trans (boxc hx2 2 (.int .i64 D) rfl)
        refine wpAny_lex 0 _ rfl (by kernel_rfl) (by kernel_rfl) ?_
        simp only []
        quiet_step (fail)
        quiet_step (fail)
        quiet_step (fail)
        quiet_step (fail)
        quiet_step (fail)
        quiet_step (fail)
        quiet_step ((rename_i X; go_at_call 12; exact Calls.ext X (hwk X.W)))
        quiet_step ((rename_i X; go_at_call 27; exact Calls.ext_same X (hcD X.W)))
        quiet_step (fail)
        quiet_step (fail)
        quiet_step (fail)
        quiet_step (fail)
        quiet_step ((rename_i X; go_at_call 28; exact Calls.ext X (dD X.W)))
        quiet_step (fail)
        quiet_step (fail)
        quiet_step (fail)
        quiet_step (fail)
        quiet_step ((rename_i X; go_at_call 29; exact Calls.ext_same X (hcM X.W)))
        quiet_step (fail)
        quiet_step (fail)
        quiet_step (fail)
        quiet_step (fail)
        quiet_step ((rename_i X; go_at_call 28; exact Calls.ext X (dY X.W)))
        quiet_step (fail)
        quiet_step (fail)
        refine wpQuiet_nil ?_
        rintro _ ⟨X, rfl⟩
        have hx3 := hx2.drew.trans (X.h.mono hx2.size)
        obtain ⟨W3, hW3⟩ : ∃ W, X.W = W := ⟨_, rfl⟩
        rw [hW3] at hx3 ⊢
        clear hW3 hlt q0 q1 q2
        generalize ht1 : sd ++ { data := #[44, 32] } ++ sD ++ { data := #[32] } ++ smo ++ { data := #[32] } ++ sY = t1
        have zt1 : t1.size = 16 := by rw [← ht1]; simp [ByteArray.size_append, hzd, zD, hzm, zY]; try rfl
        clear hwk hcD dD hcM dY hx2
        have HT1 := Lib.hid ht1
        clear ht1
        go_wp2_with fail
        refine wp_region_any (by kernel_rfl) ?_
        (try (change wpAny _ _ _ _ _ _ _ (World.drew _)))
        have hlt : w.heap.size < W3.heap.size := by have := hx3.size; rw [World.size_alloc] at this; omega
        have q3 := fun X : ExtW W3.drew => (X.h.cell (p := ⟨w.heap.size, 3, none⟩) hlt).trans (boxc hx3 3 (.int .i64 h) rfl)
        have q4 := fun X : ExtW W3.drew => (X.h.cell (p := ⟨w.heap.size, 4, none⟩) hlt).trans (boxc hx3 4 (.int .i64 mi) rfl)
        have q5 := fun X : ExtW W3.drew => (X.h.cell (p := ⟨w.heap.size, 5, none⟩) hlt).trans (boxc hx3 5 (.int .i64 s) rfl)
        refine wpAny_lex 0 _ rfl (by kernel_rfl) (by kernel_rfl) ?_
        simp only []
        quiet_step (fail)
        quiet_step (fail)
        quiet_step (fail)
        quiet_step ((rename_i X; go_at_call 28; exact Calls.ext X (dh X.W)))
        quiet_step (fail)
        quiet_step (fail)
        quiet_step (fail)
        quiet_step (fail)
        quiet_step ((rename_i X; go_at_call 28; exact Calls.ext X (dm X.W)))
        quiet_step (fail)
        quiet_step (fail)
        quiet_step (fail)
        quiet_step (fail)
        quiet_step ((rename_i X; go_at_call 28; exact Calls.ext X (ds X.W)))
        quiet_step (fail)
        quiet_step (fail)
        quiet_step (fail)
        refine wpQuiet_nil ?_
        rintro _ ⟨X, rfl⟩
        have hx4 := hx3.drew.trans (X.h.mono hx3.size)
        obtain ⟨W4, hW4⟩ : ∃ W, X.W = W := ⟨_, rfl⟩
        rw [hW4] at hx4 ⊢
        clear hW4 hlt q3 q4 q5
        generalize ht2 : t1 ++ ({ data := #[32] } ++ sh ++ { data := #[58] } ++ sm ++ { data := #[58] } ++ ss) = t2
        have zt2 : t2.size = 25 := by rw [← ht2]; simp [ByteArray.size_append, zt1, zh, zm, zs]; try rfl
        have HT2 := Lib.hid ht2
        clear ht2 dh dm ds hx3 zt1
        go_wp2_with fail
        refine (dA _).mono ?_
        rintro e w5 ⟨rfl, hb5⟩
        have hx5 := below_then hx4 hb5
        go_wp2_with fail
        refine (dG _).mono ?_
        rintro e w6 ⟨rfl, hb6⟩
        have hx6 := below_then hx5 hb6
        have hst : strOfNums R = t2 ++ { data := #[32] } ++ { data := #[43] } ++ sA ++ sG := by
          rw [HRs.out, ← HT2.out, ← HT1.out]
          simp only [ByteArray.append_assoc]
        obtain ⟨ho7, hb7⟩ := App.ofStr w6 5 hst hRw hRl
        have ks1 := ks w6 (t2 ++ { data := #[32] } ++ { data := #[43] } ++ sA ++ sG)
        have hx7 := below_then hx6 hb7
        obtain ⟨A7, c7, hv7, hs7⟩ := ho7.sl
        rw [hv7] at ks1
        obtain ⟨W7, hW7⟩ : ∃ W, Lib.bytesWorld w6 5 (t2 ++ { data := #[32] } ++ { data := #[43] } ++ sA ++ sG) = W := ⟨_, rfl⟩
        rw [hW7] at ks1 hs7 hx7
        clear ks hW7 ho7 hb7 hb5 hb6 hx4 hx5 hx6 hv7 hst HRs HT1 HT2 dA dG
        go_wp2
        go_ret2
        exact ⟨A7, _, c7, rfl, hs7, below_then hBw hx7⟩
    · have hlg : longL D = 1 := if_neg (by omega)
      rw [hlg] at dD zD
      go_wp2_with fail
      go_quiet (fail)
      rename_i nq
      have hx2 := hx1.trans (below_drewN (Below.refl _ w1) nq)
      obtain ⟨W2, hW2⟩ : ∃ W, w1.drewN nq = W := ⟨_, rfl⟩
      rw [hW2] at hx2 ⊢
      clear hW2 hx1 c2 c6
      by_cases hzn : z < 0
      · skip
        have e1 : absL z = -z := if_pos hzn
        have hsg2 : sg = 45 := by rw [← hsg]; exact if_pos hzn
        subst hsg2
        obtain ⟨A, hA⟩ : ∃ A, absL z / 60 = A := ⟨_, rfl⟩
        obtain ⟨G, hG⟩ : ∃ G, absL z % 60 = G := ⟨_, rfl⟩
        rw [hA] at dA rA
        rw [hG] at dG rG
        rw [e1] at hA hG
        have qd := tdiv_pos (y := -z) (by omega) 60
        have qm := tmod_pos (y := -z) (by omega) 60
        rw [hA] at qd
        rw [hG] at qm
        obtain ⟨rA1, rA2⟩ := rA
        obtain ⟨rG1, rG2⟩ := rG
        have hRs := HRs.out
        rw [st47e] at hRs
        have HRs := Lib.hid hRs
        clear hA hG e1 hRs hsg rz
        go_wp2_with fail
        refine wp_region_any (by kernel_rfl) ?_
        (try (change wpAny _ _ _ _ _ _ _ (World.drew _)))
        have hlt : w.heap.size < W2.heap.size := by have := hx2.size; rw [World.size_alloc] at this; omega
        have q0 := fun X : ExtW W2.drew => (X.h.cell (p := ⟨w.heap.size, 0, none⟩) hlt).trans (boxc hx2 0 (.int .i64 Y) rfl)
        have q1 := fun X : ExtW W2.drew => (X.h.cell (p := ⟨w.heap.size, 1, none⟩) hlt).trans (boxc hx2 1 (.int .i64 ((nm : Int) + 1)) rfl)
        have q2 := fun X : ExtW W2.drew => (X.h.cell (p := ⟨w.heap.size, 2, none⟩) hlt).trans (boxc hx2 2 (.int .i64 D) rfl)
        refine wpAny_lex 0 _ rfl (by kernel_rfl) (by kernel_rfl) ?_
        simp only []
        quiet_step (fail)
        quiet_step (fail)
        quiet_step (fail)
        quiet_step (fail)
        quiet_step (fail)
        quiet_step (fail)
        quiet_step ((rename_i X; go_at_call 12; exact Calls.ext X (hwk X.W)))
        quiet_step ((rename_i X; go_at_call 27; exact Calls.ext_same X (hcD X.W)))
        quiet_step (fail)
        quiet_step (fail)
        quiet_step (fail)
        quiet_step (fail)
        quiet_step ((rename_i X; go_at_call 28; exact Calls.ext X (dD X.W)))
        quiet_step (fail)
        quiet_step (fail)
        quiet_step (fail)
        quiet_step (fail)
        quiet_step ((rename_i X; go_at_call 29; exact Calls.ext_same X (hcM X.W)))
        quiet_step (fail)
        quiet_step (fail)
        quiet_step (fail)
        quiet_step (fail)
        quiet_step ((rename_i X; go_at_call 28; exact Calls.ext X (dY X.W)))
        quiet_step (fail)
        quiet_step (fail)
        refine wpQuiet_nil ?_
        rintro _ ⟨X, rfl⟩
        have hx3 := hx2.drew.trans (X.h.mono hx2.size)
        obtain ⟨W3, hW3⟩ : ∃ W, X.W = W := ⟨_, rfl⟩
        rw [hW3] at hx3 ⊢
        clear hW3 hlt q0 q1 q2
        generalize ht1 : sd ++ { data := #[44, 32] } ++ sD ++ { data := #[32] } ++ smo ++ { data := #[32] } ++ sY = t1
        have zt1 : t1.size = 15 := by rw [← ht1]; simp [ByteArray.size_append, hzd, zD, hzm, zY]; try rfl
        clear hwk hcD dD hcM dY hx2
        have HT1 := Lib.hid ht1
        clear ht1
        go_wp2_with fail
        refine wp_region_any (by kernel_rfl) ?_
        (try (change wpAny _ _ _ _ _ _ _ (World.drew _)))
        have hlt : w.heap.size < W3.heap.size := by have := hx3.size; rw [World.size_alloc] at this; omega
        have q3 := fun X : ExtW W3.drew => (X.h.cell (p := ⟨w.heap.size, 3, none⟩) hlt).trans (boxc hx3 3 (.int .i64 h) rfl)
        have q4 := fun X : ExtW W3.drew => (X.h.cell (p := ⟨w.heap.size, 4, none⟩) hlt).trans (boxc hx3 4 (.int .i64 mi) rfl)
        have q5 := fun X : ExtW W3.drew => (X.h.cell (p := ⟨w.heap.size, 5, none⟩) hlt).trans (boxc hx3 5 (.int .i64 s) rfl)
        refine wpAny_lex 0 _ rfl (by kernel_rfl) (by kernel_rfl) ?_
        simp only []
        quiet_step (fail)
        quiet_step (fail)
        quiet_step (fail)
        quiet_step ((rename_i X; go_at_call 28; exact Calls.ext X (dh X.W)))
        quiet_step (fail)
        quiet_step (fail)
        quiet_step (fail)
        quiet_step (fail)
        quiet_step ((rename_i X; go_at_call 28; exact Calls.ext X (dm X.W)))
        quiet_step (fail)
        quiet_step (fail)
        quiet_step (fail)
        quiet_step (fail)
        quiet_step ((rename_i X; go_at_call 28; exact Calls.ext X (ds X.W)))
        quiet_step (fail)
        quiet_step (fail)
        quiet_step (fail)
        refine wpQuiet_nil ?_
        rintro _ ⟨X, rfl⟩
        have hx4 := hx3.drew.trans (X.h.mono hx3.size)
        obtain ⟨W4, hW4⟩ : ∃ W, X.W = W := ⟨_, rfl⟩
        rw [hW4] at hx4 ⊢
        clear hW4 hlt q3 q4 q5
        generalize ht2 : t1 ++ ({ data := #[32] } ++ sh ++ { data := #[58] } ++ sm ++ { data := #[58] } ++ ss) = t2
        have zt2 : t2.size = 24 := by rw [← ht2]; simp [ByteArray.size_append, zt1, zh, zm, zs]; try rfl
        have HT2 := Lib.hid ht2
        clear ht2 dh dm ds hx3 zt1
        go_wp2_with fail
        refine (dA _).mono ?_
        rintro e w5 ⟨rfl, hb5⟩
        have hx5 := below_then hx4 hb5
        go_wp2_with fail
        refine (dG _).mono ?_
        rintro e w6 ⟨rfl, hb6⟩
        have hx6 := below_then hx5 hb6
        have hst : strOfNums R = t2 ++ { data := #[32] } ++ { data := #[45] } ++ sA ++ sG := by
          rw [HRs.out, ← HT2.out, ← HT1.out]
          simp only [ByteArray.append_assoc]
        obtain ⟨ho7, hb7⟩ := App.ofStr w6 5 hst hRw hRl
        have ks1 := ks w6 (t2 ++ { data := #[32] } ++ { data := #[45] } ++ sA ++ sG)
        have hx7 := below_then hx6 hb7
        obtain ⟨A7, c7, hv7, hs7⟩ := ho7.sl
        rw [hv7] at ks1
        obtain ⟨W7, hW7⟩ : ∃ W, Lib.bytesWorld w6 5 (t2 ++ { data := #[32] } ++ { data := #[45] } ++ sA ++ sG) = W := ⟨_, rfl⟩
        rw [hW7] at ks1 hs7 hx7
        clear ks hW7 ho7 hb7 hb5 hb6 hx4 hx5 hx6 hv7 hst HRs HT1 HT2 dA dG
        go_wp2
        go_ret2
        exact ⟨A7, _, c7, rfl, hs7, below_then hBw hx7⟩
      · skip
        have e1 : absL z = z := if_neg hzn
        have hsg2 : sg = 43 := by rw [← hsg]; exact if_neg hzn
        subst hsg2
        obtain ⟨A, hA⟩ : ∃ A, absL z / 60 = A := ⟨_, rfl⟩
        obtain ⟨G, hG⟩ : ∃ G, absL z % 60 = G := ⟨_, rfl⟩
        rw [hA] at dA rA
        rw [hG] at dG rG
        rw [e1] at hA hG
        have qd := tdiv_pos (y := z) (by omega) 60
        have qm := tmod_pos (y := z) (by omega) 60
        rw [hA] at qd
        rw [hG] at qm
        obtain ⟨rA1, rA2⟩ := rA
        obtain ⟨rG1, rG2⟩ := rG
        have hRs := HRs.out
        rw [st47d] at hRs
        have HRs := Lib.hid hRs
        clear hA hG e1 hRs hsg rz
        go_wp2_with fail
        refine wp_region_any (by kernel_rfl) ?_
        (try (change wpAny _ _ _ _ _ _ _ (World.drew _)))
        have hlt : w.heap.size < W2.heap.size := by have := hx2.size; rw [World.size_alloc] at this; omega
        have q0 := fun X : ExtW W2.drew => (X.h.cell (p := ⟨w.heap.size, 0, none⟩) hlt).trans (boxc hx2 0 (.int .i64 Y) rfl)
        have q1 := fun X : ExtW W2.drew => (X.h.cell (p := ⟨w.heap.size, 1, none⟩) hlt).trans (boxc hx2 1 (.int .i64 ((nm : Int) + 1)) rfl)
        have q2 := fun X : ExtW W2.drew => (X.h.cell (p := ⟨w.heap.size, 2, none⟩) hlt).trans (boxc hx2 2 (.int .i64 D) rfl)
        refine wpAny_lex 0 _ rfl (by kernel_rfl) (by kernel_rfl) ?_
        simp only []
        quiet_step (fail)
        quiet_step (fail)
        quiet_step (fail)
        quiet_step (fail)
        quiet_step (fail)
        quiet_step (fail)
        quiet_step ((rename_i X; go_at_call 12; exact Calls.ext X (hwk X.W)))
        quiet_step ((rename_i X; go_at_call 27; exact Calls.ext_same X (hcD X.W)))
        quiet_step (fail)
        quiet_step (fail)
        quiet_step (fail)
        quiet_step (fail)
        quiet_step ((rename_i X; go_at_call 28; exact Calls.ext X (dD X.W)))
        quiet_step (fail)
        quiet_step (fail)
        quiet_step (fail)
        quiet_step (fail)
        quiet_step ((rename_i X; go_at_call 29; exact Calls.ext_same X (hcM X.W)))
        quiet_step (fail)
        quiet_step (fail)
        quiet_step (fail)
        quiet_step (fail)
        quiet_step ((rename_i X; go_at_call 28; exact Calls.ext X (dY X.W)))
        quiet_step (fail)
        quiet_step (fail)
        refine wpQuiet_nil ?_
        rintro _ ⟨X, rfl⟩
        have hx3 := hx2.drew.trans (X.h.mono hx2.size)
        obtain ⟨W3, hW3⟩ : ∃ W, X.W = W := ⟨_, rfl⟩
        rw [hW3] at hx3 ⊢
        clear hW3 hlt q0 q1 q2
        generalize ht1 : sd ++ { data := #[44, 32] } ++ sD ++ { data := #[32] } ++ smo ++ { data := #[32] } ++ sY = t1
        have zt1 : t1.size = 15 := by rw [← ht1]; simp [ByteArray.size_append, hzd, zD, hzm, zY]; try rfl
        clear hwk hcD dD hcM dY hx2
        have HT1 := Lib.hid ht1
        clear ht1
        go_wp2_with fail
        refine wp_region_any (by kernel_rfl) ?_
        (try (change wpAny _ _ _ _ _ _ _ (World.drew _)))
        have hlt : w.heap.size < W3.heap.size := by have := hx3.size; rw [World.size_alloc] at this; omega
        have q3 := fun X : ExtW W3.drew => (X.h.cell (p := ⟨w.heap.size, 3, none⟩) hlt).trans (boxc hx3 3 (.int .i64 h) rfl)
        have q4 := fun X : ExtW W3.drew => (X.h.cell (p := ⟨w.heap.size, 4, none⟩) hlt).trans (boxc hx3 4 (.int .i64 mi) rfl)
        have q5 := fun X : ExtW W3.drew => (X.h.cell (p := ⟨w.heap.size, 5, none⟩) hlt).trans (boxc hx3 5 (.int .i64 s) rfl)
        refine wpAny_lex 0 _ rfl (by kernel_rfl) (by kernel_rfl) ?_
        simp only []
        quiet_step (fail)
        quiet_step (fail)
        quiet_step (fail)
        quiet_step ((rename_i X; go_at_call 28; exact Calls.ext X (dh X.W)))
        quiet_step (fail)
        quiet_step (fail)
        quiet_step (fail)
        quiet_step (fail)
        quiet_step ((rename_i X; go_at_call 28; exact Calls.ext X (dm X.W)))
        quiet_step (fail)
        quiet_step (fail)
        quiet_step (fail)
        quiet_step (fail)
        quiet_step ((rename_i X; go_at_call 28; exact Calls.ext X (ds X.W)))
        quiet_step (fail)
        quiet_step (fail)
        quiet_step (fail)
        refine wpQuiet_nil ?_
        rintro _ ⟨X, rfl⟩
        have hx4 := hx3.drew.trans (X.h.mono hx3.size)
        obtain ⟨W4, hW4⟩ : ∃ W, X.W = W := ⟨_, rfl⟩
        rw [hW4] at hx4 ⊢
        clear hW4 hlt q3 q4 q5
        generalize ht2 : t1 ++ ({ data := #[32] } ++ sh ++ { data := #[58] } ++ sm ++ { data := #[58] } ++ ss) = t2
        have zt2 : t2.size = 24 := by rw [← ht2]; simp [ByteArray.size_append, zt1, zh, zm, zs]; try rfl
        have HT2 := Lib.hid ht2
        clear ht2 dh dm ds hx3 zt1
        go_wp2_with fail
        refine (dA _).mono ?_
        rintro e w5 ⟨rfl, hb5⟩
        have hx5 := below_then hx4 hb5
        go_wp2_with fail
        refine (dG _).mono ?_
        rintro e w6 ⟨rfl, hb6⟩
        have hx6 := below_then hx5 hb6
        have hst : strOfNums R = t2 ++ { data := #[32] } ++ { data := #[43] } ++ sA ++ sG := by
          rw [HRs.out, ← HT2.out, ← HT1.out]
          simp only [ByteArray.append_assoc]
        obtain ⟨ho7, hb7⟩ := App.ofStr w6 5 hst hRw hRl
        have ks1 := ks w6 (t2 ++ { data := #[32] } ++ { data := #[43] } ++ sA ++ sG)
        have hx7 := below_then hx6 hb7
        obtain ⟨A7, c7, hv7, hs7⟩ := ho7.sl
        rw [hv7] at ks1
        obtain ⟨W7, hW7⟩ : ∃ W, Lib.bytesWorld w6 5 (t2 ++ { data := #[32] } ++ { data := #[43] } ++ sA ++ sG) = W := ⟨_, rfl⟩
        rw [hW7] at ks1 hs7 hx7
        clear ks hW7 ho7 hb7 hb5 hb6 hx4 hx5 hx6 hv7 hst HRs HT1 HT2 dA dG
        go_wp2
        go_ret2
        exact ⟨A7, _, c7, rfl, hs7, below_then hBw hx7⟩
end Go.Proofs.Ytjiofcnlibkhkaa
