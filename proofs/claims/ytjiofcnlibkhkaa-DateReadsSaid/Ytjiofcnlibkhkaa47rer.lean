/- Layer 47 (date): the reference's Read. Condition: the octets read as a list of at most 2^22. -/
import Derived.Test.Ytjiofcnlibkhkaa47rea
import Derived.Test.Ytjiofcnlibkhkaa47D
namespace Go.Proofs.Ytjiofcnlibkhkaa
open Go.RowKit

theorem tol_yes' {xs : List Int} {k : Nat} {ok : Bool} {t : Int} {k2 : Nat} (h : (runP xs 16 k).length > 0) (ht : nameV dayB (runP xs 16 k) = t) (h1 : 0 ≤ t) (hk : (skipV xs (runE xs 16 k) 44).1 = k2) (ho : (skipV xs (runE xs 16 k) 44).2 = ok) : NumI (tolS xs k) t k2 false (!ok) := by
  have := tol_yes (bad := false) h
  rw [ht, hk, ho, decide_eq_true h1] at this
  simpa using this
theorem readO_end {xs : List Int} {t D M Y h mi s z : Int} {k : Nat} {bad B : Bool} (hs : St (dateS xs 0) [t, D, M, Y, h, mi, s, z] k bad) (hB : B = (bad || !(decide (gapL xs k = xs.length)) || !(mayL Y M D h mi s z) || (decide (0 ≤ t) && !(decide (t = wdayL Y M D))))) :
    readO xs = if B then none else some (Y, M, D, h, mi, s, z) := by
  cases bad with
  | true => rw [hB]; exact read_bad hs
  | false =>
    rw [read_ok hs, hB]
    by_cases h1 : gapL xs k = xs.length
    · cases h2 : mayL Y M D h mi s z with
      | true =>
        by_cases h3 : 0 ≤ t
        · by_cases h4 : t = wdayL Y M D
          · rw [if_pos ⟨h1, rfl, Or.inr h4⟩, decide_eq_true h1, decide_eq_true h4]; simp
          · rw [if_neg (fun h => by rcases h.2.2 with h | h; omega; exact h4 h), decide_eq_true h1, decide_eq_false h4, decide_eq_true h3]; simp
        · rw [if_pos ⟨h1, rfl, Or.inl (by omega)⟩, decide_eq_true h1, decide_eq_false h3]; simp
      | false => rw [if_neg (fun h => by cases h.2.1), decide_eq_true h1]; simp
    · rw [if_neg (fun h => h1 h.1), decide_eq_false h1]; simp
set_option maxRecDepth 100000 in
set_option maxHeartbeats 2000000 in
theorem r47_Read {A : Option Addr} {n c : Nat} {xs : List Int} {w : World} (hs : Sl w .u8 A n c xs) (hn : n ≤ 4194304) :
    Calls Try.prog 22 #[.slice A n c] w (RetB (.tuple #[readA xs, .int .i64 (readE xs)]) w) := by
  have HL := Lib.hid hs.len
  have ha := (Below.refl w.heap.size w).alloc (Nat.le_refl _) (.cells #[.int .i64 0, .int .i64 0, .int .i64 0, .int .i64 0, .int .i64 0, .int .i64 0, .int .i64 0] 28)
  have hx0 := Bx.new w 28 0 0 0 0 0 0 0
  obtain ⟨W0, hW0⟩ : ∃ W, w.alloc (.cells #[.int .i64 0, .int .i64 0, .int .i64 0, .int .i64 0, .int .i64 0, .int .i64 0, .int .i64 0] 28) = W := ⟨_, rfl⟩
  rw [hW0] at ha hx0
  have hz0 : W0.heap.size = w.heap.size + 1 := by rw [← hW0]; simp
  have hb1 := (Below.refl W0.heap.size W0).alloc (Nat.le_refl _) (.cells #[.slice A n c, .int .i64 0, .bool false] 61)
  have hR0 : Rdr w (W0.alloc (.cells #[.slice A n c, .int .i64 0, .bool false] 61)) (w.heap.size + 1) A n c xs 0 false := by
    rw [← hz0]
    exact ⟨by simp [go_sem], by simp [go_sem], by simp [go_sem], by simp [go_sem], by simp [go_sem], hs, by omega, by simp, ha.trans (hb1.mono ha.size)⟩
  have hx1 := hx0.bel hb1
  obtain ⟨W1, hW1⟩ : ∃ W, W0.alloc (.cells #[.slice A n c, .int .i64 0, .bool false] 61) = W := ⟨_, rfl⟩
  rw [hW1] at hR0 hx1
  have HW0 := Lib.hid hW0
  have HW1 := Lib.hid hW1
  obtain ⟨b, hb⟩ : ∃ b, w.heap.size + 1 = b := ⟨_, rfl⟩
  have hB0 : w.heap.size ≠ b := by omega
  have HBB := Lib.hid hb
  rw [hb] at hR0
  clear hW0 hW1 hb hz0 hb1 ha hx0
  have hgap := r28_Gap (a := (0 : Int)) hR0.now hn
  have hw0 : withL n (0 : Int) = 0 := withL_self (n := n) (k := 0) (Nat.zero_le _)
  rw [hw0] at hgap
  obtain ⟨g, hg⟩ : ∃ g, gapL xs 0 = g := ⟨_, rfl⟩
  rw [hg] at hgap
  have HG := Lib.hid hg
  clear hw0 hg
  by_cases hgn : g = n
  · have hA := Lib.hid (show readA xs = aggV none by unfold readA; rw [if_pos (by rw [HG.out, HL.out]; exact hgn)])
    have hE := Lib.hid (show readE xs = 4 by unfold readE; rw [if_pos (by rw [HG.out, HL.out]; exact hgn)])
    have hq : ((g : Int) == (n : Int)) = true := by simp; omega
    go_enter Try.func22, Try.ntmps22
    go_upto_region 2 with fail
    rw [HW0.out, HBB.out]
    rw [HW1.out]
    have hB1 := hR0.bel
    have x0 := hx1.c0
    have x1 := hx1.c1
    have x2 := hx1.c2
    have x3 := hx1.c3
    have x4 := hx1.c4
    have x5 := hx1.c5
    have x6 := hx1.c6
    have f0 := hx1.f0
    have f1 := hx1.f1
    have f2 := hx1.f2
    have f3 := hx1.f3
    have f4 := hx1.f4
    have f5 := hx1.f5
    have f6 := hx1.f6
    clear hs hR0
    go_wp2_with fail
    refine hgap.mono ?_
    rintro e w1 ⟨rfl, rfl⟩
    go_wp2_with fail
    have hF := ((((((hx1.set0 0).set1 0).set2 0).set3 0).set4 0).set5 0).set6 0
    have hBF := (((((((hB1.setCell (p := ⟨w.heap.size, 0, none⟩) (Nat.le_refl _) (.int .i64 0)).setCell (p := ⟨w.heap.size, 1, none⟩) (Nat.le_refl _) (.int .i64 0)).setCell (p := ⟨w.heap.size, 2, none⟩) (Nat.le_refl _) (.int .i64 0)).setCell (p := ⟨w.heap.size, 3, none⟩) (Nat.le_refl _) (.int .i64 0)).setCell (p := ⟨w.heap.size, 4, none⟩) (Nat.le_refl _) (.int .i64 0)).setCell (p := ⟨w.heap.size, 5, none⟩) (Nat.le_refl _) (.int .i64 0)).setCell (p := ⟨w.heap.size, 6, none⟩) (Nat.le_refl _) (.int .i64 0))
    generalize World.setCell _ _ (.int .i64 0) = WF at hF hBF ⊢
    have y0 := hF.c0
    have y1 := hF.c1
    have y2 := hF.c2
    have y3 := hF.c3
    have y4 := hF.c4
    have y5 := hF.c5
    have y6 := hF.c6
    exact bodyPost_ret (v := .tuple #[.agg #[.int .i64 0, .int .i64 0, .int .i64 0, .int .i64 0, .int .i64 0, .int .i64 0, .int .i64 0], .int .i64 4]) (by simp [results, Try.results22, go_sem, y0, y1, y2, y3, y4, y5, y6]) rfl ⟨by rw [hA.out, hE.out]; rfl, hBF⟩
  · have hA := Lib.hid (show readA xs = aggV (readO xs) by unfold readA; rw [if_neg (by rw [HG.out, HL.out]; exact hgn)])
    have hE := Lib.hid (show readE xs = if (readO xs).isSome then 0 else 3 by unfold readE; rw [if_neg (by rw [HG.out, HL.out]; exact hgn)])
    have hq : ((g : Int) == (n : Int)) = false := by simp; omega
    go_enter Try.func22, Try.ntmps22
    go_upto_region 2 with fail
    rw [HW0.out, HBB.out]
    rw [HW1.out]
    go_wp2_with fail
    refine hgap.mono ?_
    rintro e w1 ⟨rfl, rfl⟩
    go_wp2_with fail
    
    have hE1 := (runE_le (xs := xs) (kv := 16) (k := 0) (Nat.zero_le _)).2
    rw [HL.out] at hE1
    have hb3 := Nat.le_trans (runP_len xs 16 0) (Nat.sub_le _ _)
    rw [HL.out] at hb3
    have hTy := Lib.hid (fun hl t ok k2 ht h1 hk ho => (St.start 0).step (tol_yes' (xs := xs) (k := 0) (t := t) (ok := ok) (k2 := k2) hl ht h1 hk ho))
    have hTb := Lib.hid (fun hl h1 v k' => (St.start 0).step (tol_bad (xs := xs) (k := 0) hl h1 v k' false))
    have hTn := Lib.hid (fun hl => (St.start 0).step (tol_no (xs := xs) (k := 0) (bad := false) hl))
    have hrun := r47_run (kv := 16) hR0 hn (Nat.zero_le _)
    obtain ⟨ds, hds⟩ : ∃ ds, runP xs 16 0 = ds := ⟨_, rfl⟩
    obtain ⟨E, hE'⟩ : ∃ E, runE xs 16 0 = E := ⟨_, rfl⟩
    rw [hds, hE'] at hTy hrun
    rw [hds] at hTb
    rw [hds, hE'] at hTn
    rw [hds] at hb3
    rw [hE'] at hE1
    clear hds hE' hgap hq
    refine hrun.mono ?_
    rintro e w1 ⟨A1, c1, rfl, hs1, hR1, hK1⟩
    have hx := hx1.keep hK1 hB0
    have hbw : w.heap.size ≤ b := hR1.hb
    clear hR0 hx1 hrun hK1 HW0 HW1
    go_upto_if 19 with fail
    go_cut [5] from 8 (fun v5 wc => ∃ (t : Int) (k1 : Nat) (bad : Bool), v5 = .int .i64 t ∧ k1 ≤ n ∧ Rdr w wc b A n c xs k1 bad ∧ Bx wc w.heap.size 0 0 0 0 0 0 0 ∧ Hid (St (stepS (tolS xs) (some ([], 0))) [t] k1 bad))
    case first =>
      by_cases hl : ds.length > 0
      · have hY := Lib.hid (fun t ok k2 => hTy.out hl t ok k2)
        have hBd := Lib.hid (hTb.out hl)
        clear hTy hTn hTb
        have hnr := nameV_rng dayB ds (by decide) hs1.wf
        have hnm := r47_name (hs1.bel hR1.bel) (show ds.length ≤ 4194304 by omega) dayCT
        obtain ⟨t0, ht0⟩ : ∃ t0, nameV dayB ds = t0 := ⟨_, rfl⟩
        rw [ht0] at hY hBd hnr hnm
        obtain ⟨hn1, hn2⟩ := hnr
        have hk2 := skipV_le (xs := xs) (k := E) 44 (by rw [hR1.sl.len]; exact hE1)
        rw [hR1.sl.len] at hk2
        have hsk := fun w' (hR : Rdr w w' b A n c xs E false) => r47_skip (y := 44) hR hn hE1
        obtain ⟨k2, hk2e⟩ : ∃ k2, (skipV xs E 44).1 = k2 := ⟨_, rfl⟩
        obtain ⟨ok, hok⟩ : ∃ ok, (skipV xs E 44).2 = ok := ⟨_, rfl⟩
        rw [hk2e, hok] at hsk hY
        rw [hk2e] at hk2
        clear hk2e hok ht0
        go_wp2_with fail
        refine hnm.mono ?_
        rintro e w2 ⟨rfl, hb2⟩
        have hR2 := hR1.below hb2
        have hx2 := hx.bel hb2
        have c2 := hR2.c2
        have f2 := hR2.f2
        clear hnm hR1 hx hs1 hb2
        by_cases ht : 0 ≤ t0
        · have HY := Lib.hid (hY.out t0 ok k2 rfl ht rfl rfl)
          have ht1 : decide (t0 < 0) = false := decide_eq_false (by omega)
          clear hY hBd
          go_wp2_with fail
          refine (hsk _ hR2).mono ?_
          rintro e w4 ⟨rfl, hR4, hK4⟩
          have hx4 := hx2.keep hK4 hB0
          have hM := hR4.mark (bad' := !ok)
          have hx5 := hx4.other (B2 := b) (o := 2) (fun e => hB0 e.symm) (.bool (!ok))
          have c2' := hR4.c2
          have f2' := hR4.f2
          clear hx2 hR2 hK4 hsk c2 f2
          cases ok
          all_goals
            go_wp2_with fail
            go_meet
            case rel => exact ⟨t0, k2, _, rfl, hk2, hM, hx5, HY.out⟩
        · have HY := Lib.hid (hBd.out (by omega) t0 E)
          have ht1 : decide (t0 < 0) = true := decide_eq_true (by omega)
          have hM := hR2.mark (bad' := true)
          have hx5 := hx2.other (B2 := b) (o := 2) (fun e => hB0 e.symm) (.bool true)
          clear hY hBd
          go_wp2_with fail
          go_meet
          case rel => exact ⟨t0, E, _, rfl, hE1, hM, hx5, HY.out⟩
      · have hT := Lib.hid (hTn.out hl)
        clear hTy hTn hTb
        go_wp2_with fail
        go_meet
        case rel => exact ⟨-1, E, _, rfl, hE1, hR1, hx, hT.out⟩
    case rest =>
      clear hR1 hx hs1 hE1 hb3 hTy hTn hTb
      obtain ⟨t, k1, bad, rfl, hk1, hR, hx, hS⟩ := hcut
      have hBb : wc.heap.size ≠ b := by have := hR.lt; omega
      have hBB : wc.heap.size ≠ w.heap.size := by have := hx.lt; omega
      have hBw : w.heap.size ≤ wc.heap.size := hR.bel.size
      have hbA := (Below.refl wc.heap.size wc).alloc (Nat.le_refl _) (.cells #[.int .i64 0, .int .i64 0, .int .i64 0, .int .i64 0, .int .i64 0, .int .i64 0, .int .i64 0] 28)
      have hd := Bx.new wc 28 0 0 0 0 0 0 0
      go_wp2_with fail
      have hR := hR.below hbA
      have hx := hx.bel hbA
      obtain ⟨Wd, hWd⟩ : ∃ W, wc.alloc (.cells #[.int .i64 0, .int .i64 0, .int .i64 0, .int .i64 0, .int .i64 0, .int .i64 0, .int .i64 0] 28) = W := ⟨_, rfl⟩
      rw [hWd] at hR hx hd
      rw [hWd]
      obtain ⟨Bd, hBd⟩ : ∃ B, wc.heap.size = B := ⟨_, rfl⟩
      rw [hBd] at hBb hBB hBw hd
      rw [hBd]
      clear hWd hbA hBd
      refine (r47_num12 hR hn hk1).mono ?_
      rintro e y0 ⟨D, k0, bad0, rfl, hv00, hv10, hk0, hR0, hK0, hN⟩
      have hS0 := Lib.hid (hS.out.step hN)
      clear hN hS hR hk1
      have hd := hd.keep hK0 hBb
      have hx := hx.keep hK0 hB0
      have cc := hd.c2
      have ff := hd.f2
      clear hK0
      go_wp2_with fail
      have hR := hR0.other (o := 2) hBb hBw (.int .i64 (D))
      have hd := hd.set2 (D)
      have hx := hx.other (o := 2) hBB (.int .i64 (D))
      obtain ⟨X0, hX0⟩ : ∃ W, World.setCell y0 ⟨Bd, 2, none⟩ (.int .i64 (D)) = W := ⟨_, rfl⟩
      rw [hX0] at hR hd hx
      (try rw [hX0])
      clear hX0 cc ff hR0
      have hS := hS0
      have hk1 := hk0
      clear hS0 hk0
      have hE1 := (runE_le (xs := xs) (kv := 16) (k := k0) (by rw [hR.sl.len]; exact hk1)).2
      rw [hR.sl.len] at hE1
      have hb3 := Nat.le_trans (runP_len xs 16 k0) (Nat.sub_le _ _)
      rw [hR.sl.len] at hb3
      have hrun := r47_run (kv := 16) hR hn hk1
      have hS9 := Lib.hid (hS.out.step (mon_in xs k0 bad0))
      obtain ⟨ds2, hds⟩ : ∃ ds, runP xs 16 k0 = ds := ⟨_, rfl⟩
      obtain ⟨E2, hEE⟩ : ∃ E, runE xs 16 k0 = E := ⟨_, rfl⟩
      rw [hds, hEE] at hrun hS9
      rw [hds] at hb3
      rw [hEE] at hE1
      clear hds hEE hS hk1 hR
      refine hrun.mono ?_
      rintro e y8 ⟨A2, c2, rfl, hs2, hR8, hK8⟩
      have hd := hd.keep hK8 hBb
      have hx := hx.keep hK8 hB0
      have hnr := nameV_rng monB ds2 (by decide) hs2.wf
      have hnm := r47_name (hs2.bel hR8.bel) (show ds2.length ≤ 4194304 by omega) monCT
      obtain ⟨m0, hm0⟩ : ∃ m0, nameV monB ds2 = m0 := ⟨_, rfl⟩
      rw [hm0] at hS9 hnr hnm
      obtain ⟨hm1, hm2⟩ := hnr
      clear hm0 hs2 hK8 hrun
      go_wp2_with fail
      refine hnm.mono ?_
      rintro e y9 ⟨rfl, hb9⟩
      have hR9 := hR8.below hb9
      have hK9 := Keeps.of (b := b) hb9
      clear hnm hR8 hb9
      have hd := hd.keep hK9 hBb
      have hx := hx.keep hK9 hB0
      have cc := hd.c1
      have ff := hd.f1
      clear hK9
      go_wp2_with fail
      have hR := hR9.other (o := 1) hBb hBw (.int .i64 (m0 + 1))
      have hd := hd.set1 (m0 + 1)
      have hx := hx.other (o := 1) hBB (.int .i64 (m0 + 1))
      obtain ⟨X9, hX9⟩ : ∃ W, World.setCell y9 ⟨Bd, 1, none⟩ (.int .i64 (m0 + 1)) = W := ⟨_, rfl⟩
      rw [hX9] at hR hd hx
      (try rw [hX9])
      clear hX9 cc ff hR9
      have hS := hS9
      have hk1 := hE1
      clear hS9 hE1
      refine (r47_num44 hR hn hk1).mono ?_
      rintro e y10 ⟨Y, k10, bad10, rfl, hv010, hv110, hk10, hR10, hK10, hN⟩
      have hS10 := Lib.hid (hS.out.step hN)
      clear hN hS hR hk1
      have hd := hd.keep hK10 hBb
      have hx := hx.keep hK10 hB0
      have cc := hd.c0
      have ff := hd.f0
      clear hK10
      go_wp2_with fail
      have hR := hR10.other (o := 0) hBb hBw (.int .i64 (Y))
      have hd := hd.set0 (Y)
      have hx := hx.other (o := 0) hBB (.int .i64 (Y))
      obtain ⟨X10, hX10⟩ : ∃ W, World.setCell y10 ⟨Bd, 0, none⟩ (.int .i64 (Y)) = W := ⟨_, rfl⟩
      rw [hX10] at hR hd hx
      (try rw [hX10])
      clear hX10 cc ff hR10
      have hS := hS10
      have hk1 := hk10
      clear hS10 hk10
      refine (r47_num22 hR hn hk1).mono ?_
      rintro e y11 ⟨h, k11, bad11, rfl, hv011, hv111, hk11, hR11, hK11, hN⟩
      have hS11 := Lib.hid (hS.out.step hN)
      clear hN hS hR hk1
      have hd := hd.keep hK11 hBb
      have hx := hx.keep hK11 hB0
      have cc := hd.c3
      have ff := hd.f3
      clear hK11
      go_upto_region 14 with fail
      have hR := hR11.other (o := 3) hBb hBw (.int .i64 h)
      have hd := hd.set3 h
      have hx := hx.other (o := 3) hBB (.int .i64 h)
      obtain ⟨X11, hX11⟩ : ∃ W, World.setCell y11 ⟨Bd, 3, none⟩ (.int .i64 h) = W := ⟨_, rfl⟩
      rw [hX11] at hR hd hx
      (try rw [hX11])
      clear hX11 cc ff hR11
      have hS := hS11
      have hk1 := hk11
      clear hS11 hk11
      go_cut [] from 43 (fun wd => ∃ (k2 : Nat) (bad2 : Bool), k2 ≤ n ∧ Rdr w wd b A n c xs k2 bad2 ∧ Bx wd w.heap.size 0 0 0 0 0 0 0 ∧ Bx wd Bd Y (m0 + 1) D h 0 0 0 ∧ Hid (∀ v k'' bad'', NumI (numS xs 2 2 k2) v k'' bad2 bad'' → NumI (minS xs k11) v k'' bad11 bad''))
      case first =>
        have c2 := hR.c2
        have f2 := hR.f2
        cases bad11 with
        | true =>
          have hM := hR.mark (bad' := true)
          have hx5 := hx.other (B2 := b) (o := 2) (fun e => hB0 e.symm) (.bool true)
          have hd5 := hd.other (B2 := b) (o := 2) (fun e => hBb e.symm) (.bool true)
          clear hS
          go_wp2_with fail
          go_meet
          case rel => exact ⟨k11, true, hk1, hM, hx5, hd5, fun v k'' bad'' h => min_in' h⟩
        | false =>
          have hmin := Lib.hid (fun v k'' bad'' (h : NumI (numS xs 2 2 (skipV xs k11 58).1) v k'' (false || !(skipV xs k11 58).2) bad'') => min_in h)
          have hsk := r47_skip (y := 58) hR hn hk1
          have hk2 := skipV_le (xs := xs) (k := k11) 58 (by rw [hR.sl.len]; exact hk1)
          rw [hR.sl.len] at hk2
          obtain ⟨k12, hk2e⟩ : ∃ k2, (skipV xs k11 58).1 = k2 := ⟨_, rfl⟩
          obtain ⟨ok, hok⟩ : ∃ ok, (skipV xs k11 58).2 = ok := ⟨_, rfl⟩
          rw [hk2e, hok] at hsk hmin
          rw [hk2e] at hk2
          clear hk2e hok hR hk1 hS
          go_wp2_with fail
          refine hsk.mono ?_
          rintro e y12 ⟨rfl, hR12, hK12⟩
          have hd := hd.keep hK12 hBb
          have hx := hx.keep hK12 hB0
          have hM := hR12.mark (bad' := !ok)
          have hx5 := hx.other (B2 := b) (o := 2) (fun e => hB0 e.symm) (.bool (!ok))
          have hd5 := hd.other (B2 := b) (o := 2) (fun e => hBb e.symm) (.bool (!ok))
          have c2' := hR12.c2
          have f2' := hR12.f2
          clear hsk hK12 c2 f2
          cases ok
          all_goals
            go_wp2_with fail
            go_meet
            case rel => exact ⟨k12, _, hk2, hM, hx5, hd5, hmin.out⟩
      case rest =>
        clear hR hx hd hk1
        obtain ⟨k12, bad12, hk1, hR, hx, hd, hmin⟩ := hcut
        go_wp2_with fail
        refine (r47_num22 hR hn hk1).mono ?_
        rintro e y14 ⟨mi, k14, bad14, rfl, hv014, hv114, hk14, hR14, hK14, hN⟩
        have hS14 := Lib.hid (hS.out.step (hmin.out _ _ _ hN))
        clear hN hS hR hk1
        have hd := hd.keep hK14 hBb
        have hx := hx.keep hK14 hB0
        have cc := hd.c4
        have ff := hd.f4
        clear hK14
        go_wp2_with fail
        have hR := hR14.other (o := 4) hBb hBw (.int .i64 (mi))
        have hd := hd.set4 (mi)
        have hx := hx.other (o := 4) hBB (.int .i64 (mi))
        obtain ⟨X14, hX14⟩ : ∃ W, World.setCell y14 ⟨Bd, 4, none⟩ (.int .i64 (mi)) = W := ⟨_, rfl⟩
        rw [hX14] at hR hd hx
        (try rw [hX14])
        clear hX14 cc ff hR14
        have hS := hS14
        have hk1 := hk14
        clear hS14 hk14
        clear hmin
        have hsk := r47_skip (y := 58) hR hn hk1
        have hk2 := skipV_le (xs := xs) (k := k14) 58 (by rw [hR.sl.len]; exact hk1)
        rw [hR.sl.len] at hk2
        have hsy := Lib.hid (fun (hs : (skipV xs k14 58).2 = true) v k' bad bad' (h : NumI (numS xs 2 2 (skipV xs k14 58).1) v k' bad bad') => sec_in hs h)
        have hsn := Lib.hid (fun (hs : (skipV xs k14 58).2 = false) bad => sec_no (bad := bad) hs)
        obtain ⟨k15, hk2e⟩ : ∃ k2, (skipV xs k14 58).1 = k2 := ⟨_, rfl⟩
        obtain ⟨ok2, hok⟩ : ∃ ok, (skipV xs k14 58).2 = ok := ⟨_, rfl⟩
        rw [hk2e, hok] at hsk hsy hsn
        rw [hk2e] at hk2
        clear hk2e hok hR hk1
        refine hsk.mono ?_
        rintro e y15 ⟨rfl, hR, hK15⟩
        have hd := hd.keep hK15 hBb
        have hx := hx.keep hK15 hB0
        have hk1 := hk2
        clear hsk hK15 hk2
        have HSG := Lib.hid (show dateS xs 0 = stepS (zoneS xs) (stepS (secS xs) (stepS (minS xs) (stepS (numS xs 2 2) (stepS (numS xs 4 4) (stepS (mthS xs) (stepS (numS xs 1 2) (stepS (tolS xs) (some ([], 0))))))))) from rfl)
        obtain ⟨sg, hsg⟩ : ∃ s, (stepS (minS xs) (stepS (numS xs 2 2) (stepS (numS xs 4 4) (stepS (mthS xs) (stepS (numS xs 1 2) (stepS (tolS xs) (some ([], 0)))))))) = s := ⟨_, rfl⟩
        rw [hsg] at hS HSG
        clear hsg
        go_upto_if 52 with fail
        go_cut [] from 53 (fun wd => ∃ (s : Int) (k2 : Nat) (bad : Bool), k2 ≤ n ∧ Rdr w wd b A n c xs k2 bad ∧ Bx wd w.heap.size 0 0 0 0 0 0 0 ∧ Bx wd Bd Y (m0 + 1) D h mi s 0 ∧ Hid (St (stepS (secS xs) sg) ([t] ++ [D] ++ [m0 + 1] ++ [Y] ++ [h] ++ [mi] ++ [s]) k2 bad))
        case first =>
          cases ok2 with
          | true =>
            have hmin := Lib.hid (hsy.out rfl)
            clear hsy hsn
            go_wp2_with fail
            refine (r47_num22 hR hn hk1).mono ?_
            rintro e y16 ⟨s, k16, bad16, rfl, hv016, hv116, hk16, hR16, hK16, hN⟩
            have hS16 := Lib.hid (hS.out.step (hmin.out _ _ _ _ hN))
            have hd := hd.keep hK16 hBb
            have hx := hx.keep hK16 hB0
            have cc := hd.c5
            have ff := hd.f5
            clear hN hS hR hk1 hmin hK16
            go_wp2_with fail
            have hR := hR16.other (o := 5) hBb hBw (.int .i64 s)
            have hd := hd.set5 s
            have hx := hx.other (o := 5) hBB (.int .i64 s)
            go_meet
            case rel => exact ⟨s, k16, bad16, hk16, hR, hx, hd, hS16.out⟩
          | false =>
            have hS16 := Lib.hid (hS.out.step (hsn.out rfl bad14))
            clear hsy hsn
            go_wp2_with fail
            go_meet
            case rel => exact ⟨0, k15, bad14, hk1, hR, hx, hd, hS16.out⟩
        case rest =>
          clear hS hR hk1 hx hd hsy hsn
          obtain ⟨s, k2, badS, hk1, hR, hx, hd, hS⟩ := hcut
          go_wp2_with fail
          refine (r47_zone hR hn hk1).mono ?_
          rintro e y17 ⟨z, k17, bad17, rfl, hv017, hv117, hk17, hR17, hK17, hN⟩
          have hS17 := Lib.hid (show St (dateS xs 0) [t, D, m0 + 1, Y, h, mi, s, z] k17 bad17 from by rw [HSG.out]; exact hS.out.step hN)
          have hd := hd.keep hK17 hBb
          have hx := hx.keep hK17 hB0
          have cc := hd.c6
          have ff := hd.f6
          clear hN hS hR hk1 HSG hK17
          go_upto_region 19 with fail
          have hR := hR17.other (o := 6) hBb hBw (.int .i64 z)
          have hd := hd.set6 z
          have hx := hx.other (o := 6) hBB (.int .i64 z)
          obtain ⟨X17, hX17⟩ : ∃ W, World.setCell y17 ⟨Bd, 6, none⟩ (.int .i64 z) = W := ⟨_, rfl⟩
          rw [hX17] at hR hd hx
          (try rw [hX17])
          clear hX17 cc ff hR17
          have hgap := r28_Gap (a := (k17 : Int)) hR.now hn
          rw [withL_self hk17] at hgap
          obtain ⟨gp, hg⟩ : ∃ g, gapL xs k17 = g := ⟨_, rfl⟩
          rw [hg] at hgap
          have HGP := Lib.hid hg
          clear hg
          have hmay := fun W => r47_May (Y := Y) (M := m0 + 1) (D := D) (h := h) (mi := mi) (s := s) (z := z) (w := W)
          obtain ⟨ym, hym⟩ : ∃ y, mayL Y (m0 + 1) D h mi s z = y := ⟨_, rfl⟩
          rw [hym] at hmay
          have HM := Lib.hid hym
          clear hym
          have hwd := fun W => r47_Weekday (y := Y) (m := m0 + 1) (d := D) (w := W)
          obtain ⟨wd, hwdq⟩ : ∃ q, wdayL Y (m0 + 1) D = q := ⟨_, rfl⟩
          rw [hwdq] at hwd
          have HWD := Lib.hid hwdq
          clear hwdq
          go_cut [87] from 57 (fun v87 we => ∃ (B : Bool), v87 = .bool B ∧ Below w.heap.size w we ∧ Bx we w.heap.size 0 0 0 0 0 0 0 ∧ Bx we Bd Y (m0 + 1) D h mi s z ∧ Hid (readO xs = if B then none else some (Y, m0 + 1, D, h, mi, s, z)))
          case first =>
            have q1 := hR.c1
            have q2 := hR.c2
            have z0 := hd.c0
            have z1 := hd.c1
            have z2 := hd.c2
            have z3 := hd.c3
            have z4 := hd.c4
            have z5 := hd.c5
            have z6 := hd.c6
            cases bad17 with
            | true =>
              go_wp2_with (first
                | (go_at_call 33; (with_reducible refine hgap.mono ?_); rintro e w' ⟨rfl, rfl⟩)
                | (go_at_call 20; (with_reducible refine (hmay _).mono ?_); rintro e u1 ⟨rfl, hbm⟩; have hd1 := hd.bel hbm; have hR1 := hR.below hbm; have hx1 := hx.bel hbm; have e0 := hd1.c0; have e1 := hd1.c1; have e2 := hd1.c2)
                | (go_at_call 12; (with_reducible refine (hwd _).mono ?_); rintro e u2 ⟨rfl, hbw2⟩; have hd2 := hd1.bel hbw2; have hR2 := hR1.below hbw2; have hx2 := hx1.bel hbw2))
              go_meet
              case rel => exact ⟨true, rfl, hR.bel, hx, hd, readO_end hS17.out (by rw [HL.out]; simp)⟩
            | false =>
              by_cases hgn2 : gp = n
              · have hq1 : ((gp : Int) == (n : Int)) = true := by simp; omega
                have hq2 : ((gp : Int) != (n : Int)) = false := by simp; omega
                have HN := Lib.hid (decide_eq_true hgn2)
                clear hgn2
                cases ym with
                | true =>
                  by_cases ht : 0 ≤ t
                  · have ht2 : decide (0 ≤ t) = true := decide_eq_true ht
                    by_cases he : t = wd
                    · have he2 : (t == wd) = true := by simp; exact he
                      have he3 : (t != wd) = false := by simp; exact he
                      have HEq := Lib.hid (decide_eq_true he)
                      have HT := Lib.hid ht2
                      clear he ht
                      go_wp2_with (first
                        | (go_at_call 33; (with_reducible refine hgap.mono ?_); rintro e w' ⟨rfl, rfl⟩)
                        | (go_at_call 20; (with_reducible refine (hmay _).mono ?_); rintro e u1 ⟨rfl, hbm⟩; have hd1 := hd.bel hbm; have hR1 := hR.below hbm; have hx1 := hx.bel hbm; have e0 := hd1.c0; have e1 := hd1.c1; have e2 := hd1.c2)
                        | (go_at_call 12; (with_reducible refine (hwd _).mono ?_); rintro e u2 ⟨rfl, hbw2⟩; have hd2 := hd1.bel hbw2; have hR2 := hR1.below hbw2; have hx2 := hx1.bel hbw2))
                      go_meet
                      case rel => exact ⟨false, rfl, hR2.bel, hx2, hd2, readO_end hS17.out (by rw [HL.out, HGP.out, HN.out, HM.out, HWD.out, HEq.out, HT.out]; rfl)⟩
                    · have he2 : (t == wd) = false := by simp; exact he
                      have he3 : (t != wd) = true := by simp; exact he
                      have HEq := Lib.hid (decide_eq_false he)
                      have HT := Lib.hid ht2
                      clear he ht
                      go_wp2_with (first
                        | (go_at_call 33; (with_reducible refine hgap.mono ?_); rintro e w' ⟨rfl, rfl⟩)
                        | (go_at_call 20; (with_reducible refine (hmay _).mono ?_); rintro e u1 ⟨rfl, hbm⟩; have hd1 := hd.bel hbm; have hR1 := hR.below hbm; have hx1 := hx.bel hbm; have e0 := hd1.c0; have e1 := hd1.c1; have e2 := hd1.c2)
                        | (go_at_call 12; (with_reducible refine (hwd _).mono ?_); rintro e u2 ⟨rfl, hbw2⟩; have hd2 := hd1.bel hbw2; have hR2 := hR1.below hbw2; have hx2 := hx1.bel hbw2))
                      go_meet
                      case rel => exact ⟨true, rfl, hR2.bel, hx2, hd2, readO_end hS17.out (by rw [HL.out, HGP.out, HN.out, HM.out, HWD.out, HEq.out, HT.out]; rfl)⟩
                  · have ht2 : decide (0 ≤ t) = false := decide_eq_false ht
                    have HT := Lib.hid ht2
                    clear ht
                    go_wp2_with (first
                      | (go_at_call 33; (with_reducible refine hgap.mono ?_); rintro e w' ⟨rfl, rfl⟩)
                      | (go_at_call 20; (with_reducible refine (hmay _).mono ?_); rintro e u1 ⟨rfl, hbm⟩; have hd1 := hd.bel hbm; have hR1 := hR.below hbm; have hx1 := hx.bel hbm; have e0 := hd1.c0; have e1 := hd1.c1; have e2 := hd1.c2)
                      | (go_at_call 12; (with_reducible refine (hwd _).mono ?_); rintro e u2 ⟨rfl, hbw2⟩; have hd2 := hd1.bel hbw2; have hR2 := hR1.below hbw2; have hx2 := hx1.bel hbw2))
                    go_meet
                    case rel => exact ⟨false, rfl, hR1.bel, hx1, hd1, readO_end hS17.out (by rw [HL.out, HGP.out, HN.out, HM.out, HT.out]; rfl)⟩
                | false =>
                  go_wp2_with (first
                    | (go_at_call 33; (with_reducible refine hgap.mono ?_); rintro e w' ⟨rfl, rfl⟩)
                    | (go_at_call 20; (with_reducible refine (hmay _).mono ?_); rintro e u1 ⟨rfl, hbm⟩; have hd1 := hd.bel hbm; have hR1 := hR.below hbm; have hx1 := hx.bel hbm; have e0 := hd1.c0; have e1 := hd1.c1; have e2 := hd1.c2)
                    | (go_at_call 12; (with_reducible refine (hwd _).mono ?_); rintro e u2 ⟨rfl, hbw2⟩; have hd2 := hd1.bel hbw2; have hR2 := hR1.below hbw2; have hx2 := hx1.bel hbw2))
                  go_meet
                  case rel => exact ⟨true, rfl, hR1.bel, hx1, hd1, readO_end hS17.out (by rw [HL.out, HGP.out, HN.out, HM.out]; rfl)⟩
              · have hq1 : ((gp : Int) == (n : Int)) = false := by simp; omega
                have hq2 : ((gp : Int) != (n : Int)) = true := by simp; omega
                have HN := Lib.hid (decide_eq_false hgn2)
                clear hgn2
                go_wp2_with (first
                  | (go_at_call 33; (with_reducible refine hgap.mono ?_); rintro e w' ⟨rfl, rfl⟩)
                  | (go_at_call 20; (with_reducible refine (hmay _).mono ?_); rintro e u1 ⟨rfl, hbm⟩; have hd1 := hd.bel hbm; have hR1 := hR.below hbm; have hx1 := hx.bel hbm; have e0 := hd1.c0; have e1 := hd1.c1; have e2 := hd1.c2)
                  | (go_at_call 12; (with_reducible refine (hwd _).mono ?_); rintro e u2 ⟨rfl, hbw2⟩; have hd2 := hd1.bel hbw2; have hR2 := hR1.below hbw2; have hx2 := hx1.bel hbw2))
                go_meet
                case rel => exact ⟨true, rfl, hR.bel, hx, hd, readO_end hS17.out (by rw [HL.out, HGP.out, HN.out]; rfl)⟩
          case rest =>
            clear hgap hmay hwd hR hx hd hk17
            obtain ⟨B, rfl, hB4, hx4, hy4, hO1⟩ := hcut
            
            have x0 := hx4.c0
            have x1 := hx4.c1
            have x2 := hx4.c2
            have x3 := hx4.c3
            have x4 := hx4.c4
            have x5 := hx4.c5
            have x6 := hx4.c6
            have f0 := hx4.f0
            have f1 := hx4.f1
            have f2 := hx4.f2
            have f3 := hx4.f3
            have f4 := hx4.f4
            have f5 := hx4.f5
            have f6 := hx4.f6
            have z0 := hy4.c0
            have z1 := hy4.c1
            have z2 := hy4.c2
            have z3 := hy4.c3
            have z4 := hy4.c4
            have z5 := hy4.c5
            have z6 := hy4.c6
            cases B with
            | true =>
              have hO := Lib.hid (show readO xs = none from hO1.out)
              go_wp2_with fail
              have hF := ((((((hx4.set0 0).set1 0).set2 0).set3 0).set4 0).set5 0).set6 0
              have hBF := (((((((hB4.setCell (p := ⟨w.heap.size, 0, none⟩) (Nat.le_refl _) (.int .i64 0)).setCell (p := ⟨w.heap.size, 1, none⟩) (Nat.le_refl _) (.int .i64 0)).setCell (p := ⟨w.heap.size, 2, none⟩) (Nat.le_refl _) (.int .i64 0)).setCell (p := ⟨w.heap.size, 3, none⟩) (Nat.le_refl _) (.int .i64 0)).setCell (p := ⟨w.heap.size, 4, none⟩) (Nat.le_refl _) (.int .i64 0)).setCell (p := ⟨w.heap.size, 5, none⟩) (Nat.le_refl _) (.int .i64 0)).setCell (p := ⟨w.heap.size, 6, none⟩) (Nat.le_refl _) (.int .i64 0))
              generalize World.setCell _ _ (.int .i64 0) = WF at hF hBF ⊢
              have y0 := hF.c0
              have y1 := hF.c1
              have y2 := hF.c2
              have y3 := hF.c3
              have y4 := hF.c4
              have y5 := hF.c5
              have y6 := hF.c6
              exact bodyPost_ret (v := .tuple #[.agg #[.int .i64 0, .int .i64 0, .int .i64 0, .int .i64 0, .int .i64 0, .int .i64 0, .int .i64 0], .int .i64 3]) (by simp [results, Try.results22, go_sem, y0, y1, y2, y3, y4, y5, y6]) rfl ⟨by rw [hA.out, hE.out, hO.out]; rfl, hBF⟩
            | false =>
              have hO := Lib.hid (show readO xs = some (Y, m0 + 1, D, h, mi, s, z) from hO1.out)
              go_wp2_with fail
              have hF := ((((((hx4.set0 Y).set1 (m0 + 1)).set2 D).set3 h).set4 mi).set5 s).set6 z
              have hBF := (((((((hB4.setCell (p := ⟨w.heap.size, 0, none⟩) (Nat.le_refl _) (.int .i64 Y)).setCell (p := ⟨w.heap.size, 1, none⟩) (Nat.le_refl _) (.int .i64 (m0 + 1))).setCell (p := ⟨w.heap.size, 2, none⟩) (Nat.le_refl _) (.int .i64 D)).setCell (p := ⟨w.heap.size, 3, none⟩) (Nat.le_refl _) (.int .i64 h)).setCell (p := ⟨w.heap.size, 4, none⟩) (Nat.le_refl _) (.int .i64 mi)).setCell (p := ⟨w.heap.size, 5, none⟩) (Nat.le_refl _) (.int .i64 s)).setCell (p := ⟨w.heap.size, 6, none⟩) (Nat.le_refl _) (.int .i64 z))
              generalize World.setCell _ _ (.int .i64 z) = WF at hF hBF ⊢
              have y0 := hF.c0
              have y1 := hF.c1
              have y2 := hF.c2
              have y3 := hF.c3
              have y4 := hF.c4
              have y5 := hF.c5
              have y6 := hF.c6
              exact bodyPost_ret (v := .tuple #[.agg #[.int .i64 Y, .int .i64 (m0 + 1), .int .i64 D, .int .i64 h, .int .i64 mi, .int .i64 s, .int .i64 z], .int .i64 0]) (by simp [results, Try.results22, go_sem, y0, y1, y2, y3, y4, y5, y6]) rfl ⟨by rw [hA.out, hE.out, hO.out]; rfl, hBF⟩
end Go.Proofs.Ytjiofcnlibkhkaa
