/- Layer 47 (date): the program's reader of a whole date. Condition: the box is the call's own, the octets lay there before it, at most 2^22; the variable MaxLen holds a number. -/
import Derived.Test.Ytjiofcnlibkhkaa47box
import Derived.Test.Ytjiofcnlibkhkaa47C
import Derived.Deep.CutBlock
namespace Go.Proofs.Ytjiofcnlibkhkaa
open Go.RowKit

/-- returns a date and the day of the week that is told; behind it where the reader stands -/
def RetDate (w0 : World) (b : Nat) (A : Option Addr) (n c : Nat) (xs : List Int) (k : Nat) (w : World) (e : Ending) (w' : World) : Prop :=
  ∃ (Y M D h mi s z t : Int) (k1 k' : Nat) (bad bad' : Bool), e = .returned (.tuple #[.agg #[.int .i64 Y, .int .i64 M, .int .i64 D, .int .i64 h, .int .i64 mi, .int .i64 s, .int .i64 z], .int .i64 t]) ∧
    Rdr w0 w' b A n c xs k' bad' ∧ Keeps b w w' ∧ St (dateS xs k) [t, D, M, Y, h, mi, s, z] k1 bad ∧ bad' = (bad || !(decide (gapL xs k1 = n) && mayL Y M D h mi s z))
set_option maxRecDepth 100000 in
set_option maxHeartbeats 2000000 in
theorem p47_date {w0 w : World} {b : Nat} {A : Option Addr} {n c : Nat} {xs : List Int} {k : Nat} (h : Rdr w0 w b A n c xs k false) (hn : n ≤ 4194304) (hk : k ≤ n) (hm : MaxL w0) :
    Calls Try.prog 32 #[.pointer (some ⟨b, 0, none⟩)] w (RetDate w0 b A n c xs k w) := by
  have hent := enters_of Try.func42 (by kernel_rfl) rfl
  go_enter Try.func32, Try.ntmps32
  go_wp2_with fail
  have hb0 := (Below.refl w.heap.size w).alloc (Nat.le_refl _) (.cells #[.int .i64 0, .int .i64 0, .int .i64 0, .int .i64 0, .int .i64 0, .int .i64 0, .int .i64 0] 29)
  have hx0 := Bx.new w 29 0 0 0 0 0 0 0
  have hB0 : w.heap.size ≠ b := by have := h.lt; omega
  have hBw1 : w0.heap.size ≤ w.heap.size := h.bel.size
  have hR0 := h.below hb0
  have hK0 := Keeps.of (b := b) hb0
  obtain ⟨W0, hW0⟩ : ∃ W, w.alloc (.cells #[.int .i64 0, .int .i64 0, .int .i64 0, .int .i64 0, .int .i64 0, .int .i64 0, .int .i64 0] 29) = W := ⟨_, rfl⟩
  rw [hW0] at hb0 hx0 hR0 hK0
  rw [hW0]
  have hE1 := (runE_le (xs := xs) (kv := 16) (k := k) (by rw [h.sl.len]; exact hk)).2
  rw [h.sl.len] at hE1
  have hb3 := Nat.le_trans (runP_len xs 16 k) (Nat.sub_le _ _)
  rw [h.sl.len] at hb3
  have hTy := Lib.hid (fun hl => (St.start k).step (tol_yes (xs := xs) (k := k) (bad := false) hl))
  have hTn := Lib.hid (fun hl => (St.start k).step (tol_no (xs := xs) (k := k) (bad := false) hl))
  have hrun := p47_run (kv := 16) hR0 hn hk
  obtain ⟨ds, hds⟩ : ∃ ds, runP xs 16 k = ds := ⟨_, rfl⟩
  obtain ⟨E, hE⟩ : ∃ E, runE xs 16 k = E := ⟨_, rfl⟩
  rw [hds, hE] at hTy hrun
  rw [hds, hE] at hTn
  rw [hds] at hb3
  rw [hE] at hE1
  clear hds hE
  refine hrun.mono ?_
  rintro e w1 ⟨A1, c1, rfl, hs1, hR1, hK1⟩
  have hx1 := hx0.keep hK1 hB0
  have hK1 := hK0.trans hK1
  have hsz1 := hx1.lt
  clear hW0 hb0 hx0 hR0 hK0 h hrun
  go_upto_if 14 with fail
  go_cut [4] from 8 (fun v4 wc => ∃ (t : Int) (k1 : Nat) (bad : Bool), v4 = .int .i64 t ∧ k1 ≤ n ∧ Rdr w0 wc b A n c xs k1 bad ∧ Keeps b w wc ∧ Bx wc w.heap.size 0 0 0 0 0 0 0 ∧ Hid (St (stepS (tolS xs) (some ([], k))) [t] k1 bad))
  case first =>
    by_cases hl : ds.length > 0
    · have hT := Lib.hid (hTy.out hl)
      clear hTy hTn
      have hnr := nameV_rng dayB ds (by decide) hs1.wf
      have hnm := p47_name (hs1.bel hR1.bel) (show ds.length ≤ 4194304 by omega) dayT (by decide) (hm.bel hR1.bel)
      obtain ⟨t0, ht0⟩ : ∃ t0, nameV dayB ds = t0 := ⟨_, rfl⟩
      rw [ht0] at hT hnr hnm
      obtain ⟨hn1, hn2⟩ := hnr
      have hsk := fun w' bad (hR : Rdr w0 w' b A n c xs E bad) => p47_skip (y := 44) hR hn hE1
      have hk2 := skipV_le (xs := xs) (k := E) 44 (by rw [hR1.sl.len]; exact hE1)
      rw [hR1.sl.len] at hk2
      obtain ⟨k2, hk2e⟩ : ∃ k2, (skipV xs E 44).1 = k2 := ⟨_, rfl⟩
      obtain ⟨ok, hok⟩ : ∃ ok, (skipV xs E 44).2 = ok := ⟨_, rfl⟩
      rw [hk2e, hok] at hsk hT
      rw [hk2e] at hk2
      clear hk2e hok ht0
      go_wp2_with fail
      refine hnm.mono ?_
      rintro e w2 ⟨rfl, hb2⟩
      have hR2 := hR1.below hb2
      have hx2 := hx1.bel hb2
      have hK2 := hK1.then_ hb2
      clear hnm hR1 hx1 hK1 hs1 hb2 hsz1
      go_wp2_with fail
      refine (p47_must hR2).mono ?_
      rintro e w3 ⟨rfl, hR3, hK3⟩
      have hx3 := hx2.keep hK3 hB0
      have hK3 := hK2.trans hK3
      clear hx2 hR2 hK2
      go_wp2_with fail
      refine (hsk _ _ hR3).mono ?_
      rintro e w4 ⟨rfl, hR4, hK4⟩
      have hx4 := hx3.keep hK4 hB0
      have hK4 := hK3.trans hK4
      clear hx3 hR3 hK3 hsk
      go_wp2_with fail
      refine (p47_must hR4).mono ?_
      rintro e w5 ⟨rfl, hR5, hK5⟩
      have hx5 := hx4.keep hK5 hB0
      have hK5 := hK4.trans hK5
      clear hx4 hR4 hK4
      go_wp2_with fail
      go_meet
      case rel => exact ⟨t0, k2, _, rfl, hk2, hR5, hK5, hx5, hT.out⟩
    · have hT := Lib.hid (hTn.out hl)
      clear hTy hTn
      go_wp2_with fail
      go_meet
      case rel => exact ⟨-1, E, _, rfl, hE1, hR1, hK1, hx1, hT.out⟩
  case rest =>
    obtain ⟨t, k1, bad, rfl, hk1, hR, hKp, hx, hS⟩ := hcut
    clear hR1 hx1 hK1 hs1 hE1 hb3 hTy hTn
    have hBb : wc.heap.size ≠ b := by have := hR.lt; omega
    have hBB : wc.heap.size ≠ w.heap.size := by have := hx.lt; omega
    have hBw : w.heap.size ≤ wc.heap.size := hKp.1
    have hBw0 : w0.heap.size ≤ wc.heap.size := hR.bel.size
    have hbA := (Below.refl wc.heap.size wc).alloc (Nat.le_refl _) (.cells #[.int .i64 0, .int .i64 0, .int .i64 0, .int .i64 0, .int .i64 0, .int .i64 0, .int .i64 0] 29)
    have hd := Bx.new wc 29 0 0 0 0 0 0 0
    go_wp2_with fail
    have hR := hR.below hbA
    have hx := hx.bel hbA
    have hKp := hKp.then_ hbA
    obtain ⟨Wd, hWd⟩ : ∃ W, wc.alloc (.cells #[.int .i64 0, .int .i64 0, .int .i64 0, .int .i64 0, .int .i64 0, .int .i64 0, .int .i64 0] 29) = W := ⟨_, rfl⟩
    rw [hWd] at hR hx hKp hd
    rw [hWd]
    obtain ⟨Bd, hBd⟩ : ∃ B, wc.heap.size = B := ⟨_, rfl⟩
    rw [hBd] at hBb hBB hBw hBw0 hd
    rw [hBd]
    clear hWd hbA hBd
    refine (p47_num12 hR hn hk1).mono ?_
    rintro e y0 ⟨D, k0, bad0, rfl, hv00, hv10, hk0, hR0, hK0, hN⟩
    have hS0 := Lib.hid (hS.out.step hN)
    clear hN hS hR hk1
    have hd := hd.keep hK0 hBb
    have hx := hx.keep hK0 hB0
    have hKp := hKp.trans hK0
    have cc := hd.c2
    have ff := hd.f2
    clear hK0
    go_wp2_with fail
    have hR := hR0.other (o := 2) hBb hBw0 (.int .i64 (D))
    have hd := hd.set2 (D)
    have hx := hx.other (o := 2) hBB (.int .i64 (D))
    have hKp := hKp.set_new (o := 2) hBw (.int .i64 (D))
    obtain ⟨X0, hX0⟩ : ∃ W, World.setCell y0 ⟨Bd, 2, none⟩ (.int .i64 (D)) = W := ⟨_, rfl⟩
    rw [hX0] at hR hd hx hKp
    (try rw [hX0])
    clear hX0 cc ff hR0
    have hS := hS0
    have hk1 := hk0
    clear hS0 hk0
    have hE1 := (runE_le (xs := xs) (kv := 16) (k := k0) (by rw [hR.sl.len]; exact hk1)).2
    rw [hR.sl.len] at hE1
    have hb3 := Nat.le_trans (runP_len xs 16 k0) (Nat.sub_le _ _)
    rw [hR.sl.len] at hb3
    have hrun := p47_run (kv := 16) hR hn hk1
    have hS9 := Lib.hid (hS.out.step (mon_in xs k0 bad0))
    obtain ⟨ds2, hds⟩ : ∃ ds, runP xs 16 k0 = ds := ⟨_, rfl⟩
    obtain ⟨E2, hE⟩ : ∃ E, runE xs 16 k0 = E := ⟨_, rfl⟩
    rw [hds, hE] at hrun hS9
    rw [hds] at hb3
    rw [hE] at hE1
    clear hds hE hS hk1 hR
    refine hrun.mono ?_
    rintro e y8 ⟨A2, c2, rfl, hs2, hR8, hK8⟩
    have hd := hd.keep hK8 hBb
    have hx := hx.keep hK8 hB0
    have hKp := hKp.trans hK8
    have hnr := nameV_rng monB ds2 (by decide) hs2.wf
    have hnm := p47_name (hs2.bel hR8.bel) (show ds2.length ≤ 4194304 by omega) monT (by decide) (hm.bel hR8.bel)
    obtain ⟨m0, hm0⟩ : ∃ m0, nameV monB ds2 = m0 := ⟨_, rfl⟩
    rw [hm0] at hS9 hnr hnm
    obtain ⟨hm1, hm2⟩ := hnr
    clear hm0 hs2 hK8 hrun
    go_wp2_with fail
    refine hnm.mono ?_
    rintro e y9 ⟨rfl, hb9⟩
    have hR9 := hR8.below hb9
    have hK9 := Keeps.of (b := b) hb9
    clear hnm hR8 hb9
    have hd := hd.keep hK9 hBb
    have hx := hx.keep hK9 hB0
    have hKp := hKp.trans hK9
    have cc := hd.c1
    have ff := hd.f1
    clear hK9
    go_wp2_with fail
    have hR := hR9.other (o := 1) hBb hBw0 (.int .i64 (m0 + 1))
    have hd := hd.set1 (m0 + 1)
    have hx := hx.other (o := 1) hBB (.int .i64 (m0 + 1))
    have hKp := hKp.set_new (o := 1) hBw (.int .i64 (m0 + 1))
    obtain ⟨X9, hX9⟩ : ∃ W, World.setCell y9 ⟨Bd, 1, none⟩ (.int .i64 (m0 + 1)) = W := ⟨_, rfl⟩
    rw [hX9] at hR hd hx hKp
    (try rw [hX9])
    clear hX9 cc ff hR9
    have hS := hS9
    have hk1 := hE1
    clear hS9 hE1
    refine (p47_num44 hR hn hk1).mono ?_
    rintro e y10 ⟨Y, k10, bad10, rfl, hv010, hv110, hk10, hR10, hK10, hN⟩
    have hS10 := Lib.hid (hS.out.step hN)
    clear hN hS hR hk1
    have hd := hd.keep hK10 hBb
    have hx := hx.keep hK10 hB0
    have hKp := hKp.trans hK10
    have cc := hd.c0
    have ff := hd.f0
    clear hK10
    go_wp2_with fail
    have hR := hR10.other (o := 0) hBb hBw0 (.int .i64 (Y))
    have hd := hd.set0 (Y)
    have hx := hx.other (o := 0) hBB (.int .i64 (Y))
    have hKp := hKp.set_new (o := 0) hBw (.int .i64 (Y))
    obtain ⟨X10, hX10⟩ : ∃ W, World.setCell y10 ⟨Bd, 0, none⟩ (.int .i64 (Y)) = W := ⟨_, rfl⟩
    rw [hX10] at hR hd hx hKp
    (try rw [hX10])
    clear hX10 cc ff hR10
    have hS := hS10
    have hk1 := hk10
    clear hS10 hk10
    refine (p47_num22 hR hn hk1).mono ?_
    rintro e y11 ⟨h, k11, bad11, rfl, hv011, hv111, hk11, hR11, hK11, hN⟩
    have hS11 := Lib.hid (hS.out.step hN)
    clear hN hS hR hk1
    have hd := hd.keep hK11 hBb
    have hx := hx.keep hK11 hB0
    have hKp := hKp.trans hK11
    have cc := hd.c3
    have ff := hd.f3
    clear hK11
    go_wp2_with fail
    have hR := hR11.other (o := 3) hBb hBw0 (.int .i64 (h))
    have hd := hd.set3 (h)
    have hx := hx.other (o := 3) hBB (.int .i64 (h))
    have hKp := hKp.set_new (o := 3) hBw (.int .i64 (h))
    obtain ⟨X11, hX11⟩ : ∃ W, World.setCell y11 ⟨Bd, 3, none⟩ (.int .i64 (h)) = W := ⟨_, rfl⟩
    rw [hX11] at hR hd hx hKp
    (try rw [hX11])
    clear hX11 cc ff hR11
    have hS := hS11
    have hk1 := hk11
    clear hS11 hk11
    have hmin := Lib.hid (fun v k'' bad'' (h : NumI (numS xs 2 2 (skipV xs k11 58).1) v k'' (bad11 || !(skipV xs k11 58).2) bad'') => min_in h)
    have hsk := p47_skip (y := 58) hR hn hk1
    have hk2 := skipV_le (xs := xs) (k := k11) 58 (by rw [hR.sl.len]; exact hk1)
    rw [hR.sl.len] at hk2
    obtain ⟨k12, hk2e⟩ : ∃ k2, (skipV xs k11 58).1 = k2 := ⟨_, rfl⟩
    obtain ⟨ok, hok⟩ : ∃ ok, (skipV xs k11 58).2 = ok := ⟨_, rfl⟩
    rw [hk2e, hok] at hsk hmin
    rw [hk2e] at hk2
    clear hk2e hok hR hk1
    refine hsk.mono ?_
    rintro e y12 ⟨rfl, hR12, hK12⟩
    have hd := hd.keep hK12 hBb
    have hx := hx.keep hK12 hB0
    have hKp := hKp.trans hK12
    clear hsk hK12
    go_wp2_with fail
    refine (p47_must hR12).mono ?_
    rintro e y13 ⟨rfl, hR, hK13⟩
    have hd := hd.keep hK13 hBb
    have hx := hx.keep hK13 hB0
    have hKp := hKp.trans hK13
    have hk1 := hk2
    clear hR12 hK13 hk2
    go_wp2_with fail
    refine (p47_num22 hR hn hk1).mono ?_
    rintro e y14 ⟨mi, k14, bad14, rfl, hv014, hv114, hk14, hR14, hK14, hN⟩
    have hS14 := Lib.hid (hS.out.step (hmin.out _ _ _ hN))
    clear hN hS hR hk1
    have hd := hd.keep hK14 hBb
    have hx := hx.keep hK14 hB0
    have hKp := hKp.trans hK14
    have cc := hd.c4
    have ff := hd.f4
    clear hK14
    go_wp2_with fail
    have hR := hR14.other (o := 4) hBb hBw0 (.int .i64 (mi))
    have hd := hd.set4 (mi)
    have hx := hx.other (o := 4) hBB (.int .i64 (mi))
    have hKp := hKp.set_new (o := 4) hBw (.int .i64 (mi))
    obtain ⟨X14, hX14⟩ : ∃ W, World.setCell y14 ⟨Bd, 4, none⟩ (.int .i64 (mi)) = W := ⟨_, rfl⟩
    rw [hX14] at hR hd hx hKp
    (try rw [hX14])
    clear hX14 cc ff hR14
    have hS := hS14
    have hk1 := hk14
    clear hS14 hk14
    clear hmin
    have hsk := p47_skip (y := 58) hR hn hk1
    have hk2 := skipV_le (xs := xs) (k := k14) 58 (by rw [hR.sl.len]; exact hk1)
    rw [hR.sl.len] at hk2
    have hsy := Lib.hid (fun (hs : (skipV xs k14 58).2 = true) v k' bad bad' (h : NumI (numS xs 2 2 (skipV xs k14 58).1) v k' bad bad') => sec_in hs h)
    have hsn := Lib.hid (fun (hs : (skipV xs k14 58).2 = false) bad => sec_no (bad := bad) hs)
    obtain ⟨k15, hk2e⟩ : ∃ k2, (skipV xs k14 58).1 = k2 := ⟨_, rfl⟩
    obtain ⟨ok2, hok⟩ : ∃ ok, (skipV xs k14 58).2 = ok := ⟨_, rfl⟩
    rw [hk2e, hok] at hsk hsy hsn
    rw [hk2e] at hk2
    clear hk2e hok hR hk1
    refine hsk.mono ?_
    rintro e y15 ⟨rfl, hR, hK15⟩
    have hd := hd.keep hK15 hBb
    have hx := hx.keep hK15 hB0
    have hKp := hKp.trans hK15
    have hk1 := hk2
    clear hsk hK15 hk2
    have HSG := Lib.hid (show dateS xs k = stepS (zoneS xs) (stepS (secS xs) (stepS (minS xs) (stepS (numS xs 2 2) (stepS (numS xs 4 4) (stepS (mthS xs) (stepS (numS xs 1 2) (stepS (tolS xs) (some ([], k))))))))) from rfl)
    obtain ⟨sg, hsg⟩ : ∃ s, (stepS (minS xs) (stepS (numS xs 2 2) (stepS (numS xs 4 4) (stepS (mthS xs) (stepS (numS xs 1 2) (stepS (tolS xs) (some ([], k)))))))) = s := ⟨_, rfl⟩
    rw [hsg] at hS HSG
    clear hsg
    go_upto_if 47 with fail
    go_cut [] from 48 (fun wd => ∃ (s : Int) (k2 : Nat) (bad : Bool), k2 ≤ n ∧ Rdr w0 wd b A n c xs k2 bad ∧ Keeps b w wd ∧ Bx wd w.heap.size 0 0 0 0 0 0 0 ∧ Bx wd Bd Y (m0 + 1) D h mi s 0 ∧ Hid (St (stepS (secS xs) sg) ([t] ++ [D] ++ [m0 + 1] ++ [Y] ++ [h] ++ [mi] ++ [s]) k2 bad))
    case first =>
      cases ok2 with
      | true =>
        have hmin := Lib.hid (hsy.out rfl)
        clear hsy hsn
        go_wp2_with fail
        refine (p47_num22 hR hn hk1).mono ?_
        rintro e y16 ⟨s, k16, bad16, rfl, hv016, hv116, hk16, hR16, hK16, hN⟩
        have hS16 := Lib.hid (hS.out.step (hmin.out _ _ _ _ hN))
        have hd := hd.keep hK16 hBb
        have hx := hx.keep hK16 hB0
        have hKp := hKp.trans hK16
        have cc := hd.c5
        have ff := hd.f5
        clear hN hS hR hk1 hmin hK16
        go_wp2_with fail
        have hR := hR16.other (o := 5) hBb hBw0 (.int .i64 s)
        have hd := hd.set5 s
        have hx := hx.other (o := 5) hBB (.int .i64 s)
        have hKp := hKp.set_new (o := 5) hBw (.int .i64 s)
        go_meet
        case rel => exact ⟨s, k16, bad16, hk16, hR, hKp, hx, hd, hS16.out⟩
      | false =>
        have hS16 := Lib.hid (hS.out.step (hsn.out rfl bad14))
        clear hsy hsn
        go_wp2_with fail
        go_meet
        case rel => exact ⟨0, k15, bad14, hk1, hR, hKp, hx, hd, hS16.out⟩
    case rest =>
      clear hS hR hk1 hKp hx hd hsy hsn
      obtain ⟨s, k2, badS, hk1, hR, hKp, hx, hd, hS⟩ := hcut
      go_wp2_with fail
      refine (p47_zone hR hn hk1).mono ?_
      rintro e y17 ⟨z, k17, bad17, rfl, hv017, hv117, hk17, hR17, hK17, hN⟩
      have hS17 := Lib.hid (show St (dateS xs k) [t, D, m0 + 1, Y, h, mi, s, z] k17 bad17 from by rw [HSG.out]; exact hS.out.step hN)
      clear hN hS hR hk1 HSG
      have hd := hd.keep hK17 hBb
      have hx := hx.keep hK17 hB0
      have hKp := hKp.trans hK17
      have cc := hd.c6
      have ff := hd.f6
      clear hK17
      go_wp2_with fail
      have hR := hR17.other (o := 6) hBb hBw0 (.int .i64 (z))
      have hd := hd.set6 (z)
      have hx := hx.other (o := 6) hBB (.int .i64 (z))
      have hKp := hKp.set_new (o := 6) hBw (.int .i64 (z))
      obtain ⟨X17, hX17⟩ : ∃ W, World.setCell y17 ⟨Bd, 6, none⟩ (.int .i64 (z)) = W := ⟨_, rfl⟩
      rw [hX17] at hR hd hx hKp
      (try rw [hX17])
      clear hX17 cc ff hR17
      have hS := hS17
      have hk1 := hk17
      clear hS17 hk17
      have hgap := fun W (hW : Below X17.heap.size X17 W) => p28_Gap (a := (k17 : Int)) (hR.now.bel hW) hn
      rw [withL_self hk1] at hgap
      obtain ⟨gp, hg⟩ : ∃ g, gapL xs k17 = g := ⟨_, rfl⟩
      rw [hg] at hgap
      have HG := Lib.hid hg
      clear hg
      have hga := hgap _ (Below.refl _ _).drew
      have hRa := hR.drew_
      have hda := hd.bel (Below.refl _ _).drew
      have hmay := fun W => p47_May (Y := Y) (M := m0 + 1) (D := D) (h := h) (mi := mi) (s := s) (z := z) (w := W)
      obtain ⟨ym, hym⟩ : ∃ y, mayL Y (m0 + 1) D h mi s z = y := ⟨_, rfl⟩
      rw [hym] at hmay
      have HM := Lib.hid hym
      clear hym hgap
      have HX := Lib.hid hx
      have hKd := hKp
      go_upto_region 18 with fail
      go_cut [] from 54 (fun we => ∃ (bad2 : Bool), Rdr w0 we b A n c xs k17 bad2 ∧ Keeps b w we ∧ Bx we w.heap.size 0 0 0 0 0 0 0 ∧ Bx we Bd Y (m0 + 1) D h mi s z ∧ Hid (bad2 = (bad17 || !(decide (gapL xs k17 = n) && mayL Y (m0 + 1) D h mi s z))))
      case first =>
        by_cases hgn : gp = n
        · have hb1 : ((gp : Int) == (n : Int)) = true := by simp; omega
          have HB := Lib.hid (show (bad17 || !ym) = (bad17 || !(decide (gapL xs k17 = n) && mayL Y (m0 + 1) D h mi s z)) by rw [HG.out, HM.out, decide_eq_true hgn]; rfl)
          go_region_held3 (fun w' => w'.cell? ⟨b, 0, none⟩ = some (.slice A n c) ∧ w'.cell? ⟨b, 1, none⟩ = some (.int .i64 k17) ∧ w'.cell? ⟨Bd, 0, none⟩ = some (.int .i64 Y) ∧ w'.cell? ⟨Bd, 1, none⟩ = some (.int .i64 (m0 + 1)) ∧ w'.cell? ⟨Bd, 2, none⟩ = some (.int .i64 D) ∧ w'.cell? ⟨Bd, 3, none⟩ = some (.int .i64 h) ∧ w'.cell? ⟨Bd, 4, none⟩ = some (.int .i64 mi) ∧ w'.cell? ⟨Bd, 5, none⟩ = some (.int .i64 s) ∧ w'.cell? ⟨Bd, 6, none⟩ = some (.int .i64 z))
            (first
          | exact ⟨hR3.c0, hR3.c1, hd3.c0, hd3.c1, hd3.c2, hd3.c3, hd3.c4, hd3.c5, hd3.c6⟩
          | exact ⟨hR2.c0, hR2.c1, hd2.c0, hd2.c1, hd2.c2, hd2.c3, hd2.c4, hd2.c5, hd2.c6⟩
          | exact ⟨hR1.c0, hR1.c1, hd1.c0, hd1.c1, hd1.c2, hd1.c3, hd1.c4, hd1.c5, hd1.c6⟩
          | exact ⟨hRa.c0, hRa.c1, hda.c0, hda.c1, hda.c2, hda.c3, hda.c4, hda.c5, hda.c6⟩)
            (first
              | (go_at_call 31; (with_reducible refine hga.mono ?_); rintro e u1 ⟨rfl, hb1⟩; have hR1 := hRa.below hb1; have hd1 := hda.bel hb1; have hK1 := (Keeps.of (b := b) (Below.refl X17.heap.size X17).drew).then_ hb1)
              | (go_at_call 19; (with_reducible refine (hmay _).mono ?_); rintro e u2 ⟨rfl, hb2⟩; have hR2 := hR1.below hb2; have hd2 := hd1.bel hb2; have hK2 := hK1.then_ hb2)
              | (go_at_call 42; (with_reducible refine (p47_must hR2).mono ?_); rintro e u3 ⟨rfl, hR3, hK3⟩; have hd3 := hd2.keep hK3 hBb; have hK3 := hK2.trans hK3))
          have hx3 := HX.out.keep hK3 hB0
          have hKp3 := hKd.trans hK3
          clear hRa hda hga hmay hR1 hd1 hK1 hx hd hKp hK3
          go_wp2_with fail
          go_meet
          case rel => exact ⟨_, hR3, hKp3, hx3, hd3, HB.out⟩
        · have hb1 : ((gp : Int) == (n : Int)) = false := by simp; omega
          have HB := Lib.hid (show (bad17 || !false) = (bad17 || !(decide (gapL xs k17 = n) && mayL Y (m0 + 1) D h mi s z)) by rw [HG.out, HM.out, decide_eq_false hgn]; rfl)
          refine wp_region_held_drew (S := (fun w' => w'.cell? ⟨b, 0, none⟩ = some (.slice A n c) ∧ w'.cell? ⟨b, 1, none⟩ = some (.int .i64 k17) ∧ w'.cell? ⟨Bd, 0, none⟩ = some (.int .i64 Y) ∧ w'.cell? ⟨Bd, 1, none⟩ = some (.int .i64 (m0 + 1)) ∧ w'.cell? ⟨Bd, 2, none⟩ = some (.int .i64 D) ∧ w'.cell? ⟨Bd, 3, none⟩ = some (.int .i64 h) ∧ w'.cell? ⟨Bd, 4, none⟩ = some (.int .i64 mi) ∧ w'.cell? ⟨Bd, 5, none⟩ = some (.int .i64 s) ∧ w'.cell? ⟨Bd, 6, none⟩ = some (.int .i64 z))) (by kernel_rfl) ⟨hRa.c0, hRa.c1, hda.c0, hda.c1, hda.c2, hda.c3, hda.c4, hda.c5, hda.c6⟩ (fun hHeld => ?_)
          (refine wpAnyH_take (i := 0) (v := ?_) rfl (by kernel_rfl) (by kernel_rfl) (by kernel_rfl) (fun _ _ _ h => h) (Or.inl ⟨by rfl, ?_⟩) (by assumption) ?_; rotate_left; (· (intro w hSw; (try dsimp only at hSw); go_simp; (try with_reducible rfl))); (try simp only [Act.put, List.setIfInBounds_toArray])); (refine wpAnyH_take (i := 1) (v := ?_) rfl (by kernel_rfl) (by kernel_rfl) (by kernel_rfl) (fun _ _ _ h => h) (Or.inl ⟨by rfl, ?_⟩) (by assumption) ?_; rotate_left; (· (intro w hSw; (try dsimp only at hSw); go_simp; (try with_reducible rfl))); (try simp only [Act.put])); (refine wpAnyH_take (i := 2) (v := ?_) rfl (by kernel_rfl) (by kernel_rfl) (by kernel_rfl) (fun _ _ _ h => h) (Or.inl ⟨by rfl, ?_⟩) (by assumption) ?_; rotate_left; (· (intro w hSw; (try dsimp only at hSw); go_simp; (try with_reducible rfl))); (try simp only [Act.put])); (refine wpAnyH_take (i := 3) (v := ?_) rfl (by kernel_rfl) (by kernel_rfl) (by kernel_rfl) (fun _ _ _ h => h) (Or.inl ⟨by rfl, ?_⟩) (by assumption) ?_; rotate_left; (· (intro w hSw; (try dsimp only at hSw); go_simp; (try with_reducible rfl))); (try simp only [Act.put])); (refine wpAnyH_take (i := 4) (v := ?_) rfl (by kernel_rfl) (by kernel_rfl) (by kernel_rfl) (fun _ _ _ h => h) (Or.inl ⟨by rfl, ?_⟩) (by assumption) ?_; rotate_left; (· (intro w hSw; (try dsimp only at hSw); go_simp; (try with_reducible rfl))); (try simp only [Act.put])); (refine wpAnyH_take (i := 5) (v := ?_) rfl (by kernel_rfl) (by kernel_rfl) (by kernel_rfl) (fun _ _ _ h => h) (Or.inl ⟨by rfl, ?_⟩) (by assumption) ?_; rotate_left; (· (intro w hSw; (try dsimp only at hSw); go_simp; (try with_reducible rfl))); (try simp only [Act.put])); (refine wpAnyH_take (i := 6) (v := ?_) rfl (by kernel_rfl) (by kernel_rfl) (by kernel_rfl) (fun _ _ _ h => h) (Or.inl ⟨by rfl, ?_⟩) (by assumption) ?_; rotate_left; (· (intro w hSw; (try dsimp only at hSw); go_simp; (try with_reducible rfl))); (try simp only [Act.put])); (refine wpAnyH_take (i := 7) (v := ?_) rfl (by kernel_rfl) (by kernel_rfl) (by kernel_rfl) (fun _ _ _ h => h) (Or.inl ⟨by rfl, ?_⟩) (by assumption) ?_; rotate_left; (· (intro w hSw; (try dsimp only at hSw); go_simp; (try with_reducible rfl))); (try simp only [Act.put])); (refine wpAnyH_take (i := 8) (v := ?_) rfl (by kernel_rfl) (by kernel_rfl) (by kernel_rfl) (fun _ _ _ h => h) (Or.inl ⟨by rfl, ?_⟩) (by assumption) ?_; rotate_left; (· (intro w hSw; (try dsimp only at hSw); go_simp; (try with_reducible rfl))); (try simp only [Act.put])); (refine wpAnyH_take (i := 10) (v := ?_) rfl (by kernel_rfl) (by kernel_rfl) (by kernel_rfl) (fun _ _ _ h => h) (Or.inl ⟨by rfl, ?_⟩) (by assumption) ?_; rotate_left; (· (intro w hSw; (try dsimp only at hSw); go_simp; (try with_reducible rfl))); (try simp only [Act.put])); (refine wpAnyH_take (i := 11) (v := ?_) rfl (by kernel_rfl) (by kernel_rfl) (by kernel_rfl) (fun _ _ _ h => h) (Or.inl ⟨by rfl, ?_⟩) (by assumption) ?_; rotate_left; (· (intro w hSw; (try dsimp only at hSw); go_simp; (try with_reducible rfl))); (try simp only [Act.put])); (refine wpAnyH_take (i := 12) (v := ?_) rfl (by kernel_rfl) (by kernel_rfl) (by kernel_rfl) (fun _ _ _ h => h) (Or.inl ⟨by rfl, ?_⟩) (by assumption) ?_; rotate_left; (· (intro w hSw; (try dsimp only at hSw); go_simp; (try with_reducible rfl))); (try simp only [Act.put])); (refine wpAnyH_take (i := 13) (v := ?_) rfl (by kernel_rfl) (by kernel_rfl) (by kernel_rfl) (fun _ _ _ h => h) (Or.inl ⟨by rfl, ?_⟩) (by assumption) ?_; rotate_left; (· (intro w hSw; (try dsimp only at hSw); go_simp; (try with_reducible rfl))); (try simp only [Act.put])); (refine wpAnyH_take (i := 14) (v := ?_) rfl (by kernel_rfl) (by kernel_rfl) (by kernel_rfl) (fun _ _ _ h => h) (Or.inl ⟨by rfl, ?_⟩) (by assumption) ?_; rotate_left; (· (intro w hSw; (try dsimp only at hSw); go_simp; (try with_reducible rfl))); (try simp only [Act.put]))
          (refine wpAnyH_ready (rs := [9]) (by kernel_rfl) (by simp) (AllReadyH.cons rfl (fun K hK => ?_) AllReadyH.nil); go_simp; (go_at_call 31; (with_reducible refine hga.mono ?_); rintro e u1 ⟨rfl, hb1⟩; have hR1 := hRa.below hb1; have hd1 := hda.bel hb1; have hK1 := (Keeps.of (b := b) (Below.refl X17.heap.size X17).drew).then_ hb1); (try go_simp); refine hK.out _ _ (⟨hR1.c0, hR1.c1, hd1.c0, hd1.c1, hd1.c2, hd1.c3, hd1.c4, hd1.c5, hd1.c6⟩) (fun hHeld => ?_); clear hK K; (try simp only [Act.put, List.setIfInBounds_toArray, List.set_cons_zero, List.set_cons_succ]))
          (refine wpAnyH_take (i := 15) (v := ?_) rfl (by kernel_rfl) (by kernel_rfl) (by kernel_rfl) (fun _ _ _ h => h) (Or.inl ⟨by rfl, ?_⟩) (by assumption) ?_; rotate_left; (· (intro w hSw; (try dsimp only at hSw); go_simp; (try with_reducible rfl))); (try simp only [Act.put, List.setIfInBounds_toArray])); (refine wpAnyH_take (i := 16) (v := ?_) rfl (by kernel_rfl) (by kernel_rfl) (by kernel_rfl) (fun _ _ _ h => h) (Or.inl ⟨by rfl, ?_⟩) (by assumption) ?_; rotate_left; (· (intro w hSw; (try dsimp only at hSw); go_simp; (try with_reducible rfl))); (try simp only [Act.put]))
          (refine wpAnyH_take (i := 17) (v := undef) rfl (by kernel_rfl) (by kernel_rfl) (by kernel_rfl) (fun _ _ _ h => h) (Or.inr ⟨by rfl, rfl⟩) (by assumption) ?_; (try simp only [Act.put])); (refine wpAnyH_take (i := 18) (v := undef) rfl (by kernel_rfl) (by kernel_rfl) (by kernel_rfl) (fun _ _ _ h => h) (Or.inr ⟨by rfl, rfl⟩) (by assumption) ?_; (try simp only [Act.put]))
          (refine wpAnyH_take (i := 19) (v := ?_) rfl (by kernel_rfl) (by kernel_rfl) (by kernel_rfl) (fun _ _ _ h => h) (Or.inl ⟨by rfl, ?_⟩) (by assumption) ?_; rotate_left; (· (intro w hSw; (try dsimp only at hSw); go_simp; (try with_reducible rfl))); (try simp only [Act.put]))
          (refine wpAnyH_ready (rs := [20]) (by kernel_rfl) (by simp) (AllReadyH.cons rfl (fun K hK => ?_) AllReadyH.nil); go_simp; (go_at_call 42; (with_reducible refine (p47_must hR1).mono ?_); rintro e u3 ⟨rfl, hR3, hK3⟩; have hd3 := hd1.keep hK3 hBb; have hK3 := hK1.trans hK3); (try go_simp); refine hK.out _ _ (⟨hR3.c0, hR3.c1, hd3.c0, hd3.c1, hd3.c2, hd3.c3, hd3.c4, hd3.c5, hd3.c6⟩) (fun hHeld => ?_); clear hK K; (try simp only [Act.put, List.setIfInBounds_toArray, List.set_cons_zero, List.set_cons_succ]))
          refine wpAnyH_done (by kernel_rfl) ?_ _
          have hx3 := HX.out.keep hK3 hB0
          have hKp3 := hKd.trans hK3
          clear hRa hda hga hmay hR1 hd1 hK1 hx hd hKp hK3
          go_wp2_with fail
          go_meet
          case rel => exact ⟨_, hR3, hKp3, hx3, hd3, HB.out⟩
      case rest =>
        clear hR hx hd hKp HX hKd hda hRa hga hmay
        obtain ⟨bad2, hR3, hKp3, hx3, hd3, HB⟩ := hcut
        have c0 := hd3.c0
        have c1 := hd3.c1
        have c2 := hd3.c2
        have c3 := hd3.c3
        have c4 := hd3.c4
        have c5 := hd3.c5
        have c6 := hd3.c6
        have x0 := hx3.c0
        have x1 := hx3.c1
        have x2 := hx3.c2
        have x3 := hx3.c3
        have x4 := hx3.c4
        have x5 := hx3.c5
        have x6 := hx3.c6
        have f0 := hx3.f0
        have f1 := hx3.f1
        have f2 := hx3.f2
        have f3 := hx3.f3
        have f4 := hx3.f4
        have f5 := hx3.f5
        have f6 := hx3.f6
        go_wp2_with fail
        have hF := ((((((hx3.set0 Y).set1 (m0 + 1)).set2 D).set3 h).set4 mi).set5 s).set6 z
        have hRF := ((((((hR3.other (o := 0) hB0 hBw1 (.int .i64 Y)).other (o := 1) hB0 hBw1 (.int .i64 (m0 + 1))).other (o := 2) hB0 hBw1 (.int .i64 D)).other (o := 3) hB0 hBw1 (.int .i64 h)).other (o := 4) hB0 hBw1 (.int .i64 mi)).other (o := 5) hB0 hBw1 (.int .i64 s)).other (o := 6) hB0 hBw1 (.int .i64 z)
        have hKF := ((((((hKp3.set_new (o := 0) (Nat.le_refl _) (.int .i64 Y)).set_new (o := 1) (Nat.le_refl _) (.int .i64 (m0 + 1))).set_new (o := 2) (Nat.le_refl _) (.int .i64 D)).set_new (o := 3) (Nat.le_refl _) (.int .i64 h)).set_new (o := 4) (Nat.le_refl _) (.int .i64 mi)).set_new (o := 5) (Nat.le_refl _) (.int .i64 s)).set_new (o := 6) (Nat.le_refl _) (.int .i64 z)
        generalize World.setCell _ _ (.int .i64 z) = WF at hF hRF hKF ⊢
        clear c0 c1 c2 c3 c4 c5 c6 x0 x1 x2 x3 x4 x5 x6 f0 f1 f2 f3 f4 f5 f6
        have y0 := hF.c0
        have y1 := hF.c1
        have y2 := hF.c2
        have y3 := hF.c3
        have y4 := hF.c4
        have y5 := hF.c5
        have y6 := hF.c6
        exact bodyPost_ret (v := .tuple #[.agg #[.int .i64 Y, .int .i64 (m0 + 1), .int .i64 D, .int .i64 h, .int .i64 mi, .int .i64 s, .int .i64 z], .int .i64 t]) (by simp [results, Try.results32, go_sem, y0, y1, y2, y3, y4, y5, y6]) rfl ⟨Y, m0 + 1, D, h, mi, s, z, t, k17, k17, bad17, bad2, rfl, hRF, hKF, hS.out, HB.out⟩
end Go.Proofs.Ytjiofcnlibkhkaa
