/- Layer 47 (date): the reference's hours and zone. Condition: the box is the call's own, the octets lay there before it, at most 2^22. -/
import Derived.Test.Ytjiofcnlibkhkaa47zon
namespace Go.Proofs.Ytjiofcnlibkhkaa
open Go.RowKit

set_option maxRecDepth 100000 in
set_option maxHeartbeats 1000000 in
theorem r47_hours {w0 w : World} {b : Nat} {A : Option Addr} {n c : Nat} {xs : List Int} {k : Nat} {bad : Bool} (h : Rdr w0 w b A n c xs k bad) (hn : n ≤ 4194304) (hk : k ≤ n) :
    Calls Try.prog 53 #[.pointer (some ⟨b, 0, none⟩)] w (RetN (hoursS xs 1 k) 0 6039 w0 b A n c xs bad w) := by
  have q0 := fun X : ExtW w.drew => (X.h.cell (p := ⟨b, 0, none⟩) h.lt).trans h.c0
  have q1 := fun X : ExtW w.drew => (X.h.cell (p := ⟨b, 1, none⟩) h.lt).trans h.c1
  have hcl := fun X : ExtW w.drew => r28_Gap (a := (k : Int)) (h.now.drew.bel X.h) hn
  rw [withL_self hk] at hcl
  obtain ⟨g, hg⟩ : ∃ g, gapL xs k = g := ⟨_, rfl⟩
  rw [hg] at hcl
  have HG := Lib.hid hg
  clear hg
  obtain ⟨bad1, hbad1⟩ : ∃ bad1, bad1 = (bad || !(decide ((g : Int) = (k : Int)))) := ⟨_, rfl⟩
  have HB := Lib.hid hbad1
  clear hbad1
  have hnum := fun w1 (hR : Rdr w0 w1 b A n c xs k bad1) => r47_num44 hR hn hk
  by_cases e1 : g = k
  · have e2 : ((g : Int) == (k : Int)) = true := by simp; omega
    have e3 : ((g : Int) != (k : Int)) = false := by simp; omega
    obtain rfl : bad1 = bad := by rw [HB.out, decide_eq_true (by omega)]; simp
    clear e1
    go_enter Try.func53, Try.ntmps53
    go_wp2_with fail
    (refine wp_region_any (by kernel_rfl) ?_; (try (change wpAny _ _ _ _ _ _ _ (World.drew _))); refine wpAny_lex 0 _ rfl (by kernel_rfl) (by kernel_rfl) ?_; (try simp only []); (repeat (go_big_quiet_step ((rename_i X; go_at_call 33; exact Calls.ext_same X (hcl X))))); refine wpQuiet_nil ?_; rintro _ ⟨X, rfl⟩)
    have hX := h.below ((Below.refl _ _).drew.trans X.h)
    have hKp := Keeps.of (b := b) ((Below.refl w.heap.size w).drew.trans X.h)
    clear q0 q1 hcl h e2 e3
    go_wp2_with fail
    refine (hnum _ hX).mono ?_
    rintro e w4 ⟨v, k2, bad2, rfl, hv0, hv1, hk2, hR4, hK4, hN4⟩
    have HN4 := Lib.hid hN4
    clear hN4 hX hnum
    have c2 := hR4.c2
    have f2 := hR4.f2
    have hM := hR4.mark (bad' := bad2 || !decide (v % 100 < 60))
    cases bad2 with
    | true =>
      go_wp2_with fail
      go_ret
      exact ⟨_, k2, _, ret_int (show _ = 1 * (v / 100 * 60 + v % 100) by omega), by omega, by omega, hk2, hM, (hKp.trans hK4).set _, hours_in (by rw [HG.out]; exact HB.out) HN4.out rfl⟩
    | false =>
      have ht : (v % 100 < 60) ∨ ¬ (v % 100 < 60) := by omega
      rcases ht with ht | ht
      · rw [decide_eq_true ht] at hM
        have hq : decide (59 < v % 100) = false := decide_eq_false (by omega)
        have HT := Lib.hid (decide_eq_true ht)
        clear ht
        go_wp2_with fail
        go_ret
        exact ⟨_, k2, _, ret_int (show _ = 1 * (v / 100 * 60 + v % 100) by omega), by omega, by omega, hk2, hM, (hKp.trans hK4).set _, hours_in (by rw [HG.out]; exact HB.out) HN4.out (by rw [HT.out])⟩
      · rw [decide_eq_false ht] at hM
        have hq : decide (59 < v % 100) = true := decide_eq_true (by omega)
        have HT := Lib.hid (decide_eq_false ht)
        clear ht
        go_wp2_with fail
        go_ret
        exact ⟨_, k2, _, ret_int (show _ = 1 * (v / 100 * 60 + v % 100) by omega), by omega, by omega, hk2, hM, (hKp.trans hK4).set _, hours_in (by rw [HG.out]; exact HB.out) HN4.out (by rw [HT.out])⟩
  · have e2 : ((g : Int) == (k : Int)) = false := by simp; omega
    have e3 : ((g : Int) != (k : Int)) = true := by simp; omega
    obtain rfl : bad1 = true := by rw [HB.out, decide_eq_false (by omega)]; simp
    clear e1
    go_enter Try.func53, Try.ntmps53
    go_wp2_with fail
    (refine wp_region_any (by kernel_rfl) ?_; (try (change wpAny _ _ _ _ _ _ _ (World.drew _))); refine wpAny_lex 0 _ rfl (by kernel_rfl) (by kernel_rfl) ?_; (try simp only []); (repeat (go_big_quiet_step ((rename_i X; go_at_call 33; exact Calls.ext_same X (hcl X))))); refine wpQuiet_nil ?_; rintro _ ⟨X, rfl⟩)
    have hX := h.below ((Below.refl _ _).drew.trans X.h)
    have hKp := (Keeps.of (b := b) ((Below.refl w.heap.size w).drew.trans X.h)).set (b := b) (o := 2) (.bool true)
    have hM1 := hX.mark (bad' := true)
    have c2 := hX.c2
    have f2 := hX.f2
    clear q0 q1 hcl h e2 e3
    go_wp2_with fail
    refine (hnum _ hM1).mono ?_
    rintro e w4 ⟨v, k2, bad2, rfl, hv0, hv1, hk2, hR4, hK4, hN4⟩
    obtain rfl : bad2 = true := hN4.1 rfl
    have HN4 := Lib.hid hN4
    clear hN4 hX hnum c2 f2 hM1
    have c2 := hR4.c2
    have f2 := hR4.f2
    have hM := hR4.mark (bad' := true)
    go_wp2_with fail
    go_ret
    exact ⟨_, k2, _, ret_int (show _ = 1 * (v / 100 * 60 + v % 100) by omega), by omega, by omega, hk2, hM, (hKp.trans hK4).set _, hours_in (by rw [HG.out]; exact HB.out) HN4.out rfl⟩
theorem hours_neg (xs : List Int) (k : Nat) : hoursS xs (-1) k = (hoursS xs 1 k).map fun p => (-p.1, p.2) := by
  unfold hoursS
  split
  · cases numS xs 4 4 k with
    | none => rfl
    | some q =>
      obtain ⟨m, a⟩ := q
      simp only
      split
      · simp
      · rfl
  · rfl
theorem NumI.neg {o : Option (Int × Nat)} {v : Int} {k' : Nat} {bad bad' : Bool} (h : NumI o v k' bad bad') : NumI (o.map fun p => (-p.1, p.2)) (-v) k' bad bad' := by
  unfold NumI at *
  refine ⟨h.1, fun hb => ⟨fun hn => (h.2 hb).1 (by cases o with | none => rfl | some p => cases hn), fun p hp => ?_⟩⟩
  cases o with
  | none => cases hp
  | some q =>
    have := (h.2 hb).2 q rfl
    simp only [Option.map_some, Option.some.injEq] at hp
    subst hp
    exact ⟨this.1, by rw [this.2.1], this.2.2⟩
set_option maxRecDepth 100000 in
set_option maxHeartbeats 1000000 in
theorem r47_zone {w0 w : World} {b : Nat} {A : Option Addr} {n c : Nat} {xs : List Int} {k : Nat} {bad : Bool} (h : Rdr w0 w b A n c xs k bad) (hn : n ≤ 4194304) (hk : k ≤ n) :
    Calls Try.prog 38 #[.pointer (some ⟨b, 0, none⟩)] w (RetN (zoneS xs k) (-6039) 6039 w0 b A n c xs bad w) := by
  have hk1 := skipV_le (xs := xs) (k := k) 43 (by rw [h.sl.len]; exact hk)
  have hk2 := skipV_le (xs := xs) (k := k) 45 (by rw [h.sl.len]; exact hk)
  rw [h.sl.len] at hk1 hk2
  have hno := fun hh => skipV_no (xs := xs) (k := k) (y := 43) hh
  have hc1 := r47_skip (y := 43) h hn hk
  cases hs1 : (skipV xs k 43).2 with
  | true =>
    have HZ := Lib.hid (zone_p hs1)
    rw [hs1] at hc1
    obtain ⟨k1, hk1e⟩ : ∃ k1, (skipV xs k 43).1 = k1 := ⟨_, rfl⟩
    rw [hk1e] at hc1 HZ hk1
    clear hk1e hs1 hno hk2
    go_enter Try.func38, Try.ntmps38
    go_wp2_with fail
    refine hc1.mono ?_
    rintro e w1 ⟨rfl, hR, hKp⟩
    go_wp2_with fail
    refine (r47_hours hR hn hk1).mono ?_
    rintro e w4 ⟨v, k2, bad2, rfl, hv0, hv1, hk2, hR4, hK4, hN4⟩
    have HN4 := Lib.hid hN4
    clear hN4
    go_wp2_with fail
    go_ret
    exact ⟨_, k2, _, rfl, by omega, by omega, hk2, hR4, hKp.trans hK4, by rw [HZ.out]; exact HN4.out⟩
  | false =>
    have hk0 := hno hs1
    rw [hs1, hk0] at hc1
    cases hs2 : (skipV xs k 45).2 with
    | true =>
      have HZ := Lib.hid (zone_m hs1 hs2)
      have hc2 := fun w1 (hR : Rdr w0 w1 b A n c xs k bad) => r47_skip (y := 45) hR hn hk
      rw [hs2] at hc2
      obtain ⟨k1, hk1e⟩ : ∃ k1, (skipV xs k 45).1 = k1 := ⟨_, rfl⟩
      rw [hk1e] at hc2 HZ hk2
      clear hk1e hs1 hs2 hno hk0
      go_enter Try.func38, Try.ntmps38
      go_wp2_with fail
      refine hc1.mono ?_
      rintro e w9 ⟨rfl, hR9, hKp9⟩
      go_wp2_with fail
      refine (hc2 _ hR9).mono ?_
      rintro e w1 ⟨rfl, hR, hKp1⟩
      go_wp2_with fail
      refine (r47_hours hR hn hk2).mono ?_
      rintro e w4 ⟨v, k2, bad2, rfl, hv0, hv1, hk2, hR4, hK4, hN4⟩
      have HN4 := Lib.hid hN4
      clear hN4
      go_wp2_with fail
      go_ret
      exact ⟨_, k2, _, rfl, by omega, by omega, hk2, hR4, (hKp9.trans hKp1).trans hK4, by rw [HZ.out, hours_neg]; exact HN4.out.neg⟩
    | false =>
      have hc2 := fun w1 (hR : Rdr w0 w1 b A n c xs k bad) => r47_skip (y := 45) hR hn hk
      rw [hs2, skipV_no hs2] at hc2
      have HZ := Lib.hid (zone_w hs1 hs2)
      have hkE := (runE_le (xs := xs) (kv := 16) (k := k) (by rw [h.sl.len]; exact hk)).2
      rw [h.sl.len] at hkE
      have hL := Nat.le_trans (runP_len xs 16 k) (Nat.sub_le _ _)
      rw [h.sl.len] at hL
      have hwr : ∀ x ∈ runP xs 16 k, (Lit.int .u8 x).wf = true := fun x hx => h.sl.wf x (List.mem_of_mem_drop ((List.takeWhile_sublist _).subset hx))
      have hrun := fun w1 (hR : Rdr w0 w1 b A n c xs k bad) => r47_run (kv := 16) hR hn hk
      obtain ⟨ds, hds⟩ : ∃ ds, runP xs 16 k = ds := ⟨_, rfl⟩
      obtain ⟨E, hE⟩ : ∃ E, runE xs 16 k = E := ⟨_, rfl⟩
      rw [hds, hE] at hrun
      rw [hds] at hL hwr
      rw [hE] at hkE
      have HZ2 := Lib.hid (show zoneS xs k = if gmtB ds then some (0, E) else none by rw [HZ.out, hds, hE])
      have g1 := gmt_beq (fld_wf hwr)
      have g2 := ut_beq (fld_wf hwr)
      clear hds hE HZ hs1 hs2 hno hk0 hwr hk1 hk2
      go_enter Try.func38, Try.ntmps38
      go_wp2_with fail
      refine hc1.mono ?_
      rintro e w9 ⟨rfl, hR9, hKp9⟩
      go_wp2_with fail
      refine (hc2 _ hR9).mono ?_
      rintro e w1 ⟨rfl, hR, hKp1⟩
      go_wp2_with fail
      refine (hrun _ hR).mono ?_
      rintro e w2 ⟨A2, c2, rfl, hsl2, hR2, hKp2⟩
      have hKp := (hKp9.trans hKp1).trans hKp2
      have hf := r01_Fold (hsl2.bel hR2.bel) (show ds.length ≤ 1073741824 by omega)
      clear hc1 hc2 hrun hR9 hKp9 hR hKp1 hKp2 hsl2 h
      go_wp2_with fail
      refine hf.mono ?_
      rintro e w3 ⟨v, rfl, ho, hb3⟩
      obtain ⟨A1, n1, c1, rfl, hs1⟩ := ho.sl
      have hR3 := hR2.below hb3
      have hcv := hs1.str (P := Try.prog) 30 5 9 Try.underlying30 Try.underlying5 Try.underlying9
      obtain ⟨s, hsS⟩ : ∃ s, strOfNums (fldL ds) = s := ⟨_, rfl⟩
      rw [hsS] at hcv g1 g2
      have hK3 := hKp.trans (Keeps.of (b := b) hb3)
      clear hf hR2 hs1 ho hb3 hsS hKp
      have HG := Lib.hid (show gmtB ds = (decide (fldL ds = [103, 109, 116]) || decide (fldL ds = [117, 116])) from rfl)
      have cc2 := hR3.c2
      have ff2 := hR3.f2
      have hM := hR3.mark (bad' := bad || !gmtB ds)
      cases e1 : decide (fldL ds = [103, 109, 116]) <;> cases e2 : decide (fldL ds = [117, 116]) <;> rw [e1] at g1 HG <;> rw [e2] at g2 HG <;> rw [HG.out] at hM <;> clear e1 e2 <;> cases bad
      all_goals
        go_wp2_with fail
        go_ret
        exact ⟨0, E, _, rfl, by omega, by omega, hkE, hM, hK3.set _, by rw [HZ2.out, HG.out]; exact zone_end _ _ _⟩
end Go.Proofs.Ytjiofcnlibkhkaa
