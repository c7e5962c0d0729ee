/- Layer 47 (date): the program's zone. Condition: the box is the call's own, the octets lay there before it, at most 2^22. -/
import Derived.Test.Ytjiofcnlibkhkaa47numr
import Derived.IntWalk
import Derived.Test.Ytjiofcnlibkhkaa01F
import Derived.Deep.RegionHeld3
namespace Go.Proofs.Ytjiofcnlibkhkaa
open Go.RowKit

def gmtB (xs : List Int) : Bool := decide (fldL xs = [103, 109, 116]) || decide (fldL xs = [117, 116])
def zoneS (xs : List Int) (k : Nat) : Option (Int × Nat) :=
  if (skipV xs k 43).2 then hoursS xs 1 (skipV xs k 43).1
  else if (skipV xs k 45).2 then hoursS xs (-1) (skipV xs k 45).1
  else if gmtB (runP xs 16 k) then some (0, runE xs 16 k) else none
theorem hours_in {xs : List Int} {k k2 : Nat} {v sg : Int} {bad bad1 bad2 bad3 : Bool} (h1 : bad1 = (bad || !(decide ((gapL xs k : Int) = (k : Int))))) (h : NumI (numS xs 4 4 k) v k2 bad1 bad2) (h3 : bad3 = (bad2 || !(decide (v % 100 < 60)))) :
    NumI (hoursS xs sg k) (sg * (v / 100 * 60 + v % 100)) k2 bad bad3 := by
  subst h1; subst h3
  unfold NumI at *
  obtain ⟨ha, hb⟩ := h
  refine ⟨fun h => ?_, fun h => ?_⟩
  · rw [ha (by rw [h]; rfl)]; rfl
  · subst h
    unfold hoursS
    by_cases hg : gapL xs k = k
    · rw [if_pos hg]
      have hb1 := hb (by rw [decide_eq_true (by omega)]; rfl)
      cases hn : numS xs 4 4 k with
      | none => simp only; exact ⟨fun _ => by rw [hb1.1 hn]; rfl, fun p hp => by cases hp⟩
      | some q =>
        obtain ⟨e1, e2, e3⟩ := hb1.2 q hn
        obtain ⟨m, a⟩ := q
        simp only at e2 e3 ⊢
        subst e2; subst e3; subst e1
        by_cases hv : v % 100 < 60
        · rw [if_pos hv, decide_eq_true hv]
          exact ⟨fun h => (by cases h), fun p hp => by injection hp with hp; subst hp; exact ⟨rfl, rfl, rfl⟩⟩
        · rw [if_neg hv, decide_eq_false hv]
          exact ⟨fun _ => rfl, fun p hp => by cases hp⟩
    · rw [if_neg hg]
      refine ⟨fun _ => ?_, fun p hp => by cases hp⟩
      rw [ha (by rw [decide_eq_false (by omega)]; rfl)]; rfl
theorem zone_p {xs : List Int} {k : Nat} (h : (skipV xs k 43).2 = true) : zoneS xs k = hoursS xs 1 (skipV xs k 43).1 := by unfold zoneS; rw [if_pos h]
theorem zone_m {xs : List Int} {k : Nat} (h : (skipV xs k 43).2 = false) (h2 : (skipV xs k 45).2 = true) : zoneS xs k = hoursS xs (-1) (skipV xs k 45).1 := by unfold zoneS; rw [if_neg (by rw [h]; decide), if_pos h2]
theorem zone_w {xs : List Int} {k : Nat} (h : (skipV xs k 43).2 = false) (h2 : (skipV xs k 45).2 = false) : zoneS xs k = if gmtB (runP xs 16 k) then some (0, runE xs 16 k) else none := by unfold zoneS; rw [if_neg (by rw [h]; decide), if_neg (by rw [h2]; decide)]
theorem skipV_no {xs : List Int} {k : Nat} {y : Int} (h : (skipV xs k y).2 = false) : (skipV xs k y).1 = k := by
  revert h
  unfold skipV; split <;> simp
theorem zone_end (t : Bool) (E : Nat) (bad : Bool) : NumI (if t then some (0, E) else none) 0 E bad (bad || !t) := by
  unfold NumI
  cases t <;> cases bad <;> simp
theorem fld_wf {xs : List Int} (h : ∀ x ∈ xs, (Lit.int .u8 x).wf = true) : ∀ x ∈ fldL xs, (Lit.int .u8 x).wf = true := fun x hx => by
  obtain ⟨y, hy, rfl⟩ := List.mem_map.1 hx
  exact lowL_wf (h y hy)
theorem gmt_beq {x : List Int} (hx : ∀ y ∈ x, (Lit.int .u8 y).wf = true) : ((strOfNums x).toList == [103, 109, 116]) = decide (x = [103, 109, 116]) := by
  have e2 : ([103, 109, 116] : List UInt8) = (strOfNums [103, 109, 116]).toList := by rw [Lib.strOfNums_toList]; rfl
  rw [e2, str_beq hx (by decide)]; rfl
theorem ut_beq {x : List Int} (hx : ∀ y ∈ x, (Lit.int .u8 y).wf = true) : ((strOfNums x).toList == [117, 116]) = decide (x = [117, 116]) := by
  have e2 : ([117, 116] : List UInt8) = (strOfNums [117, 116]).toList := by rw [Lib.strOfNums_toList]; rfl
  rw [e2, str_beq hx (by decide)]; rfl
set_option maxRecDepth 100000 in
set_option maxHeartbeats 1000000 in
theorem p47_zone {w0 w : World} {b : Nat} {A : Option Addr} {n c : Nat} {xs : List Int} {k : Nat} {bad : Bool} (h : Rdr w0 w b A n c xs k bad) (hn : n ≤ 4194304) (hk : k ≤ n) :
    Calls Try.prog 47 #[.pointer (some ⟨b, 0, none⟩)] w (RetN (zoneS xs k) (-6039) 6039 w0 b A n c xs bad w) := by
  have hk1 := skipV_le (xs := xs) (k := k) 43 (by rw [h.sl.len]; exact hk)
  have hk2 := skipV_le (xs := xs) (k := k) 45 (by rw [h.sl.len]; exact hk)
  rw [h.sl.len] at hk1 hk2
  have hno := fun hh => skipV_no (xs := xs) (k := k) (y := 43) hh
  have hc1 := p47_skip (y := 43) h hn hk
  cases hs1 : (skipV xs k 43).2 with
  | true =>
    have HZ := Lib.hid (zone_p hs1)
    rw [hs1] at hc1
    obtain ⟨k1, hk1e⟩ : ∃ k1, (skipV xs k 43).1 = k1 := ⟨_, rfl⟩
    rw [hk1e] at hc1 HZ hk1
    clear hk1e hs1 hno hk2
    go_enter Try.func47, Try.ntmps47
    go_wp2_with (go_at_call 45; refine hc1.mono ?_; rintro e w1 ⟨rfl, hR, hKp⟩)
    have hgap := fun W (hW : Below w1.heap.size w1 W) => p28_Gap (a := (k1 : Int)) (hR.now.bel hW) hn
    rw [withL_self hk1] at hgap
    obtain ⟨g, hg⟩ : ∃ g, gapL xs k1 = g := ⟨_, rfl⟩
    rw [hg] at hgap
    have c0 := hR.c0
    have c1 := hR.c1
    go_region_held3 (fun w' => w'.cell? ⟨b, 0, none⟩ = some (.slice A n c) ∧ w'.cell? ⟨b, 1, none⟩ = some (.int .i64 k1))
      (first | exact ⟨hR3.c0, hR3.c1⟩ | exact ⟨hR2.c0, hR2.c1⟩ | exact ⟨hR.drew_.c0, hR.drew_.c1⟩)
      (first | (go_at_call 31; refine (hgap _ (Below.refl _ _).drew).mono ?_; rintro e w2 ⟨rfl, hb2⟩; have hR2 := hR.drew_.below hb2) | (go_at_call 42; refine (p47_must hR2).mono ?_; rintro e w3 ⟨rfl, hR3, hK3⟩))
    have HG := Lib.hid hg
    clear hg hgap c0 c1 hR2 hR hc1 h
    have hnum := p47_num44 hR3 hn hk1
    go_wp2_with (first | (go_at_call 46; refine hnum.mono ?_; rintro e w4 ⟨v, k2, bad2, rfl, hv0, hv1, hk2, hR4, hK4, hN4⟩; have HN4 := Lib.hid hN4; clear hN4) | (go_at_call 42; refine (p47_must hR4).mono ?_; rintro e w5 ⟨rfl, hR5, hK5⟩))
    go_ret
    exact ⟨_, k2, _, ret_int (show _ = 1 * (v / 100 * 60 + v % 100) by omega), by omega, by omega, hk2, hR5, (((hKp.trans ((Keeps.of (Below.refl _ _).drew).trans (Keeps.of hb2))).trans hK3).trans hK4).trans hK5, by rw [HZ.out]; exact hours_in (by rw [HG.out]; rfl) HN4.out rfl⟩
  | false =>
    have hk0 := hno hs1
    rw [hs1, hk0] at hc1
    cases hs2 : (skipV xs k 45).2 with
    | true =>
      have HZ := Lib.hid (zone_m hs1 hs2)
      have hc2 := fun w1 (hR : Rdr w0 w1 b A n c xs k bad) => p47_skip (y := 45) hR hn hk
      rw [hs2] at hc2
      obtain ⟨k1, hk1e⟩ : ∃ k1, (skipV xs k 45).1 = k1 := ⟨_, rfl⟩
      rw [hk1e] at hc2 HZ hk2
      have hk1 := hk2
      clear hk1e hs1 hs2 hno hk2 hk0
      go_enter Try.func47, Try.ntmps47
      go_wp2_with fail
      refine hc1.mono ?_
      rintro e w9 ⟨rfl, hR9, hKp9⟩
      go_wp2_with fail
      refine (hc2 _ hR9).mono ?_
      rintro e w1 ⟨rfl, hR, hKp1⟩
      go_wp2_with fail
      have hKp := hKp9.trans hKp1
      have hgap := fun W (hW : Below w1.heap.size w1 W) => p28_Gap (a := (k1 : Int)) (hR.now.bel hW) hn
      rw [withL_self hk1] at hgap
      obtain ⟨g, hg⟩ : ∃ g, gapL xs k1 = g := ⟨_, rfl⟩
      rw [hg] at hgap
      have c0 := hR.c0
      have c1 := hR.c1
      go_region_held3 (fun w' => w'.cell? ⟨b, 0, none⟩ = some (.slice A n c) ∧ w'.cell? ⟨b, 1, none⟩ = some (.int .i64 k1))
        (first | exact ⟨hR3.c0, hR3.c1⟩ | exact ⟨hR2.c0, hR2.c1⟩ | exact ⟨hR.drew_.c0, hR.drew_.c1⟩)
        (first | (go_at_call 31; refine (hgap _ (Below.refl _ _).drew).mono ?_; rintro e w2 ⟨rfl, hb2⟩; have hR2 := hR.drew_.below hb2) | (go_at_call 42; refine (p47_must hR2).mono ?_; rintro e w3 ⟨rfl, hR3, hK3⟩))
      have HG := Lib.hid hg
      clear hg hgap c0 c1 hR2 hR hc1 h
      have hnum := p47_num44 hR3 hn hk1
      go_wp2_with (first | (go_at_call 46; refine hnum.mono ?_; rintro e w4 ⟨v, k2, bad2, rfl, hv0, hv1, hk2, hR4, hK4, hN4⟩; have HN4 := Lib.hid hN4; clear hN4) | (go_at_call 42; refine (p47_must hR4).mono ?_; rintro e w5 ⟨rfl, hR5, hK5⟩))
      go_ret
      exact ⟨_, k2, _, ret_int (show _ = -1 * (v / 100 * 60 + v % 100) by omega), by omega, by omega, hk2, hR5, (((hKp.trans ((Keeps.of (Below.refl _ _).drew).trans (Keeps.of hb2))).trans hK3).trans hK4).trans hK5, by rw [HZ.out]; exact hours_in (by rw [HG.out]; rfl) HN4.out rfl⟩
    | false =>
      have hc2 := fun w1 (hR : Rdr w0 w1 b A n c xs k bad) => p47_skip (y := 45) hR hn hk
      rw [hs2, skipV_no hs2] at hc2
      have HZ := Lib.hid (zone_w hs1 hs2)
      have hkE := (runE_le (xs := xs) (kv := 16) (k := k) (by rw [h.sl.len]; exact hk)).2
      rw [h.sl.len] at hkE
      have hL := Nat.le_trans (runP_len xs 16 k) (Nat.sub_le _ _)
      rw [h.sl.len] at hL
      have hwr : ∀ x ∈ runP xs 16 k, (Lit.int .u8 x).wf = true := fun x hx => h.sl.wf x (List.mem_of_mem_drop ((List.takeWhile_sublist _).subset hx))
      have hrun := fun w1 (hR : Rdr w0 w1 b A n c xs k bad) => p47_run (kv := 16) hR hn hk
      obtain ⟨ds, hds⟩ : ∃ ds, runP xs 16 k = ds := ⟨_, rfl⟩
      obtain ⟨E, hE⟩ : ∃ E, runE xs 16 k = E := ⟨_, rfl⟩
      rw [hds, hE] at hrun
      rw [hds] at hL hwr
      rw [hE] at hkE
      have HZ2 := Lib.hid (show zoneS xs k = if gmtB ds then some (0, E) else none by rw [HZ.out, hds, hE])
      have g1 := gmt_beq (fld_wf hwr)
      have g2 := ut_beq (fld_wf hwr)
      clear hds hE HZ hs1 hs2 hno hk0 hwr hk1 hk2
      go_enter Try.func47, Try.ntmps47
      go_wp2_with fail
      refine hc1.mono ?_
      rintro e w9 ⟨rfl, hR9, hKp9⟩
      go_wp2_with fail
      refine (hc2 _ hR9).mono ?_
      rintro e w1 ⟨rfl, hR, hKp1⟩
      go_wp2_with fail
      refine (hrun _ hR).mono ?_
      rintro e w2 ⟨A2, c2, rfl, hsl2, hR2, hKp2⟩
      have hKp := (hKp9.trans hKp1).trans hKp2
      have hf := p01_Fold (hsl2.bel hR2.bel) (show ds.length ≤ 1073741824 by omega)
      clear hc1 hc2 hrun hR9 hKp9 hR hKp1 hKp2 hsl2 h
      go_wp2_with fail
      refine hf.mono ?_
      rintro e w3 ⟨v, rfl, ho, hb3⟩
      obtain ⟨A1, n1, c1, rfl, hs1⟩ := ho.sl
      have hR3 := hR2.below hb3
      have hcv := hs1.str (P := Try.prog) 30 5 9 Try.underlying30 Try.underlying5 Try.underlying9
      obtain ⟨s, hsS⟩ : ∃ s, strOfNums (fldL ds) = s := ⟨_, rfl⟩
      rw [hsS] at hcv g1 g2
      have hK3 := hKp.trans (Keeps.of (b := b) hb3)
      clear hf hR2 hs1 ho hb3 hsS hKp
      have HG := Lib.hid (show gmtB ds = (decide (fldL ds = [103, 109, 116]) || decide (fldL ds = [117, 116])) from rfl)
      have hms := fun ok => p47_must (ok := ok) hR3
      by_cases e1 : fldL ds = [103, 109, 116]
      · rw [decide_eq_true e1] at g1 HG
        clear g2 e1
        go_wp2_with fail
        refine (hms _).mono ?_
        rintro e w4 ⟨rfl, hR4, hK4⟩
        go_wp2_with fail
        go_ret
        exact ⟨0, E, _, rfl, by omega, by omega, hkE, hR4, hK3.trans hK4, by rw [HZ2.out, HG.out]; exact zone_end _ _ _⟩
      · rw [decide_eq_false e1] at g1 HG
        clear e1
        cases e2 : decide (fldL ds = [117, 116]) with
        | true =>
          rw [e2] at g2 HG
          clear e2
          go_wp2_with fail
          refine (hms _).mono ?_
          rintro e w4 ⟨rfl, hR4, hK4⟩
          go_wp2_with fail
          go_ret
          exact ⟨0, E, _, rfl, by omega, by omega, hkE, hR4, hK3.trans hK4, by rw [HZ2.out, HG.out]; exact zone_end _ _ _⟩
        | false =>
          rw [e2] at g2 HG
          clear e2
          go_wp2_with fail
          refine (hms _).mono ?_
          rintro e w4 ⟨rfl, hR4, hK4⟩
          go_wp2_with fail
          go_ret
          exact ⟨0, E, _, rfl, by omega, by omega, hkE, hR4, hK3.trans hK4, by rw [HZ2.out, HG.out]; exact zone_end _ _ _⟩
end Go.Proofs.Ytjiofcnlibkhkaa
