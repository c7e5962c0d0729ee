/- Layer 47 (date): the reference's run. Condition: the box is the call's own, the octets lay there before it, at most 2^22. -/
import Derived.Test.Ytjiofcnlibkhkaa47run
import Derived.StillTailTactics
namespace Go.Proofs.Ytjiofcnlibkhkaa
open Go.RowKit
theorem Rdr.drew_ {w0 w : World} {b : Nat} {A : Option Addr} {n c : Nat} {xs : List Int} {k : Nat} {bad : Bool} (h : Rdr w0 w b A n c xs k bad) : Rdr w0 w.drew b A n c xs k bad := h.below (Below.refl _ _).drew
set_option maxRecDepth 100000 in
set_option maxHeartbeats 2000000 in
theorem r47_run {w0 w : World} {b : Nat} {A : Option Addr} {n c : Nat} {xs : List Int} {k : Nat} {bad : Bool} {kv : Int} (h : Rdr w0 w b A n c xs k bad) (hn : n ≤ 4194304) (hk : k ≤ n) :
    Calls Try.prog 34 #[.pointer (some ⟨b, 0, none⟩), .int .i64 kv] w (RetRun w0 b A n c xs (runP xs kv k) (runE xs kv k) bad w) := by
  have q0 := h.drew_.c0
  have q1 := h.drew_.c1
  have hcl := r28_Gap (a := (k : Int)) h.now.drew hn
  rw [withL_self hk] at hcl
  have hgb := gapL_bd (xs := xs) (k := k) (by rw [h.sl.len]; exact hk)
  rw [h.sl.len] at hgb
  have HP := Lib.hid (show runP xs kv k = (xs.drop (gapL xs k)).takeWhile (fun x => isL x kv) from rfl)
  have HE := Lib.hid (show runE xs kv k = gapL xs k + (runP xs kv k).length from rfl)
  obtain ⟨g, hg⟩ : ∃ g, gapL xs k = g := ⟨_, rfl⟩
  rw [hg] at hcl hgb HP HE
  clear hg
  go_enter Try.func34, Try.ntmps34
  go_wp2_with fail
  refine wp_region_still_tail 12 (by kernel_rfl) (by kernel_rfl) ?_
  simp only [List.take_succ_cons, List.take_zero, List.drop_succ_cons, List.drop_zero]
  change wpStill _ _ w.drew _ _ _
  still_step
  still_step
  still_step
  still_step
  still_step
  still_step
  still_step
  still_step
  still_step
  still_call (hcl.mono fun e w' hh => ⟨hh.1, hh.2.symm⟩)
  still_step
  still_step
  refine wpStill_nil ?_
  change wpList _ _ _ _ _ w.drew
  generalize hW : w.drew = W
  have hX : Rdr w0 W b A n c xs k bad := by rw [← hW]; exact h.drew_
  have hbX : Below w.heap.size w W := by rw [← hW]; exact (Below.refl _ _).drew
  clear hW
  have c1 := hX.c1
  have f1 := hX.f1
  have hP := hX.place (k' := g)
  have hK := (Keeps.of hbX).set (b := b) (o := 1) (.int .i64 g)
  clear q0 q1 hcl
  go_upto_block 0 with fail
  go_cut [5] from 22 (fun v5 wc => v5 = .int .i64 g ∧ ∃ j : Nat, g ≤ j ∧ j ≤ n ∧ Rdr w0 wc b A n c xs j bad ∧ Keeps b w wc ∧ Hid (runP xs kv k = (xs.drop g).take (j - g)))
  case rest =>
    obtain ⟨rfl, j, hj1, hj2, hR, hKp, hI⟩ := hcut
    have hle := h.sl.le
    have hcm := h.sl.cm
    unfold maxLen at hcm
    have hsl := h.sl
    have hI0 := hI
    clear hI hgb HP hX hP hK c1 f1 hbX h
    have q0 := fun X : ExtW wc.drew => (X.h.cell (p := ⟨b, 0, none⟩) hR.lt).trans hR.c0
    have q1 := fun X : ExtW wc.drew => (X.h.cell (p := ⟨b, 1, none⟩) hR.lt).trans hR.c1
    have hlen : (runP xs kv k).length = j - g := by rw [hI0.out, List.length_take, List.length_drop, hsl.len]; omega
    have hgj : (g : Int) ≤ (j : Int) := by omega
    have hjc : (j : Int) ≤ (c : Int) := by omega
    have hP : runP xs kv k = (xs.take j).drop g := by rw [hI0.out, List.drop_take]
    have hE0 := Lib.hid (show runE xs kv k = j from by rw [HE.out, hlen]; omega)
    have HP := Lib.hid hP
    have HL := Lib.hid hlen
    clear hP hlen hI0 HE
    by_cases hc : c = g
    · obtain rfl : j = g := by omega
      have hs0 : Sl w0 .u8 A (j - j) 0 ((xs.take j).drop j) := by
        rw [Nat.sub_self, List.drop_eq_nil_of_le (by rw [List.length_take]; omega)]; exact Sl.none_
      subst hc
      clear hle hcm
      have hpc : ¬ (c : Int) < (c : Int) := by omega
      go_upto_region 5 with fail
      (refine wp_region_any (by kernel_rfl) ?_; (try (change wpAny _ _ _ _ _ _ _ (World.drew _))); refine wpAny_lex 0 _ rfl (by kernel_rfl) (by kernel_rfl) ?_; (try simp only []); (repeat (go_big_quiet_step (fail))); refine wpQuiet_nil ?_; rintro _ ⟨X2, rfl⟩)
      have hbX : Below wc.heap.size wc X2.W := (Below.refl _ _).drew.trans X2.h
      have hR2 := hR.below hbX
      have hK2 := hKp.trans (Keeps.of (b := b) hbX)
      have hs2 := hs0
      clear q0 q1 hsl hs0 hR hKp hbX
      go_wp2_with fail
      go_ret
      have := RetRun.mk hE0 HP HL hs2 hR2 hK2
      rw [Nat.sub_self] at this
      exact this
    · have hs0 := hsl.cut (lo := g) (hi := j) (m := j - g) (c' := c - g) hj1 hj2 rfl rfl
      go_upto_region 5 with fail
      (refine wp_region_any (by kernel_rfl) ?_; (try (change wpAny _ _ _ _ _ _ _ (World.drew _))); refine wpAny_lex 0 _ rfl (by kernel_rfl) (by kernel_rfl) ?_; (try simp only []); (repeat (go_big_quiet_step (fail))); refine wpQuiet_nil ?_; rintro _ ⟨X2, rfl⟩)
      have hbX : Below wc.heap.size wc X2.W := (Below.refl _ _).drew.trans X2.h
      have hR2 := hR.below hbX
      have hK2 := hKp.trans (Keeps.of (b := b) hbX)
      have hs2 := hs0
      clear q0 q1 hsl hs0 hR hKp hbX
      go_wp2_with fail
      go_ret
      exact RetRun.mk hE0 HP HL hs2 hR2 hK2
  case first =>
  go_wp2_with fail
  go_loopw [] (fun wr => ∃ j : Nat, g ≤ j ∧ j ≤ n ∧ Rdr w0 wr b A n c xs j bad ∧ Keeps b w wr ∧ Hid (runP xs kv k = (xs.drop g).take (j - g) ++ (xs.drop j).takeWhile (fun x => isL x kv))) (fun wr => n - placeOf b wr)
  case atStart => exact ⟨g, Nat.le_refl _, hgb.2, hP, hK, by show _ = _; rw [HP.out]; simp⟩
  case round =>
    obtain ⟨j, hj1, hj2, hR, hKp, hI⟩ := hrel
    have q0 := fun X : ExtW wr.drew => (X.h.cell (p := ⟨b, 0, none⟩) hR.lt).trans hR.c0
    have q1 := fun X : ExtW wr.drew => (X.h.cell (p := ⟨b, 1, none⟩) hR.lt).trans hR.c1
    clear hX hP hK c1 f1 hbX
    by_cases hlt : j < n
    · obtain ⟨b1, o1, x, rfl, hb1, hcell, hwf, hd, ht⟩ := hR.now.get hlt
      have qx := fun X : ExtW wr.drew => (X.h.cell (p := ⟨b1, o1 + j, none⟩) hb1).trans hcell
      have hcl := fun w => r01_Is (c := x) (k := kv) (w := w) hwf
      have hlt' : ((j : Int) < (n : Int)) := by omega
      have hdl : decide ((j : Int) < (n : Int)) = true := decide_eq_true hlt'
      cases hv : isL x kv with
      | true =>
        rw [hv] at hcl
        have hI2 := Lib.hid (pieceIn hj1 hI.out hd hv)
        clear hI hd ht hcell hv
        go_wp2_with fail
        (refine wp_region_any (by kernel_rfl) ?_; (try (change wpAny _ _ _ _ _ _ _ (World.drew _))); refine wpAny_lex 0 _ rfl (by kernel_rfl) (by kernel_rfl) ?_; (try simp only []); (repeat (go_big_quiet_step ((rename_i X; go_at_call 49; exact Calls.ext_same X (hcl X.W))))); refine wpQuiet_nil ?_; rintro _ ⟨X2, rfl⟩)
        have hbX : Below wr.heap.size wr X2.W := (Below.refl _ _).drew.trans X2.h
        have hX := hR.below hbX
        have c1 := hX.c1
        have f1 := hX.f1
        have hP := hX.place (k' := j + 1)
        have hK := ((hKp.trans (Keeps.of hbX)).set (b := b) (o := 1) (.int .i64 (j + 1 : Nat)))
        have hm1 := hR.placeOf
        have hm2 := hP.placeOf
        clear q0 q1 qx hcl
        go_wp2
        exact ⟨⟨j + 1, by omega, by omega, hP, hK, hI2⟩, by rw [hm1]; exact (show n - placeOf b (X2.W.setCell ⟨b, 1, none⟩ (.int .i64 ((j + 1 : Nat) : Int))) < n - j from by rw [hm2]; omega)⟩
      | false =>
        rw [hv] at hcl
        have hI2 : Hid (runP xs kv k = (xs.drop g).take (j - g)) := by
          show _ = _
          rw [hI.out, hd, List.takeWhile_cons, if_neg (by simp [hv]), List.append_nil]
        clear hI hd ht hcell hv
        go_wp2_with fail
        (refine wp_region_any (by kernel_rfl) ?_; (try (change wpAny _ _ _ _ _ _ _ (World.drew _))); refine wpAny_lex 0 _ rfl (by kernel_rfl) (by kernel_rfl) ?_; (try simp only []); (repeat (go_big_quiet_step ((rename_i X; go_at_call 49; exact Calls.ext_same X (hcl X.W))))); refine wpQuiet_nil ?_; rintro _ ⟨X2, rfl⟩)
        have hbX : Below wr.heap.size wr X2.W := (Below.refl _ _).drew.trans X2.h
        have hX := hR.below hbX
        have hK := hKp.trans (Keeps.of (b := b) hbX)
        clear q0 q1 qx hcl
        go_wp2_with fail
        go_meet
        case rel => exact ⟨rfl, j, hj1, hj2, hX, hK, hI2⟩
    · have hjn : j = n := by omega
      have hlt' : ¬ ((j : Int) < (n : Int)) := by omega
      have hdl : decide ((j : Int) < (n : Int)) = false := decide_eq_false hlt'
      have hI2 : Hid (runP xs kv k = (xs.drop g).take (j - g)) := by
        show _ = _
        have e : xs.drop j = [] := List.drop_eq_nil_of_le (by have := h.sl.len; omega)
        rw [hI.out, e, List.takeWhile_nil, List.append_nil]
      clear hI hjn hlt'
      go_wp2_with fail
      (refine wp_region_any (by kernel_rfl) ?_; (try (change wpAny _ _ _ _ _ _ _ (World.drew _))); refine wpAny_lex 0 _ rfl (by kernel_rfl) (by kernel_rfl) ?_; (try simp only []); (repeat (go_big_quiet_step (fail))); refine wpQuiet_nil ?_; rintro _ ⟨X2, rfl⟩)
      have hbX : Below wr.heap.size wr X2.W := (Below.refl _ _).drew.trans X2.h
      have hX := hR.below hbX
      have hK := hKp.trans (Keeps.of (b := b) hbX)
      clear q0 q1
      go_wp2_with fail
      go_meet
      case rel => exact ⟨rfl, j, hj1, hj2, hX, hK, hI2⟩
end Go.Proofs.Ytjiofcnlibkhkaa
