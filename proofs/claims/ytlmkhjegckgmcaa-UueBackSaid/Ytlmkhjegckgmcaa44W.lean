/- Layer 44 (uue): files read, by the program: what its function returns. Conditions: the argument reads as a list; lengths at most 2^16; the variable MaxLen holds a number. -/
import Derived.Test.Ytlmkhjegckgmcaa44V
import Derived.Test.Ytlmkhjegckgmcaa43B
namespace Go.Proofs.Ytlmkhjegckgmcaa
open Go.RowKit

def RetRU (xs : List Int) (w : World) (e : Ending) (w' : World) : Prop :=
  ∃ A n c A2 n2 c2, e = .returned (.tuple #[.slice A n c, .slice A2 n2 c2, .int .i64 (readU xs).2.2]) ∧ Sl w' .u8 A n c (readU xs).1 ∧ Sl w' .u8 A2 n2 c2 (readU xs).2.1 ∧ Below w.heap.size w w'
theorem readL_no {l : List Int} {r : List (List Int)} (h : ¬ (l.take 10 = begU ∧ nameU (l.drop 10) = true)) : readL (l :: r) = ([], [], 3) := if_neg h
theorem readL_on {l : List Int} {r : List (List Int)} (h : l.take 10 = begU) (h2 : nameU (l.drop 10) = true) : readL (l :: r) = if (goU [] r).2 = 0 then (l.drop 10, (goU [] r).1, 0) else ([], [], (goU [] r).2) := if_pos ⟨h, h2⟩

theorem from_len (y : List Int) : (fromU y).1.length ≤ 64 := by
  by_cases h0 : y = []
  · subst h0; decide
  · cases hall : y.all okU with
    | false => rw [from_no h0 hall]; simp
    | true =>
      by_cases h45 : 45 < valU (y.getD 0 0)
      · rw [from_big h0 h45]; simp
      · rw [from_on h0 hall h45]
        have := valU_bd (y.getD 0 0)
        split
        · simp
        · split
          · simp
          · simp only [List.length_take]; omega
set_option maxRecDepth 100000 in
set_option maxHeartbeats 4000000 in
theorem p44_Read {A n c xs} {w : World} (hs : Sl w .u8 A n c xs) (hn : n ≤ 65536) (hM : MaxL w) : Calls Try.prog 54 #[.slice A n c] w (RetRU xs w) := by
  have kc := fun (w : World) (C : Array Value) (n c : Nat) => Lib.run_convert_bytes_const (P := Try.prog) w 22 5 C n c Try.underlying22 Try.underlying5
  have hln := hs.len
  have hsl := split_len xs
  have hsm := Lib.hid (fun l (h : l ∈ splitL xs) => split_mem h)
  have hp := p26_Split hs (by omega) hM
  have hr : readU xs = readL (splitL xs) := rfl
  obtain ⟨ls, hls⟩ : ∃ ls, splitL xs = ls := ⟨_, rfl⟩
  rw [hls] at hp hr hsl hsm
  clear hls
  cases ls with
  | nil =>
    have HE := Lib.hid (show readU xs = ([], [], 4) from hr)
    clear hr
    go_enter Try.func54, Try.ntmps54
    go_wp2_with fail
    refine hp.mono ?_
    rintro e w1 ⟨v1, rfl, ho1, hb1⟩
    obtain ⟨A1, n1, c1, rfl, hL1⟩ := ho1.lns
    obtain rfl : n1 = 0 := by have := hL1.len; simpa using this.symm
    clear ho1 hL1
    go_wp2
    go_ret3
    unfold RetRU
    rw [HE.out]
    exact ⟨_, _, _, _, _, _, rfl, Sl.nil _ _, Sl.nil _ _, hb1⟩
  | cons l r =>
    have hll : l.length ≤ 65536 := by have := hsm.out l (by simp); omega
    by_cases hbg : l.take 10 = begU
    · cases hnm : nameU (l.drop 10) with
      | true =>
        have hr2 := readL_on (r := r) hbg hnm
        rw [← hr] at hr2
        have HE := Lib.hid hr2
        clear hr hr2
        go_enter Try.func54, Try.ntmps54
        go_wp2_with fail
        refine hp.mono ?_
        rintro e w1 ⟨v1, rfl, ho1, hb1⟩
        obtain ⟨A1, n1, c1, rfl, hL1⟩ := ho1.lns
        have hl1 := hL1.len
        simp only [List.length_cons] at hl1 hsl
        obtain ⟨b, o, A2, n2, c2, x, rfl, hb, hcell, hx, hxe, _, _⟩ := hL1.get (j := 0) (by omega)
        obtain rfl : l = x := hxe
        simp only [Nat.add_zero] at hcell
        have hcp := fun (W : World) (A' : Option Addr) (c' : Nat) (h1 : Sl W .u8 A2 n2 c2 l) (h2 : Sl W .u8 A' 10 c' begU) => lib_CutPrefix h1 h2
        simp only [hbg, if_true, decide_true] at hcp
        have h10 : 10 ≤ n2 := by
          have := congrArg List.length hbg
          rw [List.length_take, show begU.length = 10 from rfl, hx.len] at this
          omega
        have hta := hx.tail (j := 10) h10
        have hnp := fun (W : World) (h1 : Sl W .u8 (tailA A2 c2 10) (n2 - 10) (c2 - 10) (l.drop 10)) => p44_isName h1
        rw [hnm] at hnp
        obtain ⟨A5, hA5⟩ : ∃ A5, tailA A2 c2 10 = A5 := ⟨_, rfl⟩
        rw [hA5] at hta
        simp only [hA5] at hcp hnp
        have HCP := Lib.hid hcp; have HNP := Lib.hid hnp
        have hle1 := hL1.le
        have hcm1 := hL1.cm
        unfold maxLen at hcm1
        clear ho1 hcp hnp hA5
        by_cases hc1 : c1 = 1
        · subst hc1
          obtain rfl : n1 = 1 := by omega
          obtain rfl : r = [] := List.eq_nil_of_length_eq_zero (by omega)
          have HE2 : Hid (readU xs = ([], [], 4)) := HE.out
          go_wp2_with fail
          refine (HCP.out _ _ _ (hx.alloc _) (Sl.newF w1 .u8 5 begU (10, 11) (by decide) (by decide))).mono ?_
          rintro e w' ⟨rfl, rfl⟩
          go_wp2_with fail
          refine (HNP.out _ (hta.alloc _)).mono ?_
          rintro e w' ⟨rfl, rfl⟩
          have hB0 := hb1.alloc hb1.size (.cells (begU.map (Value.int .u8)).toArray 5 (10, 11))
          go_wp2
          go_loopw [8, 37] (fun _ i wr => i = .int .i64 0 ∧ Below w.heap.size w wr) (fun _ _ _ => 0)
          case atStart => exact ⟨rfl, hB0⟩
          case round =>
            obtain ⟨rfl, hbel⟩ := hrel
            go_wp2
            go_ret3
            unfold RetRU
            rw [HE2.out]
            exact ⟨_, _, _, _, _, _, rfl, Sl.nil _ _, Sl.nil _ _, hbel⟩
        · have hL2 := hL1.cut (lo := 1) (hi := n1) (m := n1 - 1) (c' := c1 - 1) (by omega) (Nat.le_refl _) rfl rfl
          rw [List.take_of_length_le (by simp only [List.length_cons]; omega), show (l :: r).drop 1 = r from rfl] at hL2
          go_wp2_with fail
          refine (HCP.out _ _ _ (hx.alloc _) (Sl.newF w1 .u8 5 begU (10, 11) (by decide) (by decide))).mono ?_
          rintro e w' ⟨rfl, rfl⟩
          go_wp2_with fail
          refine (HNP.out _ (hta.alloc _)).mono ?_
          rintro e w' ⟨rfl, rfl⟩
          have hB0 := (Below.refl w1.heap.size w1).alloc (Nat.le_refl _) (.cells (begU.map (Value.int .u8)).toArray 5 (10, 11))
          go_wp2
          go_loopw [8, 37] (fun v i wr => ∃ (k : Nat) (zs : List Int), k ≤ n1 - 1 ∧ i = .int .i64 k ∧ Own wr w1.heap.size 5 .u8 v zs ∧ zs.length ≤ 64 * k ∧ Hid (goU [] r = goU zs (r.drop k)) ∧ Below w1.heap.size w1 wr) (fun _ i _ => n1 - (intOf i).toNat)
          case atStart => exact ⟨0, [], by omega, rfl, Own.nil _ _ _ _, by simp, rfl, hB0⟩
          case round =>
            clear hB0
            obtain ⟨k, zs, hk, rfl, ho, hzl, hI, hbel⟩ := hrel
            by_cases hlt : k < n1 - 1
            · have hL2' := hL2.bel hbel
              obtain ⟨b3, o3, A3, n3, c3, y, e3, hb3, hcell3, hy, hye, hdx, _⟩ := hL2'.get hlt
              injection e3 with e3; injection e3 with e31 e32 _
              subst e31; subst e32
              have hym : y ∈ r := by have : y ∈ r.drop k := by rw [hdx]; simp
                                     exact List.mem_of_mem_drop this
              have hyn : n3 ≤ 65536 := by have h5 := hsm.out y (by simp [hym]); rw [hy.len] at h5; omega
              have hfr := p44_FromLine hy (by omega)
              unfold RetFr at hfr
              have hz := hbel.size
              obtain ⟨fv, hfv⟩ : ∃ fv, fromU y = fv := ⟨_, rfl⟩
              obtain ⟨os, e⟩ := fv
              simp only [hfv] at hfr
              have HFR := Lib.hid hfr; clear hfr
              by_cases he0 : e = 0
              · subst he0
                have hos := from_len y
                rw [hfv] at hos
                simp only at hos
                by_cases hos0 : os = []
                · subst hos0
                  have hg := hI.out
                  rw [hdx, goU_end (by rw [hfv]) (by rw [hfv])] at hg
                  have hrd : r.drop (k + 1) = (l :: r).drop (k + 2) := rfl
                  have hcase : (c1 = k + 2 ∧ Lns w1 (some ⟨b, o, none⟩) (n1 - (k + 2)) (c1 - (k + 2)) (r.drop (k + 1))) ∨ (¬ c1 = k + 2 ∧ Lns w1 (some ⟨b, o + (k + 2), none⟩) (n1 - (k + 2)) (c1 - (k + 2)) (r.drop (k + 1))) := by
                    by_cases hck : c1 = k + 2
                    · refine .inl ⟨hck, ?_⟩
                      have e : r.drop (k + 1) = [] := List.drop_eq_nil_of_le (by omega)
                      rw [e]
                      exact ⟨by simp; omega, by omega, by unfold maxLen; omega, by simp, fun h => absurd h (by omega)⟩
                    · refine .inr ⟨hck, ?_⟩
                      have h9 := hL1.cut (lo := k + 2) (hi := n1) (m := n1 - (k + 2)) (c' := c1 - (k + 2)) (by omega) (Nat.le_refl _) rfl rfl
                      rw [List.take_of_length_le (by simp only [List.length_cons]; omega)] at h9
                      exact h9
                  obtain ⟨rr, hrr⟩ : ∃ rr, restU (r.drop (k + 1)) = rr := ⟨_, rfl⟩
                  rw [hrr] at hg
                  have HG := Lib.hid hg
                  have HRR := Lib.hid hrr
                  clear hI hdx hye hfv hg hrd hrr
                  by_cases hr0 : rr = 0
                  · subst hr0
                    have HE2 : Hid (readU xs = (l.drop 10, zs, 0)) := by show _ = _; rw [HE.out, HG.out]; simp
                    clear HG
                    obtain ⟨A8, n8, c8, rfl, hs8⟩ := ho.sl
                    rcases hcase with ⟨hck, hLr⟩ | ⟨hck, hLr⟩
                    · subst hck
                      obtain rfl : n1 = k + 2 := by omega
                      exfalso
                      have e := HRR.out
                      rw [List.drop_eq_nil_of_le (by omega)] at e
                      exact absurd e (by decide)
                    · go_wp2_with fail
                      refine HFR.out.mono ?_
                      rintro ee w5 ⟨A6, n6, c6, rfl, hs6, hb6⟩
                      obtain rfl : n6 = 0 := hs6.len.symm
                      have hB6 := below_then' hbel hb6 (Nat.le_refl _)
                      go_wp2_with fail
                      refine (p44_rest (hLr.bel hB6)).mono ?_
                      rw [HRR.out]
                      rintro ee w' ⟨rfl, rfl⟩
                      go_wp2
                      go_ret3
                      unfold RetRU
                      rw [HE2.out]
                      exact ⟨_, _, _, _, _, _, rfl, hta.bel hB6, hs8.bel hb6, below_then hb1 hB6⟩
                  · have fr : (rr == 0) = false := by simpa using hr0
                    have HE2 : Hid (readU xs = ([], [], rr)) := by show _ = _; rw [HE.out, HG.out]; simp [hr0]
                    clear HG
                    rcases hcase with ⟨hck, hLr⟩ | ⟨hck, hLr⟩
                    all_goals
                      (try (subst hck; obtain rfl : n1 = k + 2 := by omega))
                      go_wp2_with fail
                      refine HFR.out.mono ?_
                      rintro ee w5 ⟨A6, n6, c6, rfl, hs6, hb6⟩
                      obtain rfl : n6 = 0 := hs6.len.symm
                      have hB6 := below_then' hbel hb6 (Nat.le_refl _)
                      have hLr6 := hLr.bel hB6
                      (try simp only [Nat.sub_self] at hLr6)
                      go_wp2_with fail
                      refine (p44_rest hLr6).mono ?_
                      rw [HRR.out]
                      rintro ee w' ⟨rfl, rfl⟩
                      go_wp2
                      go_ret3
                      unfold RetRU
                      rw [HE2.out]
                      exact ⟨_, _, _, _, _, _, rfl, Sl.nil _ _, Sl.nil _ _, below_then hb1 hB6⟩
                · have hg : Hid (goU [] r = goU (zs ++ os) (r.drop (k + 1))) := by show _ = _; rw [hI.out, hdx, goU_on (by rw [hfv]) (by rw [hfv]; exact hos0), hfv]
                  have HOS := Lib.hid hos0
                  clear hI hdx hye hfv hos0
                  go_wp2_with fail
                  refine HFR.out.mono ?_
                  rintro ee w5 ⟨A6, n6, c6, rfl, hs6, hb6⟩
                  have hl6 := hs6.len
                  have f6 : ((n6 : Int) == 0) = false := by
                    simp only [beq_eq_false_iff_ne, ne_eq]
                    intro h; exact HOS.out (List.eq_nil_of_length_eq_zero (by omega))
                  have hB6 := below_then' hbel hb6 (Nat.le_refl _)
                  have hz6 := hB6.size
                  go_wp2_with (at_builtin; refine wpList_app rfl rfl eltB (by decide) rfl rfl (ho.below hb6) hs6 hB6 (by refine ⟨?_, ?_⟩ <;> first | omega | (simp; done) | (simp; omega)) (by first | omega | (simp; done) | (simp; omega)) ?_; intro v7 w7 ho7 hb7 hg7)
                  (first | (go_roundw; (case rel => exact ⟨k + 1, _, by omega, by go_num, ho7, by rw [List.length_append]; omega, hg, hb7⟩); (case measure => first | (simp [intOf] <;> omega) | (simp [lenOf] <;> omega))) | (refine ⟨?_, ?measure⟩; (repeat apply Exists.intro); refine ⟨?rel, ?eqs⟩; (case eqs => first | rfl | ((repeat (refine ⟨rfl, ?_⟩)); rfl)); (case rel => exact ⟨k + 1, _, by omega, by go_num, ho7, by rw [List.length_append]; omega, hg, hb7⟩); (case measure => first | (simp [intOf] <;> omega) | (simp [lenOf] <;> omega))) | ((repeat apply Exists.intro); refine ⟨?rel, ?eqs⟩; (case eqs => first | rfl | ((repeat (refine ⟨rfl, ?_⟩)); rfl)); (case rel => exact ⟨k + 1, _, by omega, by go_num, ho7, by rw [List.length_append]; omega, hg, hb7⟩)))
              · have fe : (e == 0) = false := by simpa using he0
                have hg : goU [] r = ([], e) := by rw [hI.out, hdx, goU_bad (by rw [hfv]; exact he0), hfv]
                have HE2 : Hid (readU xs = ([], [], e)) := by show _ = _; rw [HE.out, hg]; exact if_neg he0
                clear hI hdx hye hg hfv
                go_wp2_with fail
                refine HFR.out.mono ?_
                rintro ee w5 ⟨A6, n6, c6, rfl, hs6, hb6⟩
                go_wp2
                go_ret3
                unfold RetRU
                rw [HE2.out]
                exact ⟨_, _, _, _, _, _, rfl, Sl.nil _ _, Sl.nil _ _, below_then hb1 (below_then' hbel hb6 (Nat.le_refl _))⟩
            · have hd : r.drop k = [] := List.drop_eq_nil_of_le (by omega)
              have hg : goU [] r = ([], 4) := by rw [hI.out, hd]; rfl
              have HE2 : Hid (readU xs = ([], [], 4)) := by show _ = _; rw [HE.out, hg]; rfl
              clear hI hd hg
              go_wp2
              go_ret3
              unfold RetRU
              rw [HE2.out]
              exact ⟨_, _, _, _, _, _, rfl, Sl.nil _ _, Sl.nil _ _, below_then hb1 hbel⟩
      | false =>
        have HE := Lib.hid (show readU xs = ([], [], 3) from hr.trans (readL_no (by rw [hnm]; simp)))
        clear hr
        go_enter Try.func54, Try.ntmps54
        go_wp2_with fail
        refine hp.mono ?_
        rintro e w1 ⟨v1, rfl, ho1, hb1⟩
        obtain ⟨A1, n1, c1, rfl, hL1⟩ := ho1.lns
        have hl1 := hL1.len
        simp only [List.length_cons] at hl1
        obtain ⟨b, o, A2, n2, c2, x, rfl, hb, hcell, hx, hxe, _, _⟩ := hL1.get (j := 0) (by omega)
        obtain rfl : l = x := hxe
        simp only [Nat.add_zero] at hcell
        have hcp := fun (W : World) (A' : Option Addr) (c' : Nat) (h1 : Sl W .u8 A2 n2 c2 l) (h2 : Sl W .u8 A' 10 c' begU) => lib_CutPrefix h1 h2
        simp only [hbg, if_true, decide_true] at hcp
        have h10 : 10 ≤ n2 := by
          have := congrArg List.length hbg
          rw [List.length_take, show begU.length = 10 from rfl, hx.len] at this
          omega
        have hta := hx.tail (j := 10) h10
        have hnp := fun (W : World) (h1 : Sl W .u8 (tailA A2 c2 10) (n2 - 10) (c2 - 10) (l.drop 10)) => p44_isName h1
        rw [hnm] at hnp
        have HCP := Lib.hid hcp; have HNP := Lib.hid hnp
        clear ho1 hcp hnp
        go_wp2_with fail
        refine (HCP.out _ _ _ (hx.alloc _) (Sl.newF w1 .u8 5 begU (10, 11) (by decide) (by decide))).mono ?_
        rintro e w' ⟨rfl, rfl⟩
        go_wp2_with fail
        refine (HNP.out _ (hta.alloc _)).mono ?_
        rintro e w' ⟨rfl, rfl⟩
        go_wp2
        go_ret3
        unfold RetRU
        rw [HE.out]
        exact ⟨_, _, _, _, _, _, rfl, Sl.nil _ _, Sl.nil _ _, hb1.alloc hb1.size _⟩
    · have HE := Lib.hid (show readU xs = ([], [], 3) from hr.trans (readL_no (fun h => hbg h.1)))
      clear hr
      go_enter Try.func54, Try.ntmps54
      go_wp2_with fail
      refine hp.mono ?_
      rintro e w1 ⟨v1, rfl, ho1, hb1⟩
      obtain ⟨A1, n1, c1, rfl, hL1⟩ := ho1.lns
      have hl1 := hL1.len
      simp only [List.length_cons] at hl1
      obtain ⟨b, o, A2, n2, c2, x, rfl, hb, hcell, hx, hxe, _, _⟩ := hL1.get (j := 0) (by omega)
      obtain rfl : l = x := hxe
      simp only [Nat.add_zero] at hcell
      have hcp := fun (W : World) (A' : Option Addr) (c' : Nat) (h1 : Sl W .u8 A2 n2 c2 l) (h2 : Sl W .u8 A' 10 c' begU) => lib_CutPrefix h1 h2
      simp only [hbg, if_false, decide_false] at hcp
      have HCP := Lib.hid hcp
      clear ho1 hcp
      go_wp2_with fail
      refine (HCP.out _ _ _ (hx.alloc _) (Sl.newF w1 .u8 5 begU (10, 11) (by decide) (by decide))).mono ?_
      rintro e w' ⟨rfl, rfl⟩
      go_wp2
      go_ret3
      unfold RetRU
      rw [HE.out]
      exact ⟨_, _, _, _, _, _, rfl, Sl.nil _ _, Sl.nil _ _, hb1.alloc hb1.size _⟩
end Go.Proofs.Ytlmkhjegckgmcaa
