/- Layer 44 (uue): files read, by the reference: what its function returns. Conditions: the argument reads as a list; lengths at most 2^16. -/
import Derived.Test.Ytlmkhjegckgmcaa44W
import Derived.Test.Ytlmkhjegckgmcaa44H
namespace Go.Proofs.Ytlmkhjegckgmcaa
open Go.RowKit

theorem beg_beq {x : List Int} (hx : ∀ y ∈ x, (Lit.int .u8 y).wf = true) : ((strOfNums x).toList == [98, 101, 103, 105, 110, 32, 54, 52, 52, 32]) = decide (x = begU) := by
  have e2 : ([98, 101, 103, 105, 110, 32, 54, 52, 52, 32] : List UInt8) = (strOfNums begU).toList := by rw [Lib.strOfNums_toList]; rfl
  rw [e2, str_beq hx (by decide)]; rfl

set_option maxRecDepth 100000 in
set_option maxHeartbeats 4000000 in
theorem r44_Read {A n c xs} {w : World} (hs : Sl w .u8 A n c xs) (hn : n ≤ 65536) : Calls Try.prog 55 #[.slice A n c] w (RetRU xs w) := by
  have hln := hs.len
  have hsl := split_len xs
  have hsm := Lib.hid (fun l (h : l ∈ splitL xs) => split_mem h)
  have hp := r26_Split hs (by omega)
  have hr : readU xs = readL (splitL xs) := rfl
  obtain ⟨ls, hls⟩ : ∃ ls, splitL xs = ls := ⟨_, rfl⟩
  rw [hls] at hp hr hsl hsm
  clear hls
  cases ls with
  | nil =>
    have HE := Lib.hid (show readU xs = ([], [], 4) from hr)
    clear hr
    go_enter Try.func55, Try.ntmps55
    go_wp2_with fail
    refine hp.mono ?_
    rintro e w1 ⟨A1, n1, c1, rfl, hL1, hb1⟩
    obtain rfl : n1 = 0 := by have := hL1.len; simpa using this.symm
    clear hL1
    go_wp2
    go_ret3
    unfold RetRU
    rw [HE.out]
    exact ⟨_, _, _, _, _, _, rfl, Sl.nil _ _, Sl.nil _ _, hb1⟩
  | cons l r =>
    have hll : l.length ≤ 65536 := by have := hsm.out l (by simp); omega
    have hsh : ¬ (l.take 10 = begU ∧ nameU (l.drop 10) = true) → readU xs = ([], [], 3) := fun h => hr.trans (readL_no h)
    by_cases h10 : 10 ≤ l.length
    · by_cases hbg : l.take 10 = begU
      · cases hnm : nameU (l.drop 10) with
        | true =>
          have hr2 := readL_on (r := r) hbg hnm
          rw [← hr] at hr2
          have HE := Lib.hid hr2
          clear hr hr2 hsh
          go_enter Try.func55, Try.ntmps55
          go_wp2_with fail
          refine hp.mono ?_
          rintro e w1 ⟨A1, n1, c1, rfl, hL1, hb1⟩
          have hl1 := hL1.len
          simp only [List.length_cons] at hl1 hsl
          have hle1 := hL1.le
          have hcm1 := hL1.cm
          unfold maxLen at hcm1
          obtain ⟨b, o, A2, n2, c2, x, rfl, hb, hcell, hx, hxe, _, _⟩ := hL1.get (j := 0) (by omega)
          obtain rfl : l = x := hxe
          simp only [Nat.add_zero] at hcell
          have hl2 := hx.len
          have hle2 := hx.le
          have hcm2 := hx.cm
          unfold maxLen at hcm2
          have hx10 := hx.take_ (m := 10) (by omega)
          have q1 := hx10.str (P := Try.prog) 22 5 9 Try.underlying22 Try.underlying5 Try.underlying9
          have hbq := beg_beq hx10.wf
          rw [decide_eq_true hbg] at hbq
          obtain ⟨s1, hs1⟩ : ∃ s1, strOfNums (l.take 10) = s1 := ⟨_, rfl⟩
          rw [hs1] at q1 hbq
          have hta := hx.tail (j := 10) (by omega)
          obtain ⟨b2, o2, rfl, hb2⟩ := hx.form (by omega)
          have hcase : (c2 = 10 ∧ tailA (some ⟨b2, o2, none⟩) c2 10 = some ⟨b2, o2, none⟩) ∨ (¬ c2 = 10 ∧ tailA (some ⟨b2, o2, none⟩) c2 10 = some ⟨b2, o2 + 10, none⟩) := by
            unfold tailA
            by_cases hc : c2 = 10
            · exact .inl ⟨hc, if_pos hc⟩
            · exact .inr ⟨hc, by rw [if_neg hc, Option.map_some, add_plain]⟩
          clear hs1 hx10 hbg hx
          rcases hcase with ⟨hc, hA⟩ | ⟨hc, hA⟩
          · exfalso
            obtain rfl : n2 = 10 := by omega
            have : l.drop 10 = [] := List.drop_eq_nil_of_le (by omega)
            rw [this] at hnm
            exact absurd hnm (by decide)
          · rw [hA] at hta
            clear hA
            have hnp := r44_name hta
            rw [hnm] at hnp
            have HNP := Lib.hid hnp
            clear hnp hnm
            go_wp2_with (go_at_call 74; refine HNP.out.mono ?_; rintro e w' ⟨rfl, rfl⟩)
            go_loopw [6, 7] (fun v i wr => ∃ (p : Nat) (zs : List Int), 1 ≤ p ∧ p ≤ n1 ∧ i = .int .i64 p ∧ Own wr w1.heap.size 5 .u8 v zs ∧ zs.length ≤ 64 * p ∧ Hid (goU [] r = goU zs ((l :: r).drop p)) ∧ Below w1.heap.size w1 wr) (fun _ i _ => n1 - (intOf i).toNat)
            case atStart => exact ⟨1, [], Nat.le_refl _, by omega, rfl, Own.nil _ _ _ _, by simp, rfl, Below.refl _ _⟩
            case round =>
              obtain ⟨p, zs, hp1, hp2, rfl, ho, hzl, hI, hbel⟩ := hrel
              have hz := hbel.size
              by_cases hlt : p < n1
              · obtain ⟨b3, o3, A3, n3, c3, y, e3, hb3, hcell3, hy, hye, hdx, _⟩ := (hL1.bel hbel).get hlt
                injection e3 with e3; injection e3 with e31 e32 _
                subst e31; subst e32
                have hym : y ∈ l :: r := by
                  have : y ∈ (l :: r).drop p := by rw [hdx]; simp
                  exact List.mem_of_mem_drop this
                have hyn : n3 ≤ 65536 := by have h5 := hsm.out y hym; rw [hy.len] at h5; omega
                have hfr := r44_FromLine hy (by omega)
                unfold RetFr at hfr
                obtain ⟨fv, hfv⟩ : ∃ fv, fromU y = fv := ⟨_, rfl⟩
                obtain ⟨os, e⟩ := fv
                simp only [hfv] at hfr
                have HFR := Lib.hid hfr; clear hfr
                by_cases he0 : e = 0
                · subst he0
                  have hos := from_len y
                  rw [hfv] at hos
                  simp only at hos
                  by_cases hos0 : os = []
                  · subst hos0
                    have hg := hI.out
                    rw [hdx, goU_end (by rw [hfv]) (by rw [hfv])] at hg
                    clear hI hdx hye hfv
                    by_cases hend : p + 1 = n1
                    · rw [List.drop_eq_nil_of_le (by simp only [List.length_cons]; omega)] at hg
                      have HE2 : Hid (readU xs = ([], [], 4)) := by show _ = _; rw [HE.out, hg]; rfl
                      have fp : ((p : Int) + 1 == (n1 : Int)) = true := by simp; omega
                      clear hg
                      go_wp2_with fail
                      refine HFR.out.mono ?_
                      rintro ee w5 ⟨A6, n6, c6, rfl, hs6, hb6⟩
                      obtain rfl : n6 = 0 := hs6.len.symm
                      have hB6 := below_then' hbel hb6 (Nat.le_refl _)
                      have hz6 := hB6.size
                      go_wp2_with (at_builtin; refine wpList_app rfl rfl eltB (by decide) rfl rfl (ho.below hb6) hs6 hB6 (by refine ⟨?_, ?_⟩ <;> first | omega | (simp; done) | (simp; omega)) (by first | omega | (simp; done) | (simp; omega)) ?_; intro v7 w7 ho7 hb7 hg7)
                      go_ret3
                      unfold RetRU
                      rw [HE2.out]
                      exact ⟨_, _, _, _, _, _, rfl, Sl.nil _ _, Sl.nil _ _, below_then hb1 hb7⟩
                    · have fp : ((p : Int) + 1 == (n1 : Int)) = false := by simp; omega
                      obtain ⟨b4, o4, A4, n4, c4, y2, e4, hb4, hcell4, hy2, hye2, hdx2, _⟩ := hL1.get (j := p + 1) (by omega)
                      injection e4 with e4; injection e4 with e41 e42 _
                      subst e41; subst e42
                      rw [hdx2] at hg
                      have hbq2 := end_beq hy2.wf
                      have hq2 := fun (W : World) (h : Sl W .u8 A4 n4 c4 y2) => h.str (P := Try.prog) 22 5 9 Try.underlying22 Try.underlying5 Try.underlying9
                      obtain ⟨s2, hs2⟩ : ∃ s2, strOfNums y2 = s2 := ⟨_, rfl⟩
                      simp only [hs2] at hq2 hbq2
                      have HQ2 := Lib.hid hq2
                      clear hs2 hq2
                      by_cases hy2e : y2 = endU
                      · rw [decide_eq_true hy2e] at hbq2
                        by_cases hmore : p + 2 < n1
                        · have e5 : restU (y2 :: (l :: r).drop (p + 1 + 1)) = 3 := by
                            have : ((l :: r).drop (p + 1 + 1)).length ≠ 0 := by rw [List.length_drop, List.length_cons]; omega
                            match h9 : (l :: r).drop (p + 1 + 1), this with
                            | [], h => exact absurd rfl h
                            | _ :: _, _ => rfl
                          rw [e5] at hg
                          have HE2 : Hid (readU xs = ([], [], 3)) := by show _ = _; rw [HE.out, hg]; rfl
                          clear hg e5 hdx2 hye2 hy2e
                          go_wp2_with fail
                          refine HFR.out.mono ?_
                          rintro ee w5 ⟨A6, n6, c6, rfl, hs6, hb6⟩
                          obtain rfl : n6 = 0 := hs6.len.symm
                          have hB6 := below_then' hbel hb6 (Nat.le_refl _)
                          have hz6 := hB6.size
                          go_wp2_with ((at_builtin; refine wpList_app rfl rfl eltB (by decide) rfl rfl (ho.below hb6) hs6 hB6 (by refine ⟨?_, ?_⟩ <;> first | omega | (simp; done) | (simp; omega)) (by first | omega | (simp; done) | (simp; omega)) ?_; intro v7 w7 ho7 hb7 hg7); have hc7 := hb7.cell (p := ⟨b, o + (p + 1), none⟩) hb; rw [hcell4] at hc7; have q2 := HQ2.out w7 (hy2.bel hb7))
                          go_ret3
                          unfold RetRU
                          rw [HE2.out]
                          exact ⟨_, _, _, _, _, _, rfl, Sl.nil _ _, Sl.nil _ _, below_then hb1 hb7⟩
                        · have e5 : restU (y2 :: (l :: r).drop (p + 1 + 1)) = 0 := by
                            rw [List.drop_eq_nil_of_le (by simp only [List.length_cons]; omega)]
                            exact if_pos hy2e
                          rw [e5, if_pos rfl] at hg
                          have HE2 : Hid (readU xs = (l.drop 10, zs, 0)) := by show _ = _; rw [HE.out, hg]; rfl
                          clear hg e5 hdx2 hye2 hy2e
                          go_wp2_with fail
                          refine HFR.out.mono ?_
                          rintro ee w5 ⟨A6, n6, c6, rfl, hs6, hb6⟩
                          obtain rfl : n6 = 0 := hs6.len.symm
                          have hB6 := below_then' hbel hb6 (Nat.le_refl _)
                          have hz6 := hB6.size
                          go_wp2_with ((at_builtin; refine wpList_app rfl rfl eltB (by decide) rfl rfl (ho.below hb6) hs6 hB6 (by refine ⟨?_, ?_⟩ <;> first | omega | (simp; done) | (simp; omega)) (by first | omega | (simp; done) | (simp; omega)) ?_; intro v7 w7 ho7 hb7 hg7); have hc7 := hb7.cell (p := ⟨b, o + (p + 1), none⟩) hb; rw [hcell4] at hc7; have q2 := HQ2.out w7 (hy2.bel hb7); have hc8 := hb7.cell (p := ⟨b, o, none⟩) hb; rw [hcell] at hc8; rw [List.append_nil] at ho7; obtain ⟨A8, n8, c8, rfl, hs8⟩ := ho7.sl)
                          go_ret3
                          unfold RetRU
                          rw [HE2.out]
                          exact ⟨_, _, _, _, _, _, rfl, hta.bel hb7, hs8, below_then hb1 hb7⟩
                      · rw [decide_eq_false hy2e] at hbq2
                        have e5 : restU (y2 :: (l :: r).drop (p + 1 + 1)) = 3 := by
                          match (l :: r).drop (p + 1 + 1) with
                          | [] => exact if_neg hy2e
                          | _ :: _ => rfl
                        rw [e5] at hg
                        have HE2 : Hid (readU xs = ([], [], 3)) := by show _ = _; rw [HE.out, hg]; rfl
                        clear hg e5 hdx2 hye2 hy2e
                        go_wp2_with fail
                        refine HFR.out.mono ?_
                        rintro ee w5 ⟨A6, n6, c6, rfl, hs6, hb6⟩
                        obtain rfl : n6 = 0 := hs6.len.symm
                        have hB6 := below_then' hbel hb6 (Nat.le_refl _)
                        have hz6 := hB6.size
                        go_wp2_with ((at_builtin; refine wpList_app rfl rfl eltB (by decide) rfl rfl (ho.below hb6) hs6 hB6 (by refine ⟨?_, ?_⟩ <;> first | omega | (simp; done) | (simp; omega)) (by first | omega | (simp; done) | (simp; omega)) ?_; intro v7 w7 ho7 hb7 hg7); have hc7 := hb7.cell (p := ⟨b, o + (p + 1), none⟩) hb; rw [hcell4] at hc7; have q2 := HQ2.out w7 (hy2.bel hb7))
                        go_ret3
                        unfold RetRU
                        rw [HE2.out]
                        exact ⟨_, _, _, _, _, _, rfl, Sl.nil _ _, Sl.nil _ _, below_then hb1 hb7⟩
                  · have hg : Hid (goU [] r = goU (zs ++ os) ((l :: r).drop (p + 1))) := by show _ = _; rw [hI.out, hdx, goU_on (by rw [hfv]) (by rw [hfv]; exact hos0), hfv]
                    have HOS := Lib.hid hos0
                    clear hI hdx hye hfv hos0
                    go_wp2_with fail
                    refine HFR.out.mono ?_
                    rintro ee w5 ⟨A6, n6, c6, rfl, hs6, hb6⟩
                    have hl6 := hs6.len
                    have f6 : 0 < n6 := by
                      rcases Nat.eq_zero_or_pos n6 with h | h
                      · exact absurd (List.eq_nil_of_length_eq_zero (by omega)) HOS.out
                      · exact h
                    have hB6 := below_then' hbel hb6 (Nat.le_refl _)
                    have hz6 := hB6.size
                    go_wp2_with (at_builtin; refine wpList_app rfl rfl eltB (by decide) rfl rfl (ho.below hb6) hs6 hB6 (by refine ⟨?_, ?_⟩ <;> first | omega | (simp; done) | (simp; omega)) (by first | omega | (simp; done) | (simp; omega)) ?_; intro v7 w7 ho7 hb7 hg7)
                    (first | (go_roundw; (case rel => exact ⟨p + 1, _, by omega, by omega, by go_num, ho7, by rw [List.length_append]; omega, hg, hb7⟩); (case measure => first | (simp [intOf] <;> omega) | (simp [lenOf] <;> omega))) | (refine ⟨?_, ?measure⟩; (repeat apply Exists.intro); refine ⟨?rel, ?eqs⟩; (case eqs => first | rfl | ((repeat (refine ⟨rfl, ?_⟩)); rfl)); (case rel => exact ⟨p + 1, _, by omega, by omega, by go_num, ho7, by rw [List.length_append]; omega, hg, hb7⟩); (case measure => first | (simp [intOf] <;> omega) | (simp [lenOf] <;> omega))) | ((repeat apply Exists.intro); refine ⟨?rel, ?eqs⟩; (case eqs => first | rfl | ((repeat (refine ⟨rfl, ?_⟩)); rfl)); (case rel => exact ⟨p + 1, _, by omega, by omega, by go_num, ho7, by rw [List.length_append]; omega, hg, hb7⟩)))
                · have fe : (e == 0) = false := by simpa using he0
                  have hg : goU [] r = ([], e) := by rw [hI.out, hdx, goU_bad (by rw [hfv]; exact he0), hfv]
                  have HE2 : Hid (readU xs = ([], [], e)) := by show _ = _; rw [HE.out, hg]; exact if_neg he0
                  clear hI hdx hye hg hfv
                  go_wp2_with fail
                  refine HFR.out.mono ?_
                  rintro ee w5 ⟨A6, n6, c6, rfl, hs6, hb6⟩
                  go_wp2
                  go_ret3
                  unfold RetRU
                  rw [HE2.out]
                  exact ⟨_, _, _, _, _, _, rfl, Sl.nil _ _, Sl.nil _ _, below_then hb1 (below_then' hbel hb6 (Nat.le_refl _))⟩
              · have hd : (l :: r).drop p = [] := List.drop_eq_nil_of_le (by simp only [List.length_cons]; omega)
                have hg : goU [] r = ([], 4) := by rw [hI.out, hd]; rfl
                have HE2 : Hid (readU xs = ([], [], 4)) := by show _ = _; rw [HE.out, hg]; rfl
                clear hI hd hg
                go_wp2
                go_ret3
                unfold RetRU
                rw [HE2.out]
                exact ⟨_, _, _, _, _, _, rfl, Sl.nil _ _, Sl.nil _ _, below_then hb1 hbel⟩
        | false =>
          have HE := Lib.hid (hsh (by rw [hnm]; simp))
          clear hr hsh
          go_enter Try.func55, Try.ntmps55
          go_wp2_with fail
          refine hp.mono ?_
          rintro e w1 ⟨A1, n1, c1, rfl, hL1, hb1⟩
          have hl1 := hL1.len
          simp only [List.length_cons] at hl1
          obtain ⟨b, o, A2, n2, c2, x, rfl, hb, hcell, hx, hxe, _, _⟩ := hL1.get (j := 0) (by omega)
          obtain rfl : l = x := hxe
          simp only [Nat.add_zero] at hcell
          have hl2 := hx.len
          have hle2 := hx.le
          have hcm2 := hx.cm
          unfold maxLen at hcm2
          have hx10 := hx.take_ (m := 10) (by omega)
          have q1 := hx10.str (P := Try.prog) 22 5 9 Try.underlying22 Try.underlying5 Try.underlying9
          have hbq := beg_beq hx10.wf
          rw [decide_eq_true hbg] at hbq
          obtain ⟨s1, hs1⟩ : ∃ s1, strOfNums (l.take 10) = s1 := ⟨_, rfl⟩
          rw [hs1] at q1 hbq
          have hta := hx.tail (j := 10) (by omega)
          obtain ⟨b2, o2, rfl, hb2⟩ := hx.form (by omega)
          have hcase : (c2 = 10 ∧ tailA (some ⟨b2, o2, none⟩) c2 10 = some ⟨b2, o2, none⟩) ∨ (¬ c2 = 10 ∧ tailA (some ⟨b2, o2, none⟩) c2 10 = some ⟨b2, o2 + 10, none⟩) := by
            unfold tailA
            by_cases hc : c2 = 10
            · exact .inl ⟨hc, if_pos hc⟩
            · exact .inr ⟨hc, by rw [if_neg hc, Option.map_some, add_plain]⟩
          clear hs1 hx10 hbg hx
          rcases hcase with ⟨hc, hA⟩ | ⟨hc, hA⟩
          all_goals
            rw [hA] at hta
            clear hA
            (try (subst hc; obtain rfl : n2 = 10 := by omega))
            (try simp only [Nat.sub_self] at hta)
            have hnp := r44_name hta
            rw [hnm] at hnp
            have HNP := Lib.hid hnp
            clear hnp hnm
            go_wp2_with (go_at_call 74; refine HNP.out.mono ?_; rintro e w' ⟨rfl, rfl⟩)
            go_ret3
            unfold RetRU
            rw [HE.out]
            exact ⟨_, _, _, _, _, _, rfl, Sl.nil _ _, Sl.nil _ _, hb1⟩
      · have HE := Lib.hid (hsh (fun h => hbg h.1))
        clear hr hsh
        go_enter Try.func55, Try.ntmps55
        go_wp2_with fail
        refine hp.mono ?_
        rintro e w1 ⟨A1, n1, c1, rfl, hL1, hb1⟩
        have hl1 := hL1.len
        simp only [List.length_cons] at hl1
        obtain ⟨b, o, A2, n2, c2, x, rfl, hb, hcell, hx, hxe, _, _⟩ := hL1.get (j := 0) (by omega)
        obtain rfl : l = x := hxe
        simp only [Nat.add_zero] at hcell
        have hl2 := hx.len
        have hle2 := hx.le
        have hcm2 := hx.cm
        unfold maxLen at hcm2
        have hx10 := hx.take_ (m := 10) (by omega)
        have q1 := hx10.str (P := Try.prog) 22 5 9 Try.underlying22 Try.underlying5 Try.underlying9
        have hbq := beg_beq hx10.wf
        rw [decide_eq_false hbg] at hbq
        obtain ⟨s1, hs1⟩ : ∃ s1, strOfNums (l.take 10) = s1 := ⟨_, rfl⟩
        rw [hs1] at q1 hbq
        obtain ⟨b2, o2, rfl, hb2⟩ := hx.form (by omega)
        clear hs1 hx10 hbg hx
        go_wp2
        go_ret3
        unfold RetRU
        rw [HE.out]
        exact ⟨_, _, _, _, _, _, rfl, Sl.nil _ _, Sl.nil _ _, hb1⟩
    · have HE := Lib.hid (hsh (fun h => h10 (by have := congrArg List.length h.1; rw [List.length_take, show begU.length = 10 from rfl] at this; omega)))
      clear hr hsh
      go_enter Try.func55, Try.ntmps55
      go_wp2_with fail
      refine hp.mono ?_
      rintro e w1 ⟨A1, n1, c1, rfl, hL1, hb1⟩
      have hl1 := hL1.len
      simp only [List.length_cons] at hl1
      obtain ⟨b, o, A2, n2, c2, x, rfl, hb, hcell, hx, hxe, _, _⟩ := hL1.get (j := 0) (by omega)
      obtain rfl : l = x := hxe
      simp only [Nat.add_zero] at hcell
      have hl2 := hx.len
      clear hx
      go_wp2
      go_ret3
      unfold RetRU
      rw [HE.out]
      exact ⟨_, _, _, _, _, _, rfl, Sl.nil _ _, Sl.nil _ _, hb1⟩
end Go.Proofs.Ytlmkhjegckgmcaa
