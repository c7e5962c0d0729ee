/- Layer 28's laws of ways, and of what is laid: each returns true for every input. No condition but that the arguments read as lists. -/
import Derived.Test.Ytcjfjhciobkbcaa28L
namespace Go.Proofs.Ytcjfjhciobkbcaa
open Go.RowKit

set_option maxRecDepth 100000 in
set_option maxHeartbeats 1000000 in
theorem law_AtomBack {A n c xs A' n' c' ys} {w : World} (hs : Sl w .u8 A n c xs) (ht : Sl w .u8 A' n' c' ys) : Calls Try.prog 14 #[.slice A n c, .slice A' n' c'] w (RetB (.bool true) w) := by
  have HL := Lib.hid hs.len
  have HM := Lib.hid ht.len
  by_cases hbig : 500 < n
  · go_enter Try.func14, Try.ntmps14
    go_wp2_with (go_at_call 41; refine alive28.mono ?_; rintro e w1 ⟨rfl, hb⟩)
    go_ret
    exact ⟨rfl, hb⟩
  by_cases hbig2 : 500 < n'
  · go_enter Try.func14, Try.ntmps14
    go_wp2_with (go_at_call 41; refine alive28.mono ?_; rintro e w1 ⟨rfl, hb⟩)
    go_ret
    exact ⟨rfl, hb⟩
  suffices hmain : (∀ y r, ys = y :: r → isL y 64 = false) → Calls Try.prog 14 #[.slice A n c, .slice A' n' c'] w (RetB (.bool true) w) by
    by_cases h0 : 0 < n'
    · obtain ⟨b2, o2, x, rfl, hb2, hcell, hwf, hd, _⟩ := ht.get (j := 0) h0
      simp only [Nat.add_zero] at hcell
      rw [List.drop_zero] at hd
      cases hq : isL x 64 with
      | true =>
        have HQ := Lib.hid hq
        clear hq hmain hd
        go_enter Try.func14, Try.ntmps14
        go_wp2_with (first | (go_at_call 56; refine (r01_Is hwf).mono ?_; rw [HQ.out]; rintro e w' ⟨rfl, rfl⟩) | (go_at_call 41; refine alive28.mono ?_; rintro e w1 ⟨rfl, hb⟩))
        go_ret
        exact ⟨rfl, hb⟩
      | false =>
        refine hmain fun y r h => ?_
        rw [h] at hd
        injection hd with h1 _
        rw [h1]; exact hq
    · refine hmain fun y r h => ?_
      have := HM.out
      rw [h] at this
      simp at this; omega
  intro hy
  have hv := back28 hs.wf hy
  have hfirst : 0 < n' → ∃ x, isL x 64 = false ∧ (Lit.int .u8 x).wf = true ∧ ∃ b o, A' = some ⟨b, o, none⟩ ∧ w.cell? ⟨b, o, none⟩ = some (.int .u8 x) := by
    intro h0
    obtain ⟨b2, o2, x, e, hb2, hcell, hwf, hd, _⟩ := ht.get (j := 0) h0
    simp only [Nat.add_zero] at hcell
    rw [List.drop_zero] at hd
    exact ⟨x, hy x _ hd, hwf, b2, o2, e, hcell⟩
  have HV := Lib.hid hv
  have HF := Lib.hid hfirst
  have e1 := likeL_self xs
  clear hv hy hfirst
  have hend : ∀ {w1 : World} {A1 n1 c1}, Sl w1 .u8 A1 n1 c1 (layV xs) → n1 ≤ 1002 := by
    intro w1 A1 n1 c1 h
    have h1 := h.len
    unfold layV at h1
    split at h1
    · have := HL.out; omega
    · have h2 := quoB_len xs; have h3 := HL.out; simp only [quoL, List.length_append, List.length_cons, List.length_nil] at h1; omega
  by_cases h0 : 0 < n'
  · obtain ⟨x, hq, hwf, b2, o2, rfl, hcell⟩ := HF.out h0
    have HQ := Lib.hid hq
    clear hq HF
    go_enter Try.func14, Try.ntmps14
    go_wp2_with (go_at_call 56; refine (r01_Is hwf).mono ?_; rw [HQ.out]; rintro e w' ⟨rfl, rfl⟩)
    refine (p28_Lay hs (by omega)).mono ?_
    rintro e w2 ⟨v2, rfl, ho2, hb2⟩
    obtain ⟨A2, n2, c2, rfl, hs2⟩ := ho2.sl
    clear ho2
    have hn2 := hend hs2
    have hl2 := hs2.len
    have ht2 := ht.bel hb2
    have hle0 : ([] ++ layV xs).length = n2 := hl2
    have hle1 : ([] ++ layV xs ++ ys).length = n2 + n' := by rw [List.length_append, hle0, ht.len]
    have HE := Lib.hid hle1; clear hle1
    have F4 : valV ([] ++ layV xs ++ ys) 0 = (xs, (n2 : Int), 0) := by rw [List.nil_append, HV.out, hl2]
    have F4 := Lib.hid F4
    go_wp2_with (first | (at_builtin; refine wpList_app rfl rfl eltB (by decide) rfl rfl ho3 (ht2.bel hb3) hb3 (by refine ⟨?_, ?_⟩ <;> first | omega | (simp; done) | (simp; omega)) (by first | omega | (simp; done) | (simp; omega)) ?_; intro v4 w4 ho4 hb4 hg4) | ((at_builtin; refine wpList_app rfl rfl eltB (by decide) rfl rfl (Own.nil w2 w2.heap.size _ _) hs2 (Below.refl w2.heap.size w2) (by refine ⟨?_, ?_⟩ <;> first | omega | (simp; done) | (simp; omega)) (by first | omega | (simp; done) | (simp; omega)) ?_; intro v3 w3 ho3 hb3 hg3); have hz3 := hb3.size))
    obtain ⟨A4, n4, c4, rfl, hs4⟩ := ho4.sl
    have hn4 : n4 ≤ 4000 := by have h1 := hs4.len; have h2 := HE.out; omega
    refine (p28_ValueE hs4 (by omega) (j := 0) (by unfold withL; omega) F4.out).mono ?_
    rintro e w5 ⟨v5, rfl, ho5, hb5⟩
    obtain ⟨A5, n5, c5, rfl, hs5⟩ := ho5.sl
    clear ho5 hs4 ho4
    have hb25 := below_then hb4 hb5
    have hB5 := below_then hb2 hb25
    go_wp2_with fail
    refine (r01_Like hs5 (hs.bel hB5)).mono ?_
    rintro e w6 ⟨rfl, hb6⟩
    have hB6 := below_then hB5 hb6
    go_wp2_with (go_at_call 41; refine alive28.mono ?_; rintro e w7 ⟨rfl, hb7⟩)
    go_ret
    exact ⟨rfl, below_then hB6 hb7⟩
  · obtain rfl : n' = 0 := by omega
    go_enter Try.func14, Try.ntmps14
    go_wp2_with fail
    refine (p28_Lay hs (by omega)).mono ?_
    rintro e w2 ⟨v2, rfl, ho2, hb2⟩
    obtain ⟨A2, n2, c2, rfl, hs2⟩ := ho2.sl
    clear ho2
    have hn2 := hend hs2
    have hl2 := hs2.len
    have ht2 := ht.bel hb2
    have hle0 : ([] ++ layV xs).length = n2 := hl2
    have hle1 : ([] ++ layV xs ++ ys).length = n2 + 0 := by rw [List.length_append, hle0, ht.len]
    have HE := Lib.hid hle1; clear hle1
    have F4 : valV ([] ++ layV xs ++ ys) 0 = (xs, (n2 : Int), 0) := by rw [List.nil_append, HV.out, hl2]
    have F4 := Lib.hid F4
    go_wp2_with (first | (at_builtin; refine wpList_app rfl rfl eltB (by decide) rfl rfl ho3 (ht2.bel hb3) hb3 (by refine ⟨?_, ?_⟩ <;> first | omega | (simp; done) | (simp; omega)) (by first | omega | (simp; done) | (simp; omega)) ?_; intro v4 w4 ho4 hb4 hg4) | ((at_builtin; refine wpList_app rfl rfl eltB (by decide) rfl rfl (Own.nil w2 w2.heap.size _ _) hs2 (Below.refl w2.heap.size w2) (by refine ⟨?_, ?_⟩ <;> first | omega | (simp; done) | (simp; omega)) (by first | omega | (simp; done) | (simp; omega)) ?_; intro v3 w3 ho3 hb3 hg3); have hz3 := hb3.size))
    obtain ⟨A4, n4, c4, rfl, hs4⟩ := ho4.sl
    have hn4 : n4 ≤ 4000 := by have h1 := hs4.len; have h2 := HE.out; omega
    refine (p28_ValueE hs4 (by omega) (j := 0) (by unfold withL; omega) F4.out).mono ?_
    rintro e w5 ⟨v5, rfl, ho5, hb5⟩
    obtain ⟨A5, n5, c5, rfl, hs5⟩ := ho5.sl
    clear ho5 hs4 ho4
    have hb25 := below_then hb4 hb5
    have hB5 := below_then hb2 hb25
    go_wp2_with fail
    refine (r01_Like hs5 (hs.bel hB5)).mono ?_
    rintro e w6 ⟨rfl, hb6⟩
    have hB6 := below_then hB5 hb6
    go_wp2_with (go_at_call 41; refine alive28.mono ?_; rintro e w7 ⟨rfl, hb7⟩)
    go_ret
    exact ⟨rfl, below_then hB6 hb7⟩

set_option maxRecDepth 100000 in
set_option maxHeartbeats 1000000 in
theorem ways_tail {A n c xs} {a : Int} {w : World} (hs : Sl w .u8 A n c xs) (hbig : ¬ 500 < n) : Calls Try.prog 11 #[.slice A n c, .int .i64 a] w (RetB (.bool true) w) := by
  have HL := Lib.hid hs.len
  have hwl := withL_le n a
  have hwv : (withL n a : Int) = min (max a 0) n := (withL_eq n a).symm
  obtain ⟨j, hj⟩ : ∃ j, withL n a = j := ⟨_, rfl⟩
  rw [hj] at hwl hwv
  have hg := gapL_bd (xs := xs) (k := j) (by have := HL.out; omega)
  have hid := gapL_idem xs j
  obtain ⟨g, hgg⟩ : ∃ g, gapL xs j = g := ⟨_, rfl⟩
  rw [hgg] at hid hg
  rw [HL.out] at hg
  obtain ⟨hg1, hg2⟩ := hg
  have htp := tok_plain (xs := xs) (k := g) hs.wf
  obtain ⟨⟨U, q, r⟩, hT⟩ : ∃ U, tokV xs g = U := ⟨_, rfl⟩
  rw [hT] at htp
  simp only [] at htp
  have HTP := Lib.hid htp
  have HJ := Lib.hid hj; have HG := Lib.hid hgg; have HI := Lib.hid hid; have HT := Lib.hid hT
  have HW := Lib.hid (withL_self hg2)
  clear hj hgg hid hT htp
  have hcmp : (a < 0 ∧ j = 0) ∨ (¬ a < 0 ∧ a ≤ n ∧ a = j) ∨ (¬ a < 0 ∧ ¬ a ≤ n ∧ j = n) := by omega
  clear hwv
  rcases hcmp with ⟨c1, c2⟩ | ⟨c1, c2, c3⟩ | ⟨c1, c2, c3⟩
  all_goals
    (try subst c3)
    (try subst c2)
    go_enter Try.func11, Try.ntmps11
    go_wp2_with fail
    refine (p28_GapE hs (by omega) HJ.out HG.out).mono ?_
    rintro e w1 ⟨rfl, hb1⟩
    go_wp2_with fail
    refine (p28_GapE (hs.bel hb1) (by omega) HW.out HI.out).mono ?_
    rintro e w2 ⟨rfl, hb2⟩
    have hB2 := below_then hb1 hb2
    go_wp2_with fail
    refine (p28_TokenE (hs.bel hB2) (by omega) HW.out HT.out).mono ?_
    rintro e w3 ⟨v3, rfl, ho3, hb3⟩
    have hB3 := below_then hB2 hb3
    obtain ⟨A3, n3, c3, rfl, hs3⟩ := ho3.sl
    clear ho3
    by_cases hr : r = 0
    · subst hr
      obtain ⟨t1, t2, t3⟩ := HTP.out rfl
      rw [hs3.len] at t1
      subst t1
      have hn3 : n3 ≤ 4194304 := by
        have h5 := HT.out
        have h6 := hs3.len
        have h7 : U = (tokV xs g).1 := by rw [h5]
        have h8 : (tokV xs g).1.length ≤ xs.length := by
          unfold tokV
          split
          · simp
          · split
            · simp
            · simp only [List.length_take, List.length_drop]; omega
        rw [← h7, HL.out] at h8
        omega
      have T2 := Lib.hid t2; have T3 := Lib.hid t3
      clear t2 t3
      go_wp2_with fail
      refine (p28_Plain hs3 hn3).mono ?_
      rw [T2.out]
      rintro e w' ⟨rfl, rfl⟩
      go_wp2_with fail
      refine (p28_GapE hs3 hn3 (j := 0) (by unfold withL; omega) T3.out).mono ?_
      rintro e w4 ⟨rfl, hb4⟩
      have hB4 := below_then hB3 hb4
      go_wp2_with (go_at_call 41; refine alive28.mono ?_; rintro e w5 ⟨rfl, hb5⟩)
      go_ret
      exact ⟨rfl, below_then hB4 hb5⟩
    · have fr : (r != 0) = true := by simpa using hr
      clear hr
      go_wp2_with (go_at_call 41; refine alive28.mono ?_; rintro e w5 ⟨rfl, hb5⟩)
      go_ret
      exact ⟨rfl, below_then hB3 hb5⟩
set_option maxRecDepth 100000 in
set_option maxHeartbeats 1000000 in
theorem law_AtomWays {A n c xs} {a : Int} {w : World} (hs : Sl w .u8 A n c xs) : Calls Try.prog 11 #[.slice A n c, .int .i64 a] w (RetB (.bool true) w) := by
  by_cases hbig : 500 < n
  · go_enter Try.func11, Try.ntmps11
    go_wp2_with (go_at_call 41; refine alive28.mono ?_; rintro e w1 ⟨rfl, hb⟩)
    go_ret
    exact ⟨rfl, hb⟩
  · exact ways_tail hs hbig
end Go.Proofs.Ytcjfjhciobkbcaa
