/- Layer 3's laws: each returns true for every input, and leaves what was there. No condition but that the arguments read as lists. -/
import Derived.Test.Ytilplkbepcbbmaa03
namespace Go.Proofs.Ytilplkbepcbbmaa
open Go.RowKit

theorem eval_mend : mendL [97, 55296] = [97, 65533] := by decide
theorem isSc_97 : isSc 97 = true := by decide
theorem planeL_1 : planeL 65536 = 1 := by decide
theorem checkL_10 : checkL [10] = 8 := by decide

set_option maxHeartbeats 400000 in
theorem alive03 {w : World} : Calls Try.prog 22 #[] w (RetB (.bool true) w) := by
  have hnew := Sl.new w .i32 21 [97, 55296] (by decide) (by decide)
  have hb0 : Below w.heap.size w (w.alloc (.cells #[.int .i32 97, .int .i32 55296] 21)) := (Below.refl _ _).alloc (Nat.le_refl _) _
  have HN := Lib.hid hnew; clear hnew
  go_enter Try.func22, Try.ntmps22
  go_wp2_with fail
  refine (p03_Mend HN.out (by decide)).mono ?_
  rintro e w1 ⟨v1, rfl, ho1, hb1⟩
  rw [eval_mend] at ho1
  obtain ⟨A1, n1, c1, rfl, hs1⟩ := ho1.sl
  have hn1 : n1 = 2 := hs1.len.symm
  subst hn1
  obtain ⟨b, o, rfl, hlt⟩ := hs1.form (by omega)
  have hc1 : w1.cell? ⟨b, o + 1, none⟩ = some (.int .i32 65533) := hs1.cell (j := 1) (by omega)
  have hb := below_then' hb0 hb1 (Nat.le_refl _)
  have e1 := isSc_97
  have e2 := planeL_1
  have e3 := checkL_10
  go_wp2_with (first | (go_at_call 16; refine (p03_Is (by decide)).mono ?_; rintro e w' ⟨rfl, rfl⟩) | (go_at_call 20; refine (p03_Plane (by decide)).mono ?_; rintro e w' ⟨rfl, rfl⟩) | (go_at_call 43; refine (p03_Check (Sl.one _ _ _ _ (by decide))).mono ?_; rintro e w' ⟨rfl, rfl⟩))
  go_ret
  exact ⟨rfl, hb.alloc hb.size _⟩

set_option maxHeartbeats 400000 in
theorem law_ScalarOne {c : Int} {w : World} (hc : (Lit.int .i32 c).wf = true) : Calls Try.prog 4 #[.int .i32 c] w (RetB (.bool true) w) := by
  go_enter Try.func4, Try.ntmps4
  go_wp2_with (first | (go_at_call 16; refine (p03_Is hc).mono ?_; rintro e w' ⟨rfl, rfl⟩) | (go_at_call 17; refine r03_Is.mono ?_; rintro e w' ⟨rfl, rfl⟩) | (go_at_call 18; refine p03_Surrogate.mono ?_; rintro e w' ⟨rfl, rfl⟩) | (go_at_call 19; refine r03_Surrogate.mono ?_; rintro e w' ⟨rfl, rfl⟩) | (go_at_call 20; refine (p03_Plane hc).mono ?_; rintro e w' ⟨rfl, rfl⟩) | (go_at_call 21; refine (r03_Plane hc).mono ?_; rintro e w' ⟨rfl, rfl⟩) | (go_at_call 22; refine alive03.mono ?_; rintro e w1 ⟨rfl, hb⟩))
  go_ret
  exact ⟨rfl, hb⟩

set_option maxHeartbeats 400000 in
theorem law_ScalarTexts {A n c xs} {w : World} (hs : Sl w .i32 A n c xs) : Calls Try.prog 7 #[.slice A n c] w (RetB (.bool true) w) := by
  by_cases hbig : 1000 < n
  · go_enter Try.func7, Try.ntmps7
    go_wp2_with (go_at_call 22; refine alive03.mono ?_; rintro e w1 ⟨rfl, hb⟩)
    go_ret
    exact ⟨rfl, hb⟩
  · have hR : rightL xs = decide (firstL xs < 0) := rfl
    go_enter Try.func7, Try.ntmps7
    go_wp2_with (first | (go_at_call 31; refine (r03_First hs).mono ?_; rintro e w' ⟨rfl, rfl⟩) | (go_at_call 32; refine (p03_Right hs).mono ?_; rintro e w' ⟨rfl, rfl⟩) | (go_at_call 33; refine (p03_First hs).mono ?_; rintro e w' ⟨rfl, rfl⟩) | (go_at_call 34; refine (p03_Mend hs (by omega)).mono ?_; rintro e w1 ⟨v1, rfl, ho1, hb1⟩; obtain ⟨A1, n1, c1, rfl, hs1⟩ := ho1.sl) | (go_at_call 35; refine (r03_Mend (hs.bel hb1) (by omega)).mono ?_; rintro e w2 ⟨v2, rfl, ho2, hb2⟩; obtain ⟨A2, n2, c2, rfl, hs2⟩ := ho2.sl) | (go_at_call 28; refine (r03_Like (hs1.bel hb2) hs2).mono ?_; rintro e w3 ⟨rfl, hb3⟩; have hlk := likeL_self (mendL xs)) | (go_at_call 36; refine (p03_Most (((hs.bel hb1).bel hb2).bel hb3)).mono ?_; rintro e w' ⟨rfl, rfl⟩) | (go_at_call 37; refine (r03_Most (((hs.bel hb1).bel hb2).bel hb3)).mono ?_; rintro e w' ⟨rfl, rfl⟩) | (go_at_call 22; refine alive03.mono ?_; rintro e w4 ⟨rfl, hb4⟩))
    go_ret
    exact ⟨rfl, below_then (below_then (below_then hb1 hb2) hb3) hb4⟩
theorem isSc_mend1 (x : Int) : isSc (mend1 x) = true := by
  unfold mend1; split
  · assumption
  · decide
theorem mend1_sc {x : Int} (h : isSc x = true) : mend1 x = x := by simp [mend1, h]
theorem rightL_iff (xs : List Int) : rightL xs = true ↔ ∀ x ∈ xs, isSc x = true := by
  simp [rightL, firstL, idx_neg, notSc]
theorem rightL_mend (xs : List Int) : rightL (mendL xs) = true := by
  rw [rightL_iff]; intro x hx; simp only [mendL, List.mem_map] at hx; obtain ⟨y, _, rfl⟩ := hx; exact isSc_mend1 y
theorem mendL_right {xs : List Int} (h : rightL xs = true) : mendL xs = xs := by
  rw [rightL_iff] at h; unfold mendL
  induction xs with
  | nil => rfl
  | cons x r ih => simp only [List.map_cons]; rw [mend1_sc (h x (by simp)), ih (fun y hy => h y (by simp [hy]))]
theorem right_like (xs : List Int) : rightL xs = likeL (mendL xs) xs := by
  rw [Bool.eq_iff_iff]; simp only [likeL, decide_eq_true_iff]
  exact ⟨mendL_right, fun h => h ▸ rightL_mend xs⟩
theorem mendL_length (xs : List Int) : (mendL xs).length = xs.length := by simp [mendL]

set_option maxHeartbeats 400000 in
theorem law_ScalarMends {A n c xs} {w : World} (hs : Sl w .i32 A n c xs) : Calls Try.prog 8 #[.slice A n c] w (RetB (.bool true) w) := by
  by_cases hbig : 1000 < n
  · go_enter Try.func8, Try.ntmps8
    go_wp2_with (go_at_call 22; refine alive03.mono ?_; rintro e w1 ⟨rfl, hb⟩)
    go_ret
    exact ⟨rfl, hb⟩
  · go_enter Try.func8, Try.ntmps8
    go_wp2_with fail
    refine (p03_Mend hs (by omega)).mono ?_
    rintro e w1 ⟨v1, rfl, ho1, hb1⟩
    obtain ⟨A1, n1, c1, rfl, hs1⟩ := ho1.sl
    obtain rfl : n1 = n := by have := hs1.len; have := hs.len; have := mendL_length xs; omega
    have e1 := rightL_mend xs
    have e2 : likeL (mendL (mendL xs)) (mendL xs) = true := by rw [mendL_right e1]; exact likeL_self _
    have e3 := right_like xs
    go_wp2_with fail
    refine (p03_Right hs1).mono ?_
    rintro e w' ⟨rfl, rfl⟩
    go_wp2_with fail
    refine (p03_Mend hs1 (by omega)).mono ?_
    rintro e w2 ⟨v2, rfl, ho2, hb2⟩
    obtain ⟨A2, n2, c2, rfl, hs2⟩ := ho2.sl
    go_wp2_with fail
    refine (p03_Same hs2 (hs1.bel hb2)).mono ?_
    rintro e w3 ⟨rfl, hb3⟩
    go_wp2_with fail
    refine (p03_Right (((hs.bel hb1).bel hb2).bel hb3)).mono ?_
    rintro e w' ⟨rfl, rfl⟩
    go_wp2_with fail
    refine (p03_Same ((hs1.bel hb2).bel hb3) (((hs.bel hb1).bel hb2).bel hb3)).mono ?_
    rintro e w4 ⟨rfl, hb4⟩
    go_wp2_with (go_at_call 22; refine alive03.mono ?_; rintro e w5 ⟨rfl, hb5⟩)
    go_ret
    exact ⟨rfl, below_then (below_then (below_then (below_then hb1 hb2) hb3) hb4) hb5⟩

set_option maxHeartbeats 400000 in
theorem law_ScalarChecks {A n c xs A' n' c' ys} {w : World} (hs : Sl w .i32 A n c xs) (ht : Sl w .i32 A' n' c' ys) :
    Calls Try.prog 9 #[.slice A n c, .slice A' n' c'] w (RetB (.bool true) w) := by
  by_cases hbig : 1000 < n ∨ 1000 < n'
  · rcases hbig with hbig | hbig
    · go_enter Try.func9, Try.ntmps9
      go_wp2_with (go_at_call 22; refine alive03.mono ?_; rintro e w1 ⟨rfl, hb⟩)
      go_ret
      exact ⟨rfl, hb⟩
    · by_cases h1 : 1000 < n
      · go_enter Try.func9, Try.ntmps9
        go_wp2_with (go_at_call 22; refine alive03.mono ?_; rintro e w1 ⟨rfl, hb⟩)
        go_ret
        exact ⟨rfl, hb⟩
      · go_enter Try.func9, Try.ntmps9
        go_wp2_with (go_at_call 22; refine alive03.mono ?_; rintro e w1 ⟨rfl, hb⟩)
        go_ret
        exact ⟨rfl, hb⟩
  · have h1 : n ≤ 1000 := by omega
    have h2 : n' ≤ 1000 := by omega
    clear hbig
    have e1 := likeL_self xs
    go_enter Try.func9, Try.ntmps9
    go_wp2_with (first | (go_at_call 39; refine (p03_Ends hs).mono ?_; rintro e w' ⟨rfl, rfl⟩) | (go_at_call 40; refine (r03_Ends hs).mono ?_; rintro e w' ⟨rfl, rfl⟩) | (go_at_call 41; refine (p03_Plain hs).mono ?_; rintro e w' ⟨rfl, rfl⟩) | (go_at_call 42; refine (r03_Plain hs).mono ?_; rintro e w' ⟨rfl, rfl⟩) | (go_at_call 43; refine (p03_Check hs).mono ?_; rintro e w' ⟨rfl, rfl⟩) | (go_at_call 44; refine (r03_Check hs).mono ?_; rintro e w' ⟨rfl, rfl⟩))
    refine (p03_Same hs ht).mono ?_
    rintro e w1 ⟨rfl, hb1⟩
    go_wp2_with (go_at_call 28; refine (r03_Like (hs.bel hb1) (ht.bel hb1)).mono ?_; rintro e w2 ⟨rfl, hb2⟩)
    refine (p03_Same ((hs.bel hb1).bel hb2) ((hs.bel hb1).bel hb2)).mono ?_
    rintro e w3 ⟨rfl, hb3⟩
    go_wp2_with (go_at_call 22; refine alive03.mono ?_; rintro e w4 ⟨rfl, hb4⟩)
    go_ret
    exact ⟨rfl, below_then (below_then (below_then hb1 hb2) hb3) hb4⟩
end Go.Proofs.Ytilplkbepcbbmaa
