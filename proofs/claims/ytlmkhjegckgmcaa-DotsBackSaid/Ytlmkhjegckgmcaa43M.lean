/- Layer 43's laws of what is received: each returns true for every input, and leaves what was there. Conditions: the arguments read as lists; the variable MaxLen holds a number. -/
import Derived.Test.Ytlmkhjegckgmcaa43L
namespace Go.Proofs.Ytlmkhjegckgmcaa
open Go.RowKit

theorem done_rec (xs : List Int) : decide (0 < (ahdP xs).2) = ((recV xs).2.2 == 0) := by
  rcases recV_form xs with ⟨_, _, h3, h4⟩ | ⟨h1, h2, h3⟩
  · rw [h3, h4]; rfl
  · rw [h1, h3]; simp [h2]
set_option maxRecDepth 100000 in
set_option maxHeartbeats 1000000 in
theorem law_DotsReceives {A n c xs} {w : World} (hM : MaxL w) (hs : Sl w .u8 A n c xs) : Calls Try.prog 7 #[.slice A n c] w (RetB (.bool true) w) := by
  by_cases hbig : 600 < n
  · go_enter Try.func7, Try.ntmps7
    go_wp2_with (go_at_call 31; refine (alive43 hM).mono ?_; rintro e w1 ⟨rfl, hb⟩)
    go_ret
    exact ⟨rfl, hb⟩
  · have hdr := done_rec xs
    have h1 := p43_Receive hs (by omega) hM
    have h2 := fun (W : World) (h : Sl W .u8 A n c xs) => r43_Receive h (by omega)
    have h3 := fun (W : World) (h : Sl W .u8 A n c xs) (hm : MaxL W) => p43_Strict h (by omega) hm
    have h4 := fun (W : World) (h : Sl W .u8 A n c xs) => r43_Strict h (by omega)
    have h5 := fun (W : World) (h : Sl W .u8 A n c xs) (hm : MaxL W) => p43_Done h (by omega) hm
    unfold RetRec at h1
    unfold RetR4 at h2
    unfold RetStr at h3 h4
    obtain ⟨rv, hrv⟩ : ∃ rv, recV xs = rv := ⟨_, rfl⟩
    obtain ⟨o, m, f⟩ := rv
    obtain ⟨sv, hsv⟩ : ∃ sv, strV xs = sv := ⟨_, rfl⟩
    obtain ⟨o2, f2⟩ := sv
    obtain ⟨g, hg⟩ : ∃ g, rgtV xs = g := ⟨_, rfl⟩
    simp only [hrv, hsv, hg] at h1 h2 h3 h4 hdr
    rw [hdr] at h5
    clear hrv hsv hg hdr
    obtain ⟨d, hd⟩ : ∃ d, (f == 0) = d := ⟨_, rfl⟩
    rw [hd] at h5
    have H2 := Lib.hid h2; have H3 := Lib.hid h3; have H4 := Lib.hid h4; have H5 := Lib.hid h5
    clear h2 h3 h4 h5
    cases d
    all_goals
      go_enter Try.func7, Try.ntmps7
      go_wp2_with fail
      refine h1.mono ?_
      rintro e w1 ⟨v1, rfl, ho1, hb1⟩
      obtain ⟨A1, n1, c1, rfl, hs1⟩ := ho1.sl
      clear ho1
      go_wp2_with fail
      refine (H2.out _ (hs.bel hb1)).mono ?_
      rintro e w2 ⟨v2, rfl, ho2, hb2⟩
      obtain ⟨A2, n2, c2, rfl, hs2⟩ := ho2.sl
      clear ho2
      have hB2 := below_then hb1 hb2
      go_wp2_with fail
      refine (H3.out _ (hs.bel hB2) (hM.bel hB2)).mono ?_
      rintro e w3 ⟨v3, rfl, ho3, hb3⟩
      obtain ⟨A3, n3, c3, rfl, hs3⟩ := ho3.sl
      clear ho3
      have hB3 := below_then hB2 hb3
      go_wp2_with fail
      refine (H4.out _ (hs.bel hB3)).mono ?_
      rintro e w4 ⟨v4, rfl, ho4, hb4⟩
      obtain ⟨A4, n4, c4, rfl, hs4⟩ := ho4.sl
      clear ho4
      have hB4 := below_then hB3 hb4
      have hb24 := below_then hb3 hb4
      have hb14 := below_then hb2 hb24
      go_wp2_with fail
      refine (like_true (hs1.bel hb14) (hs2.bel hb24)).mono ?_
      rintro e w5 ⟨rfl, q5, hq5⟩
      have hb5 : Below w4.heap.size w4 w5 := by rw [hq5]; exact below_drewN (Below.refl _ _) _
      clear hq5
      have hB5 := below_then hB4 hb5
      go_wp2_with fail
      refine (H5.out _ (hs.bel hB5) (hM.bel hB5)).mono ?_
      rintro e w6 ⟨rfl, hb6⟩
      have hB6 := below_then hB5 hb6
      have hb46 := below_then hb5 hb6
      go_wp2_with fail
      refine (like_true ((hs3.bel hb4).bel hb46) (hs4.bel hb46)).mono ?_
      rintro e w7 ⟨rfl, q7, hq7⟩
      have hb7 : Below w6.heap.size w6 w7 := by rw [hq7]; exact below_drewN (Below.refl _ _) _
      clear hq7
      have hB7 := below_then hB6 hb7
      go_wp2_with fail
      refine (alive43 (hM.bel hB7)).mono ?_
      rintro e w8 ⟨rfl, hb8⟩
      go_wp2
      go_ret
      exact ⟨rfl, below_then hB7 hb8⟩

theorem sendV_len (xs : List Int) : (sendV xs).length ≤ 2 * xs.length + 5 := by
  have := send_len xs
  unfold sendV; rw [List.length_append]; simp only [List.length_cons, List.length_nil]; omega
set_option maxRecDepth 100000 in
set_option maxHeartbeats 2000000 in
theorem law_DotsBack {A n c xs A' n' c' ys} {w : World} (hM : MaxL w) (hs : Sl w .u8 A n c xs) (ht : Sl w .u8 A' n' c' ys) : Calls Try.prog 8 #[.slice A n c, .slice A' n' c'] w (RetB (.bool true) w) := by
  by_cases hbig : 600 < n
  · go_enter Try.func8, Try.ntmps8
    go_wp2_with (go_at_call 31; refine (alive43 hM).mono ?_; rintro e w1 ⟨rfl, hb⟩)
    go_ret
    exact ⟨rfl, hb⟩
  · by_cases hbig2 : 300 < n'
    · go_enter Try.func8, Try.ntmps8
      go_wp2_with (go_at_call 31; refine (alive43 hM).mono ?_; rintro e w1 ⟨rfl, hb⟩)
      go_ret
      exact ⟨rfl, hb⟩
    · have hnx := hs.len
      have hny := ht.len
      have f1 := back43 xs ys
      have f2 := strict43 xs
      have f3 := bare_send xs
      have f4 := sendV_len xs
      have f5 := joinL_le xs
      have f6 := split_len xs
      have hq0 := bareV_le 0 xs
      have hS := p43_Send hs (by omega) hM
      have hW := fun (W : World) (h : Sl W .u8 A n c xs) => r26_Split h (by omega)
      have hB := fun (W : World) (h : Sl W .u8 A n c xs) => r26_Bare h (by omega)
      obtain ⟨zs, hz⟩ : ∃ zs, sendV xs = zs := ⟨_, rfl⟩
      obtain ⟨ls, hls⟩ : ∃ ls, splitL xs = ls := ⟨_, rfl⟩
      obtain ⟨q, hq⟩ : ∃ q, bareV 0 xs = q := ⟨_, rfl⟩
      simp only [hz, hls, hq] at f1 f2 f3 f4 f5 f6 hq0 hS hW hB
      have F1 := Lib.hid f1; have F2 := Lib.hid f2; have F3 := Lib.hid f3
      have HS := Lib.hid hS; have HW := Lib.hid hW; have HB := Lib.hid hB
      clear hz hls hq f1 f2 f3 hS hW hB
      by_cases hq1 : 0 < q
      · have e1 : strV zs = ([], 8) := by rw [F2.out, if_pos hq1]
        have F2' := Lib.hid e1; clear e1
        have g0 : (q == 0) = false := by simp; omega
        go_enter Try.func8, Try.ntmps8
        go_wp2_with fail
        refine HS.out.mono ?_
        rintro e w1 ⟨v1, rfl, ho1, hb1⟩
        obtain ⟨A1, n1, c1, rfl, hs1⟩ := ho1.sl
        have hl1 := hs1.len
        clear ho1
        go_wp2_with fail
        refine (HW.out _ (hs.bel hb1)).mono ?_
        rintro e w2 ⟨A2, n2, c2, rfl, hL2, hb2⟩
        have hl2 := hL2.len
        have hB2 := below_then hb1 hb2
        go_wp2_with fail
        refine (r26_Join hL2 (by omega) (by omega)).mono ?_
        rintro e w3 ⟨v3, rfl, ho3, hb3⟩
        obtain ⟨A3, n3, c3, rfl, hs3⟩ := ho3.sl
        clear ho3
        have hB3 := below_then hB2 hb3
        have hs13 := (hs1.bel hb2).bel hb3
        have ht3 := ht.bel hB3
        go_wp2_with (first | (at_builtin; refine wpList_app rfl rfl eltB (by decide) rfl rfl ho4 (ht3.bel hb4) hb4 (by refine ⟨?_, ?_⟩ <;> first | omega | (simp; done) | (simp; omega)) (by first | omega | (simp; done) | (simp; omega)) ?_; intro v5 w5 ho5 hb5 hg5) | ((at_builtin; refine wpList_app rfl rfl eltB (by decide) rfl rfl (Own.nil _ w3.heap.size _ _) hs13 (Below.refl w3.heap.size w3) (by refine ⟨?_, ?_⟩ <;> first | omega | (simp; done) | (simp; omega)) (by first | omega | (simp; done) | (simp; omega)) ?_; intro v4 w4 ho4 hb4 hg4); have hz4 := hb4.size; have hl4 : ([] ++ zs).length ≤ 2000 := by (simp; omega)))
        rw [List.nil_append] at ho5
        obtain ⟨A5, n5, c5, rfl, hs5⟩ := ho5.sl
        have hl5 := hs5.len
        rw [List.length_append] at hl5
        clear ho5 ht3
        have hB5 := below_then hB3 hb5
        refine (p43_Receive hs5 (by omega) (hM.bel hB5)).mono ?_
        unfold RetRec
        rw [F1.out]
        rintro e w6 ⟨v6, rfl, ho6, hb6⟩
        obtain ⟨A6, n6, c6, rfl, hs6⟩ := ho6.sl
        clear ho6
        have hB6 := below_then hB5 hb6
        have hb36 := below_then hb5 hb6
        have hs16 := hs13.bel hb36
        go_wp2_with fail
        refine (p43_Strict hs16 (by omega) (hM.bel hB6)).mono ?_
        unfold RetStr
        rw [F2'.out]
        rintro e w7 ⟨v7, rfl, ho7, hb7⟩
        obtain ⟨A7, n7, c7, rfl, hs7⟩ := ho7.sl
        clear ho7
        have hB7 := below_then hB6 hb7
        have hs17 := hs16.bel hb7
        have hb37 := below_then hb36 hb7
        go_wp2_with fail
        refine (HB.out _ (hs.bel hB7)).mono ?_
        rintro e w' ⟨rfl, rfl⟩
        go_wp2_with fail
        refine (HB.out _ (hs.bel hB7)).mono ?_
        rintro e w' ⟨rfl, rfl⟩
        go_wp2_with fail
        refine (r26_Bare hs17 (by omega)).mono ?_
        rw [F3.out]
        rintro e w' ⟨rfl, rfl⟩
        go_wp2_with fail
        refine (like_true (hs6.bel hb7) (hs3.bel hb37)).mono ?_
        rintro e w8 ⟨rfl, q8, hq8⟩
        have hb8 : Below w7.heap.size w7 w8 := by rw [hq8]; exact below_drewN (Below.refl _ _) _
        clear hq8
        have hB8 := below_then hB7 hb8
        have hl1' : (zs.length : Int) = (n1 : Int) := by omega
        have el : ((zs.length : Int) == (n1 : Int)) = true := by simpa using hl1'
        go_wp2_with fail
        refine (alive43 (hM.bel hB8)).mono ?_
        rintro e w9 ⟨rfl, hb9⟩
        go_wp2
        go_ret
        exact ⟨rfl, below_then hB8 hb9⟩
      · obtain rfl : q = 0 := by omega
        have e1 : strV zs = (joinL ls, 0) := by rw [F2.out, if_neg hq1]
        have F2' := Lib.hid e1; clear e1
        go_enter Try.func8, Try.ntmps8
        go_wp2_with fail
        refine HS.out.mono ?_
        rintro e w1 ⟨v1, rfl, ho1, hb1⟩
        obtain ⟨A1, n1, c1, rfl, hs1⟩ := ho1.sl
        have hl1 := hs1.len
        clear ho1
        go_wp2_with fail
        refine (HW.out _ (hs.bel hb1)).mono ?_
        rintro e w2 ⟨A2, n2, c2, rfl, hL2, hb2⟩
        have hl2 := hL2.len
        have hB2 := below_then hb1 hb2
        go_wp2_with fail
        refine (r26_Join hL2 (by omega) (by omega)).mono ?_
        rintro e w3 ⟨v3, rfl, ho3, hb3⟩
        obtain ⟨A3, n3, c3, rfl, hs3⟩ := ho3.sl
        clear ho3
        have hB3 := below_then hB2 hb3
        have hs13 := (hs1.bel hb2).bel hb3
        have ht3 := ht.bel hB3
        go_wp2_with (first | (at_builtin; refine wpList_app rfl rfl eltB (by decide) rfl rfl ho4 (ht3.bel hb4) hb4 (by refine ⟨?_, ?_⟩ <;> first | omega | (simp; done) | (simp; omega)) (by first | omega | (simp; done) | (simp; omega)) ?_; intro v5 w5 ho5 hb5 hg5) | ((at_builtin; refine wpList_app rfl rfl eltB (by decide) rfl rfl (Own.nil _ w3.heap.size _ _) hs13 (Below.refl w3.heap.size w3) (by refine ⟨?_, ?_⟩ <;> first | omega | (simp; done) | (simp; omega)) (by first | omega | (simp; done) | (simp; omega)) ?_; intro v4 w4 ho4 hb4 hg4); have hz4 := hb4.size; have hl4 : ([] ++ zs).length ≤ 2000 := by (simp; omega)))
        rw [List.nil_append] at ho5
        obtain ⟨A5, n5, c5, rfl, hs5⟩ := ho5.sl
        have hl5 := hs5.len
        rw [List.length_append] at hl5
        clear ho5 ht3
        have hB5 := below_then hB3 hb5
        refine (p43_Receive hs5 (by omega) (hM.bel hB5)).mono ?_
        unfold RetRec
        rw [F1.out]
        rintro e w6 ⟨v6, rfl, ho6, hb6⟩
        obtain ⟨A6, n6, c6, rfl, hs6⟩ := ho6.sl
        clear ho6
        have hB6 := below_then hB5 hb6
        have hb36 := below_then hb5 hb6
        have hs16 := hs13.bel hb36
        go_wp2_with fail
        refine (p43_Strict hs16 (by omega) (hM.bel hB6)).mono ?_
        unfold RetStr
        rw [F2'.out]
        rintro e w7 ⟨v7, rfl, ho7, hb7⟩
        obtain ⟨A7, n7, c7, rfl, hs7⟩ := ho7.sl
        clear ho7
        have hB7 := below_then hB6 hb7
        have hs17 := hs16.bel hb7
        have hb37 := below_then hb36 hb7
        go_wp2_with fail
        refine (HB.out _ (hs.bel hB7)).mono ?_
        rintro e w' ⟨rfl, rfl⟩
        go_wp2_with fail
        refine (like_true hs7 (hs3.bel hb37)).mono ?_
        rintro e w8 ⟨rfl, q8, hq8⟩
        have hb8 : Below w7.heap.size w7 w8 := by rw [hq8]; exact below_drewN (Below.refl _ _) _
        clear hq8
        have hB8 := below_then hB7 hb8
        go_wp2_with fail
        refine (HB.out _ (hs.bel hB8)).mono ?_
        rintro e w' ⟨rfl, rfl⟩
        go_wp2_with fail
        refine (like_true ((hs6.bel hb7).bel hb8) ((hs3.bel hb37).bel hb8)).mono ?_
        rintro e w9 ⟨rfl, q9, hq9⟩
        have hb9 : Below w8.heap.size w8 w9 := by rw [hq9]; exact below_drewN (Below.refl _ _) _
        clear hq9
        have hB9 := below_then hB8 hb9
        have hl1' : (zs.length : Int) = (n1 : Int) := by omega
        have el : ((zs.length : Int) == (n1 : Int)) = true := by simpa using hl1'
        go_wp2_with fail
        refine (alive43 (hM.bel hB9)).mono ?_
        rintro e w10 ⟨rfl, hb10⟩
        go_wp2
        go_ret
        exact ⟨rfl, below_then hB9 hb10⟩
end Go.Proofs.Ytlmkhjegckgmcaa
