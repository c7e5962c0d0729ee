/- Layer 21: what is laid is read; what is quoted is unquoted: plain laws, and the statement of both. No condition but that the arguments read as lists. -/
import Derived.Test.Ytcjfjhciobkbcaa21M
namespace Go.Proofs.Ytcjfjhciobkbcaa
open Go.RowKit

theorem hex_back {x : Int} (h : 0 ≤ x ∧ x ≤ 255) : pairV (hexD (x / 16)) (hexD (x % 16)) = x ∧ isH (hexD (x / 16)) = true ∧ isH (hexD (x % 16)) = true := by
  have := byteAll (fun x => decide (pairV (hexD (x / 16)) (hexD (x % 16)) = x ∧ isH (hexD (x / 16)) = true ∧ isH (hexD (x % 16)) = true)) (by decide +kernel) h
  exact of_decide_eq_true this
theorem not37 : isL 37 256 = false := by decide +kernel
theorem ev_lay {xs : List Int} (h : ∀ x ∈ xs, (Lit.int .u8 x).wf = true) : ev 0 (lay21 xs) = xs.map fun x => (x, !isL x 256) := by
  induction xs with
  | nil => rfl
  | cons x r ih =>
    have hx := wf_u8.1 (h x (by simp))
    have ih := ih fun y hy => h y (by simp [hy])
    have e : lay21 (x :: r) = one21 x ++ lay21 r := by simp [lay21]
    rw [e]
    cases hq : isL x 256 with
    | true =>
      have e1 : one21 x = [x] := by unfold one21; rw [hq]; rfl
      have hne : x ≠ 37 := by intro h37; rw [h37, not37] at hq; cases hq
      rw [e1, List.singleton_append, ev_one (tak_none (esc_sign hne)).2, ih, List.map_cons, hq]; rfl
    | false =>
      have e1 : one21 x = escL 37 x := by unfold one21; rw [hq]; rfl
      have hp := esc_pairV (sg := 37) (a := hexD (x / 16)) (b := hexD (x % 16)) (r := lay21 r)
      obtain ⟨b1, b2, b3⟩ := hex_back hx
      rw [b1, b2, b3] at hp
      have e2 : escL 37 x ++ lay21 r = 37 :: hexD (x / 16) :: hexD (x % 16) :: lay21 r := rfl
      rw [e1, e2, ev_esc (by rw [hp.2]; rfl), hp.1, List.map_cons, hq, ← ih]; rfl
theorem back_fs {xs : List Int} (h : ∀ x ∈ xs, (Lit.int .u8 x).wf = true) : fsV (ev 0 (lay21 xs)) = xs := by rw [ev_lay h]; simp [fsV, Function.comp_def]
theorem back_rt {xs : List Int} (h : ∀ x ∈ xs, (Lit.int .u8 x).wf = true) : chkV (lay21 xs) = 0 := by
  unfold chkV; rw [ev_lay h]
  have : rtV (xs.map fun x => (x, !isL x 256)) = true := by simp [rtV]
  rw [this]; rfl
theorem st_nil (xs : List Int) : stV (xs.map fun x => (x, !isL x 256)) = 0 := by
  induction xs with
  | nil => rfl
  | cons x r ih =>
    have e : stV ((x :: r).map fun x => (x, !isL x 256)) = (if x = 37 ∧ (!isL x 256) = false then (1 : Int) else 0) + stV (r.map fun x => (x, !isL x 256)) := by simp [stV]
    rw [e, ih, if_neg]; · rfl
    · rintro ⟨h1, h2⟩; subst h1; rw [not37] at h2; cases h2
theorem back_st {xs : List Int} (h : ∀ x ∈ xs, (Lit.int .u8 x).wf = true) : stV (ev 0 (lay21 xs)) = 0 := by rw [ev_lay h]; exact st_nil xs
theorem unq_back (xs bs out : List Int) (i : Int) : unq (xs.flatMap quo21 ++ 34 :: bs) out i false = (out ++ xs, i + (xs.flatMap quo21).length + 1, 0) := by
  induction xs generalizing out i with
  | nil => simp [unq_q]
  | cons x r ih =>
    by_cases hq : x = 34 ∨ x = 92
    · have e : (x :: r).flatMap quo21 ++ 34 :: bs = 92 :: x :: (r.flatMap quo21 ++ 34 :: bs) := by simp [quo_yes hq]
      have el : ((x :: r).flatMap quo21).length = 2 + (r.flatMap quo21).length := by simp [quo_yes hq]; omega
      rw [e, unq_b, unq_t, ih, el]
      refine Prod.ext (by simp) (Prod.ext ?_ rfl)
      simp only []; push_cast; omega
    · have h1 : ¬ x = 34 := fun h => hq (.inl h)
      have h2 : ¬ x = 92 := fun h => hq (.inr h)
      have e : (x :: r).flatMap quo21 ++ 34 :: bs = x :: (r.flatMap quo21 ++ 34 :: bs) := by simp [quo_no h1 h2]
      have el : ((x :: r).flatMap quo21).length = 1 + (r.flatMap quo21).length := by simp [quo_no h1 h2]; omega
      rw [e, unq_o h1 h2, ih, el]
      refine Prod.ext (by simp) (Prod.ext ?_ rfl)
      simp only []; push_cast; omega
theorem quo_back (xs bs : List Int) : unqS (quoL xs ++ bs) = (xs, ((quoL xs).length : Int), 0) := by
  have e : quoL xs ++ bs = 34 :: (xs.flatMap quo21 ++ 34 :: bs) := by simp [quoL, quoB]
  have el : (quoL xs).length = (xs.flatMap quo21).length + 2 := by simp [quoL, quoB]
  rw [e, el, unqS, if_pos rfl, unq_back]
  refine Prod.ext (by simp) (Prod.ext ?_ rfl)
  simp only []; push_cast; omega

set_option maxRecDepth 100000 in
set_option maxHeartbeats 1000000 in
theorem law_PctBack {A n c xs A' n' c' ys} {w : World} (hs : Sl w .u8 A n c xs) (ht : Sl w .u8 A' n' c' ys) : Calls Try.prog 10 #[.slice A n c, .slice A' n' c'] w (RetB (.bool true) w) := by
  by_cases hbig : 1000 < n
  · go_enter Try.func10, Try.ntmps10
    go_wp2_with (go_at_call 27; refine alive21.mono ?_; rintro e w1 ⟨rfl, hb⟩)
    go_ret
    exact ⟨rfl, hb⟩
  by_cases hbig2 : 1000 < n'
  · go_enter Try.func10, Try.ntmps10
    go_wp2_with (go_at_call 27; refine alive21.mono ?_; rintro e w1 ⟨rfl, hb⟩)
    go_ret
    exact ⟨rfl, hb⟩
  · have e1 := likeL_self xs
    have F1 := Lib.hid (back_fs hs.wf)
    have F2 := Lib.hid (back_rt hs.wf)
    have F3 := Lib.hid (back_st hs.wf)
    have HL := Lib.hid hs.len
    have HM := Lib.hid ht.len
    go_enter Try.func10, Try.ntmps10
    go_wp2_with fail
    refine (p21_Lay hs (by omega)).mono ?_
    rintro e w1 ⟨v1, rfl, ho1, hb1⟩
    obtain ⟨A1, n1, c1, rfl, hs1⟩ := ho1.sl
    clear ho1
    have hn1 : n1 ≤ 3000 := by have := lay21_len xs; have := hs1.len; have := HL.out; omega
    go_wp2_with fail
    refine (p21_Quote (hs.bel hb1) (by omega)).mono ?_
    rintro e w2 ⟨v2, rfl, ho2, hb2⟩
    obtain ⟨A2, n2, c2, rfl, hs2⟩ := ho2.sl
    clear ho2
    have hl2 := hs2.len
    have hn2 : n2 ≤ 2002 := by have h1 := quoB_len xs; have h2 := HL.out; have h3 := hl2; simp only [quoL, List.length_append, List.length_cons, List.length_nil] at h3; omega
    have hB2 := below_then hb1 hb2
    have ht2 := ht.bel hB2
    have hle0 : ([] ++ quoL xs).length = n2 := hl2
    have F4 : unqS ([] ++ quoL xs ++ ys) = (xs, (n2 : Int), 0) := by rw [List.nil_append, quo_back, hl2]
    have F4 := Lib.hid F4
    have hle1 : ([] ++ quoL xs ++ ys).length = n2 + n' := by rw [List.length_append, hle0, ht.len]
    have HE := Lib.hid hle1; clear hle1
    go_wp2_with (first | (at_builtin; refine wpList_app rfl rfl eltB (by decide) rfl rfl ho3 (ht2.bel hb3) hb3 (by refine ⟨?_, ?_⟩ <;> first | omega | (simp; done) | (simp; omega)) (by first | omega | (simp; done) | (simp; omega)) ?_; intro v4 w4 ho4 hb4 hg4) | ((at_builtin; refine wpList_app rfl rfl eltB (by decide) rfl rfl (Own.nil w2 w2.heap.size _ _) hs2 (Below.refl w2.heap.size w2) (by refine ⟨?_, ?_⟩ <;> first | omega | (simp; done) | (simp; omega)) (by first | omega | (simp; done) | (simp; omega)) ?_; intro v3 w3 ho3 hb3 hg3); have hz3 := hb3.size))
    obtain ⟨A4, n4, c4, rfl, hs4⟩ := ho4.sl
    have hn4 : n4 ≤ 4000 := by have h1 := hs4.len; have h2 := HE.out; omega
    refine (p21_Unquote hs4 (by omega)).mono ?_
    rintro e w5 h5
    rw [F4.out] at h5
    obtain ⟨v5, rfl, ho5, hb5⟩ := h5
    obtain ⟨A5, n5, c5, rfl, hs5⟩ := ho5.sl
    clear ho5 hs4 ho4
    have hb25 := below_then hb4 hb5
    have hB5 := below_then hB2 hb25
    have hs1c := (hs1.bel hb2).bel hb25
    go_wp2_with fail
    refine (p21_Read hs1c (by omega)).mono ?_
    rintro e w6 ⟨v6, rfl, ho6, hb6⟩
    rw [F1.out] at ho6
    obtain ⟨A6, n6, c6, rfl, hs6⟩ := ho6.sl
    clear ho6
    have hB6 := below_then hB5 hb6
    go_wp2_with fail
    refine (r01_Like hs6 (hs.bel hB6)).mono ?_
    rintro e w7 ⟨rfl, hb7⟩
    have hb67 := below_then hb6 hb7
    have hB7 := below_then hB5 hb67
    go_wp2_with fail
    refine (p21_Check (hs1c.bel hb67) (by omega)).mono ?_
    rintro e w8 ⟨rfl, hb8⟩
    rw [F2.out]
    have hb68 := below_then hb67 hb8
    have hB8 := below_then hB5 hb68
    go_wp2_with fail
    refine (p21_Strange (hs1c.bel hb68) (by omega)).mono ?_
    rintro e w9 ⟨rfl, hb9⟩
    rw [F3.out]
    have hb69 := below_then hb68 hb9
    have hB9 := below_then hB5 hb69
    go_wp2_with fail
    refine (r01_Like (hs5.bel hb69) (hs.bel hB9)).mono ?_
    rintro e w10 ⟨rfl, hb10⟩
    have hB10 := below_then hB9 hb10
    go_wp2_with (go_at_call 27; refine alive21.mono ?_; rintro e w11 ⟨rfl, hb11⟩)
    go_ret
    exact ⟨rfl, below_then hB10 hb11⟩
end Go.Proofs.Ytcjfjhciobkbcaa
