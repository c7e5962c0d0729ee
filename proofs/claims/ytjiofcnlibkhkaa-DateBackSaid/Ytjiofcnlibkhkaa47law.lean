/- Layer 47 (date): what is laid is read; days that follow each other. Conditions: the date may be. Plain lemmas. -/
import Derived.Test.Ytjiofcnlibkhkaa47rea
import Derived.Test.Ytjiofcnlibkhkaa47P
namespace Go.Proofs.Ytjiofcnlibkhkaa
open Go.RowKit

theorem gap_no {xs r : List Int} {k : Nat} {x : Int} (hd : xs.drop k = x :: r) (h : ¬ x = 40) (hb : blankL x = false) : gapL xs k = k := by unfold gapL; rw [hd, gap_none h hb]; rfl
theorem gap_sp {xs r : List Int} {k : Nat} {x : Int} (hd : xs.drop k = 32 :: x :: r) (h : ¬ x = 40) (hb : blankL x = false) : gapL xs k = k + 1 := by
  unfold gapL; rw [hd, gap_blank (by decide) (by decide +kernel), gap_none h hb]
theorem drop_on {xs w r : List Int} {k m : Nat} (hd : xs.drop k = w ++ r) (hm : w.length = m) : xs.drop (k + m) = r := by
  rw [← List.drop_drop, hd, ← hm, List.drop_left]
theorem drop_one {xs r : List Int} {k : Nat} {x : Int} (hd : xs.drop k = x :: r) : xs.drop (k + 1) = r := by
  rw [← List.drop_drop, hd]; rfl
def offK (kv : Int) : List Int → Bool
  | [] => true
  | y :: _ => !isL y kv
theorem run_of {xs w r : List Int} {k g : Nat} {kv : Int} (hg : gapL xs k = g) (hd : xs.drop g = w ++ r) (hw : ∀ x ∈ w, isL x kv = true) (hr : offK kv r = true) : runP xs kv k = w ∧ runE xs kv k = g + w.length := by
  have e : runP xs kv k = w := by
    unfold runP
    rw [hg, hd, List.takeWhile_append_of_pos (by simpa using hw)]
    cases r with
    | nil => simp
    | cons y t => simp only [offK, Bool.not_eq_true'] at hr; rw [List.takeWhile_cons, if_neg (by simp [hr]), List.append_nil]
  exact ⟨e, by unfold runE; rw [e, hg]⟩
theorem skip_of {xs r : List Int} {k g : Nat} {c : Int} (hg : gapL xs k = g) (hd : xs.drop g = c :: r) : skipV xs k c = (g + 1, true) := by
  have hl : g < xs.length := by
    rcases Nat.lt_or_ge g xs.length with h | h
    · exact h
    · rw [List.drop_eq_nil_of_le h] at hd; cases hd
  have hx : xs.getD g 0 = c := by
    have := List.drop_eq_getElem_cons hl
    rw [hd] at this
    injection this with h1 _
    simp [List.getD_eq_getElem?_getD, hl, ← h1]
  unfold skipV
  rw [hg, if_pos ⟨hl, hx⟩]
theorem skip_not {xs r : List Int} {k g : Nat} {c c' : Int} (hg : gapL xs k = g) (hd : xs.drop g = c' :: r) (hne : c' ≠ c) : skipV xs k c = (k, false) := by
  have hl : g < xs.length := by
    rcases Nat.lt_or_ge g xs.length with h | h
    · exact h
    · rw [List.drop_eq_nil_of_le h] at hd; cases hd
  unfold skipV
  rw [hg, if_neg]
  rintro ⟨_, h⟩
  have := List.drop_eq_getElem_cons hl
  rw [hd] at this
  injection this with h1 _
  apply hne
  rw [← h]
  simp [List.getD_eq_getElem?_getD, hl, ← h1]
/-! digits -/
theorem dig_is : ∀ c : Fin 10, isL (48 + (c.val : Int)) 8 = true ∧ ¬ (48 + (c.val : Int)) = 40 ∧ blankL (48 + (c.val : Int)) = false := by decide +kernel
theorem dig_at {n : Int} : isL (48 + n % 10) 8 = true ∧ ¬ (48 + n % 10) = 40 ∧ blankL (48 + n % 10) = false := by
  have := dig_is ⟨(n % 10).toNat, by omega⟩
  simp only [show (((n % 10).toNat : Nat) : Int) = n % 10 from by omega] at this
  exact this
theorem digL_all (n : Int) (m : Nat) : ∀ x ∈ digL n m, isL x 8 = true ∧ ¬ x = 40 ∧ blankL x = false := by
  induction m generalizing n with
  | zero => intro x hx; cases hx
  | succ m ih =>
    intro x hx
    unfold digL at hx
    rcases List.mem_append.1 hx with h | h
    · exact ih _ x h
    · rw [List.mem_singleton.1 h]; exact dig_at
theorem digL_num (n : Int) (m : Nat) (h0 : 0 ≤ n) (h : n < 10 ^ m) : numV (digL n m) = n := by
  induction m generalizing n with
  | zero => simp at h; unfold digL numV; simp; omega
  | succ m ih =>
    unfold digL
    rw [numV_snoc, ih (n / 10) (by omega) (by rw [Int.pow_succ] at h; omega)]
    omega
theorem num_of {xs r : List Int} {k g : Nat} {n : Int} {least most m : Nat} (hg : gapL xs k = g) (hd : xs.drop g = digL n m ++ r) (hr : offK 8 r = true) (h0 : 0 ≤ n) (h : n < 10 ^ m) (h1 : least ≤ m) (h2 : m ≤ most) : numS xs least most k = some (n, g + m) := by
  obtain ⟨e1, e2⟩ := run_of hg hd (fun x hx => (digL_all n m x hx).1) hr
  unfold numS
  rw [e1, e2, digL_len, if_pos ⟨h1, h2⟩, digL_num n m h0 h]
theorem digL_head {n : Int} {m : Nat} (hm : 0 < m) : ∃ x t, digL n m = x :: t ∧ ¬ x = 40 ∧ blankL x = false := by
  have hl := digL_len n m
  cases e : digL n m with
  | nil => rw [e] at hl; simp at hl; omega
  | cons x t => have := digL_all n m x (by rw [e]; exact List.mem_cons_self ..); exact ⟨x, t, rfl, this.2⟩
/-- a number behind a blank -/
theorem num_sp {xs r : List Int} {k : Nat} {n : Int} {least most m : Nat} (hd : xs.drop k = 32 :: (digL n m ++ r)) (hr : offK 8 r = true) (h0 : 0 ≤ n) (h : n < 10 ^ m) (h1 : least ≤ m) (h2 : m ≤ most) (hm : 0 < m) :
    numS xs least most k = some (n, k + 1 + m) ∧ xs.drop (k + 1 + m) = r := by
  obtain ⟨x, t, e, hx1, hx2⟩ := digL_head (n := n) hm
  have hg : gapL xs k = k + 1 := gap_sp (r := t ++ r) (by rw [hd, e]; rfl) hx1 hx2
  have hd2 := drop_one hd
  exact ⟨num_of hg hd2 hr h0 h h1 h2, drop_on hd2 (digL_len n m)⟩
/-- a number at once -/
theorem num_at {xs r : List Int} {k : Nat} {n : Int} {least most m : Nat} (hd : xs.drop k = digL n m ++ r) (hr : offK 8 r = true) (h0 : 0 ≤ n) (h : n < 10 ^ m) (h1 : least ≤ m) (h2 : m ≤ most) (hm : 0 < m) :
    numS xs least most k = some (n, k + m) ∧ xs.drop (k + m) = r ∧ gapL xs k = k := by
  obtain ⟨x, t, e, hx1, hx2⟩ := digL_head (n := n) hm
  have hg : gapL xs k = k := gap_no (r := t ++ r) (by rw [hd, e]; rfl) hx1 hx2
  exact ⟨num_of hg hd hr h0 h h1 h2, drop_on hd (digL_len n m), hg⟩
/-! names -/
theorem dayA : ∀ n, n < 7 → (dayL.getD n []).length = 3 ∧ (∀ x ∈ dayL.getD n [], isL x 16 = true ∧ ¬ x = 40 ∧ blankL x = false) ∧ nameV dayB (dayL.getD n []) = n := by decide +kernel
theorem monA : ∀ n, n < 12 → (monL.getD n []).length = 3 ∧ (∀ x ∈ monL.getD n [], isL x 16 = true ∧ ¬ x = 40 ∧ blankL x = false) ∧ nameV monB (monL.getD n []) = n := by decide +kernel
theorem head_of {w : List Int} (hl : w.length = 3) (h : ∀ x ∈ w, isL x 16 = true ∧ ¬ x = 40 ∧ blankL x = false) : ∃ x t, w = x :: t ∧ ¬ x = 40 ∧ blankL x = false := by
  cases w with
  | nil => simp at hl
  | cons x t => exact ⟨x, t, rfl, (h x (List.mem_cons_self ..)).2⟩
theorem off8 : isL 32 8 = false ∧ isL 58 8 = false ∧ isL 32 16 = false ∧ isL 44 16 = false := by decide +kernel
theorem bl : blankL 44 = false ∧ blankL 58 = false ∧ blankL 43 = false ∧ blankL 45 = false := by decide +kernel
theorem stepS_some {f : Stp} {l : List Int} {k : Nat} {v : Int} {k' : Nat} (h : f k = some (v, k')) : stepS f (some (l, k)) = some (l ++ [v], k') := by
  show (f k).map _ = _
  rw [h]; rfl
theorem may_all {Y M D h mi s z : Int} (hm : mayL Y M D h mi s z = true) : 1900 ≤ Y ∧ 1 ≤ D ∧ D ≤ daysL Y M ∧ 0 ≤ h ∧ h ≤ 23 ∧ 0 ≤ mi ∧ mi ≤ 59 ∧ 0 ≤ s ∧ s ≤ 60 ∧ -5999 ≤ z ∧ z ≤ 5999 := by
  unfold mayL wiL at hm
  simp only [Bool.and_eq_true, decide_eq_true_iff] at hm
  omega
/-- what is laid is read -/
theorem lay_read {Y M D h mi s z : Int} (hm : mayL Y M D h mi s z = true) : readO (layL Y M D h mi s z) = some (Y, M, D, h, mi, s, z) ∧ ¬ gapL (layL Y M D h mi s z) 0 = (layL Y M D h mi s z).length := by
  obtain ⟨m1, m2, m3, m4, m5, m6, m7, m8, m9, m10, m11⟩ := may_all hm
  obtain ⟨y1, y2, y3, y4⟩ := daysL_pos (y := Y) (m := M) (by omega)
  have hD31 := (daysL_rng Y M).2
  obtain ⟨nd, hnd, hwd⟩ := wday_rng m2 m3
  obtain ⟨nm, hnm⟩ : ∃ nm : Nat, M = (nm : Int) + 1 := ⟨(M - 1).toNat, by omega⟩
  subst hnm
  have hnm12 : nm < 12 := by omega
  have hL := layL_is (Y := Y) (h := h) (mi := mi) (s := s) (z := z) hwd
  obtain ⟨d1, d2, d3⟩ := dayA nd hnd
  obtain ⟨q1, q2, q3⟩ := monA nm hnm12
  obtain ⟨Wd, hWd⟩ : ∃ W, dayL.getD nd [] = W := ⟨_, rfl⟩
  obtain ⟨Wm, hWm⟩ : ∃ W, monL.getD nm [] = W := ⟨_, rfl⟩
  obtain ⟨lg, hlg⟩ : ∃ lg, longL D = lg := ⟨_, rfl⟩
  have hlg2 : (lg = 1 ∧ D < 10) ∨ (lg = 2 ∧ 10 ≤ D) := by rw [← hlg]; unfold longL; split <;> omega
  have hlgp : D < 10 ^ lg := by rcases hlg2 with ⟨e, hh⟩ | ⟨e, hh⟩ <;> rw [e] <;> omega
  obtain ⟨az, haz⟩ : ∃ az, absL z = az := ⟨_, rfl⟩
  have haz2 : 0 ≤ az ∧ az ≤ 5999 ∧ ((z < 0 ∧ z = -az) ∨ (¬ z < 0 ∧ z = az)) := by rw [← haz]; unfold absL; split <;> omega
  obtain ⟨sg, hsg⟩ : ∃ sg : Int, (if z < 0 then 45 else 43) = sg := ⟨_, rfl⟩
  rw [hWd, hWm, hlg, haz, hsg] at hL
  rw [hWd] at d1 d2 d3
  rw [hWm] at q1 q2 q3
  obtain ⟨xs, hxs⟩ : ∃ xs, layL Y ((nm : Int) + 1) D h mi s z = xs := ⟨_, rfl⟩
  rw [hxs] at hL ⊢
  -- the parts, one behind the other
  have e0 : xs.drop 0 = Wd ++ (44 :: 32 :: (digL D lg ++ (32 :: (Wm ++ (32 :: (digL Y 4 ++ (32 :: (digL h 2 ++ (58 :: (digL mi 2 ++ (58 :: (digL s 2 ++ (32 :: sg :: (digL (az / 60 * 100 + az % 60) 4 ++ [])))))))))))))) := by
    rw [hL]; simp
  clear hL
  obtain ⟨xd, td, ed, xd1, xd2⟩ := head_of d1 d2
  have g0 : gapL xs 0 = 0 := gap_no (by rw [e0, ed]; rfl) xd1 xd2
  obtain ⟨r1, r2⟩ := run_of g0 e0 (fun x hx => (d2 x hx).1) (by simp only [offK]; rw [off8.2.2.2]; rfl)
  have e1 := drop_on e0 d1
  have g1 := gap_no e1 (by decide) bl.1
  have s1 := skip_of g1 e1
  have e2 := drop_one e1
  have st1 : tolS xs 0 = some ((nd : Int), 4) := by
    unfold tolS
    rw [r1, r2, d1, if_pos (by omega), d3, if_pos (by omega)]
    simp only [Nat.zero_add] at s1 ⊢
    rw [s1]; rfl
  obtain ⟨st2, e3⟩ := num_sp (least := 1) (most := 2) e2 (by simp only [offK]; rw [off8.1]; rfl) (by omega) hlgp (by omega) (by omega) (by omega)
  obtain ⟨k2, hk2⟩ : ∃ k2, 0 + 3 + 1 + 1 + lg = k2 := ⟨_, rfl⟩
  rw [hk2] at st2 e3
  obtain ⟨xm, tm, em, xm1, xm2⟩ := head_of q1 q2
  have g3 : gapL xs k2 = k2 + 1 := gap_sp (by rw [e3, em]; rfl) xm1 xm2
  have e4 := drop_one e3
  obtain ⟨r3, r4⟩ := run_of g3 e4 (fun x hx => (q2 x hx).1) (by simp only [offK]; rw [off8.2.2.1]; rfl)
  have e5 := drop_on e4 q1
  have st3 : mthS xs k2 = some ((nm : Int) + 1, k2 + 1 + 3) := by unfold mthS; rw [r3, r4, q1, q3]
  obtain ⟨st4, e6⟩ := num_sp (least := 4) (most := 4) e5 (by simp only [offK]; rw [off8.1]; rfl) (by omega) (by omega) (by omega) (by omega) (by omega)
  obtain ⟨st5, e7⟩ := num_sp (least := 2) (most := 2) e6 (by simp only [offK]; rw [off8.2.1]; rfl) (by omega) (by omega) (by omega) (by omega) (by omega)
  have g7 := gap_no e7 (by decide) bl.2.1
  have s7 := skip_of g7 e7
  have e8 := drop_one e7
  obtain ⟨st6, e9, _⟩ := num_at (least := 2) (most := 2) e8 (by simp only [offK]; rw [off8.2.1]; rfl) (by omega) (by omega) (by omega) (by omega) (by omega)
  have st6' : minS xs (k2 + 1 + 3 + 1 + 4 + 1 + 2) = some (mi, k2 + 1 + 3 + 1 + 4 + 1 + 2 + 1 + 2) := by unfold minS; rw [s7]; exact st6
  have g9 := gap_no e9 (by decide) bl.2.1
  have s9 := skip_of g9 e9
  have e10 := drop_one e9
  obtain ⟨st7, e11, _⟩ := num_at (least := 2) (most := 2) e10 (by simp only [offK]; rw [off8.1]; rfl) (by omega) (by omega) (by omega) (by omega) (by omega)
  obtain ⟨k9, hk9⟩ : ∃ k9, k2 + 1 + 3 + 1 + 4 + 1 + 2 + 1 + 2 = k9 := ⟨_, rfl⟩
  rw [hk9] at st6' s9 st7 e11
  have st7' : secS xs k9 = some (s, k9 + 1 + 2) := by unfold secS; rw [s9]; exact st7
  obtain ⟨kz, hkz⟩ : ∃ kz, k9 + 1 + 2 = kz := ⟨_, rfl⟩
  rw [hkz] at st7' e11
  have hsg2 : (sg = 45 ∧ z < 0) ∨ (sg = 43 ∧ ¬ z < 0) := by rw [← hsg]; split <;> omega
  have g11 : gapL xs kz = kz + 1 := by
    rcases hsg2 with ⟨e, _⟩ | ⟨e, _⟩ <;> subst e
    · exact gap_sp e11 (by decide) bl.2.2.2
    · exact gap_sp e11 (by decide) bl.2.2.1
  have e12 := drop_one e11
  have e13 := drop_one e12
  obtain ⟨st8, e14, g13⟩ := num_at (least := 4) (most := 4) e13 rfl (by omega) (by omega) (by omega) (by omega) (by omega)
  have hh1 : (az / 60 * 100 + az % 60) % 100 = az % 60 := by omega
  have hh2 : (az / 60 * 100 + az % 60) / 100 = az / 60 := by omega
  have hz : ∀ q : Int, hoursS xs q (kz + 1 + 1) = some (q * az, kz + 1 + 1 + 4) := by
    intro q
    unfold hoursS
    rw [if_pos g13, st8]
    simp only
    rw [hh1, hh2, if_pos (by omega), show az / 60 * 60 + az % 60 = az from by omega]
  have st9 : zoneS xs kz = some (z, kz + 1 + 1 + 4) := by
    unfold zoneS
    rcases hsg2 with ⟨e, hz0⟩ | ⟨e, hz0⟩ <;> subst e
    · rw [skip_not (c := 43) g11 e12 (by decide), skip_of g11 e12]
      simp only [Bool.false_eq_true, if_false, if_true]
      rw [hz (-1)]
      congr 2; omega
    · rw [skip_of g11 e12]
      simp only [if_true]
      rw [hz 1]
      congr 2; omega
  have hlen : xs.length = kz + 1 + 1 + 4 := by
    rcases Nat.lt_trichotomy xs.length (kz + 1 + 1 + 4) with hl | hl | hl
    · exfalso
      have h9 := e13
      have : (xs.drop (kz + 1 + 1)).length = 4 := by rw [h9, List.append_nil, digL_len]
      rw [List.length_drop] at this
      omega
    · exact hl
    · exfalso
      have := congrArg List.length e14
      rw [List.length_drop] at this
      simp at this; omega
  have hgE : gapL xs (kz + 1 + 1 + 4) = xs.length := by rw [hlen]; exact gapL_end (by omega)
  have hds : dateS xs 0 = some ([(nd : Int), D, (nm : Int) + 1, Y, h, mi, s, z], kz + 1 + 1 + 4) := by
    unfold dateS
    rw [stepS_some st1, stepS_some (f := numS xs 1 2) (by simpa using st2), stepS_some st3, stepS_some (f := numS xs 4 4) st4, stepS_some (f := numS xs 2 2) st5, stepS_some (by rw [hk9] at *; exact st6'), stepS_some st7', stepS_some st9]
    rfl
  refine ⟨?_, by rw [g0, hlen]; omega⟩
  unfold readO
  rw [hds]
  simp only
  rw [if_pos ⟨hgE, hm, Or.inr hwd.symm⟩]
theorem lay_len {Y M D h mi s z : Int} (hm : mayL Y M D h mi s z = true) : (layL Y M D h mi s z).length ≤ 40 := by
  obtain ⟨m1, m2, m3, _⟩ := may_all hm
  obtain ⟨y1, y2, y3, y4⟩ := daysL_pos (y := Y) (m := M) (by omega)
  obtain ⟨nd, hnd, hwd⟩ := wday_rng m2 m3
  obtain ⟨nm, hnm⟩ : ∃ nm : Nat, M = (nm : Int) + 1 := ⟨(M - 1).toNat, by omega⟩
  subst hnm
  rw [layL_is hwd]
  have d1 := (dayA nd hnd).1
  have q1 := (monA nm (by omega)).1
  have hl : longL D ≤ 2 := by unfold longL; split <;> omega
  simp only [List.length_append, digL_len, d1, q1, List.length_cons, List.length_nil]
  omega
end Go.Proofs.Ytjiofcnlibkhkaa
