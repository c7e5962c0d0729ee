/- Layer 16 (bwrap) in plain words: lines of a code; no program. Conditions: each lemma bears its own. -/
import Derived.Test.Ytibnmekifaaacaa15S
import Derived.Test.Ytibnmekifaaacaa26S
namespace Go.Proofs.Ytibnmekifaaacaa

/-- lines of 76 octets; so many are in this one -/
def wrA : Nat → List Int → List Int
  | _, [] => []
  | k, x :: r => if k = 75 ∨ r = [] then x :: 13 :: 10 :: wrA 0 r else x :: wrA (k + 1) r
def wrapL (xs : List Int) : List Int := wrA 0 xs
theorem wrA_end {k : Nat} {x : Int} {r : List Int} (h : k = 75 ∨ r = []) : wrA k (x :: r) = x :: 13 :: 10 :: wrA 0 r := by rw [wrA, if_pos h]
theorem wrA_on {k : Nat} {x : Int} {r : List Int} (h : ¬ k = 75) (h' : ¬ r = []) : wrA k (x :: r) = x :: wrA (k + 1) r := by rw [wrA, if_neg (by rintro (h1 | h1); exact h h1; exact h' h1)]
theorem wrA_line (l : List Int) : ∀ k, k ≤ 75 → l ≠ [] → wrA k l = l.take (76 - k) ++ [13, 10] ++ wrA 0 (l.drop (76 - k)) := by
  induction l with
  | nil => intro k _ h; exact absurd rfl h
  | cons x r ih =>
    intro k hk _
    obtain ⟨d, hd⟩ : ∃ d, 76 - k = d + 1 := ⟨75 - k, by omega⟩
    by_cases h75 : k = 75
    · subst h75
      rw [wrA_end (.inl rfl)]; rfl
    · by_cases hr : r = []
      · subst hr
        rw [wrA_end (.inr rfl), hd]; simp [wrA]
      · rw [wrA_on h75 hr, ih (k + 1) (by omega) hr, hd, List.take_succ_cons, List.drop_succ_cons, show 76 - (k + 1) = d from by omega]
        rfl
theorem wrap_line {l : List Int} (h : l ≠ []) : wrapL l = l.take 76 ++ [13, 10] ++ wrapL (l.drop 76) := wrA_line l 0 (by omega) h
theorem wrap_nil : wrapL [] = [] := rfl
/-- a rule for lines of 76 octets -/
theorem line_ind {P : List Int → Prop} (h0 : P []) (h1 : ∀ l, l ≠ [] → P (l.drop 76) → P l) (xs : List Int) : P xs := by
  suffices h : ∀ n, ∀ xs : List Int, xs.length ≤ n → P xs from h xs.length xs (Nat.le_refl _)
  intro n
  induction n with
  | zero => intro xs hx; have : xs = [] := List.eq_nil_of_length_eq_zero (by omega); subst this; exact h0
  | succ n ih =>
    intro xs hx
    by_cases h : xs = []
    · subst h; exact h0
    · have h2 : 0 < xs.length := List.length_pos_iff.2 h
      exact h1 xs h (ih _ (by rw [List.length_drop]; omega))
def linN (n : Int) : Int := (lenL n + 75) / 76
def wlenL (n : Int) : Int := lenL n + 2 * linN n
theorem wrap_len (xs : List Int) : (wrapL xs).length = xs.length + 2 * ((xs.length + 75) / 76) := by
  refine line_ind (P := fun xs => (wrapL xs).length = xs.length + 2 * ((xs.length + 75) / 76)) rfl ?_ xs
  intro l hl ih
  have h2 : 0 < l.length := List.length_pos_iff.2 hl
  rw [wrap_line hl]
  simp only [List.length_append, List.length_take, List.length_drop, List.length_cons, List.length_nil] at ih ⊢
  rw [ih]; omega
theorem wrap_wlen (xs : List Int) : wlenL (xs.length : Int) = ((wrapL (layL xs)).length : Int) := by
  have h : lenL (xs.length : Int) = ((layL xs).length : Int) := by
    rcases Nat.eq_zero_or_pos xs.length with h | h
    · have : xs = [] := List.eq_nil_of_length_eq_zero h
      subst this; rfl
    · rw [layL_length xs h]; unfold lenL; rw [if_neg (by omega)]; omega
  unfold wlenL linN
  rw [wrap_len, h]; omega
theorem lenL_bd (n : Int) (h : n ≤ 1152921504606846976) : 0 ≤ lenL n ∧ lenL n ≤ 1537228672809129304 := by unfold lenL; split <;> omega

/-- what a check of lines tells: how long the last one is, how many there are; none: it fails -/
def chkW (long lines : Int) : List Int → Option (Int × Int)
  | [] => some (long, lines)
  | [x] => if x ≠ 13 then some (long + 1, lines) else none
  | x :: y :: r => if x ≠ 13 then chkW (long + 1) lines (y :: r) else if y ≠ 10 ∨ long = 0 ∨ 76 < long ∨ (long < 76 ∧ r ≠ []) then none else chkW 0 (lines + 1) r
theorem chkW_nil {long lines : Int} : chkW long lines [] = some (long, lines) := by rw [chkW]
theorem chkW_on {long lines x : Int} {r : List Int} (h : x ≠ 13) : chkW long lines (x :: r) = chkW (long + 1) lines r := by
  cases r with
  | nil => rw [chkW_nil]; unfold chkW; rw [if_pos h]
  | cons y r =>
    conv => lhs; unfold chkW
    rw [if_pos h]
theorem chkW_last {long lines : Int} : chkW long lines [13] = none := by unfold chkW; rw [if_neg (by decide)]
theorem chkW_bad {long lines y : Int} {r : List Int} (h : y ≠ 10 ∨ long = 0 ∨ 76 < long ∨ (long < 76 ∧ r ≠ [])) : chkW long lines (13 :: y :: r) = none := by unfold chkW; rw [if_neg (by decide), if_pos h]
theorem chkW_good {long lines y : Int} {r : List Int} (h : ¬ (y ≠ 10 ∨ long = 0 ∨ 76 < long ∨ (long < 76 ∧ r ≠ []))) : chkW long lines (13 :: y :: r) = chkW 0 (lines + 1) r := by
  conv => lhs; unfold chkW
  rw [if_neg (by decide), if_neg h]
theorem chkW_run (a r : List Int) (h : ∀ x ∈ a, x ≠ 13) : ∀ long lines, chkW long lines (a ++ r) = chkW (long + a.length) lines r := by
  induction a with
  | nil => intro long lines; simp
  | cons x t ih =>
    intro long lines
    rw [List.cons_append, chkW_on (h x (by simp)), ih (fun y hy => h y (by simp [hy]))]
    congr 1; simp only [List.length_cons]; push_cast; omega
theorem chkW_wrap (xs : List Int) (h : ∀ x ∈ xs, x ≠ 13) : ∀ lines, chkW 0 lines (wrapL xs) = some (0, lines + ((xs.length : Int) + 75) / 76) := by
  revert h
  refine line_ind (P := fun xs => (∀ x ∈ xs, x ≠ 13) → ∀ lines, chkW 0 lines (wrapL xs) = some (0, lines + ((xs.length : Int) + 75) / 76)) ?_ ?_ xs
  · intro _ lines; rw [wrap_nil, chkW_nil]; simp
  · intro l hl ih h lines
    have h2 : 0 < l.length := List.length_pos_iff.2 hl
    have ih := ih (fun x hx => h x (List.mem_of_mem_drop hx))
    rw [wrap_line hl, List.append_assoc, chkW_run _ _ (fun x hx => h x (List.mem_of_mem_take hx))]
    have e : [13, 10] ++ wrapL (l.drop 76) = 13 :: 10 :: wrapL (l.drop 76) := rfl
    have hlen : (l.take 76).length = min 76 l.length := by simp
    have hg : ¬ ((10 : Int) ≠ 10 ∨ (0 + ((l.take 76).length : Int)) = 0 ∨ 76 < (0 + ((l.take 76).length : Int)) ∨ ((0 + ((l.take 76).length : Int)) < 76 ∧ wrapL (l.drop 76) ≠ [])) := by
      rw [hlen]
      rintro (h5 | h5 | h5 | ⟨h5, h6⟩)
      · exact h5 rfl
      · omega
      · omega
      · refine h6 ?_
        rw [List.drop_eq_nil_of_le (by omega)]; rfl
    rw [e, chkW_good hg, ih]
    congr 2
    rw [List.length_drop]; omega

/-- the code that lines are -/
def codA : List Int → List (List Int) → List Int → List Int × Int
  | code, [], rest => if rest = [] then (code, 0) else if 76 < rest.length then ([], 12) else ([], 4)
  | code, l :: ls, rest => if 76 < l.length then ([], 12) else if l = [] then ([], 3) else codA (code ++ l) ls rest
def codF (code cur xs : List Int) : List Int × Int := codA code (splF cur false xs).1 (splF cur false xs).2
def codL (xs : List Int) : List Int × Int := codF [] [] xs
theorem codF_nil (code cur : List Int) : codF code cur [] = if cur = [] then (code, 0) else if 76 < cur.length then ([], 12) else ([], 4) := by unfold codF; rw [splF_nil, codA]
theorem codF_one {code cur r : List Int} {x : Int} (h : nl x r = false) : codF code cur (x :: r) = codF code (cur ++ [x]) r := by unfold codF; rw [splF_one h]
theorem codF_nl (code cur r : List Int) : codF code cur (13 :: 10 :: r) = if 76 < cur.length then ([], 12) else if cur = [] then ([], 3) else codF (code ++ cur) [] r := by
  unfold codF
  rw [splF_nl, codA]; rfl
theorem codF_long (xs code cur : List Int) (h : 76 < cur.length) : codF code cur xs = ([], 12) := by
  have hne : cur ≠ [] := by intro h0; subst h0; simp at h
  unfold codF
  rcases cutI_cases xs 0 (by omega) with ⟨_, h2⟩ | ⟨k, _, _, h3⟩
  · rw [h2 cur, codA, if_neg (by simp [hne]), if_pos (by simp; omega)]
  · rw [h3 cur, codA, if_pos (by simp; omega)]
theorem codF_none {code xs : List Int} (h : cutI xs 0 = -1) (h0 : xs ≠ []) : codF code [] xs = if 76 < xs.length then ([], 12) else ([], 4) := by
  unfold codF
  rcases cutI_cases xs 0 (by omega) with ⟨_, h2⟩ | ⟨k, h1, _⟩
  · rw [h2 [], codA, List.nil_append, if_neg h0]
  · omega
theorem codF_at {code xs : List Int} {k : Nat} (h : cutI xs 0 = k) : codF code [] xs = if 76 < k then ([], 12) else if k = 0 then ([], 3) else codF (code ++ xs.take k) [] (xs.drop (k + 2)) := by
  rcases cutI_cases xs 0 (by omega) with ⟨h1, _⟩ | ⟨j, h1, h2, h3⟩
  · omega
  · have : j = k := by omega
    subst this
    have hl : (xs.take j).length = j := by simp; omega
    unfold codF
    rw [h3 [], List.nil_append, codA, hl]
    by_cases h76 : 76 < j
    · rw [if_pos h76, if_pos h76]
    · rw [if_neg h76, if_neg h76]
      by_cases hj : j = 0
      · rw [if_pos hj, if_pos (by subst hj; rfl)]
      · rw [if_neg hj, if_neg (by intro h5; rw [h5] at hl; simp at hl; omega)]; rfl
theorem codA_len (ls : List (List Int)) (rest : List Int) : ∀ code, (codA code ls rest).1.length ≤ code.length + (joinL ls).length := by
  induction ls with
  | nil => intro code; unfold codA; (repeat' split) <;> simp
  | cons l r ih =>
    intro code
    rw [joinL_cons]
    unfold codA
    split
    · simp
    · split
      · simp
      · have := ih (code ++ l); simp only [List.length_append, List.length_cons, List.length_nil] at this ⊢; omega
theorem codL_len (xs : List Int) : (codL xs).1.length ≤ xs.length := by
  have h1 := codA_len (splF [] false xs).1 (splF [] false xs).2 []
  have h2 := splF_join xs []
  have h3 : (joinL (splF [] false xs).1).length ≤ xs.length := by rw [show xs.length = ([] ++ xs).length from rfl, ← h2]; simp
  show (codA [] _ _).1.length ≤ _
  simp only [List.length_nil] at h1; omega
/-- lines of a code, read loosely, are the code's -/
theorem codA_dig (ls : List (List Int)) (rest : List Int) : ∀ code, (∀ x ∈ code, x ≠ 61) → (codA code ls rest).2 = 0 → digF ((codA code ls rest).1) = code.filter isD ++ digF (joinL ls ++ rest) := by
  have hj : ∀ (l t : List Int), digF (l ++ ([13, 10] ++ t)) = digF (l ++ t) := by
    intro l t
    induction l with
    | nil => rw [List.nil_append, List.nil_append]; show digF (13 :: 10 :: t) = _; rw [digF_no (by decide) (by decide), digF_no (by decide) (by decide)]
    | cons x r ih =>
      show digF (x :: (r ++ ([13, 10] ++ t))) = digF (x :: (r ++ t))
      by_cases h : x = 61
      · subst h; rw [digF_61, digF_61]
      · cases hd : isD x with
        | true => rw [digF_yes hd, digF_yes hd, ih]
        | false => rw [digF_no hd h, digF_no hd h, ih]
  suffices h : ∀ code, (codA code ls rest).2 = 0 → digF ((codA code ls rest).1) = digF (code ++ (joinL ls ++ rest)) by
    intro code hc h0
    rw [h code h0, digF_app hc]
  induction ls with
  | nil =>
    intro code h0
    unfold codA at h0 ⊢
    by_cases hr : rest = []
    · rw [if_pos hr, hr]; simp [joinL]
    · rw [if_neg hr] at h0
      split at h0 <;> exact absurd h0 (by decide)
  | cons l r ih =>
    intro code h0
    unfold codA at h0 ⊢
    by_cases h76 : 76 < l.length
    · rw [if_pos h76] at h0; exact absurd h0 (by decide)
    · rw [if_neg h76] at h0 ⊢
      by_cases hl : l = []
      · rw [if_pos hl] at h0; exact absurd h0 (by decide)
      · rw [if_neg hl] at h0 ⊢
        rw [ih _ h0, joinL_cons]
        simp only [List.append_assoc]
        rw [← List.append_assoc, ← List.append_assoc code l ([13, 10] ++ _), hj]
theorem codL_dig {xs : List Int} (h : (codL xs).2 = 0) : digF (codL xs).1 = digF xs := by
  have h1 := codA_dig (splF [] false xs).1 (splF [] false xs).2 [] (by simp) h
  rw [splF_join] at h1
  exact h1
/-- what is laid in lines are lines of the code -/
theorem splF_run (a r : List Int) (h : ∀ x ∈ a, x ≠ 13) : ∀ cur, splF cur false (a ++ r) = splF (cur ++ a) false r := by
  induction a with
  | nil => intro cur; simp
  | cons x t ih =>
    intro cur
    have hn : nl x (t ++ r) = false := by
      cases ht : nl x (t ++ r) with
      | true => exact absurd (nl_cons ht).1 (h x (by simp))
      | false => rfl
    rw [List.cons_append, splF_one hn, ih (fun y hy => h y (by simp [hy]))]; simp
theorem cod_wrap (xs : List Int) (h : ∀ x ∈ xs, x ≠ 13) : ∀ code, codF code [] (wrapL xs) = (code ++ xs, 0) := by
  revert h
  refine line_ind (P := fun xs => (∀ x ∈ xs, x ≠ 13) → ∀ code, codF code [] (wrapL xs) = (code ++ xs, 0)) ?_ ?_ xs
  · intro _ code; rw [wrap_nil, codF_nil]; simp
  · intro l hl ih h code
    have h2 : 0 < l.length := List.length_pos_iff.2 hl
    have ih := ih (fun x hx => h x (List.mem_of_mem_drop hx)) (code ++ l.take 76)
    unfold codF at ih ⊢
    rw [wrap_line hl, List.append_assoc, splF_run _ _ (fun x hx => h x (List.mem_of_mem_take hx)), List.nil_append]
    show codA code (splF (l.take 76) false (13 :: 10 :: wrapL (l.drop 76))).1 (splF (l.take 76) false (13 :: 10 :: wrapL (l.drop 76))).2 = _
    have h5 : ¬ 76 < (l.take 76).length := by rw [List.length_take]; omega
    have h6 : ¬ l.take 76 = [] := by intro h7; have := congrArg List.length h7; rw [List.length_take, List.length_nil] at this; omega
    rw [splF_nl, codA, if_neg h5, if_neg h6]
    show codA (code ++ l.take 76) (splF [] false (wrapL (l.drop 76))).1 (splF [] false (wrapL (l.drop 76))).2 = _
    rw [ih, List.append_assoc, List.take_append_drop]
theorem layL_no13 (xs : List Int) : ∀ x ∈ layL xs, x ≠ 13 := by
  intro x hx
  unfold layL padEq at hx
  rcases List.mem_append.1 hx with h | h
  · obtain ⟨n, rfl⟩ := bare3_all xs x h
    have := d64_val (k := n % 64) (by omega)
    unfold digL; omega
  · rw [List.eq_of_mem_replicate h]; decide
theorem code_wrap (xs : List Int) : codL (wrapL (layL xs)) = (layL xs, 0) := by
  have := cod_wrap (layL xs) (layL_no13 xs) []
  rw [List.nil_append] at this
  exact this
/-- what is read strictly of lines, and the error -/
def rd16 (xs : List Int) : List Int := if (codL xs).2 = 0 then octB (codL xs).1 else []
def er16 (xs : List Int) : Int := if (codL xs).2 = 0 then errB (codL xs).1 else (codL xs).2
theorem back16 {xs : List Int} (hw : ∀ x ∈ xs, 0 ≤ x ∧ x ≤ 255) : rd16 (wrapL (layL xs)) = xs ∧ er16 (wrapL (layL xs)) = 0 ∧ lrdL (wrapL (layL xs)) = xs ∧ wrapL (layL (lrdL (wrapL (layL xs)))) = wrapL (layL xs) := by
  obtain ⟨h1, h2⟩ := read_lay hw
  have hc := code_wrap xs
  have hl : lrdL (wrapL (layL xs)) = xs := by
    have hd := codL_dig (xs := wrapL (layL xs)) (by rw [hc])
    unfold lrdL
    rw [← hd, hc]
    show lrdL (layL xs) = xs
    rw [lrd_strict h1, h2]
  refine ⟨?_, ?_, hl, by rw [hl]⟩
  · unfold rd16; rw [hc, if_pos rfl, h2]
  · unfold er16; rw [hc, if_pos rfl, h1]
theorem both16 {xs : List Int} (h : er16 xs = 0) : lrdL xs = rd16 xs := by
  unfold er16 at h
  unfold rd16
  by_cases h0 : (codL xs).2 = 0
  · rw [if_pos h0] at h ⊢
    have hd := codL_dig h0
    unfold lrdL
    rw [← hd]
    show lrdL (codL xs).1 = _
    exact lrd_strict h
  · rw [if_neg h0] at h; exact absurd h h0
end Go.Proofs.Ytibnmekifaaacaa
