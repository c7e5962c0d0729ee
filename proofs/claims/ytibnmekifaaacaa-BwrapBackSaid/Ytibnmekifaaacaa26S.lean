/- Layer 26 (lines) in plain words: octets in lines; no program. Conditions: each lemma bears its own. -/
import Derived.Test.YtibnmekifaaacaaKit
namespace Go.Proofs.Ytibnmekifaaacaa

/-- do 13 and 10 stand here? -/
def nl (x : Int) : List Int → Bool
  | [] => false
  | y :: _ => decide (x = 13) && decide (y = 10)
/-- the lines that end, and what is left; the line so far; whether a 10 is passed over -/
def splF : List Int → Bool → List Int → List (List Int) × List Int
  | cur, _, [] => ([], cur)
  | cur, true, _ :: r => splF cur false r
  | cur, false, x :: r => if nl x r then (cur :: (splF [] true r).1, (splF [] true r).2) else splF (cur ++ [x]) false r
def doneL (xs : List Int) : List (List Int) := (splF [] false xs).1
def restL (xs : List Int) : List Int := (splF [] false xs).2
def splitL (xs : List Int) : List (List Int) := if restL xs = [] then doneL xs else doneL xs ++ [restL xs]
def endsV (xs : List Int) : Bool := decide (restL xs = [])
def joinL (ls : List (List Int)) : List Int := ls.flatMap fun l => l ++ [13, 10]
def wholeL (xs : List Int) : List Int := if endsV xs then xs else xs ++ [13, 10]

theorem nl_cons {x : Int} {r : List Int} (h : nl x r = true) : x = 13 ∧ ∃ r', r = 10 :: r' := by
  cases r with
  | nil => cases h
  | cons y r' =>
    simp only [nl, Bool.and_eq_true, decide_eq_true_iff] at h
    exact ⟨h.1, r', by rw [h.2]⟩
theorem nl_yes (r : List Int) : nl 13 (10 :: r) = true := rfl
theorem splF_nil (cur : List Int) (b : Bool) : splF cur b [] = ([], cur) := by cases b <;> rfl
theorem splF_nl (cur r : List Int) : splF cur false (13 :: 10 :: r) = (cur :: doneL r, restL r) := by
  rw [splF, if_pos (nl_yes r), splF]; rfl
theorem splF_one {cur r : List Int} {x : Int} (h : nl x r = false) : splF cur false (x :: r) = splF (cur ++ [x]) false r := by
  rw [splF, if_neg (by simp [h])]
/-- a rule for octets: none; 13 and 10 ahead; any other ahead -/
theorem nl_ind {P : List Int → Prop} (h0 : P []) (h1 : ∀ r, P r → P (13 :: 10 :: r)) (h2 : ∀ x r, nl x r = false → P r → P (x :: r)) (xs : List Int) : P xs := by
  suffices h : ∀ n, ∀ xs : List Int, xs.length ≤ n → P xs from h xs.length xs (Nat.le_refl _)
  intro n
  induction n with
  | zero => intro xs hx; have : xs = [] := List.eq_nil_of_length_eq_zero (by omega); subst this; exact h0
  | succ n ih =>
    intro xs hx
    cases xs with
    | nil => exact h0
    | cons x r =>
      cases hn : nl x r with
      | true =>
        obtain ⟨rfl, r', rfl⟩ := nl_cons hn
        exact h1 r' (ih r' (by simp only [List.length_cons] at hx; omega))
      | false => exact h2 x r hn (ih r (by simp only [List.length_cons] at hx; omega))
theorem joinL_app (a b : List (List Int)) : joinL (a ++ b) = joinL a ++ joinL b := by simp [joinL]
theorem joinL_cons (l : List Int) (b : List (List Int)) : joinL (l :: b) = l ++ [13, 10] ++ joinL b := by simp [joinL]
theorem splF_join (xs : List Int) : ∀ cur, joinL (splF cur false xs).1 ++ (splF cur false xs).2 = cur ++ xs := by
  refine nl_ind (P := fun xs => ∀ cur, joinL (splF cur false xs).1 ++ (splF cur false xs).2 = cur ++ xs) ?_ ?_ ?_ xs
  · intro cur; rw [splF_nil]; simp [joinL]
  · intro r ih cur
    have := ih []
    rw [splF_nl]
    simp only [joinL_cons, List.append_assoc, List.nil_append] at this ⊢
    show cur ++ ([13, 10] ++ (joinL (splF [] false r).1 ++ (splF [] false r).2)) = _
    rw [this]; rfl
  · intro x r hn ih cur
    rw [splF_one hn, ih]; simp
theorem splF_add (xs : List Int) : ∀ cur, splF cur false (xs ++ [13, 10]) = ((splF cur false xs).1 ++ [(splF cur false xs).2], []) := by
  refine nl_ind (P := fun xs => ∀ cur, splF cur false (xs ++ [13, 10]) = ((splF cur false xs).1 ++ [(splF cur false xs).2], [])) ?_ ?_ ?_ xs
  · intro cur; rw [splF_nil, List.nil_append, splF_nl]; rfl
  · intro r ih cur
    have := ih []
    rw [splF_nl, List.cons_append, List.cons_append, splF_nl]
    unfold doneL restL
    rw [this]; rfl
  · intro x r hn ih cur
    have h2 : nl x (r ++ [13, 10]) = false := by
      cases r with
      | nil => simp [nl]
      | cons y r' => exact hn
    rw [splF_one hn, List.cons_append, splF_one h2, ih]
theorem joinL_split (xs : List Int) : joinL (splitL xs) = wholeL xs := by
  have h := splF_join xs []
  rw [List.nil_append] at h
  unfold splitL wholeL endsV
  by_cases hr : restL xs = []
  · rw [if_pos hr, if_pos (by simpa using hr)]
    have h2 : (splF [] false xs).2 = [] := hr
    rw [h2, List.append_nil] at h; exact h
  · rw [if_neg hr, if_neg (by simpa using hr), joinL_app]
    show joinL (splF [] false xs).1 ++ joinL [(splF [] false xs).2] = _
    rw [show joinL [(splF [] false xs).2] = (splF [] false xs).2 ++ [13, 10] from by simp [joinL], ← List.append_assoc, h]
theorem ends_whole (xs : List Int) : endsV (wholeL xs) = true := by
  unfold wholeL
  cases h : endsV xs with
  | true => simpa using h
  | false =>
    simp only [Bool.false_eq_true, if_false]
    unfold endsV restL
    rw [splF_add]; rfl
theorem split_whole (xs : List Int) : splitL (wholeL xs) = splitL xs := by
  unfold wholeL
  cases h : endsV xs with
  | true => simp
  | false =>
    simp only [Bool.false_eq_true, if_false]
    have hr : restL xs ≠ [] := by simpa [endsV] using h
    unfold splitL
    rw [if_neg hr]
    unfold doneL restL
    rw [splF_add]; rfl
theorem whole_len (xs : List Int) : ((wholeL xs).length : Int) = if endsV xs then (xs.length : Int) else xs.length + 2 := by
  unfold wholeL; split <;> simp
theorem whole_take (xs : List Int) : (wholeL xs).take xs.length = xs := by
  unfold wholeL; split <;> simp

/-- where the first 13 and 10 are; -1: nowhere -/
def cutI : List Int → Int → Int
  | [], _ => -1
  | x :: r, i => if nl x r then i else cutI r (i + 1)
theorem cutI_nl {x i : Int} {r : List Int} (h : nl x r = true) : cutI (x :: r) i = i := by rw [cutI, if_pos h]
theorem cutI_on {x i : Int} {r : List Int} (h : nl x r = false) : cutI (x :: r) i = cutI r (i + 1) := by rw [cutI, if_neg (by simp [h])]
theorem cutI_cases (xs : List Int) (i : Int) (hi : 0 ≤ i) : (cutI xs i = -1 ∧ ∀ cur, splF cur false xs = ([], cur ++ xs)) ∨
    (∃ k : Nat, cutI xs i = i + k ∧ k + 2 ≤ xs.length ∧ ∀ cur, splF cur false xs = ((cur ++ xs.take k) :: doneL (xs.drop (k + 2)), restL (xs.drop (k + 2)))) := by
  induction xs generalizing i with
  | nil => exact .inl ⟨rfl, fun cur => by rw [splF_nil]; simp⟩
  | cons x r ih =>
    cases hn : nl x r with
    | true =>
      obtain ⟨rfl, r', rfl⟩ := nl_cons hn
      exact .inr ⟨0, by rw [cutI, if_pos hn]; simp, by simp, fun cur => by rw [splF_nl]; simp⟩
    | false =>
      rcases ih (i + 1) (by omega) with ⟨h1, h2⟩ | ⟨k, h1, h2, h3⟩
      · exact .inl ⟨by rw [cutI, if_neg (by simp [hn]), h1], fun cur => by rw [splF_one hn, h2]; simp⟩
      · exact .inr ⟨k + 1, by rw [cutI, if_neg (by simp [hn]), h1]; push_cast; omega, by simp only [List.length_cons]; omega, fun cur => by rw [splF_one hn, h3]; simp⟩
theorem split_none {xs : List Int} (h : cutI xs 0 = -1) (h0 : xs ≠ []) : splitL xs = [xs] := by
  rcases cutI_cases xs 0 (by omega) with ⟨_, h2⟩ | ⟨k, h1, _⟩
  · unfold splitL doneL restL
    rw [h2 [], List.nil_append, if_neg h0]; rfl
  · omega
theorem split_at {xs : List Int} {k : Nat} (h : cutI xs 0 = k) : k + 2 ≤ xs.length ∧ splitL xs = xs.take k :: splitL (xs.drop (k + 2)) := by
  rcases cutI_cases xs 0 (by omega) with ⟨h1, _⟩ | ⟨j, h1, h2, h3⟩
  · omega
  · have : j = k := by omega
    subst this
    refine ⟨h2, ?_⟩
    unfold splitL
    have h4 := h3 []
    rw [List.nil_append] at h4
    have e1 : doneL xs = xs.take j :: doneL (xs.drop (j + 2)) := by unfold doneL; rw [h4]; rfl
    have e2 : restL xs = restL (xs.drop (j + 2)) := by unfold restL; rw [h4]; rfl
    rw [e1, e2]
    split <;> rfl
theorem split_nil : splitL [] = [] := rfl
theorem split_ne {xs : List Int} (h : xs ≠ []) : splitL xs ≠ [] := by
  rcases cutI_cases xs 0 (by omega) with ⟨h1, _⟩ | ⟨k, h1, _⟩
  · rw [split_none h1 h]; simp
  · rw [(split_at (k := k) (by omega)).2]; simp
theorem cutI_bd (xs : List Int) : cutI xs 0 = -1 ∨ ∃ k : Nat, cutI xs 0 = k ∧ k + 2 ≤ xs.length := by
  rcases cutI_cases xs 0 (by omega) with ⟨h1, _⟩ | ⟨j, h1, h2, _⟩
  · exact .inl h1
  · exact .inr ⟨j, by omega, h2⟩

/-- do octets end with 13 and 10? -/
theorem ends_iff (xs : List Int) : ∀ cur, (splF cur false xs).2 = [] ↔ ((cur = [] ∧ xs = []) ∨ ∃ ys, xs = ys ++ [13, 10]) := by
  refine nl_ind (P := fun xs => ∀ cur, (splF cur false xs).2 = [] ↔ ((cur = [] ∧ xs = []) ∨ ∃ ys, xs = ys ++ [13, 10])) ?_ ?_ ?_ xs
  · intro cur; rw [splF_nil]; simp
  · intro r ih cur
    have := ih []
    rw [splF_nl]
    show restL r = [] ↔ _
    unfold restL
    rw [this]
    constructor
    · rintro (⟨_, rfl⟩ | ⟨ys, rfl⟩)
      · exact .inr ⟨[], rfl⟩
      · exact .inr ⟨13 :: 10 :: ys, rfl⟩
    · rintro (⟨_, h⟩ | ⟨ys, h⟩)
      · cases h
      · match ys, h with
        | [], h => simp at h; exact .inl ⟨rfl, h⟩
        | [a], h => simp at h
        | a :: b :: zs, h => simp at h; exact .inr ⟨zs, h.2.2⟩
  · intro x r hn ih cur
    rw [splF_one hn, ih]
    constructor
    · rintro (⟨h, _⟩ | ⟨ys, rfl⟩)
      · simp at h
      · exact .inr ⟨x :: ys, rfl⟩
    · rintro (⟨_, h⟩ | ⟨ys, h⟩)
      · cases h
      · match ys, h with
        | [], h => simp at h; obtain ⟨rfl, rfl⟩ := h; cases hn
        | a :: zs, h => simp at h; exact .inr ⟨zs, h.2⟩
theorem endsV_iff (xs : List Int) : endsV xs = true ↔ (xs = [] ∨ ∃ ys, xs = ys ++ [13, 10]) := by
  unfold endsV
  rw [decide_eq_true_iff]
  unfold restL
  rw [ends_iff]; simp

/-- bare ends -/
def bareV : Int → List Int → Int
  | _, [] => 0
  | p, x :: r => (if x = 13 ∧ nl x r = false then 1 else 0) + (if x = 10 ∧ p ≠ 13 then 1 else 0) + bareV x r
def cntC (c : Int) : List Int → Int
  | [] => 0
  | x :: r => (if x = c then 1 else 0) + cntC c r
def pairN : List Int → Int
  | [] => 0
  | x :: r => (if nl x r then 1 else 0) + pairN r
theorem bare_count (xs : List Int) (p : Int) : cntC 13 xs + cntC 10 xs = bareV p xs + 2 * pairN xs + (if nl p xs then 1 else 0) := by
  induction xs generalizing p with
  | nil => simp [cntC, bareV, pairN, nl]
  | cons x r ih =>
    have h := ih x
    simp only [cntC, bareV, pairN]
    have e : nl p (x :: r) = (decide (p = 13) && decide (x = 10)) := rfl
    rw [e]
    cases hn : nl x r with
    | true =>
      obtain ⟨rfl, _⟩ := nl_cons hn
      rw [hn] at h
      simp at h ⊢; omega
    | false =>
      rw [hn] at h
      simp only [Bool.false_eq_true, if_false, and_true, Bool.and_eq_true, decide_eq_true_iff] at h ⊢
      by_cases h13 : x = 13
      · subst h13; simp at h ⊢; omega
      · by_cases h10 : x = 10
        · subst h10; simp at h ⊢; by_cases hp : p = 13 <;> simp [hp] <;> omega
        · simp [h13, h10]; omega
theorem bareV_le (p : Int) (xs : List Int) : 0 ≤ bareV p xs ∧ bareV p xs ≤ xs.length := by
  induction xs generalizing p with
  | nil => simp [bareV]
  | cons x r ih =>
    have := ih x
    simp only [bareV, List.length_cons]
    by_cases h13 : x = 13
    · subst h13; simp; split <;> omega
    · simp [h13]; split <;> omega
theorem cntC_le (c : Int) (xs : List Int) : 0 ≤ cntC c xs ∧ cntC c xs ≤ xs.length := by
  induction xs with
  | nil => simp [cntC]
  | cons x r ih => simp only [cntC, List.length_cons]; split <;> omega
theorem pairN_le (xs : List Int) : 0 ≤ pairN xs ∧ pairN xs ≤ xs.length := by
  induction xs with
  | nil => simp [pairN]
  | cons x r ih => simp only [pairN, List.length_cons]; split <;> omega
def maxL : List (List Int) → Int
  | [] => 0
  | l :: r => max (l.length : Int) (maxL r)
end Go.Proofs.Ytibnmekifaaacaa
