/- Layer 28 (atom) in plain words: comments, gaps, tokens, values; no program. Conditions: each lemma bears its own. -/
import Derived.Test.Ytjiofcnlibkhkaa01Q
import Derived.Test.YtjiofcnlibkhkaaLibC
namespace Go.Proofs.Ytjiofcnlibkhkaa

/-- a place of octets -/
def withL (n : Nat) (at_ : Int) : Nat := (min (max at_ 0) (n : Int)).toNat
theorem withL_le (n : Nat) (a : Int) : withL n a ≤ n := by unfold withL; omega
theorem withL_eq (n : Nat) (a : Int) : min (max a 0) (n : Int) = (withL n a : Int) := by unfold withL; omega
theorem withL_self {n k : Nat} (h : k ≤ n) : withL n (k : Int) = k := by unfold withL; omega

/-- a comment: how many octets it has (of those ahead, i), how deep it was -/
def comm : List Int → Int → Int → Bool → Nat → Nat × Int
  | [], _, m, _, i => (i, m)
  | _ :: r, d, m, true, i => comm r d m false (i + 1)
  | x :: r, d, m, false, i =>
    if x = 92 then comm r d m true (i + 1)
    else if x = 40 then comm r (d + 1) (max m (d + 1)) false (i + 1)
    else if x = 41 then (if d - 1 = 0 then (i + 1, m) else comm r (d - 1) m false (i + 1))
    else comm r d m false (i + 1)
theorem comm_t {x d m : Int} {r : List Int} {i : Nat} : comm (x :: r) d m true i = comm r d m false (i + 1) := rfl
theorem comm_b {d m : Int} {r : List Int} {i : Nat} : comm (92 :: r) d m false i = comm r d m true (i + 1) := by rw [comm, if_pos rfl]
theorem comm_o {d m : Int} {r : List Int} {i : Nat} : comm (40 :: r) d m false i = comm r (d + 1) (max m (d + 1)) false (i + 1) := by rw [comm, if_neg (by decide), if_pos rfl]
theorem comm_s {d m : Int} {r : List Int} {i : Nat} (h : d - 1 = 0) : comm (41 :: r) d m false i = (i + 1, m) := by rw [comm, if_neg (by decide), if_neg (by decide), if_pos rfl, if_pos h]
theorem comm_s' {d m : Int} {r : List Int} {i : Nat} (h : ¬ d - 1 = 0) : comm (41 :: r) d m false i = comm r (d - 1) m false (i + 1) := by rw [comm, if_neg (by decide), if_neg (by decide), if_pos rfl, if_neg h]
theorem comm_n {x d m : Int} {r : List Int} {i : Nat} (h1 : ¬ x = 92) (h2 : ¬ x = 40) (h3 : ¬ x = 41) : comm (x :: r) d m false i = comm r d m false (i + 1) := by rw [comm, if_neg h1, if_neg h2, if_neg h3]
theorem comm_nil {d m : Int} {t : Bool} {i : Nat} : comm [] d m t i = (i, m) := by cases t <;> rfl
theorem comm_bd (l : List Int) (d m : Int) (t : Bool) (i : Nat) : i ≤ (comm l d m t i).1 ∧ (comm l d m t i).1 ≤ i + l.length ∧ (l ≠ [] → i < (comm l d m t i).1) := by
  induction l generalizing d m t i with
  | nil => rw [comm_nil]; simp
  | cons x r ih =>
    have hl : (x :: r).length = r.length + 1 := rfl
    rw [hl]
    cases t with
    | true => rw [comm_t]; have := ih d m false (i + 1); refine ⟨by omega, by omega, fun _ => by omega⟩
    | false =>
      unfold comm
      repeat' split
      · have := ih d m true (i + 1); refine ⟨by omega, by omega, fun _ => by omega⟩
      · have := ih (d + 1) (max m (d + 1)) false (i + 1); refine ⟨by omega, by omega, fun _ => by omega⟩
      · exact ⟨by simp only []; omega, by simp only []; omega, fun _ => by simp only []; omega⟩
      · have := ih (d - 1) m false (i + 1); refine ⟨by omega, by omega, fun _ => by omega⟩
      · have := ih d m false (i + 1); refine ⟨by omega, by omega, fun _ => by omega⟩
/-- the comment that octets begin with -/
def commN (l : List Int) : Nat := (comm l 0 0 false 0).1
def commD (l : List Int) : Int := (comm l 0 0 false 0).2
theorem commN_bd (x : Int) (r : List Int) : 1 ≤ commN (x :: r) ∧ commN (x :: r) ≤ r.length + 1 := by
  have := comm_bd (x :: r) 0 0 false 0
  have h2 := this.2.2 (by simp)
  simp only [List.length_cons] at this
  unfold commN; omega

def blankL (x : Int) : Bool := decide (x = 13) || (decide (x = 10) || isL x 2)
/-- how many octets a gap has (the first s octets are passed over) -/
def gap : Nat → List Int → Nat
  | _, [] => 0
  | s + 1, _ :: r => 1 + gap s r
  | 0, x :: r => if x = 40 then 1 + gap (commN (x :: r) - 1) r else if blankL x then 1 + gap 0 r else 0
theorem gap_skip (s : Nat) (l : List Int) (h : s ≤ l.length) : gap s l = s + gap 0 (l.drop s) := by
  induction s generalizing l with
  | zero => simp
  | succ s ih => cases l with
    | nil => simp at h
    | cons x r => simp only [gap, List.drop_succ_cons]; rw [ih r (by simpa using h)]; omega
theorem gap_nil : gap 0 [] = 0 := rfl
theorem gap_open {r : List Int} : gap 0 (40 :: r) = commN (40 :: r) + gap 0 ((40 :: r).drop (commN (40 :: r))) := by
  have h := commN_bd 40 r
  rw [gap, if_pos rfl, gap_skip _ _ (by omega)]
  obtain ⟨k, hk⟩ : ∃ k, commN (40 :: r) = k + 1 := ⟨commN (40 :: r) - 1, by omega⟩
  rw [hk, Nat.add_sub_cancel, List.drop_succ_cons]; omega
theorem gap_blank {x : Int} {r : List Int} (h : ¬ x = 40) (hb : blankL x = true) : gap 0 (x :: r) = 1 + gap 0 r := by rw [gap, if_neg h, if_pos hb]
theorem gap_none {x : Int} {r : List Int} (h : ¬ x = 40) (hb : blankL x = false) : gap 0 (x :: r) = 0 := by rw [gap, if_neg h, if_neg (by simp [hb])]
theorem gap_le (n : Nat) (l : List Int) (hl : l.length ≤ n) : gap 0 l ≤ l.length ∧ gap 0 (l.drop (gap 0 l)) = 0 := by
  induction n generalizing l with
  | zero =>
    have : l = [] := List.eq_nil_of_length_eq_zero (by omega)
    subst this; exact ⟨Nat.le_refl _, rfl⟩
  | succ n ih =>
    cases l with
    | nil => exact ⟨Nat.le_refl _, rfl⟩
    | cons x r =>
      by_cases h : x = 40
      · subst h
        have hc := commN_bd 40 r
        have h2 := ih ((40 :: r).drop (commN (40 :: r))) (by simp only [List.length_drop, List.length_cons] at hl ⊢; omega)
        rw [gap_open]
        rw [List.drop_drop] at h2
        refine ⟨?_, h2.2⟩
        have h3 := h2.1
        simp only [List.length_drop, List.length_cons] at h3 ⊢
        omega
      · cases hb : blankL x with
        | true =>
          have h2 := ih r (by simpa using hl)
          rw [gap_blank h hb]
          refine ⟨by simp only [List.length_cons]; omega, ?_⟩
          rw [show 1 + gap 0 r = gap 0 r + 1 from by omega, List.drop_succ_cons]; exact h2.2
        | false => rw [gap_none h hb]; exact ⟨Nat.zero_le _, by rw [List.drop_zero, gap_none h hb]⟩
theorem gap_len (l : List Int) : gap 0 l ≤ l.length := (gap_le l.length l (Nat.le_refl _)).1
theorem gap_idem (l : List Int) : gap 0 (l.drop (gap 0 l)) = 0 := (gap_le l.length l (Nat.le_refl _)).2

/-- where the gap at a place ends -/
def gapL (xs : List Int) (k : Nat) : Nat := k + gap 0 (xs.drop k)
theorem gapL_bd {xs : List Int} {k : Nat} (h : k ≤ xs.length) : k ≤ gapL xs k ∧ gapL xs k ≤ xs.length := by
  have := gap_len (xs.drop k)
  simp only [List.length_drop] at this
  unfold gapL; omega
theorem gapL_idem (xs : List Int) (k : Nat) : gapL xs (gapL xs k) = gapL xs k := by
  have h := gap_idem (xs.drop k)
  rw [List.drop_drop] at h
  show gapL xs k + gap 0 (xs.drop (gapL xs k)) = gapL xs k
  unfold gapL
  rw [h]; omega
theorem gapL_end {xs : List Int} {k : Nat} (h : xs.length ≤ k) : gapL xs k = k := by unfold gapL; rw [List.drop_eq_nil_of_le h]; rfl
/-- does an octet stand behind a gap? where the place is then -/
def skipV (xs : List Int) (k : Nat) (c : Int) : Nat × Bool := if gapL xs k < xs.length ∧ xs.getD (gapL xs k) 0 = c then (gapL xs k + 1, true) else (k, false)
def depthV (xs : List Int) : Int := match xs with
  | [] => 0
  | x :: r => if x = 40 then commD (x :: r) else 0

end Go.Proofs.Ytjiofcnlibkhkaa
