/- Layer 44 (uue) in plain words: files laid; no program. Conditions: each lemma bears its own. -/
import Derived.Test.Ytlmkhjegckgmcaa44S
import Derived.Test.Ytlmkhjegckgmcaa26M
namespace Go.Proofs.Ytlmkhjegckgmcaa

def isNm (c : Int) : Bool := decide (33 ≤ c ∧ c ≤ 126)
def nameU (s : List Int) : Bool := s.all isNm && (decide (0 < s.length) && decide (s.length ≤ 40))
def begU : List Int := [98, 101, 103, 105, 110, 32, 54, 52, 52, 32]
def endU : List Int := [101, 110, 100]
def linesF : Nat → List Int → List (List Int)
  | 0, _ => []
  | f + 1, s => if s = [] then [] else lineU s :: linesF f (s.drop 45)
def linesU (s : List Int) : List (List Int) := linesF s.length s
theorem linesF_eq : ∀ (f : Nat) (s : List Int), s.length ≤ f → linesF f s = linesF s.length s
  | 0, s, h => by have : s = [] := List.eq_nil_of_length_eq_zero (by omega); subst this; rfl
  | f + 1, s, h => by
    cases s with
    | nil => rfl
    | cons x r =>
      have hl : ((x :: r).drop 45).length ≤ r.length := by simp
      have h1 := linesF_eq f ((x :: r).drop 45) (by simp only [List.length_cons] at h; omega)
      have h2 := linesF_eq r.length ((x :: r).drop 45) hl
      rw [linesF, if_neg (by simp), List.length_cons, linesF, if_neg (by simp), h1, h2]
termination_by f => f
theorem linesU_nil : linesU [] = [] := rfl
theorem linesU_on {s : List Int} (h : s ≠ []) : linesU s = lineU s :: linesU (s.drop 45) := by
  cases s with
  | nil => exact absurd rfl h
  | cons x r =>
    unfold linesU
    rw [List.length_cons, linesF, if_neg (by simp), linesF_eq r.length _ (by simp)]
def fileU (n s : List Int) : List (List Int) := (begU ++ n) :: (linesU s ++ [[96], endU])
def layU (n s : List Int) : List Int × Int := if nameU n then (joinL (fileU n s), 0) else ([], 13)
theorem line_len (s : List Int) : (lineU s).length ≤ 61 := by
  have h := grp_len (s.take 45)
  have h2 : (s.take 45).length ≤ 45 := by simp; omega
  unfold lineU; simp only [List.length_cons]; omega
theorem line_len2 (s : List Int) : (lineU s).length ≤ 2 * (s.take 45).length + 5 := by
  have h := grp_len (s.take 45)
  unfold lineU; simp only [List.length_cons]; omega
theorem linesU_join : ∀ (k : Nat) (s : List Int), s.length ≤ k → (joinL (linesU s)).length ≤ 9 * s.length
  | 0, s, h => by have : s = [] := List.eq_nil_of_length_eq_zero (by omega); subst this; simp [linesU, linesF, joinL]
  | k + 1, s, h => by
    by_cases h0 : s = []
    · subst h0; simp [linesU, linesF, joinL]
    · have hp : 0 < s.length := List.length_pos_iff.2 h0
      have ih := linesU_join k (s.drop 45) (by rw [List.length_drop]; omega)
      rw [linesU_on h0, joinL_cons]
      have h1 := line_len2 s
      rw [List.length_drop] at ih
      rw [List.length_take] at h1
      simp only [List.length_append, List.length_cons, List.length_nil]
      omega
termination_by k => k
theorem linesU_len : ∀ (k : Nat) (s : List Int), s.length ≤ k → (linesU s).length ≤ s.length
  | 0, s, h => by have : s = [] := List.eq_nil_of_length_eq_zero (by omega); subst this; simp [linesU, linesF]
  | k + 1, s, h => by
    by_cases h0 : s = []
    · subst h0; simp [linesU, linesF]
    · have hp : 0 < s.length := List.length_pos_iff.2 h0
      have ih := linesU_len k (s.drop 45) (by rw [List.length_drop]; omega)
      rw [linesU_on h0, List.length_cons]
      rw [List.length_drop] at ih
      omega
termination_by k => k
theorem name_len {n : List Int} (h : nameU n = true) : 0 < n.length ∧ n.length ≤ 40 := by
  unfold nameU at h; simp only [Bool.and_eq_true, decide_eq_true_iff] at h; exact h.2
end Go.Proofs.Ytlmkhjegckgmcaa
