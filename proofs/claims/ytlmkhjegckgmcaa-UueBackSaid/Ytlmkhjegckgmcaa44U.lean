/- Layer 44 (uue) in plain words: files read; what is laid is read; no program. Conditions: each lemma bears its own. -/
import Derived.Test.Ytlmkhjegckgmcaa44T
import Derived.Test.Ytlmkhjegckgmcaa43S
namespace Go.Proofs.Ytlmkhjegckgmcaa

def restU : List (List Int) → Int
  | [] => 4
  | [l] => if l = endU then 0 else 3
  | _ => 3
/-- the octets of the lines behind the name, and the error -/
def goU (out : List Int) : List (List Int) → List Int × Int
  | [] => ([], 4)
  | x :: r => if (fromU x).2 ≠ 0 then ([], (fromU x).2) else if (fromU x).1 = [] then (if restU r = 0 then (out, 0) else ([], restU r)) else goU (out ++ (fromU x).1) r
def readL (ls : List (List Int)) : List Int × List Int × Int :=
  match ls with
  | [] => ([], [], 4)
  | l :: r => if l.take 10 = begU ∧ nameU (l.drop 10) = true then (if (goU [] r).2 = 0 then (l.drop 10, (goU [] r).1, 0) else ([], [], (goU [] r).2)) else ([], [], 3)
def readU (s : List Int) : List Int × List Int × Int := readL (splitL s)
theorem goU_bad {out : List Int} {x : List Int} {r : List (List Int)} (h : (fromU x).2 ≠ 0) : goU out (x :: r) = ([], (fromU x).2) := by rw [goU, if_pos h]
theorem goU_end {out : List Int} {x : List Int} {r : List (List Int)} (h : (fromU x).2 = 0) (h2 : (fromU x).1 = []) : goU out (x :: r) = if restU r = 0 then (out, 0) else ([], restU r) := by rw [goU, if_neg (by simp [h]), if_pos h2]
theorem goU_on {out : List Int} {x : List Int} {r : List (List Int)} (h : (fromU x).2 = 0) (h2 : (fromU x).1 ≠ []) : goU out (x :: r) = goU (out ++ (fromU x).1) r := by rw [goU, if_neg (by simp [h]), if_neg h2]

theorem cut_no13 {l : List Int} (h : ∀ x ∈ l, x ≠ 13) : ∀ i, cutI l i = -1 := by
  induction l with
  | nil => intro i; rfl
  | cons x r ih =>
    intro i
    have hn : nl x r = false := by
      have := h x (by simp)
      cases r <;> simp [nl, this]
    rw [cutI_on hn]
    exact ih (fun y hy => h y (by simp [hy])) _
theorem split_joinL {ls : List (List Int)} (h : ∀ l ∈ ls, cutI l 0 = -1) : splitL (joinL ls) = ls := by
  have h2 := done_joinL ls [] h
  rw [List.append_nil] at h2
  unfold splitL
  rw [h2.1, h2.2]
  have e1 : doneL [] = [] := rfl
  have e2 : restL [] = [] := rfl
  rw [e1, e2]; simp
theorem line_13 (s : List Int) : ∀ x ∈ lineU s, x ≠ 13 := by
  have hq : ∀ a b c : Int, ∀ x ∈ quad a b c, x ≠ 13 := by
    intro a b c x hx
    simp only [quad, List.mem_cons, List.not_mem_nil, or_false] at hx
    rcases hx with rfl | rfl | rfl | rfl
    · have := digU_bd (a / 4); omega
    · have := digU_bd (a % 4 * 16 + b / 16); omega
    · have := digU_bd (b % 16 * 4 + c / 64); omega
    · have := digU_bd (c % 64); omega
  have hg : ∀ k, ∀ l : List Int, l.length ≤ k → ∀ x ∈ grp l, x ≠ 13 := by
    intro k
    induction k with
    | zero => intro l hl x hx; have : l = [] := List.eq_nil_of_length_eq_zero (by omega); subst this; cases hx
    | succ k ih =>
      intro l hl x hx
      match l, hl, hx with
      | [], _, hx => cases hx
      | [a], _, hx => exact hq _ _ _ x hx
      | [a, b], _, hx => exact hq _ _ _ x hx
      | a :: b :: c :: r, hl, hx =>
        rw [grp] at hx
        rcases List.mem_append.1 hx with hx | hx
        · exact hq _ _ _ x hx
        · exact ih r (by simp only [List.length_cons] at hl; omega) x hx
  intro x hx
  unfold lineU at hx
  rcases List.mem_cons.1 hx with rfl | hx
  · have := digU_bd ((s.take 45).length : Int); omega
  · exact hg _ _ (Nat.le_refl _) x hx
theorem linesU_13 : ∀ (k : Nat) (s : List Int), s.length ≤ k → ∀ l ∈ linesU s, cutI l 0 = -1
  | 0, s, h, l, hl => by have : s = [] := List.eq_nil_of_length_eq_zero (by omega); subst this; cases hl
  | k + 1, s, h, l, hl => by
    by_cases h0 : s = []
    · subst h0; cases hl
    · have hp : 0 < s.length := List.length_pos_iff.2 h0
      rw [linesU_on h0] at hl
      rcases List.mem_cons.1 hl with rfl | hl
      · exact cut_no13 (line_13 s) 0
      · exact linesU_13 k (s.drop 45) (by rw [List.length_drop]; omega) l hl
termination_by k => k
theorem name_mem {n : List Int} (h : nameU n = true) : ∀ x ∈ n, 33 ≤ x ∧ x ≤ 126 := by
  unfold nameU at h
  simp only [Bool.and_eq_true] at h
  intro x hx
  exact of_decide_eq_true (List.all_eq_true.1 h.1 x hx)
theorem file_clean {n s : List Int} (h : nameU n = true) : ∀ l ∈ fileU n s, cutI l 0 = -1 := by
  intro l hl
  unfold fileU at hl
  rcases List.mem_cons.1 hl with rfl | hl
  · refine cut_no13 ?_ 0
    intro x hx
    rcases List.mem_append.1 hx with hx | hx
    · have h2 : ∀ y ∈ begU, y ≠ 13 := by decide
      exact h2 x hx
    · have := name_mem h x hx; omega
  · rcases List.mem_append.1 hl with hl | hl
    · exact linesU_13 s.length s (Nat.le_refl _) l hl
    · simp only [List.mem_cons, List.not_mem_nil, or_false] at hl
      rcases hl with rfl | rfl
      · decide
      · decide
theorem from_96 : fromU [96] = ([], 0) := by decide
theorem goU_lines : ∀ (k : Nat) (s out : List Int), s.length ≤ k → (∀ x ∈ s, 0 ≤ x ∧ x ≤ 255) → goU out (linesU s ++ [[96], endU]) = (out ++ s, 0)
  | 0, s, out, h, _ => by
    have : s = [] := List.eq_nil_of_length_eq_zero (by omega)
    subst this
    rw [linesU_nil, List.nil_append, goU_end (by rw [from_96]) (by rw [from_96])]
    simp [restU]
  | k + 1, s, out, h, hb => by
    by_cases h0 : s = []
    · subst h0
      rw [linesU_nil, List.nil_append, goU_end (by rw [from_96]) (by rw [from_96])]
      simp [restU]
    · have hp : 0 < s.length := List.length_pos_iff.2 h0
      have hf := from_line s hb
      have hne : s.take 45 ≠ [] := by intro he; have := congrArg List.length he; rw [List.length_take, List.length_nil] at this; omega
      rw [linesU_on h0, List.cons_append, goU_on (by rw [hf]) (by rw [hf]; exact hne), hf]
      rw [goU_lines k (s.drop 45) (out ++ s.take 45) (by rw [List.length_drop]; omega) fun x hx => hb x (List.mem_of_mem_drop hx)]
      rw [List.append_assoc, List.take_append_drop]
termination_by k => k
theorem back44 {n s : List Int} (h : nameU n = true) (hb : ∀ x ∈ s, 0 ≤ x ∧ x ≤ 255) : readU (layU n s).1 = (n, s, 0) := by
  have hl : (layU n s).1 = joinL (fileU n s) := by unfold layU; rw [if_pos h]
  have hg := goU_lines s.length s [] (Nat.le_refl _) hb
  unfold readU
  rw [hl, split_joinL (file_clean h)]
  unfold readL fileU
  have e1 : (begU ++ n).take 10 = begU := by rw [show (10 : Nat) = begU.length from rfl, List.take_left]
  have e2 : (begU ++ n).drop 10 = n := by rw [show (10 : Nat) = begU.length from rfl, List.drop_left]
  simp only [e1, e2, h, and_self, if_true, hg, List.nil_append]
end Go.Proofs.Ytlmkhjegckgmcaa
