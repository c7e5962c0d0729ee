/- Layer 15 (bloose) in plain words: what is read loosely; no program. Conditions: each lemma bears its own. -/
import Derived.Test.Ytibnmekifaaacaa14T
namespace Go.Proofs.Ytibnmekifaaacaa

/-- the octets ahead of the first = that are digits -/
def digF : List Int → List Int
  | [] => []
  | x :: r => if x = 61 then [] else if isD x then x :: digF r else digF r
/-- how many of them are none -/
def strF : List Int → Int
  | [] => 0
  | x :: r => if x = 61 then 0 else if isD x then strF r else 1 + strF r
def lrdL (xs : List Int) : List Int := oct8 (sixesL (digF xs))
def leftL (xs : List Int) : Int := (6 * (digF xs).length : Nat) % 8
def clnL (xs : List Int) : List Int := layL (lrdL xs)
theorem digF_len (xs : List Int) : (digF xs).length ≤ xs.length := by
  induction xs with
  | nil => exact Nat.le_refl _
  | cons x r ih => unfold digF; (repeat' split) <;> simp only [List.length_cons, List.length_nil] <;> omega
theorem strF_le (xs : List Int) : 0 ≤ strF xs ∧ strF xs ≤ xs.length := by
  induction xs with
  | nil => exact ⟨by decide, by decide⟩
  | cons x r ih =>
    have hl : ((x :: r).length : Int) = r.length + 1 := by simp
    rw [hl]
    by_cases h : x = 61
    · subst h; rw [strF, if_pos rfl]; omega
    · rw [strF, if_neg h]
      split <;> omega
theorem isD_no61 {x : Int} (h : isD x = true) : x ≠ 61 := by intro e; subst e; exact absurd h (by decide)
theorem digF_61 (r : List Int) : digF (61 :: r) = [] := by rw [digF, if_pos rfl]
theorem digF_yes {x : Int} {r : List Int} (h : isD x = true) : digF (x :: r) = x :: digF r := by rw [digF, if_neg (isD_no61 h), if_pos h]
theorem digF_no {x : Int} {r : List Int} (h : isD x = false) (h' : x ≠ 61) : digF (x :: r) = digF r := by rw [digF, if_neg h', if_neg (by simp [h])]
theorem strF_61 (r : List Int) : strF (61 :: r) = 0 := by rw [strF, if_pos rfl]
theorem strF_yes {x : Int} {r : List Int} (h : isD x = true) : strF (x :: r) = strF r := by rw [strF, if_neg (isD_no61 h), if_pos h]
theorem strF_no {x : Int} {r : List Int} (h : isD x = false) (h' : x ≠ 61) : strF (x :: r) = 1 + strF r := by rw [strF, if_neg h', if_neg (by simp [h])]
theorem digF_all (xs : List Int) : allD (digF xs) = true := by
  induction xs with
  | nil => rfl
  | cons x r ih =>
    by_cases h : x = 61
    · subst h; rw [digF_61]; rfl
    · cases hd : isD x with
      | true => rw [digF_yes hd]; simp only [allD, List.all_cons, hd, Bool.true_and]; exact ih
      | false => rw [digF_no hd h]; exact ih
/-- octets without = ahead, and whatever stands behind an = -/
theorem digF_app {a b : List Int} (h : ∀ x ∈ a, x ≠ 61) : digF (a ++ b) = a.filter isD ++ digF b := by
  induction a with
  | nil => rfl
  | cons x r ih =>
    have ih := ih fun y hy => h y (by simp [hy])
    have hx := h x (by simp)
    cases hd : isD x with
    | true => rw [List.cons_append, digF_yes hd, ih, List.filter_cons, hd]; rfl
    | false => rw [List.cons_append, digF_no hd hx, ih, List.filter_cons, hd]; rfl
theorem filter_allD {l : List Int} (h : allD l = true) : l.filter isD = l := by
  rw [List.filter_eq_self]
  intro x hx
  exact (List.all_eq_true.1 h) x hx
theorem digF_pad {l : List Int} (h : allD l = true) (t : Nat) : digF (l ++ List.replicate t 61) = l := by
  have h1 : ∀ x ∈ l, x ≠ 61 := fun x hx => isD_no61 (List.all_eq_true.1 h x hx)
  rw [digF_app h1, filter_allD h]
  cases t with
  | zero => simp [digF]
  | succ t => rw [List.replicate_succ, digF_61, List.append_nil]
theorem digF_strict {s : List Int} (h : errB s = 0) : digF s = bodyL s := by
  obtain ⟨t, _, ht⟩ := body_cases s
  have ha : allD (bodyL s) = true := by
    unfold errB at h
    cases hb : allD (bodyL s) with
    | true => rfl
    | false => rw [if_pos hb] at h; exact absurd h (by decide)
  have h2 := digF_pad ha t
  rw [← ht] at h2; exact h2
theorem lrd_strict {s : List Int} (h : errB s = 0) : lrdL s = octB s := by
  unfold lrdL octB sixB
  rw [digF_strict h, if_pos h]
theorem cln_strict {s : List Int} (h : errB s = 0) : clnL s = s := by unfold clnL; rw [lrd_strict h, lay_read h]
theorem oct8_wf : ∀ L : List Int, isBits L → ∀ y ∈ oct8 L, 0 ≤ y ∧ y ≤ 255 := by
  intro L
  suffices h : ∀ n, ∀ L : List Int, L.length ≤ n → isBits L → ∀ y ∈ oct8 L, 0 ≤ y ∧ y ≤ 255 from h L.length L (Nat.le_refl _)
  intro n
  induction n with
  | zero => intro L hL hb y hy; have : L = [] := List.eq_nil_of_length_eq_zero (by omega); subst this; cases hy
  | succ n ih =>
    intro L hL hb y hy
    by_cases h8 : L.length < 8
    · rw [(oct8_small L h8).1] at hy; cases hy
    · have e : L = L.take 8 ++ L.drop 8 := (List.take_append_drop 8 L).symm
      have hl : (L.take 8).length = 8 := by simp; omega
      rw [e, (oct8_cons hl _).1] at hy
      rcases List.mem_cons.1 hy with rfl | hy
      · have := num_bd (l := L.take 8) fun x hx => hb x (List.mem_of_mem_take hx)
        rw [hl] at this
        have h2 : (2 : Int) ^ 8 = 256 := by decide
        omega
      · exact ih (L.drop 8) (by simp; omega) (fun x hx => hb x (List.mem_of_mem_drop hx)) y hy
theorem lrd_wf (xs : List Int) : ∀ y ∈ lrdL xs, 0 ≤ y ∧ y ≤ 255 := oct8_wf _ (bits_flat (fun _ => bits_six _) _)
theorem oct8_len : ∀ L : List Int, (oct8 L).length = L.length / 8 := by
  intro L
  suffices h : ∀ n, ∀ L : List Int, L.length ≤ n → (oct8 L).length = L.length / 8 from h L.length L (Nat.le_refl _)
  intro n
  induction n with
  | zero => intro L hL; have : L = [] := List.eq_nil_of_length_eq_zero (by omega); subst this; rfl
  | succ n ih =>
    intro L hL
    by_cases h8 : L.length < 8
    · rw [(oct8_small L h8).1]; simp; omega
    · have e : L = L.take 8 ++ L.drop 8 := (List.take_append_drop 8 L).symm
      have hl : (L.take 8).length = 8 := by simp; omega
      have h3 := ih (L.drop 8) (by simp; omega)
      have h4 : oct8 L = numL (L.take 8) :: oct8 (L.drop 8) := by
        have h5 := (oct8_cons hl (L.drop 8)).1
        rw [← e] at h5; exact h5
      rw [h4, List.length_cons, h3, List.length_drop]; omega
theorem lrd_len (xs : List Int) : (lrdL xs).length ≤ xs.length := by
  unfold lrdL
  rw [oct8_len, sixesL_length]
  have := digF_len xs
  omega
theorem cln_read (xs : List Int) : errB (clnL xs) = 0 ∧ octB (clnL xs) = lrdL xs ∧ clnL (clnL xs) = clnL xs := by
  obtain ⟨h1, h2⟩ := read_lay (lrd_wf xs)
  exact ⟨h1, h2, cln_strict h1⟩
end Go.Proofs.Ytibnmekifaaacaa
