/- Layer 43 (dots) in plain words: what is sent and received; no program. Conditions: each lemma bears its own. -/
import Derived.Test.YtlmkhjegckgmcaaLibD
namespace Go.Proofs.Ytlmkhjegckgmcaa

def dotV : List Int → Bool
  | [] => false
  | x :: _ => decide (x = 46)
def lineV (l : List Int) : List Int := if dotV l then 46 :: l else l
def dropV (l : List Int) : List Int := if dotV l then l.drop 1 else l
def sendV (xs : List Int) : List Int := joinL ((splitL xs).map lineV) ++ [46, 13, 10]
def dotN : List (List Int) → Int
  | [] => 0
  | l :: r => (if dotV l then 1 else 0) + dotN r
theorem dotN_le (ls : List (List Int)) : 0 ≤ dotN ls ∧ dotN ls ≤ ls.length := by
  induction ls with
  | nil => simp [dotN]
  | cons l r ih => simp only [dotN, List.length_cons]; split <;> omega
/-- the lines ahead of the last one, and how many octets there are with it -/
def ahd : List (List Int) → Option (List (List Int) × Int)
  | [] => none
  | l :: r => if l = [46] then some ([], 3) else (ahd r).map fun p => (l :: p.1, (l.length : Int) + 2 + p.2)
def ahdV (xs : List Int) : Option (List (List Int) × Int) := ahd (doneL xs)
def rightL (ls : List (List Int)) : Bool := ls.all fun l => !dotV l || dotV (l.drop 1)
def recV (xs : List Int) : List Int × Int × Int := match ahdV xs with | none => ([], 0, 4) | some p => (joinL (p.1.map dropV), p.2, 0)
def strV (xs : List Int) : List Int × Int := match ahdV xs with
  | none => ([], 4)
  | some p => if p.2 < xs.length then ([], 3) else if 0 < bareV 0 xs then ([], 8) else if rightL p.1 then (joinL (p.1.map dropV), 0) else ([], 3)

theorem done_none {xs : List Int} (h : cutI xs 0 = -1) : doneL xs = [] ∧ restL xs = xs := by
  rcases cutI_cases xs 0 (by omega) with ⟨_, h2⟩ | ⟨k, h1, _⟩
  · unfold doneL restL; rw [h2 []]; exact ⟨rfl, rfl⟩
  · omega
theorem done_at {xs : List Int} {k : Nat} (h : cutI xs 0 = k) : doneL xs = xs.take k :: doneL (xs.drop (k + 2)) ∧ restL xs = restL (xs.drop (k + 2)) := by
  rcases cutI_cases xs 0 (by omega) with ⟨h1, _⟩ | ⟨j, h1, h2, h3⟩
  · omega
  · have : j = k := by omega
    subst this
    unfold doneL restL
    rw [h3 []]; exact ⟨rfl, rfl⟩
theorem done_join (xs : List Int) : joinL (doneL xs) ++ restL xs = xs := splF_join xs []
theorem cut_app (l t : List Int) : ∀ i, 0 ≤ i → cutI l i = -1 → cutI (l ++ 13 :: 10 :: t) i = i + l.length := by
  induction l with
  | nil => intro i _ _; rw [List.nil_append, cutI_nl (nl_yes t)]; simp
  | cons x r ih =>
    intro i hi h
    cases hn : nl x r with
    | true => rw [cutI_nl hn] at h; omega
    | false =>
      rw [cutI_on hn] at h
      have hn2 : nl x (r ++ 13 :: 10 :: t) = false := by
        cases r with
        | nil => simp [nl]
        | cons y r' => exact hn
      rw [List.cons_append, cutI_on hn2, ih _ (by omega) h]
      simp only [List.length_cons]; push_cast; omega
theorem cut_take (xs : List Int) : ∀ (i : Int) (k : Nat), 0 ≤ i → cutI xs i = i + k → cutI (xs.take k) i = -1 := by
  induction xs with
  | nil => intro i k hi h; have h' : (-1 : Int) = i + k := h; omega
  | cons x r ih =>
    intro i k hi h
    cases hn : nl x r with
    | true =>
      rw [cutI_nl hn] at h
      have : k = 0 := by omega
      subst this; rfl
    | false =>
      rw [cutI_on hn] at h
      cases k with
      | zero => rfl
      | succ k =>
        have hn2 : nl x (r.take k) = false := by
          cases k with
          | zero => rw [List.take_zero]; rfl
          | succ k => cases r with
            | nil => rfl
            | cons y r' => exact hn
        rw [List.take_succ_cons, cutI_on hn2]
        exact ih (i + 1) k (by omega) (by rw [h]; push_cast; omega)
theorem done_app {l t : List Int} (h : cutI l 0 = -1) : doneL (l ++ 13 :: 10 :: t) = l :: doneL t ∧ restL (l ++ 13 :: 10 :: t) = restL t := by
  have hc := cut_app l t 0 (by omega) h
  obtain ⟨h1, h2⟩ := done_at (k := l.length) (by rw [hc]; omega)
  have e : (l ++ 13 :: 10 :: t).drop (l.length + 2) = t := by rw [← List.drop_drop, List.drop_left]; rfl
  rw [e] at h1 h2
  rw [List.take_left] at h1
  exact ⟨h1, h2⟩
theorem done_joinL (ls : List (List Int)) (t : List Int) (h : ∀ l ∈ ls, cutI l 0 = -1) : doneL (joinL ls ++ t) = ls ++ doneL t ∧ restL (joinL ls ++ t) = restL t := by
  induction ls with
  | nil => simp [joinL]
  | cons l r ih =>
    obtain ⟨h1, h2⟩ := ih fun y hy => h y (by simp [hy])
    have e : joinL (l :: r) ++ t = l ++ 13 :: 10 :: (joinL r ++ t) := by rw [joinL_cons]; simp
    obtain ⟨h3, h4⟩ := done_app (t := joinL r ++ t) (h l (by simp))
    rw [e, h3, h4, h1, h2]; exact ⟨rfl, rfl⟩
theorem split_clean (xs : List Int) : ∀ l ∈ splitL xs, cutI l 0 = -1 := by
  suffices h : ∀ n, ∀ xs : List Int, xs.length ≤ n → ∀ l ∈ splitL xs, cutI l 0 = -1 from h xs.length xs (Nat.le_refl _)
  intro n
  induction n with
  | zero => intro xs hx l hl; have : xs = [] := List.eq_nil_of_length_eq_zero (by omega); subst this; cases hl
  | succ n ih =>
    intro xs hx l hl
    by_cases h0 : xs = []
    · subst h0; cases hl
    · have hp : 0 < xs.length := List.length_pos_iff.2 h0
      rcases cutI_bd xs with h | ⟨k, h, hk⟩
      · rw [split_none h h0] at hl
        simp at hl; subst hl; exact h
      · rw [(split_at h).2] at hl
        rcases List.mem_cons.1 hl with rfl | hl
        · exact cut_take xs 0 k (by omega) (by rw [h]; omega)
        · exact ih _ (by rw [List.length_drop]; omega) l hl
theorem done_mem (xs : List Int) : ∀ l ∈ doneL xs, cutI l 0 = -1 := fun l hl => split_clean xs l (by unfold splitL; split; exact hl; exact List.mem_append_left _ hl)
theorem rest_clean (xs : List Int) : cutI (restL xs) 0 = -1 := by
  by_cases h : restL xs = []
  · rw [h]; rfl
  · exact split_clean xs _ (by unfold splitL; rw [if_neg h]; simp)

/-- ends, bare or not -/
def cntE (l : List Int) : Int := cntC 13 l + cntC 10 l
theorem cntC_app (c : Int) (a b : List Int) : cntC c (a ++ b) = cntC c a + cntC c b := by
  induction a with
  | nil => simp [cntC]
  | cons x r ih => rw [List.cons_append, cntC, cntC, ih]; omega
theorem bare_eq (xs : List Int) : bareV 0 xs = cntE xs - 2 * pairN xs := by
  have h := bare_count xs 0
  have h0 : nl 0 xs = false := by cases xs <;> simp [nl]
  rw [h0] at h
  unfold cntE; simp at h; omega
theorem bare_clean {l : List Int} (h : cutI l 0 = -1) : bareV 0 l = cntE l := by rw [bare_eq, (pairN_cut l).1 h]; omega
theorem bare_line {l t : List Int} (h : cutI l 0 = -1) : bareV 0 (l ++ 13 :: 10 :: t) = cntE l + bareV 0 t := by
  have hc := cut_app l t 0 (by omega) h
  have hp := (pairN_cut (l ++ 13 :: 10 :: t)).2 l.length (by rw [hc]; omega)
  have e : (l ++ 13 :: 10 :: t).drop (l.length + 2) = t := by rw [← List.drop_drop, List.drop_left]; rfl
  rw [e] at hp
  rw [bare_eq, bare_eq t, hp]
  unfold cntE
  rw [cntC_app, cntC_app]
  have e1 : cntC 13 (13 :: 10 :: t) = 1 + cntC 13 t := by simp [cntC]
  have e2 : cntC 10 (13 :: 10 :: t) = 1 + cntC 10 t := by simp [cntC]
  rw [e1, e2]; omega
def sumE : List (List Int) → Int
  | [] => 0
  | l :: r => cntE l + sumE r
theorem bare_join (ls : List (List Int)) (t : List Int) (h : ∀ l ∈ ls, cutI l 0 = -1) : bareV 0 (joinL ls ++ t) = sumE ls + bareV 0 t := by
  induction ls with
  | nil => simp [joinL, sumE]
  | cons l r ih =>
    have e : joinL (l :: r) ++ t = l ++ 13 :: 10 :: (joinL r ++ t) := by rw [joinL_cons]; simp
    rw [e, bare_line (h l (by simp)), ih fun y hy => h y (by simp [hy])]
    simp only [sumE]; omega
theorem sumE_app (a b : List (List Int)) : sumE (a ++ b) = sumE a + sumE b := by
  induction a with
  | nil => simp [sumE]
  | cons l r ih => rw [List.cons_append, sumE, sumE, ih]; omega
theorem lineV_clean {l : List Int} (h : cutI l 0 = -1) : cutI (lineV l) 0 = -1 := by
  unfold lineV
  split
  · have hn : nl 46 l = false := by cases l <;> simp [nl]
    rw [cutI_on hn, cutI_shift l 0 (by omega), if_pos h]
  · exact h
theorem lineV_cnt (l : List Int) : cntE (lineV l) = cntE l := by unfold lineV; split <;> simp [cntE, cntC]
theorem sumE_line (ls : List (List Int)) : sumE (ls.map lineV) = sumE ls := by
  induction ls with
  | nil => rfl
  | cons l r ih => rw [List.map_cons, sumE, sumE, ih, lineV_cnt]
theorem bare_send (xs : List Int) : bareV 0 (sendV xs) = bareV 0 xs := by
  have hc : ∀ l ∈ (splitL xs).map lineV, cutI l 0 = -1 := by
    intro l hl
    obtain ⟨y, hy, rfl⟩ := List.mem_map.1 hl
    exact lineV_clean (split_clean xs y hy)
  unfold sendV
  rw [bare_join _ _ hc, sumE_line, show bareV 0 [46, 13, 10] = 0 from by decide]
  have hx := done_join xs
  have h2 := bare_join (doneL xs) (restL xs) (done_mem xs)
  rw [hx, bare_clean (rest_clean xs)] at h2
  rw [h2]
  unfold splitL
  split
  · rename_i h; rw [h]; simp [cntE, cntC]
  · rw [sumE_app]; simp [sumE]

theorem dotV_line {l : List Int} (h : dotV l = true) : lineV l = 46 :: l := by unfold lineV; rw [if_pos h]
theorem dotV_line' {l : List Int} (h : dotV l = false) : lineV l = l := by unfold lineV; rw [if_neg (by simp [h])]
theorem drop_line (l : List Int) : dropV (lineV l) = l := by
  cases h : dotV l with
  | true => rw [dotV_line h]; rfl
  | false => rw [dotV_line' h]; unfold dropV; rw [if_neg (by simp [h])]
theorem line_ne (l : List Int) : lineV l ≠ [46] := by
  cases h : dotV l with
  | true =>
    rw [dotV_line h]
    cases l with
    | nil => cases h
    | cons x r => simp
  | false =>
    rw [dotV_line' h]
    intro h2; rw [h2] at h; cases h
theorem line_right (ls : List (List Int)) : rightL (ls.map lineV) = true := by
  unfold rightL
  rw [List.all_eq_true]
  intro l hl
  obtain ⟨y, _, rfl⟩ := List.mem_map.1 hl
  cases h : dotV y with
  | true => rw [dotV_line h]; simp [h]
  | false => rw [dotV_line' h]; simp [h]
theorem ahd_some (ls r : List (List Int)) (h : ∀ l ∈ ls, l ≠ [46]) : ahd (ls ++ [46] :: r) = some (ls, ((joinL ls).length : Int) + 3) := by
  induction ls with
  | nil => simp [ahd, joinL]
  | cons l t ih =>
    rw [List.cons_append, ahd, if_neg (h l (by simp)), ih fun y hy => h y (by simp [hy]), joinL_cons]
    simp; omega
theorem ahd_none (ls : List (List Int)) (h : ∀ l ∈ ls, l ≠ [46]) : ahd ls = none := by
  induction ls with
  | nil => rfl
  | cons l t ih => rw [ahd, if_neg (h l (by simp)), ih fun y hy => h y (by simp [hy])]; rfl
theorem ahd_send (xs bs : List Int) : ahdV (sendV xs ++ bs) = some ((splitL xs).map lineV, ((sendV xs).length : Int)) := by
  have hc : ∀ l ∈ (splitL xs).map lineV, cutI l 0 = -1 := by
    intro l hl
    obtain ⟨y, hy, rfl⟩ := List.mem_map.1 hl
    exact lineV_clean (split_clean xs y hy)
  have hne : ∀ l ∈ (splitL xs).map lineV, l ≠ [46] := by
    intro l hl
    obtain ⟨y, _, rfl⟩ := List.mem_map.1 hl
    exact line_ne y
  have e : sendV xs ++ bs = joinL ((splitL xs).map lineV) ++ ([46] ++ 13 :: 10 :: bs) := by simp [sendV]
  unfold ahdV
  rw [e, (done_joinL _ _ hc).1, (done_app (l := [46]) (t := bs) (by decide)).1, ahd_some _ _ hne]
  simp [sendV]
theorem map_drop_line (ls : List (List Int)) : (ls.map lineV).map dropV = ls := by
  rw [List.map_map]
  have : ∀ l ∈ ls, (dropV ∘ lineV) l = id l := fun l _ => drop_line l
  rw [List.map_congr_left this, List.map_id]
theorem back43 (xs bs : List Int) : recV (sendV xs ++ bs) = (joinL (splitL xs), ((sendV xs).length : Int), 0) := by
  unfold recV
  rw [ahd_send]
  simp only [map_drop_line]
theorem strict43 (xs : List Int) : strV (sendV xs) = if 0 < bareV 0 xs then ([], 8) else (joinL (splitL xs), 0) := by
  have h := ahd_send xs []
  rw [List.append_nil] at h
  unfold strV
  rw [h]
  simp only [map_drop_line, line_right, bare_send]
  rw [if_neg (by omega)]; rfl

/-- what ends at a place that octets reach is a line that ends -/
theorem take_done {xs : List Int} {k : Nat} (h : k < (splitL xs).length) : (k < (doneL xs).length → (splitL xs).take (k + 1) = (doneL xs).take (k + 1) ∧ (joinL ((splitL xs).take (k + 1))).length ≤ xs.length) ∧
    (¬ k < (doneL xs).length → xs.length < (joinL ((splitL xs).take (k + 1))).length ∧ (splitL xs).take k = doneL xs) := by
  have hj := done_join xs
  have hl : (joinL (doneL xs)).length + (restL xs).length = xs.length := by rw [← List.length_append, hj]
  unfold splitL at h ⊢
  constructor
  · intro hk
    have e : (if restL xs = [] then doneL xs else doneL xs ++ [restL xs]).take (k + 1) = (doneL xs).take (k + 1) := by
      split
      · rfl
      · rw [List.take_append_of_le_length (by omega)]
    rw [e]
    have := joinL_app ((doneL xs).take (k + 1)) ((doneL xs).drop (k + 1))
    rw [List.take_append_drop] at this
    have h2 : (joinL ((doneL xs).take (k + 1))).length ≤ (joinL (doneL xs)).length := by rw [this, List.length_append]; omega
    exact ⟨rfl, by omega⟩
  · intro hk
    split at h
    · exact absurd h hk
    · rename_i hr
      rw [if_neg hr]
      have hk2 : k = (doneL xs).length := by simp at h; omega
      subst hk2
      rw [show (doneL xs).length + 1 = (doneL xs ++ [restL xs]).length from by simp, List.take_length, joinL_app, List.take_left]
      refine ⟨?_, rfl⟩
      rw [List.length_append]
      have : (joinL [restL xs]).length = (restL xs).length + 2 := by simp [joinL]
      omega
end Go.Proofs.Ytlmkhjegckgmcaa
