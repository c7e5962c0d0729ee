/- Layer 20 (qword) in plain words: what is laid, what is read, what is right; no program. Conditions: each lemma bears its own. -/
import Derived.Test.Ytcjfjhciobkbcaa02C
namespace Go.Proofs.Ytcjfjhciobkbcaa

def one20 (x : Int) : List Int := if x = 32 then [95] else if isL x 128 then [x] else escL 61 x
def lay20 (xs : List Int) : List Int := xs.flatMap one20
theorem one20_len (x : Int) : 1 ≤ (one20 x).length ∧ (one20 x).length ≤ 3 := by unfold one20; repeat' split <;> simp [escL]
theorem lay20_len (xs : List Int) : xs.length ≤ (lay20 xs).length ∧ (lay20 xs).length ≤ 3 * xs.length := by
  induction xs with
  | nil => simp [lay20]
  | cons x r ih =>
    have := one20_len x
    simp only [lay20, List.flatMap_cons, List.length_append, List.length_cons] at ih ⊢; omega
theorem lay20_take {xs : List Int} {k : Nat} {x : Int} (ht : xs.take (k + 1) = xs.take k ++ [x]) : lay20 (xs.take (k + 1)) = lay20 (xs.take k) ++ one20 x := by
  rw [ht]; simp [lay20, List.flatMap_append]
theorem lay20_app (xs ys : List Int) : lay20 (xs ++ ys) = lay20 xs ++ lay20 ys := by simp [lay20, List.flatMap_append]

/-- what is read: each octet, and whether an escape told it (the first s octets are passed over) -/
def evS (sg : Int) : Nat → List Int → List (Int × Bool)
  | _, [] => []
  | s + 1, _ :: r => evS sg s r
  | 0, x :: r => if takB sg (x :: r) then (takV sg (x :: r), true) :: evS sg 2 r else (x, false) :: evS sg 0 r
theorem evS_skip (sg : Int) (s : Nat) (l : List Int) : evS sg s l = evS sg 0 (l.drop s) := by
  induction s generalizing l with
  | zero => rfl
  | succ s ih => cases l with
    | nil => rfl
    | cons x r => simp only [evS, List.drop_succ_cons]; exact ih r
theorem evS_esc {sg x : Int} {r : List Int} (h : takB sg (x :: r) = true) : evS sg 0 (x :: r) = (takV sg (x :: r), true) :: evS sg 0 (r.drop 2) := by
  rw [evS, if_pos h, evS_skip sg 2 r]
theorem evS_one {sg x : Int} {r : List Int} (h : takB sg (x :: r) = false) : evS sg 0 (x :: r) = (x, false) :: evS sg 0 r := by
  rw [evS, if_neg (by simp [h])]
theorem evS_len (sg : Int) (s : Nat) (l : List Int) : (evS sg s l).length ≤ l.length := by
  induction l generalizing s with
  | nil => simp [evS]
  | cons x r ih =>
    cases s with
    | succ s => simp only [evS, List.length_cons]; have := ih s; omega
    | zero =>
      unfold evS
      split <;> simp only [List.length_cons]
      · have := ih 2; omega
      · have := ih 0; omega
theorem takB_len3 {sg : Int} {l : List Int} (h : takB sg l = true) : 3 ≤ l.length := by
  rcases Nat.lt_or_ge l.length 3 with h3 | h3
  · rw [(tak_none (esc_short h3)).2] at h; cases h
  · exact h3
theorem takB_sign {sg x : Int} {r : List Int} (h : takB sg (x :: r) = true) : x = sg := by
  by_cases hx : x = sg
  · exact hx
  · rw [(tak_none (esc_sign hx)).2] at h; cases h

def val20 (q : Int × Bool) : Int := if q.2 = false ∧ q.1 = 95 then 32 else q.1
def fs20 (p : List (Int × Bool)) : List Int := p.map val20
def st20 (p : List (Int × Bool)) : Int := (p.map fun q => if q.1 = 61 ∧ q.2 = false then (1 : Int) else 0).sum
theorem st20_app (p : List (Int × Bool)) (q : Int × Bool) : st20 (p ++ [q]) = st20 p + (if q.1 = 61 ∧ q.2 = false then (1 : Int) else 0) := by simp [st20]
theorem fs20_app (p : List (Int × Bool)) (q : Int × Bool) : fs20 (p ++ [q]) = fs20 p ++ [val20 q] := by simp [fs20]
theorem fs20_len (p : List (Int × Bool)) : (fs20 p).length = p.length := by simp [fs20]
theorem st20_le (p : List (Int × Bool)) : 0 ≤ st20 p ∧ st20 p ≤ p.length := by
  induction p with
  | nil => simp [st20]
  | cons q r ih =>
    have e : st20 (q :: r) = (if q.1 = 61 ∧ q.2 = false then (1 : Int) else 0) + st20 r := by simp [st20]
    rw [e, List.length_cons]; split <;> omega
def rd20 (xs : List Int) : List Int := fs20 (evS 61 0 xs)
def sn20 (xs : List Int) : Int := st20 (evS 61 0 xs)
def bad20 (xs : List Int) : Bool := xs.any fun x => !isL x 4 || decide (x = 63)
def chk20 (xs : List Int) : Int := if bad20 xs then 3 else if 0 < sn20 xs then 3 else 0
theorem rd20_len (xs : List Int) : (rd20 xs).length ≤ xs.length := by unfold rd20; rw [fs20_len]; exact evS_len 61 0 xs

theorem hex_back20 {x : Int} (h : 0 ≤ x ∧ x ≤ 255) : pairV (hexD (x / 16)) (hexD (x % 16)) = x ∧ isH (hexD (x / 16)) = true ∧ isH (hexD (x % 16)) = true := by
  have := byteAll (fun x => decide (pairV (hexD (x / 16)) (hexD (x % 16)) = x ∧ isH (hexD (x / 16)) = true ∧ isH (hexD (x % 16)) = true)) (by decide +kernel) h
  exact of_decide_eq_true this
theorem word_no {x : Int} (h : 0 ≤ x ∧ x ≤ 255) (hw : isL x 128 = true) : x ≠ 61 ∧ x ≠ 95 ∧ x ≠ 63 ∧ isL x 4 = true := by
  have := byteAll (fun x => decide (isL x 128 = true → (x ≠ 61 ∧ x ≠ 95 ∧ x ≠ 63 ∧ isL x 4 = true))) (by decide +kernel) h
  exact of_decide_eq_true this hw
theorem hexD_good {x : Int} (h : 0 ≤ x ∧ x ≤ 255) : isL (hexD (x / 16)) 4 = true ∧ hexD (x / 16) ≠ 63 ∧ isL (hexD (x % 16)) 4 = true ∧ hexD (x % 16) ≠ 63 := by
  have := byteAll (fun x => decide (isL (hexD (x / 16)) 4 = true ∧ hexD (x / 16) ≠ 63 ∧ isL (hexD (x % 16)) 4 = true ∧ hexD (x % 16) ≠ 63)) (by decide +kernel) h
  exact of_decide_eq_true this
theorem good_95 : isL 95 4 = true ∧ isL 61 4 = true := by decide +kernel
def mark20 (x : Int) : Int × Bool := if x = 32 then (95, false) else if isL x 128 then (x, false) else (x, true)
theorem evS_lay {xs : List Int} (h : ∀ x ∈ xs, (Lit.int .u8 x).wf = true) : evS 61 0 (lay20 xs) = xs.map mark20 := by
  induction xs with
  | nil => rfl
  | cons x r ih =>
    have hx := wf_u8.1 (h x (by simp))
    have ih := ih fun y hy => h y (by simp [hy])
    have e : lay20 (x :: r) = one20 x ++ lay20 r := by simp [lay20]
    rw [e, List.map_cons, ← ih]
    by_cases h32 : x = 32
    · have e1 : one20 x = [95] := by unfold one20; rw [if_pos h32]
      have e2 : mark20 x = (95, false) := by unfold mark20; rw [if_pos h32]
      rw [e1, e2, List.singleton_append, evS_one (tak_none (esc_sign (by decide))).2]
    · cases hq : isL x 128 with
      | true =>
        have e1 : one20 x = [x] := by unfold one20; rw [if_neg h32, hq]; rfl
        have e2 : mark20 x = (x, false) := by unfold mark20; rw [if_neg h32, hq]; rfl
        rw [e1, e2, List.singleton_append, evS_one (tak_none (esc_sign (word_no hx hq).1)).2]
      | false =>
        have e1 : one20 x = escL 61 x := by unfold one20; rw [if_neg h32, hq]; rfl
        have e2 : mark20 x = (x, true) := by unfold mark20; rw [if_neg h32, hq]; rfl
        have hp := esc_pairV (sg := 61) (a := hexD (x / 16)) (b := hexD (x % 16)) (r := lay20 r)
        obtain ⟨b1, b2, b3⟩ := hex_back20 hx
        rw [b1, b2, b3] at hp
        have e3 : escL 61 x ++ lay20 r = 61 :: hexD (x / 16) :: hexD (x % 16) :: lay20 r := rfl
        rw [e1, e2, e3, evS_esc (by rw [hp.2]; rfl), hp.1]; rfl
theorem back20_rd {xs : List Int} (h : ∀ x ∈ xs, (Lit.int .u8 x).wf = true) : rd20 (lay20 xs) = xs := by
  unfold rd20
  rw [evS_lay h]
  unfold fs20
  rw [List.map_map]
  have : ∀ x ∈ xs, (val20 ∘ mark20) x = id x := by
    intro x hx
    have hx := wf_u8.1 (h x hx)
    simp only [Function.comp, mark20, id]
    by_cases h32 : x = 32
    · rw [if_pos h32, h32]; rfl
    · rw [if_neg h32]
      cases hq : isL x 128 with
      | true =>
        have := word_no hx hq
        rw [if_pos rfl]; unfold val20; rw [if_neg (fun h => this.2.1 h.2)]
      | false => rw [if_neg (by decide)]; unfold val20; rw [if_neg (by simp)]
  rw [List.map_congr_left this, List.map_id]
theorem back20_sn {xs : List Int} (h : ∀ x ∈ xs, (Lit.int .u8 x).wf = true) : sn20 (lay20 xs) = 0 := by
  unfold sn20
  rw [evS_lay h]
  induction xs with
  | nil => rfl
  | cons x r ih =>
    have hx := wf_u8.1 (h x (by simp))
    have ih := ih fun y hy => h y (by simp [hy])
    have e : st20 ((x :: r).map mark20) = (if (mark20 x).1 = 61 ∧ (mark20 x).2 = false then (1 : Int) else 0) + st20 (r.map mark20) := by simp [st20]
    rw [e, ih, if_neg]
    · rfl
    · rintro ⟨h1, h2⟩
      unfold mark20 at h1 h2
      by_cases h32 : x = 32
      · rw [if_pos h32] at h1; exact absurd h1 (by decide)
      · rw [if_neg h32] at h1 h2
        cases hq : isL x 128 with
        | true => rw [hq, if_pos rfl] at h1; exact (word_no hx hq).1 h1
        | false => rw [hq, if_neg (by decide)] at h2; cases h2
theorem back20_bad {xs : List Int} (h : ∀ x ∈ xs, (Lit.int .u8 x).wf = true) : bad20 (lay20 xs) = false := by
  have hg : ∀ y ∈ lay20 xs, (!isL y 4 || decide (y = 63)) = false := by
    intro y hy
    unfold lay20 at hy
    rw [List.mem_flatMap] at hy
    obtain ⟨x, hx, hy⟩ := hy
    have hx := wf_u8.1 (h x hx)
    unfold one20 at hy
    have g := good_95
    by_cases h32 : x = 32
    · rw [if_pos h32] at hy
      simp at hy; subst hy; rw [g.1]; rfl
    · rw [if_neg h32] at hy
      cases hq : isL x 128 with
      | true =>
        rw [hq, if_pos rfl] at hy
        obtain rfl : y = x := by simpa using hy
        have := word_no hx hq
        simp [this.2.2.1, this.2.2.2]
      | false =>
        rw [hq, if_neg (by decide)] at hy
        have q := hexD_good hx
        simp only [escL, List.mem_cons, List.not_mem_nil, or_false] at hy
        rcases hy with rfl | rfl | rfl
        · rw [g.2]; rfl
        · rw [q.1]; simp [q.2.1]
        · rw [q.2.2.1]; simp [q.2.2.2]
  unfold bad20
  rw [Bool.eq_false_iff]
  intro hc
  obtain ⟨y, hy, hb⟩ := List.any_eq_true.1 hc
  rw [hg y hy] at hb; cases hb
theorem back20_chk {xs : List Int} (h : ∀ x ∈ xs, (Lit.int .u8 x).wf = true) : chk20 (lay20 xs) = 0 := by
  unfold chk20; rw [back20_bad h, back20_sn h]; rfl
theorem takV_wf20 {p : List (Int × Bool)} (h : ∀ q ∈ p, 0 ≤ q.1 ∧ q.1 ≤ 255) : ∀ y ∈ fs20 p, (Lit.int .u8 y).wf = true := by
  intro y hy
  unfold fs20 at hy
  rw [List.mem_map] at hy
  obtain ⟨q, hq, rfl⟩ := hy
  have := h q hq
  apply wf_u8.2; unfold val20; split <;> omega
end Go.Proofs.Ytcjfjhciobkbcaa
