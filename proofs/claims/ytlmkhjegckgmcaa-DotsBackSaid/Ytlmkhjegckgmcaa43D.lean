/- Layer 43 (dots): receiving, and strictly, by the program: what its functions return. Conditions: the arguments read as lists; lengths at most 2^20; the variable MaxLen holds a number. -/
import Derived.Test.Ytlmkhjegckgmcaa43C
namespace Go.Proofs.Ytlmkhjegckgmcaa
open Go.RowKit

theorem ahd_pre {ls : List (List Int)} : ∀ {p : List (List Int) × Int}, ahd ls = some p → (∃ r, ls = p.1 ++ [46] :: r) ∧ p.2 = (joinL p.1).length + 3 := by
  induction ls with
  | nil => intro p h; cases h
  | cons l r ih =>
    intro p h
    rw [ahd] at h
    by_cases hl : l = [46]
    · rw [if_pos hl] at h
      injection h with h; subst h; subst hl
      exact ⟨⟨r, rfl⟩, rfl⟩
    · rw [if_neg hl] at h
      cases hq : ahd r with
      | none => rw [hq] at h; cases h
      | some q =>
        rw [hq] at h
        injection h with h; subst h
        obtain ⟨⟨r', hr⟩, h2⟩ := ih hq
        refine ⟨⟨r', by rw [List.cons_append, ← hr]⟩, ?_⟩
        show (l.length : Int) + 2 + q.2 = ((joinL (l :: q.1)).length : Int) + 3
        rw [joinL_cons, h2]; simp; omega
theorem ahdV_pre {xs : List Int} {p : List (List Int) × Int} (h : ahdV xs = some p) : (∀ l ∈ p.1, l.length ≤ xs.length) ∧ p.1.length ≤ xs.length ∧ (joinL p.1).length + 3 ≤ xs.length ∧ p.2 = (joinL p.1).length + 3 := by
  obtain ⟨⟨r, hr⟩, h2⟩ := ahd_pre h
  have hj := congrArg List.length (done_join xs)
  rw [hr, joinL_app, joinL_cons] at hj
  simp only [List.length_append, List.length_cons, List.length_nil] at hj
  have hm : ∀ ls : List (List Int), ls.length ≤ (joinL ls).length := by
    intro ls
    induction ls with
    | nil => simp
    | cons x t ih => rw [joinL_cons]; simp only [List.length_append, List.length_cons, List.length_nil]; omega
  have := hm p.1
  exact ⟨fun l hl => by have := joinL_mem hl; omega, by omega, by omega, h2⟩
theorem ahdP_bd (xs : List Int) : (∀ l ∈ (ahdP xs).1, l.length ≤ xs.length) ∧ (ahdP xs).1.length ≤ xs.length ∧ (joinL (ahdP xs).1).length ≤ xs.length ∧ 0 ≤ (ahdP xs).2 ∧ (ahdP xs).2 ≤ xs.length := by
  unfold ahdP
  cases h : ahdV xs with
  | none => simp [joinL]
  | some p =>
    obtain ⟨h1, h2, h3, h4⟩ := ahdV_pre h
    exact ⟨h1, h2, by show (joinL p.1).length ≤ _; omega, by show 0 ≤ p.2; omega, by show p.2 ≤ _; omega⟩
theorem rec_eq (xs : List Int) : recV xs = if (ahdP xs).2 = 0 then ([], 0, 4) else (joinL ((ahdP xs).1.map dropV), (ahdP xs).2, 0) := by
  unfold recV ahdP
  cases h : ahdV xs with
  | none => rfl
  | some p =>
    obtain ⟨_, _, h3, h4⟩ := ahdV_pre h
    exact (if_neg (show ¬ p.2 = 0 by omega)).symm
theorem str_eq (xs : List Int) : strV xs = if (ahdP xs).2 = 0 then ([], 4) else if (ahdP xs).2 < xs.length then ([], 3) else if 0 < bareV 0 xs then ([], 8) else if rightL (ahdP xs).1 then (joinL ((ahdP xs).1.map dropV), 0) else ([], 3) := by
  unfold strV ahdP
  cases h : ahdV xs with
  | none => rfl
  | some p =>
    obtain ⟨_, _, h3, h4⟩ := ahdV_pre h
    exact (if_neg (show ¬ p.2 = 0 by omega)).symm

set_option maxRecDepth 100000 in
set_option maxHeartbeats 1000000 in
theorem p43_drop {A n c xs} {w : World} (hs : Sl w .u8 A n c xs) (hn : n ≤ 4194304) : Calls Try.prog 67 #[.slice A n c] w (fun e W' => ∃ A' n' c', e = .returned (.slice A' n' c') ∧ Sl W' .u8 A' n' c' (dropV xs) ∧
      (0 < n' → ∀ a, A' = some a → (∃ a0, A = some a0 ∧ a.block = a0.block ∧ 0 < n) ∨ ∃ arr fr, W'.heap[a.block]? = some (.cells arr 5 fr)) ∧ Below w.heap.size w W') := by
  have hle := hs.le
  have hcm := hs.cm
  unfold maxLen at hcm
  cases h : dotV xs with
  | true =>
    have e : dropV xs = xs.drop 1 := by unfold dropV; rw [if_pos h]
    have hn1 : 0 < n := by
      rw [← hs.len]; cases xs with
      | nil => cases h
      | cons x r => simp
    have hta := hs.tail (j := 1) hn1
    have H := Lib.hid h; clear h
    rw [e]; clear e
    obtain ⟨b, o, rfl, hb⟩ := hs.form hn1
    by_cases hc : c = 1
    · subst hc
      obtain rfl : n = 1 := by omega
      go_enter Try.func67, Try.ntmps67
      go_wp2_with (first | (go_at_call 65; refine (p43_dottedE hs H.out).mono ?_; rintro e w' ⟨rfl, rfl⟩))
      go_ret
      exact ⟨_, _, _, rfl, hta, fun h => absurd h (by omega), Below.refl _ _⟩
    · unfold tailA at hta
      rw [if_neg hc, Option.map_some, add_plain] at hta
      go_enter Try.func67, Try.ntmps67
      go_wp2_with (first | (go_at_call 65; refine (p43_dottedE hs H.out).mono ?_; rintro e w' ⟨rfl, rfl⟩))
      go_ret
      exact ⟨_, _, _, rfl, hta, fun _ a ha => .inl ⟨_, rfl, by injection ha with ha; subst ha; rfl, hn1⟩, Below.refl _ _⟩
  | false =>
    have e : dropV xs = xs := by unfold dropV; rw [if_neg (by simp [h])]
    rw [e]
    have H := Lib.hid h; clear h e
    go_enter Try.func67, Try.ntmps67
    go_wp2_with (first | (go_at_call 65; refine (p43_dottedE hs H.out).mono ?_; rintro e w' ⟨rfl, rfl⟩))
    go_ret
    exact ⟨_, _, _, rfl, hs, fun hn1 a ha => .inl ⟨a, ha, rfl, hn1⟩, Below.refl _ _⟩
theorem turn_drop : Turn Try.prog 67 5 dropV :=
  ⟨enters_of Try.func67 (by kernel_rfl) rfl, fun _ _ _ _ _ hs hn => p43_drop hs hn⟩

def RetRec (xs : List Int) (w : World) (e : Ending) (w' : World) : Prop :=
  ∃ v, e = .returned (.tuple #[v, .int .i64 (recV xs).2.1, .int .i64 (recV xs).2.2]) ∧ Own w' w.heap.size 5 .u8 v (recV xs).1 ∧ Below w.heap.size w w'
set_option maxRecDepth 100000 in
set_option maxHeartbeats 1000000 in
theorem p43_Receive {A n c xs} {w : World} (hs : Sl w .u8 A n c xs) (hn : n ≤ 1048576) (hM : MaxL w) : Calls Try.prog 38 #[.slice A n c] w (RetRec xs w) := by
  have hl := hs.len
  obtain ⟨b1, b2, b3, b4, b5⟩ := ahdP_bd xs
  have b6 := join_drop (ahdP xs).1
  have hp := p43_ahead hs hn hM
  have he := rec_eq xs
  unfold RetAhd at hp
  obtain ⟨ls, hls⟩ : ∃ ls, (ahdP xs).1 = ls := ⟨_, rfl⟩
  obtain ⟨m, hm⟩ : ∃ m, (ahdP xs).2 = m := ⟨_, rfl⟩
  simp only [hls, hm] at hp he b1 b2 b3 b4 b5 b6
  clear hls hm
  have HB1 := Lib.hid b1; clear b1
  by_cases h0 : m = 0
  · subst h0
    rw [if_pos rfl] at he
    have HE := Lib.hid he; clear he
    go_enter Try.func38, Try.ntmps38
    go_wp2_with fail
    refine hp.mono ?_
    rintro e w1 ⟨v1, rfl, ho1, hb1⟩
    go_wp2
    go_ret3
    unfold RetRec
    rw [HE.out]
    exact ⟨_, rfl, Own.nil _ _ _ _, hb1⟩
  · have f0 : (m == 0) = false := by simpa using h0
    rw [if_neg h0] at he
    have HE := Lib.hid he; clear he
    go_enter Try.func38, Try.ntmps38
    go_wp2_with fail
    refine hp.mono ?_
    rintro e w1 ⟨v1, rfl, ho1, hb1⟩
    obtain ⟨A1, n1, c1, rfl, hL1⟩ := ho1.lns
    have hl1 := hL1.len
    clear ho1
    go_wp2_with fail
    refine (p43_each turn_drop hL1 (by omega) (fun l h => by have := HB1.out l h; omega) (by omega)).mono ?_
    rintro e w2 ⟨v2, rfl, ho2, hb2⟩
    go_wp2
    go_ret3
    unfold RetRec
    rw [HE.out]
    exact ⟨v2, rfl, ho2.mono hb1.size, below_then hb1 hb2⟩

set_option maxRecDepth 100000 in
set_option maxHeartbeats 1000000 in
theorem p43_Done {A n c xs} {w : World} (hs : Sl w .u8 A n c xs) (hn : n ≤ 1048576) (hM : MaxL w) : Calls Try.prog 42 #[.slice A n c] w (RetB (.bool (decide (0 < (ahdP xs).2))) w) := by
  have hp := p43_ahead hs hn hM
  unfold RetAhd at hp
  obtain ⟨m, hm⟩ : ∃ m, (ahdP xs).2 = m := ⟨_, rfl⟩
  simp only [hm] at hp ⊢
  clear hm
  go_enter Try.func42, Try.ntmps42
  go_wp2_with fail
  refine hp.mono ?_
  rintro e w1 ⟨v1, rfl, ho1, hb1⟩
  go_wp2
  go_ret
  exact ⟨ret_bool (by first | rfl | simp), hb1⟩
end Go.Proofs.Ytlmkhjegckgmcaa
