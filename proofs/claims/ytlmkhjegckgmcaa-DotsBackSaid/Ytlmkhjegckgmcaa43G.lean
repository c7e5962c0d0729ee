/- Layer 43 (dots): receiving strictly by the reference: what its function returns; and what the laws' own functions return. Conditions: the arguments read as lists; lengths at most 2^20; the variable MaxLen holds a number. -/
import Derived.Test.Ytlmkhjegckgmcaa43F
namespace Go.Proofs.Ytlmkhjegckgmcaa
open Go.RowKit

theorem str_rec (xs : List Int) : strV xs = if (recV xs).2.2 ≠ 0 then ([], (recV xs).2.2) else if (recV xs).2.1 < xs.length then ([], 3) else if 0 < bareV 0 xs then ([], 8) else if rgtV xs then ((recV xs).1, 0) else ([], 3) := by
  unfold strV
  cases h : ahdV xs with
  | none => rw [(rec_none h).1]; rfl
  | some p => rw [(rec_some h).1, (rec_some h).2]; rfl
theorem recV_form (xs : List Int) : ((recV xs).1 = [] ∧ (recV xs).2.1 = 0 ∧ (recV xs).2.2 = 4 ∧ (ahdP xs).2 = 0) ∨ ((recV xs).2.2 = 0 ∧ 0 < (recV xs).2.1 ∧ (ahdP xs).2 = (recV xs).2.1) := by
  unfold ahdP
  cases h : ahdV xs with
  | none => rw [(rec_none h).1]; exact .inl ⟨rfl, rfl, rfl, rfl⟩
  | some p =>
    obtain ⟨_, _, h3, h4⟩ := ahdV_pre h
    rw [(rec_some h).1]; exact .inr ⟨rfl, by show 0 < p.2; omega, rfl⟩
set_option maxRecDepth 100000 in
set_option maxHeartbeats 1000000 in
theorem r43_Strict {A n c xs} {w : World} (hs : Sl w .u8 A n c xs) (hn : n ≤ 1048576) : Calls Try.prog 41 #[.slice A n c] w (RetStr xs w) := by
  have hl := hs.len
  have hp := r43_Receive hs hn
  have he := str_rec xs
  unfold RetR4 at hp
  have hbr := fun {W : World} (h : Sl W .u8 A n c xs) => r26_Bare h (by omega)
  have hq0 := bareV_le 0 xs
  obtain ⟨rv, hrv⟩ : ∃ rv, recV xs = rv := ⟨_, rfl⟩
  obtain ⟨o, m, f⟩ := rv
  obtain ⟨q, hq⟩ : ∃ q, bareV 0 xs = q := ⟨_, rfl⟩
  obtain ⟨g, hg⟩ : ∃ g, rgtV xs = g := ⟨_, rfl⟩
  simp only [hrv, hq, hg] at hp he hbr hq0
  rw [hl] at he
  clear hrv hq hg
  by_cases h0 : f = 0
  · subst h0
    rw [if_neg (by simp)] at he
    by_cases h1 : m < n
    · rw [if_pos h1] at he
      have HE := Lib.hid he; clear he
      go_enter Try.func41, Try.ntmps41
      go_wp2_with fail
      refine hp.mono ?_
      rintro e w1 ⟨v1, rfl, ho1, hb1⟩
      go_wp2
      go_ret2
      unfold RetStr
      rw [HE.out]
      exact ⟨_, rfl, Own.nil _ _ _ _, hb1⟩
    · rw [if_neg h1] at he
      by_cases h2 : 0 < q
      · rw [if_pos h2] at he
        have HE := Lib.hid he; clear he
        go_enter Try.func41, Try.ntmps41
        go_wp2_with fail
        refine hp.mono ?_
        rintro e w1 ⟨v1, rfl, ho1, hb1⟩
        go_wp2_with fail
        refine (hbr (hs.bel hb1)).mono ?_
        rintro e w' ⟨rfl, rfl⟩
        go_wp2
        go_ret2
        unfold RetStr
        rw [HE.out]
        exact ⟨_, rfl, Own.nil _ _ _ _, hb1⟩
      · rw [if_neg h2] at he
        have HE := Lib.hid he; clear he
        cases g
        all_goals
          go_enter Try.func41, Try.ntmps41
          go_wp2_with fail
          refine hp.mono ?_
          rintro e w1 ⟨v1, rfl, ho1, hb1⟩
          go_wp2_with fail
          refine (hbr (hs.bel hb1)).mono ?_
          rintro e w' ⟨rfl, rfl⟩
          go_wp2
          go_ret2
          unfold RetStr
          rw [HE.out]
        · exact ⟨_, rfl, Own.nil _ _ _ _, hb1⟩
        · exact ⟨_, rfl, ho1, hb1⟩
  · have f0 : (f == 0) = false := by simpa using h0
    have f1 : (f != 0) = true := by simpa using h0
    rw [if_pos h0] at he
    have HE := Lib.hid he; clear he
    go_enter Try.func41, Try.ntmps41
    go_wp2_with fail
    refine hp.mono ?_
    rintro e w1 ⟨v1, rfl, ho1, hb1⟩
    go_wp2
    go_ret2
    unfold RetStr
    rw [HE.out]
    exact ⟨_, rfl, Own.nil _ _ _ _, hb1⟩

theorem ev43a : sendV [46, 97] = [46, 46, 97, 13, 10, 46, 13, 10] := by decide
theorem ev43b : recV [46, 46, 97, 13, 10, 46, 13, 10] = ([46, 97, 13, 10], 8, 0) := by decide
theorem ev43c : (ahdP [46, 46, 97, 13, 10, 46, 13, 10]).2 = 8 := by decide
theorem ev43d : (ahdP []).2 = 0 := by decide
theorem st43a : strOfNums [46, 46, 97, 13, 10, 46, 13, 10] = { data := #[46, 46, 97, 13, 10, 46, 13, 10] } := by decide
theorem st43b : strOfNums [46, 97, 13, 10] = { data := #[46, 97, 13, 10] } := by decide

set_option maxRecDepth 100000 in
set_option maxHeartbeats 1000000 in
theorem alive43 {w : World} (hM : MaxL w) : Calls Try.prog 31 #[] w (RetB (.bool true) w) := by
  have kc := fun (w : World) (C : Array Value) (n c : Nat) => Lib.run_convert_bytes_const (P := Try.prog) w 22 5 C n c Try.underlying22 Try.underlying5
  go_enter Try.func31, Try.ntmps31
  go_wp2_with fail
  have hs0 := Sl.newF w .u8 5 [46, 97] (2, 3) (by decide) (by decide)
  have hb0 := (Below.refl w.heap.size w).alloc (Nat.le_refl _) (.cells ([46, 97].map (Value.int .u8)).toArray 5 (2, 3))
  refine (p43_Send hs0 (by decide) (hM.alloc _)).mono ?_
  rintro e w1 ⟨v1, rfl, ho1, hb1⟩
  rw [ev43a] at ho1
  obtain ⟨A1, n1, c1, rfl, hs1⟩ := ho1.sl
  have hn1 : n1 = 8 := hs1.len.symm
  subst hn1
  clear ho1
  have hB1 := below_then' hb0 hb1 (Nat.le_refl _)
  go_wp2_with fail
  refine (p43_Receive hs1 (by decide) (hM.bel hB1)).mono ?_
  unfold RetRec
  rw [ev43b]
  rintro e w2 ⟨v2, rfl, ho2, hb2⟩
  obtain ⟨A2, n2, c2, rfl, hs2⟩ := ho2.sl
  have hn2 : n2 = 4 := hs2.len.symm
  subst hn2
  clear ho2
  have hB2 := below_then hB1 hb2
  have q1 := (hs1.bel hb2).str (P := Try.prog) 22 5 9 Try.underlying22 Try.underlying5 Try.underlying9
  have q2 := hs2.str (P := Try.prog) 22 5 9 Try.underlying22 Try.underlying5 Try.underlying9
  rw [st43a] at q1
  rw [st43b] at q2
  go_wp2_with fail
  refine (p43_Done (hs1.bel hb2) (by decide) (hM.bel hB2)).mono ?_
  rw [ev43c]
  rintro e w3 ⟨rfl, hb3⟩
  clear q1 q2
  go_wp2_with fail
  refine (p43_Done (Sl.nil _ _) (by decide) (hM.bel (below_then hB2 hb3))).mono ?_
  rw [ev43d]
  rintro e w4 ⟨rfl, hb4⟩
  go_wp2
  go_ret
  exact ⟨rfl, below_then (below_then hB2 hb3) hb4⟩
end Go.Proofs.Ytlmkhjegckgmcaa
