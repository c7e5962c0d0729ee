/- Layer 26's law of lines split, and of any lines joined: it returns true for every input, and leaves what was there. Conditions: the arguments read as lists; the variable MaxLen holds a number. -/
import Derived.Test.Ytlmkhjegckgmcaa26M
import Derived.Deep.Matrix
namespace Go.Proofs.Ytlmkhjegckgmcaa
open Go.RowKit

set_option maxRecDepth 100000 in
set_option maxHeartbeats 1000000 in
theorem law_LinesSplits {A n c xs A' n' c' ls} {w : World} (hM : MaxL w) (hs : Sl w .u8 A n c xs) (ht : Lns w A' n' c' ls) : Calls Try.prog 4 #[.slice A n c, .slice A' n' c'] w (RetB (.bool true) w) := by
  have hle := ht.le
  have hcm := ht.cm
  unfold maxLen at hcm
  by_cases hbig : 1000 < n
  · go_enter Try.func4, Try.ntmps4
    go_wp2_with (go_at_call 13; refine (alive26 hM).mono ?_; rintro e w1 ⟨rfl, hb⟩)
    go_ret
    exact ⟨rfl, hb⟩
  by_cases hbig2 : 30 < n'
  · go_enter Try.func4, Try.ntmps4
    go_wp2_with (go_at_call 13; refine (alive26 hM).mono ?_; rintro e w1 ⟨rfl, hb⟩)
    go_ret
    exact ⟨rfl, hb⟩
  have HL := Lib.hid ht.len
  go_enter Try.func4, Try.ntmps4
  go_wp2
  go_loop [18] (fun i => ∃ k : Nat, k ≤ n' ∧ i = .int .i64 k ∧ (joinL (ls.take k)).length ≤ 202 * k) (fun i => n' - (intOf i).toNat)
  case atStart => exact ⟨0, by omega, rfl, by simp [joinL]⟩
  case round =>
    obtain ⟨k, hk, rfl, hj⟩ := hrel
    by_cases hlt : k < n'
    · obtain ⟨b, o, A1, n1, c1, x, rfl, hb, hcell, hx, _, _, htk⟩ := ht.get hlt
      have hxl := hx.len
      by_cases hlong : 200 < n1
      · clear htk
        go_wp2_with (go_at_call 13; refine (alive26 hM).mono ?_; rintro e w1 ⟨rfl, hb⟩)
        go_ret
        exact ⟨rfl, hb⟩
      · have hj2 : (joinL (ls.take (k + 1))).length ≤ 202 * (k + 1) := by
          rw [joinL_take htk]; simp only [List.length_append, List.length_cons, List.length_nil]; omega
        clear htk hxl
        go_wp2
        (go_round; (case rel => exact ⟨k + 1, by omega, by go_num, hj2⟩); (case measure => first | (simp [intOf] <;> omega) | (simp [lenOf] <;> omega)))
    · have hjl : (joinL ls).length ≤ 1073741824 := by
        rw [List.take_of_length_le (by have := HL.out; omega)] at hj; omega
      have e1 := likeL_self (joinL ls)
      obtain ⟨q, hq⟩ : ∃ q, endsV xs = q := ⟨_, rfl⟩
      obtain ⟨r, hr⟩ : ∃ r, bareV 0 xs = r := ⟨_, rfl⟩
      have HQ := Lib.hid hq; have HR := Lib.hid hr
      clear hq hr hj
      have e2 : (q == q) = true := by simp
      go_wp2_with fail
      refine (p26_Split hs (by omega) hM).mono ?_
      rintro e w1 ⟨v1, rfl, ho1, hb1⟩
      obtain ⟨A1, n1, c1, rfl, hL1⟩ := ho1.lns
      clear ho1
      go_wp2_with fail
      refine (r26_Split (hs.bel hb1) (by omega)).mono ?_
      rintro e w2 ⟨A2, n2, c2, rfl, hL2, hb2⟩
      have hB2 := below_then hb1 hb2
      go_wp2_with fail
      refine (law_same (hL1.bel hb2) hL2).mono ?_
      rintro e w3 ⟨rfl, hb3⟩
      have hB3 := below_then hB2 hb3
      go_wp2_with fail
      refine (p26_Ends (hs.bel hB3) (by omega)).mono ?_
      rw [HQ.out]
      rintro e w4 ⟨rfl, hb4⟩
      have hB4 := below_then hB3 hb4
      go_wp2_with fail
      refine (r26_Ends (hs.bel hB4) (by omega)).mono ?_
      rw [HQ.out]
      rintro e w5 ⟨rfl, hb5⟩
      have hB5 := below_then hB4 hb5
      go_wp2_with fail
      refine (p26_Bare (hs.bel hB5) (by omega) (hM.bel hB5)).mono ?_
      rw [HR.out]
      rintro e w6 ⟨rfl, hb6⟩
      have hB6 := below_then hB5 hb6
      go_wp2_with fail
      refine (r26_Bare (hs.bel hB6) (by omega)).mono ?_
      rw [HR.out]
      rintro e w' ⟨rfl, rfl⟩
      go_wp2_with fail
      refine (p26_Join (ht.bel hB6) (by omega) hjl).mono ?_
      rintro e w7 ⟨v7, rfl, ho7, hb7⟩
      obtain ⟨A7, n7, c7, rfl, hs7⟩ := ho7.sl
      clear ho7
      have hB7 := below_then hB6 hb7
      go_wp2_with fail
      refine (r26_Join (ht.bel hB7) (by omega) hjl).mono ?_
      rintro e w8 ⟨v8, rfl, ho8, hb8⟩
      obtain ⟨A8, n8, c8, rfl, hs8⟩ := ho8.sl
      clear ho8
      have hB8 := below_then hB7 hb8
      go_wp2_with fail
      refine (r01_Like (hs7.bel hb8) hs8).mono ?_
      rintro e w9 ⟨rfl, hb9⟩
      have hB9 := below_then hB8 hb9
      go_wp2_with (go_at_call 13; refine (alive26 (hM.bel hB9)).mono ?_; rintro e w10 ⟨rfl, hb10⟩)
      go_ret
      exact ⟨rfl, below_then hB9 hb10⟩

/-- lines that came in -/
theorem Lns.ofRows {w : World} {a : Addr} {len cap : Nat} {A : Nat → Option Addr} {L C : Nat → Nat} {Z : Nat → List Int} (hl : len ≤ cap) (hm : cap ≤ maxLen)
    (hr : ∀ r, r < cap → w.cell? (a.add r) = some (.slice (A r) (L r) (C r)) ∧ L r ≤ C r ∧ C r ≤ maxLen ∧ (Z r).length = C r ∧ (∀ n ∈ Z r, (Lit.int .u8 n).wf = true) ∧ (A r = none → C r = 0) ∧
        ∀ a', A r = some a' → ∀ c, c < C r → w.cell? (a'.add c) = some (.int .u8 ((Z r).getD c 0))) :
    Lns w (some a) len cap ((List.range len).map fun r => (Z r).take (L r)) := by
  refine ⟨by simp, hl, hm, by simp, fun hn => ?_⟩
  obtain ⟨b, off, spot⟩ := a
  have h0 := (hr 0 (by omega)).1
  have hspot : spot = none := by simpa [Addr.add] using World.cell?_spot h0
  subst hspot
  refine ⟨b, off, rfl, World.block_lt_of_cell? w _ (by rw [add_plain] at h0; exact h0), fun j hj => ?_⟩
  obtain ⟨h1, h2, h3, h4, h5, h6, h7⟩ := hr j (by omega)
  rw [add_plain] at h1
  refine ⟨_, _, _, h1, ?_⟩
  have e : (((List.range len).map fun r => (Z r).take (L r)).getD j []) = (Z j).take (L j) := by
    rw [List.getD_eq_getElem?_getD, List.getElem?_map, List.getElem?_range hj]; rfl
  rw [e]
  refine Sl.ofRow (k := .u8) ?_
  cases hA : A j with
  | none => exact .inl ⟨rfl, by have := h6 hA; omega, h6 hA, List.eq_nil_of_length_eq_zero (by rw [h4]; exact h6 hA)⟩
  | some a' => exact .inr ⟨a', rfl, h2, h3, h4, fun i hi => h7 a' hA i (by omega), h5⟩
end Go.Proofs.Ytlmkhjegckgmcaa
