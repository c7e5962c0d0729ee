/- Layer 26 (lines): the reference's lines. Conditions: the arguments read as lists; lengths at most 2^22. -/
import Derived.Test.Ytlmkhjegckgmcaa26
import Derived.Test.YtlmkhjegckgmcaaReg
namespace Go.Proofs.Ytlmkhjegckgmcaa
open Go.RowKit

def RetN (xs : List Int) (w : World) (e : Ending) (w' : World) : Prop :=
  ∃ A m c, e = .returned (.tuple #[.slice A m c, .bool (endsV xs)]) ∧ Lns w' A m c (splitL xs) ∧ Below w.heap.size w w'
def RelN (w : World) (n : Nat) (xs : List Int) (v i : Value) (wr : World) : Prop :=
  ∃ k ls u cur H, k ≤ n ∧ i = .int .i64 (k : Nat) ∧ CurL wr w.heap.size 22 5 v ls u cur H ∧ ls.length ≤ k ∧ cur.length ≤ k ∧
    Hid (splF [] false xs = (ls ++ (splF cur false (xs.drop k)).1, (splF cur false (xs.drop k)).2)) ∧ Below w.heap.size w wr

set_option maxRecDepth 100000 in
set_option maxHeartbeats 2000000 in
theorem r18_Lines {A n c xs} {w : World} (hs : Sl w .u8 A n c xs) (hn : n ≤ 4194304) : Calls Try.prog 60 #[.slice A n c] w (RetN xs w) := by
  have HL := Lib.hid hs.len; have hle := hs.le; have hcm := hs.cm; unfold maxLen at hcm
  go_enter Try.func60, Try.ntmps60
  go_wp2
  go_loopw [4, 5] (RelN w n xs) (fun _ i _ => n - (intOf i).toNat)
  case atStart => unfold RelN; exact ⟨0, [], _, [], _, by omega, rfl, CurL.start _ _ _, by simp, by simp, rfl, (Below.refl _ _).alloc (Nat.le_refl _) _⟩
  case round =>
    obtain ⟨k, ls, u, cur, H, hk, rfl, ho, hll, hcl, hI, hbel⟩ := hrel
    have hz := hbel.size
    have hs' := hs.bel hbel
    obtain ⟨g, cv, rfl, hgz, hgB, hcu, hfu, hlc, hcm2⟩ := ho.at_
    by_cases hlt : k < n
    · obtain ⟨bb, o, x, rfl, hbb, hcell, hwf, hd, _⟩ := hs'.get hlt
      cases hnl : nl x (xs.drop (k + 1)) with
      | true =>
        obtain ⟨rfl, r', hr⟩ := nl_cons hnl
        have hlen : (xs.drop (k + 1)).length = n - (k + 1) := by rw [List.length_drop, HL.out]
        have hk1 : k + 1 < n := by rw [hr] at hlen; simp at hlen; omega
        have hc1 := hs'.cell (j := k + 1) hk1
        have hd1 := drop_getD xs (k + 1) (by have := HL.out; omega)
        rw [hr] at hd1
        injection hd1 with e1 e2
        rw [← e1] at hc1
        have hI2 := hI.out
        rw [hd, hr, splF_nl] at hI2
        have hI3 : splF [] false xs = ((ls ++ [cur]) ++ (splF [] false (xs.drop (k + 2))).1, (splF [] false (xs.drop (k + 2))).2) := by
          rw [hI2, e2]; simp [doneL, restL]
        have HI := Lib.hid hI3
        clear hI hI2 hI3 hd hr hnl hlen e1 e2
        go_wp2_with (at_builtin; refine wpList_appC rfl rfl eltL (by decide) rfl rfl ho hbel (by refine ⟨?_, ?_⟩ <;> omega) (by omega) ?_; intro v1 w1 ho1 hb1)
        have e : (((k + 2 : Nat) : Int)) = (k : Int) + 1 + 1 := by omega
        (first | (go_roundw; (case rel => exact (by unfold RelN; exact ⟨k + 2, _, _, [], _, by omega, by rw [e], ho1, by simp; omega, by simp, HI, hb1⟩)); (case measure => first | (simp [intOf] <;> omega) | (simp [lenOf] <;> omega))) | (refine ⟨?_, ?measure⟩; (repeat apply Exists.intro); refine ⟨?rel, ?eqs⟩; (case eqs => first | rfl | ((repeat (refine ⟨rfl, ?_⟩)); rfl)); (case rel => exact (by unfold RelN; exact ⟨k + 2, _, _, [], _, by omega, by rw [e], ho1, by simp; omega, by simp, HI, hb1⟩)); (case measure => first | (simp [intOf] <;> omega) | (simp [lenOf] <;> omega))) | ((repeat apply Exists.intro); refine ⟨?rel, ?eqs⟩; (case eqs => first | rfl | ((repeat (refine ⟨rfl, ?_⟩)); rfl)); (case rel => exact (by unfold RelN; exact ⟨k + 2, _, _, [], _, by omega, by rw [e], ho1, by simp; omega, by simp, HI, hb1⟩))))
      | false =>
        have hI2 := hI.out
        rw [hd, splF_one hnl] at hI2
        have HI : Hid (splF [] false xs = (ls ++ (splF (cur ++ [x]) false (xs.drop (k + 1))).1, (splF (cur ++ [x]) false (xs.drop (k + 1))).2)) := hI2
        have hcase : (x == 13) = false ∨ (x = 13 ∧ ¬ k + 1 < n) ∨ (x = 13 ∧ k + 1 < n ∧ ∃ y, wr.cell? ⟨bb, o + (k + 1), none⟩ = some (.int .u8 y) ∧ (y == 10) = false) := by
          by_cases h13 : x = 13
          · by_cases hk1 : k + 1 < n
            · refine .inr (.inr ⟨h13, hk1, _, hs'.cell (j := k + 1) hk1, ?_⟩)
              rw [drop_getD xs (k + 1) (by have := HL.out; omega), h13] at hnl
              simpa [nl] using hnl
            · exact .inr (.inl ⟨h13, hk1⟩)
          · exact .inl (by simpa using h13)
        have i1 : (ls.length : Int) < (ls.length : Int) + 1 := by omega
        have i2 : (k : Int) < (n : Int) := by omega
        have hsA := (Sl.one wr .u8 5 x hwf).drew
        have hoA : CurL (wr.alloc (.cells #[.int .u8 x] 5)).drew w.heap.size 22 5 (.slice (some ⟨g, 0, none⟩) (ls.length + 1) cv) ls u cur H := (ho.alloc _).below (Below.refl _ _).drew
        have hbA := (hbel.alloc hz (.cells #[.int .u8 x] 5)).drew
        obtain ⟨hoC, hBH, hHz⟩ := hoA.own
        have hkeep := fun w1 (hg : (wr.alloc (.cells #[.int .u8 x] 5)).drew.grownBy w1 u.ownBlock) => hoA.keepAt (by decide) hg
        have hfin : ∀ (w1 : World) (A9 : Option Addr) (n9 c9 : Nat), Own w1 H 5 .u8 (.slice A9 n9 c9) (cur ++ [x]) → (wr.alloc (.cells #[.int .u8 x] 5)).drew.grownBy w1 u.ownBlock → Below w.heap.size w w1 →
            RelN w n xs (.slice (some ⟨g, 0, none⟩) (ls.length + 1) cv) (.int .i64 ((k : Int) + 1)) (w1.setCell ⟨g, ls.length, none⟩ (.slice A9 n9 c9)) := fun w1 A9 n9 c9 h1 h2 h3 =>
          ⟨k + 1, ls, _, _, H, by omega, by go_num, hoA.grow (by decide) h1 h2, by omega, by simp; omega, HI, h3.setCell hgB _⟩
        clear hI hI2 hd hnl ho
        rcases hcase with f13 | ⟨rfl, hk1⟩ | ⟨rfl, hk1, y, hcy, f10⟩
        all_goals
          go_wp2_with fail
          go_region_law ((refine step_app rfl rfl eltB (by decide) (v := u) (xs := cur) (A := some ⟨wr.heap.size, 0, none⟩) (m := 1) (c := 1) ?hs ?hx hoC hsA hbA (by refine ⟨?_, ?_⟩ <;> first | omega | (simp; omega)) (by omega) ?_); (case hs => go_simp); (case hx => go_simp); intro v1 w1 ho1 hb1 hg1; obtain ⟨A9, n9, c9, hv9, hs9⟩ := ho1.sl; subst hv9; clear hs9; obtain ⟨hc9, hf9⟩ := hkeep w1 hg1)
          all_goals go_wp2
          all_goals (refine ⟨?_, ?_⟩)
          all_goals first | exact hfin _ _ _ _ ho1 hg1 hb1 | (simp [intOf]; omega)
    · have hI2 := hI.out
      rw [List.drop_eq_nil_of_le (by have := HL.out; omega), splF_nil, List.append_nil] at hI2
      have hd : doneL xs = ls := by unfold doneL; rw [hI2]
      have hr : restL xs = cur := by unfold restL; rw [hI2]
      have i1 : (ls.length : Int) < (ls.length : Int) + 1 := by omega
      obtain ⟨hcO, _, _⟩ := ho.own
      obtain ⟨A9, n9, c9, rfl, hs9⟩ := hcO.sl
      have hl9 := hs9.len
      by_cases h0 : n9 = 0
      · subst h0
        obtain rfl : cur = [] := List.eq_nil_of_length_eq_zero hl9
        have e1 : endsV xs = true := by unfold endsV; rw [hr]; rfl
        have e2 : splitL xs = ls := by unfold splitL; rw [hr, if_pos rfl, hd]
        obtain ⟨g2, c2, hv2, hL⟩ := ho.lns ls.length (.inl rfl)
        injection hv2 with hv2 _ hv3; injection hv2 with hv2; injection hv2 with hv2 _ _
        subst hv2; subst hv3
        rw [if_pos rfl] at hL
        have H2 := Lib.hid e2
        have E1 := Lib.hid e1
        clear hI hI2 hd hr e1 e2 hs9 hcO ho
        go_wp2
        go_ret2
        unfold RetN
        rw [E1.out, H2.out]
        exact ⟨_, _, _, rfl, hL, hbel⟩
      · have hne : cur ≠ [] := by intro h; rw [h] at hl9; simp at hl9; omega
        have e1 : endsV xs = false := by unfold endsV; rw [hr]; exact decide_eq_false hne
        have e2 : splitL xs = ls ++ [cur] := by unfold splitL; rw [hr, if_neg hne, hd]
        obtain ⟨g2, c2, hv2, hL⟩ := ho.lns (ls.length + 1) (.inr rfl)
        injection hv2 with hv2 _ hv3; injection hv2 with hv2; injection hv2 with hv2 _ _
        subst hv2; subst hv3
        rw [if_neg (by omega)] at hL
        have H2 := Lib.hid e2
        have f9 : ((n9 : Int) == 0) = false := by simp; omega
        clear hI hI2 hd hr e2 hs9 hcO ho
        have E1 := Lib.hid e1
        clear e1
        go_wp2
        go_ret2
        unfold RetN
        rw [E1.out, H2.out]
        exact ⟨_, _, _, rfl, hL, hbel⟩

set_option maxRecDepth 100000 in
set_option maxHeartbeats 1000000 in
theorem r26_Ends {A n c xs} {w : World} (hs : Sl w .u8 A n c xs) (hn : n ≤ 4194304) : Calls Try.prog 24 #[.slice A n c] w (RetB (.bool (endsV xs)) w) := by
  go_enter Try.func24, Try.ntmps24
  go_wp2_with (go_at_call 60; refine (r18_Lines hs hn).mono ?_; rintro e w1 ⟨A1, m1, c1, rfl, hl1, hb1⟩)
  go_ret
  exact ⟨rfl, hb1⟩
/-- returns lines that read as these -/
def RetLns (ls : List (List Int)) (w : World) (e : Ending) (w' : World) : Prop := ∃ A n c, e = .returned (.slice A n c) ∧ Lns w' A n c ls ∧ Below w.heap.size w w'
set_option maxRecDepth 100000 in
set_option maxHeartbeats 1000000 in
theorem r26_Split {A n c xs} {w : World} (hs : Sl w .u8 A n c xs) (hn : n ≤ 4194304) : Calls Try.prog 22 #[.slice A n c] w (RetLns (splitL xs) w) := by
  go_enter Try.func22, Try.ntmps22
  go_wp2_with (go_at_call 60; refine (r18_Lines hs hn).mono ?_; rintro e w1 ⟨A1, m1, c1, rfl, hl1, hb1⟩)
  go_ret
  exact ⟨_, _, _, rfl, hl1, hb1⟩
end Go.Proofs.Ytlmkhjegckgmcaa
