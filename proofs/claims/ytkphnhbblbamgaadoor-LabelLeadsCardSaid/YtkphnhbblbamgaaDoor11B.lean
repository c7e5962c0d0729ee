/- Layer 11 (label): the map of the names, and what a name leads to: what the functions of the program and of the reference return. Conditions: the arguments read as lists; lengths at most 2^30. -/
import Derived.Test.YtkphnhbblbamgaaDoor11
namespace Go.Proofs.YtkphnhbblbamgaaDoor
open Go.RowKit Go.Maps Go.WideMaps

theorem lawN : Keyed Tryd.prog 9 := string_keyed Tryd.underlying9
theorem zeroN (w : World) : (zeroValue 3).run Tryd.prog w = .ok (.int .i64 0) w := by kernel_rfl
theorem ownsMap_bel {P : Program} {k : TypeId} {R : Value → Option (Dm × List MemPlace)} {w w' : World} {b n : Nat} {D : Dm} (h : w.ownsMap P k R b n D) (hb : Below w.heap.size w w') : w'.ownsMap P k R b n D := by
  have hlt := h.lt
  obtain ⟨es, clock, h1, F, hs, hD⟩ := h
  exact ⟨es, clock, (hb.block b hlt).trans h1, F, hs, hD⟩
theorem key_mk {x : List Int} (h : x.length ≤ 20) : keyOf Tryd.prog 9 (.string (strOfNums x)) = some (keyT x) :=
  keyOf_string_mk Tryd.underlying9 (by rw [show (strOfNums x).size = x.length from by simp [strOfNums, ByteArray.size]]; unfold maxLen; omega)
theorem key_mk2 {x : List Int} (h : x.length ≤ 1073741824) : keyOf Tryd.prog 9 (.string (strOfNums x)) = some (keyT x) :=
  keyOf_string_mk Tryd.underlying9 (by rw [show (strOfNums x).size = x.length from by simp [strOfNums, ByteArray.size]]; unfold maxLen; omega)

set_option maxRecDepth 100000 in
set_option maxHeartbeats 2000000 in
theorem p11_charsets {w : World} : Calls Tryd.prog 43 #[] w (fun e w' => ∃ b n, e = .returned (.map (some b)) ∧ w'.ownsMap Tryd.prog 9 (plainElem Tryd.prog 3) b n (dmN 5) ∧ w.heap.size ≤ b ∧ Below w.heap.size w w') := by
  have hmm := @run_makeMap Tryd.prog
  go_enter Tryd.func43, Tryd.ntmps43
  go_wp2
  go_loopw [2] (fun i wr => ∃ k m : Nat, k ≤ 5 ∧ m ≤ 4 * k ∧ i = .int .i64 (k + 1 : Nat) ∧ wr.ownsMap Tryd.prog 9 (plainElem Tryd.prog 3) w.heap.size m (dmN k) ∧ Below w.heap.size w wr) (fun i _ => 6 - (intOf i).toNat)
  case atStart => exact ⟨0, 0, by omega, by omega, rfl, World.ownsMap_made _ _ _ _, (Below.refl _ _).alloc (Nat.le_refl _) _⟩
  case round =>
    obtain ⟨k, m, hk, hm, rfl, hown, hbel⟩ := hrel
    by_cases h5 : k = 5
    · subst h5
      go_wp2
      go_ret
      exact ⟨_, _, rfl, hown, Nat.le_refl _, hbel⟩
    · go_wp2_with fail
      refine (p11_Names (k := (k + 1 : Nat))).mono ?_
      rintro e w1 ⟨A1, c1, rfl, hss1, hb1⟩
      have hl4 := nmL_len (k + 1 : Nat)
      have hwf := nmL_wf (k + 1 : Nat)
      have hsz := nmL_size (k + 1 : Nat)
      have hown1 := ownsMap_bel hown hb1
      have hB1 : Below w.heap.size w w1 := below_then hbel hb1
      have hW1 := hb1.size
      have hD : dmN (k + 1) = putN (k + 1 : Nat) (nmL (k + 1 : Nat)) (dmN k) := rfl
      obtain ⟨l, hlq⟩ : ∃ l, nmL ((k + 1 : Nat) : Int) = l := ⟨_, rfl⟩
      rw [hlq] at hss1 hl4 hwf hsz hD ⊢
      clear hlq hown hbel
      go_wp2
      go_loopw [13] (fun i wr => ∃ j m' : Nat, j ≤ l.length ∧ m' ≤ m + j ∧ i = .int .i64 j ∧ wr.ownsMap Tryd.prog 9 (plainElem Tryd.prog 3) w.heap.size m' (putN (k + 1 : Nat) (l.take j) (dmN k)) ∧ Below w.heap.size w wr ∧ Ss wr A1 l.length l) (fun i _ => l.length - (intOf i).toNat)
      case atStart => exact ⟨0, m, by omega, by omega, rfl, hown1, hB1, hss1⟩
      case round =>
        obtain ⟨j, m', hj, hm', rfl, hown2, hB2, hss2⟩ := hrel
        by_cases hlt : j < l.length
        · obtain ⟨b, rfl, hb, hcell⟩ := hss2.at_ j hlt
          have hkey := key_mk (hsz (l.getD j []) (by simp [List.getD_eq_getElem?_getD, hlt]))
          have hstep : putN (k + 1 : Nat) (l.take (j + 1)) (dmN k) = (putN (k + 1 : Nat) (l.take j) (dmN k)).put (keyT (l.getD j [])) (.lit (.int .i64 (k + 1 : Nat))) := by
            rw [← putN_snoc]; congr 1
            rw [List.take_succ_eq_append_getElem hlt]; simp [List.getD_eq_getElem?_getD, hlt]
          obtain ⟨s, hsq⟩ : ∃ s, strOfNums (l.getD j []) = s := ⟨_, rfl⟩
          rw [hsq] at hcell hkey
          clear hsq
          obtain ⟨kk, hkk⟩ : ∃ kk, keyT (l.getD j []) = kk := ⟨_, rfl⟩
          rw [hkk] at hkey hstep
          clear hkk
          go_wp2_with (at_mapUpdate; refine wpList_mapUpdate_own _ rfl _ _ _ 47 rfl 9 3 lawN Tryd.underlying47 _ w.heap.size m' _ rfl hown2 (by unfold maxLen; omega) _ _ _ rfl rfl hkey _ [] (plainElem_int Tryd.underlying3 (WalkArith.wf_i64 (by omega))) ?_; intro w3 hown3 hgrow3)
          have hne : w.heap.size ≠ b ∨ True := .inr trivial
          have R2 := hB2.grown hgrow3 hB2.size (fun j hj => by cases hj; exact Nat.le_refl _)
          have R3 : Ss w3 (some ⟨b, 0, none⟩) l.length l := ⟨rfl, fun i hi => by
            obtain ⟨b', e', hb', hc'⟩ := hss2.at_ i hi
            injection e' with e'; injection e' with e1 _ _
            subst e1
            have hnb : b ≠ w.heap.size := by
              intro e0
              subst e0
              obtain ⟨es, clock, h1, _⟩ := hown2
              simp [World.cell?, h1] at hc'
            refine ⟨b, rfl, Nat.lt_of_lt_of_le hb' hgrow3.size, ?_⟩
            have := hgrow3.block b hb' (by simpa using hnb)
            simp only [World.cell?, this] at hc' ⊢
            exact hc'⟩
          have hstep : putN (k + 1 : Nat) (l.take (j + 1)) (dmN k) = (putN (k + 1 : Nat) (l.take j) (dmN k)).put kk (.lit (.int .i64 ((k : Int) + 1))) := hstep
          rw [← hstep] at hown3
          clear hown2 hB2 hss2 hcell hkey hgrow3 hstep
          (first | (go_roundw; (case rel => exact ⟨j + 1, m' + 1, by omega, by omega, by go_num, hown3, R2, R3⟩); (case measure => first | (simp [intOf] <;> omega) | (simp [lenOf] <;> omega))) | (refine ⟨?_, ?measure⟩; (repeat apply Exists.intro); refine ⟨?rel, ?eqs⟩; (case eqs => first | rfl | ((repeat (refine ⟨rfl, ?_⟩)); rfl)); (case rel => exact ⟨j + 1, m' + 1, by omega, by omega, by go_num, hown3, R2, R3⟩); (case measure => first | (simp [intOf] <;> omega) | (simp [lenOf] <;> omega))) | ((repeat apply Exists.intro); refine ⟨?rel, ?eqs⟩; (case eqs => first | rfl | ((repeat (refine ⟨rfl, ?_⟩)); rfl)); (case rel => exact ⟨j + 1, m' + 1, by omega, by omega, by go_num, hown3, R2, R3⟩)))
        · obtain rfl : j = l.length := by omega
          rw [List.take_length, ← hD] at hown2
          clear hD hss2 hss1 hown1
          go_wp2
          (first | (go_roundw; (case rel => exact ⟨k + 1, m', by omega, by omega, by go_num, hown2, hB2⟩); (case measure => first | (simp [intOf] <;> omega) | (simp [lenOf] <;> omega))) | (refine ⟨?_, ?measure⟩; (repeat apply Exists.intro); refine ⟨?rel, ?eqs⟩; (case eqs => first | rfl | ((repeat (refine ⟨rfl, ?_⟩)); rfl)); (case rel => exact ⟨k + 1, m', by omega, by omega, by go_num, hown2, hB2⟩); (case measure => first | (simp [intOf] <;> omega) | (simp [lenOf] <;> omega))) | ((repeat apply Exists.intro); refine ⟨?rel, ?eqs⟩; (case eqs => first | rfl | ((repeat (refine ⟨rfl, ?_⟩)); rfl)); (case rel => exact ⟨k + 1, m', by omega, by omega, by go_num, hown2, hB2⟩)))
end Go.Proofs.YtkphnhbblbamgaaDoor
