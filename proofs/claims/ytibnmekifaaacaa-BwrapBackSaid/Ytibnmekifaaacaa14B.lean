/- Layer 14's reference, bits: Bits, Bare, Lay, Values, Octets, Read. Conditions: the arguments read as lists; lengths at most 2^24. -/
import Derived.Test.Ytibnmekifaaacaa14
namespace Go.Proofs.Ytibnmekifaaacaa
open Go.RowKit

set_option maxRecDepth 100000 in
set_option maxHeartbeats 1000000 in
theorem r14_Bits {A n c xs} {w : World} (hs : Sl w .u8 A n c xs) (hn : n ≤ 16777216) :
    Calls Try.prog 44 #[.slice A n c] w (RetOwn id 3 .i64 (bitsL xs) w) := by
  have HL := Lib.hid hs.len
  go_enter Try.func44, Try.ntmps44
  go_wp2
  go_loopw [3, 4] (fun v i wr => ∃ k : Nat, k ≤ n ∧ i = .int .i64 k ∧ Own wr w.heap.size 3 .i64 v (bitsL (xs.take k)) ∧ Below w.heap.size w wr) (fun _ i _ => n - (intOf i).toNat)
  case atStart => exact ⟨0, Nat.zero_le _, rfl, Own.nil _ _ _ _, Below.refl _ _⟩
  case round =>
    obtain ⟨k, hk, rfl, ho, hbel⟩ := hrel
    have hz := hbel.size
    by_cases hlt : k < n
    · obtain ⟨b, o, x, rfl, hb, hcell, hwf, _, ht⟩ := hs.get hlt
      have hk1 : bitsL (xs.take (k + 1)) = bitsL (xs.take k) ++ byteBits x := by rw [ht]; simp [bitsL]
      have HK := Lib.hid hk1; clear hk1 ht
      have hlen : (bitsL (xs.take k)).length ≤ 134217728 := by rw [bitsL_length]; simp; omega
      obtain ⟨hx1, hx2⟩ := wf_u8.1 hwf
      obtain ⟨wo, rfl⟩ : ∃ wo : World, wo = wr := ⟨_, rfl⟩
      have HC := Lib.hid hcell; clear hcell
      go_wp2
      go_loopw [3, 5] (fun v i wr => ∃ j : Nat, j ≤ 8 ∧ i = .int .i64 (7 - (j : Int)) ∧ Own wr w.heap.size 3 .i64 v (bitsL (xs.take k) ++ (byteBits x).take j) ∧ Below w.heap.size w wr) (fun _ i _ => (intOf i + 1).toNat)
      case atStart => exact ⟨0, Nat.zero_le _, rfl, by simpa using ho, hbel⟩
      case round =>
        obtain ⟨j, hj, rfl, ho2, hbel2⟩ := hrel
        have hz2 := hbel2.size
        by_cases hlt2 : j < 8
        · have hl2 : (bitsL (xs.take k) ++ (byteBits x).take j).length ≤ 134217736 := by simp; omega
          have hcell := (hbel2.cell (p := ⟨b, o + k, none⟩) hb).trans HC.out
          have : j = 0 ∨ j = 1 ∨ j = 2 ∨ j = 3 ∨ j = 4 ∨ j = 5 ∨ j = 6 ∨ j = 7 := by omega
          obtain ⟨jj, hjj⟩ : ∃ jj, jj = j := ⟨_, rfl⟩
          have HJ := Lib.hid hjj; clear hjj
          rcases this with h | h | h | h | h | h | h | h <;> subst h
          all_goals
            go_wp2_with (at_builtin; refine wpList_app rfl rfl eltI (by decide) rfl rfl (ho2.alloc _) (Sl.one _ _ _ _ (wf_i64.2 (by omega))) (hbel2.alloc (by omega) _) (by refine ⟨?_, ?_⟩ <;> first | omega | (simp; done) | (simp; omega)) (by first | omega | (simp; done) | (simp; omega)) ?_; intro v1 w1 ho1 hb1 hg1)
            rw [List.append_assoc] at ho1
            have hjj := HJ.out
            (first | (go_roundw; (case rel => exact ⟨jj + 1, by omega, by subst hjj; rfl, by subst hjj; exact ho1, hb1⟩); (case measure => first | (simp [intOf] <;> omega) | (simp [lenOf] <;> omega))) | (refine ⟨?_, ?measure⟩; (repeat apply Exists.intro); refine ⟨?rel, ?eqs⟩; (case eqs => first | rfl | ((repeat (refine ⟨rfl, ?_⟩)); rfl)); (case rel => exact ⟨jj + 1, by omega, by subst hjj; rfl, by subst hjj; exact ho1, hb1⟩); (case measure => first | (simp [intOf] <;> omega) | (simp [lenOf] <;> omega))) | ((repeat apply Exists.intro); refine ⟨?rel, ?eqs⟩; (case eqs => first | rfl | ((repeat (refine ⟨rfl, ?_⟩)); rfl)); (case rel => exact ⟨jj + 1, by omega, by subst hjj; rfl, by subst hjj; exact ho1, hb1⟩)))
        · obtain rfl : j = 8 := by omega
          go_wp2
          (first | (go_roundw; (case rel => exact ⟨k + 1, by omega, by go_num, by rw [HK.out]; exact ho2, hbel2⟩); (case measure => first | (simp [intOf] <;> omega) | (simp [lenOf] <;> omega))) | (refine ⟨?_, ?measure⟩; (repeat apply Exists.intro); refine ⟨?rel, ?eqs⟩; (case eqs => first | rfl | ((repeat (refine ⟨rfl, ?_⟩)); rfl)); (case rel => exact ⟨k + 1, by omega, by go_num, by rw [HK.out]; exact ho2, hbel2⟩); (case measure => first | (simp [intOf] <;> omega) | (simp [lenOf] <;> omega))) | ((repeat apply Exists.intro); refine ⟨?rel, ?eqs⟩; (case eqs => first | rfl | ((repeat (refine ⟨rfl, ?_⟩)); rfl)); (case rel => exact ⟨k + 1, by omega, by go_num, by rw [HK.out]; exact ho2, hbel2⟩)))
    · go_wp2
      go_ret
      exact ⟨_, rfl, by rw [List.take_of_length_le (by have := HL.out; omega)] at ho; exact ho, hbel⟩
end Go.Proofs.Ytibnmekifaaacaa
