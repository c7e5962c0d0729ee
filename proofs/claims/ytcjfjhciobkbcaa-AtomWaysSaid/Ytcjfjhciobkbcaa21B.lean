/- Layer 21 (pct): quotes: what the functions of the reference and of the program return. Conditions: the arguments read as lists; lengths at most 2^22. -/
import Derived.Test.Ytcjfjhciobkbcaa21
namespace Go.Proofs.Ytcjfjhciobkbcaa
open Go.RowKit

def quo21 (x : Int) : List Int := if x = 34 ∨ x = 92 then [92, x] else [x]
def quoB (xs : List Int) : List Int := [34] ++ xs.flatMap quo21
def quoL (xs : List Int) : List Int := quoB xs ++ [34]
theorem quoB_len (xs : List Int) : (quoB xs).length ≤ 2 * xs.length + 1 := by
  induction xs with
  | nil => simp [quoB]
  | cons x r ih =>
    have : (quo21 x).length ≤ 2 := by unfold quo21; split <;> simp
    simp only [quoB, List.flatMap_cons, List.length_append, List.length_cons, List.length_nil] at ih ⊢; omega
theorem quoB_take {xs : List Int} {k : Nat} {x : Int} (ht : xs.take (k + 1) = xs.take k ++ [x]) : quoB (xs.take (k + 1)) = quoB (xs.take k) ++ quo21 x := by
  rw [ht]; simp [quoB, List.flatMap_append]
theorem quo_yes {x : Int} (h : x = 34 ∨ x = 92) : quo21 x = [92, x] := by unfold quo21; rw [if_pos h]
theorem quo_no {x : Int} (h : ¬ x = 34) (h' : ¬ x = 92) : quo21 x = [x] := by unfold quo21; rw [if_neg (by omega)]

set_option maxRecDepth 100000 in
set_option maxHeartbeats 1000000 in
theorem r21_Quote {A n c xs} {w : World} (hs : Sl w .u8 A n c xs) (hn : n ≤ 4194304) : Calls Try.prog 40 #[.slice A n c] w (RetOwn id 5 .u8 (quoL xs) w) := by
  have HL := Lib.hid hs.len
  go_enter Try.func40, Try.ntmps40
  go_wp2
  go_loopw [3, 4] (fun v i wr => ∃ k : Nat, k ≤ n ∧ i = .int .i64 k ∧ Own wr w.heap.size 5 .u8 v (quoB (xs.take k)) ∧ Below w.heap.size w wr) (fun _ i _ => n - (intOf i).toNat)
  case atStart => exact ⟨0, Nat.zero_le _, rfl, by simpa [quoB] using Own.one w .u8 5 34 (by decide) (Nat.le_refl _), (Below.refl _ _).alloc (Nat.le_refl _) _⟩
  case round =>
    obtain ⟨k, hk, rfl, ho, hbel⟩ := hrel
    have hz := hbel.size
    have hs' := hs.bel hbel
    have HT : (quoB (xs.take k)).length ≤ 2 * k + 1 := by have := quoB_len (xs.take k); simp at this; omega
    have HT2 : (quoB (xs.take k) ++ [92]).length ≤ 2 * k + 2 := by simp; omega
    by_cases hlt : k < n
    · obtain ⟨bb, o, x, rfl, hbb, hcell, hwf, _, ht⟩ := hs'.get hlt
      have hk1 := quoB_take ht
      clear ht
      have hcx : ∀ w2 : World, Below w.heap.size w w2 → w2.cell? ⟨bb, o + k, none⟩ = some (.int .u8 x) := fun w2 h => by
        have h1 := (hs.bel h).cell hlt
        have h2 := hs'.cell hlt
        rw [hcell] at h2
        rw [h1, ← h2]
      by_cases h1 : x = 34
      · subst h1
        rw [quo_yes (.inl rfl)] at hk1
        have HK := Lib.hid hk1; clear hk1
        go_wp2_with (first | (at_builtin; refine wpList_app rfl rfl eltB (by decide) rfl rfl (ho1.alloc _) (Sl.one _ _ _ _ hwf) (hb1.alloc (by omega) _) (by refine ⟨?_, ?_⟩ <;> first | omega | (simp; done) | (simp; omega)) (by first | omega | (simp; done) | (simp; omega)) ?_; intro v2 w2 ho2 hb2 hg2) | ((at_builtin; refine wpList_app rfl rfl eltB (by decide) rfl rfl (ho.alloc _) (Sl.one _ _ _ _ (by decide)) (hbel.alloc (by omega) _) (by refine ⟨?_, ?_⟩ <;> first | omega | (simp; done) | (simp; omega)) (by first | omega | (simp; done) | (simp; omega)) ?_; intro v1 w1 ho1 hb1 hg1); have hz1 := hb1.size; have hc1 := hcx _ hb1))
        (first | (go_roundw; (case rel => exact ⟨k + 1, by omega, by go_num, by rw [HK.out]; simpa using ho2, hb2⟩); (case measure => first | (simp [intOf] <;> omega) | (simp [lenOf] <;> omega))) | (refine ⟨?_, ?measure⟩; (repeat apply Exists.intro); refine ⟨?rel, ?eqs⟩; (case eqs => first | rfl | ((repeat (refine ⟨rfl, ?_⟩)); rfl)); (case rel => exact ⟨k + 1, by omega, by go_num, by rw [HK.out]; simpa using ho2, hb2⟩); (case measure => first | (simp [intOf] <;> omega) | (simp [lenOf] <;> omega))) | ((repeat apply Exists.intro); refine ⟨?rel, ?eqs⟩; (case eqs => first | rfl | ((repeat (refine ⟨rfl, ?_⟩)); rfl)); (case rel => exact ⟨k + 1, by omega, by go_num, by rw [HK.out]; simpa using ho2, hb2⟩)))
      · have f1 : (x == 34) = false := by simpa using h1
        by_cases h2 : x = 92
        · subst h2
          rw [quo_yes (.inr rfl)] at hk1
          have HK := Lib.hid hk1; clear hk1
          go_wp2_with (first | (at_builtin; refine wpList_app rfl rfl eltB (by decide) rfl rfl (ho1.alloc _) (Sl.one _ _ _ _ hwf) (hb1.alloc (by omega) _) (by refine ⟨?_, ?_⟩ <;> first | omega | (simp; done) | (simp; omega)) (by first | omega | (simp; done) | (simp; omega)) ?_; intro v2 w2 ho2 hb2 hg2) | ((at_builtin; refine wpList_app rfl rfl eltB (by decide) rfl rfl (ho.alloc _) (Sl.one _ _ _ _ (by decide)) (hbel.alloc (by omega) _) (by refine ⟨?_, ?_⟩ <;> first | omega | (simp; done) | (simp; omega)) (by first | omega | (simp; done) | (simp; omega)) ?_; intro v1 w1 ho1 hb1 hg1); have hz1 := hb1.size; have hc1 := hcx _ hb1))
          (first | (go_roundw; (case rel => exact ⟨k + 1, by omega, by go_num, by rw [HK.out]; simpa using ho2, hb2⟩); (case measure => first | (simp [intOf] <;> omega) | (simp [lenOf] <;> omega))) | (refine ⟨?_, ?measure⟩; (repeat apply Exists.intro); refine ⟨?rel, ?eqs⟩; (case eqs => first | rfl | ((repeat (refine ⟨rfl, ?_⟩)); rfl)); (case rel => exact ⟨k + 1, by omega, by go_num, by rw [HK.out]; simpa using ho2, hb2⟩); (case measure => first | (simp [intOf] <;> omega) | (simp [lenOf] <;> omega))) | ((repeat apply Exists.intro); refine ⟨?rel, ?eqs⟩; (case eqs => first | rfl | ((repeat (refine ⟨rfl, ?_⟩)); rfl)); (case rel => exact ⟨k + 1, by omega, by go_num, by rw [HK.out]; simpa using ho2, hb2⟩)))
        · have f2 : (x == 92) = false := by simpa using h2
          rw [quo_no h1 h2] at hk1
          have HK := Lib.hid hk1; clear hk1
          go_wp2_with (at_builtin; refine wpList_app rfl rfl eltB (by decide) rfl rfl (ho.alloc _) (Sl.one _ _ _ _ hwf) (hbel.alloc (by omega) _) (by refine ⟨?_, ?_⟩ <;> first | omega | (simp; done) | (simp; omega)) (by first | omega | (simp; done) | (simp; omega)) ?_; intro v1 w1 ho1 hb1 hg1)
          (first | (go_roundw; (case rel => exact ⟨k + 1, by omega, by go_num, by rw [HK.out]; exact ho1, hb1⟩); (case measure => first | (simp [intOf] <;> omega) | (simp [lenOf] <;> omega))) | (refine ⟨?_, ?measure⟩; (repeat apply Exists.intro); refine ⟨?rel, ?eqs⟩; (case eqs => first | rfl | ((repeat (refine ⟨rfl, ?_⟩)); rfl)); (case rel => exact ⟨k + 1, by omega, by go_num, by rw [HK.out]; exact ho1, hb1⟩); (case measure => first | (simp [intOf] <;> omega) | (simp [lenOf] <;> omega))) | ((repeat apply Exists.intro); refine ⟨?rel, ?eqs⟩; (case eqs => first | rfl | ((repeat (refine ⟨rfl, ?_⟩)); rfl)); (case rel => exact ⟨k + 1, by omega, by go_num, by rw [HK.out]; exact ho1, hb1⟩)))
    · rw [List.take_of_length_le (by have := HL.out; omega)] at ho HT
      have HLn : xs.length = n := HL.out
      go_wp2_with (at_builtin; refine wpList_app rfl rfl eltB (by decide) rfl rfl (ho.alloc _) (Sl.one _ _ _ _ (by decide)) (hbel.alloc (by omega) _) (by refine ⟨?_, ?_⟩ <;> first | omega | (simp; done) | (simp; omega)) (by first | omega | (simp; done) | (simp; omega)) ?_; intro v1 w1 ho1 hb1 hg1)
      go_ret
      exact ⟨v1, rfl, ho1, hb1⟩

set_option maxRecDepth 100000 in
set_option maxHeartbeats 1000000 in
theorem p21_Quote {A n c xs} {w : World} (hs : Sl w .u8 A n c xs) (hn : n ≤ 4194304) : Calls Try.prog 39 #[.slice A n c] w (RetOwn id 5 .u8 (quoL xs) w) := by
  have HL := Lib.hid hs.len
  go_enter Try.func39, Try.ntmps39
  go_wp2
  go_loopw [3, 9] (fun v i wr => ∃ k : Nat, k ≤ n ∧ i = .int .i64 k ∧ Own wr w.heap.size 5 .u8 v (quoB (xs.take k)) ∧ Below w.heap.size w wr) (fun _ i _ => n - (intOf i).toNat)
  case atStart => exact ⟨0, Nat.zero_le _, rfl, by simpa [quoB] using Own.one w .u8 5 34 (by decide) (Nat.le_refl _), (Below.refl _ _).alloc (Nat.le_refl _) _⟩
  case round =>
    obtain ⟨k, hk, rfl, ho, hbel⟩ := hrel
    have hz := hbel.size
    have hs' := hs.bel hbel
    have HT : (quoB (xs.take k)).length ≤ 2 * k + 1 := by have := quoB_len (xs.take k); simp at this; omega
    have HT2 : (quoB (xs.take k) ++ [92]).length ≤ 2 * k + 2 := by simp; omega
    by_cases hlt : k < n
    · obtain ⟨bb, o, x, rfl, hbb, hcell, hwf, _, ht⟩ := hs'.get hlt
      have hk1 := quoB_take ht
      clear ht
      by_cases h1 : x = 34
      · subst h1
        rw [quo_yes (.inl rfl)] at hk1
        have HK := Lib.hid hk1; clear hk1
        go_wp2_with (first | (at_builtin; refine wpList_app rfl rfl eltB (by decide) rfl rfl (ho1.alloc _) (Sl.one _ _ _ _ hwf) (hb1.alloc (by omega) _) (by refine ⟨?_, ?_⟩ <;> first | omega | (simp; done) | (simp; omega)) (by first | omega | (simp; done) | (simp; omega)) ?_; intro v2 w2 ho2 hb2 hg2) | ((at_builtin; refine wpList_app rfl rfl eltB (by decide) rfl rfl (ho.alloc _) (Sl.one _ _ _ _ (by decide)) (hbel.alloc (by omega) _) (by refine ⟨?_, ?_⟩ <;> first | omega | (simp; done) | (simp; omega)) (by first | omega | (simp; done) | (simp; omega)) ?_; intro v1 w1 ho1 hb1 hg1); have hz1 := hb1.size))
        (first | (go_roundw; (case rel => exact ⟨k + 1, by omega, by go_num, by rw [HK.out]; simpa using ho2, hb2⟩); (case measure => first | (simp [intOf] <;> omega) | (simp [lenOf] <;> omega))) | (refine ⟨?_, ?measure⟩; (repeat apply Exists.intro); refine ⟨?rel, ?eqs⟩; (case eqs => first | rfl | ((repeat (refine ⟨rfl, ?_⟩)); rfl)); (case rel => exact ⟨k + 1, by omega, by go_num, by rw [HK.out]; simpa using ho2, hb2⟩); (case measure => first | (simp [intOf] <;> omega) | (simp [lenOf] <;> omega))) | ((repeat apply Exists.intro); refine ⟨?rel, ?eqs⟩; (case eqs => first | rfl | ((repeat (refine ⟨rfl, ?_⟩)); rfl)); (case rel => exact ⟨k + 1, by omega, by go_num, by rw [HK.out]; simpa using ho2, hb2⟩)))
      · have f1 : (x == 34) = false := by simpa using h1
        by_cases h2 : x = 92
        · subst h2
          rw [quo_yes (.inr rfl)] at hk1
          have HK := Lib.hid hk1; clear hk1
          go_wp2_with (first | (at_builtin; refine wpList_app rfl rfl eltB (by decide) rfl rfl (ho1.alloc _) (Sl.one _ _ _ _ hwf) (hb1.alloc (by omega) _) (by refine ⟨?_, ?_⟩ <;> first | omega | (simp; done) | (simp; omega)) (by first | omega | (simp; done) | (simp; omega)) ?_; intro v2 w2 ho2 hb2 hg2) | ((at_builtin; refine wpList_app rfl rfl eltB (by decide) rfl rfl (ho.alloc _) (Sl.one _ _ _ _ (by decide)) (hbel.alloc (by omega) _) (by refine ⟨?_, ?_⟩ <;> first | omega | (simp; done) | (simp; omega)) (by first | omega | (simp; done) | (simp; omega)) ?_; intro v1 w1 ho1 hb1 hg1); have hz1 := hb1.size))
          (first | (go_roundw; (case rel => exact ⟨k + 1, by omega, by go_num, by rw [HK.out]; simpa using ho2, hb2⟩); (case measure => first | (simp [intOf] <;> omega) | (simp [lenOf] <;> omega))) | (refine ⟨?_, ?measure⟩; (repeat apply Exists.intro); refine ⟨?rel, ?eqs⟩; (case eqs => first | rfl | ((repeat (refine ⟨rfl, ?_⟩)); rfl)); (case rel => exact ⟨k + 1, by omega, by go_num, by rw [HK.out]; simpa using ho2, hb2⟩); (case measure => first | (simp [intOf] <;> omega) | (simp [lenOf] <;> omega))) | ((repeat apply Exists.intro); refine ⟨?rel, ?eqs⟩; (case eqs => first | rfl | ((repeat (refine ⟨rfl, ?_⟩)); rfl)); (case rel => exact ⟨k + 1, by omega, by go_num, by rw [HK.out]; simpa using ho2, hb2⟩)))
        · have f2 : (x == 92) = false := by simpa using h2
          rw [quo_no h1 h2] at hk1
          have HK := Lib.hid hk1; clear hk1
          go_wp2_with (at_builtin; refine wpList_app rfl rfl eltB (by decide) rfl rfl (ho.alloc _) (Sl.one _ _ _ _ hwf) (hbel.alloc (by omega) _) (by refine ⟨?_, ?_⟩ <;> first | omega | (simp; done) | (simp; omega)) (by first | omega | (simp; done) | (simp; omega)) ?_; intro v1 w1 ho1 hb1 hg1)
          (first | (go_roundw; (case rel => exact ⟨k + 1, by omega, by go_num, by rw [HK.out]; exact ho1, hb1⟩); (case measure => first | (simp [intOf] <;> omega) | (simp [lenOf] <;> omega))) | (refine ⟨?_, ?measure⟩; (repeat apply Exists.intro); refine ⟨?rel, ?eqs⟩; (case eqs => first | rfl | ((repeat (refine ⟨rfl, ?_⟩)); rfl)); (case rel => exact ⟨k + 1, by omega, by go_num, by rw [HK.out]; exact ho1, hb1⟩); (case measure => first | (simp [intOf] <;> omega) | (simp [lenOf] <;> omega))) | ((repeat apply Exists.intro); refine ⟨?rel, ?eqs⟩; (case eqs => first | rfl | ((repeat (refine ⟨rfl, ?_⟩)); rfl)); (case rel => exact ⟨k + 1, by omega, by go_num, by rw [HK.out]; exact ho1, hb1⟩)))
    · rw [List.take_of_length_le (by have := HL.out; omega)] at ho HT
      have HLn : xs.length = n := HL.out
      go_wp2_with (at_builtin; refine wpList_app rfl rfl eltB (by decide) rfl rfl (ho.alloc _) (Sl.one _ _ _ _ (by decide)) (hbel.alloc (by omega) _) (by refine ⟨?_, ?_⟩ <;> first | omega | (simp; done) | (simp; omega)) (by first | omega | (simp; done) | (simp; omega)) ?_; intro v1 w1 ho1 hb1 hg1)
      go_ret
      exact ⟨v1, rfl, ho1, hb1⟩
end Go.Proofs.Ytcjfjhciobkbcaa
