/- Layer 21 (pct): codes laid, quotes: what the functions of the reference and of the program return. Conditions: the arguments read as lists; lengths at most 2^22. -/
import Derived.Test.Ytcjfjhciobkbcaa02C
namespace Go.Proofs.Ytcjfjhciobkbcaa
open Go.RowKit

def one21 (x : Int) : List Int := if isL x 256 then [x] else escL 37 x
def lay21 (xs : List Int) : List Int := xs.flatMap one21
theorem escL_wf {sg x : Int} (hg : (Lit.int .u8 sg).wf = true) : ∀ y ∈ escL sg x, (Lit.int .u8 y).wf = true := by simp [escL, hexD_wf, hg]
theorem one21_len (x : Int) : (one21 x).length ≤ 3 := by unfold one21; split <;> simp [escL]
theorem lay21_len (xs : List Int) : (lay21 xs).length ≤ 3 * xs.length := by
  induction xs with
  | nil => simp [lay21]
  | cons x r ih =>
    have := one21_len x
    simp only [lay21, List.flatMap_cons, List.length_append, List.length_cons] at ih ⊢; omega
theorem lay21_take {xs : List Int} {k : Nat} {x : Int} (ht : xs.take (k + 1) = xs.take k ++ [x]) : lay21 (xs.take (k + 1)) = lay21 (xs.take k) ++ one21 x := by
  rw [ht]; simp [lay21, List.flatMap_append]

set_option maxRecDepth 100000 in
set_option maxHeartbeats 1000000 in
theorem r21_one {x : Int} {w : World} (hx : (Lit.int .u8 x).wf = true) : Calls Try.prog 68 #[.int .u8 x] w (RetOwn id 5 .u8 (one21 x) w) := by
  by_cases hq : isL x 256 = true
  · have e : one21 x = [x] := by unfold one21; rw [hq]; rfl
    rw [e]
    clear e
    go_enter Try.func68, Try.ntmps68
    go_wp2_with (go_at_call 56; refine (r01_Is hx).mono ?_; rintro e w' ⟨rfl, rfl⟩)
    go_ret
    exact ⟨_, rfl, Own.one _ _ _ _ hx (Nat.le_refl _), (Below.refl _ _).alloc (Nat.le_refl _) _⟩
  · have hq' : isL x 256 = false := by simpa using hq
    have e : one21 x = [] ++ escL 37 x := by unfold one21; rw [hq']; rfl
    rw [e]
    clear e
    go_enter Try.func68, Try.ntmps68
    go_wp2_with (first | (go_at_call 56; refine (r01_Is hx).mono ?_; rintro e w' ⟨rfl, rfl⟩) | (go_at_call 76; refine (r02_Put (Sl.nil _ _) (by omega) (by decide) hx).mono ?_; rintro e w1 ⟨v1, rfl, ho1, hb1⟩))
    go_ret
    exact ⟨v1, rfl, ho1, hb1⟩
set_option maxRecDepth 100000 in
set_option maxHeartbeats 1000000 in
theorem r21_One {x : Int} {w : World} (hx : (Lit.int .u8 x).wf = true) : Calls Try.prog 38 #[.int .u8 x] w (RetB (.int .i64 (one21 x).length) w) := by
  go_enter Try.func38, Try.ntmps38
  go_wp2_with ((go_at_call 68; refine (r21_one hx).mono ?_; rintro e w1 ⟨v1, rfl, ho1, hb1⟩); obtain ⟨A1, n1, c1, rfl, hs1⟩ := ho1.sl; have hl1 := hs1.len)
  go_ret
  exact ⟨ret_int (by rw [hl1]), hb1⟩
set_option maxRecDepth 100000 in
set_option maxHeartbeats 1000000 in
theorem p21_One {x : Int} {w : World} (hx : (Lit.int .u8 x).wf = true) : Calls Try.prog 37 #[.int .u8 x] w (Ret (.int .i64 (one21 x).length) w) := by
  by_cases hq : isL x 256 = true
  · have e : (one21 x).length = 1 := by unfold one21; rw [hq]; rfl
    rw [e]
    clear e
    go_enter Try.func37, Try.ntmps37
    go_wp2_with (go_at_call 59; refine (p01_Is hx).mono ?_; rintro e w' ⟨rfl, rfl⟩)
    go_ret
    exact ⟨rfl, rfl⟩
  · have hq' : isL x 256 = false := by simpa using hq
    have e : (one21 x).length = 3 := by unfold one21; rw [hq']; rfl
    rw [e]
    clear e
    go_enter Try.func37, Try.ntmps37
    go_wp2_with (go_at_call 59; refine (p01_Is hx).mono ?_; rintro e w' ⟨rfl, rfl⟩)
    go_ret
    exact ⟨rfl, rfl⟩

set_option maxRecDepth 100000 in
set_option maxHeartbeats 1000000 in
theorem r21_Lay {A n c xs} {w : World} (hs : Sl w .u8 A n c xs) (hn : n ≤ 4194304) : Calls Try.prog 36 #[.slice A n c] w (RetOwn id 5 .u8 (lay21 xs) w) := by
  have HL := Lib.hid hs.len
  go_enter Try.func36, Try.ntmps36
  go_wp2
  go_loopw [3, 4] (fun v i wr => ∃ k : Nat, k ≤ n ∧ i = .int .i64 k ∧ Own wr w.heap.size 5 .u8 v (lay21 (xs.take k)) ∧ Below w.heap.size w wr) (fun _ i _ => n - (intOf i).toNat)
  case atStart => exact ⟨0, Nat.zero_le _, rfl, Own.nil _ _ _ _, Below.refl _ _⟩
  case round =>
    obtain ⟨k, hk, rfl, ho, hbel⟩ := hrel
    have hz := hbel.size
    have hs' := hs.bel hbel
    have HT : (lay21 (xs.take k)).length ≤ 3 * k := by have := lay21_len (xs.take k); simp at this; omega
    by_cases hlt : k < n
    · obtain ⟨bb, o, x, rfl, hbb, hcell, hwf, _, ht⟩ := hs'.get hlt
      have HK := Lib.hid (lay21_take ht); clear ht
      have h3 := one21_len x
      go_wp2_with (first | ((go_at_call 68; refine (r21_one hwf).mono ?_; rintro e w1 ⟨v1, rfl, ho1, hb1⟩); obtain ⟨A1, n1, c1, rfl, hs1⟩ := ho1.sl; have hl1 := hs1.len; have hz1 := hb1.size) | (at_builtin; refine wpList_app rfl rfl eltB (by decide) rfl rfl (ho.below hb1) hs1 (below_then' hbel hb1 (Nat.le_refl _)) (by refine ⟨?_, ?_⟩ <;> first | omega | (simp; done) | (simp; omega)) (by first | omega | (simp; done) | (simp; omega)) ?_; intro v2 w2 ho2 hb2 hg2))
      (first | (go_roundw; (case rel => exact ⟨k + 1, by omega, by go_num, by rw [HK.out]; exact ho2, hb2⟩); (case measure => first | (simp [intOf] <;> omega) | (simp [lenOf] <;> omega))) | (refine ⟨?_, ?measure⟩; (repeat apply Exists.intro); refine ⟨?rel, ?eqs⟩; (case eqs => first | rfl | ((repeat (refine ⟨rfl, ?_⟩)); rfl)); (case rel => exact ⟨k + 1, by omega, by go_num, by rw [HK.out]; exact ho2, hb2⟩); (case measure => first | (simp [intOf] <;> omega) | (simp [lenOf] <;> omega))) | ((repeat apply Exists.intro); refine ⟨?rel, ?eqs⟩; (case eqs => first | rfl | ((repeat (refine ⟨rfl, ?_⟩)); rfl)); (case rel => exact ⟨k + 1, by omega, by go_num, by rw [HK.out]; exact ho2, hb2⟩)))
    · go_wp2
      go_ret
      exact ⟨_, rfl, by rw [List.take_of_length_le (by have := HL.out; omega)] at ho; exact ho, hbel⟩

set_option maxRecDepth 100000 in
set_option maxHeartbeats 1000000 in
theorem p21_Lay {A n c xs} {w : World} (hs : Sl w .u8 A n c xs) (hn : n ≤ 4194304) : Calls Try.prog 35 #[.slice A n c] w (RetOwn id 5 .u8 (lay21 xs) w) := by
  have HL := Lib.hid hs.len
  go_enter Try.func35, Try.ntmps35
  go_wp2
  go_loopw [3, 8] (fun v i wr => ∃ k : Nat, k ≤ n ∧ i = .int .i64 k ∧ Own wr w.heap.size 5 .u8 v (lay21 (xs.take k)) ∧ Below w.heap.size w wr) (fun _ i _ => n - (intOf i).toNat)
  case atStart => exact ⟨0, Nat.zero_le _, rfl, Own.nil _ _ _ _, Below.refl _ _⟩
  case round =>
    obtain ⟨k, hk, rfl, ho, hbel⟩ := hrel
    have hz := hbel.size
    have hs' := hs.bel hbel
    have HT : (lay21 (xs.take k)).length ≤ 3 * k := by have := lay21_len (xs.take k); simp at this; omega
    by_cases hlt : k < n
    · obtain ⟨bb, o, x, rfl, hbb, hcell, hwf, _, ht⟩ := hs'.get hlt
      have hk1 := lay21_take ht
      clear ht
      by_cases hq : isL x 256 = true
      · have e : one21 x = [x] := by unfold one21; rw [hq]; rfl
        rw [e] at hk1
        have HK := Lib.hid hk1; clear hk1
        have e2 : ((one21 x).length : Int) = 1 := by rw [e]; rfl
        clear e
        go_wp2_with (first | (go_at_call 37; refine (p21_One hwf).mono ?_; rintro e w' ⟨rfl, rfl⟩) | (at_builtin; refine wpList_app rfl rfl eltB (by decide) rfl rfl (ho.alloc _) (Sl.one _ _ _ _ hwf) (hbel.alloc (by omega) _) (by refine ⟨?_, ?_⟩ <;> first | omega | (simp; done) | (simp; omega)) (by first | omega | (simp; done) | (simp; omega)) ?_; intro v1 w1 ho1 hb1 hg1))
        (first | (go_roundw; (case rel => exact ⟨k + 1, by omega, by go_num, by rw [HK.out]; exact ho1, hb1⟩); (case measure => first | (simp [intOf] <;> omega) | (simp [lenOf] <;> omega))) | (refine ⟨?_, ?measure⟩; (repeat apply Exists.intro); refine ⟨?rel, ?eqs⟩; (case eqs => first | rfl | ((repeat (refine ⟨rfl, ?_⟩)); rfl)); (case rel => exact ⟨k + 1, by omega, by go_num, by rw [HK.out]; exact ho1, hb1⟩); (case measure => first | (simp [intOf] <;> omega) | (simp [lenOf] <;> omega))) | ((repeat apply Exists.intro); refine ⟨?rel, ?eqs⟩; (case eqs => first | rfl | ((repeat (refine ⟨rfl, ?_⟩)); rfl)); (case rel => exact ⟨k + 1, by omega, by go_num, by rw [HK.out]; exact ho1, hb1⟩)))
      · have hq' : isL x 256 = false := by simpa using hq
        have e : one21 x = escL 37 x := by unfold one21; rw [hq']; rfl
        have e2 : ((one21 x).length : Int) = 3 := by rw [e]; rfl
        rw [e] at hk1
        have HK := Lib.hid hk1; clear hk1 e
        obtain ⟨A1, n1, c1, rfl, hs1⟩ := ho.sl
        have hn1 : n1 ≤ 16777216 := by have := hs1.len; omega
        go_wp2_with (first | (go_at_call 37; refine (p21_One hwf).mono ?_; rintro e w' ⟨rfl, rfl⟩) | (go_at_call 57; refine (p02_Put hs1 hn1 (by decide) hwf).mono ?_; rintro e w1 ⟨v1, rfl, ho1, hb1⟩))
        (first | (go_roundw; (case rel => exact ⟨k + 1, by omega, by go_num, by rw [HK.out]; exact ho1.mono hz, below_then' hbel hb1 (Nat.le_refl _)⟩); (case measure => first | (simp [intOf] <;> omega) | (simp [lenOf] <;> omega))) | (refine ⟨?_, ?measure⟩; (repeat apply Exists.intro); refine ⟨?rel, ?eqs⟩; (case eqs => first | rfl | ((repeat (refine ⟨rfl, ?_⟩)); rfl)); (case rel => exact ⟨k + 1, by omega, by go_num, by rw [HK.out]; exact ho1.mono hz, below_then' hbel hb1 (Nat.le_refl _)⟩); (case measure => first | (simp [intOf] <;> omega) | (simp [lenOf] <;> omega))) | ((repeat apply Exists.intro); refine ⟨?rel, ?eqs⟩; (case eqs => first | rfl | ((repeat (refine ⟨rfl, ?_⟩)); rfl)); (case rel => exact ⟨k + 1, by omega, by go_num, by rw [HK.out]; exact ho1.mono hz, below_then' hbel hb1 (Nat.le_refl _)⟩)))
    · go_wp2
      go_ret
      exact ⟨_, rfl, by rw [List.take_of_length_le (by have := HL.out; omega)] at ho; exact ho, hbel⟩
end Go.Proofs.Ytcjfjhciobkbcaa
