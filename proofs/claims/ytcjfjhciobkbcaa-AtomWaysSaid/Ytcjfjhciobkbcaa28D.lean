/- Layer 28 (atom): values, and what is laid: what the functions of the program and of the reference return. Conditions: the arguments read as lists; lengths at most 2^22. -/
import Derived.Test.Ytcjfjhciobkbcaa28C
namespace Go.Proofs.Ytcjfjhciobkbcaa
open Go.RowKit

theorem unq_bd (r out : List Int) (i : Int) (t : Bool) (hi : 0 ≤ i) : 0 ≤ (unq r out i t).2.1 ∧ (unq r out i t).2.1 ≤ i + r.length := by
  induction r generalizing out i t with
  | nil => rw [unq_nil]; simp; omega
  | cons x r ih =>
    have hl : ((x :: r).length : Int) = r.length + 1 := by simp
    rw [hl]
    cases t with
    | true => rw [unq_t]; have := ih (out ++ [x]) (i + 1) false (by omega); omega
    | false =>
      by_cases h1 : x = 34
      · subst h1; rw [unq_q]; simp only []; omega
      · by_cases h2 : x = 92
        · subst h2; rw [unq_b]; have := ih out (i + 1) true (by omega); omega
        · rw [unq_o h1 h2]; have := ih (out ++ [x]) (i + 1) false (by omega); omega
theorem unqS_bd (l : List Int) : 0 ≤ (unqS l).2.1 ∧ (unqS l).2.1 ≤ l.length := by
  cases l with
  | nil => simp [unqS]
  | cons x r =>
    have e : unqS (x :: r) = if x = 34 then unq r [] 1 false else ([], 0, 3) := rfl
    rw [e]
    split
    · have := unq_bd r [] 1 false (by omega); simp only [List.length_cons]; push_cast; omega
    · simp; omega
theorem valV_tok {xs : List Int} {k : Nat} (h : xs.length ≤ k ∨ xs.getD k 0 ≠ 34) : valV xs k = tokV xs k := by unfold valV; rw [if_pos h]
theorem valV_unq {xs : List Int} {k : Nat} {r : List Int} (hk : k < xs.length) (hd : xs.drop k = 34 :: r) : valV xs k = if (unqS (xs.drop k)).2.2 = 0 then ((unqS (xs.drop k)).1, (k : Int) + (unqS (xs.drop k)).2.1, 0) else ([], 0, (unqS (xs.drop k)).2.2) := by
  unfold valV; rw [if_neg (fun h => h.elim (fun h => by omega) (fun h => h (getD_drop hd)))]

set_option maxRecDepth 100000 in
set_option maxHeartbeats 1000000 in
theorem p28_Value {A n c xs} {a : Int} {w : World} (hs : Sl w .u8 A n c xs) (hn : n ≤ 4194304) : Calls Try.prog 51 #[.slice A n c, .int .i64 a] w (RetOwn (tupV (valV xs (withL n a))) 5 .u8 (valV xs (withL n a)).1 w) := by
  have HL := Lib.hid hs.len; have hle := hs.le; have hcm := hs.cm; unfold maxLen at hcm
  have hw := withL_le n a
  have hp := p28_within (a := a) hs
  obtain ⟨j, hj⟩ : ∃ j, withL n a = j := ⟨_, rfl⟩
  rw [hj] at hw hp ⊢
  have ht := p28_Token (a := (j : Int)) hs hn
  unfold tupV at ht
  rw [withL_self hw] at ht
  clear hj
  by_cases hjn : j = n
  · subst hjn
    have e : valV xs j = tokV xs j := valV_tok (.inl (by rw [HL.out]; exact Nat.le_refl _))
    rw [e]
    clear e
    go_enter Try.func51, Try.ntmps51
    go_wp2_with (first | (go_at_call 69; refine hp.mono ?_; rintro e w' ⟨rfl, rfl⟩) | (go_at_call 43; refine ht.mono ?_; rintro e w1 ⟨v1, rfl, ho1, hb1⟩))
    go_ret3
    exact ⟨v1, rfl, ho1, hb1⟩
  · have hlt : j < n := by omega
    have hjn' : ((j : Int) == n) = false := by simp; omega
    obtain ⟨bb, o, x, rfl, hbb, hcell, hwf, hd, _⟩ := hs.get hlt
    by_cases hx : x = 34
    · subst hx
      have hv := valV_unq (by rw [HL.out]; exact hlt) hd
      have hs2 := hs.cutAt (lo := j) (hi := n) (m := n - j) (c' := c - j) (by omega) (Nat.le_refl _) rfl rfl
      rw [List.take_of_length_le (by have := HL.out; omega)] at hs2
      have hu := p21_Unquote hs2 (by omega)
      have hbd := unqS_bd (xs.drop j)
      rw [List.length_drop, HL.out] at hbd
      obtain ⟨⟨U, q, er⟩, hU⟩ : ∃ U, unqS (xs.drop j) = U := ⟨_, rfl⟩
      rw [hU] at hu hbd hv
      have hcj : ¬ c = j := by omega
      simp only [] at hv hbd
      unfold RetU at hu
      obtain ⟨hb0, hb1'⟩ := hbd
      by_cases he : er = 0
      · subst he
        rw [if_pos rfl] at hv
        rw [hv]
        clear hv hU hd hs2 hjn
        go_enter Try.func51, Try.ntmps51
        go_wp2_with (first | (go_at_call 69; refine hp.mono ?_; rintro e w' ⟨rfl, rfl⟩) | (go_at_call 28; refine hu.mono ?_; rintro e w1 ⟨v1, rfl, ho1, hb1⟩))
        go_ret3
        exact ⟨v1, rfl, ho1, hb1⟩
      · have fe : (er != 0) = true := by simpa using he
        have fe2 : (er == 0) = false := by simpa using he
        rw [if_neg he] at hv
        rw [hv]
        clear hv hU hd hs2 hjn he
        go_enter Try.func51, Try.ntmps51
        go_wp2_with (first | (go_at_call 69; refine hp.mono ?_; rintro e w' ⟨rfl, rfl⟩) | (go_at_call 28; refine hu.mono ?_; rintro e w1 ⟨v1, rfl, ho1, hb1⟩))
        go_ret3
        exact ⟨_, rfl, Own.nil _ _ _ _, hb1⟩
    · have e : valV xs j = tokV xs j := valV_tok (.inr (by rw [getD_drop hd]; exact hx))
      rw [e]
      have fx : (x != 34) = true := by simpa using hx
      have fx2 : (x == 34) = false := by simpa using hx
      clear e hd hjn hx
      go_enter Try.func51, Try.ntmps51
      go_wp2_with (first | (go_at_call 69; refine hp.mono ?_; rintro e w' ⟨rfl, rfl⟩) | (go_at_call 43; refine ht.mono ?_; rintro e w1 ⟨v1, rfl, ho1, hb1⟩))
      go_ret3
      exact ⟨v1, rfl, ho1, hb1⟩
set_option maxRecDepth 100000 in
set_option maxHeartbeats 1000000 in
theorem r28_Value {A n c xs} {a : Int} {w : World} (hs : Sl w .u8 A n c xs) (hn : n ≤ 4194304) : Calls Try.prog 52 #[.slice A n c, .int .i64 a] w (RetSl (tupV (valV xs (withL n a))) .u8 (valV xs (withL n a)).1 w) := by
  have HL := Lib.hid hs.len; have hle := hs.le; have hcm := hs.cm; unfold maxLen at hcm
  have hw := withL_le n a
  have hp := r28_within (a := a) hs
  have ht := r28_Token (a := a) hs hn
  unfold tupV at ht
  obtain ⟨j, hj⟩ : ∃ j, withL n a = j := ⟨_, rfl⟩
  rw [hj] at hw hp ht ⊢
  clear hj
  by_cases hjn : j = n
  · subst hjn
    have e : valV xs j = tokV xs j := valV_tok (.inl (by rw [HL.out]; exact Nat.le_refl _))
    rw [e]
    clear e
    go_enter Try.func52, Try.ntmps52
    go_wp2_with (first | (go_at_call 72; refine hp.mono ?_; rintro e w' ⟨rfl, rfl⟩) | (go_at_call 50; refine ht.mono ?_; rintro e w1 ⟨A1, n1, c1, rfl, hs1, hb1⟩))
    go_ret3
    exact ⟨_, _, _, rfl, hs1, hb1⟩
  · have hlt : j < n := by omega
    have hjn' : ((j : Int) == n) = false := by simp; omega
    obtain ⟨bb, o, x, rfl, hbb, hcell, hwf, hd, _⟩ := hs.get hlt
    by_cases hx : x = 34
    · subst hx
      have hv := valV_unq (by rw [HL.out]; exact hlt) hd
      have hs2 := hs.cutAt (lo := j) (hi := n) (m := n - j) (c' := c - j) (by omega) (Nat.le_refl _) rfl rfl
      rw [List.take_of_length_le (by have := HL.out; omega)] at hs2
      have hu := r21_Unquote hs2 (by omega)
      have hbd := unqS_bd (xs.drop j)
      rw [List.length_drop, HL.out] at hbd
      obtain ⟨⟨U, q, er⟩, hU⟩ : ∃ U, unqS (xs.drop j) = U := ⟨_, rfl⟩
      rw [hU] at hu hbd hv
      have hcj : ¬ c = j := by omega
      simp only [] at hv hbd
      unfold RetU at hu
      obtain ⟨hb0, hb1'⟩ := hbd
      by_cases he : er = 0
      · subst he
        rw [if_pos rfl] at hv
        rw [hv]
        clear hv hU hd hs2 hjn
        go_enter Try.func52, Try.ntmps52
        go_wp2_with (first | (go_at_call 72; refine hp.mono ?_; rintro e w' ⟨rfl, rfl⟩) | ((go_at_call 29; refine hu.mono ?_; rintro e w1 ⟨v1, rfl, ho1, hb1⟩); obtain ⟨A1, n1, c1, rfl, hs1⟩ := ho1.sl))
        go_ret3
        exact ⟨_, _, _, rfl, hs1, hb1⟩
      · have fe : (er != 0) = true := by simpa using he
        have fe2 : (er == 0) = false := by simpa using he
        rw [if_neg he] at hv
        rw [hv]
        clear hv hU hd hs2 hjn he
        go_enter Try.func52, Try.ntmps52
        go_wp2_with (first | (go_at_call 72; refine hp.mono ?_; rintro e w' ⟨rfl, rfl⟩) | (go_at_call 29; refine hu.mono ?_; rintro e w1 ⟨v1, rfl, ho1, hb1⟩))
        go_ret3
        exact ⟨_, _, _, rfl, Sl.nil _ _, hb1⟩
    · have e : valV xs j = tokV xs j := valV_tok (.inr (by rw [getD_drop hd]; exact hx))
      rw [e]
      have fx : (x != 34) = true := by simpa using hx
      have fx2 : (x == 34) = false := by simpa using hx
      clear e hd hjn hx
      go_enter Try.func52, Try.ntmps52
      go_wp2_with (first | (go_at_call 72; refine hp.mono ?_; rintro e w' ⟨rfl, rfl⟩) | (go_at_call 50; refine ht.mono ?_; rintro e w1 ⟨A1, n1, c1, rfl, hs1, hb1⟩))
      go_ret3
      exact ⟨_, _, _, rfl, hs1, hb1⟩

set_option maxRecDepth 100000 in
set_option maxHeartbeats 1000000 in
theorem p28_Plain {A n c xs} {w : World} (hs : Sl w .u8 A n c xs) (hn : n ≤ 4194304) : Calls Try.prog 44 #[.slice A n c] w (Ret (.bool (plainV xs)) w) := by
  have HL := Lib.hid hs.len; have hle := hs.le; have hcm := hs.cm; unfold maxLen at hcm
  by_cases h0 : 0 < n
  · have e : plainV xs = allL 64 xs := by unfold plainV allL; rw [decide_eq_true (by rw [HL.out]; exact h0), Bool.true_and]
    rw [e]
    clear e
    go_enter Try.func44, Try.ntmps44
    go_wp2_with (go_at_call 62; refine (p01_All hs (by omega)).mono ?_; rintro e w' ⟨rfl, rfl⟩)
    go_ret
    exact ⟨rfl, rfl⟩
  · have e : plainV xs = false := by unfold plainV; rw [decide_eq_false (by rw [HL.out]; exact h0), Bool.false_and]
    rw [e]
    clear e
    go_enter Try.func44, Try.ntmps44
    go_wp2
    go_ret
    exact ⟨rfl, rfl⟩
set_option maxRecDepth 100000 in
set_option maxHeartbeats 1000000 in
theorem p28_Lay {A n c xs} {w : World} (hs : Sl w .u8 A n c xs) (hn : n ≤ 4194304) : Calls Try.prog 53 #[.slice A n c] w (RetOwn id 5 .u8 (layV xs) w) := by
  have hp := p28_Plain hs hn
  cases h : plainV xs with
  | true =>
    have e : layV xs = xs := by unfold layV; rw [h]; rfl
    rw [e]
    rw [h] at hp
    clear e h
    go_enter Try.func53, Try.ntmps53
    go_wp2_with (first | (go_at_call 44; refine hp.mono ?_; rintro e w' ⟨rfl, rfl⟩) | (go_at_call 71; refine (lib_BClone hs (by omega)).mono ?_; rintro e w1 ⟨v1, rfl, ho1, hb1⟩))
    go_ret
    exact ⟨v1, rfl, ho1, hb1⟩
  | false =>
    have e : layV xs = quoL xs := by unfold layV; rw [h]; rfl
    rw [e]
    rw [h] at hp
    clear e h
    go_enter Try.func53, Try.ntmps53
    go_wp2_with (first | (go_at_call 44; refine hp.mono ?_; rintro e w' ⟨rfl, rfl⟩) | (go_at_call 39; refine (p21_Quote hs hn).mono ?_; rintro e w1 ⟨v1, rfl, ho1, hb1⟩))
    go_ret
    exact ⟨v1, rfl, ho1, hb1⟩
set_option maxRecDepth 100000 in
set_option maxHeartbeats 1000000 in
theorem r28_Lay {A n c xs} {w : World} (hs : Sl w .u8 A n c xs) (hn : n ≤ 4194304) : Calls Try.prog 54 #[.slice A n c] w (RetSl id .u8 (layV xs) w) := by
  have HL := Lib.hid hs.len; have hle := hs.le; have hcm := hs.cm; unfold maxLen at hcm
  obtain ⟨q, hq⟩ : ∃ q, cntL 64 xs = q := ⟨_, rfl⟩
  have HQ := Lib.hid hq; clear hq
  by_cases h0 : 0 < n
  · by_cases h1 : q = n
    · subst h1
      have e : layV xs = xs := by unfold layV plainV; rw [HQ.out, HL.out]; simp [h0]
      rw [e]
      clear e
      go_enter Try.func54, Try.ntmps54
      go_wp2_with (go_at_call 55; refine (r01_Count hs (by omega)).mono ?_; rw [HQ.out]; rintro e w' ⟨rfl, rfl⟩)
      go_ret
      exact ⟨_, _, _, rfl, hs, Below.refl _ _⟩
    · have e : layV xs = quoL xs := by unfold layV plainV; rw [HQ.out, HL.out]; simp [h1]
      rw [e]
      have f1 : (q == (n : Int)) = false := by simpa using h1
      clear e h1
      go_enter Try.func54, Try.ntmps54
      go_wp2_with (first | (go_at_call 55; refine (r01_Count hs (by omega)).mono ?_; rw [HQ.out]; rintro e w' ⟨rfl, rfl⟩) | ((go_at_call 40; refine (r21_Quote hs hn).mono ?_; rintro e w1 ⟨v1, rfl, ho1, hb1⟩); obtain ⟨A1, n1, c1, rfl, hs1⟩ := ho1.sl))
      go_ret
      exact ⟨_, _, _, rfl, hs1, hb1⟩
  · have e : layV xs = quoL xs := by unfold layV plainV; rw [HL.out]; simp [h0]
    rw [e]
    clear e
    go_enter Try.func54, Try.ntmps54
    go_wp2_with ((go_at_call 40; refine (r21_Quote hs hn).mono ?_; rintro e w1 ⟨v1, rfl, ho1, hb1⟩); obtain ⟨A1, n1, c1, rfl, hs1⟩ := ho1.sl)
    go_ret
    exact ⟨_, _, _, rfl, hs1, hb1⟩
end Go.Proofs.Ytcjfjhciobkbcaa
