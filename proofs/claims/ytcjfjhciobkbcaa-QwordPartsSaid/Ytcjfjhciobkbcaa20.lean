/- Layer 20 (qword): codes laid: what the functions of the reference and of the program return. Conditions: the arguments read as lists; lengths at most 2^22. -/
import Derived.Test.Ytcjfjhciobkbcaa20S
namespace Go.Proofs.Ytcjfjhciobkbcaa
open Go.RowKit

theorem one20_32 : one20 32 = [95] := rfl
theorem one20_w {x : Int} (h : ¬ x = 32) (h' : isL x 128 = true) : one20 x = [x] := by unfold one20; rw [if_neg h, h']; rfl
theorem one20_e {x : Int} (h : ¬ x = 32) (h' : isL x 128 = false) : one20 x = escL 61 x := by unfold one20; rw [if_neg h, h']; rfl

set_option maxRecDepth 100000 in
set_option maxHeartbeats 1000000 in
theorem r20_one {x : Int} {w : World} (hx : (Lit.int .u8 x).wf = true) : Calls Try.prog 58 #[.int .u8 x] w (RetOwn id 5 .u8 (one20 x) w) := by
  by_cases h32 : x = 32
  · subst h32
    rw [one20_32]
    go_enter Try.func58, Try.ntmps58
    go_wp2
    go_ret
    exact ⟨_, rfl, Own.one _ _ _ _ (by decide) (Nat.le_refl _), (Below.refl _ _).alloc (Nat.le_refl _) _⟩
  · have hf : (x == 32) = false := by simpa using h32
    by_cases hq : isL x 128 = true
    · rw [one20_w h32 hq]
      clear h32
      go_enter Try.func58, Try.ntmps58
      go_wp2_with (go_at_call 56; refine (r01_Is hx).mono ?_; rintro e w' ⟨rfl, rfl⟩)
      go_ret
      exact ⟨_, rfl, Own.one _ _ _ _ hx (Nat.le_refl _), (Below.refl _ _).alloc (Nat.le_refl _) _⟩
    · have hq' : isL x 128 = false := by simpa using hq
      have e : one20 x = [] ++ escL 61 x := by rw [one20_e h32 hq']; rfl
      rw [e]
      clear e h32
      go_enter Try.func58, Try.ntmps58
      go_wp2_with (first | (go_at_call 56; refine (r01_Is hx).mono ?_; rintro e w' ⟨rfl, rfl⟩) | (go_at_call 76; refine (r02_Put (Sl.nil _ _) (by omega) (by decide) hx).mono ?_; rintro e w1 ⟨v1, rfl, ho1, hb1⟩))
      go_ret
      exact ⟨v1, rfl, ho1, hb1⟩
set_option maxRecDepth 100000 in
set_option maxHeartbeats 1000000 in
theorem r20_One {x : Int} {w : World} (hx : (Lit.int .u8 x).wf = true) : Calls Try.prog 21 #[.int .u8 x] w (RetB (.int .i64 (one20 x).length) w) := by
  go_enter Try.func21, Try.ntmps21
  go_wp2_with ((go_at_call 58; refine (r20_one hx).mono ?_; rintro e w1 ⟨v1, rfl, ho1, hb1⟩); obtain ⟨A1, n1, c1, rfl, hs1⟩ := ho1.sl; have hl1 := hs1.len)
  go_ret
  exact ⟨ret_int (by rw [hl1]), hb1⟩
set_option maxRecDepth 100000 in
set_option maxHeartbeats 1000000 in
theorem p20_One {x : Int} {w : World} (hx : (Lit.int .u8 x).wf = true) : Calls Try.prog 20 #[.int .u8 x] w (Ret (.int .i64 (one20 x).length) w) := by
  by_cases h32 : x = 32
  · subst h32
    rw [one20_32]
    go_enter Try.func20, Try.ntmps20
    go_wp2
    go_ret
    exact ⟨rfl, rfl⟩
  · have hf : (x == 32) = false := by simpa using h32
    by_cases hq : isL x 128 = true
    · rw [one20_w h32 hq]
      clear h32
      go_enter Try.func20, Try.ntmps20
      go_wp2_with (go_at_call 59; refine (p01_Is hx).mono ?_; rintro e w' ⟨rfl, rfl⟩)
      go_ret
      exact ⟨rfl, rfl⟩
    · have hq' : isL x 128 = false := by simpa using hq
      rw [one20_e h32 hq']
      clear h32
      go_enter Try.func20, Try.ntmps20
      go_wp2_with (go_at_call 59; refine (p01_Is hx).mono ?_; rintro e w' ⟨rfl, rfl⟩)
      go_ret
      exact ⟨rfl, rfl⟩

set_option maxRecDepth 100000 in
set_option maxHeartbeats 1000000 in
theorem p20_Len {A n c xs} {w : World} (hs : Sl w .u8 A n c xs) (hn : n ≤ 4194304) : Calls Try.prog 19 #[.slice A n c] w (Ret (.int .i64 (lay20 xs).length) w) := by
  have HL := Lib.hid hs.len; have hle := hs.le; have hcm := hs.cm; unfold maxLen at hcm
  go_enter Try.func19, Try.ntmps19
  go_wp2
  go_loop [3, 8] (fun v i => ∃ k : Nat, ∃ m : Nat, k ≤ n ∧ i = .int .i64 k ∧ v = .int .i64 m ∧ m ≤ 3 * k ∧ Hid ((lay20 (xs.take k)).length = m)) (fun _ i => n - (intOf i).toNat)
  case atStart => exact ⟨0, 0, Nat.zero_le _, rfl, rfl, by omega, rfl⟩
  case round =>
    obtain ⟨k, m, hk, rfl, rfl, hm, hI⟩ := hrel
    by_cases hlt : k < n
    · obtain ⟨b, o, x, rfl, hb, hcell, hwf, _, ht⟩ := hs.get hlt
      have h3 := one20_len x
      have hl : (lay20 (xs.take (k + 1))).length = m + (one20 x).length := by rw [lay20_take ht, List.length_append, hI.out]
      have HK := Lib.hid hl; clear hl ht
      obtain ⟨q, hq⟩ : ∃ q, (one20 x).length = q := ⟨_, rfl⟩
      rw [hq] at h3
      have HQ := Lib.hid hq
      obtain ⟨h31, h32⟩ := h3
      go_wp2_with (go_at_call 20; refine (p20_One hwf).mono ?_; rw [HQ.out]; rintro e w' ⟨rfl, rfl⟩)
      (go_round; (case rel => exact ⟨k + 1, m + q, by omega, by go_num, by go_num, by omega, by show _ = _; rw [HK.out, HQ.out]⟩); (case measure => first | (simp [intOf] <;> omega) | (simp [lenOf] <;> omega)))
    · go_wp2
      go_ret
      exact ⟨ret_int (by have h1 := hI.out; rw [List.take_of_length_le (by have := HL.out; omega)] at h1; rw [h1]), rfl⟩

set_option maxRecDepth 100000 in
set_option maxHeartbeats 1000000 in
theorem r20_Lay {A n c xs} {w : World} (hs : Sl w .u8 A n c xs) (hn : n ≤ 4194304) : Calls Try.prog 18 #[.slice A n c] w (RetOwn id 5 .u8 (lay20 xs) w) := by
  have HL := Lib.hid hs.len
  go_enter Try.func18, Try.ntmps18
  go_wp2
  go_loopw [3, 4] (fun v i wr => ∃ k : Nat, k ≤ n ∧ i = .int .i64 k ∧ Own wr w.heap.size 5 .u8 v (lay20 (xs.take k)) ∧ Below w.heap.size w wr) (fun _ i _ => n - (intOf i).toNat)
  case atStart => exact ⟨0, Nat.zero_le _, rfl, Own.nil _ _ _ _, Below.refl _ _⟩
  case round =>
    obtain ⟨k, hk, rfl, ho, hbel⟩ := hrel
    have hz := hbel.size
    have hs' := hs.bel hbel
    have HT : (lay20 (xs.take k)).length ≤ 3 * k := by have := (lay20_len (xs.take k)).2; simp at this; omega
    by_cases hlt : k < n
    · obtain ⟨bb, o, x, rfl, hbb, hcell, hwf, _, ht⟩ := hs'.get hlt
      have HK := Lib.hid (lay20_take ht); clear ht
      have h3 := (one20_len x).2
      go_wp2_with (first | ((go_at_call 58; refine (r20_one hwf).mono ?_; rintro e w1 ⟨v1, rfl, ho1, hb1⟩); obtain ⟨A1, n1, c1, rfl, hs1⟩ := ho1.sl; have hl1 := hs1.len; have hz1 := hb1.size) | (at_builtin; refine wpList_app rfl rfl eltB (by decide) rfl rfl (ho.below hb1) hs1 (below_then' hbel hb1 (Nat.le_refl _)) (by refine ⟨?_, ?_⟩ <;> first | omega | (simp; done) | (simp; omega)) (by first | omega | (simp; done) | (simp; omega)) ?_; intro v2 w2 ho2 hb2 hg2))
      (first | (go_roundw; (case rel => exact ⟨k + 1, by omega, by go_num, by rw [HK.out]; exact ho2, hb2⟩); (case measure => first | (simp [intOf] <;> omega) | (simp [lenOf] <;> omega))) | (refine ⟨?_, ?measure⟩; (repeat apply Exists.intro); refine ⟨?rel, ?eqs⟩; (case eqs => first | rfl | ((repeat (refine ⟨rfl, ?_⟩)); rfl)); (case rel => exact ⟨k + 1, by omega, by go_num, by rw [HK.out]; exact ho2, hb2⟩); (case measure => first | (simp [intOf] <;> omega) | (simp [lenOf] <;> omega))) | ((repeat apply Exists.intro); refine ⟨?rel, ?eqs⟩; (case eqs => first | rfl | ((repeat (refine ⟨rfl, ?_⟩)); rfl)); (case rel => exact ⟨k + 1, by omega, by go_num, by rw [HK.out]; exact ho2, hb2⟩)))
    · go_wp2
      go_ret
      exact ⟨_, rfl, by rw [List.take_of_length_le (by have := HL.out; omega)] at ho; exact ho, hbel⟩

set_option maxRecDepth 100000 in
set_option maxHeartbeats 1000000 in
theorem p20_Lay {A n c xs} {w : World} (hs : Sl w .u8 A n c xs) (hn : n ≤ 4194304) : Calls Try.prog 16 #[.slice A n c] w (RetOwn id 5 .u8 (lay20 xs) w) := by
  have HL := Lib.hid hs.len
  obtain ⟨i0, hi, hz0, hz1, hz2⟩ := info_parts Try.info5
  obtain ⟨N, hN⟩ : ∃ N, (lay20 xs).length = N := ⟨_, rfl⟩
  have hN2 : N ≤ 12582912 := by have := (lay20_len xs).2; have := HL.out; omega
  have HN := Lib.hid hN; clear hN
  go_enter Try.func16, Try.ntmps16
  go_wp2_with (first | (go_at_call 19; refine (p20_Len hs hn).mono ?_; rw [HN.out]; rintro e w' ⟨rfl, rfl⟩) | (at_make; refine wpList_make_own _ rfl _ _ 22 rfl w.heap.size 5 i0 (.int .u8 0) 1 Try.underlying22 hi hz0 hz1 _ _ _ N rfl rfl (by omega) ?bytes ?maxLen ?base ?_))
  case bytes => rw [hz2]; omega
  case maxLen => unfold maxLen; omega
  case base => exact Nat.le_refl _
  intro w1 hrow hgr
  have hb1 : Below w.heap.size w w1 := (Below.refl _ _).grown hgr (Nat.le_refl _) (fun k hk => by cases hk)
  have ho1 : Own w1 w.heap.size 5 .u8 (.slice (some ⟨w.heap.size, 0, none⟩) 0 N) [] := ⟨hrow, by simp⟩
  clear hrow hgr
  go_wp2
  go_loopw [3, 11] (fun v i wr => ∃ k : Nat, k ≤ n ∧ i = .int .i64 k ∧ Own wr w.heap.size 5 .u8 v (lay20 (xs.take k)) ∧ Below w.heap.size w wr) (fun _ i _ => n - (intOf i).toNat)
  case atStart => exact ⟨0, Nat.zero_le _, rfl, by simpa [lay20] using ho1, hb1⟩
  case round =>
    clear ho1 hb1
    obtain ⟨k, hk, rfl, ho, hbel⟩ := hrel
    have hz := hbel.size
    have hs' := hs.bel hbel
    have HT : (lay20 (xs.take k)).length ≤ 3 * k := by have := (lay20_len (xs.take k)).2; simp at this; omega
    by_cases hlt : k < n
    · obtain ⟨bb, o, x, rfl, hbb, hcell, hwf, _, ht⟩ := hs'.get hlt
      have hk1 := lay20_take ht
      clear ht
      by_cases h32 : x = 32
      · subst h32
        rw [one20_32] at hk1
        have HK := Lib.hid hk1; clear hk1
        go_wp2_with (at_builtin; refine wpList_app rfl rfl eltB (by decide) rfl rfl (ho.alloc _) (Sl.one _ _ _ _ (by decide)) (hbel.alloc (by omega) _) (by refine ⟨?_, ?_⟩ <;> first | omega | (simp; done) | (simp; omega)) (by first | omega | (simp; done) | (simp; omega)) ?_; intro v1 w1 ho1 hb1 hg1)
        (first | (go_roundw; (case rel => exact ⟨k + 1, by omega, by go_num, by rw [HK.out]; exact ho1, hb1⟩); (case measure => first | (simp [intOf] <;> omega) | (simp [lenOf] <;> omega))) | (refine ⟨?_, ?measure⟩; (repeat apply Exists.intro); refine ⟨?rel, ?eqs⟩; (case eqs => first | rfl | ((repeat (refine ⟨rfl, ?_⟩)); rfl)); (case rel => exact ⟨k + 1, by omega, by go_num, by rw [HK.out]; exact ho1, hb1⟩); (case measure => first | (simp [intOf] <;> omega) | (simp [lenOf] <;> omega))) | ((repeat apply Exists.intro); refine ⟨?rel, ?eqs⟩; (case eqs => first | rfl | ((repeat (refine ⟨rfl, ?_⟩)); rfl)); (case rel => exact ⟨k + 1, by omega, by go_num, by rw [HK.out]; exact ho1, hb1⟩)))
      · have hf : (x == 32) = false := by simpa using h32
        by_cases hq : isL x 128 = true
        · have e := one20_w h32 hq
          rw [e] at hk1
          have HK := Lib.hid hk1; clear hk1
          have e2 : ((one20 x).length : Int) = 1 := by rw [e]; rfl
          clear e h32
          go_wp2_with (first | (go_at_call 20; refine (p20_One hwf).mono ?_; rintro e w' ⟨rfl, rfl⟩) | (at_builtin; refine wpList_app rfl rfl eltB (by decide) rfl rfl (ho.alloc _) (Sl.one _ _ _ _ hwf) (hbel.alloc (by omega) _) (by refine ⟨?_, ?_⟩ <;> first | omega | (simp; done) | (simp; omega)) (by first | omega | (simp; done) | (simp; omega)) ?_; intro v1 w1 ho1 hb1 hg1))
          (first | (go_roundw; (case rel => exact ⟨k + 1, by omega, by go_num, by rw [HK.out]; exact ho1, hb1⟩); (case measure => first | (simp [intOf] <;> omega) | (simp [lenOf] <;> omega))) | (refine ⟨?_, ?measure⟩; (repeat apply Exists.intro); refine ⟨?rel, ?eqs⟩; (case eqs => first | rfl | ((repeat (refine ⟨rfl, ?_⟩)); rfl)); (case rel => exact ⟨k + 1, by omega, by go_num, by rw [HK.out]; exact ho1, hb1⟩); (case measure => first | (simp [intOf] <;> omega) | (simp [lenOf] <;> omega))) | ((repeat apply Exists.intro); refine ⟨?rel, ?eqs⟩; (case eqs => first | rfl | ((repeat (refine ⟨rfl, ?_⟩)); rfl)); (case rel => exact ⟨k + 1, by omega, by go_num, by rw [HK.out]; exact ho1, hb1⟩)))
        · have hq' : isL x 128 = false := by simpa using hq
          have e := one20_e h32 hq'
          have e2 : ((one20 x).length : Int) = 3 := by rw [e]; rfl
          rw [e] at hk1
          have HK := Lib.hid hk1; clear hk1 e h32
          obtain ⟨A1, n1, c1, rfl, hs1⟩ := ho.sl
          have hn1 : n1 ≤ 16777216 := by have := hs1.len; omega
          go_wp2_with (first | (go_at_call 20; refine (p20_One hwf).mono ?_; rintro e w' ⟨rfl, rfl⟩) | (go_at_call 57; refine (p02_Put hs1 hn1 (by decide) hwf).mono ?_; rintro e w1 ⟨v1, rfl, ho1, hb1⟩))
          (first | (go_roundw; (case rel => exact ⟨k + 1, by omega, by go_num, by rw [HK.out]; exact ho1.mono hz, below_then' hbel hb1 (Nat.le_refl _)⟩); (case measure => first | (simp [intOf] <;> omega) | (simp [lenOf] <;> omega))) | (refine ⟨?_, ?measure⟩; (repeat apply Exists.intro); refine ⟨?rel, ?eqs⟩; (case eqs => first | rfl | ((repeat (refine ⟨rfl, ?_⟩)); rfl)); (case rel => exact ⟨k + 1, by omega, by go_num, by rw [HK.out]; exact ho1.mono hz, below_then' hbel hb1 (Nat.le_refl _)⟩); (case measure => first | (simp [intOf] <;> omega) | (simp [lenOf] <;> omega))) | ((repeat apply Exists.intro); refine ⟨?rel, ?eqs⟩; (case eqs => first | rfl | ((repeat (refine ⟨rfl, ?_⟩)); rfl)); (case rel => exact ⟨k + 1, by omega, by go_num, by rw [HK.out]; exact ho1.mono hz, below_then' hbel hb1 (Nat.le_refl _)⟩)))
    · go_wp2
      go_ret
      exact ⟨_, rfl, by rw [List.take_of_length_le (by have := HL.out; omega)] at ho; exact ho, hbel⟩
end Go.Proofs.Ytcjfjhciobkbcaa
