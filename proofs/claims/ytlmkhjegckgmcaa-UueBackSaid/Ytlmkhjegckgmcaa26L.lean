/- Layer 26's laws: each returns true for every input, and leaves what was there. Conditions: the arguments read as lists; the variable MaxLen holds a number. -/
import Derived.Test.Ytlmkhjegckgmcaa26E
namespace Go.Proofs.Ytlmkhjegckgmcaa
open Go.RowKit

theorem ev26a : splitL [97, 13, 10, 98, 99] = [[97], [98, 99]] := by decide
theorem ev26b : endsV [97, 13, 10, 98, 99] = false := by decide
theorem ev26c : maxL (splitL [97, 13, 10, 98, 99]) = 2 := by decide
theorem ev26d : bareV 0 [13, 10, 10] = 1 := by decide
theorem ev26e : sevV [0] 9 = 8 := by decide
theorem ev26f : fitsV 3 4 (splitL [97, 13, 10, 98, 99]) = true := by decide
theorem st26a : strOfNums [98, 99] = { data := #[98, 99] } := by decide

set_option maxRecDepth 100000 in
set_option maxHeartbeats 1000000 in
theorem alive26 {w : World} (hM : MaxL w) : Calls Try.prog 13 #[] w (RetB (.bool true) w) := by
  have kc := fun (w : World) (C : Array Value) (n c : Nat) => Lib.run_convert_bytes_const (P := Try.prog) w 22 5 C n c Try.underlying22 Try.underlying5
  go_enter Try.func13, Try.ntmps13
  go_wp2_with fail
  have hs0 := Sl.newF w .u8 5 [97, 13, 10, 98, 99] (5, 6) (by decide) (by decide)
  have hb0 := (Below.refl w.heap.size w).alloc (Nat.le_refl _) (.cells ([97, 13, 10, 98, 99].map (Value.int .u8)).toArray 5 (5, 6))
  refine (p26_Split hs0 (by decide) (hM.alloc _)).mono ?_
  rintro e w1 h1
  rw [ev26a] at h1
  obtain ⟨v1, rfl, ho1, hb1⟩ := h1
  obtain ⟨A1, n1, c1, rfl, hL1⟩ := ho1.lns
  have hn1 : n1 = 2 := hL1.len.symm
  subst hn1
  clear ho1
  have hB1 := below_then' hb0 hb1 (Nat.le_refl _)
  have hs1 := hs0.bel hb1
  have hM1 := hM.bel hB1
  obtain ⟨b, o, A', n', c', x, rfl, hb, hcell, hx, hx1, _, _⟩ := hL1.get (j := 1) (by omega)
  obtain rfl : x = [98, 99] := hx1.symm
  have q1 := hx.str (P := Try.prog) 22 5 9 Try.underlying22 Try.underlying5 Try.underlying9
  rw [st26a] at q1
  obtain ⟨B, hB⟩ : ∃ B, w.heap.size = B := ⟨_, rfl⟩
  have HB := Lib.hid hB
  rw [hB] at hs1
  have hl5 : [(97 : Int), 13, 10, 98, 99].length = 5 := rfl
  rw [hl5] at hs1
  clear hs0 hb0 hL1 hx hx1
  go_wp2_with fail
  clear hB q1 hcell
  refine (p26_Ends hs1 (by decide)).mono ?_
  rw [ev26b]
  rintro e w2 ⟨rfl, hb2⟩
  have hB2 := below_then hB1 hb2
  have hs2 := hs1.bel hb2
  go_wp2_with fail
  refine (p26_Longest hs2 (by decide) (hM.bel hB2)).mono ?_
  rw [ev26c]
  rintro e w3 ⟨rfl, hb3⟩
  have hB3 := below_then hB2 hb3
  have hs3 := hs2.bel hb3
  have hM3 := hM.bel hB3
  go_wp2_with fail
  refine (p26_Bare (Sl.newF w3 .u8 5 [13, 10, 10] _ (by decide) (by decide)) (by decide) (hM3.alloc _)).mono ?_
  rw [ev26d]
  rintro e w4 ⟨rfl, hb4⟩
  have hb34 := below_then' ((Below.refl _ _).alloc (Nat.le_refl _) _) hb4 (Nat.le_refl w3.heap.size)
  have hB4 := below_then hB3 hb34
  have hM4 := hM.bel hB4
  have hs4 := hs3.bel hb34
  go_wp2_with fail
  refine (p26_Seven (Sl.new w4 .u8 5 [0] (by decide) (by decide)) (by decide) (hM4.alloc _)).mono ?_
  rw [ev26e]
  rintro e w5 ⟨rfl, hb5⟩
  have hb45 := below_then' ((Below.refl _ _).alloc (Nat.le_refl _) _) hb5 (Nat.le_refl w4.heap.size)
  have hB5 := below_then hB4 hb45
  go_wp2_with fail
  refine (p26_Fits (hs4.bel hb45) (by decide) (hM.bel hB5) (by decide) (by decide)).mono ?_
  rw [ev26f]
  rintro e w6 ⟨rfl, hb6⟩
  go_wp2
  go_ret
  exact ⟨rfl, below_then hB5 hb6⟩

set_option maxRecDepth 100000 in
set_option maxHeartbeats 1000000 in
theorem law_LinesFits {A n c xs} {f m : Int} {w : World} (hM : MaxL w) (hs : Sl w .u8 A n c xs) (hf : (Lit.int .i64 f).wf = true) (hm : (Lit.int .i64 m).wf = true) : Calls Try.prog 3 #[.slice A n c, .int .i64 f, .int .i64 m] w (RetB (.bool true) w) := by
  by_cases hbig : 1000 < n
  · go_enter Try.func3, Try.ntmps3
    go_wp2_with (go_at_call 13; refine (alive26 hM).mono ?_; rintro e w1 ⟨rfl, hb⟩)
    go_ret
    exact ⟨rfl, hb⟩
  · obtain ⟨l, hl⟩ : ∃ l, maxL (splitL xs) = l := ⟨_, rfl⟩
    obtain ⟨q, hq⟩ : ∃ q, fitsV f m (splitL xs) = q := ⟨_, rfl⟩
    obtain ⟨r, hr⟩ : ∃ r, sevV xs m = r := ⟨_, rfl⟩
    have HLm := Lib.hid hl; have HQ := Lib.hid hq; have HR := Lib.hid hr
    clear hl hq hr
    have e1 : (q == q) = true := by simp
    go_enter Try.func3, Try.ntmps3
    go_wp2_with fail
    refine (p26_Longest hs (by omega) hM).mono ?_
    rw [HLm.out]
    rintro e w1 ⟨rfl, hb1⟩
    go_wp2_with fail
    refine (r26_Longest (hs.bel hb1) (by omega)).mono ?_
    rw [HLm.out]
    rintro e w2 ⟨rfl, hb2⟩
    have hB2 := below_then hb1 hb2
    go_wp2_with fail
    refine (p26_Fits (hs.bel hB2) (by omega) (hM.bel hB2) hf hm).mono ?_
    rw [HQ.out]
    rintro e w3 ⟨rfl, hb3⟩
    have hB3 := below_then hB2 hb3
    go_wp2_with fail
    refine (r26_Fits (hs.bel hB3) (by omega) hf hm).mono ?_
    rw [HQ.out]
    rintro e w4 ⟨rfl, hb4⟩
    have hB4 := below_then hB3 hb4
    go_wp2_with fail
    refine (p26_Seven (hs.bel hB4) (by omega) (hM.bel hB4)).mono ?_
    rw [HR.out]
    rintro e w5 ⟨rfl, hb5⟩
    have hB5 := below_then hB4 hb5
    go_wp2_with fail
    refine (r26_Seven (hs.bel hB5) (by omega)).mono ?_
    rw [HR.out]
    rintro e w6 ⟨rfl, hb6⟩
    have hB6 := below_then hB5 hb6
    go_wp2_with (go_at_call 13; refine (alive26 (hM.bel hB6)).mono ?_; rintro e w7 ⟨rfl, hb7⟩)
    go_ret
    exact ⟨rfl, below_then hB6 hb7⟩


set_option maxRecDepth 100000 in
set_option maxHeartbeats 1000000 in
theorem r01_LikeQ {A n c xs A' n' c' ys} {w : World} (hs : Sl w .u8 A n c xs) (ht : Sl w .u8 A' n' c' ys) :
    Calls Try.prog 27 #[.slice A n c, .slice A' n' c'] w (fun e w' => e = .returned (.bool (likeL xs ys)) ∧ ∃ q, w' = w.drewN q) := by
  have HL := Lib.hid hs.len; have hle := hs.le; have hcm := hs.cm; unfold maxLen at hcm
  have HL' := Lib.hid ht.len
  by_cases hne : n = n'
  · subst hne
    go_enter Try.func27, Try.ntmps27
    go_wp2
    go_loopw [5] (fun i wr => ∃ (k q : Nat), k ≤ n ∧ i = .int .i64 k ∧ Hid (likeL xs ys = likeL (xs.drop k) (ys.drop k)) ∧ Hid (wr = w.drewN q)) (fun i _ => n - (intOf i).toNat)
    case atStart => exact ⟨0, 0, Nat.zero_le _, rfl, rfl, rfl⟩
    case round =>
      obtain ⟨k, q, hk, rfl, hI, hW⟩ := hrel
      have hbel : Below w.heap.size w wr := by rw [hW.out]; exact below_drewN (Below.refl _ _) q
      have hnext : ∀ j, Hid (wr.drewN j = w.drewN (q + j)) := fun j => by show _ = _; rw [hW.out, World.drewN_drewN]
      by_cases hlt : k < n
      · obtain ⟨b, o, x, rfl, hb, hcell, hwf, hd, _⟩ := (hs.bel hbel).get hlt
        obtain ⟨b', o', y, rfl, hb', hcell', hwf', hd', _⟩ := (ht.bel hbel).get hlt
        have HD := Lib.hid hd; clear hd
        have HD' := Lib.hid hd'; clear hd'
        by_cases hxy : x = y
        · subst hxy
          go_wp2_with fail
          go_quiet (fail)
          go_wp2
          (first | (go_roundw; (case rel => exact ⟨k + 1, _, by omega, by go_num, by go_light; show _ = _; rw [hI.out, HD.out, HD'.out]; simp [likeL], hnext _⟩); (case measure => first | (simp [intOf] <;> omega) | (simp [lenOf] <;> omega))) | (refine ⟨?_, ?measure⟩; (repeat apply Exists.intro); refine ⟨?rel, ?eqs⟩; (case eqs => first | rfl | ((repeat (refine ⟨rfl, ?_⟩)); rfl)); (case rel => exact ⟨k + 1, _, by omega, by go_num, by go_light; show _ = _; rw [hI.out, HD.out, HD'.out]; simp [likeL], hnext _⟩); (case measure => first | (simp [intOf] <;> omega) | (simp [lenOf] <;> omega))) | ((repeat apply Exists.intro); refine ⟨?rel, ?eqs⟩; (case eqs => first | rfl | ((repeat (refine ⟨rfl, ?_⟩)); rfl)); (case rel => exact ⟨k + 1, _, by omega, by go_num, by go_light; show _ = _; rw [hI.out, HD.out, HD'.out]; simp [likeL], hnext _⟩)))
        · have hf : (x == y) = false := by simpa using hxy
          have hf' : (x != y) = true := by simpa using hxy
          go_wp2_with fail
          go_quiet (fail)
          go_wp2
          go_ret
          exact ⟨ret_bool (by rw [hI.out, HD.out, HD'.out]; simp [likeL, hxy]), _, (hnext _).out⟩
      · go_wp2
        go_ret
        exact ⟨ret_bool (by rw [hI.out, List.drop_eq_nil_of_le (by have := HL.out; omega), List.drop_eq_nil_of_le (by have := HL'.out; omega)]; rfl), q, hW.out⟩
  · have hne' : (n == n') = false := by simpa using hne
    have hne'' : (n != n') = true := by simpa using hne
    go_enter Try.func27, Try.ntmps27
    go_wp2
    go_ret
    exact ⟨ret_bool (by have := HL.out; have := HL'.out; simp [likeL]; intro h; subst h; omega), 0, rfl⟩
end Go.Proofs.Ytlmkhjegckgmcaa
