/- Layer 14's reference (Base64, bit by bit): what each function returns. Conditions: the arguments read as lists; lengths at most 2^24. -/
import Derived.Test.YtibnmekifaaacaaLibB
import Derived.Test.Ytibnmekifaaacaa14S
namespace Go.Proofs.Ytibnmekifaaacaa
open Go.RowKit

theorem Try.info3 : (Try.prog.info? 3).map (fun i => (i.zero, i.size, i.bytes)) = some (some (.int .i64 0), 1, 8) := by kernel_rfl
theorem eltI : Elt Try.prog 35 3 .i64 8 := ⟨Try.underlying35, Try.info3⟩

theorem rem64 (n : Int) (h : n < 0) : -63 ≤ n.tmod 64 ∧ n.tmod 64 ≤ 0 ∧ (n.tmod 64 + 64) % 64 = n % 64 := by
  have h1 := Int.tmod_eq_emod (a := n) (b := 64)
  have h2 : (64 : Int).natAbs = 64 := rfl
  rw [h2] at h1
  split at h1 <;> omega

set_option maxRecDepth 100000 in
set_option maxHeartbeats 1000000 in
theorem r14_Digit {n : Int} {w : World} (hn : (Lit.int .i64 n).wf = true) : Calls Try.prog 45 #[.int .i64 n] w (Ret (.int .u8 (digL n)) w) := by
  obtain ⟨h1, h2⟩ := wf_i64.1 hn
  clear hn
  by_cases h0 : 0 ≤ n
  · go_enter Try.func45, Try.ntmps45
    go_wp2
    all_goals
      go_ret
      exact ⟨ret_int (by go_light; unfold digL d64; repeat' split <;> first | omega | (simp_all <;> omega)), rfl⟩
  · obtain ⟨t, ht⟩ : ∃ t, n.tmod 64 = t := ⟨_, rfl⟩
    obtain ⟨g1, g2, g3⟩ := rem64 n (by omega)
    rw [ht] at g1 g2 g3
    have G3 := Lib.hid g3; clear g3
    go_enter Try.func45, Try.ntmps45
    go_wp2
    all_goals
      go_ret
      exact ⟨ret_int (by go_light; have g3 := G3.out; unfold digL d64; rw [← g3]; repeat' split <;> first | omega | (simp_all <;> omega)), rfl⟩

set_option maxRecDepth 100000 in
set_option maxHeartbeats 1000000 in
theorem r14_Value {c : Int} {w : World} : Calls Try.prog 38 #[.int .u8 c] w (Ret (.tuple #[.int .i64 (valL c), .bool (isD c)]) w) := by
  go_enter Try.func38, Try.ntmps38
  go_wp2
  go_loop [4] (fun i => ∃ k : Nat, k ≤ 64 ∧ i = .int .i64 k ∧ Hid (∀ j : Nat, j < k → d64 j ≠ c)) (fun i => (64 - intOf i).toNat)
  case atStart => exact ⟨0, Nat.zero_le _, rfl, fun j hj => absurd hj (by omega)⟩
  case round =>
    obtain ⟨k, hk, rfl, hI⟩ := hrel
    by_cases hlt : k < 64
    · have hd : digL (k : Int) = d64 k := by unfold digL; rw [Int.emod_eq_of_lt (by omega) (by omega)]
      by_cases he : d64 k = c
      · have he' : (d64 (k : Int) == c) = true := by simpa using he
        have hv := d64_val (k := k) (by omega)
        rw [he] at hv
        obtain ⟨v1, v2, _⟩ := hv
        have V1 := Lib.hid v1; have V2 := Lib.hid v2
        clear v1 v2 he
        go_wp2_with (go_at_call 45; refine (r14_Digit (wf_i64.2 (by omega))).mono ?_; rintro e w' ⟨rfl, rfl⟩)
        go_ret2
        exact ⟨ret2 (vint V2.out.symm) (vbool V1.out.symm), rfl⟩
      · have he' : (d64 (k : Int) == c) = false := by simpa using he
        have HE := Lib.hid he; clear he
        go_wp2_with (go_at_call 45; refine (r14_Digit (wf_i64.2 (by omega))).mono ?_; rintro e w' ⟨rfl, rfl⟩)
        (go_round; (case rel => exact ⟨k + 1, by omega, by go_num, fun j hj => (by rcases Nat.lt_or_ge j k with h3 | h3; exact hI.out j h3; have : j = k := (by omega); subst this; exact HE.out)⟩); (case measure => first | (simp [intOf] <;> omega) | (simp [lenOf] <;> omega)))
    · have hno : isD c = false := by
        cases e : isD c
        · rfl
        · obtain ⟨e1, e2, e3⟩ := val_d64 e
          exact absurd (by rw [show (((valL c).toNat : Nat) : Int) = valL c from by omega]; exact e1) (hI.out (valL c).toNat (by omega))
      have h0 := val_no hno
      have HN := Lib.hid hno; have H0 := Lib.hid h0
      clear hno h0
      go_wp2
      go_ret2
      exact ⟨ret2 (vint H0.out.symm) (vbool HN.out.symm), rfl⟩

def lenL (n : Int) : Int := if n < 1 then 0 else (n - 1) / 3 * 4 + 4
set_option maxRecDepth 100000 in
set_option maxHeartbeats 1000000 in
theorem r14_Len {n : Int} {w : World} (hn : n ≤ 1152921504606846976) : Calls Try.prog 25 #[.int .i64 n] w (Ret (.int .i64 (lenL n)) w) := by
  by_cases h0 : n < 1
  · go_enter Try.func25, Try.ntmps25
    go_wp2
    go_ret
    exact ⟨ret_int (by simp [lenL, h0]), rfl⟩
  · go_enter Try.func25, Try.ntmps25
    go_wp2
    go_ret
    exact ⟨ret_int (by unfold lenL; rw [if_neg (by omega)]), rfl⟩

set_option maxRecDepth 100000 in
set_option maxHeartbeats 1000000 in
theorem r14_number {A n c xs} {w : World} (hs : Sl w .i64 A n c xs) (hb : isBits xs) (hn : n ≤ 40) : Calls Try.prog 39 #[.slice A n c] w (Ret (.int .i64 (numL xs)) w) := by
  have HB := Lib.hid hb; clear hb
  have HL := Lib.hid hs.len; have hle := hs.le; have hcm := hs.cm; unfold maxLen at hcm
  go_enter Try.func39, Try.ntmps39
  go_wp2
  go_loop [3, 4] (fun m i => ∃ k : Nat, k ≤ n ∧ i = .int .i64 k ∧ m = .int .i64 (numL (xs.take k))) (fun _ i => n - (intOf i).toNat)
  case atStart => exact ⟨0, Nat.zero_le _, rfl, rfl⟩
  case round =>
    obtain ⟨k, hk, rfl, rfl⟩ := hrel
    by_cases hlt : k < n
    · obtain ⟨b, o, x, rfl, hbo, hcell, hwf, hd, ht⟩ := hs.get hlt
      have hx : x = 0 ∨ x = 1 := HB.out x (List.mem_of_mem_drop (i := k) (by rw [hd]; simp))
      have hm := num_big (l := xs.take k) (fun y hy => HB.out y (List.mem_of_mem_take hy)) (by simp; omega)
      have hk1 : numL (xs.take (k + 1)) = 2 * numL (xs.take k) + x := by rw [ht, num_snoc]
      have HK := Lib.hid hk1
      clear hk1 ht hd
      obtain ⟨m, hme⟩ : ∃ m, numL (xs.take k) = m := ⟨_, rfl⟩
      rw [hme] at hm
      obtain ⟨hm1, hm2⟩ := hm
      have hx1 : 0 ≤ x := by omega
      have hx2 : x ≤ 1 := by omega
      clear hx
      go_wp2
      (go_round; (case rel => exact ⟨k + 1, by omega, by go_num, by rw [HK.out, hme]⟩); (case measure => first | (simp [intOf] <;> omega) | (simp [lenOf] <;> omega)))
    · go_wp2
      go_ret
      exact ⟨ret_int (by rw [List.take_of_length_le (by have := HL.out; omega)]), rfl⟩
end Go.Proofs.Ytibnmekifaaacaa
