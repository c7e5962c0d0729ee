/- Bits as Go's functions of layers 14 and 44 of the reference read and lay them; the bit operators. Conditions: the arguments read as lists; lengths at most 2^24. -/
import Derived.Test.YtlmkhjegckgmcaaLibC
import Derived.Test.Ytlmkhjegckgmcaa14S
namespace Go.Proofs.Ytlmkhjegckgmcaa
open Go.RowKit

theorem Try.info3 : (Try.prog.info? 3).map (fun i => (i.zero, i.size, i.bytes)) = some (some (.int .i64 0), 1, 8) := by kernel_rfl
theorem eltI : Elt Try.prog 66 3 .i64 8 := ⟨Try.underlying66, Try.info3⟩

theorem rem64 (n : Int) (h : n < 0) : -63 ≤ n.tmod 64 ∧ n.tmod 64 ≤ 0 ∧ (n.tmod 64 + 64) % 64 = n % 64 := by
  have h1 := Int.tmod_eq_emod (a := n) (b := 64)
  have h2 : (64 : Int).natAbs = 64 := rfl
  rw [h2] at h1
  split at h1 <;> omega

set_option maxRecDepth 100000 in
set_option maxHeartbeats 1000000 in
theorem r14_number {A n c xs} {w : World} (hs : Sl w .i64 A n c xs) (hb : isBits xs) (hn : n ≤ 40) : Calls Try.prog 82 #[.slice A n c] w (Ret (.int .i64 (numL xs)) w) := by
  have HB := Lib.hid hb; clear hb
  have HL := Lib.hid hs.len; have hle := hs.le; have hcm := hs.cm; unfold maxLen at hcm
  go_enter Try.func82, Try.ntmps82
  go_wp2
  go_loop [3, 4] (fun m i => ∃ k : Nat, k ≤ n ∧ i = .int .i64 k ∧ m = .int .i64 (numL (xs.take k))) (fun _ i => n - (intOf i).toNat)
  case atStart => exact ⟨0, Nat.zero_le _, rfl, rfl⟩
  case round =>
    obtain ⟨k, hk, rfl, rfl⟩ := hrel
    by_cases hlt : k < n
    · obtain ⟨b, o, x, rfl, hbo, hcell, hwf, hd, ht⟩ := hs.get hlt
      have hx : x = 0 ∨ x = 1 := HB.out x (List.mem_of_mem_drop (i := k) (by rw [hd]; simp))
      have hm := num_big (l := xs.take k) (fun y hy => HB.out y (List.mem_of_mem_take hy)) (by simp; omega)
      have hk1 : numL (xs.take (k + 1)) = 2 * numL (xs.take k) + x := by rw [ht, num_snoc]
      have HK := Lib.hid hk1
      clear hk1 ht hd
      obtain ⟨m, hme⟩ : ∃ m, numL (xs.take k) = m := ⟨_, rfl⟩
      rw [hme] at hm
      obtain ⟨hm1, hm2⟩ := hm
      have hx1 : 0 ≤ x := by omega
      have hx2 : x ≤ 1 := by omega
      clear hx
      go_wp2
      (go_round; (case rel => exact ⟨k + 1, by omega, by go_num, by rw [HK.out, hme]⟩); (case measure => first | (simp [intOf] <;> omega) | (simp [lenOf] <;> omega)))
    · go_wp2
      go_ret
      exact ⟨ret_int (by rw [List.take_of_length_le (by have := HL.out; omega)]), rfl⟩
set_option maxRecDepth 100000 in
set_option maxHeartbeats 1000000 in
theorem r44_number {A n c xs} {w : World} (hs : Sl w .i64 A n c xs) (hb : isBits xs) (hn : n ≤ 40) : Calls Try.prog 72 #[.slice A n c] w (Ret (.int .i64 (numL xs)) w) := by
  have HB := Lib.hid hb; clear hb
  have HL := Lib.hid hs.len; have hle := hs.le; have hcm := hs.cm; unfold maxLen at hcm
  go_enter Try.func72, Try.ntmps72
  go_wp2
  go_loop [3, 4] (fun m i => ∃ k : Nat, k ≤ n ∧ i = .int .i64 k ∧ m = .int .i64 (numL (xs.take k))) (fun _ i => n - (intOf i).toNat)
  case atStart => exact ⟨0, Nat.zero_le _, rfl, rfl⟩
  case round =>
    obtain ⟨k, hk, rfl, rfl⟩ := hrel
    by_cases hlt : k < n
    · obtain ⟨b, o, x, rfl, hbo, hcell, hwf, hd, ht⟩ := hs.get hlt
      have hx : x = 0 ∨ x = 1 := HB.out x (List.mem_of_mem_drop (i := k) (by rw [hd]; simp))
      have hm := num_big (l := xs.take k) (fun y hy => HB.out y (List.mem_of_mem_take hy)) (by simp; omega)
      have hk1 : numL (xs.take (k + 1)) = 2 * numL (xs.take k) + x := by rw [ht, num_snoc]
      have HK := Lib.hid hk1
      clear hk1 ht hd
      obtain ⟨m, hme⟩ : ∃ m, numL (xs.take k) = m := ⟨_, rfl⟩
      rw [hme] at hm
      obtain ⟨hm1, hm2⟩ := hm
      have hx1 : 0 ≤ x := by omega
      have hx2 : x ≤ 1 := by omega
      clear hx
      go_wp2
      (go_round; (case rel => exact ⟨k + 1, by omega, by go_num, by rw [HK.out, hme]⟩); (case measure => first | (simp [intOf] <;> omega) | (simp [lenOf] <;> omega)))
    · go_wp2
      go_ret
      exact ⟨ret_int (by rw [List.take_of_length_le (by have := HL.out; omega)]), rfl⟩
set_option maxRecDepth 100000 in
set_option maxHeartbeats 1000000 in
theorem r14_Bits {A n c xs} {w : World} (hs : Sl w .u8 A n c xs) (hn : n ≤ 16777216) :
    Calls Try.prog 71 #[.slice A n c] w (RetOwn id 3 .i64 (bitsL xs) w) := by
  have HL := Lib.hid hs.len
  go_enter Try.func71, Try.ntmps71
  go_wp2
  go_loopw [3, 4] (fun v i wr => ∃ k : Nat, k ≤ n ∧ i = .int .i64 k ∧ Own wr w.heap.size 3 .i64 v (bitsL (xs.take k)) ∧ Below w.heap.size w wr) (fun _ i _ => n - (intOf i).toNat)
  case atStart => exact ⟨0, Nat.zero_le _, rfl, Own.nil _ _ _ _, Below.refl _ _⟩
  case round =>
    obtain ⟨k, hk, rfl, ho, hbel⟩ := hrel
    have hz := hbel.size
    by_cases hlt : k < n
    · obtain ⟨b, o, x, rfl, hb, hcell, hwf, _, ht⟩ := hs.get hlt
      have hk1 : bitsL (xs.take (k + 1)) = bitsL (xs.take k) ++ byteBits x := by rw [ht]; simp [bitsL]
      have HK := Lib.hid hk1; clear hk1 ht
      have hlen : (bitsL (xs.take k)).length ≤ 134217728 := by rw [bitsL_length]; simp; omega
      obtain ⟨hx1, hx2⟩ := wf_u8.1 hwf
      obtain ⟨wo, rfl⟩ : ∃ wo : World, wo = wr := ⟨_, rfl⟩
      have HC := Lib.hid hcell; clear hcell
      go_wp2
      go_loopw [3, 5] (fun v i wr => ∃ j : Nat, j ≤ 8 ∧ i = .int .i64 (7 - (j : Int)) ∧ Own wr w.heap.size 3 .i64 v (bitsL (xs.take k) ++ (byteBits x).take j) ∧ Below w.heap.size w wr) (fun _ i _ => (intOf i + 1).toNat)
      case atStart => exact ⟨0, Nat.zero_le _, rfl, by simpa using ho, hbel⟩
      case round =>
        obtain ⟨j, hj, rfl, ho2, hbel2⟩ := hrel
        have hz2 := hbel2.size
        by_cases hlt2 : j < 8
        · have hl2 : (bitsL (xs.take k) ++ (byteBits x).take j).length ≤ 134217736 := by simp; omega
          have hcell := (hbel2.cell (p := ⟨b, o + k, none⟩) hb).trans HC.out
          have : j = 0 ∨ j = 1 ∨ j = 2 ∨ j = 3 ∨ j = 4 ∨ j = 5 ∨ j = 6 ∨ j = 7 := by omega
          obtain ⟨jj, hjj⟩ : ∃ jj, jj = j := ⟨_, rfl⟩
          have HJ := Lib.hid hjj; clear hjj
          rcases this with h | h | h | h | h | h | h | h <;> subst h
          all_goals
            go_wp2_with (at_builtin; refine wpList_app rfl rfl eltI (by decide) rfl rfl (ho2.alloc _) (Sl.one _ _ _ _ (wf_i64.2 (by omega))) (hbel2.alloc (by omega) _) (by refine ⟨?_, ?_⟩ <;> first | omega | (simp; done) | (simp; omega)) (by first | omega | (simp; done) | (simp; omega)) ?_; intro v1 w1 ho1 hb1 hg1)
            rw [List.append_assoc] at ho1
            have hjj := HJ.out
            (first | (go_roundw; (case rel => exact ⟨jj + 1, by omega, by subst hjj; rfl, by subst hjj; exact ho1, hb1⟩); (case measure => first | (simp [intOf] <;> omega) | (simp [lenOf] <;> omega))) | (refine ⟨?_, ?measure⟩; (repeat apply Exists.intro); refine ⟨?rel, ?eqs⟩; (case eqs => first | rfl | ((repeat (refine ⟨rfl, ?_⟩)); rfl)); (case rel => exact ⟨jj + 1, by omega, by subst hjj; rfl, by subst hjj; exact ho1, hb1⟩); (case measure => first | (simp [intOf] <;> omega) | (simp [lenOf] <;> omega))) | ((repeat apply Exists.intro); refine ⟨?rel, ?eqs⟩; (case eqs => first | rfl | ((repeat (refine ⟨rfl, ?_⟩)); rfl)); (case rel => exact ⟨jj + 1, by omega, by subst hjj; rfl, by subst hjj; exact ho1, hb1⟩)))
        · obtain rfl : j = 8 := by omega
          go_wp2
          (first | (go_roundw; (case rel => exact ⟨k + 1, by omega, by go_num, by rw [HK.out]; exact ho2, hbel2⟩); (case measure => first | (simp [intOf] <;> omega) | (simp [lenOf] <;> omega))) | (refine ⟨?_, ?measure⟩; (repeat apply Exists.intro); refine ⟨?rel, ?eqs⟩; (case eqs => first | rfl | ((repeat (refine ⟨rfl, ?_⟩)); rfl)); (case rel => exact ⟨k + 1, by omega, by go_num, by rw [HK.out]; exact ho2, hbel2⟩); (case measure => first | (simp [intOf] <;> omega) | (simp [lenOf] <;> omega))) | ((repeat apply Exists.intro); refine ⟨?rel, ?eqs⟩; (case eqs => first | rfl | ((repeat (refine ⟨rfl, ?_⟩)); rfl)); (case rel => exact ⟨k + 1, by omega, by go_num, by rw [HK.out]; exact ho2, hbel2⟩)))
    · go_wp2
      go_ret
      exact ⟨_, rfl, by rw [List.take_of_length_le (by have := HL.out; omega)] at ho; exact ho, hbel⟩
def oct8 : List Int → List Int
  | a :: b :: c :: d :: e :: f :: g :: h :: r => numL [a, b, c, d, e, f, g, h] :: oct8 r
  | _ => []
def rest8 : List Int → List Int
  | _ :: _ :: _ :: _ :: _ :: _ :: _ :: _ :: r => rest8 r
  | l => l
theorem oct8_cons {L : List Int} (h : L.length = 8) (r : List Int) : oct8 (L ++ r) = numL L :: oct8 r ∧ rest8 (L ++ r) = rest8 r := by
  match L, h with
  | [a, b, c, d, e, f, g, i], _ => exact ⟨rfl, rfl⟩
theorem oct8_small : ∀ L : List Int, L.length < 8 → oct8 L = [] ∧ rest8 L = L
  | [], _ => ⟨rfl, rfl⟩
  | [_], _ => ⟨rfl, rfl⟩
  | [_, _], _ => ⟨rfl, rfl⟩
  | [_, _, _], _ => ⟨rfl, rfl⟩
  | [_, _, _, _], _ => ⟨rfl, rfl⟩
  | [_, _, _, _, _], _ => ⟨rfl, rfl⟩
  | [_, _, _, _, _, _], _ => ⟨rfl, rfl⟩
  | [_, _, _, _, _, _, _], _ => ⟨rfl, rfl⟩
  | _ :: _ :: _ :: _ :: _ :: _ :: _ :: _ :: r, h => absurd h (by simp only [List.length_cons]; omega)
def zeroL (L : List Int) : Bool := decide (numL (rest8 L) = 0)

set_option maxRecDepth 100000 in
set_option maxHeartbeats 1000000 in
theorem r14_Octets {A n c L} {w : World} (hs : Sl w .i64 A n c L) (hbits : isBits L) (hn : n ≤ 268435456) :
    Calls Try.prog 69 #[.slice A n c] w (RetOwn (fun v => .tuple #[v, .bool (zeroL L)]) 5 .u8 (oct8 L) w) := by
  have HBits := Lib.hid hbits; clear hbits
  have HL := Lib.hid hs.len
  go_enter Try.func69, Try.ntmps69
  go_wp2
  go_loopw [4, 5] (fun v i wr => ∃ (q : Nat) (ys : List Int), 8 * q ≤ n ∧ i = .int .i64 (8 * q : Nat) ∧ Own wr w.heap.size 5 .u8 v ys ∧ ys.length ≤ q ∧ Hid (oct8 L = ys ++ oct8 (L.drop (8 * q)) ∧ rest8 L = rest8 (L.drop (8 * q))) ∧ Below w.heap.size w wr) (fun _ i _ => n - (intOf i).toNat)
  case atStart => exact ⟨0, [], by omega, rfl, Own.nil _ _ _ _, by simp, ⟨rfl, rfl⟩, Below.refl _ _⟩
  case round =>
    obtain ⟨q, ys, hq, rfl, ho3, hyl, hI, hbel3⟩ := hrel
    have hs3 := hs.bel hbel3
    have hz3 := hbel3.size
    have hle := hs3.le
    have hcm := hs3.cm
    unfold maxLen at hcm
    by_cases hlt : 8 * q + 8 ≤ n
    · obtain ⟨b, o, rfl, hb⟩ := hs3.form (by omega)
      have hne : ¬ c = 8 * q := by omega
      have hd := drop_piece L (lo := 8 * q) (hi := 8 * q + 8) (by omega)
      rw [show 8 * q + 8 = 8 * (q + 1) from by omega] at hd
      have hs4 := hs3.cutAt (lo := 8 * q) (hi := 8 * (q + 1)) (m := 8) (c' := c - 8 * q) (by omega) (by omega) (by omega) rfl
      have hb6 : isBits ((L.take (8 * (q + 1))).drop (8 * q)) := fun y hy => HBits.out y (List.mem_of_mem_take (List.mem_of_mem_drop hy))
      have hk6 := oct8_cons hs4.len (L.drop (8 * (q + 1)))
      have hl8 := hs4.len
      have hbd := num_bd hb6
      rw [hl8] at hbd
      obtain ⟨L6, hL6⟩ : ∃ L6, (L.take (8 * (q + 1))).drop (8 * q) = L6 := ⟨_, rfl⟩
      rw [hL6] at hd hs4 hb6 hk6 hbd hl8
      have HD := Lib.hid hd; have HK := Lib.hid hk6
      clear hd hk6 hL6 hl8
      obtain ⟨m6, hm6⟩ : ∃ m6, numL L6 = m6 := ⟨_, rfl⟩
      rw [hm6] at hbd
      have hbd1 : 0 ≤ m6 := hbd.1
      have hbd2 : m6 ≤ 255 := by have := hbd.2; omega
      clear hbd
      go_wp2_with (first | (go_at_call 82; refine (r14_number hs4 hb6 (by omega)).mono ?_; rintro e w' ⟨rfl, rfl⟩) | (at_builtin; refine wpList_app rfl rfl eltB (by decide) rfl rfl (ho3.alloc _) (Sl.one _ _ _ _ (wf_u8.2 (by omega))) (hbel3.alloc (by omega) _) (by refine ⟨?_, ?_⟩ <;> first | omega | (simp; done) | (simp; omega)) (by first | omega | (simp; done) | (simp; omega)) ?_; intro v1 w2 ho1 hb2 hg1))
      (first | (go_roundw; (case rel => exact ⟨q + 1, ys ++ [m6], by omega, by first | rfl | go_num, ho1, by simp; omega, by refine ⟨?_, ?_⟩; rw [hI.out.1, HD.out, HK.out.1, hm6]; simp; rw [hI.out.2, HD.out, HK.out.2], hb2⟩); (case measure => first | (simp [intOf] <;> omega) | (simp [lenOf] <;> omega))) | (refine ⟨?_, ?measure⟩; (repeat apply Exists.intro); refine ⟨?rel, ?eqs⟩; (case eqs => first | rfl | ((repeat (refine ⟨rfl, ?_⟩)); rfl)); (case rel => exact ⟨q + 1, ys ++ [m6], by omega, by first | rfl | go_num, ho1, by simp; omega, by refine ⟨?_, ?_⟩; rw [hI.out.1, HD.out, HK.out.1, hm6]; simp; rw [hI.out.2, HD.out, HK.out.2], hb2⟩); (case measure => first | (simp [intOf] <;> omega) | (simp [lenOf] <;> omega))) | ((repeat apply Exists.intro); refine ⟨?rel, ?eqs⟩; (case eqs => first | rfl | ((repeat (refine ⟨rfl, ?_⟩)); rfl)); (case rel => exact ⟨q + 1, ys ++ [m6], by omega, by first | rfl | go_num, ho1, by simp; omega, by refine ⟨?_, ?_⟩; rw [hI.out.1, HD.out, HK.out.1, hm6]; simp; rw [hI.out.2, HD.out, HK.out.2], hb2⟩)))
    · have hl : (L.drop (8 * q)).length < 8 := by have := HL.out; simp; omega
      have hsm := oct8_small _ hl
      have hI2 : oct8 L = ys ∧ rest8 L = L.drop (8 * q) := by rw [hI.out.1, hI.out.2, hsm.1, hsm.2]; simp
      have HI2 := Lib.hid hI2
      clear hI2 hsm
      by_cases hc8 : c = 8 * q
      · have hn8 : n = 8 * q := by omega
        have hd0 : L.drop (8 * q) = [] := List.drop_eq_nil_of_le (by have := HL.out; omega)
        have hs5 : Sl wr .i64 A (n - 8 * q) 0 [] := by rw [show n - 8 * q = 0 from by omega]; exact Sl.none_
        have HD0 := Lib.hid hd0; clear hd0
        have HN8 := Lib.hid hn8; clear hn8
        have hno : numL [] = 0 := rfl
        go_wp2_with (go_at_call 82; refine (r14_number hs5 (by intro x hx; cases hx) (by omega)).mono ?_; rintro e w' ⟨rfl, rfl⟩)
        go_ret2
        exact ⟨_, ret2 rfl (vbool (by simp [zeroL, HI2.out.2, HD0.out, hno])), by rw [HI2.out.1]; exact ho3, hbel3⟩
      · have hs4 := hs3.cut (lo := 8 * q) (hi := n) (m := n - 8 * q) (c' := c - 8 * q) (by omega) (by omega) (by omega) rfl
        rw [List.take_of_length_le (by have := HL.out; omega)] at hs4
        go_wp2_with (go_at_call 82; refine (r14_number hs4 (fun y hy => HBits.out y (List.mem_of_mem_drop hy)) (by omega)).mono ?_; rintro e w' ⟨rfl, rfl⟩)
        go_ret2
        exact ⟨_, ret2 rfl (vbool (by rw [zeroL, HI2.out.2]; rfl)), by rw [HI2.out.1]; exact ho3, hbel3⟩

theorem and63 (n : Int) : bits .and .i64 n 63 = n % 64 := by
  show IntKind.i64.wrap ((BitVec.ofInt 64 n &&& BitVec.ofInt 64 63).toNat : Int) = _
  rw [BitVec.toNat_and]
  have h2 : (BitVec.ofInt 64 63).toNat = 63 := by decide
  rw [h2]
  have h3 : (BitVec.ofInt 64 n).toNat &&& 63 = (BitVec.ofInt 64 n).toNat % 64 := Nat.and_two_pow_sub_one_eq_mod _ 6
  rw [h3, BitVec.toNat_ofInt, IntKind.wrap_i64]
  omega
theorem ofInt_i64 (a : Nat) (ha : a < 9223372036854775808) : (BitVec.ofInt 64 (a : Int)).toNat = a := by
  rw [BitVec.ofInt_natCast, BitVec.toNat_ofNat]; exact Nat.mod_eq_of_lt (by omega)
theorem or_low (k : Nat) (h v : Int) (hk : k ≤ 8) (h1 : 0 ≤ h) (h2 : h < 1048576) (v1 : 0 ≤ v) (v2 : v < 2 ^ k) : bits .or .i64 (h * 2 ^ k) v = h * 2 ^ k + v := by
  obtain ⟨a, rfl⟩ := Int.eq_ofNat_of_zero_le h1
  obtain ⟨b, rfl⟩ := Int.eq_ofNat_of_zero_le v1
  have hb : b < 2 ^ k := by exact_mod_cast v2
  have hp : 2 ^ k ≤ 2 ^ 8 := Nat.pow_le_pow_right (by omega) hk
  have ha : a * 2 ^ k ≤ 1048576 * 256 := Nat.mul_le_mul (by omega) hp
  have e : ((a : Int) * 2 ^ k) = ((a * 2 ^ k : Nat) : Int) := by push_cast; rfl
  rw [e]
  show IntKind.i64.wrap ((BitVec.ofInt 64 ((a * 2 ^ k : Nat) : Int) ||| BitVec.ofInt 64 (b : Int)).toNat : Int) = _
  rw [BitVec.toNat_or, ofInt_i64 _ (by omega), ofInt_i64 _ (by omega), IntKind.wrap_i64]
  have e2 : a * 2 ^ k ||| b = a * 2 ^ k + b := by
    rw [Nat.mul_comm, Nat.two_pow_add_eq_or_of_lt hb]
  rw [e2]
  omega
theorem and_low (k : Nat) (n : Int) (hk : k ≤ 8) : bits .and .i64 n (2 ^ k - 1) = n % 2 ^ k := by
  have hp : 2 ^ k ≤ 2 ^ 8 := Nat.pow_le_pow_right (by omega) hk
  have h0 : 0 < 2 ^ k := Nat.two_pow_pos k
  have e : ((2 : Int) ^ k - 1) = ((2 ^ k - 1 : Nat) : Int) := by rw [Int.ofNat_sub h0]; push_cast; rfl
  rw [e]
  show IntKind.i64.wrap ((BitVec.ofInt 64 n &&& BitVec.ofInt 64 ((2 ^ k - 1 : Nat) : Int)).toNat : Int) = _
  rw [BitVec.toNat_and, ofInt_i64 _ (by omega), Nat.and_two_pow_sub_one_eq_mod, BitVec.toNat_ofInt, IntKind.wrap_i64]
  have : k = 0 ∨ k = 1 ∨ k = 2 ∨ k = 3 ∨ k = 4 ∨ k = 5 ∨ k = 6 ∨ k = 7 ∨ k = 8 := by omega
  rcases this with h | h | h | h | h | h | h | h | h <;> subst h <;> simp <;> omega

end Go.Proofs.Ytlmkhjegckgmcaa
