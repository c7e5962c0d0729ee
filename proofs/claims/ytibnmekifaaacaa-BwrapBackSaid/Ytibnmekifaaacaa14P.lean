/- Layer 14's program (bcode): what each function returns, in the reference's words. Conditions: the arguments read as lists; lengths at most 2^24 (Lay: 3000). -/
import Derived.Test.Ytibnmekifaaacaa14D
import Derived.Test.YtibnmekifaaacaaLibC
namespace Go.Proofs.Ytibnmekifaaacaa
open Go.RowKit

theorem and63 (n : Int) : bits .and .i64 n 63 = n % 64 := by
  show IntKind.i64.wrap ((BitVec.ofInt 64 n &&& BitVec.ofInt 64 63).toNat : Int) = _
  rw [BitVec.toNat_and]
  have h2 : (BitVec.ofInt 64 63).toNat = 63 := by decide
  rw [h2]
  have h3 : (BitVec.ofInt 64 n).toNat &&& 63 = (BitVec.ofInt 64 n).toNat % 64 := Nat.and_two_pow_sub_one_eq_mod _ 6
  rw [h3, BitVec.toNat_ofInt, IntKind.wrap_i64]
  omega
def digs : ByteArray := { data := #[65, 66, 67, 68, 69, 70, 71, 72, 73, 74, 75, 76, 77, 78, 79, 80, 81, 82, 83, 84, 85, 86, 87, 88, 89, 90, 97, 98, 99, 100, 101, 102, 103, 104, 105, 106, 107, 108, 109, 110, 111, 112, 113, 114, 115, 116, 117, 118, 119, 120, 121, 122, 48, 49, 50, 51, 52, 53, 54, 55, 56, 57, 43, 47] }

theorem dig_at : ∀ k : Fin 64, ((digs[k.val]'(by have := k.isLt; show _ < 64; omega)).toNat : Int) = d64 (k.val : Int) := by decide
theorem p14_idx {s : ByteArray} {c v : Int} {w : World} (hc : (Lit.int .u8 c).wf = true) (h : idx (isB c) (strL s) 0 = v) : Calls Try.prog 48 #[.string s, .int .u8 c] w (Ret (.int .i64 v) w) := h ▸ lib_strIndexByte hc

set_option maxRecDepth 100000 in
set_option maxHeartbeats 1000000 in
theorem p14_Digit {n : Int} {w : World} : Calls Try.prog 43 #[.int .i64 n] w (Ret (.int .u8 (digL n)) w) := by
  have ha := and63 n
  obtain ⟨k, hk⟩ : ∃ k : Nat, n % 64 = (k : Int) := ⟨(n % 64).toNat, by omega⟩
  have hk2 : k < 64 := by omega
  rw [hk] at ha
  have hd : digL n = d64 k := by unfold digL; rw [hk]
  have HD := Lib.hid hd
  clear hd hk
  go_enter Try.func43, Try.ntmps43
  go_wp2
  go_ret
  exact ⟨ret_int (by rw [HD.out]; exact dig_at ⟨k, hk2⟩), rfl⟩

set_option maxRecDepth 100000 in
set_option maxHeartbeats 1000000 in
theorem p14_Value {c : Int} {w : World} (hc : (Lit.int .u8 c).wf = true) : Calls Try.prog 37 #[.int .u8 c] w (Ret (.tuple #[.int .i64 (valL c), .bool (isD c)]) w) := by
  have hi : idx (isB c) (strL digs) 0 = if isD c then valL c else -1 := by
    have := byte_all (fun c => decide (idx (isB c) (strL digs) 0 = if isD c then valL c else -1)) (by decide +kernel) (wf_u8.1 hc)
    simpa using this
  obtain ⟨hv1, hv2⟩ := val_bd c
  by_cases hd : isD c = true
  · rw [hd, if_pos rfl] at hi
    obtain ⟨y, hy⟩ : ∃ y, valL c = y := ⟨_, rfl⟩
    rw [hy] at hi hv1 hv2
    have HI := Lib.hid hi; clear hi
    have hm : max y 0 = y := by omega
    have hm2 : ¬ y < 0 := by omega
    go_enter Try.func37, Try.ntmps37
    go_wp2_with (go_at_call 48; refine (p14_idx hc HI.out).mono ?_; rintro e w' ⟨rfl, rfl⟩)
    go_ret2
    exact ⟨ret2 (vint (by omega)) (vbool (by rw [hd])), rfl⟩
  · have hd' : isD c = false := by simpa using hd
    rw [hd'] at hi
    have hi2 : idx (isB c) (strL digs) 0 = -1 := by simpa using hi
    have h0 := val_no hd'
    have HI := Lib.hid hi2; clear hi hi2
    go_enter Try.func37, Try.ntmps37
    go_wp2_with (go_at_call 48; refine (p14_idx hc HI.out).mono ?_; rintro e w' ⟨rfl, rfl⟩)
    go_ret2
    exact ⟨ret2 (vint h0.symm) (vbool (by rw [hd'])), rfl⟩

set_option maxRecDepth 100000 in
set_option maxHeartbeats 1000000 in
theorem p14_Len {n : Int} {w : World} (hn : n ≤ 1152921504606846976) : Calls Try.prog 23 #[.int .i64 n] w (Ret (.int .i64 (lenL n)) w) := by
  by_cases h0 : n < 1
  · go_enter Try.func23, Try.ntmps23
    go_wp2
    go_ret
    exact ⟨ret_int (by simp [lenL, h0]), rfl⟩
  · go_enter Try.func23, Try.ntmps23
    go_wp2
    go_ret
    exact ⟨ret_int (by unfold lenL; rw [if_neg (by omega)]), rfl⟩

/-- returns the beginning of the slice that came in -/
def RetA (A : Option Addr) (n c : Nat) (k : IntKind) (ys : List Int) (w : World) (e : Ending) (w' : World) : Prop := ∃ m, e = .returned (.slice A m c) ∧ m ≤ n ∧ Sl w k A m c ys ∧ Below w.heap.size w w'
theorem strip1_pre (l : List Int) : strip1 l = l.take (strip1 l).length := by
  unfold strip1; split
  · rw [List.dropLast_eq_take, List.length_take, Nat.min_eq_left (by omega)]
  · rw [List.take_length]
theorem strip1_tk (xs : List Int) (m : Nat) : strip1 (xs.take m) = xs.take (strip1 (xs.take m)).length := by
  have h6 := strip1_pre (xs.take m)
  have h7 := strip1_le (xs.take m)
  generalize strip1 (xs.take m) = L at *
  rw [List.take_take, Nat.min_eq_left (by simp at h7; omega)] at h6
  exact h6
theorem trim_61 (xs : List Int) : trimL xs [61] = strip1 xs := by
  have h := strip1_take (xs := xs) (n := xs.length) (Nat.le_refl _)
  rw [List.take_length] at h
  rw [h]
  have e2 : endsWith xs [61] = decide (0 < xs.length ∧ xs.getD (xs.length - 1) 0 = 61) := by
    unfold endsWith likeL
    rcases Nat.eq_zero_or_pos xs.length with h0 | h0
    · have : xs = [] := List.eq_nil_of_length_eq_zero h0
      subst this; rfl
    · have e : xs.drop (xs.length - 1) = [xs.getD (xs.length - 1) 0] := by
        have := drop_getD xs (xs.length - 1) (by omega)
        rw [this, List.drop_eq_nil_of_le (by omega)]
      simp only [List.length_cons, List.length_nil, Nat.zero_add, e]
      have h1 : 1 ≤ xs.length := h0
      rw [Bool.eq_iff_iff]
      simp only [Bool.and_eq_true, decide_eq_true_iff, List.cons.injEq, and_true]
      exact ⟨fun h => ⟨h0, h.2⟩, fun h => ⟨h1, h.2⟩⟩
  unfold trimL
  rw [e2]
  by_cases hc : 0 < xs.length ∧ xs.getD (xs.length - 1) 0 = 61
  · rw [if_pos hc, if_pos (by simpa using hc)]; rfl
  · rw [if_neg hc, if_neg (by simpa using hc)]

theorem ofInt_i64 (a : Nat) (ha : a < 9223372036854775808) : (BitVec.ofInt 64 (a : Int)).toNat = a := by
  rw [BitVec.ofInt_natCast, BitVec.toNat_ofNat]; exact Nat.mod_eq_of_lt (by omega)
theorem or_low (k : Nat) (h v : Int) (hk : k ≤ 8) (h1 : 0 ≤ h) (h2 : h < 1048576) (v1 : 0 ≤ v) (v2 : v < 2 ^ k) : bits .or .i64 (h * 2 ^ k) v = h * 2 ^ k + v := by
  obtain ⟨a, rfl⟩ := Int.eq_ofNat_of_zero_le h1
  obtain ⟨b, rfl⟩ := Int.eq_ofNat_of_zero_le v1
  have hb : b < 2 ^ k := by exact_mod_cast v2
  have hp : 2 ^ k ≤ 2 ^ 8 := Nat.pow_le_pow_right (by omega) hk
  have ha : a * 2 ^ k ≤ 1048576 * 256 := Nat.mul_le_mul (by omega) hp
  have e : ((a : Int) * 2 ^ k) = ((a * 2 ^ k : Nat) : Int) := by push_cast; rfl
  rw [e]
  show IntKind.i64.wrap ((BitVec.ofInt 64 ((a * 2 ^ k : Nat) : Int) ||| BitVec.ofInt 64 (b : Int)).toNat : Int) = _
  rw [BitVec.toNat_or, ofInt_i64 _ (by omega), ofInt_i64 _ (by omega), IntKind.wrap_i64]
  have e2 : a * 2 ^ k ||| b = a * 2 ^ k + b := by
    rw [Nat.mul_comm, Nat.two_pow_add_eq_or_of_lt hb]
  rw [e2]
  omega
theorem and_low (k : Nat) (n : Int) (hk : k ≤ 8) : bits .and .i64 n (2 ^ k - 1) = n % 2 ^ k := by
  have hp : 2 ^ k ≤ 2 ^ 8 := Nat.pow_le_pow_right (by omega) hk
  have h0 : 0 < 2 ^ k := Nat.two_pow_pos k
  have e : ((2 : Int) ^ k - 1) = ((2 ^ k - 1 : Nat) : Int) := by rw [Int.ofNat_sub h0]; push_cast; rfl
  rw [e]
  show IntKind.i64.wrap ((BitVec.ofInt 64 n &&& BitVec.ofInt 64 ((2 ^ k - 1 : Nat) : Int)).toNat : Int) = _
  rw [BitVec.toNat_and, ofInt_i64 _ (by omega), Nat.and_two_pow_sub_one_eq_mod, BitVec.toNat_ofInt, IntKind.wrap_i64]
  have : k = 0 ∨ k = 1 ∨ k = 2 ∨ k = 3 ∨ k = 4 ∨ k = 5 ∨ k = 6 ∨ k = 7 ∨ k = 8 := by omega
  rcases this with h | h | h | h | h | h | h | h | h <;> subst h <;> simp <;> omega

set_option maxRecDepth 100000 in
set_option maxHeartbeats 1000000 in
theorem p14_body {A n c xs} {w : World} (hs : Sl w .u8 A n c xs) : Calls Try.prog 36 #[.slice A n c] w (RetA A n c .u8 (bodyL xs) w) := by
  go_enter Try.func36, Try.ntmps36
  go_wp2
  go_loopw [0, 3] (fun v i wr => ∃ (K m : Nat) (ys : List Int), K ≤ 2 ∧ m ≤ n ∧ i = .int .i64 K ∧ v = .slice A m c ∧ Hid (ys = xs.take m) ∧ Hid (bodyL xs = (if K = 0 then strip1 (strip1 ys) else if K = 1 then strip1 ys else ys)) ∧ Below w.heap.size w wr) (fun _ i _ => (2 - intOf i).toNat)
  case atStart => exact ⟨0, n, xs, by omega, Nat.le_refl _, rfl, rfl, by show _ = _; rw [List.take_of_length_le (by have := hs.len; omega)], rfl, Below.refl _ _⟩
  case round =>
    obtain ⟨K, m, ys, hK, hm, rfl, rfl, hP, hI, hbel⟩ := hrel
    have hz := hbel.size
    have hs0 := hs.take_ hm
    rw [← hP.out] at hs0
    have hs2 := hs0.bel hbel
    by_cases hk2 : K < 2
    · go_wp2_with (go_at_call 47; refine (lib_TrimSuffix (hs2.alloc _) (Sl.one _ _ _ _ (by decide))).mono ?_; rintro e w1 ⟨m1, rfl, hm1, hs3, rfl⟩)
      rw [trim_61] at hs3
      (go_roundw; (case rel => exact ⟨K + 1, m1, strip1 ys, by omega, by omega, by go_num, rfl, by
        show _ = _
        have h6 := strip1_tk xs m
        rw [← hP.out] at h6
        rw [← hs3.len]; exact h6, by
        show _ = _
        rw [hI.out]
        have h2 : K = 0 ∨ K = 1 := by omega
        rcases h2 with h2 | h2 <;> subst h2 <;> rfl, hbel.alloc hz _⟩); (case measure => first | (simp [intOf] <;> omega) | (simp [lenOf] <;> omega)))
    · obtain rfl : K = 2 := by omega
      have e : bodyL xs = ys := hI.out
      have HE := Lib.hid e; clear e hI
      go_wp2
      go_ret
      exact ⟨m, rfl, hm, by rw [HE.out]; exact hs0, hbel⟩

/-- Base64 as the program reads it: what is held, and how many bits -/
def readS : List Int → Int → Int → List Int × Int × Int
  | [], h, m => ([], h, m)
  | c :: r, h, m =>
    if m = 0 then readS r (valL c) 6
    else if m = 2 then let x := h * 64 + valL c; let q := readS r 0 0; (x :: q.1, q.2)
    else if m = 4 then let x := h * 64 + valL c; let q := readS r (x % 4) 2; (x / 4 :: q.1, q.2)
    else let x := h * 64 + valL c; let q := readS r (x % 16) 4; (x / 16 :: q.1, q.2)

theorem six_parts {x : Int} (h : 0 ≤ x ∧ x < 64) :
    32 * (x / 32 % 2) + 16 * (x / 16 % 2) + 8 * (x / 8 % 2) + 4 * (x / 4 % 2) + 2 * (x / 2 % 2) + x % 2 = x ∧ 2 * (x / 32 % 2) + x / 16 % 2 = x / 16 ∧ 8 * (x / 8 % 2) + 4 * (x / 4 % 2) + 2 * (x / 2 % 2) + x % 2 = x % 16 ∧
    8 * (x / 32 % 2) + 4 * (x / 16 % 2) + 2 * (x / 8 % 2) + x / 4 % 2 = x / 4 ∧ 2 * (x / 2 % 2) + x % 2 = x % 4 := by
  have := byte_all (fun x => decide (64 ≤ x ∨ (32 * (x / 32 % 2) + 16 * (x / 16 % 2) + 8 * (x / 8 % 2) + 4 * (x / 4 % 2) + 2 * (x / 2 % 2) + x % 2 = x ∧ 2 * (x / 32 % 2) + x / 16 % 2 = x / 16 ∧ 8 * (x / 8 % 2) + 4 * (x / 4 % 2) + 2 * (x / 2 % 2) + x % 2 = x % 16 ∧
    8 * (x / 32 % 2) + 4 * (x / 16 % 2) + 2 * (x / 8 % 2) + x / 4 % 2 = x / 4 ∧ 2 * (x / 2 % 2) + x % 2 = x % 4))) (by decide +kernel) (x := x) (by omega)
  rcases of_decide_eq_true this with h1 | h1
  · omega
  · exact h1
theorem oct_four {a b c d : Int} (ha : 0 ≤ a ∧ a < 64) (hb : 0 ≤ b ∧ b < 64) (hc : 0 ≤ c ∧ c < 64) (hd : 0 ≤ d ∧ d < 64) (r : List Int) :
    oct8 (sixBits a ++ (sixBits b ++ (sixBits c ++ (sixBits d ++ r)))) = (a * 4 + b / 16) :: (b % 16 * 16 + c / 4) :: (c % 4 * 64 + d) :: oct8 r ∧ rest8 (sixBits a ++ (sixBits b ++ (sixBits c ++ (sixBits d ++ r)))) = rest8 r := by
  obtain ⟨p1, p2, p3, p4, p5⟩ := six_parts ha
  obtain ⟨q1, q2, q3, q4, q5⟩ := six_parts hb
  obtain ⟨r1, r2, r3, r4, r5⟩ := six_parts hc
  obtain ⟨s1, s2, s3, s4, s5⟩ := six_parts hd
  refine ⟨?_, rfl⟩
  simp only [sixBits, List.cons_append, List.nil_append, oct8, numL, List.foldl_cons, List.foldl_nil]
  refine cons3 ?_ ?_ ?_ <;> omega
theorem readS_eq : ∀ L : List Int, (readS L 0 0).1 = oct8 (sixesL L) ∧ (readS L 0 0).2.1 = numL (rest8 (sixesL L))
  | [] => ⟨rfl, rfl⟩
  | [a] => by
    obtain ⟨p1, _⟩ := six_parts (val_bd a)
    have e : numL (rest8 (sixesL [a])) = valL a := by
      simp only [sixesL, List.flatMap_cons, List.flatMap_nil, List.append_nil, sixBits, rest8, numL, List.foldl_cons, List.foldl_nil]; omega
    exact ⟨rfl, e.symm⟩
  | [a, b] => by
    obtain ⟨p1, p2, p3, p4, p5⟩ := six_parts (val_bd a)
    obtain ⟨q1, q2, q3, q4, q5⟩ := six_parts (val_bd b)
    simp only [sixesL, List.flatMap_cons, List.flatMap_nil, List.append_nil, sixBits, rest8, oct8, numL, List.foldl_cons, List.foldl_nil, List.cons_append, List.nil_append, readS]
    simp
    omega
  | [a, b, c] => by
    obtain ⟨p1, p2, p3, p4, p5⟩ := six_parts (val_bd a)
    obtain ⟨q1, q2, q3, q4, q5⟩ := six_parts (val_bd b)
    obtain ⟨r1, r2, r3, r4, r5⟩ := six_parts (val_bd c)
    simp only [sixesL, List.flatMap_cons, List.flatMap_nil, List.append_nil, sixBits, rest8, oct8, numL, List.foldl_cons, List.foldl_nil, List.cons_append, List.nil_append, readS]
    simp
    omega
  | a :: b :: c :: d :: r => by
    obtain ⟨h1, h2⟩ := readS_eq r
    have e : sixesL (a :: b :: c :: d :: r) = sixBits (valL a) ++ (sixBits (valL b) ++ (sixBits (valL c) ++ (sixBits (valL d) ++ sixesL r))) := by
      simp only [sixesL, List.flatMap_cons]
    obtain ⟨o1, o2⟩ := oct_four (val_bd a) (val_bd b) (val_bd c) (val_bd d) (sixesL r)
    rw [e, o1, o2, ← h1, ← h2]
    have ha := val_bd a
    have hb := val_bd b
    have hc := val_bd c
    have hd := val_bd d
    have e2 : readS (a :: b :: c :: d :: r) 0 0 = ((valL a * 64 + valL b) / 16 :: ((valL a * 64 + valL b) % 16 * 64 + valL c) / 4 :: (((valL a * 64 + valL b) % 16 * 64 + valL c) % 4 * 64 + valL d) :: (readS r 0 0).1, (readS r 0 0).2) := by
      simp [readS]
    rw [e2]
    exact ⟨cons3 (by omega) (by omega) (by omega), rfl⟩

set_option maxRecDepth 100000 in
set_option maxHeartbeats 1000000 in
theorem p14_Read {A n c xs} {w : World} (hs : Sl w .u8 A n c xs) (hn : n ≤ 16777216) :
    Calls Try.prog 27 #[.slice A n c] w (RetOwn (fun v => .tuple #[v, .int .i64 (errB xs)]) 5 .u8 (octB xs) w) := by
  have HL := Lib.hid hs.len
  go_enter Try.func27, Try.ntmps27
  go_wp2_with fail
  refine (p14_body hs).mono ?_
  rintro e w1 ⟨m, rfl, hm, hs1, hb1⟩
  have hz1 := hb1.size
  have HL1 := Lib.hid hs1.len
  go_wp2
  go_loopw [4, 5, 6, 14] (fun v hd mn i wr => ∃ (k : Nat) (ys : List Int) (h q : Int), k ≤ m ∧ i = .int .i64 k ∧ hd = .int .i64 h ∧ mn = .int .i64 q ∧ ((q = 0 ∧ h = 0) ∨ (q = 2 ∧ 0 ≤ h ∧ h < 4) ∨ (q = 4 ∧ 0 ≤ h ∧ h < 16) ∨ (q = 6 ∧ 0 ≤ h ∧ h < 64)) ∧
      Own wr w.heap.size 5 .u8 v ys ∧ ys.length ≤ k ∧ Hid ((∀ x ∈ (bodyL xs).take k, isD x = true) ∧ (readS (bodyL xs) 0 0).1 = ys ++ (readS ((bodyL xs).drop k) h q).1 ∧ (readS (bodyL xs) 0 0).2 = (readS ((bodyL xs).drop k) h q).2) ∧ Below w.heap.size w wr) (fun _ _ _ i _ => m - (intOf i).toNat)
  case atStart => exact ⟨0, [], 0, 0, Nat.zero_le _, rfl, rfl, rfl, .inl ⟨rfl, rfl⟩, Own.nil _ _ _ _, by simp, ⟨by simp, rfl, rfl⟩, hb1⟩
  case round =>
    obtain ⟨k, ys, h, q, hk, rfl, rfl, rfl, hq, ho, hyl, hI, hbel⟩ := hrel
    have hz := hbel.size
    by_cases hlt : k < m
    · obtain ⟨b, o, x, rfl, hb, hcell0, hwf, hd, ht⟩ := hs1.get hlt
      have hcell := (hbel.cell (p := ⟨b, o + k, none⟩) hb).trans hcell0
      clear hcell0
      have HD := Lib.hid hd; have HT := Lib.hid ht
      clear hd ht
      have hv := val_bd x
      obtain ⟨y, hy⟩ : ∃ y, valL x = y := ⟨_, rfl⟩
      rw [hy] at hv
      obtain ⟨hv1, hv2⟩ := hv
      have HY := Lib.hid hy
      by_cases hxd : isD x = true
      · have HX := Lib.hid hxd
        have hor := or_low 6 h y (by omega) (by omega) (by omega) hv1 (by omega)
        rw [show (2 : Int) ^ 6 = 64 from rfl] at hor
        rcases hq with ⟨rfl, rfl⟩ | ⟨rfl, hh⟩ | ⟨rfl, hh⟩ | ⟨rfl, hh⟩
        · have h0r : bits .or .i64 0 y = y := by simpa using hor
          go_wp2_with (go_at_call 37; refine (p14_Value hwf).mono ?_; rintro e w' ⟨rfl, rfl⟩)
          (go_roundw; (case rel => exact ⟨k + 1, ys, y, 6, by omega, by go_num, by first | rfl | go_num, rfl, .inr (.inr (.inr ⟨rfl, hv1, hv2⟩)), ho, by omega, by
            refine ⟨?_, ?_, ?_⟩
            · rw [HT.out]; intro z1 hz1; rcases List.mem_append.1 hz1 with h5 | h5; exact hI.out.1 z1 h5; simp at h5; subst h5; exact HX.out
            · rw [hI.out.2.1, HD.out]; simp [readS, HY.out]
            · rw [hI.out.2.2, HD.out]; simp [readS, HY.out], hbel⟩); (case measure => first | (simp [intOf] <;> omega) | (simp [lenOf] <;> omega)))
        · obtain ⟨z, hze⟩ : ∃ z, h * 64 + y = z := ⟨_, rfl⟩
          rw [hze] at hor
          have hz0 : 0 ≤ z := by omega
          have hz1 : z < 256 := by omega
          have hand : bits .and .i64 z 0 = 0 := by have := and_low 0 z (by omega); simpa using this
          have HZ := Lib.hid hze; clear hze
          go_wp2_with (first | (go_at_call 37; refine (p14_Value hwf).mono ?_; rintro e w' ⟨rfl, rfl⟩) | (at_builtin; refine wpList_app rfl rfl eltB (by decide) rfl rfl (ho.alloc _) (Sl.one _ _ _ _ (wf_u8.2 (by omega))) (hbel.alloc (by omega) _) (by refine ⟨?_, ?_⟩ <;> first | omega | (simp; done) | (simp; omega)) (by first | omega | (simp; done) | (simp; omega)) ?_; intro v1 w2 ho1 hb2 hg1))
          (go_roundw; (case rel => exact ⟨k + 1, ys ++ [z], 0, 0, by omega, by go_num, by first | rfl | go_num, rfl, .inl ⟨rfl, rfl⟩, ho1, by simp; omega, by
            refine ⟨?_, ?_, ?_⟩
            · rw [HT.out]; intro z1 hz1; rcases List.mem_append.1 hz1 with h5 | h5; exact hI.out.1 z1 h5; simp at h5; subst h5; exact HX.out
            · rw [hI.out.2.1, HD.out]; simp [readS, HY.out, HZ.out]
            · rw [hI.out.2.2, HD.out]; simp [readS, HY.out, HZ.out], hb2⟩); (case measure => first | (simp [intOf] <;> omega) | (simp [lenOf] <;> omega)))
        · obtain ⟨z, hze⟩ : ∃ z, h * 64 + y = z := ⟨_, rfl⟩
          rw [hze] at hor
          have hz0 : 0 ≤ z := by omega
          have hz1 : z < 1024 := by omega
          have hand : bits .and .i64 z 3 = z % 4 := by have := and_low 2 z (by omega); simpa using this
          have HZ := Lib.hid hze; clear hze
          go_wp2_with (first | (go_at_call 37; refine (p14_Value hwf).mono ?_; rintro e w' ⟨rfl, rfl⟩) | (at_builtin; refine wpList_app rfl rfl eltB (by decide) rfl rfl (ho.alloc _) (Sl.one _ _ _ _ (wf_u8.2 (by omega))) (hbel.alloc (by omega) _) (by refine ⟨?_, ?_⟩ <;> first | omega | (simp; done) | (simp; omega)) (by first | omega | (simp; done) | (simp; omega)) ?_; intro v1 w2 ho1 hb2 hg1))
          (go_roundw; (case rel => exact ⟨k + 1, ys ++ [z / 4], (z % 4), 2, by omega, by go_num, by first | rfl | go_num, rfl, .inr (.inl ⟨rfl, by omega, by omega⟩), ho1, by simp; omega, by
            refine ⟨?_, ?_, ?_⟩
            · rw [HT.out]; intro z1 hz1; rcases List.mem_append.1 hz1 with h5 | h5; exact hI.out.1 z1 h5; simp at h5; subst h5; exact HX.out
            · rw [hI.out.2.1, HD.out]; simp [readS, HY.out, HZ.out]
            · rw [hI.out.2.2, HD.out]; simp [readS, HY.out, HZ.out], hb2⟩); (case measure => first | (simp [intOf] <;> omega) | (simp [lenOf] <;> omega)))
        · obtain ⟨z, hze⟩ : ∃ z, h * 64 + y = z := ⟨_, rfl⟩
          rw [hze] at hor
          have hz0 : 0 ≤ z := by omega
          have hz1 : z < 4096 := by omega
          have hand : bits .and .i64 z 15 = z % 16 := by have := and_low 4 z (by omega); simpa using this
          have HZ := Lib.hid hze; clear hze
          go_wp2_with (first | (go_at_call 37; refine (p14_Value hwf).mono ?_; rintro e w' ⟨rfl, rfl⟩) | (at_builtin; refine wpList_app rfl rfl eltB (by decide) rfl rfl (ho.alloc _) (Sl.one _ _ _ _ (wf_u8.2 (by omega))) (hbel.alloc (by omega) _) (by refine ⟨?_, ?_⟩ <;> first | omega | (simp; done) | (simp; omega)) (by first | omega | (simp; done) | (simp; omega)) ?_; intro v1 w2 ho1 hb2 hg1))
          (go_roundw; (case rel => exact ⟨k + 1, ys ++ [z / 16], (z % 16), 4, by omega, by go_num, by first | rfl | go_num, rfl, .inr (.inr (.inl ⟨rfl, by omega, by omega⟩)), ho1, by simp; omega, by
            refine ⟨?_, ?_, ?_⟩
            · rw [HT.out]; intro z1 hz1; rcases List.mem_append.1 hz1 with h5 | h5; exact hI.out.1 z1 h5; simp at h5; subst h5; exact HX.out
            · rw [hI.out.2.1, HD.out]; simp [readS, HY.out, HZ.out]
            · rw [hI.out.2.2, HD.out]; simp [readS, HY.out, HZ.out], hb2⟩); (case measure => first | (simp [intOf] <;> omega) | (simp [lenOf] <;> omega)))
      · have hxd' : isD x = false := by simpa using hxd
        have hno : allD (bodyL xs) = false := by rw [allD, all_cons_drop hI.out.1, HD.out]; simp [hxd']
        have he : errB xs = 3 := by unfold errB; rw [if_pos hno]
        have HE := Lib.hid he
        clear he hno
        go_wp2_with (go_at_call 37; refine (p14_Value hwf).mono ?_; rintro e w' ⟨rfl, rfl⟩)
        go_ret2
        exact ⟨.slice none 0 0, ret2 rfl (vint HE.out.symm), by unfold octB; rw [HE.out]; exact Own.nil _ _ _ _, hbel⟩
    · obtain rfl : k = m := by omega
      have hn0 : (bodyL xs).drop k = [] := List.drop_eq_nil_of_le (by have := HL1.out; omega)
      have hall : allD (bodyL xs) = true := by rw [allD, all_cons_drop hI.out.1, hn0]; rfl
      obtain ⟨e1, e2⟩ := readS_eq (bodyL xs)
      have e3 : oct8 (sixB xs) = ys := by unfold sixB; rw [← e1, hI.out.2.1, hn0]; simp [readS]
      have e4 : numL (rest8 (sixB xs)) = h := by unfold sixB; rw [← e2, hI.out.2.2, hn0]; simp [readS]
      have hzero : zeroL (sixB xs) = decide (h = 0) := by unfold zeroL; rw [e4]
      have HA := Lib.hid hall; have H3 := Lib.hid e3; have HZ := Lib.hid hzero
      clear hall e1 e2 e3 e4 hzero hn0 hI
      by_cases h4 : n % 4 = 0
      · have h4' : ((n : Int) % 4 != 0) = false := by simp; omega
        have h4b := HL.out
        by_cases hh0 : h = 0
        · have he : errB xs = 0 := by unfold errB; rw [HA.out, HZ.out, h4b, h4, hh0]; rfl
          have HE := Lib.hid he
          have hh0' : (h != 0) = false := by simpa using hh0
          clear he h4 h4b hh0
          go_wp2
          go_ret2
          exact ⟨_, ret2 rfl (vint HE.out.symm), by unfold octB; rw [if_pos HE.out, H3.out]; exact ho, hbel⟩
        · have he : errB xs = 3 := by unfold errB; rw [HA.out, HZ.out, h4b, h4, decide_eq_false hh0]; rfl
          have HE := Lib.hid he
          have hh0' : (h != 0) = true := by simpa using hh0
          clear he h4 h4b hh0
          go_wp2
          go_ret2
          exact ⟨.slice none 0 0, ret2 rfl (vint HE.out.symm), by unfold octB; rw [HE.out]; exact Own.nil _ _ _ _, hbel⟩
      · have h4' : ((n : Int) % 4 != 0) = true := by simp; omega
        have he : errB xs = 4 := by unfold errB; have h6 := HL.out; rw [HA.out, h6, if_neg (by simp), if_pos h4]
        have HE := Lib.hid he
        clear he h4
        go_wp2
        go_ret2
        exact ⟨.slice none 0 0, ret2 rfl (vint HE.out.symm), by unfold octB; rw [HE.out]; exact Own.nil _ _ _ _, hbel⟩

end Go.Proofs.Ytibnmekifaaacaa
