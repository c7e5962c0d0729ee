/- Layer 14's reference: Lay, Values, Octets, Read. Conditions: the arguments read as lists; lengths at most 2^24. -/
import Derived.Test.Ytibnmekifaaacaa14C
namespace Go.Proofs.Ytibnmekifaaacaa
open Go.RowKit

def padEq (l : List Int) : List Int := l ++ List.replicate ((4 - l.length % 4) % 4) 61
def layL (xs : List Int) : List Int := padEq (bare3 xs)
theorem bare3_length : ∀ xs : List Int, (bare3 xs).length = xs.length / 3 * 4 + (if xs.length % 3 = 0 then 0 else xs.length % 3 + 1)
  | [] => rfl
  | [a] => by simp [bare3]
  | [a, b] => by simp [bare3]
  | a :: b :: c :: r => by
    have e1 : (r.length + 1 + 1 + 1) / 3 = r.length / 3 + 1 := by omega
    have e2 : (r.length + 1 + 1 + 1) % 3 = r.length % 3 := by omega
    simp only [bare3, List.length_cons, e1, e2, bare3_length r]
    omega
theorem bare3_le (xs : List Int) : (bare3 xs).length ≤ 2 * xs.length := by rw [bare3_length]; split <;> omega

set_option maxRecDepth 100000 in
set_option maxHeartbeats 1000000 in
theorem r14_Lay {A n c xs} {w : World} (hs : Sl w .u8 A n c xs) (hn : n ≤ 16777216) :
    Calls Try.prog 24 #[.slice A n c] w (RetOwn id 5 .u8 (layL xs) w) := by
  go_enter Try.func24, Try.ntmps24
  go_wp2_with fail
  refine (r14_Bare hs hn).mono ?_
  rintro e w1 ⟨v, rfl, ho, hb1⟩
  have hz1 := hb1.size
  have HL := Lib.hid hs.len
  obtain ⟨B, hB⟩ : ∃ B, B = (bare3 xs).length := ⟨_, rfl⟩
  have HB := Lib.hid hB
  have hle : B ≤ 33554432 := by rw [hB]; have := bare3_le xs; have := HL.out; omega
  clear hB
  go_wp2
  go_loopw [3] (fun v wr => ∃ (j : Nat) (A1 : Option Addr) (n1 c1 : Nat), j ≤ (4 - B % 4) % 4 ∧ n1 = B + j ∧ v = .slice A1 n1 c1 ∧ Own wr w.heap.size 5 .u8 v (bare3 xs ++ List.replicate j 61) ∧ Below w.heap.size w wr) (fun v _ => (4 - lenOf v % 4) % 4)
  case atStart =>
    obtain ⟨A1, n1, c1, rfl, hs1⟩ := ho.sl
    exact ⟨0, A1, n1, c1, by omega, by have := hs1.len; have := HB.out; omega, rfl, by simpa using ho, hb1⟩
  case round =>
    obtain ⟨j, A1, n1, c1, hj, hn1, rfl, ho2, hbel⟩ := hrel
    have hz := hbel.size
    have HN1 := Lib.hid hn1
    by_cases hm : n1 % 4 = 0
    · have hm' : ((n1 : Int) % 4 != 0) = false := by simp; omega
      have HM := Lib.hid hm; clear hm
      clear hn1
      go_wp2
      go_ret
      exact ⟨_, rfl, by
        have h1 := HM.out; have h2 := HN1.out; have h3 := HB.out
        unfold layL padEq
        rw [show (4 - (bare3 xs).length % 4) % 4 = j from by omega]; exact ho2, hbel⟩
    · have hm' : ((n1 : Int) % 4 != 0) = true := by simp; omega
      have hl : (bare3 xs ++ List.replicate j 61).length ≤ 33554440 := by simp; have := HB.out; omega
      have HM := Lib.hid hm; clear hm
      clear hn1
      go_wp2_with (at_builtin; refine wpList_app rfl rfl eltB (by decide) rfl rfl (ho2.alloc _) (Sl.one _ _ _ _ (by decide)) (hbel.alloc (by omega) _) (by refine ⟨?_, ?_⟩ <;> first | omega | (simp; done) | (simp; omega)) (by first | omega | (simp; done) | (simp; omega)) ?_; intro v1 w2 ho1 hb2 hg1)
      obtain ⟨A2, n2, c2, rfl, hs2⟩ := ho1.sl
      have hn2 : n2 = n1 + 1 := by have h1 := hs2.len; have h2 := HN1.out; have h3 := HB.out; simp only [List.length_append, List.length_replicate, List.length_cons, List.length_nil] at h1; omega
      have hM := HM.out
      have hN1 := HN1.out
      (first | (go_roundw; (case rel => exact ⟨j + 1, A2, n2, c2, by omega, by omega, rfl, by rw [List.append_assoc] at ho1; rw [List.replicate_succ']; exact ho1, hb2⟩); (case measure => first | (simp [intOf] <;> omega) | (simp [lenOf] <;> omega))) | (refine ⟨?_, ?measure⟩; (repeat apply Exists.intro); refine ⟨?rel, ?eqs⟩; (case eqs => first | rfl | ((repeat (refine ⟨rfl, ?_⟩)); rfl)); (case rel => exact ⟨j + 1, A2, n2, c2, by omega, by omega, rfl, by rw [List.append_assoc] at ho1; rw [List.replicate_succ']; exact ho1, hb2⟩); (case measure => first | (simp [intOf] <;> omega) | (simp [lenOf] <;> omega))) | ((repeat apply Exists.intro); refine ⟨?rel, ?eqs⟩; (case eqs => first | rfl | ((repeat (refine ⟨rfl, ?_⟩)); rfl)); (case rel => exact ⟨j + 1, A2, n2, c2, by omega, by omega, rfl, by rw [List.append_assoc] at ho1; rw [List.replicate_succ']; exact ho1, hb2⟩)))

/-- the bits of digits -/
def sixesL (xs : List Int) : List Int := xs.flatMap fun c => sixBits (valL c)
def allD (xs : List Int) : Bool := xs.all isD
def valuesL (xs : List Int) : List Int := if allD xs then sixesL xs else []
theorem sixesL_length (xs : List Int) : (sixesL xs).length = 6 * xs.length := by
  induction xs with
  | nil => rfl
  | cons x r ih => simp only [sixesL, List.flatMap_cons, List.length_append, List.length_cons] at ih ⊢; rw [ih]; simp [sixBits]; omega
theorem all_cons_drop {p : Int → Bool} {xs : List Int} {k : Nat} (h : ∀ x ∈ xs.take k, p x = true) : xs.all p = (xs.drop k).all p := by
  rw [← List.take_append_drop k xs, List.all_append, List.all_eq_true.2 h, Bool.true_and]; simp

set_option maxRecDepth 100000 in
set_option maxHeartbeats 1000000 in
theorem r14_Values {A n c xs} {w : World} (hs : Sl w .u8 A n c xs) (hn : n ≤ 16777216) :
    Calls Try.prog 28 #[.slice A n c] w (RetOwn (fun v => .tuple #[v, .bool (allD xs)]) 3 .i64 (valuesL xs) w) := by
  have HL := Lib.hid hs.len
  go_enter Try.func28, Try.ntmps28
  go_wp2
  go_loopw [4, 5] (fun v i wr => ∃ k : Nat, k ≤ n ∧ i = .int .i64 k ∧ Hid (∀ x ∈ xs.take k, isD x = true) ∧ Own wr w.heap.size 3 .i64 v (sixesL (xs.take k)) ∧ Below w.heap.size w wr) (fun _ i _ => n - (intOf i).toNat)
  case atStart => exact ⟨0, Nat.zero_le _, rfl, by show ∀ x ∈ xs.take 0, _; simp, Own.nil _ _ _ _, Below.refl _ _⟩
  case round =>
    obtain ⟨k, hk, rfl, hA, ho, hbel⟩ := hrel
    have hz := hbel.size
    have hs' := hs.bel hbel
    by_cases hlt : k < n
    · obtain ⟨b, o, x, rfl, hb, hcell, hwf, hd, ht⟩ := hs'.get hlt
      have hk1 : sixesL (xs.take (k + 1)) = sixesL (xs.take k) ++ sixBits (valL x) := by rw [ht]; simp [sixesL]
      have HK := Lib.hid hk1; have HT := Lib.hid ht; have HD := Lib.hid hd
      clear hk1 ht hd
      have hlen : (sixesL (xs.take k)).length ≤ 134217728 := by rw [sixesL_length]; simp; omega
      obtain ⟨hv1, hv2⟩ := val_bd x
      obtain ⟨wo, rfl⟩ : ∃ wo : World, wo = wr := ⟨_, rfl⟩
      by_cases hx : isD x = true
      · have HX := Lib.hid hx
        obtain ⟨y, hy⟩ : ∃ y, valL x = y := ⟨_, rfl⟩
        rw [hy] at hv1 hv2
        go_wp2_with (go_at_call 38; refine r14_Value.mono ?_; rintro e w' ⟨rfl, rfl⟩)
        go_loopw [4, 8] (fun v i wr => ∃ j : Nat, j ≤ 6 ∧ i = .int .i64 (5 - (j : Int)) ∧ Own wr w.heap.size 3 .i64 v (sixesL (xs.take k) ++ (sixBits y).take j) ∧ Below w.heap.size w wr) (fun _ i _ => (intOf i + 1).toNat)
        case atStart => exact ⟨0, Nat.zero_le _, rfl, by simpa using ho, hbel⟩
        case round =>
          obtain ⟨j, hj, rfl, ho2, hbel2⟩ := hrel
          have hz2 := hbel2.size
          by_cases hlt2 : j < 6
          · have hl2 : (sixesL (xs.take k) ++ (sixBits y).take j).length ≤ 134217736 := by simp; omega
            have : j = 0 ∨ j = 1 ∨ j = 2 ∨ j = 3 ∨ j = 4 ∨ j = 5 := by omega
            obtain ⟨jj, hjj⟩ : ∃ jj, jj = j := ⟨_, rfl⟩
            have HJ := Lib.hid hjj; clear hjj
            rcases this with h | h | h | h | h | h <;> subst h
            all_goals
              go_wp2_with (at_builtin; refine wpList_app rfl rfl eltI (by decide) rfl rfl (ho2.alloc _) (Sl.one _ _ _ _ (wf_i64.2 (by omega))) (hbel2.alloc (by omega) _) (by refine ⟨?_, ?_⟩ <;> first | omega | (simp; done) | (simp; omega)) (by first | omega | (simp; done) | (simp; omega)) ?_; intro v1 w1 ho1 hb1 hg1)
              rw [List.append_assoc] at ho1
              have hjj := HJ.out
              (first | (go_roundw; (case rel => exact ⟨jj + 1, by omega, by subst hjj; rfl, by subst hjj; exact ho1, hb1⟩); (case measure => first | (simp [intOf] <;> omega) | (simp [lenOf] <;> omega))) | (refine ⟨?_, ?measure⟩; (repeat apply Exists.intro); refine ⟨?rel, ?eqs⟩; (case eqs => first | rfl | ((repeat (refine ⟨rfl, ?_⟩)); rfl)); (case rel => exact ⟨jj + 1, by omega, by subst hjj; rfl, by subst hjj; exact ho1, hb1⟩); (case measure => first | (simp [intOf] <;> omega) | (simp [lenOf] <;> omega))) | ((repeat apply Exists.intro); refine ⟨?rel, ?eqs⟩; (case eqs => first | rfl | ((repeat (refine ⟨rfl, ?_⟩)); rfl)); (case rel => exact ⟨jj + 1, by omega, by subst hjj; rfl, by subst hjj; exact ho1, hb1⟩)))
          · obtain rfl : j = 6 := by omega
            go_wp2
            (first | (go_roundw; (case rel => exact ⟨k + 1, by omega, by go_num, by show ∀ z ∈ _, _; rw [HT.out]; intro z hz; rcases List.mem_append.1 hz with hz | hz; exact hA.out z hz; simp at hz; subst hz; exact HX.out, by rw [HK.out, hy]; exact ho2, hbel2⟩); (case measure => first | (simp [intOf] <;> omega) | (simp [lenOf] <;> omega))) | (refine ⟨?_, ?measure⟩; (repeat apply Exists.intro); refine ⟨?rel, ?eqs⟩; (case eqs => first | rfl | ((repeat (refine ⟨rfl, ?_⟩)); rfl)); (case rel => exact ⟨k + 1, by omega, by go_num, by show ∀ z ∈ _, _; rw [HT.out]; intro z hz; rcases List.mem_append.1 hz with hz | hz; exact hA.out z hz; simp at hz; subst hz; exact HX.out, by rw [HK.out, hy]; exact ho2, hbel2⟩); (case measure => first | (simp [intOf] <;> omega) | (simp [lenOf] <;> omega))) | ((repeat apply Exists.intro); refine ⟨?rel, ?eqs⟩; (case eqs => first | rfl | ((repeat (refine ⟨rfl, ?_⟩)); rfl)); (case rel => exact ⟨k + 1, by omega, by go_num, by show ∀ z ∈ _, _; rw [HT.out]; intro z hz; rcases List.mem_append.1 hz with hz | hz; exact hA.out z hz; simp at hz; subst hz; exact HX.out, by rw [HK.out, hy]; exact ho2, hbel2⟩)))
      · have hx' : isD x = false := by simpa using hx
        have hno : allD xs = false := by rw [allD, all_cons_drop hA.out, HD.out]; simp [hx']
        have HN := Lib.hid hno; clear hno
        go_wp2_with (go_at_call 38; refine r14_Value.mono ?_; rintro e w' ⟨rfl, rfl⟩)
        go_ret2
        exact ⟨.slice none 0 0, ret2 rfl (vbool HN.out.symm), by unfold valuesL; rw [HN.out]; exact Own.nil _ _ _ _, hbel⟩
    · have hyes : allD xs = true := by rw [allD, all_cons_drop hA.out, List.drop_eq_nil_of_le (by have := HL.out; omega)]; rfl
      have HY := Lib.hid hyes; clear hyes
      go_wp2
      go_ret2
      exact ⟨_, ret2 rfl (vbool HY.out.symm), by unfold valuesL; rw [HY.out]; rw [List.take_of_length_le (by have := HL.out; omega)] at ho; exact ho, hbel⟩
/-- groups of eight bits, each an octet; and what is left over -/
def oct8 : List Int → List Int
  | a :: b :: c :: d :: e :: f :: g :: h :: r => numL [a, b, c, d, e, f, g, h] :: oct8 r
  | _ => []
def rest8 : List Int → List Int
  | _ :: _ :: _ :: _ :: _ :: _ :: _ :: _ :: r => rest8 r
  | l => l
theorem oct8_cons {L : List Int} (h : L.length = 8) (r : List Int) : oct8 (L ++ r) = numL L :: oct8 r ∧ rest8 (L ++ r) = rest8 r := by
  match L, h with
  | [a, b, c, d, e, f, g, i], _ => exact ⟨rfl, rfl⟩
theorem oct8_small : ∀ L : List Int, L.length < 8 → oct8 L = [] ∧ rest8 L = L
  | [], _ => ⟨rfl, rfl⟩
  | [_], _ => ⟨rfl, rfl⟩
  | [_, _], _ => ⟨rfl, rfl⟩
  | [_, _, _], _ => ⟨rfl, rfl⟩
  | [_, _, _, _], _ => ⟨rfl, rfl⟩
  | [_, _, _, _, _], _ => ⟨rfl, rfl⟩
  | [_, _, _, _, _, _], _ => ⟨rfl, rfl⟩
  | [_, _, _, _, _, _, _], _ => ⟨rfl, rfl⟩
  | _ :: _ :: _ :: _ :: _ :: _ :: _ :: _ :: r, h => absurd h (by simp only [List.length_cons]; omega)
def zeroL (L : List Int) : Bool := decide (numL (rest8 L) = 0)

set_option maxRecDepth 100000 in
set_option maxHeartbeats 1000000 in
theorem r14_Octets {A n c L} {w : World} (hs : Sl w .i64 A n c L) (hbits : isBits L) (hn : n ≤ 268435456) :
    Calls Try.prog 29 #[.slice A n c] w (RetOwn (fun v => .tuple #[v, .bool (zeroL L)]) 5 .u8 (oct8 L) w) := by
  have HBits := Lib.hid hbits; clear hbits
  have HL := Lib.hid hs.len
  go_enter Try.func29, Try.ntmps29
  go_wp2
  go_loopw [4, 5] (fun v i wr => ∃ (q : Nat) (ys : List Int), 8 * q ≤ n ∧ i = .int .i64 (8 * q : Nat) ∧ Own wr w.heap.size 5 .u8 v ys ∧ ys.length ≤ q ∧ Hid (oct8 L = ys ++ oct8 (L.drop (8 * q)) ∧ rest8 L = rest8 (L.drop (8 * q))) ∧ Below w.heap.size w wr) (fun _ i _ => n - (intOf i).toNat)
  case atStart => exact ⟨0, [], by omega, rfl, Own.nil _ _ _ _, by simp, ⟨rfl, rfl⟩, Below.refl _ _⟩
  case round =>
    obtain ⟨q, ys, hq, rfl, ho3, hyl, hI, hbel3⟩ := hrel
    have hs3 := hs.bel hbel3
    have hz3 := hbel3.size
    have hle := hs3.le
    have hcm := hs3.cm
    unfold maxLen at hcm
    by_cases hlt : 8 * q + 8 ≤ n
    · obtain ⟨b, o, rfl, hb⟩ := hs3.form (by omega)
      have hne : ¬ c = 8 * q := by omega
      have hd := drop_piece L (lo := 8 * q) (hi := 8 * q + 8) (by omega)
      rw [show 8 * q + 8 = 8 * (q + 1) from by omega] at hd
      have hs4 := hs3.cutAt (lo := 8 * q) (hi := 8 * (q + 1)) (m := 8) (c' := c - 8 * q) (by omega) (by omega) (by omega) rfl
      have hb6 : isBits ((L.take (8 * (q + 1))).drop (8 * q)) := fun y hy => HBits.out y (List.mem_of_mem_take (List.mem_of_mem_drop hy))
      have hk6 := oct8_cons hs4.len (L.drop (8 * (q + 1)))
      have hl8 := hs4.len
      have hbd := num_bd hb6
      rw [hl8] at hbd
      obtain ⟨L6, hL6⟩ : ∃ L6, (L.take (8 * (q + 1))).drop (8 * q) = L6 := ⟨_, rfl⟩
      rw [hL6] at hd hs4 hb6 hk6 hbd hl8
      have HD := Lib.hid hd; have HK := Lib.hid hk6
      clear hd hk6 hL6 hl8
      obtain ⟨m6, hm6⟩ : ∃ m6, numL L6 = m6 := ⟨_, rfl⟩
      rw [hm6] at hbd
      have hbd1 : 0 ≤ m6 := hbd.1
      have hbd2 : m6 ≤ 255 := by have := hbd.2; omega
      clear hbd
      go_wp2_with (first | (go_at_call 39; refine (r14_number hs4 hb6 (by omega)).mono ?_; rintro e w' ⟨rfl, rfl⟩) | (at_builtin; refine wpList_app rfl rfl eltB (by decide) rfl rfl (ho3.alloc _) (Sl.one _ _ _ _ (wf_u8.2 (by omega))) (hbel3.alloc (by omega) _) (by refine ⟨?_, ?_⟩ <;> first | omega | (simp; done) | (simp; omega)) (by first | omega | (simp; done) | (simp; omega)) ?_; intro v1 w2 ho1 hb2 hg1))
      (first | (go_roundw; (case rel => exact ⟨q + 1, ys ++ [m6], by omega, by first | rfl | go_num, ho1, by simp; omega, by refine ⟨?_, ?_⟩; rw [hI.out.1, HD.out, HK.out.1, hm6]; simp; rw [hI.out.2, HD.out, HK.out.2], hb2⟩); (case measure => first | (simp [intOf] <;> omega) | (simp [lenOf] <;> omega))) | (refine ⟨?_, ?measure⟩; (repeat apply Exists.intro); refine ⟨?rel, ?eqs⟩; (case eqs => first | rfl | ((repeat (refine ⟨rfl, ?_⟩)); rfl)); (case rel => exact ⟨q + 1, ys ++ [m6], by omega, by first | rfl | go_num, ho1, by simp; omega, by refine ⟨?_, ?_⟩; rw [hI.out.1, HD.out, HK.out.1, hm6]; simp; rw [hI.out.2, HD.out, HK.out.2], hb2⟩); (case measure => first | (simp [intOf] <;> omega) | (simp [lenOf] <;> omega))) | ((repeat apply Exists.intro); refine ⟨?rel, ?eqs⟩; (case eqs => first | rfl | ((repeat (refine ⟨rfl, ?_⟩)); rfl)); (case rel => exact ⟨q + 1, ys ++ [m6], by omega, by first | rfl | go_num, ho1, by simp; omega, by refine ⟨?_, ?_⟩; rw [hI.out.1, HD.out, HK.out.1, hm6]; simp; rw [hI.out.2, HD.out, HK.out.2], hb2⟩)))
    · have hl : (L.drop (8 * q)).length < 8 := by have := HL.out; simp; omega
      have hsm := oct8_small _ hl
      have hI2 : oct8 L = ys ∧ rest8 L = L.drop (8 * q) := by rw [hI.out.1, hI.out.2, hsm.1, hsm.2]; simp
      have HI2 := Lib.hid hI2
      clear hI2 hsm
      by_cases hc8 : c = 8 * q
      · have hn8 : n = 8 * q := by omega
        have hd0 : L.drop (8 * q) = [] := List.drop_eq_nil_of_le (by have := HL.out; omega)
        have hs5 : Sl wr .i64 A (n - 8 * q) 0 [] := by rw [show n - 8 * q = 0 from by omega]; exact Sl.none_
        have HD0 := Lib.hid hd0; clear hd0
        have HN8 := Lib.hid hn8; clear hn8
        have hno : numL [] = 0 := rfl
        go_wp2_with (go_at_call 39; refine (r14_number hs5 (by intro x hx; cases hx) (by omega)).mono ?_; rintro e w' ⟨rfl, rfl⟩)
        go_ret2
        exact ⟨_, ret2 rfl (vbool (by simp [zeroL, HI2.out.2, HD0.out, hno])), by rw [HI2.out.1]; exact ho3, hbel3⟩
      · have hs4 := hs3.cut (lo := 8 * q) (hi := n) (m := n - 8 * q) (c' := c - 8 * q) (by omega) (by omega) (by omega) rfl
        rw [List.take_of_length_le (by have := HL.out; omega)] at hs4
        go_wp2_with (go_at_call 39; refine (r14_number hs4 (fun y hy => HBits.out y (List.mem_of_mem_drop hy)) (by omega)).mono ?_; rintro e w' ⟨rfl, rfl⟩)
        go_ret2
        exact ⟨_, ret2 rfl (vbool (by rw [zeroL, HI2.out.2]; rfl)), by rw [HI2.out.1]; exact ho3, hbel3⟩

/-- without one sign that fills up -/
def strip1 (l : List Int) : List Int := if l.getLast? = some 61 then l.dropLast else l
def bodyL (l : List Int) : List Int := strip1 (strip1 l)
def sixB (xs : List Int) : List Int := sixesL (bodyL xs)
/-- the error of a code, and its octets -/
def errB (xs : List Int) : Int := if allD (bodyL xs) = false then 3 else if xs.length % 4 ≠ 0 then 4 else if zeroL (sixB xs) = false then 3 else 0
def octB (xs : List Int) : List Int := if errB xs = 0 then oct8 (sixB xs) else []
theorem strip1_take {xs : List Int} {n : Nat} (h : n ≤ xs.length) : strip1 (xs.take n) = if 0 < n ∧ xs.getD (n - 1) 0 = 61 then xs.take (n - 1) else xs.take n := by
  unfold strip1
  rcases Nat.eq_zero_or_pos n with rfl | hn
  · simp
  · have e : (xs.take n).getLast? = some (xs.getD (n - 1) 0) := by
      rw [List.getLast?_eq_getElem?, List.length_take, Nat.min_eq_left h, List.getElem?_take, if_pos (by omega), List.getD_eq_getElem?_getD, List.getElem?_eq_getElem (by omega)]; rfl
    rw [e]
    have e2 : (xs.take n).dropLast = xs.take (n - 1) := by rw [List.dropLast_eq_take, List.length_take, Nat.min_eq_left h, List.take_take, Nat.min_eq_left (by omega)]
    rw [e2]
    simp [hn]
theorem strip1_le (l : List Int) : (strip1 l).length ≤ l.length := by unfold strip1; split <;> simp

set_option maxRecDepth 100000 in
set_option maxHeartbeats 1000000 in
theorem r14_Read {A n c xs} {w : World} (hs : Sl w .u8 A n c xs) (hn : n ≤ 16777216) :
    Calls Try.prog 17 #[.slice A n c] w (RetOwn (fun v => .tuple #[v, .int .i64 (errB xs)]) 5 .u8 (octB xs) w) := by
  have HL := Lib.hid hs.len
  have hle := hs.le
  have hcm := hs.cm
  unfold maxLen at hcm
  go_enter Try.func17, Try.ntmps17
  go_wp2
  go_loop [4, 5] (fun e k => ∃ (E K : Nat), E ≤ n ∧ K ≤ 2 ∧ e = .int .i64 E ∧ k = .int .i64 K ∧ Hid (bodyL xs = (if K = 0 then strip1 (strip1 (xs.take E)) else if K = 1 then strip1 (xs.take E) else xs.take E))) (fun _ k => (2 - intOf k).toNat)
  case atStart => exact ⟨n, 0, Nat.le_refl _, by omega, rfl, rfl, by show _ = _; rw [List.take_of_length_le (by have := HL.out; omega)]; rfl⟩
  case round =>
    obtain ⟨E, K, hE, hK, rfl, rfl, hI⟩ := hrel
    by_cases hcond : K < 2 ∧ 0 < E ∧ xs.getD (E - 1) 0 = 61
    · obtain ⟨hk2, hE0, hx⟩ := hcond
      obtain ⟨b, o, rfl, hb, hcell⟩ := hs.at_ (by omega)
      have hcell := hcell (E - 1) (by omega)
      rw [hx] at hcell
      go_wp2
      (go_round; (case rel => exact ⟨E - 1, K + 1, by omega, by omega, vint (by omega), by go_num, by
        show _ = _
        rw [hI.out]
        have h2 : K = 0 ∨ K = 1 := by omega
        have h1 := strip1_take (xs := xs) (n := E) (by have := HL.out; omega)
        rw [if_pos ⟨hE0, hx⟩] at h1
        rcases h2 with h2 | h2 <;> subst h2 <;> simp [h1]⟩); (case measure => first | (simp [intOf] <;> omega) | (simp [lenOf] <;> omega)))
    · have hbody : bodyL xs = xs.take E := by
        have h1 := strip1_take (xs := xs) (n := E) (by have := HL.out; omega)
        by_cases h2 : K = 2
        · rw [hI.out, h2]; simp
        · rw [if_neg (by rintro ⟨h3, h4⟩; exact hcond ⟨by omega, h3, h4⟩)] at h1
          rw [hI.out]
          split
          · rw [h1, h1]
          · simp [h1]
      have HB := Lib.hid hbody; clear hbody
      have hs2 := hs.take_ hE
      rw [← HB.out] at hs2
      clear hI
      have HLn := HL
      have hbl : (bodyL xs).length ≤ 16777216 := by rw [HB.out]; simp; omega
      by_cases hk2 : K < 2
      · by_cases hE0 : 0 < E
        · have hx : xs.getD (E - 1) 0 ≠ 61 := fun h => hcond ⟨hk2, hE0, h⟩
          obtain ⟨b, o, rfl, hb, hcell⟩ := hs.at_ (by omega)
          have hc1 := hcell (E - 1) (by omega)
          clear hcell
          obtain ⟨y, hy⟩ : ∃ y, xs.getD (E - 1) 0 = y := ⟨_, rfl⟩
          rw [hy] at hc1 hx
          have hx' : (y == 61) = false := by simpa using hx
          clear hx hy hcond
          go_wp2_with fail
          refine (r14_Values hs2 (by omega)).mono ?_
          rintro e w1 ⟨v1, rfl, ho1, hb1⟩
          by_cases hd : allD (bodyL xs) = true
          · have hv : valuesL (bodyL xs) = sixB xs := by unfold valuesL sixB; rw [hd]; rfl
            rw [hv] at ho1
            have HD := Lib.hid hd
            by_cases h4 : n % 4 = 0
            · have h4' : ((n : Int) % 4 != 0) = false := by simp; omega
              obtain ⟨A1, n1, c1, rfl, hs1⟩ := ho1.sl
              have hn1 : n1 ≤ 268435456 := by have := hs1.len; have h7 := sixesL_length (bodyL xs); unfold sixB at this; omega
              have H4 := Lib.hid h4; clear h4
              have hbits : isBits (sixB xs) := bits_flat (fun c => bits_six (valL c)) _
              go_wp2_with fail
              refine (r14_Octets hs1 hbits hn1).mono ?_
              rintro e w2 ⟨v2, rfl, ho2, hb2⟩
              by_cases hz : zeroL (sixB xs) = true
              · have he : errB xs = 0 := by unfold errB; have h5 := H4.out; have h6 := HLn.out; rw [HD.out, hz, h6, h5]; rfl
                have HE := Lib.hid he; clear he
                go_wp2
                go_ret2
                exact ⟨_, ret2 rfl (vint HE.out.symm), by unfold octB; rw [if_pos HE.out]; exact ho2.mono hb1.size, below_then hb1 hb2⟩
              · have hz' : zeroL (sixB xs) = false := by simpa using hz
                have he : errB xs = 3 := by unfold errB; have h5 := H4.out; have h6 := HLn.out; rw [HD.out, hz', h6, h5]; rfl
                have HE := Lib.hid he; clear he
                go_wp2
                go_ret2
                exact ⟨.slice none 0 0, ret2 rfl (vint HE.out.symm), by unfold octB; rw [HE.out]; exact Own.nil _ _ _ _, below_then hb1 hb2⟩
            · have h4' : ((n : Int) % 4 != 0) = true := by simp; omega
              have he : errB xs = 4 := by unfold errB; have h6 := HLn.out; rw [HD.out, h6, if_neg (by simp), if_pos h4]
              have HE := Lib.hid he; clear he h4
              go_wp2
              go_ret2
              exact ⟨.slice none 0 0, ret2 rfl (vint HE.out.symm), by unfold octB; rw [HE.out]; exact Own.nil _ _ _ _, hb1⟩
          · have hd' : allD (bodyL xs) = false := by simpa using hd
            have he : errB xs = 3 := by unfold errB; rw [hd', if_pos rfl]
            have HE := Lib.hid he; clear he
            go_wp2
            go_ret2
            exact ⟨.slice none 0 0, ret2 rfl (vint HE.out.symm), by unfold octB; rw [HE.out]; exact Own.nil _ _ _ _, hb1⟩
        · have hE0' : E = 0 := by omega
          clear hcond
          subst hE0'
          go_wp2_with fail
          refine (r14_Values hs2 (by omega)).mono ?_
          rintro e w1 ⟨v1, rfl, ho1, hb1⟩
          by_cases hd : allD (bodyL xs) = true
          · have hv : valuesL (bodyL xs) = sixB xs := by unfold valuesL sixB; rw [hd]; rfl
            rw [hv] at ho1
            have HD := Lib.hid hd
            by_cases h4 : n % 4 = 0
            · have h4' : ((n : Int) % 4 != 0) = false := by simp; omega
              obtain ⟨A1, n1, c1, rfl, hs1⟩ := ho1.sl
              have hn1 : n1 ≤ 268435456 := by have := hs1.len; have h7 := sixesL_length (bodyL xs); unfold sixB at this; omega
              have H4 := Lib.hid h4; clear h4
              have hbits : isBits (sixB xs) := bits_flat (fun c => bits_six (valL c)) _
              go_wp2_with fail
              refine (r14_Octets hs1 hbits hn1).mono ?_
              rintro e w2 ⟨v2, rfl, ho2, hb2⟩
              by_cases hz : zeroL (sixB xs) = true
              · have he : errB xs = 0 := by unfold errB; have h5 := H4.out; have h6 := HLn.out; rw [HD.out, hz, h6, h5]; rfl
                have HE := Lib.hid he; clear he
                go_wp2
                go_ret2
                exact ⟨_, ret2 rfl (vint HE.out.symm), by unfold octB; rw [if_pos HE.out]; exact ho2.mono hb1.size, below_then hb1 hb2⟩
              · have hz' : zeroL (sixB xs) = false := by simpa using hz
                have he : errB xs = 3 := by unfold errB; have h5 := H4.out; have h6 := HLn.out; rw [HD.out, hz', h6, h5]; rfl
                have HE := Lib.hid he; clear he
                go_wp2
                go_ret2
                exact ⟨.slice none 0 0, ret2 rfl (vint HE.out.symm), by unfold octB; rw [HE.out]; exact Own.nil _ _ _ _, below_then hb1 hb2⟩
            · have h4' : ((n : Int) % 4 != 0) = true := by simp; omega
              have he : errB xs = 4 := by unfold errB; have h6 := HLn.out; rw [HD.out, h6, if_neg (by simp), if_pos h4]
              have HE := Lib.hid he; clear he h4
              go_wp2
              go_ret2
              exact ⟨.slice none 0 0, ret2 rfl (vint HE.out.symm), by unfold octB; rw [HE.out]; exact Own.nil _ _ _ _, hb1⟩
          · have hd' : allD (bodyL xs) = false := by simpa using hd
            have he : errB xs = 3 := by unfold errB; rw [hd', if_pos rfl]
            have HE := Lib.hid he; clear he
            go_wp2
            go_ret2
            exact ⟨.slice none 0 0, ret2 rfl (vint HE.out.symm), by unfold octB; rw [HE.out]; exact Own.nil _ _ _ _, hb1⟩
      · clear hcond
        go_wp2_with fail
        refine (r14_Values hs2 (by omega)).mono ?_
        rintro e w1 ⟨v1, rfl, ho1, hb1⟩
        by_cases hd : allD (bodyL xs) = true
        · have hv : valuesL (bodyL xs) = sixB xs := by unfold valuesL sixB; rw [hd]; rfl
          rw [hv] at ho1
          have HD := Lib.hid hd
          by_cases h4 : n % 4 = 0
          · have h4' : ((n : Int) % 4 != 0) = false := by simp; omega
            obtain ⟨A1, n1, c1, rfl, hs1⟩ := ho1.sl
            have hn1 : n1 ≤ 268435456 := by have := hs1.len; have h7 := sixesL_length (bodyL xs); unfold sixB at this; omega
            have H4 := Lib.hid h4; clear h4
            have hbits : isBits (sixB xs) := bits_flat (fun c => bits_six (valL c)) _
            go_wp2_with fail
            refine (r14_Octets hs1 hbits hn1).mono ?_
            rintro e w2 ⟨v2, rfl, ho2, hb2⟩
            by_cases hz : zeroL (sixB xs) = true
            · have he : errB xs = 0 := by unfold errB; have h5 := H4.out; have h6 := HLn.out; rw [HD.out, hz, h6, h5]; rfl
              have HE := Lib.hid he; clear he
              go_wp2
              go_ret2
              exact ⟨_, ret2 rfl (vint HE.out.symm), by unfold octB; rw [if_pos HE.out]; exact ho2.mono hb1.size, below_then hb1 hb2⟩
            · have hz' : zeroL (sixB xs) = false := by simpa using hz
              have he : errB xs = 3 := by unfold errB; have h5 := H4.out; have h6 := HLn.out; rw [HD.out, hz', h6, h5]; rfl
              have HE := Lib.hid he; clear he
              go_wp2
              go_ret2
              exact ⟨.slice none 0 0, ret2 rfl (vint HE.out.symm), by unfold octB; rw [HE.out]; exact Own.nil _ _ _ _, below_then hb1 hb2⟩
          · have h4' : ((n : Int) % 4 != 0) = true := by simp; omega
            have he : errB xs = 4 := by unfold errB; have h6 := HLn.out; rw [HD.out, h6, if_neg (by simp), if_pos h4]
            have HE := Lib.hid he; clear he h4
            go_wp2
            go_ret2
            exact ⟨.slice none 0 0, ret2 rfl (vint HE.out.symm), by unfold octB; rw [HE.out]; exact Own.nil _ _ _ _, hb1⟩
        · have hd' : allD (bodyL xs) = false := by simpa using hd
          have he : errB xs = 3 := by unfold errB; rw [hd', if_pos rfl]
          have HE := Lib.hid he; clear he
          go_wp2
          go_ret2
          exact ⟨.slice none 0 0, ret2 rfl (vint HE.out.symm), by unfold octB; rw [HE.out]; exact Own.nil _ _ _ _, hb1⟩
end Go.Proofs.Ytibnmekifaaacaa
