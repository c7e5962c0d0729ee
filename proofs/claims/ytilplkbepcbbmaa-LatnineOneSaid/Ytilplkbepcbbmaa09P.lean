/- Layer 9 (latnine): what each function of the program returns. Conditions: the arguments read as lists; lengths at most 2^30. -/
import Derived.Test.Ytilplkbepcbbmaa09
namespace Go.Proofs.Ytilplkbepcbbmaa
open Go.RowKit

def tabV : Value := .agg #[.int .u8 164, .int .i32 8364, .int .u8 166, .int .i32 352, .int .u8 168, .int .i32 353, .int .u8 180, .int .i32 381,
  .int .u8 184, .int .i32 382, .int .u8 188, .int .i32 338, .int .u8 189, .int .i32 339, .int .u8 190, .int .i32 376]
set_option maxRecDepth 100000 in
set_option maxHeartbeats 1000000 in
theorem p09_others {w : World} : Calls Try.prog 45 #[] w (RetB tabV w) := by
  go_enter Try.func45, Try.ntmps45
  go_wp2
  exact bodyPost_ret (v := tabV) (by simp [results, Try.results45, go_sem]; rfl) rfl ⟨rfl, (Below.refl _ _).alloc (Nat.le_refl _) _⟩

theorem tab_at {k : Nat} (h : k < 8) : ∃ a b : Int, tab9.drop k = (a, b) :: tab9.drop (k + 1) ∧ (0 ≤ a ∧ a ≤ 255) ∧ ∀ w : World, (Instr.index 47 tabV (.int .i64 (k : Int))).run Try.prog w = .ok (.agg #[.int .u8 a, .int .i32 b]) w := by
  have : k = 0 ∨ k = 1 ∨ k = 2 ∨ k = 3 ∨ k = 4 ∨ k = 5 ∨ k = 6 ∨ k = 7 := by omega
  rcases this with h | h | h | h | h | h | h | h <;> subst h <;> exact ⟨_, _, rfl, by decide, fun _ => by kernel_rfl⟩

def sgn (x : Int) : List (Int × Int) → Int
  | [] => x
  | p :: r => if p.1 = x then p.2 else sgn x r
theorem sgn_tab (x : Int) : sgn x tab9 = sign9 x := by
  unfold sign9 tab9 sgn sgn sgn sgn sgn sgn sgn sgn sgn
  simp only [eq_comm (b := x)]

set_option maxRecDepth 100000 in
set_option maxHeartbeats 1000000 in
theorem p09_Sign {x : Int} {w : World} (hc : (Lit.int .u8 x).wf = true) : Calls Try.prog 13 #[.int .u8 x] w (RetB (.int .i32 (sign9 x)) w) := by
  obtain ⟨h1, h2⟩ := wf_u8.1 hc
  clear hc
  go_enter Try.func13, Try.ntmps13
  go_wp2_with (go_at_call 45; refine p09_others.mono ?_; rintro e w1 ⟨rfl, hb1⟩)
  go_loopw [6] (fun i wr => ∃ k : Nat, k ≤ 8 ∧ i = .int .i64 k ∧ Hid (sign9 x = sgn x (tab9.drop k)) ∧ Below w.heap.size w wr) (fun i _ => (8 - intOf i).toNat)
  case atStart => exact ⟨0, Nat.zero_le _, rfl, (sgn_tab x).symm, hb1⟩
  case round =>
    obtain ⟨k, hk, rfl, hI, hbel⟩ := hrel
    have hz := hbel.size
    by_cases hlt : k < 8
    · obtain ⟨a, b, hd, _, hix⟩ := tab_at hlt
      have HD := Lib.hid hd; clear hd
      go_wp2
      · have h : (a == x) = true := by assumption
        go_ret
        exact ⟨ret_int (by rw [hI.out, HD.out]; simp at h; simp [sgn, h]), hbel.alloc hz _⟩
      · have h : (a == x) = false := by assumption
        (go_roundw; (case rel => exact ⟨k + 1, by omega, by go_num, by show _ = _; rw [hI.out, HD.out]; simp at h; simp [sgn, h], hbel.alloc hz _⟩); (case measure => simp [intOf]; omega))
    · have hk8 : k = 8 := by omega
      go_wp2
      go_ret
      exact ⟨ret_int (by rw [hI.out, hk8]; rfl), hbel⟩

/-- what the program goes through: a sign, or an octet, of the table -/
def put9 (c : Int) : List (Int × Int) → Int × Bool
  | [] => if c < 0 ∨ 256 ≤ c then (0, false) else (c, true)
  | p :: r => if c = p.2 then (p.1, true) else if c = p.1 then (0, false) else put9 c r
theorem put9_eq {c : Int} : put9 c tab9 = (oct9 c, has9 c) := by
  by_cases hs : isSign9 c = true
  · simp [isSign9, tab9] at hs
    rcases hs with h | h | h | h | h | h | h | h <;> subst h <;> decide
  · by_cases ho : isOct9 c = true
    · simp [isOct9, tab9] at ho
      rcases ho with h | h | h | h | h | h | h | h <;> subst h <;> decide
    · have hs' : isSign9 c = false := by simpa using hs
      have ho' : isOct9 c = false := by simpa using ho
      have hall : ∀ p ∈ tab9, c ≠ p.2 ∧ c ≠ p.1 := by
        simp only [isSign9, isOct9, List.any_eq_false, decide_eq_true_iff] at hs' ho'
        exact fun p hp => ⟨fun e => hs' p hp e.symm, fun e => ho' p hp e.symm⟩
      have hend : ∀ l : List (Int × Int), (∀ p ∈ l, c ≠ p.2 ∧ c ≠ p.1) → put9 c l = if c < 0 ∨ 256 ≤ c then (0, false) else (c, true) := by
        intro l
        induction l with
        | nil => intro _; rfl
        | cons p r ih =>
          intro h
          have hp := h p (by simp)
          rw [put9, if_neg hp.1, if_neg hp.2, ih fun q hq => h q (by simp [hq])]
      rw [hend _ hall]
      by_cases hr : c < 0 ∨ 256 ≤ c
      · have hh : has9 c = false := by simp [has9, hs']; omega
        rw [if_pos hr, oct9_no hh, hh]
      · have hh : has9 c = true := by simp [has9, hs', ho']; omega
        have e : oct9 c = c := by
          simp [isSign9, tab9] at hs'
          unfold oct9; rw [hh]
          repeat' split
          all_goals first | omega | simp_all
        rw [if_neg hr, e, hh]

set_option maxRecDepth 100000 in
set_option maxHeartbeats 1000000 in
theorem p09_Put {c : Int} {w : World} (hc : (Lit.int .i32 c).wf = true) : Calls Try.prog 10 #[.int .i32 c] w (RetB (.tuple #[.int .u8 (oct9 c), .bool (has9 c)]) w) := by
  obtain ⟨h1, h2⟩ := wf_i32.1 hc
  clear hc
  go_enter Try.func10, Try.ntmps10
  go_wp2_with (go_at_call 45; refine p09_others.mono ?_; rintro e w1 ⟨rfl, hb1⟩)
  go_loopw [7] (fun i wr => ∃ k : Nat, k ≤ 8 ∧ i = .int .i64 k ∧ Hid ((oct9 c, has9 c) = put9 c (tab9.drop k)) ∧ Below w.heap.size w wr) (fun i _ => (8 - intOf i).toNat)
  case atStart => exact ⟨0, Nat.zero_le _, rfl, put9_eq.symm, hb1⟩
  case round =>
    obtain ⟨k, hk, rfl, hI, hbel⟩ := hrel
    have hz := hbel.size
    by_cases hlt : k < 8
    · obtain ⟨a, b, hd, ha, hix⟩ := tab_at hlt
      have HD := Lib.hid hd; clear hd
      obtain ⟨ha1, ha2⟩ := ha
      go_wp2
      · have h : (c == b) = true := by assumption
        have h3 : (oct9 c, has9 c) = (a, true) := by rw [hI.out, HD.out]; simp at h; simp [put9, h]
        injection h3 with h4 h5
        go_ret2
        exact ⟨ret2 (vint h4.symm) (vbool h5.symm), hbel.alloc hz _⟩
      · have h : (c == b) = false := by assumption
        have h' : (c == a) = true := by assumption
        have h3 : (oct9 c, has9 c) = (0, false) := by rw [hI.out, HD.out]; simp at h h'; rw [put9, if_neg h, if_pos h']
        injection h3 with h4 h5
        go_ret2
        exact ⟨ret2 (vint h4.symm) (vbool h5.symm), hbel.alloc hz _⟩
      · have h : (c == b) = false := by assumption
        have h' : (c == a) = false := by assumption
        (go_roundw; (case rel => exact ⟨k + 1, by omega, by go_num, by show _ = _; rw [hI.out, HD.out]; simp at h h'; rw [put9, if_neg h, if_neg h'], hbel.alloc hz _⟩); (case measure => simp [intOf]; omega))
    · have hk8 : k = 8 := by omega
      have hI2 : (oct9 c, has9 c) = if c < 0 ∨ 256 ≤ c then (0, false) else (c, true) := by rw [hI.out, hk8]; rfl
      have HI2 := Lib.hid hI2; clear hI2
      go_wp2
      all_goals
        go_ret2
        have h3 := HI2.out
        first
          | (rw [if_pos (by omega)] at h3; injection h3 with h4 h5; exact ⟨ret2 (vint h4.symm) (vbool h5.symm), hbel⟩)
          | (rw [if_neg (by omega)] at h3; injection h3 with h4 h5; exact ⟨ret2 (vint h4.symm) (vbool h5.symm), hbel⟩)

set_option maxRecDepth 100000 in
set_option maxHeartbeats 1000000 in
theorem p09_Has {c : Int} {w : World} (hc : (Lit.int .i32 c).wf = true) : Calls Try.prog 12 #[.int .i32 c] w (RetB (.bool (has9 c)) w) := by
  go_enter Try.func12, Try.ntmps12
  go_wp2_with (go_at_call 10; refine (p09_Put hc).mono ?_; rintro e w1 ⟨rfl, hb1⟩)
  go_ret
  exact ⟨rfl, hb1⟩

set_option maxRecDepth 100000 in
set_option maxHeartbeats 1000000 in
theorem p09_Lacks1 {c : Int} {w : World} (hc : (Lit.int .i32 c).wf = true) : Calls Try.prog 47 #[.int .i32 c] w (RetB (.bool (!has9 c)) w) := by
  go_enter Try.func47, Try.ntmps47
  go_wp2_with (go_at_call 12; refine (p09_Has hc).mono ?_; rintro e w1 ⟨rfl, hb1⟩)
  go_ret
  exact ⟨rfl, hb1⟩

set_option maxRecDepth 100000 in
set_option maxHeartbeats 1000000 in
theorem p09_IndexFunc {A n c xs} {w : World} (hs : Sl w .i32 A n c xs) :
    Calls Try.prog 46 #[.slice A n c, .func (.func 47) #[] #[]] w (RetB (.int .i64 (lacks9 xs)) w) := by
  have HL := Lib.hid hs.len; have hle := hs.le; have hcm := hs.cm; unfold maxLen at hcm
  go_enter Try.func46, Try.ntmps46
  go_wp2
  go_loopw [8] (fun i wr => ∃ k : Nat, k ≤ n ∧ i = .int .i64 k ∧ Hid (lacks9 xs = idx (fun c => !has9 c) (xs.drop k) k) ∧ Below w.heap.size w wr) (fun i _ => n - (intOf i).toNat)
  case atStart => exact ⟨0, Nat.zero_le _, rfl, rfl, Below.refl _ _⟩
  case round =>
    obtain ⟨k, hk, rfl, hI, hbel⟩ := hrel
    by_cases hlt : k < n
    · obtain ⟨b, o, x, rfl, hb, hcell, hwf, hd, _⟩ := (hs.bel hbel).get hlt
      have HD := Lib.hid hd; clear hd
      go_wp2_with (go_at_call 47; refine (p09_Lacks1 hwf).mono ?_; rintro e w1 ⟨rfl, hb1⟩)
      · have h : (!has9 x) = true := by assumption
        go_ret
        exact ⟨ret_int (by rw [hI.out, HD.out]; simp [idx, h]), below_then hbel hb1⟩
      · have h : (!has9 x) = false := by assumption
        (go_roundw; (case rel => exact ⟨k + 1, by omega, by go_num, by show _ = _; rw [hI.out, HD.out]; simp [idx, h], below_then hbel hb1⟩); (case measure => simp [intOf]; omega))
    · go_wp2
      go_ret
      exact ⟨ret_int (by rw [hI.out, List.drop_eq_nil_of_le (by have := HL.out; omega)]; rfl), hbel⟩

set_option maxRecDepth 100000 in
set_option maxHeartbeats 1000000 in
theorem p09_Lacks {A n c xs} {w : World} (hs : Sl w .i32 A n c xs) : Calls Try.prog 26 #[.slice A n c] w (RetB (.int .i64 (lacks9 xs)) w) := by
  go_enter Try.func26, Try.ntmps26
  go_wp2_with (go_at_call 46; refine (p09_IndexFunc hs).mono ?_; rintro e w1 ⟨rfl, hb1⟩)
  go_ret
  exact ⟨rfl, hb1⟩

theorem all_take_drop {p : Int → Bool} {xs : List Int} {k : Nat} (h : ∀ x ∈ xs.take k, p x = true) : xs.all p = (xs.drop k).all p := by
  rw [← List.take_append_drop k xs, List.all_append, List.all_eq_true.2 h, Bool.true_and]; simp

set_option maxRecDepth 100000 in
set_option maxHeartbeats 1000000 in
theorem p09_Lay {A n c xs} {w : World} (hs : Sl w .i32 A n c xs) (hn : n ≤ 1073741824) :
    Calls Try.prog 23 #[.slice A n c] w (RetOwn (fun v => .tuple #[v, .int .i64 (err9 xs)]) 5 .u8 (lay9 xs) w) := by
  have HL := Lib.hid hs.len
  go_enter Try.func23, Try.ntmps23
  go_wp2
  go_loopw [4, 11] (fun v i wr => ∃ k : Nat, k ≤ n ∧ i = .int .i64 k ∧ Hid (∀ x ∈ xs.take k, has9 x = true) ∧ Own wr w.heap.size 5 .u8 v ((xs.take k).map oct9) ∧ Below w.heap.size w wr) (fun _ i _ => n - (intOf i).toNat)
  case atStart => exact ⟨0, Nat.zero_le _, rfl, by show ∀ x ∈ xs.take 0, _; simp, Own.nil _ _ _ _, Below.refl _ _⟩
  case round =>
    obtain ⟨k, hk, rfl, hA, ho, hbel⟩ := hrel
    have hz := hbel.size
    have hs' := hs.bel hbel
    have HT : ((xs.take k).map oct9).length ≤ k := by simp; omega
    by_cases hlt : k < n
    · obtain ⟨b, o, x, rfl, hb, hcell, hwf, hd, ht⟩ := hs'.get hlt
      have hk1 : (xs.take (k + 1)).map oct9 = (xs.take k).map oct9 ++ [oct9 x] := by rw [ht]; simp
      have HT1 := Lib.hid ht; clear ht
      have HD := Lib.hid hd; clear hd
      have HK := Lib.hid hk1; clear hk1
      by_cases hx : has9 x = true
      · go_wp2_with (first | (go_at_call 10; refine (p09_Put hwf).mono ?_; rintro e w1 ⟨rfl, hb1⟩; have hz1 := hb1.size) | (at_builtin; refine wpList_app rfl rfl eltB (by decide) rfl rfl ((ho.below hb1).alloc _) (Sl.one _ _ _ _ (oct9_wf _)) ((below_then hbel hb1).alloc (by omega) _) (by refine ⟨?_, ?_⟩ <;> first | omega | (simp; done) | (simp; omega)) (by first | omega | (simp; done) | (simp; omega)) ?_; intro v1 w2 ho1 hb2 hg1))
        (go_roundw; (case rel => exact ⟨k + 1, by omega, by go_num, by show ∀ y ∈ _, _; rw [HT1.out]; intro y hy; rcases List.mem_append.1 hy with hy | hy; exact hA.out y hy; simp at hy; subst hy; exact hx, by rw [HK.out]; exact ho1, hb2⟩); (case measure => simp [intOf]; omega))
      · have hx' : has9 x = false := by simpa using hx
        have hall : xs.all has9 = false := by rw [all_take_drop hA.out, HD.out]; simp [hx']
        have HA := Lib.hid hall; clear hall
        go_wp2_with (go_at_call 10; refine (p09_Put hwf).mono ?_; rintro e w1 ⟨rfl, hb1⟩)
        go_ret2
        exact ⟨.slice none 0 0, ret2 rfl (vint (lay9_no HA.out).2.symm), by rw [(lay9_no HA.out).1]; exact Own.nil _ _ _ _, below_then hbel hb1⟩
    · have hall : xs.all has9 = true := by rw [all_take_drop hA.out, List.drop_eq_nil_of_le (by have := HL.out; omega)]; rfl
      have HA := Lib.hid hall; clear hall
      go_wp2
      go_ret2
      exact ⟨_, ret2 rfl (vint (lay9_yes HA.out).2.symm), by rw [List.take_of_length_le (by have := HL.out; omega)] at ho; rw [(lay9_yes HA.out).1]; exact ho, hbel⟩

set_option maxRecDepth 100000 in
set_option maxHeartbeats 1000000 in
theorem p09_Read {A n c xs} {w : World} (hs : Sl w .u8 A n c xs) (hn : n ≤ 1073741824) :
    Calls Try.prog 29 #[.slice A n c] w (RetOwn id 21 .i32 (xs.map sign9) w) := by
  have HL := Lib.hid hs.len
  go_enter Try.func29, Try.ntmps29
  go_wp2
  go_loopw [3, 8] (fun v i wr => ∃ k : Nat, k ≤ n ∧ i = .int .i64 k ∧ Own wr w.heap.size 21 .i32 v ((xs.take k).map sign9) ∧ Below w.heap.size w wr) (fun _ i _ => n - (intOf i).toNat)
  case atStart => exact ⟨0, Nat.zero_le _, rfl, Own.nil _ _ _ _, Below.refl _ _⟩
  case round =>
    obtain ⟨k, hk, rfl, ho, hbel⟩ := hrel
    have hz := hbel.size
    have hs' := hs.bel hbel
    have HT : ((xs.take k).map sign9).length ≤ k := by simp; omega
    by_cases hlt : k < n
    · obtain ⟨b, o, x, rfl, hb, hcell, hwf, _, ht⟩ := hs'.get hlt
      have hk1 : (xs.take (k + 1)).map sign9 = (xs.take k).map sign9 ++ [sign9 x] := by rw [ht]; simp
      clear ht
      have HK := Lib.hid hk1; clear hk1
      go_wp2_with (first | (go_at_call 13; refine (p09_Sign hwf).mono ?_; rintro e w1 ⟨rfl, hb1⟩; have hz1 := hb1.size) | (at_builtin; refine wpList_app rfl rfl eltR (by decide) rfl rfl ((ho.below hb1).alloc _) (Sl.one _ _ _ _ (sign9_wf hwf)) ((below_then hbel hb1).alloc (by omega) _) (by refine ⟨?_, ?_⟩ <;> first | omega | (simp; done) | (simp; omega)) (by first | omega | (simp; done) | (simp; omega)) ?_; intro v1 w2 ho1 hb2 hg1))
      (go_roundw; (case rel => exact ⟨k + 1, by omega, by go_num, by rw [HK.out]; exact ho1, hb2⟩); (case measure => simp [intOf]; omega))
    · go_wp2
      go_ret
      exact ⟨_, rfl, by rw [List.take_of_length_le (by have := HL.out; omega)] at ho; exact ho, hbel⟩
end Go.Proofs.Ytilplkbepcbbmaa
