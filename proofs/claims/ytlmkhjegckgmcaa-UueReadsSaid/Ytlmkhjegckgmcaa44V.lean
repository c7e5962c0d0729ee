/- Layer 44 (uue): a file's beginning and end, by the program: what bytes.CutPrefix and rest return. Conditions: the arguments read as lists. -/
import Derived.Test.Ytlmkhjegckgmcaa44K
import Derived.Test.Ytlmkhjegckgmcaa44U
namespace Go.Proofs.Ytlmkhjegckgmcaa
open Go.RowKit

theorem pre_take {xs ys : List Int} (hx : ∀ x ∈ xs, 0 ≤ x ∧ x < 256) (hy : ∀ x ∈ ys, 0 ≤ x ∧ x < 256) : Lib.hasPrefix (Lib.bytesOf xs) (Lib.bytesOf ys) = decide (xs.take ys.length = ys) := by
  unfold Lib.hasPrefix
  induction ys generalizing xs with
  | nil => simp [Lib.bytesOf]
  | cons y r ih =>
    cases xs with
    | nil => simp [Lib.bytesOf]
    | cons x t =>
      have e := u8_eq (hy y (by simp)) (hx x (by simp))
      have ih := ih (xs := t) (fun z hz => hx z (by simp [hz])) (fun z hz => hy z (by simp [hz]))
      have e1 : Lib.bytesOf (x :: t) = UInt8.ofNat x.toNat :: Lib.bytesOf t := rfl
      have e2 : Lib.bytesOf (y :: r) = UInt8.ofNat y.toNat :: Lib.bytesOf r := rfl
      rw [e1, e2, List.isPrefixOf, ih, e, List.length_cons, List.take_succ_cons]
      rw [Bool.eq_iff_iff]
      simp only [Bool.and_eq_true, decide_eq_true_iff, List.cons.injEq]
      exact ⟨fun h => ⟨h.1.symm, h.2⟩, fun h => ⟨h.1.symm, h.2⟩⟩
theorem lib_CutPrefix {A n c xs A' c'} {w : World} (hs : Sl w .u8 A n c xs) (ht : Sl w .u8 A' 10 c' begU) :
    Calls Try.prog 75 #[.slice A n c, .slice A' 10 c'] w (Ret (.tuple #[if xs.take 10 = begU then .slice (tailA A c 10) (n - 10) (c - 10) else .slice A n c, .bool (decide (xs.take 10 = begU))]) w) := by
  refine (Try.bytes_CutPrefix_all A A' n c 10 c' xs begU w hs.len rfl hs.le hs.bytesIn ht.bytesIn).mono ?_
  rintro e w1 ⟨rfl, rfl⟩
  have hp := pre_take hs.rng ht.rng
  rw [show begU.length = 10 from rfl] at hp
  rw [hp]
  refine ⟨?_, rfl⟩
  by_cases h : xs.take 10 = begU
  · have h10 : 10 ≤ n := by
      have := congrArg List.length h
      rw [List.length_take, show begU.length = 10 from rfl, hs.len] at this
      omega
    obtain ⟨b, o, rfl, _⟩ := hs.form (by omega)
    rw [if_pos h]
    show Ending.returned (.tuple #[Lib.bytesTrimPrefix b o n c xs begU, _]) = _
    unfold Lib.bytesTrimPrefix
    rw [hp, decide_eq_true h, if_pos rfl]
    unfold Lib.sliceFrom tailA
    rw [show begU.length = 10 from rfl]
    by_cases hc : c = 10
    · rw [if_pos hc]; simp [hc]
    · rw [if_neg hc]; simp [hc, add_plain]
  · rw [if_neg h, decide_eq_false h]
    unfold Lib.trimPrefixV
    split
    · unfold Lib.bytesTrimPrefix
      rename_i b o y r
      rw [hp, decide_eq_false h]; rfl
    · rfl

theorem end_beq {x : List Int} (hx : ∀ y ∈ x, (Lit.int .u8 y).wf = true) : ((strOfNums x).toList == [101, 110, 100]) = decide (x = endU) := by
  have e2 : ([101, 110, 100] : List UInt8) = (strOfNums endU).toList := by rw [Lib.strOfNums_toList]; rfl
  rw [e2, str_beq hx (by decide)]; rfl
set_option maxRecDepth 100000 in
set_option maxHeartbeats 1000000 in
theorem p44_rest {A n c ls} {w : World} (hs : Lns w A n c ls) : Calls Try.prog 76 #[.slice A n c] w (Ret (.int .i64 (restU ls)) w) := by
  have hl := hs.len
  have hle := hs.le
  have hcm := hs.cm
  unfold maxLen at hcm
  match ls, hl, hs with
  | [], hl, hs =>
    obtain rfl : n = 0 := by simpa using hl.symm
    go_enter Try.func76, Try.ntmps76
    go_wp2
    go_ret
    exact ⟨rfl, rfl⟩
  | [l], hl, hs =>
    obtain rfl : n = 1 := by simpa using hl.symm
    obtain ⟨b, o, A1, n1, c1, x, rfl, hb, hcell, hx, hxe, _, _⟩ := hs.get (j := 0) (by omega)
    obtain rfl : l = x := hxe
    simp only [Nat.add_zero] at hcell
    have q1 := hx.str (P := Try.prog) 22 5 9 Try.underlying22 Try.underlying5 Try.underlying9
    have hbq := end_beq hx.wf
    obtain ⟨s1, hs1⟩ : ∃ s1, strOfNums l = s1 := ⟨_, rfl⟩
    rw [hs1] at q1 hbq
    clear hs1
    by_cases he : l = endU
    · rw [decide_eq_true he] at hbq
      have HE := Lib.hid (show restU [l] = 0 from if_pos he)
      clear he
      go_enter Try.func76, Try.ntmps76
      go_wp2
      go_ret
      exact ⟨ret_int HE.out.symm, rfl⟩
    · rw [decide_eq_false he] at hbq
      have HE := Lib.hid (show restU [l] = 3 from if_neg he)
      clear he
      go_enter Try.func76, Try.ntmps76
      go_wp2
      go_ret
      exact ⟨ret_int HE.out.symm, rfl⟩
  | a :: b :: r, hl, hs =>
    have hn2 : 2 ≤ n := by rw [← hl]; simp
    have HE := Lib.hid (show restU (a :: b :: r) = 3 from rfl)
    clear hl hs
    go_enter Try.func76, Try.ntmps76
    go_wp2
    go_ret
    exact ⟨ret_int HE.out.symm, rfl⟩
end Go.Proofs.Ytlmkhjegckgmcaa
