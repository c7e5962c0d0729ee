/- Layer 01 (octet) in plain words: what is folded and trimmed, and what the library's Trim gives. Conditions: each lemma bears its own. -/
import Derived.Test.YtkphnhbblbamgaaDoor01Q
import Derived.Test.YtkphnhbblbamgaaDoorLibC
import Derived.Test.YtkphnhbblbamgaaDoorShelf
namespace Go.Proofs.YtkphnhbblbamgaaDoor
open Go.RowKit

/-- without blanks ahead; behind -/
def ldr : List Int → List Int
  | [] => []
  | x :: r => if blkB x then ldr r else x :: r
def rdr : List Int → List Int
  | [] => []
  | x :: r => if rdr r = [] then (if blkB x then [] else [x]) else x :: rdr r
def tbL (xs : List Int) : List Int := rdr (ldr xs)
theorem ldr_yes {x : Int} {r : List Int} (h : blkB x = true) : ldr (x :: r) = ldr r := by rw [ldr, if_pos h]
theorem ldr_no {x : Int} {r : List Int} (h : blkB x = false) : ldr (x :: r) = x :: r := by rw [ldr, if_neg (by simp [h])]
theorem ldr_suf (xs : List Int) : (ldr xs).length ≤ xs.length ∧ ldr xs = xs.drop (xs.length - (ldr xs).length) := by
  induction xs with
  | nil => exact ⟨Nat.le_refl _, rfl⟩
  | cons x r ih =>
    cases h : blkB x with
    | true =>
      rw [ldr_yes h]
      refine ⟨by simp only [List.length_cons]; omega, ?_⟩
      rw [List.length_cons, show r.length + 1 - (ldr r).length = (r.length - (ldr r).length) + 1 from by omega, List.drop_succ_cons]
      exact ih.2
    | false => rw [ldr_no h]; exact ⟨Nat.le_refl _, by simp⟩
theorem rdr_pre (xs : List Int) : (rdr xs).length ≤ xs.length ∧ rdr xs = xs.take (rdr xs).length := by
  induction xs with
  | nil => exact ⟨Nat.le_refl _, rfl⟩
  | cons x r ih =>
    unfold rdr
    split
    · split
      · exact ⟨by simp, by simp⟩
      · exact ⟨by simp, by simp⟩
    · refine ⟨by simp only [List.length_cons]; omega, ?_⟩
      rw [List.length_cons, List.take_succ_cons, ← ih.2]
theorem rdr_snoc (l : List Int) (y : Int) : rdr (l ++ [y]) = if blkB y then rdr l else l ++ [y] := by
  induction l with
  | nil => simp [rdr]
  | cons x r ih =>
    rw [List.cons_append]
    cases h : blkB y with
    | true =>
      rw [h] at ih
      simp only [if_true] at ih ⊢
      rw [rdr, ih, rdr]
    | false =>
      rw [h] at ih
      simp only [Bool.false_eq_true, if_false] at ih ⊢
      rw [rdr, ih, if_neg (by simp)]
/-- it makes no difference which end is first -/
theorem trim_swap (xs : List Int) : ldr (rdr xs) = rdr (ldr xs) := by
  induction xs with
  | nil => rfl
  | cons x r ih =>
    cases h : blkB x with
    | true =>
      rw [ldr_yes h, ← ih, rdr, if_pos h]
      split
      · rename_i h0; rw [h0]
      · rw [ldr_yes h]
    | false =>
      rw [ldr_no h, rdr]
      split
      · rw [h]; simp [ldr, h]
      · rw [ldr_no h]
theorem isL2 {c : Int} (hc : 0 ≤ c ∧ c ≤ 255) : isL c 2 = blkB c := by
  have := byteAll (fun c => decide (isL c 2 = blkB c)) (by decide +kernel) hc
  exact of_decide_eq_true this
theorem blk_contains {x : Int} (h : 0 ≤ x ∧ x < 256) : ([32, 9] : List UInt8).contains (UInt8.ofNat x.toNat) = blkB x := by
  have := byteAll (fun x => decide (([32, 9] : List UInt8).contains (UInt8.ofNat x.toNat) = blkB x)) (by decide +kernel) (c := x) (by omega)
  exact of_decide_eq_true this
theorem bytesOf_cons (x : Int) (r : List Int) : Lib.bytesOf (x :: r) = UInt8.ofNat x.toNat :: Lib.bytesOf r := rfl
theorem bytesOf_nil {xs : List Int} : Lib.bytesOf xs = [] ↔ xs = [] := by cases xs <;> simp [Lib.bytesOf]
theorem trimL_ldr {xs : List Int} (h : ∀ x ∈ xs, 0 ≤ x ∧ x < 256) : Lib.trimLeftS (Lib.bytesOf xs) [32, 9] = Lib.bytesOf (ldr xs) := by
  unfold Lib.trimLeftS
  induction xs with
  | nil => rfl
  | cons x r ih =>
    have ih := ih fun y hy => h y (by simp [hy])
    have hx := blk_contains (h x (by simp))
    rw [bytesOf_cons, List.dropWhile_cons, hx]
    cases hb : blkB x with
    | true => rw [ldr_yes hb]; simpa using ih
    | false => rw [ldr_no hb]; simp [bytesOf_cons]
theorem trimR_rdr {xs : List Int} (h : ∀ x ∈ xs, 0 ≤ x ∧ x < 256) : Lib.trimRightS (Lib.bytesOf xs) [32, 9] = Lib.bytesOf (rdr xs) := by
  unfold Lib.trimRightS
  induction xs with
  | nil => rfl
  | cons x r ih =>
    have ih := ih fun y hy => h y (by simp [hy])
    have hx := blk_contains (h x (by simp))
    have ih2 : (Lib.bytesOf r).reverse.dropWhile (([32, 9] : List UInt8).contains ·) = (Lib.bytesOf (rdr r)).reverse := by rw [← ih, List.reverse_reverse]
    rw [bytesOf_cons, List.reverse_cons, List.dropWhile_append, ih2, rdr]
    by_cases h0 : rdr r = []
    · rw [if_pos h0, h0]
      simp only [Lib.bytesOf, List.map_nil, List.reverse_nil, List.isEmpty_nil, if_true, List.dropWhile_cons, hx]
      cases blkB x <;> simp [Lib.bytesOf]
    · rw [if_neg h0]
      have : (Lib.bytesOf (rdr r)).reverse.isEmpty = false := by
        cases hb : (Lib.bytesOf (rdr r)).reverse with
        | nil => exact absurd (bytesOf_nil.1 (by simpa using hb)) h0
        | cons _ _ => rfl
      rw [this]
      simp [bytesOf_cons]
theorem trimS_tbL {xs : List Int} (h : ∀ x ∈ xs, 0 ≤ x ∧ x < 256) : Lib.trimS (Lib.bytesOf xs) [32, 9] = Lib.bytesOf (tbL xs) := by
  unfold Lib.trimS
  rw [trimR_rdr h, trimL_ldr (fun x hx => h x (by rw [(rdr_pre xs).2] at hx; exact List.mem_of_mem_take hx)), trim_swap]; rfl
theorem tbL_len (xs : List Int) : (tbL xs).length ≤ xs.length := Nat.le_trans (rdr_pre _).1 (ldr_suf xs).1

/-- returns a slice that reads as xs; what was there is as it was -/
def RetRd (xs : List Int) (w : World) (e : Ending) (w' : World) : Prop := ∃ A n c, e = .returned (.slice A n c) ∧ Sl w' .u8 A n c xs ∧ Below w.heap.size w w'
/-- bytes.Trim at the two blanks -/
theorem lib_Trim {A n c xs} {w : World} (hs : Sl w .u8 A n c xs) : Calls Tryd.prog 39 #[.slice A n c, .string { data := #[32, 9] }] w (RetRd (tbL xs) w) := by
  have hr : ∀ x ∈ xs, 0 ≤ x ∧ x < 256 := fun x hx => by have := wf_u8.1 (hs.wf x hx); omega
  have hcm := hs.cm
  unfold maxLen at hcm
  have hin : Lib.BytesIn w A n xs := fun hn => by
    obtain ⟨b, o, e, _, hc⟩ := hs.at_ hn
    exact ⟨b, o, e, hc⟩
  refine (Tryd.bytes_Trim_l A n c xs { data := #[32, 9] } w hs.len hs.le (by omega) hin hr (by decide) (fun j b h => by
    have hm : b ∈ ([32, 9] : List UInt8) := List.mem_of_getElem? h
    simp only [List.mem_cons, List.not_mem_nil, or_false] at hm
    rcases hm with rfl | rfl <;> decide)).mono ?_
  rintro e w1 ⟨rfl, hb⟩
  have e1 : ({ data := #[32, 9] } : ByteArray).data.toList = [32, 9] := rfl
  rw [e1, trimR_rdr hr, trimS_tbL hr, Lib.bytesOf_length, Lib.bytesOf_length]
  have hk := (rdr_pre xs).1
  have hk2 := (rdr_pre xs).2
  have ht := ldr_suf (rdr xs)
  rw [trim_swap] at ht
  have ht1 : (tbL xs).length ≤ (rdr xs).length := ht.1
  have ht2 : tbL xs = (rdr xs).drop ((rdr xs).length - (tbL xs).length) := ht.2
  have hln := hs.len
  by_cases h0 : (rdr xs).length - (tbL xs).length = (rdr xs).length
  · unfold Lib.leftV
    rw [if_pos h0]
    have : tbL xs = [] := by rw [ht2, h0, List.drop_length]
    exact ⟨none, 0, 0, rfl, by rw [this]; exact Sl.nil _ _, hb⟩
  · unfold Lib.leftV Lib.fromV
    rw [if_neg h0]
    have hs1 := (hs.take_ (m := (rdr xs).length) (by omega)).bel hb
    rw [← hk2] at hs1
    have hcut := hs1.cut (lo := (rdr xs).length - (tbL xs).length) (hi := (rdr xs).length) (m := (rdr xs).length - ((rdr xs).length - (tbL xs).length)) (c' := c - ((rdr xs).length - (tbL xs).length)) (by omega) (Nat.le_refl _) rfl rfl
    rw [List.take_length, ← ht2] at hcut
    have hle := hs.le
    rw [if_neg (by omega)]
    exact ⟨_, _, _, rfl, hcut, hb⟩
end Go.Proofs.YtkphnhbblbamgaaDoor
