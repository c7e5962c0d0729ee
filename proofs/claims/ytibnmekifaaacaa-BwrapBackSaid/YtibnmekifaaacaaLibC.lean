/- Functions of Go's library that compare octets: bytes.Equal, HasSuffix, TrimSuffix. Conditions: the arguments read as lists. -/
import Derived.Test.YtibnmekifaaacaaLibB
import Derived.Lib.Bytes
namespace Go.Proofs.Ytibnmekifaaacaa
open Go.RowKit

theorem Sl.str {P : Program} {w : World} {A : Option Addr} {n c : Nat} {xs : List Int} (h : Sl w .u8 A n c xs) (src e dst : TypeId) (hs : P.underlying src = some (.slice e)) (he : P.underlying e = some (.int .u8)) (hd : P.underlying dst = some .string) :
    (convert src dst (.slice A n c)).run P w = .ok (.string (strOfNums xs)) w := by
  rcases Nat.eq_zero_or_pos n with hn | hn
  · subst hn
    obtain rfl : xs = [] := List.eq_nil_of_length_eq_zero h.len
    rw [run_convert_bytes_string w src dst e _ 0 c hs he hd]
    cases A <;> simp [Conv.bytesToString, loadCells] <;> rfl
  · obtain ⟨b, o, rfl, _, hc⟩ := h.at_ hn
    exact run_convert_bytes_arg (P := P) w src e hs he b o n c xs h.len hc dst hd
theorem str_beq {xs ys : List Int} (hx : ∀ x ∈ xs, (Lit.int .u8 x).wf = true) (hy : ∀ x ∈ ys, (Lit.int .u8 x).wf = true) : ((strOfNums xs).toList == (strOfNums ys).toList) = likeL xs ys := by
  rw [Lib.strOfNums_toList, Lib.strOfNums_toList, Bool.eq_iff_iff]
  simp only [beq_iff_eq, likeL, decide_eq_true_iff]
  constructor
  · intro h
    rw [← natL_bytesOf hx, ← natL_bytesOf hy, h]
  · intro h; rw [h]

set_option maxRecDepth 100000 in
set_option maxHeartbeats 1000000 in
theorem lib_BEqual {A n c xs A' n' c' ys} {w : World} (hs : Sl w .u8 A n c xs) (ht : Sl w .u8 A' n' c' ys) :
    Calls Try.prog 53 #[.slice A n c, .slice A' n' c'] w (Ret (.bool (likeL xs ys)) w) := by
  have e1 := hs.str (P := Try.prog) 22 5 9 Try.underlying22 Try.underlying5 Try.underlying9
  have e2 := ht.str (P := Try.prog) 22 5 9 Try.underlying22 Try.underlying5 Try.underlying9
  have hb := Lib.hid (str_beq hs.wf ht.wf)
  obtain ⟨s1, h1⟩ : ∃ s1, strOfNums xs = s1 := ⟨_, rfl⟩
  obtain ⟨s2, h2⟩ : ∃ s2, strOfNums ys = s2 := ⟨_, rfl⟩
  rw [h1] at e1
  rw [h2] at e2
  have hb2 : (s1.toList == s2.toList) = likeL xs ys := by rw [← h1, ← h2]; exact hb.out
  clear hb h1 h2
  have HB := Lib.hid hb2; clear hb2
  go_enter Try.func53, Try.ntmps53
  go_wp2
  go_ret
  exact ⟨ret_bool HB.out, rfl⟩

/-- does a list end with another? -/
def endsWith (xs ys : List Int) : Bool := decide (ys.length ≤ xs.length) && likeL (xs.drop (xs.length - ys.length)) ys
set_option maxRecDepth 100000 in
set_option maxHeartbeats 1000000 in
theorem lib_HasSuffix {A n c xs A' n' c' ys} {w : World} (hs : Sl w .u8 A n c xs) (ht : Sl w .u8 A' n' c' ys) :
    Calls Try.prog 57 #[.slice A n c, .slice A' n' c'] w (Ret (.bool (endsWith xs ys)) w) := by
  have HL := Lib.hid hs.len; have hle := hs.le; have hcm := hs.cm; unfold maxLen at hcm
  have HL' := Lib.hid ht.len
  have hle' := ht.le
  have hcm' := ht.cm
  unfold maxLen at hcm'
  by_cases hlt : n' ≤ n
  · by_cases hc : c = n - n'
    · have hs2 : Sl w .u8 A (n - (n - n')) 0 [] := by
        have h0 : n' = 0 := by omega
        rw [show n - (n - n') = 0 from by omega]; exact Sl.none_
      have hy : ys = [] := List.eq_nil_of_length_eq_zero (by have := HL'.out; omega)
      have HY := Lib.hid hy; clear hy
      go_enter Try.func57, Try.ntmps57
      go_wp2_with (go_at_call 53; refine (lib_BEqual hs2 ht).mono ?_; rintro e w' ⟨rfl, rfl⟩)
      go_ret
      exact ⟨ret_bool (by rw [HY.out]; simp [endsWith, likeL]), rfl⟩
    · have hs2 := hs.cut (lo := n - n') (hi := n) (m := n - (n - n')) (c' := c - (n - n')) (by omega) (Nat.le_refl _) rfl rfl
      rw [List.take_of_length_le (by have := HL.out; omega)] at hs2
      go_enter Try.func57, Try.ntmps57
      go_wp2_with (go_at_call 53; refine (lib_BEqual hs2 ht).mono ?_; rintro e w' ⟨rfl, rfl⟩)
      go_ret
      exact ⟨ret_bool (by have h1 := HL.out; have h2 := HL'.out; unfold endsWith; rw [h1, h2]; simp [hlt]), rfl⟩
  · have hlt' : ¬ ((n' : Int) ≤ n) := by omega
    go_enter Try.func57, Try.ntmps57
    go_wp2
    go_ret
    exact ⟨ret_bool (by have h1 := HL.out; have h2 := HL'.out; simp [endsWith]; omega), rfl⟩

def trimL (xs ys : List Int) : List Int := if endsWith xs ys then xs.take (xs.length - ys.length) else xs
set_option maxRecDepth 100000 in
set_option maxHeartbeats 1000000 in
theorem lib_TrimSuffix {A n c xs A' n' c' ys} {w : World} (hs : Sl w .u8 A n c xs) (ht : Sl w .u8 A' n' c' ys) :
    Calls Try.prog 47 #[.slice A n c, .slice A' n' c'] w (fun e w' => ∃ m, e = .returned (.slice A m c) ∧ m ≤ n ∧ Sl w .u8 A m c (trimL xs ys) ∧ w = w') := by
  have HL := Lib.hid hs.len; have hle := hs.le; have hcm := hs.cm; unfold maxLen at hcm
  have HL' := Lib.hid ht.len
  have hle' := ht.le
  have hcm' := ht.cm
  unfold maxLen at hcm'
  by_cases he : endsWith xs ys = true
  · have hlt : n' ≤ n := by
      have h := he
      simp only [endsWith, Bool.and_eq_true, decide_eq_true_iff] at h
      have := HL.out; have := HL'.out; omega
    have hs2 := hs.take_ (m := n - n') (by omega)
    have ht2 : trimL xs ys = xs.take (n - n') := by unfold trimL; rw [if_pos he, HL.out, HL'.out]
    rw [← ht2] at hs2
    clear ht2
    go_enter Try.func47, Try.ntmps47
    go_wp2_with (go_at_call 57; refine (lib_HasSuffix hs ht).mono ?_; rintro e w' ⟨rfl, rfl⟩)
    go_ret
    exact ⟨n - n', rfl, by omega, hs2, rfl⟩
  · have hf : endsWith xs ys = false := by simpa using he
    have ht2 : trimL xs ys = xs := by unfold trimL; rw [hf]; rfl
    have HT := Lib.hid ht2; clear ht2
    go_enter Try.func47, Try.ntmps47
    go_wp2_with (go_at_call 57; refine (lib_HasSuffix hs ht).mono ?_; rintro e w' ⟨rfl, rfl⟩)
    go_ret
    exact ⟨n, rfl, Nat.le_refl _, by rw [HT.out]; exact hs, rfl⟩
end Go.Proofs.Ytibnmekifaaacaa
