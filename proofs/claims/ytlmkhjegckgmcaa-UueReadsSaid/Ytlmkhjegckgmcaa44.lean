/- Layer 44 (uue): digits and values: what the functions of the program and of the reference return; the layer's memory. Conditions: none but the arguments' forms. -/
import Derived.Test.Ytlmkhjegckgmcaa44A
import Derived.Test.Ytlmkhjegckgmcaa44S
import Derived.Test.Ytlmkhjegckgmcaa26M
import Derived.Handy
namespace Go.Proofs.Ytlmkhjegckgmcaa
open Go.RowKit

set_option maxRecDepth 100000 in
set_option maxHeartbeats 1000000 in
theorem p44_Digit {n : Int} {w : World} : Calls Try.prog 50 #[.int .i64 n] w (Ret (.int .u8 (digU n)) w) := by
  have ha := and63 n
  obtain ⟨k, hk⟩ : ∃ k, n % 64 = k := ⟨_, rfl⟩
  have hk1 : 0 ≤ k := by omega
  have hk2 : k < 64 := by omega
  rw [hk] at ha
  have hd : digU n = if k = 0 then 96 else k + 32 := by unfold digU; rw [hk]
  clear hk
  by_cases h0 : k = 0
  · subst h0
    rw [if_pos rfl] at hd
    have HD := Lib.hid hd; clear hd
    go_enter Try.func50, Try.ntmps50
    go_wp2
    go_ret
    exact ⟨ret_int HD.out.symm, rfl⟩
  · rw [if_neg h0] at hd
    have HD := Lib.hid hd; clear hd
    go_enter Try.func50, Try.ntmps50
    go_wp2
    go_ret
    exact ⟨ret_int (by rw [HD.out]), rfl⟩
set_option maxRecDepth 100000 in
set_option maxHeartbeats 1000000 in
theorem r44_Digit {n : Int} {w : World} (hn : (Lit.int .i64 n).wf = true) : Calls Try.prog 51 #[.int .i64 n] w (Ret (.int .u8 (digU n)) w) := by
  obtain ⟨hn1, hn2⟩ := wf_i64.1 hn
  obtain ⟨k, hk⟩ : ∃ k, n % 64 = k := ⟨_, rfl⟩
  have hk1 : 0 ≤ k := by omega
  have hk2 : k < 64 := by omega
  have hd : digU n = if k = 0 then 96 else k + 32 := by unfold digU; rw [hk]
  obtain ⟨r, hr⟩ : ∃ r, n.tmod 64 = r := ⟨_, rfl⟩
  have hr3 : (r + 64).tmod 64 = k ∧ -64 < r ∧ r < 64 := by
    have h1 := Int.tmod_eq_emod (a := n) (b := 64)
    have h2 : (64 : Int).natAbs = 64 := rfl
    rw [h2, hr] at h1
    have h3 := Int.tmod_eq_emod (a := r + 64) (b := 64)
    rw [h2] at h3
    split at h1 <;> split at h3 <;> (refine ⟨?_, ?_, ?_⟩ <;> omega)
  obtain ⟨hr4, hr5, hr6⟩ := hr3
  clear hk
  by_cases h0 : k = 0
  · subst h0
    rw [if_pos rfl] at hd
    have HD := Lib.hid hd; clear hd
    go_enter Try.func51, Try.ntmps51
    go_wp2
    go_ret
    exact ⟨ret_int HD.out.symm, rfl⟩
  · rw [if_neg h0] at hd
    have HD := Lib.hid hd; clear hd
    go_enter Try.func51, Try.ntmps51
    go_wp2
    go_ret
    exact ⟨ret_int (by rw [HD.out]), rfl⟩
/-- a digit's number, as the reference says it -/
def valR (c : Int) : Int := if okU c then valU c else 0
set_option maxRecDepth 100000 in
set_option maxHeartbeats 1000000 in
theorem p44_Value {c : Int} {w : World} (hc : (Lit.int .u8 c).wf = true) : Calls Try.prog 46 #[.int .u8 c] w (Ret (.tuple #[.int .i64 (valR c), .bool (okU c)]) w) := by
  obtain ⟨hc1, hc2⟩ := wf_u8.1 hc
  have ha := and63 (c - 32)
  by_cases h1 : c < 32
  · have e : okU c = false := by unfold okU; exact decide_eq_false (by omega)
    have e2 : valR c = 0 := by unfold valR; rw [e]; rfl
    rw [e, e2]
    go_enter Try.func46, Try.ntmps46
    go_wp2
    go_ret2
    exact ⟨rfl, rfl⟩
  · by_cases h2 : 96 < c
    · have e : okU c = false := by unfold okU; exact decide_eq_false (by omega)
      have e2 : valR c = 0 := by unfold valR; rw [e]; rfl
      rw [e, e2]
      go_enter Try.func46, Try.ntmps46
      go_wp2
      go_ret2
      exact ⟨rfl, rfl⟩
    · have e : okU c = true := by unfold okU; exact decide_eq_true (by omega)
      have e2 : valR c = (c - 32) % 64 := by unfold valR; rw [e]; rfl
      rw [e, e2]
      have HA := Lib.hid ha
      go_enter Try.func46, Try.ntmps46
      go_wp2
      go_ret2
      exact ⟨ret2 (vint (by first | rfl | exact HA.out)) rfl, rfl⟩
set_option maxRecDepth 100000 in
set_option maxHeartbeats 1000000 in
theorem r44_Value {c : Int} {w : World} (hc : (Lit.int .u8 c).wf = true) : Calls Try.prog 47 #[.int .u8 c] w (Ret (.tuple #[.int .i64 (valR c), .bool (okU c)]) w) := by
  obtain ⟨hc1, hc2⟩ := wf_u8.1 hc
  by_cases h1 : c < 32
  · have e : okU c = false := by unfold okU; exact decide_eq_false (by omega)
    have e2 : valR c = 0 := by unfold valR; rw [e]; rfl
    rw [e, e2]
    go_enter Try.func47, Try.ntmps47
    go_wp2
    go_ret2
    exact ⟨rfl, rfl⟩
  · by_cases h2 : 96 < c
    · have e : okU c = false := by unfold okU; exact decide_eq_false (by omega)
      have e2 : valR c = 0 := by unfold valR; rw [e]; rfl
      rw [e, e2]
      go_enter Try.func47, Try.ntmps47
      go_wp2
      go_ret2
      exact ⟨rfl, rfl⟩
    · have e : okU c = true := by unfold okU; exact decide_eq_true (by omega)
      have e2 : valR c = (c - 32) % 64 := by unfold valR; rw [e]; rfl
      rw [e, e2]
      go_enter Try.func47, Try.ntmps47
      go_wp2
      go_ret2
      exact ⟨ret2 (vint (by first | rfl | omega)) rfl, rfl⟩
end Go.Proofs.Ytlmkhjegckgmcaa
