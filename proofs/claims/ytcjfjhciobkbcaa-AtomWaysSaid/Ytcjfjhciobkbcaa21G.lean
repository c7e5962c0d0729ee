/- Layer 21 (pct): whether octets are a code: the program. Conditions: the arguments read as lists; lengths at most 2^22. -/
import Derived.Test.Ytcjfjhciobkbcaa21F
namespace Go.Proofs.Ytcjfjhciobkbcaa
open Go.RowKit

def cV (p : List (Int × Bool)) : Int := if rtV p then 0 else 3
set_option maxRecDepth 100000 in
set_option maxHeartbeats 1000000 in
theorem p21_Check1 {w W : World} {p : List (Int × Bool)} {x : Int} {b : Bool} (hx : (Lit.int .u8 x).wf = true) (hJ : JS w 31 cV p W) :
    Calls Try.prog 67 #[.int .u8 x, .bool b, .pointer (some ⟨w.heap.size, 0, none⟩)] W (fun e W' => e = .returned (.tuple #[]) ∧ JS w 31 cV (p ++ [(x, b)]) W') := by
  obtain ⟨ho, hbel⟩ := hJ
  obtain ⟨hcell, hfr, hlt, hset⟩ := ho.var
  have happ := rtV_app p (x, b)
  cases b with
  | true =>
    have e : cV (p ++ [(x, true)]) = cV p := by unfold cV; rw [happ]; simp
    have HA := Lib.hid e
    clear e happ hset
    go_enter Try.func67, Try.ntmps67
    go_wp2
    go_end0
    exact ⟨rfl, by rw [HA.out]; exact ho, hbel⟩
  | false =>
    by_cases hq : isL x 256 = true
    · have e : cV (p ++ [(x, false)]) = cV p := by unfold cV; rw [happ, hq]; simp
      have HA := Lib.hid e
      clear e happ hset
      go_enter Try.func67, Try.ntmps67
      go_wp2_with (go_at_call 59; refine (p01_Is hx).mono ?_; rintro e w' ⟨rfl, rfl⟩)
      go_end0
      exact ⟨rfl, by rw [HA.out]; exact ho, hbel⟩
    · have hq' : isL x 256 = false := by simpa using hq
      have e : cV (p ++ [(x, false)]) = 3 := by unfold cV; rw [happ, hq']; simp
      have h2 := hset 3 (by decide)
      have hb2 := hbel.setCell (p := ⟨w.heap.size, 0, none⟩) (Nat.le_refl _) (.int .i64 3)
      have HA := Lib.hid e
      clear e happ hset
      go_enter Try.func67, Try.ntmps67
      go_wp2_with (go_at_call 59; refine (p01_Is hx).mono ?_; rintro e w' ⟨rfl, rfl⟩)
      go_end0
      exact ⟨rfl, by rw [HA.out]; exact h2, hb2⟩
theorem ear_Check {A n c xs} {w : World} (hs : Sl w .u8 A n c xs) : Ear Try.prog 67 ⟨w.heap.size, 0, none⟩ A n c xs (JS w 31 cV) :=
  ⟨enters_of Try.func67 (by kernel_rfl) rfl, fun _ _ _ _ hx _ hJ => p21_Check1 hx hJ,
    fun p W W' hJ hb => ⟨hJ.1.below hb, hJ.2.trans (hb.mono hJ.2.size)⟩, fun p W hJ => hs.bel hJ.2⟩
set_option maxRecDepth 100000 in
set_option maxHeartbeats 1000000 in
theorem p21_Check {A n c xs} {w : World} (hs : Sl w .u8 A n c xs) (hn : n ≤ 4194304) : Calls Try.prog 33 #[.slice A n c] w (RetB (.int .i64 (chkV xs)) w) := by
  have ho0 : Own (w.alloc (.cells #[.int .i64 0] 31)) w.heap.size 31 .i64 (cellV w.heap.size) [0] := Own.one w .i64 31 0 (by decide) (Nat.le_refl _)
  have hb0 := (Below.refl w.heap.size w).alloc (Nat.le_refl _) (.cells #[.int .i64 0] 31)
  go_enter Try.func33, Try.ntmps33
  go_wp2_with fail
  refine (p21_walk (ear_Check hs) hn ?_).mono ?_
  · exact ⟨ho0, hb0⟩
  · rintro e1 w1 ⟨rfl, hJ⟩
    obtain ⟨ho2, hb2⟩ := hJ
    obtain ⟨hcell2, _, _, _⟩ := ho2.var
    go_wp2
    go_ret
    exact ⟨rfl, hb2⟩
end Go.Proofs.Ytcjfjhciobkbcaa
