/- Layer 21 (pct): how many signs are none of an escape: the program. Conditions: the arguments read as lists; lengths at most 2^22. -/
import Derived.Test.Ytcjfjhciobkbcaa21E
namespace Go.Proofs.Ytcjfjhciobkbcaa
open Go.RowKit

theorem stV_le (p : List (Int × Bool)) : 0 ≤ stV p ∧ stV p ≤ p.length := by
  induction p with
  | nil => simp [stV]
  | cons q r ih =>
    have e : stV (q :: r) = (if q.1 = 37 ∧ q.2 = false then (1 : Int) else 0) + stV r := by simp [stV]
    rw [e, List.length_cons]; split <;> omega
/-- the one variable that the closure holds -/
def cellV (B : Nat) : Value := .slice (some ⟨B, 0, none⟩) 1 1
theorem Own.var {W : World} {B : Nat} {T : TypeId} {k : IntKind} {x : Int} (h : Own W B T k (cellV B) [x]) : W.cell? ⟨B, 0, none⟩ = some (.int k x) ∧ W.frozen? ⟨B, 0, none⟩ = false ∧ B < W.heap.size ∧
    ∀ u, (Lit.int k u).wf = true → Own (W.setCell ⟨B, 0, none⟩ (.int k u)) B T k (cellV B) [u] := by
  unfold cellV at h ⊢
  obtain ⟨g, he, _, hg, hc, hf, hset⟩ := h.at_ (j := 0) (by simp)
  injection he with he
  injection he with he1 _ _
  subst he1
  exact ⟨by simpa using hc, hf, hg, fun u hu => by simpa using hset u hu⟩

def JS (w : World) (T : TypeId) (f : List (Int × Bool) → Int) (p : List (Int × Bool)) (W : World) : Prop := Own W w.heap.size T .i64 (cellV w.heap.size) [f p] ∧ Below w.heap.size w W

set_option maxRecDepth 100000 in
set_option maxHeartbeats 1000000 in
theorem p21_Strange1 {w W : World} {p : List (Int × Bool)} {x : Int} {b : Bool} (hx : (Lit.int .u8 x).wf = true) (hp : p.length ≤ 4194304) (hJ : JS w 3 stV p W) :
    Calls Try.prog 66 #[.int .u8 x, .bool b, .pointer (some ⟨w.heap.size, 0, none⟩)] W (fun e W' => e = .returned (.tuple #[]) ∧ JS w 3 stV (p ++ [(x, b)]) W') := by
  obtain ⟨ho, hbel⟩ := hJ
  obtain ⟨hcell, hfr, hlt, hset⟩ := ho.var
  obtain ⟨hs0, hs1⟩ := stV_le p
  have happ := stV_app p (x, b)
  by_cases hh : x = 37 ∧ b = false
  · obtain ⟨rfl, rfl⟩ := hh
    have h2 := hset (stV p + 1) (by apply wf_i64.2; omega)
    have hb2 := hbel.setCell (p := ⟨w.heap.size, 0, none⟩) (Nat.le_refl _) (.int .i64 (stV p + 1))
    simp at happ
    have HA := Lib.hid happ
    clear happ hset
    go_enter Try.func66, Try.ntmps66
    go_wp2
    go_end0
    exact ⟨rfl, by rw [HA.out]; exact h2, hb2⟩
  · have e : stV (p ++ [(x, b)]) = stV p := by rw [happ]; simp only []; rw [if_neg hh]; omega
    have HA := Lib.hid e
    clear e happ
    cases b with
    | true =>
      clear hh
      by_cases h37 : x = 37
      · subst h37
        go_enter Try.func66, Try.ntmps66
        go_wp2
        go_end0
        exact ⟨rfl, by rw [HA.out]; exact ho, hbel⟩
      · have f1 : (x == 37) = false := by simpa using h37
        go_enter Try.func66, Try.ntmps66
        go_wp2
        go_end0
        exact ⟨rfl, by rw [HA.out]; exact ho, hbel⟩
    | false =>
      have f1 : (x == 37) = false := by simpa using hh
      clear hh
      go_enter Try.func66, Try.ntmps66
      go_wp2
      go_end0
      exact ⟨rfl, by rw [HA.out]; exact ho, hbel⟩
theorem ear_Strange {A n c xs} {w : World} (hs : Sl w .u8 A n c xs) : Ear Try.prog 66 ⟨w.heap.size, 0, none⟩ A n c xs (JS w 3 stV) :=
  ⟨enters_of Try.func66 (by kernel_rfl) rfl, fun _ _ _ _ hx hp hJ => p21_Strange1 hx hp hJ,
    fun p W W' hJ hb => ⟨hJ.1.below hb, hJ.2.trans (hb.mono hJ.2.size)⟩, fun p W hJ => hs.bel hJ.2⟩
set_option maxRecDepth 100000 in
set_option maxHeartbeats 1000000 in
theorem p21_Strange {A n c xs} {w : World} (hs : Sl w .u8 A n c xs) (hn : n ≤ 4194304) : Calls Try.prog 32 #[.slice A n c] w (RetB (.int .i64 (stV (ev 0 xs))) w) := by
  have ho0 : Own (w.alloc (.cells #[.int .i64 0] 3)) w.heap.size 3 .i64 (cellV w.heap.size) [0] := Own.one w .i64 3 0 (by decide) (Nat.le_refl _)
  have hb0 := (Below.refl w.heap.size w).alloc (Nat.le_refl _) (.cells #[.int .i64 0] 3)
  go_enter Try.func32, Try.ntmps32
  go_wp2_with fail
  refine (p21_walk (ear_Strange hs) hn ?_).mono ?_
  · exact ⟨ho0, hb0⟩
  · rintro e1 w1 ⟨rfl, hJ⟩
    obtain ⟨ho2, hb2⟩ := hJ
    obtain ⟨hcell2, _, _, _⟩ := ho2.var
    go_wp2
    go_ret
    exact ⟨rfl, hb2⟩
end Go.Proofs.Ytcjfjhciobkbcaa
