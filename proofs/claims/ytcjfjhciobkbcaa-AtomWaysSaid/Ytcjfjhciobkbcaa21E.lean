/- Layer 21 (pct): codes read: the program. Conditions: the arguments read as lists; lengths at most 2^22. -/
import Derived.Test.Ytcjfjhciobkbcaa21D
namespace Go.Proofs.Ytcjfjhciobkbcaa
open Go.RowKit

/-- the closure with number g that holds the address cap: called with an octet and whether it was escaped, it keeps J; J outlives what only lays blocks anew; J knows the octets -/
structure Ear (P : Program) (g : Nat) (cap : Addr) (A : Option Addr) (n c : Nat) (xs : List Int) (J : List (Int × Bool) → World → Prop) : Prop where
  ent : ∀ (args : Array Value) (w : World), (callFunc g args).run P w = .ok (.enter g args) w
  call : ∀ (p : List (Int × Bool)) (x : Int) (b : Bool) (W : World), (Lit.int .u8 x).wf = true → p.length ≤ 4194304 → J p W →
    Calls P g #[.int .u8 x, .bool b, .pointer (some cap)] W fun e W' => e = .returned (.tuple #[]) ∧ J (p ++ [(x, b)]) W'
  stay : ∀ (p : List (Int × Bool)) (W W' : World), J p W → Below W.heap.size W W' → J p W'
  sl : ∀ (p : List (Int × Bool)) (W : World), J p W → Sl W .u8 A n c xs

theorem p02_TakeE {A n c xs} {k : Nat} {sg v : Int} {b : Bool} {w : World} (hs : Sl w .u8 A n c xs) (hk : k < n) (hn : n ≤ 1073741824) (hg : (Lit.int .u8 sg).wf = true) (hv : takV sg (xs.drop k) = v) (hb : takB sg (xs.drop k) = b) :
    Calls Try.prog 79 #[.slice A n c, .int .i64 k, .int .u8 sg] w (RetB (.tuple #[.int .u8 v, .bool b]) w) := by subst hv; subst hb; exact p02_Take hs hk hn hg

def RelW (n : Nat) (xs : List Int) (J : List (Int × Bool) → World → Prop) (i : Value) (wr : World) : Prop :=
  ∃ k : Nat, ∃ p : List (Int × Bool), k ≤ n ∧ i = .int .i64 k ∧ p.length ≤ k ∧ Hid (ev 0 xs = p ++ ev 0 (xs.drop k)) ∧ J p wr

set_option maxRecDepth 100000 in
set_option maxHeartbeats 1000000 in
theorem p21_walk {A n c xs} {g : Nat} {cap : Addr} {J : List (Int × Bool) → World → Prop} {w : World} (he : Ear Try.prog g cap A n c xs J) (hn : n ≤ 4194304) (h0 : J [] w) :
    Calls Try.prog 64 #[.slice A n c, .func (.func g) #[] #[.pointer (some cap)]] w (fun e w' => e = .returned (.tuple #[]) ∧ J (ev 0 xs) w') := by
  have HL := Lib.hid (he.sl _ _ h0).len
  have hent := he.ent
  go_enter Try.func64, Try.ntmps64
  go_wp2
  go_loopw [4] (RelW n xs J) (fun i _ => n - (intOf i).toNat)
  case atStart => unfold RelW; exact ⟨0, [], by omega, rfl, by simp, rfl, h0⟩
  case round =>
    obtain ⟨k, p, hk, rfl, hlo, hI, hJ⟩ := hrel
    have hs' := he.sl _ _ hJ
    by_cases hlt : k < n
    · obtain ⟨bb, o, x, rfl, hbb, hcell, hwf, hd, _⟩ := hs'.get hlt
      have hI2 := hI.out
      by_cases hT : takB 37 (xs.drop k) = true
      · have h3 : k + 3 ≤ n := by have := takB_len hT; have := HL.out; simp at *; omega
        obtain ⟨v, hv⟩ : ∃ v, takV 37 (xs.drop k) = v := ⟨_, rfl⟩
        have hvw : (Lit.int .u8 v).wf = true := hv ▸ takV_wf _ _
        have hT2 := hT
        rw [hd] at hT2 hI2
        rw [ev_esc hT2, ← hd, hv, List.drop_drop] at hI2
        have HI2 := Lib.hid hI2
        have HT := Lib.hid hT
        have HV := Lib.hid hv
        clear hI2 hI hd hT hT2 hv
        have e : (((k + 3 : Nat) : Int)) = (k : Int) + 2 + 1 := by omega
        go_wp2_with fail
        refine (p02_TakeE hs' hlt (by omega) (by decide) HV.out HT.out).mono ?_
        rintro e1 w1 ⟨rfl, hb1⟩
        have hJ1 := he.stay _ _ _ hJ hb1
        go_wp2_with fail
        refine (he.call p v true _ hvw (by omega) hJ1).mono ?_
        rintro e2 w2 ⟨rfl, hJ2⟩
        go_wp2
        (first | (go_roundw; (case rel => exact (by unfold RelW; exact ⟨k + 3, p ++ [(v, true)], by omega, by rw [e], by simp; omega, by show _ = _; rw [HI2.out]; simp, hJ2⟩)); (case measure => first | (simp [intOf] <;> omega) | (simp [lenOf] <;> omega))) | (refine ⟨?_, ?measure⟩; (repeat apply Exists.intro); refine ⟨?rel, ?eqs⟩; (case eqs => first | rfl | ((repeat (refine ⟨rfl, ?_⟩)); rfl)); (case rel => exact (by unfold RelW; exact ⟨k + 3, p ++ [(v, true)], by omega, by rw [e], by simp; omega, by show _ = _; rw [HI2.out]; simp, hJ2⟩)); (case measure => first | (simp [intOf] <;> omega) | (simp [lenOf] <;> omega))) | ((repeat apply Exists.intro); refine ⟨?rel, ?eqs⟩; (case eqs => first | rfl | ((repeat (refine ⟨rfl, ?_⟩)); rfl)); (case rel => exact (by unfold RelW; exact ⟨k + 3, p ++ [(v, true)], by omega, by rw [e], by simp; omega, by show _ = _; rw [HI2.out]; simp, hJ2⟩))))
      · have hT' : takB 37 (xs.drop k) = false := by simpa using hT
        obtain ⟨v, hv⟩ : ∃ v, takV 37 (xs.drop k) = v := ⟨_, rfl⟩
        have hT2 := hT'
        rw [hd] at hT2 hI2
        rw [ev_one hT2] at hI2
        have HI2 := Lib.hid hI2
        have HT := Lib.hid hT'
        have HV := Lib.hid hv
        clear hI2 hI hd hT hT' hT2 hv
        go_wp2_with fail
        refine (p02_TakeE hs' hlt (by omega) (by decide) HV.out HT.out).mono ?_
        rintro e1 w1 ⟨rfl, hb1⟩
        have hJ1 := he.stay _ _ _ hJ hb1
        have hcell1 := (hb1.cell hbb).trans hcell
        go_wp2_with fail
        refine (he.call p x false _ hwf (by omega) hJ1).mono ?_
        rintro e2 w2 ⟨rfl, hJ2⟩
        go_wp2
        (first | (go_roundw; (case rel => exact (by unfold RelW; exact ⟨k + 1, p ++ [(x, false)], by omega, by go_num, by simp; omega, by show _ = _; rw [HI2.out]; simp, hJ2⟩)); (case measure => first | (simp [intOf] <;> omega) | (simp [lenOf] <;> omega))) | (refine ⟨?_, ?measure⟩; (repeat apply Exists.intro); refine ⟨?rel, ?eqs⟩; (case eqs => first | rfl | ((repeat (refine ⟨rfl, ?_⟩)); rfl)); (case rel => exact (by unfold RelW; exact ⟨k + 1, p ++ [(x, false)], by omega, by go_num, by simp; omega, by show _ = _; rw [HI2.out]; simp, hJ2⟩)); (case measure => first | (simp [intOf] <;> omega) | (simp [lenOf] <;> omega))) | ((repeat apply Exists.intro); refine ⟨?rel, ?eqs⟩; (case eqs => first | rfl | ((repeat (refine ⟨rfl, ?_⟩)); rfl)); (case rel => exact (by unfold RelW; exact ⟨k + 1, p ++ [(x, false)], by omega, by go_num, by simp; omega, by show _ = _; rw [HI2.out]; simp, hJ2⟩))))
    · have hI2 := hI.out
      rw [List.drop_eq_nil_of_le (by have := HL.out; omega), show ev 0 ([] : List Int) = [] from rfl, List.append_nil] at hI2
      have HI2 := Lib.hid hI2; clear hI2 hI
      go_wp2
      go_end0
      exact ⟨rfl, by rw [HI2.out]; exact hJ⟩
end Go.Proofs.Ytcjfjhciobkbcaa
