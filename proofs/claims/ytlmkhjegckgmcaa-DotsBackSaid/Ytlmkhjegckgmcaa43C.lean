/- Layer 43 (dots): receiving by the program: what its functions return. Conditions: the arguments read as lists; lengths at most 2^20; the variable MaxLen holds a number. -/
import Derived.Test.Ytlmkhjegckgmcaa43B
namespace Go.Proofs.Ytlmkhjegckgmcaa
open Go.RowKit

def ahdP (xs : List Int) : List (List Int) × Int := match ahdV xs with | none => ([], 0) | some p => p
def RetAhd (xs : List Int) (w : World) (e : Ending) (w' : World) : Prop :=
  ∃ v, e = .returned (.tuple #[v, .int .i64 (ahdP xs).2]) ∧ OwnL w' w.heap.size 22 v (ahdP xs).1 ∧ Below w.heap.size w w'
def RelA (w : World) (N : Nat) (xs : List Int) (s v r : Value) (wr : World) : Prop :=
  ∃ A n c ys ls, ∃ m : Int, s = .slice A n c ∧ r = .int .i64 m ∧ Sl w .u8 A n c ys ∧ OwnL wr w.heap.size 22 v ls ∧ 0 ≤ m ∧ ls.length + n ≤ N ∧ m + n ≤ N ∧ Hid (ahdV xs = (ahdV ys).map fun p => (ls ++ p.1, m + p.2)) ∧ Below w.heap.size w wr
theorem dot_beq {x : List Int} (hx : ∀ y ∈ x, (Lit.int .u8 y).wf = true) : ((strOfNums x).toList == [46]) = decide (x = [46]) := by
  have e2 : ([46] : List UInt8) = (strOfNums [46]).toList := by rw [Lib.strOfNums_toList]; rfl
  rw [e2, str_beq hx (by decide)]; rfl
theorem ahd_no {xs ys : List Int} {ls : List (List Int)} {m : Int} (h : ahdV xs = (ahdV ys).map fun p => (ls ++ p.1, m + p.2)) (hc : cutI ys 0 = -1) : ahdP xs = ([], 0) := by
  unfold ahdP; rw [h]; unfold ahdV; rw [(done_none hc).1]; rfl
theorem ahd_end {xs ys : List Int} {ls : List (List Int)} {m : Int} {k : Nat} (h : ahdV xs = (ahdV ys).map fun p => (ls ++ p.1, m + p.2)) (hc : cutI ys 0 = k) (hk : ys.take k = [46]) : ahdP xs = (ls, m + 3) := by
  unfold ahdP; rw [h]; unfold ahdV; rw [(done_at hc).1, hk]; simp [ahd]
theorem ahd_on {xs ys : List Int} {ls : List (List Int)} {m : Int} {k : Nat} (h : ahdV xs = (ahdV ys).map fun p => (ls ++ p.1, m + p.2)) (hc : cutI ys 0 = k) (hl : (ys.take k).length = k) (hk : ys.take k ≠ [46]) :
    ahdV xs = (ahdV (ys.drop (k + 2))).map fun p => ((ls ++ [ys.take k]) ++ p.1, (m + (k + 2)) + p.2) := by
  rw [h]; unfold ahdV; rw [(done_at hc).1, ahd, if_neg hk, hl]
  cases ahd (doneL (ys.drop (k + 2))) with
  | none => rfl
  | some p => simp; omega

set_option maxRecDepth 100000 in
set_option maxHeartbeats 1000000 in
theorem p43_ahead {A n c xs} {w : World} (hs : Sl w .u8 A n c xs) (hn : n ≤ 1048576) (hM : MaxL w) : Calls Try.prog 66 #[.slice A n c] w (RetAhd xs w) := by
  have kc := fun (w : World) (C : Array Value) (n c : Nat) => Lib.run_convert_bytes_const (P := Try.prog) w 22 5 C n c Try.underlying22 Try.underlying5
  go_enter Try.func66, Try.ntmps66
  go_wp2
  go_loopw [0, 4, 5] (RelA w n xs) (fun s _ _ _ => lenOf s)
  case atStart =>
    unfold RelA
    refine ⟨A, n, c, xs, [], 0, rfl, rfl, hs, OwnL.nil _ _ _, by simp, by simp, by simp, ?_, Below.refl _ _⟩
    show _ = _
    cases ahdV xs <;> simp
  case round =>
    clear hs
    obtain ⟨A, n1, c, ys, ls, m, rfl, rfl, hs, ho, hm0, hlen, hmn, hI, hbel⟩ := hrel
    have hz := hbel.size
    have hs' := hs.bel hbel
    have hM' := hM.bel hbel
    rcases cutI_bd ys with hc | ⟨k, hc, hk⟩
    · have HA := Lib.hid (ahd_no hI.out hc)
      have HC := Lib.hid hc
      clear hI hc
      go_wp2_with (first | ((go_at_call 58; refine (lib_Cut0 (hs'.alloc _) (Sl.newF _ .u8 5 [13, 10] _ (by decide) (by decide)) (hM'.alloc _) (by omega) HC.out).mono ?_; rintro e w1 ⟨rfl, hb1⟩); have hW1 := below_then' ((Below.refl wr.heap.size wr).alloc (Nat.le_refl _) _) hb1 (Nat.le_refl _)))
      go_ret2
      unfold RetAhd
      rw [HA.out]
      exact ⟨_, rfl, OwnL.nil _ _ _, below_then' hbel hW1 (Nat.le_refl _)⟩
    · have hl := hs.len
      have hk2 : k + 2 ≤ n1 := by omega
      have htl : (ys.take k).length = k := by rw [List.length_take]; omega
      have HC := Lib.hid hc
      have hfr := hs.take_ (m := k) (by omega)
      have hta := hs.tail (j := k + 2) hk2
      obtain ⟨A2, hA2⟩ : ∃ A2, tailA A c (k + 2) = A2 := ⟨_, rfl⟩
      have hcut := fun {W : World} {A' c'} (h1 : Sl W .u8 A n1 c ys) (h2 : Sl W .u8 A' 2 c' [13, 10]) (h3 : MaxL W) => lib_Cut1 h1 h2 h3 (by omega) HC.out
      rw [hA2] at hta
      simp only [hA2] at hcut
      have q1 := fun {W : World} (h : Sl W .u8 A k c (ys.take k)) => h.str (P := Try.prog) 22 5 9 Try.underlying22 Try.underlying5 Try.underlying9
      have hbq := dot_beq hfr.wf
      obtain ⟨s1, h1⟩ : ∃ s1, strOfNums (ys.take k) = s1 := ⟨_, rfl⟩
      simp only [h1] at q1 hbq
      clear h1 hA2
      by_cases hdot : ys.take k = [46]
      · have HA := Lib.hid (ahd_end hI.out hc hdot)
        have hk1 : k = 1 := by rw [← htl, hdot]; rfl
        rw [decide_eq_true hdot] at hbq
        clear hI hc hdot htl
        subst hk1
        go_wp2_with (first | ((go_at_call 58; refine (hcut (hs'.alloc _) (Sl.newF _ .u8 5 [13, 10] _ (by decide) (by decide)) (hM'.alloc _)).mono ?_; rintro e w1 ⟨rfl, hb1⟩); have hW1 := below_then' ((Below.refl wr.heap.size wr).alloc (Nat.le_refl _) _) hb1 (Nat.le_refl _); have hB1 := below_then' hbel hW1 (Nat.le_refl _); have hz1 := hB1.size; have q2 := q1 (hfr.bel hB1)))
        go_ret2
        unfold RetAhd
        rw [HA.out]
        exact ⟨_, rfl, ho.below hW1, hB1⟩
      · have HA := Lib.hid (ahd_on hI.out hc htl hdot)
        rw [decide_eq_false hdot] at hbq
        clear hI hc hdot
        go_wp2_with (first | ((go_at_call 58; refine (hcut (hs'.alloc _) (Sl.newF _ .u8 5 [13, 10] _ (by decide) (by decide)) (hM'.alloc _)).mono ?_; rintro e w1 ⟨rfl, hb1⟩); have hW1 := below_then' ((Below.refl wr.heap.size wr).alloc (Nat.le_refl _) _) hb1 (Nat.le_refl _); have hB1 := below_then' hbel hW1 (Nat.le_refl _); have hz1 := hB1.size; have q2 := q1 (hfr.bel hB1)) | (at_builtin; refine wpList_appL rfl rfl eltL rfl rfl (ho.below hW1) ((hfr.bel hB1).ln hfr (Nat.le_refl _)) hB1 (by refine ⟨?_, ?_⟩ <;> first | omega | (simp; done) | (simp; omega)) (by first | omega | (simp; done) | (simp; omega)) ?_; intro v3 w3 ho3 hb3))
        (first | (go_roundw; (case rel => exact (by unfold RelA; exact ⟨_, _, _, _, _, _, rfl, rfl, hta, ho3, by omega, by simp; omega, by omega, HA, hb3⟩)); (case measure => first | (simp [intOf] <;> omega) | (simp [lenOf] <;> omega))) | (refine ⟨?_, ?measure⟩; (repeat apply Exists.intro); refine ⟨?rel, ?eqs⟩; (case eqs => first | rfl | ((repeat (refine ⟨rfl, ?_⟩)); rfl)); (case rel => exact (by unfold RelA; exact ⟨_, _, _, _, _, _, rfl, rfl, hta, ho3, by omega, by simp; omega, by omega, HA, hb3⟩)); (case measure => first | (simp [intOf] <;> omega) | (simp [lenOf] <;> omega))) | ((repeat apply Exists.intro); refine ⟨?rel, ?eqs⟩; (case eqs => first | rfl | ((repeat (refine ⟨rfl, ?_⟩)); rfl)); (case rel => exact (by unfold RelA; exact ⟨_, _, _, _, _, _, rfl, rfl, hta, ho3, by omega, by simp; omega, by omega, HA, hb3⟩))))
end Go.Proofs.Ytlmkhjegckgmcaa
