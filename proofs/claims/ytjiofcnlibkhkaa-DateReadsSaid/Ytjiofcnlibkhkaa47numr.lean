/- Layer 47 (date): the reference's number. Condition: the box is the call's own, the octets lay there before it, at most 2^22; at most four digits. -/
import Derived.Test.Ytjiofcnlibkhkaa47num
namespace Go.Proofs.Ytjiofcnlibkhkaa
open Go.RowKit

theorem num_no {xs : List Int} {least most k : Nat} {bad : Bool} (h : ¬ (least ≤ (runP xs 8 k).length ∧ (runP xs 8 k).length ≤ most)) (v : Int) (k' : Nat) : NumI (numS xs least most k) v k' bad true := by
  unfold NumI numS
  rw [if_neg h]
  exact ⟨fun _ => rfl, fun _ => ⟨fun _ => rfl, fun p hp => by cases hp⟩⟩
theorem num_yes {xs : List Int} {least most k : Nat} {bad : Bool} (h : least ≤ (runP xs 8 k).length ∧ (runP xs 8 k).length ≤ most) : NumI (numS xs least most k) (numV (runP xs 8 k)) (runE xs 8 k) bad bad := by
  unfold NumI numS
  rw [if_pos h]
  refine ⟨fun h => h, fun hb => ⟨fun h => (by cases h), fun p hp => ?_⟩⟩
  injection hp with hp
  subst hp
  exact ⟨hb, rfl, rfl⟩
set_option maxRecDepth 100000 in
set_option maxHeartbeats 1000000 in
theorem r47_number {w0 w : World} {b : Nat} {A : Option Addr} {n c : Nat} {xs : List Int} {k least most : Nat} {bad : Bool} (h : Rdr w0 w b A n c xs k bad) (hn : n ≤ 4194304) (hk : k ≤ n) (hlm : least ≤ 4 ∧ most ≤ 4) :
    Calls Try.prog 37 #[.pointer (some ⟨b, 0, none⟩), .int .i64 least, .int .i64 most] w (RetN (numS xs least most k) 0 9999 w0 b A n c xs bad w) := by
  have hle3 := hlm.2
  have hdig := Lib.hid (runP_dig (k := k) h.sl.wf)
  have hkE := (runE_le (xs := xs) (kv := 8) (k := k) (by rw [h.sl.len]; exact hk)).2
  rw [h.sl.len] at hkE
  have hL := Nat.le_trans (runP_len xs 8 k) (Nat.sub_le _ _)
  rw [h.sl.len] at hL
  have HY := Lib.hid (fun h => num_yes (xs := xs) (least := least) (most := most) (k := k) (bad := bad) h)
  have HX := Lib.hid (fun h => num_no (xs := xs) (least := least) (most := most) (k := k) (bad := bad) h)
  obtain ⟨ds, hds⟩ : ∃ ds, runP xs 8 k = ds := ⟨_, rfl⟩
  obtain ⟨E, hE⟩ : ∃ E, runE xs 8 k = E := ⟨_, rfl⟩
  have hrun := r47_run (kv := 8) h hn hk
  rw [hds, hE] at hrun
  rw [hds] at hL hdig HY HX
  rw [hE] at HY hkE
  obtain ⟨o, ho⟩ : ∃ o, numS xs least most k = o := ⟨_, rfl⟩
  rw [ho] at HY HX ⊢
  clear hds hE ho
  have hcs : (least ≤ ds.length ∧ ds.length ≤ most) ∨ (least ≤ ds.length ∧ ¬ ds.length ≤ most) ∨ ¬ least ≤ ds.length := by omega
  clear hlm
  rcases hcs with ⟨h1, h2⟩ | ⟨h1, h2⟩ | h1
  · have HN := Lib.hid (HY.out ⟨h1, h2⟩)
    have g1 : decide (ds.length < least) = false := decide_eq_false (by omega)
    have g2 : decide (most < ds.length) = false := decide_eq_false (by omega)
    clear HX HY
    go_enter Try.func37, Try.ntmps37
    go_wp2_with (go_at_call 34; refine hrun.mono ?_; rintro e w1 ⟨A', c', rfl, hsl, hR, hKp⟩)
    clear hrun h
    go_loop [8, 9] (fun v8 v9 => ∃ j : Nat, j ≤ ds.length ∧ v9 = .int .i64 j ∧ v8 = .int .i64 (numV (ds.take j))) (fun _ v9 => ds.length - (intOf v9).toNat)
    case atStart => exact ⟨0, Nat.zero_le _, rfl, rfl⟩
    case round =>
      obtain ⟨j, hj, rfl, rfl⟩ := hrel
      have hv := numV_take hdig.out j
      obtain ⟨N, hN⟩ : ∃ N, numV (ds.take j) = N := ⟨_, rfl⟩
      rw [hN] at hv
      rw [hN]
      by_cases hlj : j < ds.length
      · have hp := pow_le3 (j := j) (by omega)
        obtain ⟨b1, o1, x, rfl, hb1, hcell, hwf, hd, ht⟩ := (hsl.bel hR.bel).get (j := j) (by omega)
        have hx := hdig.out x (List.mem_of_mem_drop (hd ▸ List.mem_cons_self ..))
        have hx1 := hx.1
        have hx2 := hx.2
        have hN1 := hv.1
        have hN2 : N ≤ 999 := by omega
        have hI := Lib.hid (show numV (ds.take (j + 1)) = 10 * N + (x - 48) from by rw [ht, numV_snoc, hN])
        clear hv hp hN hd ht hx
        go_wp2_with fail
        go_round
        case rel => exact ⟨j + 1, by omega, by go_num, by rw [hI.out]⟩
        case measure => simp [intOf]; omega
      · have hjd : j = ds.length := by omega
        subst hjd
        have hp := pow_le4 (j := ds.length) (by omega)
        have hv1 := hv.1
        have HN2 := Lib.hid hN
        clear hN
        go_wp2_with fail
        go_ret
        exact ⟨N, E, _, rfl, hv.1, by omega, hkE, hR, hKp, by rw [← HN2.out, List.take_length]; exact HN.out⟩
  all_goals
    have HN := Lib.hid (HX.out (by omega) 0 E)
    clear HX HY
    go_enter Try.func37, Try.ntmps37
    go_wp2_with (go_at_call 34; refine hrun.mono ?_; rintro e w1 ⟨A', c', rfl, hsl, hR, hKp⟩; (have c2 := hR.c2); (have f2 := hR.f2); (have hM := hR.mark (bad' := true)); clear hrun h)
    go_ret
    exact ⟨0, E, true, rfl, by omega, by omega, hkE, hM, hKp.set _, HN.out⟩
theorem p47_num12 {w0 w : World} {b : Nat} {A : Option Addr} {n c : Nat} {xs : List Int} {k : Nat} {bad : Bool} (h : Rdr w0 w b A n c xs k bad) (hn : n ≤ 4194304) (hk : k ≤ n) :
    Calls Try.prog 46 #[.pointer (some ⟨b, 0, none⟩), .int .i64 1, .int .i64 2] w (RetN (numS xs 1 2 k) 0 9999 w0 b A n c xs bad w) := p47_number (least := 1) (most := 2) h hn hk ⟨by omega, by omega⟩
theorem p47_num22 {w0 w : World} {b : Nat} {A : Option Addr} {n c : Nat} {xs : List Int} {k : Nat} {bad : Bool} (h : Rdr w0 w b A n c xs k bad) (hn : n ≤ 4194304) (hk : k ≤ n) :
    Calls Try.prog 46 #[.pointer (some ⟨b, 0, none⟩), .int .i64 2, .int .i64 2] w (RetN (numS xs 2 2 k) 0 9999 w0 b A n c xs bad w) := p47_number (least := 2) (most := 2) h hn hk ⟨by omega, by omega⟩
theorem p47_num44 {w0 w : World} {b : Nat} {A : Option Addr} {n c : Nat} {xs : List Int} {k : Nat} {bad : Bool} (h : Rdr w0 w b A n c xs k bad) (hn : n ≤ 4194304) (hk : k ≤ n) :
    Calls Try.prog 46 #[.pointer (some ⟨b, 0, none⟩), .int .i64 4, .int .i64 4] w (RetN (numS xs 4 4 k) 0 9999 w0 b A n c xs bad w) := p47_number (least := 4) (most := 4) h hn hk ⟨by omega, by omega⟩
theorem r47_num12 {w0 w : World} {b : Nat} {A : Option Addr} {n c : Nat} {xs : List Int} {k : Nat} {bad : Bool} (h : Rdr w0 w b A n c xs k bad) (hn : n ≤ 4194304) (hk : k ≤ n) :
    Calls Try.prog 37 #[.pointer (some ⟨b, 0, none⟩), .int .i64 1, .int .i64 2] w (RetN (numS xs 1 2 k) 0 9999 w0 b A n c xs bad w) := r47_number (least := 1) (most := 2) h hn hk ⟨by omega, by omega⟩
theorem r47_num22 {w0 w : World} {b : Nat} {A : Option Addr} {n c : Nat} {xs : List Int} {k : Nat} {bad : Bool} (h : Rdr w0 w b A n c xs k bad) (hn : n ≤ 4194304) (hk : k ≤ n) :
    Calls Try.prog 37 #[.pointer (some ⟨b, 0, none⟩), .int .i64 2, .int .i64 2] w (RetN (numS xs 2 2 k) 0 9999 w0 b A n c xs bad w) := r47_number (least := 2) (most := 2) h hn hk ⟨by omega, by omega⟩
theorem r47_num44 {w0 w : World} {b : Nat} {A : Option Addr} {n c : Nat} {xs : List Int} {k : Nat} {bad : Bool} (h : Rdr w0 w b A n c xs k bad) (hn : n ≤ 4194304) (hk : k ≤ n) :
    Calls Try.prog 37 #[.pointer (some ⟨b, 0, none⟩), .int .i64 4, .int .i64 4] w (RetN (numS xs 4 4 k) 0 9999 w0 b A n c xs bad w) := r47_number (least := 4) (most := 4) h hn hk ⟨by omega, by omega⟩
end Go.Proofs.Ytjiofcnlibkhkaa
