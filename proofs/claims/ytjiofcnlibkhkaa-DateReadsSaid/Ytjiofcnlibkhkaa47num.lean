/- Layer 47 (date): the readers' number: what both sides' methods do. Condition: the box is the call's own, the octets lay there before it, at most 2^22; at most four digits. -/
import Derived.Test.Ytjiofcnlibkhkaa47runr
import Derived.IntWalk
namespace Go.Proofs.Ytjiofcnlibkhkaa
open Go.RowKit

/-- what a step of the reading says: once bad, bad for ever; else its answer is o's, and none is bad -/
def NumI (o : Option (Int × Nat)) (v : Int) (k' : Nat) (bad bad' : Bool) : Prop :=
  (bad = true → bad' = true) ∧ (bad = false → (o = none → bad' = true) ∧ ∀ p, o = some p → bad' = false ∧ v = p.1 ∧ k' = p.2)
/-- returns a number from lo to hi; behind it the reader's place, and whether something was wrong -/
def RetN (o : Option (Int × Nat)) (lo hi : Int) (w0 : World) (b : Nat) (A : Option Addr) (n c : Nat) (xs : List Int) (bad : Bool) (w : World) (e : Ending) (w' : World) : Prop :=
  ∃ (v : Int) (k' : Nat) (bad' : Bool), e = .returned (.int .i64 v) ∧ lo ≤ v ∧ v ≤ hi ∧ k' ≤ n ∧ Rdr w0 w' b A n c xs k' bad' ∧ Keeps b w w' ∧ NumI o v k' bad bad'
theorem isL8d : ∀ c : Fin 256, isL (c.val : Int) 8 = true → 48 ≤ (c.val : Int) ∧ (c.val : Int) ≤ 57 := by decide +kernel
theorem isL8_dig {c : Int} (hw : (Lit.int .u8 c).wf = true) (h : isL c 8 = true) : 48 ≤ c ∧ c ≤ 57 := by
  have hc := wf_u8.1 hw
  have := isL8d ⟨c.toNat, by omega⟩
  simp only [show ((c.toNat : Nat) : Int) = c from by omega] at this
  exact this h
theorem runP_dig {xs : List Int} {k : Nat} (hw : ∀ x ∈ xs, (Lit.int .u8 x).wf = true) : ∀ x ∈ runP xs 8 k, 48 ≤ x ∧ x ≤ 57 := by
  intro x hx
  have h1 : isL x 8 = true := by
    unfold runP at hx
    have := List.all_takeWhile (p := fun x => isL x 8) (l := xs.drop (gapL xs k))
    exact List.all_eq_true.1 this x hx
  have h2 : x ∈ xs := List.mem_of_mem_drop ((List.takeWhile_sublist _).subset hx)
  exact isL8_dig (hw x h2) h1
theorem pow_mono {a b : Nat} (h : a ≤ b) : (10 : Int) ^ a ≤ 10 ^ b := by
  have := Nat.pow_le_pow_right (n := 10) (by omega) h
  have e : ∀ n : Nat, (10 : Int) ^ n = ((10 ^ n : Nat) : Int) := fun n => by simp
  rw [e, e]; omega
theorem numV_take {l : List Int} (h : ∀ x ∈ l, 48 ≤ x ∧ x ≤ 57) (j : Nat) : 0 ≤ numV (l.take j) ∧ numV (l.take j) < 10 ^ j := by
  have h1 := numV_rng (l.take j) (fun c hc => h c (List.mem_of_mem_take hc))
  refine ⟨h1.1, Int.lt_of_lt_of_le h1.2 ?_⟩
  exact pow_mono (List.length_take_le _ _)
theorem pow_le4 {j : Nat} (h : j ≤ 4) : (10 : Int) ^ j ≤ 10000 := by
  have : (10 : Int) ^ j ≤ 10 ^ 4 := pow_mono h
  exact this
theorem pow_le3 {j : Nat} (h : j < 4) : (10 : Int) ^ j ≤ 1000 := by
  have : (10 : Int) ^ j ≤ 10 ^ 3 := pow_mono (by omega)
  exact this
theorem num_in {xs : List Int} {least most k : Nat} {bad : Bool} {m : Nat} (hm : min (runP xs 8 k).length most = m) {ok : Bool} (hok : ok = (decide (least ≤ (runP xs 8 k).length) && decide ((runP xs 8 k).length ≤ most))) :
    NumI (numS xs least most k) (numV ((runP xs 8 k).take m)) (runE xs 8 k) bad (bad || !ok) := by
  unfold NumI numS
  refine ⟨fun h => by rw [h]; rfl, fun h => ?_⟩
  subst h
  by_cases hh : least ≤ (runP xs 8 k).length ∧ (runP xs 8 k).length ≤ most
  · rw [if_pos hh]
    refine ⟨fun h => by simp at h, fun p hp => ?_⟩
    injection hp with hp
    subst hp
    refine ⟨by rw [hok]; simp [hh.1, hh.2], ?_, rfl⟩
    rw [List.take_of_length_le (by omega)]
  · rw [if_neg hh]
    refine ⟨fun _ => ?_, fun p hp => by cases hp⟩
    rw [hok]; simp; omega
set_option maxRecDepth 100000 in
set_option maxHeartbeats 1000000 in
theorem p47_number {w0 w : World} {b : Nat} {A : Option Addr} {n c : Nat} {xs : List Int} {k least most : Nat} {bad : Bool} (h : Rdr w0 w b A n c xs k bad) (hn : n ≤ 4194304) (hk : k ≤ n) (hlm : least ≤ 4 ∧ most ≤ 4) :
    Calls Try.prog 46 #[.pointer (some ⟨b, 0, none⟩), .int .i64 least, .int .i64 most] w (RetN (numS xs least most k) 0 9999 w0 b A n c xs bad w) := by
  have hle2 := hlm.1
  have hle3 := hlm.2
  have hdig := Lib.hid (runP_dig (k := k) h.sl.wf)
  have hkE := (runE_le (xs := xs) (kv := 8) (k := k) (by rw [h.sl.len]; exact hk)).2
  rw [h.sl.len] at hkE
  have hL := Nat.le_trans (runP_len xs 8 k) (Nat.sub_le _ _)
  rw [h.sl.len] at hL
  obtain ⟨m, hm⟩ : ∃ m, min (runP xs 8 k).length most = m := ⟨_, rfl⟩
  obtain ⟨ok, hok⟩ : ∃ ok, ok = (decide (least ≤ (runP xs 8 k).length) && decide ((runP xs 8 k).length ≤ most)) := ⟨_, rfl⟩
  have HN := Lib.hid (num_in (bad := bad) hm hok)
  obtain ⟨ds, hds⟩ : ∃ ds, runP xs 8 k = ds := ⟨_, rfl⟩
  obtain ⟨E, hE⟩ : ∃ E, runE xs 8 k = E := ⟨_, rfl⟩
  have hrun := p47_run (kv := 8) h hn hk
  rw [hds, hE] at hrun
  rw [hds] at hm hok hL hdig HN
  rw [hE] at HN hkE
  obtain ⟨o, ho⟩ : ∃ o, numS xs least most k = o := ⟨_, rfl⟩
  rw [ho] at HN ⊢
  clear hds hE ho
  have hgo : decide ((least : Int) ≤ (ds.length : Int)) = decide (least ≤ ds.length) := by rw [decide_eq_decide]; omega
  have hgo2 : decide ((ds.length : Int) ≤ (most : Int)) = decide (ds.length ≤ most) := by rw [decide_eq_decide]; omega
  have HM := Lib.hid hm
  have HO := Lib.hid hok
  have hm4 : m ≤ most := by omega
  have hmd : m ≤ ds.length := by omega
  clear hm hok hlm
  go_enter Try.func46, Try.ntmps46
  go_upto_region 2 with (go_at_call 43; refine hrun.mono ?_; rintro e w1 ⟨A', c', rfl, hsl, hR, hKp⟩)
  clear hrun h
  go_cut [7] from 11 (fun v7 wc => v7 = .slice A' ds.length c' ∧ Rdr w0 wc b A n c xs E (bad || !ok) ∧ Keeps b w wc)
  case first =>
    have hcs : (least ≤ ds.length ∧ ds.length ≤ most) ∨ (least ≤ ds.length ∧ ¬ ds.length ≤ most) ∨ ¬ least ≤ ds.length := by omega
    rcases hcs with ⟨h1, h2⟩ | ⟨h1, h2⟩ | h1
    · have ho : ok = true := by rw [HO.out, decide_eq_true h1, decide_eq_true h2]; rfl
      have hmu := p47_must (ok := true) hR
      rw [← ho] at hmu
      subst ho
      clear hgo hgo2
      go_wp2_with (go_at_call 42; refine hmu.mono ?_; rintro e w2 ⟨rfl, hR2, hK2⟩)
      go_meet
      case rel => exact ⟨rfl, hR2, hKp.trans hK2⟩
    · have ho : ok = false := by rw [HO.out, decide_eq_true h1, decide_eq_false h2]; rfl
      have hmu := p47_must (ok := false) hR
      rw [← ho] at hmu
      subst ho
      clear hgo hgo2
      go_wp2_with (go_at_call 42; refine hmu.mono ?_; rintro e w2 ⟨rfl, hR2, hK2⟩)
      go_meet
      case rel => exact ⟨rfl, hR2, hKp.trans hK2⟩
    · have ho : ok = false := by rw [HO.out, decide_eq_false h1]; rfl
      have hmu := p47_must (ok := false) hR
      rw [← ho] at hmu
      subst ho
      clear hgo hgo2
      go_wp2_with (go_at_call 42; refine hmu.mono ?_; rintro e w2 ⟨rfl, hR2, hK2⟩)
      go_meet
      case rel => exact ⟨rfl, hR2, hKp.trans hK2⟩
  case rest =>
    obtain ⟨rfl, hR2, hK2⟩ := hcut
    have hs2 := hsl.bel hR2.bel
    clear hR hKp hsl hgo hgo2 HO
    have hs3 := hs2.take_ hmd
    have hcl := hs2.le
    have HS := Lib.hid hs2
    clear hs2
    by_cases hlt : most < ds.length
    · obtain rfl : m = most := by have := HM.out; omega
      have hcl2 : m ≤ c' := by omega
      go_wp2_with fail
      go_loop [8, 32] (fun v8 v32 => ∃ j : Nat, j ≤ m ∧ v32 = .int .i64 j ∧ v8 = .int .i64 (numV (ds.take j))) (fun _ v32 => m - (intOf v32).toNat)
      case atStart => exact ⟨0, Nat.zero_le _, rfl, rfl⟩
      case round =>
        obtain ⟨j, hj, rfl, rfl⟩ := hrel
        have hv := numV_take hdig.out j
        obtain ⟨N, hN⟩ : ∃ N, numV (ds.take j) = N := ⟨_, rfl⟩
        rw [hN] at hv
        rw [hN]
        by_cases hlj : j < m
        · have hp := pow_le3 (j := j) (by omega)
          obtain ⟨b1, o1, x, rfl, hb1, hcell, hwf, hd, ht⟩ := HS.out.get (j := j) (by omega)
          have hx := hdig.out x (List.mem_of_mem_drop (hd ▸ List.mem_cons_self ..))
          have hx1 := hx.1
          have hx2 := hx.2
          have hN1 := hv.1
          have hN2 : N ≤ 999 := by omega
          have hI := Lib.hid (show numV (ds.take (j + 1)) = 10 * N + (x - 48) from by rw [ht, numV_snoc, hN])
          clear hv hp hN hd ht hx
          go_wp2_with fail
          go_round
          case rel => exact ⟨j + 1, by omega, by go_num, by rw [hI.out]⟩
          case measure => simp [intOf]; omega
        · obtain rfl : j = m := by omega
          have hp := pow_le4 (j := j) (by omega)
          have hv1 := hv.1
          go_wp2_with fail
          go_ret
          exact ⟨N, E, _, rfl, hv.1, by omega, hkE, hR2, hK2, by rw [← hN]; exact HN.out⟩
    · obtain rfl : m = ds.length := by have := HM.out; omega
      go_wp2_with fail
      go_loop [8, 32] (fun v8 v32 => ∃ j : Nat, j ≤ ds.length ∧ v32 = .int .i64 j ∧ v8 = .int .i64 (numV (ds.take j))) (fun _ v32 => ds.length - (intOf v32).toNat)
      case atStart => exact ⟨0, Nat.zero_le _, rfl, rfl⟩
      case round =>
        obtain ⟨j, hj, rfl, rfl⟩ := hrel
        have hv := numV_take hdig.out j
        obtain ⟨N, hN⟩ : ∃ N, numV (ds.take j) = N := ⟨_, rfl⟩
        rw [hN] at hv
        rw [hN]
        by_cases hlj : j < ds.length
        · have hp := pow_le3 (j := j) (by omega)
          obtain ⟨b1, o1, x, rfl, hb1, hcell, hwf, hd, ht⟩ := HS.out.get (j := j) (by omega)
          have hx := hdig.out x (List.mem_of_mem_drop (hd ▸ List.mem_cons_self ..))
          have hx1 := hx.1
          have hx2 := hx.2
          have hN1 := hv.1
          have hN2 : N ≤ 999 := by omega
          have hI := Lib.hid (show numV (ds.take (j + 1)) = 10 * N + (x - 48) from by rw [ht, numV_snoc, hN])
          clear hv hp hN hd ht hx
          go_wp2_with fail
          go_round
          case rel => exact ⟨j + 1, by omega, by go_num, by rw [hI.out]⟩
          case measure => simp [intOf]; omega
        · obtain rfl : j = ds.length := by omega
          have hp := pow_le4 (j := ds.length) (by omega)
          have hv1 := hv.1
          go_wp2_with fail
          go_ret
          exact ⟨N, E, _, rfl, hv.1, by omega, hkE, hR2, hK2, by rw [← hN]; exact HN.out⟩
end Go.Proofs.Ytjiofcnlibkhkaa
