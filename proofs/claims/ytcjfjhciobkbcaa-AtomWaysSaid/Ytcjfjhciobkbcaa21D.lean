/- Layer 21 (pct): codes read: the reference. Conditions: the arguments read as lists; lengths at most 2^22. -/
import Derived.Test.Ytcjfjhciobkbcaa21C
namespace Go.Proofs.Ytcjfjhciobkbcaa
open Go.RowKit

/-- what is read: each octet, and whether an escape told it (the first s octets are passed over) -/
def ev : Nat → List Int → List (Int × Bool)
  | _, [] => []
  | s + 1, _ :: r => ev s r
  | 0, x :: r => if takB 37 (x :: r) then (takV 37 (x :: r), true) :: ev 2 r else (x, false) :: ev 0 r
theorem ev_skip (s : Nat) (l : List Int) : ev s l = ev 0 (l.drop s) := by
  induction s generalizing l with
  | zero => rfl
  | succ s ih => cases l with
    | nil => rfl
    | cons x r => simp only [ev, List.drop_succ_cons]; exact ih r
theorem ev_esc {x : Int} {r : List Int} (h : takB 37 (x :: r) = true) : ev 0 (x :: r) = (takV 37 (x :: r), true) :: ev 0 (r.drop 2) := by
  rw [ev, if_pos h, ev_skip 2 r]
theorem ev_one {x : Int} {r : List Int} (h : takB 37 (x :: r) = false) : ev 0 (x :: r) = (x, false) :: ev 0 r := by
  rw [ev, if_neg (by simp [h])]
theorem takB_len {sg : Int} {l : List Int} (h : takB sg l = true) : 3 ≤ l.length := by
  rcases Nat.lt_or_ge l.length 3 with h3 | h3
  · rw [(tak_none (esc_short h3)).2] at h; cases h
  · exact h3
/-- how many signs are none of an escape; whether all else is an attribute's -/
def stV (p : List (Int × Bool)) : Int := (p.map fun q => if q.1 = 37 ∧ q.2 = false then (1 : Int) else 0).sum
def rtV (p : List (Int × Bool)) : Bool := p.all fun q => q.2 || isL q.1 256
def fsV (p : List (Int × Bool)) : List Int := p.map Prod.fst
theorem stV_app (p : List (Int × Bool)) (q : Int × Bool) : stV (p ++ [q]) = stV p + (if q.1 = 37 ∧ q.2 = false then (1 : Int) else 0) := by simp [stV]
theorem rtV_app (p : List (Int × Bool)) (q : Int × Bool) : rtV (p ++ [q]) = (rtV p && (q.2 || isL q.1 256)) := by simp [rtV]
theorem fsV_app (p : List (Int × Bool)) (q : Int × Bool) : fsV (p ++ [q]) = fsV p ++ [q.1] := by simp [fsV]
theorem fsV_len (p : List (Int × Bool)) : (fsV p).length = p.length := by simp [fsV]

theorem r02_TakeE {A n c xs} {k : Nat} {sg v : Int} {b : Bool} {w : World} (hs : Sl w .u8 A n c xs) (hk : k < n) (hn : n ≤ 1073741824) (hg : (Lit.int .u8 sg).wf = true) (hv : takV sg (xs.drop k) = v) (hb : takB sg (xs.drop k) = b) :
    Calls Try.prog 60 #[.slice A n c, .int .i64 k, .int .u8 sg] w (Ret (.tuple #[.int .u8 v, .bool b]) w) := by subst hv; subst hb; exact r02_Take hs hk hn hg

def RelR (w : World) (n : Nat) (xs : List Int) (v s r i : Value) (wr : World) : Prop :=
  ∃ k : Nat, ∃ p : List (Int × Bool), k ≤ n ∧ i = .int .i64 k ∧ s = .int .i64 (stV p) ∧ r = .bool (rtV p) ∧ p.length ≤ k ∧ (0 ≤ stV p ∧ stV p ≤ k) ∧ Own wr w.heap.size 5 .u8 v (fsV p) ∧
    Hid (ev 0 xs = p ++ ev 0 (xs.drop k)) ∧ Below w.heap.size w wr

set_option maxRecDepth 100000 in
set_option maxHeartbeats 1000000 in
theorem r21_Read {A n c xs} {w : World} (hs : Sl w .u8 A n c xs) (hn : n ≤ 4194304) :
    Calls Try.prog 30 #[.slice A n c] w (RetOwn (fun v => .tuple #[v, .int .i64 (stV (ev 0 xs)), .bool (rtV (ev 0 xs))]) 5 .u8 (fsV (ev 0 xs)) w) := by
  have HL := Lib.hid hs.len
  go_enter Try.func30, Try.ntmps30
  go_wp2
  go_loopw [5, 6, 7, 8] (RelR w n xs) (fun _ _ _ i _ => n - (intOf i).toNat)
  case atStart => unfold RelR; exact ⟨0, [], by omega, rfl, rfl, rfl, by simp, by decide, Own.nil _ _ _ _, rfl, Below.refl _ _⟩
  case round =>
    obtain ⟨k, p, hk, rfl, rfl, rfl, hlo, ⟨hst0, hst1⟩, ho, hI, hbel⟩ := hrel
    have hz := hbel.size
    have hs' := hs.bel hbel
    have hfl := fsV_len p
    by_cases hlt : k < n
    · obtain ⟨bb, o, x, rfl, hbb, hcell, hwf, hd, _⟩ := hs'.get hlt
      have HD := Lib.hid hd
      have hI2 := hI.out
      by_cases hT : takB 37 (xs.drop k) = true
      · have h3 : k + 3 ≤ n := by have := takB_len hT; have := HL.out; simp at *; omega
        obtain ⟨v, hv⟩ : ∃ v, takV 37 (xs.drop k) = v := ⟨_, rfl⟩
        have hvw : (Lit.int .u8 v).wf = true := hv ▸ takV_wf _ _
        have hT2 := hT
        rw [hd] at hT2 hI2
        rw [ev_esc hT2, ← hd, hv, List.drop_drop] at hI2
        have HI2 := Lib.hid hI2
        have HT := Lib.hid hT
        have HV := Lib.hid hv
        have hstv := stV_app p (v, true)
        have hrtv := rtV_app p (v, true)
        have hfsv := fsV_app p (v, true)
        simp at hstv hrtv hfsv
        have H1 := Lib.hid hstv; have H2 := Lib.hid hrtv; have H3 := Lib.hid hfsv
        clear hI2 hI hd hT hT2 hv hstv hrtv hfsv
        have e : (((k + 3 : Nat) : Int)) = (k : Int) + 2 + 1 := by omega
        go_wp2_with (first | (go_at_call 60; refine (r02_TakeE hs' hlt (by omega) (by decide) HV.out HT.out).mono ?_; rintro e w' ⟨rfl, rfl⟩) | (at_builtin; refine wpList_app rfl rfl eltB (by decide) rfl rfl (ho.alloc _) (Sl.one _ _ _ _ hvw) (hbel.alloc (by omega) _) (by refine ⟨?_, ?_⟩ <;> first | omega | (simp; done) | (simp; omega)) (by first | omega | (simp; done) | (simp; omega)) ?_; intro v1 w1 ho1 hb1 hg1))
        (first | (go_roundw; (case rel => exact (by unfold RelR; exact ⟨k + 3, p ++ [(v, true)], by omega, by rw [e], by rw [H1.out], by rw [H2.out], by simp; omega, by rw [H1.out]; omega, by rw [H3.out]; exact ho1, by show _ = _; rw [HI2.out]; simp, hb1⟩)); (case measure => first | (simp [intOf] <;> omega) | (simp [lenOf] <;> omega))) | (refine ⟨?_, ?measure⟩; (repeat apply Exists.intro); refine ⟨?rel, ?eqs⟩; (case eqs => first | rfl | ((repeat (refine ⟨rfl, ?_⟩)); rfl)); (case rel => exact (by unfold RelR; exact ⟨k + 3, p ++ [(v, true)], by omega, by rw [e], by rw [H1.out], by rw [H2.out], by simp; omega, by rw [H1.out]; omega, by rw [H3.out]; exact ho1, by show _ = _; rw [HI2.out]; simp, hb1⟩)); (case measure => first | (simp [intOf] <;> omega) | (simp [lenOf] <;> omega))) | ((repeat apply Exists.intro); refine ⟨?rel, ?eqs⟩; (case eqs => first | rfl | ((repeat (refine ⟨rfl, ?_⟩)); rfl)); (case rel => exact (by unfold RelR; exact ⟨k + 3, p ++ [(v, true)], by omega, by rw [e], by rw [H1.out], by rw [H2.out], by simp; omega, by rw [H1.out]; omega, by rw [H3.out]; exact ho1, by show _ = _; rw [HI2.out]; simp, hb1⟩))))
      · have hT' : takB 37 (xs.drop k) = false := by simpa using hT
        obtain ⟨v, hv⟩ : ∃ v, takV 37 (xs.drop k) = v := ⟨_, rfl⟩
        have hT2 := hT'
        rw [hd] at hT2 hI2
        rw [ev_one hT2] at hI2
        have HI2 := Lib.hid hI2
        have HT := Lib.hid hT'
        have HV := Lib.hid hv
        have hstv := stV_app p (x, false)
        have hrtv := rtV_app p (x, false)
        have hfsv := fsV_app p (x, false)
        simp at hrtv hfsv
        have H2 := Lib.hid hrtv; have H3 := Lib.hid hfsv
        clear hI2 hI hd hT hT' hT2 hv hrtv hfsv
        by_cases hx : x = 37
        · subst hx
          simp at hstv
          have H1 := Lib.hid hstv; clear hstv
          cases hr : rtV p <;> cases hq : isL 37 256
          all_goals (rw [hr, hq] at H2)
          all_goals go_wp2_with (first | (go_at_call 60; refine (r02_TakeE hs' hlt (by omega) (by decide) HV.out HT.out).mono ?_; rintro e w' ⟨rfl, rfl⟩) | (go_at_call 56; refine (r01_Is (by decide)).mono ?_; rintro e w' ⟨rfl, rfl⟩) | (at_builtin; refine wpList_app rfl rfl eltB (by decide) rfl rfl (ho.alloc _) (Sl.one _ _ _ _ hwf) (hbel.alloc (by omega) _) (by refine ⟨?_, ?_⟩ <;> first | omega | (simp; done) | (simp; omega)) (by first | omega | (simp; done) | (simp; omega)) ?_; intro v1 w1 ho1 hb1 hg1))
          all_goals (first | (go_roundw; (case rel => exact (by unfold RelR; exact ⟨k + 1, p ++ [(37, false)], by omega, by go_num, by rw [H1.out], by rw [H2.out]; rfl, by simp; omega, by rw [H1.out]; omega, by rw [H3.out]; exact ho1, by show _ = _; rw [HI2.out]; simp, hb1⟩)); (case measure => first | (simp [intOf] <;> omega) | (simp [lenOf] <;> omega))) | (refine ⟨?_, ?measure⟩; (repeat apply Exists.intro); refine ⟨?rel, ?eqs⟩; (case eqs => first | rfl | ((repeat (refine ⟨rfl, ?_⟩)); rfl)); (case rel => exact (by unfold RelR; exact ⟨k + 1, p ++ [(37, false)], by omega, by go_num, by rw [H1.out], by rw [H2.out]; rfl, by simp; omega, by rw [H1.out]; omega, by rw [H3.out]; exact ho1, by show _ = _; rw [HI2.out]; simp, hb1⟩)); (case measure => first | (simp [intOf] <;> omega) | (simp [lenOf] <;> omega))) | ((repeat apply Exists.intro); refine ⟨?rel, ?eqs⟩; (case eqs => first | rfl | ((repeat (refine ⟨rfl, ?_⟩)); rfl)); (case rel => exact (by unfold RelR; exact ⟨k + 1, p ++ [(37, false)], by omega, by go_num, by rw [H1.out], by rw [H2.out]; rfl, by simp; omega, by rw [H1.out]; omega, by rw [H3.out]; exact ho1, by show _ = _; rw [HI2.out]; simp, hb1⟩))))
        · have f1 : (x == 37) = false := by simpa using hx
          simp [hx] at hstv
          have H1 := Lib.hid hstv; clear hstv
          cases hr : rtV p <;> cases hq : isL x 256
          all_goals (rw [hr, hq] at H2)
          all_goals go_wp2_with (first | (go_at_call 60; refine (r02_TakeE hs' hlt (by omega) (by decide) HV.out HT.out).mono ?_; rintro e w' ⟨rfl, rfl⟩) | (go_at_call 56; refine (r01_Is hwf).mono ?_; rintro e w' ⟨rfl, rfl⟩) | (at_builtin; refine wpList_app rfl rfl eltB (by decide) rfl rfl (ho.alloc _) (Sl.one _ _ _ _ hwf) (hbel.alloc (by omega) _) (by refine ⟨?_, ?_⟩ <;> first | omega | (simp; done) | (simp; omega)) (by first | omega | (simp; done) | (simp; omega)) ?_; intro v1 w1 ho1 hb1 hg1))
          all_goals (first | (go_roundw; (case rel => exact (by unfold RelR; exact ⟨k + 1, p ++ [(x, false)], by omega, by go_num, by rw [H1.out], by rw [H2.out]; rfl, by simp; omega, by rw [H1.out]; omega, by rw [H3.out]; exact ho1, by show _ = _; rw [HI2.out]; simp, hb1⟩)); (case measure => first | (simp [intOf] <;> omega) | (simp [lenOf] <;> omega))) | (refine ⟨?_, ?measure⟩; (repeat apply Exists.intro); refine ⟨?rel, ?eqs⟩; (case eqs => first | rfl | ((repeat (refine ⟨rfl, ?_⟩)); rfl)); (case rel => exact (by unfold RelR; exact ⟨k + 1, p ++ [(x, false)], by omega, by go_num, by rw [H1.out], by rw [H2.out]; rfl, by simp; omega, by rw [H1.out]; omega, by rw [H3.out]; exact ho1, by show _ = _; rw [HI2.out]; simp, hb1⟩)); (case measure => first | (simp [intOf] <;> omega) | (simp [lenOf] <;> omega))) | ((repeat apply Exists.intro); refine ⟨?rel, ?eqs⟩; (case eqs => first | rfl | ((repeat (refine ⟨rfl, ?_⟩)); rfl)); (case rel => exact (by unfold RelR; exact ⟨k + 1, p ++ [(x, false)], by omega, by go_num, by rw [H1.out], by rw [H2.out]; rfl, by simp; omega, by rw [H1.out]; omega, by rw [H3.out]; exact ho1, by show _ = _; rw [HI2.out]; simp, hb1⟩))))
    · have hI2 := hI.out
      rw [List.drop_eq_nil_of_le (by have := HL.out; omega), show ev 0 ([] : List Int) = [] from rfl, List.append_nil] at hI2
      have HI2 := Lib.hid hI2; clear hI2 hI
      go_wp2
      go_ret3
      rw [HI2.out]
      exact ⟨_, rfl, ho, hbel⟩

def chkV (xs : List Int) : Int := if rtV (ev 0 xs) then 0 else 3
set_option maxRecDepth 100000 in
set_option maxHeartbeats 1000000 in
theorem r21_Check {A n c xs} {w : World} (hs : Sl w .u8 A n c xs) (hn : n ≤ 4194304) : Calls Try.prog 34 #[.slice A n c] w (RetB (.int .i64 (chkV xs)) w) := by
  have h := r21_Read hs hn
  unfold chkV
  generalize ev 0 xs = E at h ⊢
  cases hr : rtV E
  all_goals rw [hr] at h
  all_goals clear hr
  all_goals go_enter Try.func34, Try.ntmps34
  all_goals go_wp2_with (go_at_call 30; refine h.mono ?_; rintro e w1 ⟨v1, rfl, ho1, hb1⟩)
  all_goals go_ret
  all_goals exact ⟨rfl, hb1⟩

end Go.Proofs.Ytcjfjhciobkbcaa
