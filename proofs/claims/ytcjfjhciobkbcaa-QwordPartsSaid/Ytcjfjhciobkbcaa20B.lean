/- Layer 20 (qword): codes read: what the functions of the reference and of the program return. Conditions: the arguments read as lists; lengths at most 2^22. -/
import Derived.Test.Ytcjfjhciobkbcaa20
namespace Go.Proofs.Ytcjfjhciobkbcaa
open Go.RowKit

theorem r02_TakeF {A n c xs} {k : Nat} {sg v : Int} {b : Bool} {w : World} (hs : Sl w .u8 A n c xs) (hk : k < n) (hn : n ≤ 1073741824) (hg : (Lit.int .u8 sg).wf = true) (hv : takV sg (xs.drop k) = v) (hb : takB sg (xs.drop k) = b) :
    Calls Try.prog 60 #[.slice A n c, .int .i64 k, .int .u8 sg] w (Ret (.tuple #[.int .u8 v, .bool b]) w) := by subst hv; subst hb; exact r02_Take hs hk hn hg
theorem p02_TakeF {A n c xs} {k : Nat} {sg v : Int} {b : Bool} {w : World} (hs : Sl w .u8 A n c xs) (hk : k < n) (hn : n ≤ 1073741824) (hg : (Lit.int .u8 sg).wf = true) (hv : takV sg (xs.drop k) = v) (hb : takB sg (xs.drop k) = b) :
    Calls Try.prog 79 #[.slice A n c, .int .i64 k, .int .u8 sg] w (RetB (.tuple #[.int .u8 v, .bool b]) w) := by subst hv; subst hb; exact p02_Take hs hk hn hg

def RelQ (w : World) (n : Nat) (xs : List Int) (v s i : Value) (wr : World) : Prop :=
  ∃ k : Nat, ∃ p : List (Int × Bool), ∃ t : Int, k ≤ n ∧ i = .int .i64 k ∧ s = .int .i64 t ∧ p.length ≤ k ∧ (0 ≤ t ∧ t ≤ k) ∧ Own wr w.heap.size 5 .u8 v (fs20 p) ∧
    Hid (evS 61 0 xs = p ++ evS 61 0 (xs.drop k) ∧ st20 p = t) ∧ Below w.heap.size w wr
/-- one step of what is read, an escape -/
theorem q_esc {xs r : List Int} {k : Nat} {x v : Int} {p : List (Int × Bool)} {t : Int} (hI : evS 61 0 xs = p ++ evS 61 0 (xs.drop k) ∧ st20 p = t) (hd : xs.drop k = x :: r) (hT : takB 61 (xs.drop k) = true) (hv : takV 61 (xs.drop k) = v) :
    (evS 61 0 xs = (p ++ [(v, true)]) ++ evS 61 0 (xs.drop (k + 3)) ∧ st20 (p ++ [(v, true)]) = t) ∧ fs20 (p ++ [(v, true)]) = fs20 p ++ [v] := by
  refine ⟨⟨?_, by rw [st20_app, hI.2]; simp⟩, by rw [fs20_app]; simp [val20]⟩
  have hT2 := hT
  rw [hd] at hT2
  have h := hI.1
  rw [hd, evS_esc hT2, ← hd, hv] at h
  rw [h]
  have : xs.drop (k + 3) = r.drop 2 := by rw [show k + 3 = k + (1 + 2) from rfl, ← List.drop_drop, hd, ← List.drop_drop]; rfl
  rw [this]; simp
/-- an octet by itself -/
theorem q_one {xs r : List Int} {k : Nat} {x : Int} {p : List (Int × Bool)} {t : Int} (hI : evS 61 0 xs = p ++ evS 61 0 (xs.drop k) ∧ st20 p = t) (hd : xs.drop k = x :: r) (hT : takB 61 (xs.drop k) = false) :
    (evS 61 0 xs = (p ++ [(x, false)]) ++ evS 61 0 (xs.drop (k + 1)) ∧ st20 (p ++ [(x, false)]) = t + (if x = 61 then 1 else 0)) ∧ fs20 (p ++ [(x, false)]) = fs20 p ++ [if x = 95 then 32 else x] := by
  refine ⟨⟨?_, by rw [st20_app, hI.2]; simp⟩, by rw [fs20_app]; simp [val20]⟩
  rw [hd] at hT
  have h := hI.1
  rw [hd, evS_one hT] at h
  rw [h]
  have : xs.drop (k + 1) = r := by rw [← List.drop_drop, hd]; rfl
  rw [this]; simp

set_option maxRecDepth 100000 in
set_option maxHeartbeats 1000000 in
theorem r20_Read {A n c xs} {w : World} (hs : Sl w .u8 A n c xs) (hn : n ≤ 4194304) :
    Calls Try.prog 22 #[.slice A n c] w (RetOwn (fun v => .tuple #[v, .int .i64 (sn20 xs)]) 5 .u8 (rd20 xs) w) := by
  have HL := Lib.hid hs.len
  go_enter Try.func22, Try.ntmps22
  go_wp2
  go_loopw [4, 5, 6] (RelQ w n xs) (fun _ _ i _ => n - (intOf i).toNat)
  case atStart => unfold RelQ; exact ⟨0, [], 0, by omega, rfl, rfl, by simp, by decide, Own.nil _ _ _ _, ⟨rfl, rfl⟩, Below.refl _ _⟩
  case round =>
    obtain ⟨k, p, t, hk, rfl, rfl, hlo, ⟨hst0, hst1⟩, ho, hI, hbel⟩ := hrel
    have hz := hbel.size
    have hs' := hs.bel hbel
    have hfl := fs20_len p
    by_cases hlt : k < n
    · obtain ⟨bb, o, x, rfl, hbb, hcell, hwf, hd, _⟩ := hs'.get hlt
      obtain ⟨v, hv⟩ : ∃ v, takV 61 (xs.drop k) = v := ⟨_, rfl⟩
      by_cases hT : takB 61 (xs.drop k) = true
      · have h3 : k + 3 ≤ n := by have := takB_len3 hT; have := HL.out; simp at *; omega
        have hvw : (Lit.int .u8 v).wf = true := hv ▸ takV_wf _ _
        have hq := q_esc hI.out hd hT hv
        have HQ := Lib.hid hq
        have HT := Lib.hid hT
        have HV := Lib.hid hv
        clear hI hd hT hv hq
        have e : (((k + 3 : Nat) : Int)) = (k : Int) + 2 + 1 := by omega
        go_wp2_with (first | (go_at_call 60; refine (r02_TakeF hs' hlt (by omega) (by decide) HV.out HT.out).mono ?_; rintro e w' ⟨rfl, rfl⟩) | (at_builtin; refine wpList_app rfl rfl eltB (by decide) rfl rfl (ho.alloc _) (Sl.one _ _ _ _ hvw) (hbel.alloc (by omega) _) (by refine ⟨?_, ?_⟩ <;> first | omega | (simp; done) | (simp; omega)) (by first | omega | (simp; done) | (simp; omega)) ?_; intro v1 w1 ho1 hb1 hg1))
        (first | (go_roundw; (case rel => exact (by unfold RelQ; exact ⟨k + 3, p ++ [(v, true)], t, by omega, by rw [e], rfl, by simp; omega, by omega, by rw [HQ.out.2]; exact ho1, HQ.out.1, hb1⟩)); (case measure => first | (simp [intOf] <;> omega) | (simp [lenOf] <;> omega))) | (refine ⟨?_, ?measure⟩; (repeat apply Exists.intro); refine ⟨?rel, ?eqs⟩; (case eqs => first | rfl | ((repeat (refine ⟨rfl, ?_⟩)); rfl)); (case rel => exact (by unfold RelQ; exact ⟨k + 3, p ++ [(v, true)], t, by omega, by rw [e], rfl, by simp; omega, by omega, by rw [HQ.out.2]; exact ho1, HQ.out.1, hb1⟩)); (case measure => first | (simp [intOf] <;> omega) | (simp [lenOf] <;> omega))) | ((repeat apply Exists.intro); refine ⟨?rel, ?eqs⟩; (case eqs => first | rfl | ((repeat (refine ⟨rfl, ?_⟩)); rfl)); (case rel => exact (by unfold RelQ; exact ⟨k + 3, p ++ [(v, true)], t, by omega, by rw [e], rfl, by simp; omega, by omega, by rw [HQ.out.2]; exact ho1, HQ.out.1, hb1⟩))))
      · have hT' : takB 61 (xs.drop k) = false := by simpa using hT
        have hq := q_one hI.out hd hT'
        have HT := Lib.hid hT'
        have HV := Lib.hid hv
        clear hI hd hT hT' hv
        by_cases h95 : x = 95
        · subst h95
          rw [if_neg (by decide), if_pos rfl] at hq
          have HQ := Lib.hid hq; clear hq
          go_wp2_with (first | (go_at_call 60; refine (r02_TakeF hs' hlt (by omega) (by decide) HV.out HT.out).mono ?_; rintro e w' ⟨rfl, rfl⟩) | (at_builtin; refine wpList_app rfl rfl eltB (by decide) rfl rfl (ho.alloc _) (Sl.one _ _ _ _ (by decide)) (hbel.alloc (by omega) _) (by refine ⟨?_, ?_⟩ <;> first | omega | (simp; done) | (simp; omega)) (by first | omega | (simp; done) | (simp; omega)) ?_; intro v1 w1 ho1 hb1 hg1))
          (first | (go_roundw; (case rel => exact (by unfold RelQ; exact ⟨k + 1, p ++ [(95, false)], t, by omega, by go_num, rfl, by simp; omega, by omega, by rw [HQ.out.2]; exact ho1, by have := HQ.out.1; rw [Int.add_zero] at this; exact this, hb1⟩)); (case measure => first | (simp [intOf] <;> omega) | (simp [lenOf] <;> omega))) | (refine ⟨?_, ?measure⟩; (repeat apply Exists.intro); refine ⟨?rel, ?eqs⟩; (case eqs => first | rfl | ((repeat (refine ⟨rfl, ?_⟩)); rfl)); (case rel => exact (by unfold RelQ; exact ⟨k + 1, p ++ [(95, false)], t, by omega, by go_num, rfl, by simp; omega, by omega, by rw [HQ.out.2]; exact ho1, by have := HQ.out.1; rw [Int.add_zero] at this; exact this, hb1⟩)); (case measure => first | (simp [intOf] <;> omega) | (simp [lenOf] <;> omega))) | ((repeat apply Exists.intro); refine ⟨?rel, ?eqs⟩; (case eqs => first | rfl | ((repeat (refine ⟨rfl, ?_⟩)); rfl)); (case rel => exact (by unfold RelQ; exact ⟨k + 1, p ++ [(95, false)], t, by omega, by go_num, rfl, by simp; omega, by omega, by rw [HQ.out.2]; exact ho1, by have := HQ.out.1; rw [Int.add_zero] at this; exact this, hb1⟩))))
        · have f95 : (x == 95) = false := by simpa using h95
          by_cases h61 : x = 61
          · subst h61
            rw [if_pos rfl, if_neg (by decide)] at hq
            have HQ := Lib.hid hq; clear hq
            go_wp2_with (first | (go_at_call 60; refine (r02_TakeF hs' hlt (by omega) (by decide) HV.out HT.out).mono ?_; rintro e w' ⟨rfl, rfl⟩) | (at_builtin; refine wpList_app rfl rfl eltB (by decide) rfl rfl (ho.alloc _) (Sl.one _ _ _ _ (by decide)) (hbel.alloc (by omega) _) (by refine ⟨?_, ?_⟩ <;> first | omega | (simp; done) | (simp; omega)) (by first | omega | (simp; done) | (simp; omega)) ?_; intro v1 w1 ho1 hb1 hg1))
            (first | (go_roundw; (case rel => exact (by unfold RelQ; exact ⟨k + 1, p ++ [(61, false)], t + 1, by omega, by go_num, rfl, by simp; omega, by omega, by rw [HQ.out.2]; exact ho1, HQ.out.1, hb1⟩)); (case measure => first | (simp [intOf] <;> omega) | (simp [lenOf] <;> omega))) | (refine ⟨?_, ?measure⟩; (repeat apply Exists.intro); refine ⟨?rel, ?eqs⟩; (case eqs => first | rfl | ((repeat (refine ⟨rfl, ?_⟩)); rfl)); (case rel => exact (by unfold RelQ; exact ⟨k + 1, p ++ [(61, false)], t + 1, by omega, by go_num, rfl, by simp; omega, by omega, by rw [HQ.out.2]; exact ho1, HQ.out.1, hb1⟩)); (case measure => first | (simp [intOf] <;> omega) | (simp [lenOf] <;> omega))) | ((repeat apply Exists.intro); refine ⟨?rel, ?eqs⟩; (case eqs => first | rfl | ((repeat (refine ⟨rfl, ?_⟩)); rfl)); (case rel => exact (by unfold RelQ; exact ⟨k + 1, p ++ [(61, false)], t + 1, by omega, by go_num, rfl, by simp; omega, by omega, by rw [HQ.out.2]; exact ho1, HQ.out.1, hb1⟩))))
          · have f61 : (x == 61) = false := by simpa using h61
            rw [if_neg h61, if_neg h95] at hq
            have HQ := Lib.hid hq; clear hq h95 h61
            go_wp2_with (first | (go_at_call 60; refine (r02_TakeF hs' hlt (by omega) (by decide) HV.out HT.out).mono ?_; rintro e w' ⟨rfl, rfl⟩) | (at_builtin; refine wpList_app rfl rfl eltB (by decide) rfl rfl (ho.alloc _) (Sl.one _ _ _ _ hwf) (hbel.alloc (by omega) _) (by refine ⟨?_, ?_⟩ <;> first | omega | (simp; done) | (simp; omega)) (by first | omega | (simp; done) | (simp; omega)) ?_; intro v1 w1 ho1 hb1 hg1))
            (first | (go_roundw; (case rel => exact (by unfold RelQ; exact ⟨k + 1, p ++ [(x, false)], t, by omega, by go_num, rfl, by simp; omega, by omega, by rw [HQ.out.2]; exact ho1, by have := HQ.out.1; rw [Int.add_zero] at this; exact this, hb1⟩)); (case measure => first | (simp [intOf] <;> omega) | (simp [lenOf] <;> omega))) | (refine ⟨?_, ?measure⟩; (repeat apply Exists.intro); refine ⟨?rel, ?eqs⟩; (case eqs => first | rfl | ((repeat (refine ⟨rfl, ?_⟩)); rfl)); (case rel => exact (by unfold RelQ; exact ⟨k + 1, p ++ [(x, false)], t, by omega, by go_num, rfl, by simp; omega, by omega, by rw [HQ.out.2]; exact ho1, by have := HQ.out.1; rw [Int.add_zero] at this; exact this, hb1⟩)); (case measure => first | (simp [intOf] <;> omega) | (simp [lenOf] <;> omega))) | ((repeat apply Exists.intro); refine ⟨?rel, ?eqs⟩; (case eqs => first | rfl | ((repeat (refine ⟨rfl, ?_⟩)); rfl)); (case rel => exact (by unfold RelQ; exact ⟨k + 1, p ++ [(x, false)], t, by omega, by go_num, rfl, by simp; omega, by omega, by rw [HQ.out.2]; exact ho1, by have := HQ.out.1; rw [Int.add_zero] at this; exact this, hb1⟩))))
    · have hI2 := hI.out
      rw [List.drop_eq_nil_of_le (by have := HL.out; omega), show evS 61 0 ([] : List Int) = [] from rfl, List.append_nil] at hI2
      have HI2 := Lib.hid hI2; clear hI2 hI
      go_wp2
      go_ret2
      unfold rd20 sn20
      rw [HI2.out.1, HI2.out.2]
      exact ⟨_, rfl, ho, hbel⟩

set_option maxRecDepth 100000 in
set_option maxHeartbeats 1000000 in
theorem p20_read {A n c xs} {w : World} (hs : Sl w .u8 A n c xs) (hn : n ≤ 4194304) :
    Calls Try.prog 61 #[.slice A n c] w (RetOwn (fun v => .tuple #[v, .int .i64 (sn20 xs)]) 5 .u8 (rd20 xs) w) := by
  have HL := Lib.hid hs.len
  go_enter Try.func61, Try.ntmps61
  go_wp2
  go_step3
  go_wp2
  go_step3
  go_wp2
  go_loopw [4, 5, 6] (RelQ w n xs) (fun _ _ i _ => n - (intOf i).toNat)
  case atStart => unfold RelQ; exact ⟨0, [], 0, by omega, rfl, rfl, by simp, by decide, Own.nil _ _ _ _, ⟨rfl, rfl⟩, Below.refl _ _⟩
  case round =>
    obtain ⟨k, p, t, hk, rfl, rfl, hlo, ⟨hst0, hst1⟩, ho, hI, hbel⟩ := hrel
    have hz := hbel.size
    have hs' := hs.bel hbel
    have hfl := fs20_len p
    by_cases hlt : k < n
    · obtain ⟨bb, o, x, rfl, hbb, hcell, hwf, hd, _⟩ := hs'.get hlt
      obtain ⟨v, hv⟩ : ∃ v, takV 61 (xs.drop k) = v := ⟨_, rfl⟩
      by_cases hT : takB 61 (xs.drop k) = true
      · have h3 : k + 3 ≤ n := by have := takB_len3 hT; have := HL.out; simp at *; omega
        have hvw : (Lit.int .u8 v).wf = true := hv ▸ takV_wf _ _
        have hq := q_esc hI.out hd hT hv
        have hx : x = 61 := by have h5 := hT; rw [hd] at h5; exact takB_sign h5
        subst hx
        have HQ := Lib.hid hq
        have HT := Lib.hid hT
        have HV := Lib.hid hv
        clear hI hd hT hv hq
        go_wp2_with (first | ((go_at_call 79; refine (p02_TakeF hs' hlt (by omega) (by decide) HV.out HT.out).mono ?_; rintro e w0 ⟨rfl, hb0⟩); have hz0 := hb0.size; have hB0 := below_then' hbel hb0 (Nat.le_refl _); have ho0 := ho.below hb0) | (at_builtin; refine wpList_app rfl rfl eltB (by decide) rfl rfl (ho0.alloc _) (Sl.one _ _ _ _ hvw) (hB0.alloc (by omega) _) (by refine ⟨?_, ?_⟩ <;> first | omega | (simp; done) | (simp; omega)) (by first | omega | (simp; done) | (simp; omega)) ?_; intro v1 w1 ho1 hb1 hg1))
        (first | (go_roundw; (case rel => exact (by unfold RelQ; exact ⟨k + 3, p ++ [(v, true)], t, by omega, by go_num, rfl, by simp; omega, by omega, by rw [HQ.out.2]; exact ho1, HQ.out.1, hb1⟩)); (case measure => first | (simp [intOf] <;> omega) | (simp [lenOf] <;> omega))) | (refine ⟨?_, ?measure⟩; (repeat apply Exists.intro); refine ⟨?rel, ?eqs⟩; (case eqs => first | rfl | ((repeat (refine ⟨rfl, ?_⟩)); rfl)); (case rel => exact (by unfold RelQ; exact ⟨k + 3, p ++ [(v, true)], t, by omega, by go_num, rfl, by simp; omega, by omega, by rw [HQ.out.2]; exact ho1, HQ.out.1, hb1⟩)); (case measure => first | (simp [intOf] <;> omega) | (simp [lenOf] <;> omega))) | ((repeat apply Exists.intro); refine ⟨?rel, ?eqs⟩; (case eqs => first | rfl | ((repeat (refine ⟨rfl, ?_⟩)); rfl)); (case rel => exact (by unfold RelQ; exact ⟨k + 3, p ++ [(v, true)], t, by omega, by go_num, rfl, by simp; omega, by omega, by rw [HQ.out.2]; exact ho1, HQ.out.1, hb1⟩))))
      · have hT' : takB 61 (xs.drop k) = false := by simpa using hT
        have hq := q_one hI.out hd hT'
        have HT := Lib.hid hT'
        have HV := Lib.hid hv
        clear hI hd hT hT' hv
        by_cases h95 : x = 95
        · subst h95
          rw [if_neg (by decide), if_pos rfl] at hq
          have HQ := Lib.hid hq; clear hq
          go_wp2_with (at_builtin; refine wpList_app rfl rfl eltB (by decide) rfl rfl (ho.alloc _) (Sl.one _ _ _ _ (by decide)) (hbel.alloc (by omega) _) (by refine ⟨?_, ?_⟩ <;> first | omega | (simp; done) | (simp; omega)) (by first | omega | (simp; done) | (simp; omega)) ?_; intro v1 w1 ho1 hb1 hg1)
          (first | (go_roundw; (case rel => exact (by unfold RelQ; exact ⟨k + 1, p ++ [(95, false)], t, by omega, by go_num, rfl, by simp; omega, by omega, by rw [HQ.out.2]; exact ho1, by have := HQ.out.1; rw [Int.add_zero] at this; exact this, hb1⟩)); (case measure => first | (simp [intOf] <;> omega) | (simp [lenOf] <;> omega))) | (refine ⟨?_, ?measure⟩; (repeat apply Exists.intro); refine ⟨?rel, ?eqs⟩; (case eqs => first | rfl | ((repeat (refine ⟨rfl, ?_⟩)); rfl)); (case rel => exact (by unfold RelQ; exact ⟨k + 1, p ++ [(95, false)], t, by omega, by go_num, rfl, by simp; omega, by omega, by rw [HQ.out.2]; exact ho1, by have := HQ.out.1; rw [Int.add_zero] at this; exact this, hb1⟩)); (case measure => first | (simp [intOf] <;> omega) | (simp [lenOf] <;> omega))) | ((repeat apply Exists.intro); refine ⟨?rel, ?eqs⟩; (case eqs => first | rfl | ((repeat (refine ⟨rfl, ?_⟩)); rfl)); (case rel => exact (by unfold RelQ; exact ⟨k + 1, p ++ [(95, false)], t, by omega, by go_num, rfl, by simp; omega, by omega, by rw [HQ.out.2]; exact ho1, by have := HQ.out.1; rw [Int.add_zero] at this; exact this, hb1⟩))))
        · have f95 : (x == 95) = false := by simpa using h95
          by_cases h61 : x = 61
          · subst h61
            rw [if_pos rfl, if_neg (by decide)] at hq
            have HQ := Lib.hid hq; clear hq
            go_wp2_with (first | ((go_at_call 79; refine (p02_TakeF hs' hlt (by omega) (by decide) HV.out HT.out).mono ?_; rintro e w0 ⟨rfl, hb0⟩); have hz0 := hb0.size; have hB0 := below_then' hbel hb0 (Nat.le_refl _); have ho0 := ho.below hb0) | (at_builtin; refine wpList_app rfl rfl eltB (by decide) rfl rfl (ho0.alloc _) (Sl.one _ _ _ _ (by decide)) (hB0.alloc (by omega) _) (by refine ⟨?_, ?_⟩ <;> first | omega | (simp; done) | (simp; omega)) (by first | omega | (simp; done) | (simp; omega)) ?_; intro v1 w1 ho1 hb1 hg1))
            (first | (go_roundw; (case rel => exact (by unfold RelQ; exact ⟨k + 1, p ++ [(61, false)], t + 1, by omega, by go_num, rfl, by simp; omega, by omega, by rw [HQ.out.2]; exact ho1, HQ.out.1, hb1⟩)); (case measure => first | (simp [intOf] <;> omega) | (simp [lenOf] <;> omega))) | (refine ⟨?_, ?measure⟩; (repeat apply Exists.intro); refine ⟨?rel, ?eqs⟩; (case eqs => first | rfl | ((repeat (refine ⟨rfl, ?_⟩)); rfl)); (case rel => exact (by unfold RelQ; exact ⟨k + 1, p ++ [(61, false)], t + 1, by omega, by go_num, rfl, by simp; omega, by omega, by rw [HQ.out.2]; exact ho1, HQ.out.1, hb1⟩)); (case measure => first | (simp [intOf] <;> omega) | (simp [lenOf] <;> omega))) | ((repeat apply Exists.intro); refine ⟨?rel, ?eqs⟩; (case eqs => first | rfl | ((repeat (refine ⟨rfl, ?_⟩)); rfl)); (case rel => exact (by unfold RelQ; exact ⟨k + 1, p ++ [(61, false)], t + 1, by omega, by go_num, rfl, by simp; omega, by omega, by rw [HQ.out.2]; exact ho1, HQ.out.1, hb1⟩))))
          · have f61 : (x == 61) = false := by simpa using h61
            rw [if_neg h61, if_neg h95] at hq
            have HQ := Lib.hid hq; clear hq h95 h61
            go_wp2_with (at_builtin; refine wpList_app rfl rfl eltB (by decide) rfl rfl (ho.alloc _) (Sl.one _ _ _ _ hwf) (hbel.alloc (by omega) _) (by refine ⟨?_, ?_⟩ <;> first | omega | (simp; done) | (simp; omega)) (by first | omega | (simp; done) | (simp; omega)) ?_; intro v1 w1 ho1 hb1 hg1)
            (first | (go_roundw; (case rel => exact (by unfold RelQ; exact ⟨k + 1, p ++ [(x, false)], t, by omega, by go_num, rfl, by simp; omega, by omega, by rw [HQ.out.2]; exact ho1, by have := HQ.out.1; rw [Int.add_zero] at this; exact this, hb1⟩)); (case measure => first | (simp [intOf] <;> omega) | (simp [lenOf] <;> omega))) | (refine ⟨?_, ?measure⟩; (repeat apply Exists.intro); refine ⟨?rel, ?eqs⟩; (case eqs => first | rfl | ((repeat (refine ⟨rfl, ?_⟩)); rfl)); (case rel => exact (by unfold RelQ; exact ⟨k + 1, p ++ [(x, false)], t, by omega, by go_num, rfl, by simp; omega, by omega, by rw [HQ.out.2]; exact ho1, by have := HQ.out.1; rw [Int.add_zero] at this; exact this, hb1⟩)); (case measure => first | (simp [intOf] <;> omega) | (simp [lenOf] <;> omega))) | ((repeat apply Exists.intro); refine ⟨?rel, ?eqs⟩; (case eqs => first | rfl | ((repeat (refine ⟨rfl, ?_⟩)); rfl)); (case rel => exact (by unfold RelQ; exact ⟨k + 1, p ++ [(x, false)], t, by omega, by go_num, rfl, by simp; omega, by omega, by rw [HQ.out.2]; exact ho1, by have := HQ.out.1; rw [Int.add_zero] at this; exact this, hb1⟩))))
    · have hI2 := hI.out
      rw [List.drop_eq_nil_of_le (by have := HL.out; omega), show evS 61 0 ([] : List Int) = [] from rfl, List.append_nil] at hI2
      have HI2 := Lib.hid hI2; clear hI2 hI
      go_wp2
      try rw [Exit.noGoto_ret]
      go_ret2
      unfold rd20 sn20
      rw [HI2.out.1, HI2.out.2]
      exact ⟨_, rfl, ho, hbel⟩

set_option maxRecDepth 100000 in
set_option maxHeartbeats 1000000 in
theorem p20_Read {A n c xs} {w : World} (hs : Sl w .u8 A n c xs) (hn : n ≤ 4194304) : Calls Try.prog 23 #[.slice A n c] w (RetOwn id 5 .u8 (rd20 xs) w) := by
  go_enter Try.func23, Try.ntmps23
  go_wp2_with ((go_at_call 61; refine (p20_read hs hn).mono ?_; rintro e w1 ⟨v1, rfl, ho1, hb1⟩); obtain ⟨A1, n1, c1, rfl, hs1⟩ := ho1.sl; clear hs1)
  go_ret
  exact ⟨_, rfl, ho1, hb1⟩
theorem sn20_le (xs : List Int) : 0 ≤ sn20 xs ∧ sn20 xs ≤ xs.length := by
  have h1 := st20_le (evS 61 0 xs)
  have h2 := evS_len 61 0 xs
  unfold sn20; omega
set_option maxRecDepth 100000 in
set_option maxHeartbeats 1000000 in
theorem p20_Strange {A n c xs} {w : World} (hs : Sl w .u8 A n c xs) (hn : n ≤ 4194304) : Calls Try.prog 24 #[.slice A n c] w (RetB (.int .i64 (sn20 xs)) w) := by
  go_enter Try.func24, Try.ntmps24
  go_wp2_with ((go_at_call 61; refine (p20_read hs hn).mono ?_; rintro e w1 ⟨v1, rfl, ho1, hb1⟩); obtain ⟨A1, n1, c1, rfl, hs1⟩ := ho1.sl; clear hs1)
  go_ret
  exact ⟨rfl, hb1⟩

theorem bad20_eq (xs : List Int) : bad20 xs = (!allL 4 xs || hasL xs 63) := by
  induction xs with
  | nil => rfl
  | cons x r ih =>
    have h1 := cntL_le 4 r
    have e : allL 4 (x :: r) = (isL x 4 && allL 4 r) := by
      unfold allL
      rw [Bool.eq_iff_iff]
      cases h : isL x 4 with
      | true => simp [cntL, h]; omega
      | false => simp [cntL, h]; omega
    have e2 : hasL (x :: r) 63 = (decide (x = 63) || hasL r 63) := by simp [hasL]
    have e3 : bad20 (x :: r) = ((!isL x 4 || decide (x = 63)) || bad20 r) := by simp [bad20]
    rw [e, e2, e3, ih]
    cases isL x 4 <;> cases decide (x = 63) <;> cases allL 4 r <;> cases hasL r 63 <;> rfl
theorem idx_has (xs : List Int) (c : Int) : decide (0 ≤ idx (isB c) xs 0) = hasL xs c := by
  have h := idx_neg (isB c) xs
  have e : hasL xs c = xs.any (isB c) := rfl
  rw [e]
  cases h2 : xs.any (isB c) with
  | true => rw [h2] at h; simp at h; simpa using h
  | false => have := h.2 h2; simp; omega
set_option maxRecDepth 100000 in
set_option maxHeartbeats 1000000 in
theorem p20_Check {A n c xs} {w : World} (hs : Sl w .u8 A n c xs) (hn : n ≤ 4194304) : Calls Try.prog 25 #[.slice A n c] w (RetB (.int .i64 (chk20 xs)) w) := by
  have hb := bad20_eq xs
  have hi := idx_has xs 63
  have hsn := sn20_le xs
  obtain ⟨j, hj⟩ : ∃ j, idx (isB 63) xs 0 = j := ⟨_, rfl⟩
  obtain ⟨t, ht⟩ : ∃ t, sn20 xs = t := ⟨_, rfl⟩
  rw [hj] at hi
  rw [ht] at hsn
  obtain ⟨hs0, hs1⟩ := hsn
  have HJ := Lib.hid hj; have HT := Lib.hid ht; clear hj ht
  cases ha : allL 4 xs with
  | false =>
    have hc : chk20 xs = 3 := by unfold chk20; rw [hb, ha]; rfl
    have HC := Lib.hid hc; have HA := Lib.hid ha; clear hb hi hc ha hs0 hs1
    go_enter Try.func25, Try.ntmps25
    go_wp2_with (go_at_call 62; refine (p01_All hs (by omega)).mono ?_; rw [HA.out]; rintro e w' ⟨rfl, rfl⟩)
    go_ret
    exact ⟨ret_int HC.out.symm, Below.refl _ _⟩
  | true =>
    have HA := Lib.hid ha
    rw [ha] at hb
    clear ha
    by_cases h0 : 0 ≤ j
    · have hc : chk20 xs = 3 := by unfold chk20; rw [hb, ← hi, decide_eq_true h0]; rfl
      have HC := Lib.hid hc; clear hb hi hc hs0 hs1
      go_enter Try.func25, Try.ntmps25
      go_wp2_with (first | (go_at_call 62; refine (p01_All hs (by omega)).mono ?_; rw [HA.out]; rintro e w' ⟨rfl, rfl⟩) | (go_at_call 63; refine (lib_IndexByte hs (by decide)).mono ?_; rw [HJ.out]; rintro e w' ⟨rfl, rfl⟩))
      go_ret
      exact ⟨ret_int HC.out.symm, Below.refl _ _⟩
    · have hb2 : bad20 xs = false := by rw [hb, ← hi, decide_eq_false h0]; rfl
      by_cases ht : 0 < t
      · have hc : chk20 xs = 3 := by unfold chk20; rw [hb2, HT.out, if_pos ht]; rfl
        have HC := Lib.hid hc; clear hb hb2 hi hc
        go_enter Try.func25, Try.ntmps25
        go_wp2_with (first | (go_at_call 62; refine (p01_All hs (by omega)).mono ?_; rw [HA.out]; rintro e w' ⟨rfl, rfl⟩) | (go_at_call 63; refine (lib_IndexByte hs (by decide)).mono ?_; rw [HJ.out]; rintro e w' ⟨rfl, rfl⟩) | (go_at_call 24; refine (p20_Strange hs hn).mono ?_; rw [HT.out]; rintro e w1 ⟨rfl, hb1⟩))
        go_ret
        exact ⟨ret_int HC.out.symm, hb1⟩
      · have hc : chk20 xs = 0 := by unfold chk20; rw [hb2, HT.out, if_neg ht]; rfl
        have HC := Lib.hid hc; clear hb hb2 hi hc
        go_enter Try.func25, Try.ntmps25
        go_wp2_with (first | (go_at_call 62; refine (p01_All hs (by omega)).mono ?_; rw [HA.out]; rintro e w' ⟨rfl, rfl⟩) | (go_at_call 63; refine (lib_IndexByte hs (by decide)).mono ?_; rw [HJ.out]; rintro e w' ⟨rfl, rfl⟩) | (go_at_call 24; refine (p20_Strange hs hn).mono ?_; rw [HT.out]; rintro e w1 ⟨rfl, hb1⟩))
        go_ret
        exact ⟨ret_int HC.out.symm, hb1⟩
end Go.Proofs.Ytcjfjhciobkbcaa
