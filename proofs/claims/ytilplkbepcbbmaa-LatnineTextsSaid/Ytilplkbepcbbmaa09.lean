/- Layer 9 (latnine): what each function of the reference and of the program returns, by one plain function each. Conditions: the arguments read as lists; lengths at most 2^30. -/
import Derived.Test.Ytilplkbepcbbmaa03
import Derived.Test.YtilplkbepcbbmaaLibB
namespace Go.Proofs.Ytilplkbepcbbmaa
open Go.RowKit

def sign9 (x : Int) : Int :=
  if x = 164 then 8364 else if x = 166 then 352 else if x = 168 then 353 else if x = 180 then 381 else if x = 184 then 382 else if x = 188 then 338 else if x = 189 then 339 else if x = 190 then 376 else x
def tab9 : List (Int × Int) := [(164, 8364), (166, 352), (168, 353), (180, 381), (184, 382), (188, 338), (189, 339), (190, 376)]
def isSign9 (c : Int) : Bool := tab9.any fun p => decide (p.2 = c)
def isOct9 (c : Int) : Bool := tab9.any fun p => decide (p.1 = c)
def has9 (c : Int) : Bool := isSign9 c || (decide (0 ≤ c ∧ c < 256) && !isOct9 c)
def oct9 (c : Int) : Int :=
  if c = 8364 then 164 else if c = 352 then 166 else if c = 353 then 168 else if c = 381 then 180 else if c = 382 then 184 else if c = 338 then 188 else if c = 339 then 189 else if c = 376 then 190 else if has9 c then c else 0

set_option maxHeartbeats 400000 in
theorem r09_Sign {x : Int} {w : World} (hc : (Lit.int .u8 x).wf = true) : Calls Try.prog 14 #[.int .u8 x] w (Ret (.int .i32 (sign9 x)) w) := by
  obtain ⟨h1, h2⟩ := wf_u8.1 hc
  clear hc
  go_enter Try.func14, Try.ntmps14
  go_wp2
  all_goals
    go_ret
    exact ⟨ret_int (by go_light; simp_all [sign9]), rfl⟩

theorem sign9_wf {x : Int} (hc : (Lit.int .u8 x).wf = true) : (Lit.int .i32 (sign9 x)).wf = true := by
  obtain ⟨h1, h2⟩ := wf_u8.1 hc
  rw [wf_i32]; unfold sign9; repeat (split; omega)
  omega

/-- the first octet from n on whose sign c is -/
theorem sign9_oct {n c : Int} (hn : 0 ≤ n ∧ n < 256) (h : sign9 n = c) (hb : c ≠ 65533) : has9 c = true ∧ oct9 c = n := by
  subst h
  unfold sign9 at hb ⊢
  repeat' split
  all_goals first | (subst_vars; decide) | skip
  rename_i h1 h2 h3 h4 h5 h6 h7 h8
  have hs : isSign9 n = false := by simp [isSign9, tab9]; omega
  have ho : isOct9 n = false := by simp [isOct9, tab9]; omega
  have hh : has9 n = true := by simp [has9, hs, ho, hn]
  refine ⟨hh, ?_⟩
  unfold oct9
  rw [hh]
  simp [isSign9, tab9] at hs
  repeat' split
  all_goals first | omega | simp_all
theorem oct9_sign {c : Int} (h : has9 c = true) : sign9 (oct9 c) = c ∧ 0 ≤ oct9 c ∧ oct9 c < 256 ∧ c ≠ 65533 := by
  by_cases hs : isSign9 c = true
  · simp [isSign9, tab9] at hs
    rcases hs with h | h | h | h | h | h | h | h <;> subst h <;> decide
  · have hs' : isSign9 c = false := by simpa using hs
    simp [has9, hs'] at h
    obtain ⟨h1, h2⟩ := h
    have hh : has9 c = true := by simp [has9, h1, h2]
    have e : oct9 c = c := by
      simp [isSign9, tab9] at hs'
      unfold oct9; rw [hh]
      repeat' split
      all_goals first | omega | simp_all
    rw [e]
    refine ⟨?_, by omega, by omega, by omega⟩
    simp [isOct9, tab9] at h2
    unfold sign9
    repeat (split; omega)
    rfl

theorem oct9_no {c : Int} (h : has9 c = false) : oct9 c = 0 := by
  have hs : isSign9 c = false := by simp [has9] at h; exact h.1
  simp [isSign9, tab9] at hs
  unfold oct9; rw [h]
  repeat' split
  all_goals first | omega | simp_all

set_option maxRecDepth 100000 in
set_option maxHeartbeats 1000000 in
theorem r09_Put {c : Int} {w : World} : Calls Try.prog 11 #[.int .i32 c] w (Ret (.tuple #[.int .u8 (oct9 c), .bool (has9 c)]) w) := by
  go_enter Try.func11, Try.ntmps11
  go_wp2
  go_loop [4] (fun i => ∃ k : Nat, k ≤ 256 ∧ i = .int .i64 k ∧ Hid (∀ j : Nat, j < k → ¬ (sign9 j = c ∧ c ≠ 65533))) (fun i => (256 - intOf i).toNat)
  case atStart => exact ⟨0, Nat.zero_le _, rfl, fun j hj => absurd hj (by omega)⟩
  case round =>
    obtain ⟨k, hk, rfl, hI⟩ := hrel
    by_cases hlt : k < 256
    · have hw8 : (Lit.int .u8 (k : Int)).wf = true := wf_u8.2 (by omega)
      go_wp2_with (go_at_call 14; refine (r09_Sign hw8).mono ?_; rintro e w' ⟨rfl, rfl⟩)
      · have h1 : sign9 k = c := by assumption
        have h2 : (c != 65533) = true := by assumption
        have h3 := sign9_oct (by omega) h1 (by simpa using h2)
        go_ret2
        exact ⟨ret2 (vint (by omega)) (vbool (by rw [h3.1])), rfl⟩
      · have h2 : (c != 65533) = false := by assumption
        (go_round; (case rel => exact ⟨k + 1, by omega, by go_num, fun j hj h => absurd h.2 (by simpa using h2)⟩); (case measure => simp [intOf]; omega))
      · have h2 : ¬ sign9 k = c := by assumption
        (go_round; (case rel => exact ⟨k + 1, by omega, by go_num, fun j hj h => (by rcases Nat.lt_or_ge j k with h3 | h3; exact hI.out j h3 h; have : j = k := (by omega); subst this; exact h2 h.1)⟩); (case measure => simp [intOf]; omega))
    · go_wp2
      have hno : has9 c = false := by
        cases e : has9 c
        · rfl
        · obtain ⟨e1, e2, e3, e4⟩ := oct9_sign e
          exact absurd ⟨by rw [show (((oct9 c).toNat : Nat) : Int) = oct9 c from by omega]; exact e1, e4⟩ (hI.out (oct9 c).toNat (by omega))
      have h0 := oct9_no hno
      go_ret2
      exact ⟨ret2 (vint (by omega)) (vbool (by rw [hno])), rfl⟩

def lacks9 (xs : List Int) : Int := idx (fun c => !has9 c) xs 0

set_option maxRecDepth 100000 in
set_option maxHeartbeats 1000000 in
theorem r09_Lacks {A n c xs} {w : World} (hs : Sl w .i32 A n c xs) : Calls Try.prog 27 #[.slice A n c] w (Ret (.int .i64 (lacks9 xs)) w) := by
  have HL := Lib.hid hs.len; have hle := hs.le; have hcm := hs.cm; unfold maxLen at hcm
  go_enter Try.func27, Try.ntmps27
  go_wp2
  go_loop [3] (fun i => ∃ k : Nat, k ≤ n ∧ i = .int .i64 k ∧ Hid (lacks9 xs = idx (fun c => !has9 c) (xs.drop k) k)) (fun i => n - (intOf i).toNat)
  case atStart => exact ⟨0, Nat.zero_le _, rfl, rfl⟩
  case round =>
    obtain ⟨k, hk, rfl, hI⟩ := hrel
    by_cases hlt : k < n
    · obtain ⟨b, o, x, rfl, hb, hcell, hwf, hd, _⟩ := hs.get hlt
      have HD := Lib.hid hd; clear hd
      go_wp2_with (go_at_call 11; refine r09_Put.mono ?_; rintro e w' ⟨rfl, rfl⟩)
      · have h : (!has9 x) = true := by assumption
        go_ret
        exact ⟨ret_int (by rw [hI.out, HD.out]; simp [idx, h]), rfl⟩
      · have h : (!has9 x) = false := by assumption
        (go_round; (case rel => exact ⟨k + 1, by omega, by go_num, by show _ = _; rw [hI.out, HD.out]; simp [idx, h]⟩); (case measure => simp [intOf]; omega))
    · go_wp2
      go_ret
      exact ⟨ret_int (by rw [hI.out, List.drop_eq_nil_of_le (by have := HL.out; omega)]; rfl), rfl⟩

theorem oct9_wf (c : Int) : (Lit.int .u8 (oct9 c)).wf = true := by
  rw [wf_u8]
  cases e : has9 c
  · rw [oct9_no e]; omega
  · obtain ⟨_, e2, e3, _⟩ := oct9_sign e
    omega
theorem lacks9_neg (xs : List Int) : lacks9 xs < 0 ↔ xs.all has9 = true := by
  rw [lacks9, idx_neg, List.all_eq_not_any_not]; simp
/-- the octets of a text, and the error -/
def lay9 (xs : List Int) : List Int := if xs.all has9 then xs.map oct9 else []
def err9 (xs : List Int) : Int := if xs.all has9 then 0 else 9
theorem lay9_yes {xs : List Int} (h : xs.all has9 = true) : lay9 xs = xs.map oct9 ∧ err9 xs = 0 := by unfold lay9 err9; rw [h]; exact ⟨rfl, rfl⟩
theorem lay9_no {xs : List Int} (h : xs.all has9 = false) : lay9 xs = [] ∧ err9 xs = 9 := by unfold lay9 err9; rw [h]; exact ⟨rfl, rfl⟩

set_option maxRecDepth 100000 in
set_option maxHeartbeats 1000000 in
theorem r09_Lay {A n c xs} {w : World} (hs : Sl w .i32 A n c xs) (hn : n ≤ 1073741824) :
    Calls Try.prog 24 #[.slice A n c] w (RetOwn (fun v => .tuple #[v, .int .i64 (err9 xs)]) 5 .u8 (lay9 xs) w) := by
  have HL := Lib.hid hs.len
  have hl9 := lacks9_neg xs
  by_cases hall : xs.all has9 = true
  · have h0 : lacks9 xs < 0 := hl9.2 hall
    clear hl9
    have HA := Lib.hid hall; clear hall
    go_enter Try.func24, Try.ntmps24
    go_wp2_with (go_at_call 27; refine (r09_Lacks hs).mono ?_; rintro e w' ⟨rfl, rfl⟩)
    go_loopw [4, 5] (fun v i wr => ∃ k : Nat, k ≤ n ∧ i = .int .i64 k ∧ Own wr w.heap.size 5 .u8 v ((xs.take k).map oct9) ∧ Below w.heap.size w wr) (fun _ i _ => n - (intOf i).toNat)
    case atStart => exact ⟨0, Nat.zero_le _, rfl, Own.nil _ _ _ _, Below.refl _ _⟩
    case round =>
      obtain ⟨k, hk, rfl, ho, hbel⟩ := hrel
      have hz := hbel.size
      have hs' := hs.bel hbel
      have HT : ((xs.take k).map oct9).length ≤ k := by simp; omega
      by_cases hlt : k < n
      · obtain ⟨b, o, x, rfl, hb, hcell, hwf, _, ht⟩ := hs'.get hlt
        have hk1 : (xs.take (k + 1)).map oct9 = (xs.take k).map oct9 ++ [oct9 x] := by rw [ht]; simp
        clear ht
        have HK := Lib.hid hk1; clear hk1
        go_wp2_with (first | (go_at_call 11; refine r09_Put.mono ?_; rintro e w' ⟨rfl, rfl⟩) | (at_builtin; refine wpList_app rfl rfl eltB (by decide) rfl rfl (ho.alloc _) (Sl.one _ _ _ _ (oct9_wf _)) (hbel.alloc (by omega) _) (by refine ⟨?_, ?_⟩ <;> first | omega | (simp; done) | (simp; omega)) (by first | omega | (simp; done) | (simp; omega)) ?_; intro v1 w1 ho1 hb1 hg1))
        (go_roundw; (case rel => exact ⟨k + 1, by omega, by go_num, by rw [HK.out]; exact ho1, hb1⟩); (case measure => simp [intOf]; omega))
      · go_wp2
        go_ret2
        exact ⟨_, ret2 rfl (vint (lay9_yes HA.out).2.symm), by rw [List.take_of_length_le (by have := HL.out; omega)] at ho; rw [(lay9_yes HA.out).1]; exact ho, hbel⟩
  · have h0 : 0 ≤ lacks9 xs := by have := mt hl9.1 hall; omega
    clear hl9
    have HA : Hid (xs.all has9 = false) := Lib.hid (by simpa using hall); clear hall
    go_enter Try.func24, Try.ntmps24
    go_wp2_with (go_at_call 27; refine (r09_Lacks hs).mono ?_; rintro e w' ⟨rfl, rfl⟩)
    go_ret2
    exact ⟨.slice none 0 0, ret2 rfl (vint (lay9_no HA.out).2.symm), by rw [(lay9_no HA.out).1]; exact Own.nil _ _ _ _, Below.refl _ _⟩

set_option maxRecDepth 100000 in
set_option maxHeartbeats 1000000 in
theorem r09_Read {A n c xs} {w : World} (hs : Sl w .u8 A n c xs) (hn : n ≤ 1073741824) :
    Calls Try.prog 30 #[.slice A n c] w (RetOwn id 21 .i32 (xs.map sign9) w) := by
  have HL := Lib.hid hs.len
  go_enter Try.func30, Try.ntmps30
  go_wp2
  go_loopw [3, 4] (fun v i wr => ∃ k : Nat, k ≤ n ∧ i = .int .i64 k ∧ Own wr w.heap.size 21 .i32 v ((xs.take k).map sign9) ∧ Below w.heap.size w wr) (fun _ i _ => n - (intOf i).toNat)
  case atStart => exact ⟨0, Nat.zero_le _, rfl, Own.nil _ _ _ _, Below.refl _ _⟩
  case round =>
    obtain ⟨k, hk, rfl, ho, hbel⟩ := hrel
    have hz := hbel.size
    have hs' := hs.bel hbel
    have HT : ((xs.take k).map sign9).length ≤ k := by simp; omega
    by_cases hlt : k < n
    · obtain ⟨b, o, x, rfl, hb, hcell, hwf, _, ht⟩ := hs'.get hlt
      have hk1 : (xs.take (k + 1)).map sign9 = (xs.take k).map sign9 ++ [sign9 x] := by rw [ht]; simp
      clear ht
      have HK := Lib.hid hk1; clear hk1
      go_wp2_with (first | (go_at_call 14; refine (r09_Sign hwf).mono ?_; rintro e w' ⟨rfl, rfl⟩) | (at_builtin; refine wpList_app rfl rfl eltR (by decide) rfl rfl (ho.alloc _) (Sl.one _ _ _ _ (sign9_wf hwf)) (hbel.alloc (by omega) _) (by refine ⟨?_, ?_⟩ <;> first | omega | (simp; done) | (simp; omega)) (by first | omega | (simp; done) | (simp; omega)) ?_; intro v1 w1 ho1 hb1 hg1))
      (go_roundw; (case rel => exact ⟨k + 1, by omega, by go_num, by rw [HK.out]; exact ho1, hb1⟩); (case measure => simp [intOf]; omega))
    · go_wp2
      go_ret
      exact ⟨_, rfl, by rw [List.take_of_length_le (by have := HL.out; omega)] at ho; exact ho, hbel⟩

end Go.Proofs.Ytilplkbepcbbmaa
