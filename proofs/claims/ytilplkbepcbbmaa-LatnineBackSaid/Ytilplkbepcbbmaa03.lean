/- Layer 3 (scalar): what each function of the reference and of the program returns, by one plain function each. Conditions: the arguments read as lists; lengths at most 2^30. -/
import Derived.Test.YtilplkbepcbbmaaRows
import Derived.Test.YtilplkbepcbbmaaKit
import Derived.Deep.Light
import Derived.Deep.QuietTactic
import Derived.BigQuiet
import Derived.WalkSmall
import Derived.Shelf.Abstract
namespace Go.Proofs.Ytilplkbepcbbmaa
open Go.RowKit

def isSur (c : Int) : Bool := decide (55296 ≤ c ∧ c ≤ 57343)
def isSc (c : Int) : Bool := decide (0 ≤ c ∧ c ≤ 1114111) && !isSur c
def notSc (c : Int) : Bool := !isSc c
def mend1 (c : Int) : Int := if isSc c then c else 65533
def mendL (xs : List Int) : List Int := xs.map mend1
def planeL (c : Int) : Int := if isSc c then c / 65536 else -1
def isEnd (c : Int) : Bool := decide (c = 13 ∨ c = 10 ∨ c = 0)
def endsL (xs : List Int) : Bool := xs.any isEnd
def isPl (c : Int) : Bool := decide (32 ≤ c ∧ c ≤ 126)
def plainL (xs : List Int) : Bool := xs.all isPl
def firstL (xs : List Int) : Int := idx notSc xs 0
def checkL (xs : List Int) : Int := if 0 ≤ firstL xs then 7 else if endsL xs then 8 else 0
def mostL (xs : List Int) : Int := xs.foldl max 0

set_option maxHeartbeats 400000 in
theorem r03_Surrogate {c : Int} {w : World} : Calls Try.prog 19 #[.int .i32 c] w (Ret (.bool (isSur c)) w) := by
  go_enter Try.func19, Try.ntmps19
  go_wp2
  all_goals
    go_ret
    exact ⟨ret_bool (by simp [isSur] <;> omega), rfl⟩

set_option maxHeartbeats 400000 in
theorem r03_Is {c : Int} {w : World} : Calls Try.prog 17 #[.int .i32 c] w (Ret (.bool (isSc c)) w) := by
  go_enter Try.func17, Try.ntmps17
  go_wp2_with (go_at_call 19; refine r03_Surrogate.mono ?_; rintro e w' ⟨rfl, rfl⟩)
  all_goals
    go_ret
    exact ⟨ret_bool (by simp [isSc] <;> omega), rfl⟩

set_option maxHeartbeats 400000 in
theorem r03_Plane {c : Int} {w : World} (hc : (Lit.int .i32 c).wf = true) : Calls Try.prog 21 #[.int .i32 c] w (Ret (.int .i64 (planeL c)) w) := by
  obtain ⟨h1, h2⟩ := wf_i32.1 hc
  clear hc
  by_cases hsc : 0 ≤ c
  · go_enter Try.func21, Try.ntmps21
    go_wp2_with (go_at_call 17; refine r03_Is.mono ?_; rintro e w' ⟨rfl, rfl⟩)
    all_goals
      go_ret
      exact ⟨ret_int (by go_light; simp_all [planeL]), rfl⟩
  · have hF : isSc c = false := by simp [isSc]; omega
    go_enter Try.func21, Try.ntmps21
    go_wp2_with (go_at_call 17; refine r03_Is.mono ?_; rintro e w' ⟨rfl, rfl⟩)
    all_goals
      go_ret
      exact ⟨ret_int (by go_light; simp_all [planeL]), rfl⟩

set_option maxHeartbeats 400000 in
theorem r03_First {A n c xs} {w : World} (hs : Sl w .i32 A n c xs) : Calls Try.prog 31 #[.slice A n c] w (Ret (.int .i64 (firstL xs)) w) := by
  have HL := Lib.hid hs.len; have hle := hs.le; have hcm := hs.cm; unfold maxLen at hcm
  go_enter Try.func31, Try.ntmps31
  go_wp2
  go_loop [3] (fun i => ∃ k : Nat, k ≤ n ∧ i = .int .i64 k ∧ Hid (firstL xs = idx notSc (xs.drop k) k)) (fun i => n - (intOf i).toNat)
  case atStart => exact ⟨0, Nat.zero_le _, rfl, rfl⟩
  case round =>
    obtain ⟨k, hk, rfl, hI⟩ := hrel
    by_cases hlt : k < n
    · obtain ⟨b, o, x, rfl, hb, hcell, hwf, hd, _⟩ := hs.get hlt
      have HD := Lib.hid hd; clear hd
      go_wp2_with (go_at_call 17; refine r03_Is.mono ?_; rintro e w' ⟨rfl, rfl⟩)
      · have h : (!isSc x) = true := by assumption
        go_ret
        exact ⟨ret_int (by rw [hI.out, HD.out]; simp [idx, notSc, h]), rfl⟩
      · have h : (!isSc x) = false := by assumption
        go_round
        case rel => exact ⟨k + 1, by omega, by go_num, by show _ = _; rw [hI.out, HD.out]; simp [idx, notSc, h]⟩
        case measure => simp [intOf]; omega
    · go_wp2
      go_ret
      exact ⟨ret_int (by rw [hI.out, List.drop_eq_nil_of_le (by have := HL.out; omega)]; rfl), rfl⟩

set_option maxHeartbeats 400000 in
theorem r03_Ends {A n c xs} {w : World} (hs : Sl w .i32 A n c xs) : Calls Try.prog 40 #[.slice A n c] w (Ret (.bool (endsL xs)) w) := by
  have HL := Lib.hid hs.len; have hle := hs.le; have hcm := hs.cm; unfold maxLen at hcm
  go_enter Try.func40, Try.ntmps40
  go_wp2
  go_loop [3] (fun i => ∃ k : Nat, k ≤ n ∧ i = .int .i64 k ∧ Hid (endsL xs = endsL (xs.drop k))) (fun i => n - (intOf i).toNat)
  case atStart => exact ⟨0, Nat.zero_le _, rfl, rfl⟩
  case round =>
    obtain ⟨k, hk, rfl, hI⟩ := hrel
    by_cases hlt : k < n
    · obtain ⟨b, o, x, rfl, hb, hcell, hwf, hd, _⟩ := hs.get hlt
      have HD := Lib.hid hd; clear hd
      go_wp2
      all_goals first
        | (go_ret; exact ⟨ret_bool (by go_light; rw [hI.out, HD.out]; simp_all [endsL, isEnd]), rfl⟩)
        | (go_round; (case rel => exact ⟨k + 1, by omega, by go_num, by go_light; show _ = _; rw [hI.out, HD.out]; simp_all [endsL, isEnd]⟩); (case measure => simp [intOf]; omega))
    · go_wp2
      go_ret
      exact ⟨ret_bool (by rw [hI.out, List.drop_eq_nil_of_le (by have := HL.out; omega)]; rfl), rfl⟩

set_option maxHeartbeats 400000 in
theorem r03_Plain {A n c xs} {w : World} (hs : Sl w .i32 A n c xs) : Calls Try.prog 42 #[.slice A n c] w (Ret (.bool (plainL xs)) w) := by
  have HL := Lib.hid hs.len; have hle := hs.le; have hcm := hs.cm; unfold maxLen at hcm
  go_enter Try.func42, Try.ntmps42
  go_wp2
  go_loop [3] (fun i => ∃ k : Nat, k ≤ n ∧ i = .int .i64 k ∧ Hid (plainL xs = plainL (xs.drop k))) (fun i => n - (intOf i).toNat)
  case atStart => exact ⟨0, Nat.zero_le _, rfl, rfl⟩
  case round =>
    obtain ⟨k, hk, rfl, hI⟩ := hrel
    by_cases hlt : k < n
    · obtain ⟨b, o, x, rfl, hb, hcell, hwf, hd, _⟩ := hs.get hlt
      have HD := Lib.hid hd; clear hd
      go_wp2
      all_goals first
        | (go_ret; exact ⟨ret_bool (by go_light; rw [hI.out, HD.out]; simp [plainL, isPl]; omega), rfl⟩)
        | (go_round; (case rel => exact ⟨k + 1, by omega, by go_num, by go_light; show _ = _; rw [hI.out, HD.out]; simp_all [plainL, isPl]⟩); (case measure => simp [intOf]; omega))
    · go_wp2
      go_ret
      exact ⟨ret_bool (by rw [hI.out, List.drop_eq_nil_of_le (by have := HL.out; omega)]; rfl), rfl⟩

set_option maxHeartbeats 400000 in
theorem r03_Most {A n c xs} {w : World} (hs : Sl w .i32 A n c xs) : Calls Try.prog 37 #[.slice A n c] w (Ret (.int .i32 (mostL xs)) w) := by
  have HL := Lib.hid hs.len; have hle := hs.le; have hcm := hs.cm; unfold maxLen at hcm
  go_enter Try.func37, Try.ntmps37
  go_wp2
  go_loop [3, 4] (fun m i => ∃ (k : Nat) (y : Int), k ≤ n ∧ i = .int .i64 k ∧ m = .int .i32 y ∧ Hid (mostL xs = (xs.drop k).foldl max y)) (fun _ i => n - (intOf i).toNat)
  case atStart => exact ⟨0, 0, Nat.zero_le _, rfl, rfl, rfl⟩
  case round =>
    obtain ⟨k, y, hk, rfl, rfl, hI⟩ := hrel
    by_cases hlt : k < n
    · obtain ⟨b, o, x, rfl, hb, hcell, hwf, hd, _⟩ := hs.get hlt
      have HD := Lib.hid hd; clear hd
      go_wp2
      all_goals
        go_round
        case rel => exact ⟨k + 1, _, by omega, by go_num, rfl, by show _ = _; rw [hI.out, HD.out, List.foldl_cons, Int.max_def]; congr 1; split <;> split <;> omega⟩
        case measure => simp [intOf]; omega
    · go_wp2
      go_ret
      exact ⟨ret_int (by rw [hI.out, List.drop_eq_nil_of_le (by have := HL.out; omega)]; rfl), rfl⟩

theorem Try.info21 : (Try.prog.info? 21).map (fun i => (i.zero, i.size, i.bytes)) = some (some (.int .i32 0), 1, 4) := by kernel_rfl
theorem eltR : Elt Try.prog 29 21 .i32 4 := ⟨Try.underlying29, Try.info21⟩

theorem mend1_wf {x : Int} (h : (Lit.int .i32 x).wf = true) : (Lit.int .i32 (mend1 x)).wf = true := by
  unfold mend1; split
  · exact h
  · decide

set_option maxHeartbeats 400000 in
theorem r03_Mend {A n c xs} {w : World} (hs : Sl w .i32 A n c xs) (hn : n ≤ 1073741824) :
    Calls Try.prog 35 #[.slice A n c] w (RetOwn id 21 .i32 (mendL xs) w) := by
  have HL := Lib.hid hs.len
  go_enter Try.func35, Try.ntmps35
  go_wp2
  go_loopw [3, 4] (fun v i wr => ∃ k : Nat, k ≤ n ∧ i = .int .i64 k ∧ Own wr w.heap.size 21 .i32 v (mendL (xs.take k)) ∧ Below w.heap.size w wr) (fun _ i _ => n - (intOf i).toNat)
  case atStart => exact ⟨0, Nat.zero_le _, rfl, Own.nil _ _ _ _, Below.refl _ _⟩
  case round =>
    obtain ⟨k, hk, rfl, ho, hbel⟩ := hrel
    have hz := hbel.size
    have hs' := hs.bel hbel
    have HT : (mendL (xs.take k)).length ≤ k := by simp [mendL]; omega
    by_cases hlt : k < n
    · obtain ⟨b, o, x, rfl, hb, hcell, hwf, _, ht⟩ := hs'.get hlt
      have HD := Lib.hid ht; clear ht
      have hk1 : mendL (xs.take (k + 1)) = mendL (xs.take k) ++ [mend1 x] := by rw [HD.out]; simp [mendL]
      have HK := Lib.hid hk1; clear hk1
      go_wp2_with (first | (go_at_call 17; refine r03_Is.mono ?_; rintro e w' ⟨rfl, rfl⟩) | (at_builtin; refine wpList_app rfl rfl eltR (by decide) rfl rfl (ho.alloc _) (Sl.one _ _ _ _ (by first | exact hwf | decide)) (hbel.alloc (by omega) _) (by refine ⟨?_, ?_⟩ <;> first | omega | (simp; done) | (simp; omega)) (by first | omega | (simp; done) | (simp; omega)) ?_; intro v1 w1 ho1 hb1 hg1))
      all_goals (go_roundw; (case rel => exact ⟨k + 1, by omega, by go_num, by go_light; rw [HK.out]; simp_all [mend1], hb1⟩); (case measure => simp [intOf]; omega))
    · go_wp2
      go_ret
      exact ⟨_, rfl, by rw [List.take_of_length_le (by have := HL.out; omega)] at ho; exact ho, hbel⟩


set_option maxHeartbeats 400000 in
theorem r03_Like {A n c xs A' n' c' ys} {w : World} (hs : Sl w .i32 A n c xs) (ht : Sl w .i32 A' n' c' ys) :
    Calls Try.prog 28 #[.slice A n c, .slice A' n' c'] w (RetB (.bool (likeL xs ys)) w) := by
  have HL := Lib.hid hs.len; have hle := hs.le; have hcm := hs.cm; unfold maxLen at hcm
  have HL' := Lib.hid ht.len
  by_cases hne : n = n'
  · subst hne
    go_enter Try.func28, Try.ntmps28
    go_wp2
    go_loopw [5] (fun i wr => ∃ k : Nat, k ≤ n ∧ i = .int .i64 k ∧ Hid (likeL xs ys = likeL (xs.drop k) (ys.drop k)) ∧ Below w.heap.size w wr) (fun i _ => n - (intOf i).toNat)
    case atStart => exact ⟨0, Nat.zero_le _, rfl, rfl, Below.refl _ _⟩
    case round =>
      obtain ⟨k, hk, rfl, hI, hbel⟩ := hrel
      by_cases hlt : k < n
      · obtain ⟨b, o, x, rfl, hb, hcell, hwf, hd, _⟩ := (hs.bel hbel).get hlt
        obtain ⟨b', o', y, rfl, hb', hcell', hwf', hd', _⟩ := (ht.bel hbel).get hlt
        have HD := Lib.hid hd; clear hd
        have HD' := Lib.hid hd'; clear hd'
        by_cases hxy : x = y
        · subst hxy
          go_wp2_with fail
          go_quiet (fail)
          go_wp2
          (go_roundw; (case rel => exact ⟨k + 1, by omega, by go_num, by go_light; show _ = _; rw [hI.out, HD.out, HD'.out]; simp [likeL], below_drewN hbel _⟩); (case measure => simp [intOf]; omega))
        · have hf : (x == y) = false := by simpa using hxy
          have hf' : (x != y) = true := by simpa using hxy
          go_wp2_with fail
          go_quiet (fail)
          go_wp2
          go_ret
          exact ⟨ret_bool (by rw [hI.out, HD.out, HD'.out]; simp [likeL, hxy]), below_drewN hbel _⟩
      · go_wp2
        go_ret
        exact ⟨ret_bool (by rw [hI.out, List.drop_eq_nil_of_le (by have := HL.out; omega), List.drop_eq_nil_of_le (by have := HL'.out; omega)]; rfl), hbel⟩
  · have hne' : (n == n') = false := by simpa using hne
    have hne'' : (n != n') = true := by simpa using hne
    go_enter Try.func28, Try.ntmps28
    go_wp2
    go_ret
    exact ⟨ret_bool (by have := HL.out; have := HL'.out; simp [likeL]; intro h; subst h; omega), Below.refl _ _⟩

set_option maxHeartbeats 400000 in
theorem r03_Check {A n c xs} {w : World} (hs : Sl w .i32 A n c xs) : Calls Try.prog 44 #[.slice A n c] w (Ret (.int .i64 (checkL xs)) w) := by
  go_enter Try.func44, Try.ntmps44
  go_wp2_with (first | (go_at_call 31; refine (r03_First hs).mono ?_; rintro e w' ⟨rfl, rfl⟩) | (go_at_call 40; refine (r03_Ends hs).mono ?_; rintro e w' ⟨rfl, rfl⟩))
  all_goals
    go_ret
    exact ⟨ret_int (by go_light; simp_all [checkL]), rfl⟩

set_option maxHeartbeats 400000 in
theorem p03_Surrogate {c : Int} {w : World} : Calls Try.prog 18 #[.int .i32 c] w (Ret (.bool (isSur c)) w) := by
  go_enter Try.func18, Try.ntmps18
  go_wp2
  all_goals
    go_ret
    exact ⟨ret_bool (by simp [isSur] <;> omega), rfl⟩

set_option maxHeartbeats 400000 in
theorem p03_Is {c : Int} {w : World} (hc : (Lit.int .i32 c).wf = true) : Calls Try.prog 16 #[.int .i32 c] w (Ret (.bool (isSc c)) w) := by
  obtain ⟨h1, h2⟩ := wf_i32.1 hc
  clear hc
  by_cases h0 : 0 ≤ c
  · go_enter Try.func16, Try.ntmps16
    go_wp2_with (go_at_call 18; refine p03_Surrogate.mono ?_; rintro e w' ⟨rfl, rfl⟩)
    all_goals
      go_ret
      exact ⟨ret_bool (by go_light; simp [isSc] <;> omega), rfl⟩
  · have hm : 1114111 < c % 4294967296 := by omega
    go_enter Try.func16, Try.ntmps16
    go_wp2_with (go_at_call 18; refine p03_Surrogate.mono ?_; rintro e w' ⟨rfl, rfl⟩)
    go_ret
    exact ⟨ret_bool (by go_light; simp [isSc] <;> omega), rfl⟩

set_option maxHeartbeats 400000 in
theorem p03_Plane {c : Int} {w : World} (hc : (Lit.int .i32 c).wf = true) : Calls Try.prog 20 #[.int .i32 c] w (Ret (.int .i64 (planeL c)) w) := by
  have hc' := Lib.hid hc
  obtain ⟨h1, h2⟩ := wf_i32.1 hc
  clear hc
  by_cases hsc : isSc c = true
  · have h0 : 0 ≤ c := by simp [isSc] at hsc; omega
    go_enter Try.func20, Try.ntmps20
    go_wp2_with (go_at_call 16; refine (p03_Is hc'.out).mono ?_; rintro e w' ⟨rfl, rfl⟩)
    go_ret
    exact ⟨ret_int (by simp [planeL, hsc]), rfl⟩
  · have hF : isSc c = false := by simpa using hsc
    go_enter Try.func20, Try.ntmps20
    go_wp2_with (go_at_call 16; refine (p03_Is hc'.out).mono ?_; rintro e w' ⟨rfl, rfl⟩)
    go_ret
    exact ⟨ret_int (by simp [planeL, hF]), rfl⟩

set_option maxHeartbeats 400000 in
theorem p03_First1 {c : Int} {w : World} (hc : (Lit.int .i32 c).wf = true) : Calls Try.prog 48 #[.int .i32 c] w (Ret (.bool (notSc c)) w) := by
  go_enter Try.func48, Try.ntmps48
  go_wp2_with (go_at_call 16; refine (p03_Is hc).mono ?_; rintro e w' ⟨rfl, rfl⟩)
  go_ret
  exact ⟨rfl, rfl⟩

set_option maxHeartbeats 400000 in
theorem lib_IndexFunc {A n c xs} {w : World} {g : Nat} {p : Int → Bool} (hp : Pred Try.prog .i32 g p) (hs : Sl w .i32 A n c xs) :
    Calls Try.prog 46 #[.slice A n c, .func (.func g) #[] #[]] w (Ret (.int .i64 (idx p xs 0)) w) := by
  have HL := Lib.hid hs.len; have hle := hs.le; have hcm := hs.cm; unfold maxLen at hcm
  have hcall := hp.call
  have hent := hp.ent
  clear hp
  go_enter Try.func46, Try.ntmps46
  go_wp2
  go_loop [8] (fun i => ∃ k : Nat, k ≤ n ∧ i = .int .i64 k ∧ Hid (idx p xs 0 = idx p (xs.drop k) k)) (fun i => n - (intOf i).toNat)
  case atStart => exact ⟨0, Nat.zero_le _, rfl, rfl⟩
  case round =>
    obtain ⟨k, hk, rfl, hI⟩ := hrel
    by_cases hlt : k < n
    · obtain ⟨b, o, x, rfl, hb, hcell, hwf, hd, _⟩ := hs.get hlt
      have HD := Lib.hid hd; clear hd
      go_wp2_with (refine (hcall x _ hwf).mono ?_; rintro e w' ⟨rfl, rfl⟩)
      · have h : p x = true := by assumption
        go_ret
        exact ⟨ret_int (by rw [hI.out, HD.out]; simp [idx, h]), rfl⟩
      · have h : p x = false := by assumption
        (go_round; (case rel => exact ⟨k + 1, by omega, by go_num, by show _ = _; rw [hI.out, HD.out]; simp [idx, h]⟩); (case measure => simp [intOf]; omega))
    · go_wp2
      go_ret
      exact ⟨ret_int (by rw [hI.out, List.drop_eq_nil_of_le (by have := HL.out; omega)]; rfl), rfl⟩
theorem pred_First1 : Pred Try.prog .i32 48 notSc := ⟨enters_of Try.func48 (by kernel_rfl) rfl, fun _ _ h => p03_First1 h⟩

set_option maxHeartbeats 400000 in
theorem p03_First {A n c xs} {w : World} (hs : Sl w .i32 A n c xs) : Calls Try.prog 33 #[.slice A n c] w (Ret (.int .i64 (firstL xs)) w) := by
  go_enter Try.func33, Try.ntmps33
  go_wp2_with (go_at_call 46; refine (lib_IndexFunc pred_First1 hs).mono ?_; rintro e w' ⟨rfl, rfl⟩)
  go_ret
  exact ⟨rfl, rfl⟩

def rightL (xs : List Int) : Bool := decide (firstL xs < 0)
set_option maxHeartbeats 400000 in
theorem p03_Right {A n c xs} {w : World} (hs : Sl w .i32 A n c xs) : Calls Try.prog 32 #[.slice A n c] w (Ret (.bool (rightL xs)) w) := by
  go_enter Try.func32, Try.ntmps32
  go_wp2_with (go_at_call 33; refine (p03_First hs).mono ?_; rintro e w' ⟨rfl, rfl⟩)
  go_ret
  exact ⟨ret_bool (by rw [Bool.eq_iff_iff]; simp [rightL, firstL, idx_neg, idx_m1]), rfl⟩

set_option maxHeartbeats 400000 in
theorem lib_ContainsFunc {A n c xs} {w : World} {g : Nat} {p : Int → Bool} (hp : Pred Try.prog .i32 g p) (hs : Sl w .i32 A n c xs) :
    Calls Try.prog 51 #[.slice A n c, .func (.func g) #[] #[]] w (Ret (.bool (xs.any p)) w) := by
  go_enter Try.func51, Try.ntmps51
  go_wp2_with (go_at_call 46; refine (lib_IndexFunc hp hs).mono ?_; rintro e w' ⟨rfl, rfl⟩)
  go_ret
  exact ⟨ret_bool (by go_light; have h1 := idx_neg p xs; have h2 : xs.any p = true ↔ ¬ xs.any p = false := (by simp); rw [Bool.eq_iff_iff, decide_eq_true_iff, h2, ← h1]; omega), rfl⟩

set_option maxHeartbeats 400000 in
theorem pred_Ends1 : Pred Try.prog .i32 52 isEnd := ⟨enters_of Try.func52 (by kernel_rfl) rfl, fun x w _ => by
  go_enter Try.func52, Try.ntmps52
  go_wp2
  all_goals
    go_ret
    exact ⟨ret_bool (by go_light; rw [Bool.eq_iff_iff]; simp [isEnd]; omega), rfl⟩⟩

set_option maxHeartbeats 400000 in
theorem pred_Plain1 : Pred Try.prog .i32 53 (fun x => !isPl x) := ⟨enters_of Try.func53 (by kernel_rfl) rfl, fun x w _ => by
  go_enter Try.func53, Try.ntmps53
  go_wp2
  all_goals
    go_ret
    exact ⟨ret_bool (by go_light; rw [Bool.eq_iff_iff]; simp [isPl] <;> omega), rfl⟩⟩

set_option maxHeartbeats 400000 in
theorem p03_Ends {A n c xs} {w : World} (hs : Sl w .i32 A n c xs) : Calls Try.prog 39 #[.slice A n c] w (Ret (.bool (endsL xs)) w) := by
  go_enter Try.func39, Try.ntmps39
  go_wp2_with (go_at_call 51; refine (lib_ContainsFunc pred_Ends1 hs).mono ?_; rintro e w' ⟨rfl, rfl⟩)
  go_ret
  exact ⟨rfl, rfl⟩

set_option maxHeartbeats 400000 in
theorem p03_Plain {A n c xs} {w : World} (hs : Sl w .i32 A n c xs) : Calls Try.prog 41 #[.slice A n c] w (Ret (.bool (plainL xs)) w) := by
  go_enter Try.func41, Try.ntmps41
  go_wp2_with (go_at_call 51; refine (lib_ContainsFunc pred_Plain1 hs).mono ?_; rintro e w' ⟨rfl, rfl⟩)
  go_ret
  exact ⟨ret_bool (by simp [plainL, List.all_eq_not_any_not]), rfl⟩

set_option maxHeartbeats 400000 in
theorem p03_Check {A n c xs} {w : World} (hs : Sl w .i32 A n c xs) : Calls Try.prog 43 #[.slice A n c] w (Ret (.int .i64 (checkL xs)) w) := by
  go_enter Try.func43, Try.ntmps43
  go_wp2_with (first | (go_at_call 32; refine (p03_Right hs).mono ?_; rintro e w' ⟨rfl, rfl⟩) | (go_at_call 39; refine (p03_Ends hs).mono ?_; rintro e w' ⟨rfl, rfl⟩))
  all_goals
    go_ret
    exact ⟨ret_int (by go_light; simp_all [checkL, rightL] <;> omega), rfl⟩

set_option maxHeartbeats 400000 in
theorem p03_Most {A n c xs} {w : World} (hs : Sl w .i32 A n c xs) : Calls Try.prog 36 #[.slice A n c] w (Ret (.int .i32 (mostL xs)) w) := by
  have HL := Lib.hid hs.len; have hle := hs.le; have hcm := hs.cm; unfold maxLen at hcm
  go_enter Try.func36, Try.ntmps36
  go_wp2
  go_loop [3, 8] (fun m i => ∃ (k : Nat) (y : Int), k ≤ n ∧ i = .int .i64 k ∧ m = .int .i32 y ∧ Hid (mostL xs = (xs.drop k).foldl max y)) (fun _ i => n - (intOf i).toNat)
  case atStart => exact ⟨0, 0, Nat.zero_le _, rfl, rfl, rfl⟩
  case round =>
    obtain ⟨k, y, hk, rfl, rfl, hI⟩ := hrel
    by_cases hlt : k < n
    · obtain ⟨b, o, x, rfl, hb, hcell, hwf, hd, _⟩ := hs.get hlt
      have HD := Lib.hid hd; clear hd
      go_wp2
      all_goals
        (go_round; (case rel => exact ⟨k + 1, _, by omega, by go_num, rfl, by show _ = _; rw [hI.out, HD.out, List.foldl_cons, Int.max_def]; congr 1; split <;> split <;> omega⟩); (case measure => simp [intOf]; omega))
    · go_wp2
      go_ret
      exact ⟨ret_int (by rw [hI.out, List.drop_eq_nil_of_le (by have := HL.out; omega)]; rfl), rfl⟩

set_option maxHeartbeats 400000 in
theorem lib_Equal {A n c xs A' n' c' ys} {w : World} (hs : Sl w .i32 A n c xs) (ht : Sl w .i32 A' n' c' ys) :
    Calls Try.prog 50 #[.slice A n c, .slice A' n' c'] w (RetB (.bool (likeL xs ys)) w) := by
  have HL := Lib.hid hs.len; have hle := hs.le; have hcm := hs.cm; unfold maxLen at hcm
  have HL' := Lib.hid ht.len
  by_cases hne : n = n'
  · subst hne
    go_enter Try.func50, Try.ntmps50
    go_wp2
    go_loopw [13] (fun i wr => ∃ k : Nat, k ≤ n ∧ i = .int .i64 k ∧ Hid (likeL xs ys = likeL (xs.drop k) (ys.drop k)) ∧ Below w.heap.size w wr) (fun i _ => n - (intOf i).toNat)
    case atStart => exact ⟨0, Nat.zero_le _, rfl, rfl, Below.refl _ _⟩
    case round =>
      obtain ⟨k, hk, rfl, hI, hbel⟩ := hrel
      by_cases hlt : k < n
      · obtain ⟨b, o, x, rfl, hb, hcell, hwf, hd, _⟩ := (hs.bel hbel).get hlt
        obtain ⟨b', o', y, rfl, hb', hcell', hwf', hd', _⟩ := (ht.bel hbel).get hlt
        have HD := Lib.hid hd; clear hd
        have HD' := Lib.hid hd'; clear hd'
        by_cases hxy : x = y
        · subst hxy
          go_wp2_with fail
          go_quiet (fail)
          go_wp2
          (go_roundw; (case rel => exact ⟨k + 1, by omega, by go_num, by go_light; show _ = _; rw [hI.out, HD.out, HD'.out]; simp [likeL], below_drewN hbel _⟩); (case measure => simp [intOf]; omega))
        · have hf : (x == y) = false := by simpa using hxy
          have hf' : (x != y) = true := by simpa using hxy
          go_wp2_with fail
          go_quiet (fail)
          go_wp2
          go_ret
          exact ⟨ret_bool (by rw [hI.out, HD.out, HD'.out]; simp [likeL, hxy]), below_drewN hbel _⟩
      · go_wp2
        go_ret
        exact ⟨ret_bool (by rw [hI.out, List.drop_eq_nil_of_le (by have := HL.out; omega), List.drop_eq_nil_of_le (by have := HL'.out; omega)]; rfl), hbel⟩
  · have hne' : (n == n') = false := by simpa using hne
    have hne'' : (n != n') = true := by simpa using hne
    go_enter Try.func50, Try.ntmps50
    go_wp2
    go_ret
    exact ⟨ret_bool (by have := HL.out; have := HL'.out; simp [likeL]; intro h; subst h; omega), Below.refl _ _⟩

set_option maxHeartbeats 400000 in
theorem p03_Same {A n c xs A' n' c' ys} {w : World} (hs : Sl w .i32 A n c xs) (ht : Sl w .i32 A' n' c' ys) :
    Calls Try.prog 38 #[.slice A n c, .slice A' n' c'] w (RetB (.bool (likeL xs ys)) w) := by
  go_enter Try.func38, Try.ntmps38
  go_wp2_with (go_at_call 50; refine (lib_Equal hs ht).mono ?_; rintro e w1 ⟨rfl, hb⟩)
  go_ret
  exact ⟨rfl, hb⟩

set_option maxHeartbeats 400000 in
theorem lib_Clone {A n c xs} {w : World} (hs : Sl w .i32 A n c xs) (hn : n ≤ 1073741824) :
    Calls Try.prog 49 #[.slice A n c] w (RetOwn id 21 .i32 xs w) := by
  have hnil := fun (W : World) => Lib.run_eql_slice_nil (P := Try.prog) W 29 21 A n c 0 0 Try.underlying29
  cases A with
  | none =>
    have h0 : xs = [] := List.eq_nil_of_length_eq_zero (by have := hs.nl rfl; have := hs.le; have := hs.len; omega)
    subst h0
    go_enter Try.func49, Try.ntmps49
    go_wp2
    go_ret
    exact ⟨_, rfl, Own.nil _ _ _ _, Below.refl _ _⟩
  | some a =>
    have hbel := Below.refl w.heap.size w
    go_enter Try.func49, Try.ntmps49
    go_wp2_with (at_builtin; refine wpList_app rfl rfl eltR (by decide) rfl rfl (Own.new0 _ _ _ (Nat.le_refl _)) (hs.alloc _) (hbel.alloc (Nat.le_refl _) _) (by refine ⟨?_, ?_⟩ <;> first | omega | (simp; done) | (simp; omega)) (by first | omega | (simp; done) | (simp; omega)) ?_; intro v1 w1 ho1 hb1 hg1)
    go_ret
    exact ⟨v1, rfl, by simpa using ho1, hb1⟩
set_option maxHeartbeats 400000 in
theorem p03_Mend {A n c xs} {w : World} (hs : Sl w .i32 A n c xs) (hn : n ≤ 1073741824) :
    Calls Try.prog 34 #[.slice A n c] w (RetOwn id 21 .i32 (mendL xs) w) := by
  go_enter Try.func34, Try.ntmps34
  go_wp2_with fail
  refine (lib_Clone hs hn).mono ?_
  rintro e w1 ⟨v, rfl, ho, hb1⟩
  obtain ⟨A1, n1, c1, rfl, hs1⟩ := ho.sl
  have hz := hb1.size
  have HL := Lib.hid hs1.len; have hle := hs1.le; have hcm := hs1.cm; unfold maxLen at hcm
  go_wp2
  go_loopw [10] (fun i wr => ∃ k : Nat, k ≤ n1 ∧ i = .int .i64 k ∧ Own wr w.heap.size 21 .i32 (.slice A1 n1 c1) (mapAt mend1 xs k) ∧ Below w.heap.size w wr) (fun i _ => n1 - (intOf i).toNat)
  case atStart => exact ⟨0, Nat.zero_le _, rfl, by rw [mapAt_zero]; exact ho, hb1⟩
  case round =>
    obtain ⟨k, hk, rfl, hok, hbel⟩ := hrel
    by_cases hlt : k < n1
    · obtain ⟨x, hwf, hd, ht⟩ := hs1.el hlt
      obtain ⟨g, rfl, hg, hgl, hcell, hfr, hst⟩ := hok.at_ (j := k) (by rw [mapAt_length]; have := HL.out; omega)
      rw [mapAt_get hd] at hcell
      have HD := Lib.hid hd; clear hd
      have HT := Lib.hid ht; clear ht
      have HST := Lib.hid hst; clear hst
      by_cases hsc : isSc x = true
      · go_wp2_with (go_at_call 16; refine (p03_Is hwf).mono ?_; rintro e w' ⟨rfl, rfl⟩)
        (go_roundw; (case rel => exact ⟨k + 1, by omega, by go_num, by rw [← mapAt_skip HD.out HT.out (by simp [mend1, hsc])]; exact hok, hbel⟩); (case measure => simp [intOf]; omega))
      · have hF : isSc x = false := by simpa using hsc
        go_wp2_with (go_at_call 16; refine (p03_Is hwf).mono ?_; rintro e w' ⟨rfl, rfl⟩)
        (go_roundw; (case rel => exact ⟨k + 1, by omega, by go_num, by have := HST.out 65533 (by decide); rw [← mapAt_set HD.out HT.out]; simpa [mend1, hF] using this, hbel.setCell hg _⟩); (case measure => simp [intOf]; omega))
    · go_wp2
      go_ret
      exact ⟨_, rfl, by rw [mapAt_all _ _ _ (by have := HL.out; omega)] at hok; exact hok, hbel⟩
end Go.Proofs.Ytilplkbepcbbmaa
