/- Layer 28 (atom): comments: what the functions of the program and of the reference return. Conditions: the arguments read as lists; lengths at most 2^22. -/
import Derived.Test.Ytjiofcnlibkhkaa28G
import Derived.RegionTactic
namespace Go.Proofs.Ytjiofcnlibkhkaa
open Go.RowKit

/-- the comment's struct, in block B: how deep, how deep at most, whether the next octet is taken -/
def KC (w : World) (d m : Int) (t : Bool) (W : World) : Prop :=
  W.cell? ⟨w.heap.size, 0, none⟩ = some (.int .i64 d) ∧ W.cell? ⟨w.heap.size, 1, none⟩ = some (.int .i64 m) ∧ W.cell? ⟨w.heap.size, 2, none⟩ = some (.bool t) ∧
  W.frozen? ⟨w.heap.size, 0, none⟩ = false ∧ W.frozen? ⟨w.heap.size, 1, none⟩ = false ∧ W.frozen? ⟨w.heap.size, 2, none⟩ = false ∧ Below w.heap.size w W
def stepC (x d m : Int) (t : Bool) : Int × Int × Bool × Bool :=
  if t then (d, m, false, false) else if x = 92 then (d, m, true, false) else if x = 40 then (d + 1, max m (d + 1), false, false) else if x = 41 then (d - 1, m, false, decide (d - 1 = 0)) else (d, m, false, false)
theorem stepC_t {x d m : Int} : stepC x d m true = (d, m, false, false) := rfl
theorem stepC_b {d m : Int} : stepC 92 d m false = (d, m, true, false) := rfl
theorem stepC_o {d m : Int} : stepC 40 d m false = (d + 1, max m (d + 1), false, false) := rfl
theorem stepC_s {d m : Int} : stepC 41 d m false = (d - 1, m, false, decide (d - 1 = 0)) := rfl
theorem stepC_n {x d m : Int} (n1 : ¬ x = 92) (n2 : ¬ x = 40) (n3 : ¬ x = 41) : stepC x d m false = (d, m, false, false) := by unfold stepC; rw [if_neg (by decide), if_neg n1, if_neg n2, if_neg n3]
theorem comm_step (x d m : Int) (t : Bool) (r : List Int) (i : Nat) : comm (x :: r) d m t i = if (stepC x d m t).2.2.2 then (i + 1, (stepC x d m t).2.1) else comm r (stepC x d m t).1 (stepC x d m t).2.1 (stepC x d m t).2.2.1 (i + 1) := by
  cases t with
  | true => rw [comm_t, stepC_t]; rfl
  | false =>
    by_cases h1 : x = 92
    · subst h1; rw [comm_b, stepC_b]; rfl
    · by_cases h2 : x = 40
      · subst h2; rw [comm_o, stepC_o]; rfl
      · by_cases h3 : x = 41
        · subst h3
          rw [stepC_s]
          by_cases h4 : d - 1 = 0
          · rw [comm_s h4, decide_eq_true h4]; rfl
          · rw [comm_s' h4, decide_eq_false h4]; rfl
        · rw [comm_n h1 h2 h3, stepC_n h1 h2 h3]; rfl
theorem stepC_bd {x d m : Int} {t : Bool} {k : Int} (h1 : -k ≤ d) (h2 : d ≤ k) (h3 : 0 ≤ m) (h4 : m ≤ k) : -(k + 1) ≤ (stepC x d m t).1 ∧ (stepC x d m t).1 ≤ k + 1 ∧ 0 ≤ (stepC x d m t).2.1 ∧ (stepC x d m t).2.1 ≤ k + 1 := by
  cases t with
  | true => rw [stepC_t]; simp only []; omega
  | false =>
    by_cases n1 : x = 92
    · subst n1; rw [stepC_b]; simp only []; omega
    · by_cases n2 : x = 40
      · subst n2; rw [stepC_o]; simp only []; omega
      · by_cases n3 : x = 41
        · subst n3; rw [stepC_s]; simp only []; omega
        · rw [stepC_n n1 n2 n3]; simp only []; omega

theorem KC.set0 {w W : World} {d m : Int} {t : Bool} (h : KC w d m t W) (u : Int) : KC w u m t (W.setCell ⟨w.heap.size, 0, none⟩ (.int .i64 u)) := by
  obtain ⟨h0, h1, h2, f0, f1, f2, hb⟩ := h
  refine ⟨World.cell?_setCell_same _ _ _ h0, ?_, ?_, by rw [World.frozen?_setCell]; exact f0, by rw [World.frozen?_setCell]; exact f1, by rw [World.frozen?_setCell]; exact f2, hb.setCell (Nat.le_refl _) _⟩
  · rw [World.cell?_setCell_other _ _ _ _ (by simp)]; exact h1
  · rw [World.cell?_setCell_other _ _ _ _ (by simp)]; exact h2
theorem KC.set1 {w W : World} {d m : Int} {t : Bool} (h : KC w d m t W) (u : Int) : KC w d u t (W.setCell ⟨w.heap.size, 1, none⟩ (.int .i64 u)) := by
  obtain ⟨h0, h1, h2, f0, f1, f2, hb⟩ := h
  refine ⟨?_, World.cell?_setCell_same _ _ _ h1, ?_, by rw [World.frozen?_setCell]; exact f0, by rw [World.frozen?_setCell]; exact f1, by rw [World.frozen?_setCell]; exact f2, hb.setCell (Nat.le_refl _) _⟩
  · rw [World.cell?_setCell_other _ _ _ _ (by simp)]; exact h0
  · rw [World.cell?_setCell_other _ _ _ _ (by simp)]; exact h2
theorem KC.set2 {w W : World} {d m : Int} {t : Bool} (h : KC w d m t W) (u : Bool) : KC w d m u (W.setCell ⟨w.heap.size, 2, none⟩ (.bool u)) := by
  obtain ⟨h0, h1, h2, f0, f1, f2, hb⟩ := h
  refine ⟨?_, ?_, World.cell?_setCell_same _ _ _ h2, by rw [World.frozen?_setCell]; exact f0, by rw [World.frozen?_setCell]; exact f1, by rw [World.frozen?_setCell]; exact f2, hb.setCell (Nat.le_refl _) _⟩
  · rw [World.cell?_setCell_other _ _ _ _ (by simp)]; exact h0
  · rw [World.cell?_setCell_other _ _ _ _ (by simp)]; exact h1
theorem KC.drew {w W : World} {d m : Int} {t : Bool} (h : KC w d m t W) : KC w d m t W.drew := by
  obtain ⟨h0, h1, h2, f0, f1, f2, hb⟩ := h
  exact ⟨h0, h1, h2, f0, f1, f2, hb.drew⟩

def RetK (w : World) (x d m : Int) (t : Bool) (e : Ending) (W' : World) : Prop := e = .returned (.bool (stepC x d m t).2.2.2) ∧ KC w (stepC x d m t).1 (stepC x d m t).2.1 (stepC x d m t).2.2.1 W'

set_option maxRecDepth 100000 in
set_option maxHeartbeats 1000000 in
theorem p28_take_t {w W : World} {x d m : Int} (hK : KC w d m true W) : Calls Try.prog 54 #[.pointer (some ⟨w.heap.size, 0, none⟩), .int .u8 x] W (RetK w x d m true) := by
  have h5 := hK.set2 false
  obtain ⟨h0, h1, h2, f0, f1, f2, hb⟩ := hK
  go_enter Try.func54, Try.ntmps54
  go_wp2
  go_ret
  exact ⟨rfl, h5⟩
set_option maxRecDepth 100000 in
set_option maxHeartbeats 1000000 in
theorem p28_take_b {w W : World} {d m : Int} (hK : KC w d m false W) : Calls Try.prog 54 #[.pointer (some ⟨w.heap.size, 0, none⟩), .int .u8 92] W (RetK w 92 d m false) := by
  have h5 := hK.set2 true
  obtain ⟨h0, h1, h2, f0, f1, f2, hb⟩ := hK
  go_enter Try.func54, Try.ntmps54
  go_wp2
  go_ret
  exact ⟨rfl, h5⟩
set_option maxRecDepth 100000 in
set_option maxHeartbeats 1000000 in
theorem p28_take_o {w W : World} {d m : Int} (hK : KC w d m false W) (h1 : -4194304 ≤ d) (h2 : d ≤ 4194304) : Calls Try.prog 54 #[.pointer (some ⟨w.heap.size, 0, none⟩), .int .u8 40] W (RetK w 40 d m false) := by
  have h5 := (hK.set0 (d + 1))
  obtain ⟨a0, a1, a2, b0, b1, b2, bb⟩ := h5
  unfold RetK
  rw [stepC_o]
  by_cases hm : m < d + 1
  · have e : max m (d + 1) = d + 1 := by omega
    have h6 := ((hK.set0 (d + 1)).set1 (d + 1)).drew
    rw [e]
    clear e
    obtain ⟨h0, h1, h2, f0, f1, f2, hb⟩ := hK
    go_enter Try.func54, Try.ntmps54
    go_wp2
    go_region
    all_goals go_wp2
    all_goals go_ret
    all_goals exact ⟨rfl, h6⟩
  · have e : max m (d + 1) = m := by omega
    have h6 := ((hK.set0 (d + 1)).set1 m).drew
    rw [e]
    clear e
    obtain ⟨h0, h1, h2, f0, f1, f2, hb⟩ := hK
    go_enter Try.func54, Try.ntmps54
    go_wp2
    go_region
    all_goals go_wp2
    all_goals go_ret
    all_goals exact ⟨rfl, h6⟩
set_option maxRecDepth 100000 in
set_option maxHeartbeats 1000000 in
theorem p28_take_s {w W : World} {d m : Int} (hK : KC w d m false W) (h1 : -4194304 ≤ d) (h2 : d ≤ 4194304) : Calls Try.prog 54 #[.pointer (some ⟨w.heap.size, 0, none⟩), .int .u8 41] W (RetK w 41 d m false) := by
  have h5 := (hK.set0 (d - 1))
  obtain ⟨h0, h1, h2, f0, f1, f2, hb⟩ := hK
  go_enter Try.func54, Try.ntmps54
  go_wp2
  go_ret
  exact ⟨ret_bool (by show _ = decide (d - 1 = 0); rw [Bool.eq_iff_iff]; simp), h5⟩
set_option maxRecDepth 100000 in
set_option maxHeartbeats 1000000 in
theorem p28_take_n {w W : World} {x d m : Int} (hK : KC w d m false W) (n1 : ¬ x = 92) (n2 : ¬ x = 40) (n3 : ¬ x = 41) : Calls Try.prog 54 #[.pointer (some ⟨w.heap.size, 0, none⟩), .int .u8 x] W (RetK w x d m false) := by
  have e : stepC x d m false = (d, m, false, false) := stepC_n n1 n2 n3
  have f92 : (x == 92) = false := by simpa using n1
  have f40 : (x == 40) = false := by simpa using n2
  have f41 : (x == 41) = false := by simpa using n3
  have HE := Lib.hid e
  have h5 := hK
  have H5 := Lib.hid h5
  clear n1 n2 n3 e h5
  obtain ⟨h0, h1, h2, f0, f1, f2, hb⟩ := hK
  go_enter Try.func54, Try.ntmps54
  go_wp2
  go_ret
  unfold RetK
  rw [HE.out]
  exact ⟨rfl, H5.out⟩
theorem p28_take {w W : World} {x d m : Int} {t : Bool} (hK : KC w d m t W) (h1 : -4194304 ≤ d) (h2 : d ≤ 4194304) : Calls Try.prog 54 #[.pointer (some ⟨w.heap.size, 0, none⟩), .int .u8 x] W (RetK w x d m t) := by
  cases t with
  | true => exact p28_take_t hK
  | false =>
    by_cases n1 : x = 92
    · subst n1; exact p28_take_b hK
    · by_cases n2 : x = 40
      · subst n2; exact p28_take_o hK h1 h2
      · by_cases n3 : x = 41
        · subst n3; exact p28_take_s hK h1 h2
        · exact p28_take_n hK n1 n2 n3

def RetO (xs : List Int) (w : World) (e : Ending) (w' : World) : Prop := e = .returned (.tuple #[.int .i64 (commN xs), .int .i64 (commD xs)]) ∧ Below w.heap.size w w'
theorem kc_call {w W : World} {x d m : Int} {t : Bool} {b : Bool} {d' m' : Int} {t' : Bool} (hK : KC w d m t W) (h1 : -4194304 ≤ d) (h2 : d ≤ 4194304) (he : stepC x d m t = (d', m', t', b)) :
    Calls Try.prog 54 #[.pointer (some ⟨w.heap.size, 0, none⟩), .int .u8 x] W (fun e W' => e = .returned (.bool b) ∧ KC w d' m' t' W') := by
  have := p28_take (x := x) hK h1 h2
  unfold RetK at this
  rw [he] at this
  exact this
set_option maxRecDepth 100000 in
set_option maxHeartbeats 1000000 in
theorem p28_over {A n c xs} {w : World} (hs : Sl w .u8 A n c xs) (hn : n ≤ 4194304) : Calls Try.prog 40 #[.slice A n c] w (RetO xs w) := by
  have HL := Lib.hid hs.len
  have hent := enters_of Try.func54 (by kernel_rfl) rfl
  have hK0 : KC w 0 0 false (w.alloc (.cells #[.int .i64 0, .int .i64 0, .bool false] 77)) :=
    ⟨by rw [World.cell?_alloc_at _ _ _ _ rfl]; rfl, by rw [World.cell?_alloc_at _ _ _ _ rfl]; rfl, by rw [World.cell?_alloc_at _ _ _ _ rfl]; rfl, World.frozen?_alloc_at _ _ _ _ rfl, World.frozen?_alloc_at _ _ _ _ rfl, World.frozen?_alloc_at _ _ _ _ rfl, (Below.refl _ _).alloc (Nat.le_refl _) _⟩
  go_enter Try.func40, Try.ntmps40
  go_wp2
  go_loopw [14] (fun i wr => ∃ (k : Nat) (d m : Int) (t : Bool), k ≤ n ∧ i = .int .i64 k ∧ (-(k : Int) ≤ d ∧ d ≤ k ∧ 0 ≤ m ∧ m ≤ k) ∧ KC w d m t wr ∧ Hid (comm xs 0 0 false 0 = comm (xs.drop k) d m t k)) (fun i _ => n - (intOf i).toNat)
  case atStart => exact ⟨0, 0, 0, false, by omega, rfl, by simp, hK0, rfl⟩
  case round =>
    clear hK0
    obtain ⟨k, d, m, t, hk, rfl, ⟨hd1, hd2, hm1, hm2⟩, hK, hI⟩ := hrel
    have hbel := hK.2.2.2.2.2.2
    have hs' := hs.bel hbel
    by_cases hlt : k < n
    · obtain ⟨bb, o, x, rfl, hbb, hcell, hwf, hd, _⟩ := hs'.get hlt
      have hst := comm_step x d m t (xs.drop (k + 1)) k
      have hbd := stepC_bd (x := x) (t := t) hd1 hd2 hm1 hm2
      obtain ⟨⟨d', m', t', b⟩, hq⟩ : ∃ q, stepC x d m t = q := ⟨_, rfl⟩
      rw [hq] at hst hbd
      simp only [] at hst hbd
      have hI2 := hI.out
      rw [hd, hst] at hI2
      have HI := Lib.hid hI2
      have HQ := Lib.hid hq
      clear hI2 hst hd hI hq
      obtain ⟨g1, g2, g3, g4⟩ := hbd
      go_wp2_with fail
      refine (kc_call hK (by omega) (by omega) HQ.out).mono ?_
      rintro e W' ⟨rfl, hK'⟩
      have HI' := HI.out
      have H := Lib.hid hK'
      cases b with
      | true =>
        simp only [if_pos] at HI'
        have h2 : commN xs = k + 1 := by unfold commN; rw [HI']
        have h3 : commD xs = m' := by unfold commD; rw [HI']
        have H2 := Lib.hid h2; have H3 := Lib.hid h3; clear h2 h3 HI'
        obtain ⟨c0, c1, c2, f0, f1, f2, hb⟩ := hK'
        go_wp2
        go_quiet (fail)
        go_wp2
        go_ret2
        exact ⟨ret2 (vint (by rw [H2.out]; push_cast; rfl)) (vint (by rw [H3.out])), below_drewN hb _⟩
      | false =>
        have HI2 : Hid (comm xs 0 0 false 0 = comm (xs.drop (k + 1)) d' m' t' (k + 1)) := by show _ = _; rw [HI']; rfl
        clear HI'
        go_wp2
        (first | (go_roundw; (case rel => exact ⟨k + 1, d', m', t', by omega, by go_num, by push_cast; omega, H.out, HI2⟩); (case measure => first | (simp [intOf] <;> omega) | (simp [lenOf] <;> omega))) | (refine ⟨?_, ?measure⟩; (repeat apply Exists.intro); refine ⟨?rel, ?eqs⟩; (case eqs => first | rfl | ((repeat (refine ⟨rfl, ?_⟩)); rfl)); (case rel => exact ⟨k + 1, d', m', t', by omega, by go_num, by push_cast; omega, H.out, HI2⟩); (case measure => first | (simp [intOf] <;> omega) | (simp [lenOf] <;> omega))) | ((repeat apply Exists.intro); refine ⟨?rel, ?eqs⟩; (case eqs => first | rfl | ((repeat (refine ⟨rfl, ?_⟩)); rfl)); (case rel => exact ⟨k + 1, d', m', t', by omega, by go_num, by push_cast; omega, H.out, HI2⟩)))
    · have hI2 := hI.out
      rw [List.drop_eq_nil_of_le (by have := HL.out; omega), comm_nil] at hI2
      have h2 : commN xs = n := by unfold commN; rw [hI2]; show k = n; omega
      have h3 : commD xs = m := by unfold commD; rw [hI2]
      have H2 := Lib.hid h2; have H3 := Lib.hid h3; clear h2 h3 hI2 hI
      obtain ⟨c0, c1, c2, f0, f1, f2, hb⟩ := hK
      go_wp2
      go_quiet (fail)
      go_wp2
      go_ret2
      exact ⟨ret2 (vint (by rw [H2.out])) (vint (by rw [H3.out])), below_drewN hb _⟩
end Go.Proofs.Ytjiofcnlibkhkaa
