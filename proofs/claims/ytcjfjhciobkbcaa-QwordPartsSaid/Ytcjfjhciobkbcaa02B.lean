/- Layer 2 (hexa): escapes laid and taken. Conditions: the arguments read as lists; lengths at most 2^24. -/
import Derived.Test.Ytcjfjhciobkbcaa02
namespace Go.Proofs.Ytcjfjhciobkbcaa
open Go.RowKit

set_option maxRecDepth 100000 in
set_option maxHeartbeats 1000000 in
theorem p02_both {c : Int} {w : World} (hc : (Lit.int .u8 c).wf = true) : Calls Try.prog 75 #[.int .u8 c] w (fun e w' => ∃ A c', e = .returned (.slice A 2 c') ∧ Sl w' .u8 A 2 c' [hexD (c / 16), hexD (c % 16)] ∧ Below w.heap.size w w') := by
  obtain ⟨h1, h2⟩ := wf_u8.1 hc
  rw [hexD_mod]
  go_enter Try.func75, Try.ntmps75
  go_wp2_with (go_at_call 84; refine p02_Digit.mono ?_; rintro e w' ⟨rfl, rfl⟩)
  go_ret
  exact ⟨_, _, rfl, Sl.new _ .u8 _ [hexD (c / 16), hexD c] (by simp [hexD_wf]) (by simp), (Below.refl _ _).alloc (Nat.le_refl _) _⟩
set_option maxRecDepth 100000 in
set_option maxHeartbeats 1000000 in
theorem p02_Put {A n c xs} {sg x : Int} {w : World} (hs : Sl w .u8 A n c xs) (hn : n ≤ 16777216) (hg : (Lit.int .u8 sg).wf = true) (hx : (Lit.int .u8 x).wf = true) :
    Calls Try.prog 57 #[.slice A n c, .int .u8 sg, .int .u8 x] w (RetOwn id 5 .u8 (xs ++ escL sg x) w) := by
  have HL := Lib.hid hs.len; have hle := hs.le; have hcm := hs.cm; unfold maxLen at hcm
  have HLx : xs.length = n := HL.out
  have HLy : (xs ++ [sg]).length = n + 1 := by simp [HLx]
  go_enter Try.func57, Try.ntmps57
  go_wp2_with (first | ((go_at_call 71; refine (lib_BClone hs (by omega)).mono ?_; rintro e w1 ⟨v1, rfl, ho1, hb1⟩); have hz1 := hb1.size) | ((go_at_call 75; refine (p02_both hx).mono ?_; rintro e w3 ⟨A3, c3, rfl, hs3, hb3⟩); have hz3 := hb3.size) | (at_builtin; refine wpList_app rfl rfl eltB (by decide) rfl rfl (ho2.below hb3) hs3 (below_then' hb2 hb3 (Nat.le_refl _)) (by refine ⟨?_, ?_⟩ <;> first | omega | (simp; done) | (simp; omega)) (by first | omega | (simp; done) | (simp; omega)) ?_; intro v4 w4 ho4 hb4 hg4) | ((at_builtin; refine wpList_app rfl rfl eltB (by decide) rfl rfl (ho1.alloc _) (Sl.one _ _ _ _ hg) (hb1.alloc hb1.size _) (by refine ⟨?_, ?_⟩ <;> first | omega | (simp; done) | (simp; omega)) (by first | omega | (simp; done) | (simp; omega)) ?_; intro v2 w2 ho2 hb2 hg2); have hz2 := hb2.size))
  go_ret
  exact ⟨v4, rfl, by simpa [escL] using ho4, hb4⟩
set_option maxRecDepth 100000 in
set_option maxHeartbeats 1000000 in
theorem r02_Put {A n c xs} {sg x : Int} {w : World} (hs : Sl w .u8 A n c xs) (hn : n ≤ 16777216) (hg : (Lit.int .u8 sg).wf = true) (hx : (Lit.int .u8 x).wf = true) :
    Calls Try.prog 76 #[.slice A n c, .int .u8 sg, .int .u8 x] w (RetOwn id 5 .u8 (xs ++ escL sg x) w) := by
  have HL := Lib.hid hs.len; have hle := hs.le; have hcm := hs.cm; unfold maxLen at hcm
  have HLx : xs.length = n := HL.out
  have HLe : ([] ++ xs).length = n := HL.out
  obtain ⟨h1, h2⟩ := wf_u8.1 hx
  have e1 : Int.tdiv x 16 = x / 16 := Int.tdiv_eq_ediv_of_nonneg h1
  have e2 : Int.tmod x 16 = x % 16 := Int.tmod_eq_emod_of_nonneg h1
  have d1 : hexD (Int.tdiv x 16) = hexD (x / 16) := by rw [e1]
  go_enter Try.func76, Try.ntmps76
  go_wp2_with (first | (go_at_call 85; refine (r02_Digit (by first | omega | (rw [e1]; omega) | (rw [e2]; omega)) (by first | omega | (rw [e1]; omega) | (rw [e2]; omega))).mono ?_; rintro e w' ⟨rfl, rfl⟩) | (at_builtin; refine wpList_app rfl rfl eltB (by decide) rfl rfl (ho2.alloc _) (Sl.new _ .u8 _ [sg, hexD (x / 16), hexD (x % 16)] (by simp [hexD_wf, hg]) (by simp)) (hb2.alloc hb2.size _) (by refine ⟨?_, ?_⟩ <;> first | omega | (simp; done) | (simp; omega)) (by first | omega | (simp; done) | (simp; omega)) ?_; intro v4 w4 ho4 hb4 hg4) | ((at_builtin; refine wpList_app rfl rfl eltB (by decide) rfl rfl (Own.nil _ w.heap.size _ _) hs (Below.refl w.heap.size w) (by refine ⟨?_, ?_⟩ <;> first | omega | (simp; done) | (simp; omega)) (by first | omega | (simp; done) | (simp; omega)) ?_; intro v2 w2 ho2 hb2 hg2); have hz2 := hb2.size))
  go_ret
  exact ⟨v4, rfl, by simpa [escL] using ho4, hb4⟩
theorem or4 {a b : Int} (ha : 0 ≤ a ∧ a ≤ 15) (hb : 0 ≤ b ∧ b ≤ 15) : bits .or .i64 (a * 16) b = 16 * a + b := by
  have := byteAll (fun c => decide (bits .or .i64 (c / 16 * 16) (c % 16) = 16 * (c / 16) + c % 16)) (by decide +kernel) (c := 16 * a + b) (by omega)
  have h := of_decide_eq_true this
  rw [show (16 * a + b) / 16 = a from by omega, show (16 * a + b) % 16 = b from by omega] at h
  exact h
theorem p02_ValueE {c v : Int} {b : Bool} {w : World} (hc : (Lit.int .u8 c).wf = true) (hv : hexV c = v) (hb : isH c = b) : Calls Try.prog 90 #[.int .u8 c] w (Ret (.tuple #[.int .i64 v, .bool b]) w) := by
  subst hv; subst hb; exact p02_Value hc
set_option maxRecDepth 100000 in
set_option maxHeartbeats 1000000 in
theorem p02_pair {a b : Int} {w : World} (ha : (Lit.int .u8 a).wf = true) (hb : (Lit.int .u8 b).wf = true) : Calls Try.prog 88 #[.int .u8 a, .int .u8 b] w (Ret (.tuple #[.int .u8 (pairV a b), .bool (isH a && isH b)]) w) := by
  have ho := or4 (hexV_bd a) (hexV_bd b)
  obtain ⟨v1, v2⟩ := hexV_bd a
  obtain ⟨v3, v4⟩ := hexV_bd b
  obtain ⟨x, hx⟩ : ∃ x, hexV a = x := ⟨_, rfl⟩
  obtain ⟨y, hy⟩ : ∃ y, hexV b = y := ⟨_, rfl⟩
  obtain ⟨r, hr⟩ : ∃ r, pairV a b = r := ⟨_, rfl⟩
  rw [hx] at ho v1 v2
  rw [hy] at ho v3 v4
  have hp := hr
  unfold pairV at hp
  rw [hx, hy] at hp
  rw [hr]
  clear hr
  have HX := Lib.hid hx; have HY := Lib.hid hy
  clear hx hy
  cases h1 : isH a <;> cases h2 : isH b
  all_goals (rw [h1, h2] at hp; have H1 := Lib.hid h1; have H2 := Lib.hid h2; clear h1 h2; simp at hp; subst hp)
  all_goals go_enter Try.func88, Try.ntmps88
  all_goals go_wp2_with fail
  all_goals (refine (p02_ValueE ha HX.out H1.out).mono ?_; rintro e w' ⟨rfl, rfl⟩)
  all_goals go_wp2_with fail
  all_goals (refine (p02_ValueE hb HY.out H2.out).mono ?_; rintro e w' ⟨rfl, rfl⟩)
  all_goals go_wp2
  all_goals go_ret2
  all_goals exact ⟨rfl, rfl⟩
end Go.Proofs.Ytcjfjhciobkbcaa
