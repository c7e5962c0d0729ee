/- Layer 2 (hexa): the escape at a place. Conditions: the arguments read as lists; lengths at most 2^30. -/
import Derived.Test.Ytcjfjhciobkbcaa02B
namespace Go.Proofs.Ytcjfjhciobkbcaa
open Go.RowKit

theorem esc_short {sg : Int} {l : List Int} (h : l.length < 3) : escAt sg l = none := by
  unfold escAt; split
  · simp only [List.length_cons] at h; omega
  · rfl
theorem esc_sign {sg x : Int} {r : List Int} (h : x ≠ sg) : escAt sg (x :: r) = none := by
  unfold escAt; split
  · rename_i e; injection e with e1 e2; subst e1; rw [if_neg (fun h2 => h h2.1)]
  · rfl
theorem esc_pairV {sg a b : Int} {r : List Int} : takV sg (sg :: a :: b :: r) = pairV a b ∧ takB sg (sg :: a :: b :: r) = (isH a && isH b) := by
  unfold takV takB escAt pairV
  cases h1 : isH a <;> cases h2 : isH b <;> simp [h1, h2]
theorem tak_none {sg : Int} {l : List Int} (h : escAt sg l = none) : takV sg l = 0 ∧ takB sg l = false := by unfold takV takB; rw [h]; exact ⟨rfl, rfl⟩

theorem p02_pairE {a b v : Int} {q : Bool} {w : World} (ha : (Lit.int .u8 a).wf = true) (hb : (Lit.int .u8 b).wf = true) (hv : v = pairV a b) (hq : q = (isH a && isH b)) : Calls Try.prog 88 #[.int .u8 a, .int .u8 b] w (Ret (.tuple #[.int .u8 v, .bool q]) w) := by
  subst hv; subst hq; exact p02_pair ha hb
set_option maxRecDepth 100000 in
set_option maxHeartbeats 1000000 in
theorem p02_Take {A n c xs} {k : Nat} {sg : Int} {w : World} (hs : Sl w .u8 A n c xs) (hk : k < n) (hn : n ≤ 1073741824) (hg : (Lit.int .u8 sg).wf = true) :
    Calls Try.prog 79 #[.slice A n c, .int .i64 k, .int .u8 sg] w (RetB (.tuple #[.int .u8 (takV sg (xs.drop k)), .bool (takB sg (xs.drop k))]) w) := by
  have HL := Lib.hid hs.len; have hle := hs.le; have hcm := hs.cm; unfold maxLen at hcm
  by_cases h3 : k + 3 ≤ n
  · obtain ⟨bb, o, x, rfl, hbb, hcell, hwf, hd, _⟩ := hs.get hk
    have hc1 := hs.cell (j := k + 1) (by omega)
    have hc2 := hs.cell (j := k + 2) (by omega)
    have hw1 := hs.wfAt (j := k + 1) (by omega)
    have hw2 := hs.wfAt (j := k + 2) (by omega)
    have hd1 := drop_getD xs (k + 1) (by have := HL.out; omega)
    have hd2 := drop_getD xs (k + 2) (by have := HL.out; omega)
    obtain ⟨a, ha⟩ : ∃ a, xs.getD (k + 1) 0 = a := ⟨_, rfl⟩
    obtain ⟨b, hb⟩ : ∃ b, xs.getD (k + 2) 0 = b := ⟨_, rfl⟩
    rw [ha] at hc1 hw1 hd1
    rw [hb] at hc2 hw2 hd2
    rw [hd1, show k + 1 + 1 = k + 2 from rfl, hd2] at hd
    clear hd1 hd2 ha hb
    obtain ⟨l, hl⟩ : ∃ l, xs.drop k = l := ⟨_, rfl⟩
    rw [hl] at hd ⊢
    clear hl
    by_cases hx : x = sg
    · subst hx
      have hp := esc_pairV (sg := x) (a := a) (b := b) (r := xs.drop (k + 2 + 1))
      rw [← hd] at hp
      obtain ⟨hp1, hp2⟩ := hp
      have H1 := Lib.hid hp1; have H2 := Lib.hid hp2
      clear hp1 hp2 hd
      go_enter Try.func79, Try.ntmps79
      go_wp2_with fail
      go_quiet ((go_at_call 88; exact Calls.quiet_of_same ((p02_pairE hw1 hw2 H1.out H2.out).mono fun e w' h => ⟨h.1, h.2.symm⟩)))
      go_wp2
      go_ret2
      exact ⟨rfl, below_drewN (Below.refl _ _) _⟩
    · have hp := tak_none (esc_sign (r := a :: b :: xs.drop (k + 2 + 1)) hx)
      rw [← hd] at hp
      obtain ⟨hp1, hp2⟩ := hp
      have hf : (x != sg) = true := by simpa using hx
      have hf2 : (x == sg) = false := by simpa using hx
      rw [hp1, hp2]
      clear hp1 hp2 hd
      go_enter Try.func79, Try.ntmps79
      go_wp2
      go_ret2
      exact ⟨rfl, Below.refl _ _⟩
  · have hp := tak_none (esc_short (sg := sg) (l := xs.drop k) (by have := HL.out; simp; omega))
    rw [hp.1, hp.2]
    clear hp
    go_enter Try.func79, Try.ntmps79
    go_wp2
    go_ret2
    exact ⟨rfl, Below.refl _ _⟩
theorem r02_ValueE {c v : Int} {b : Bool} {w : World} (hc : (Lit.int .u8 c).wf = true) (hv : hexV c = v) (hb : isH c = b) : Calls Try.prog 78 #[.int .u8 c] w (Ret (.tuple #[.int .i64 v, .bool b]) w) := by
  subst hv; subst hb; exact r02_Value hc
set_option maxRecDepth 100000 in
set_option maxHeartbeats 1000000 in
theorem r02_Take {A n c xs} {k : Nat} {sg : Int} {w : World} (hs : Sl w .u8 A n c xs) (hk : k < n) (hn : n ≤ 1073741824) (hg : (Lit.int .u8 sg).wf = true) :
    Calls Try.prog 60 #[.slice A n c, .int .i64 k, .int .u8 sg] w (Ret (.tuple #[.int .u8 (takV sg (xs.drop k)), .bool (takB sg (xs.drop k))]) w) := by
  have HL := Lib.hid hs.len; have hle := hs.le; have hcm := hs.cm; unfold maxLen at hcm
  by_cases h3 : k + 3 ≤ n
  · obtain ⟨bb, o, x, rfl, hbb, hcell, hwf, hd, _⟩ := hs.get hk
    have hc1 := hs.cell (j := k + 1) (by omega)
    have hc2 := hs.cell (j := k + 2) (by omega)
    have hw1 := hs.wfAt (j := k + 1) (by omega)
    have hw2 := hs.wfAt (j := k + 2) (by omega)
    have hd1 := drop_getD xs (k + 1) (by have := HL.out; omega)
    have hd2 := drop_getD xs (k + 2) (by have := HL.out; omega)
    obtain ⟨a, ha⟩ : ∃ a, xs.getD (k + 1) 0 = a := ⟨_, rfl⟩
    obtain ⟨b, hb⟩ : ∃ b, xs.getD (k + 2) 0 = b := ⟨_, rfl⟩
    rw [ha] at hc1 hw1 hd1
    rw [hb] at hc2 hw2 hd2
    rw [hd1, show k + 1 + 1 = k + 2 from rfl, hd2] at hd
    clear hd1 hd2 ha hb
    obtain ⟨l, hl⟩ : ∃ l, xs.drop k = l := ⟨_, rfl⟩
    rw [hl] at hd ⊢
    clear hl
    by_cases hx : x = sg
    · subst hx
      have hp := esc_pairV (sg := x) (a := a) (b := b) (r := xs.drop (k + 2 + 1))
      rw [← hd] at hp
      obtain ⟨hp1, hp2⟩ := hp
      obtain ⟨v1, v2⟩ := hexV_bd a
      obtain ⟨v3, v4⟩ := hexV_bd b
      obtain ⟨p, hx⟩ : ∃ p, hexV a = p := ⟨_, rfl⟩
      obtain ⟨q, hy⟩ : ∃ q, hexV b = q := ⟨_, rfl⟩
      unfold pairV at hp1
      rw [hx] at v1 v2 hp1
      rw [hy] at v3 v4 hp1
      have HX := Lib.hid hx; have HY := Lib.hid hy
      clear hx hy hd
      rw [hp1, hp2]
      clear hp1 hp2
      cases h1 : isH a <;> cases h2 : isH b
      all_goals (have H1 := Lib.hid h1; have H2 := Lib.hid h2; clear h1 h2)
      all_goals go_enter Try.func60, Try.ntmps60
      all_goals go_wp2_with fail
      all_goals (refine (r02_ValueE hw1 HX.out H1.out).mono ?_; rintro e w' ⟨rfl, rfl⟩)
      all_goals go_wp2_with fail
      all_goals (refine (r02_ValueE hw2 HY.out H2.out).mono ?_; rintro e w' ⟨rfl, rfl⟩)
      all_goals go_wp2
      all_goals go_ret2
      all_goals exact ⟨rfl, rfl⟩
    · have hp := tak_none (esc_sign (r := a :: b :: xs.drop (k + 2 + 1)) hx)
      rw [← hd] at hp
      obtain ⟨hp1, hp2⟩ := hp
      have hf : (x != sg) = true := by simpa using hx
      have hf2 : (x == sg) = false := by simpa using hx
      rw [hp1, hp2]
      clear hp1 hp2 hd
      go_enter Try.func60, Try.ntmps60
      go_wp2
      go_ret2
      exact ⟨rfl, rfl⟩
  · have hp := tak_none (esc_short (sg := sg) (l := xs.drop k) (by have := HL.out; simp; omega))
    rw [hp.1, hp.2]
    clear hp
    go_enter Try.func60, Try.ntmps60
    go_wp2
    go_ret2
    exact ⟨rfl, rfl⟩
end Go.Proofs.Ytcjfjhciobkbcaa
