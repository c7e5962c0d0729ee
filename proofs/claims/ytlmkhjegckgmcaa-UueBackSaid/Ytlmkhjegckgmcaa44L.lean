/- Layer 44's laws of lines and of files laid: each returns true for every input, and leaves what was there. Conditions: the arguments read as lists. -/
import Derived.Test.Ytlmkhjegckgmcaa44K
namespace Go.Proofs.Ytlmkhjegckgmcaa
open Go.RowKit

theorem ev44a : lineU [67, 97, 116] = [35, 48, 86, 37, 84] := by decide
theorem ev44b : fromU [35, 48, 86, 37, 84] = ([67, 97, 116], 0) := by decide
theorem ev44c : layU [97] [] = ([98, 101, 103, 105, 110, 32, 54, 52, 52, 32, 97, 13, 10, 96, 13, 10, 101, 110, 100, 13, 10], 0) := by decide
theorem st44a : strOfNums [35, 48, 86, 37, 84] = { data := #[35, 48, 86, 37, 84] } := by decide
theorem st44b : strOfNums [67, 97, 116] = { data := #[67, 97, 116] } := by decide
theorem st44c : strOfNums [98, 101, 103, 105, 110, 32, 54, 52, 52, 32, 97, 13, 10, 96, 13, 10, 101, 110, 100, 13, 10] = { data := #[98, 101, 103, 105, 110, 32, 54, 52, 52, 32, 97, 13, 10, 96, 13, 10, 101, 110, 100, 13, 10] } := by decide

set_option maxRecDepth 100000 in
set_option maxHeartbeats 2000000 in
theorem alive44 {w : World} : Calls Try.prog 43 #[] w (RetB (.bool true) w) := by
  have kc := fun (w : World) (C : Array Value) (n c : Nat) => Lib.run_convert_bytes_const (P := Try.prog) w 22 5 C n c Try.underlying22 Try.underlying5
  go_enter Try.func43, Try.ntmps43
  go_wp2_with fail
  have hs0 := Sl.newF w .u8 5 [67, 97, 116] (3, 4) (by decide) (by decide)
  have hb0 := (Below.refl w.heap.size w).alloc (Nat.le_refl _) (.cells ([67, 97, 116].map (Value.int .u8)).toArray 5 (3, 4))
  refine (p44_Line hs0 (by decide)).mono ?_
  rw [ev44a]
  rintro e w1 ⟨v1, rfl, ho1, hb1⟩
  obtain ⟨A1, n1, c1, rfl, hs1⟩ := ho1.sl
  have hn1 : n1 = 5 := hs1.len.symm
  subst hn1
  clear ho1 hs0
  have hB1 := below_then' hb0 hb1 (Nat.le_refl _)
  clear hb0 hb1
  go_wp2_with fail
  refine (p44_FromLine hs1 (by decide)).mono ?_
  unfold RetFr
  rw [ev44b]
  rintro e w2 ⟨A2, n2, c2, rfl, hs2, hb2⟩
  have hn2 : n2 = 3 := hs2.len.symm
  subst hn2
  have hB2 := below_then hB1 hb2
  have hs12 := hs1.bel hb2
  clear hs1 hb2 hB1
  go_wp2_with fail
  have hs9 := Sl.newF w2 .u8 5 [97] (1, 2) (by decide) (by decide)
  have hb9 := (Below.refl w2.heap.size w2).alloc (Nat.le_refl _) (.cells ([97].map (Value.int .u8)).toArray 5 (1, 2))
  refine (p44_Lay hs9 (Sl.nil _ _) (by decide)).mono ?_
  unfold RetLU
  rw [ev44c]
  rintro e w3 ⟨v3, rfl, ho3, hb3⟩
  obtain ⟨A3, n3, c3, rfl, hs3⟩ := ho3.sl
  have hn3 : n3 = 21 := hs3.len.symm
  subst hn3
  clear ho3 hs9
  have hb23 := below_then' hb9 hb3 (Nat.le_refl _)
  have hB3 := below_then hB2 hb23
  have q1 := (hs12.bel hb23).str (P := Try.prog) 22 5 9 Try.underlying22 Try.underlying5 Try.underlying9
  have q2 := (hs2.bel hb23).str (P := Try.prog) 22 5 9 Try.underlying22 Try.underlying5 Try.underlying9
  have q3 := hs3.str (P := Try.prog) 22 5 9 Try.underlying22 Try.underlying5 Try.underlying9
  rw [st44a] at q1
  rw [st44b] at q2
  rw [st44c] at q3
  clear hb9 hb3 hb23 hs12 hs2 hs3 hB2
  go_wp2
  go_ret
  exact ⟨rfl, hB3⟩

set_option maxRecDepth 100000 in
set_option maxHeartbeats 1000000 in
theorem law_UueLays {A n c xs A' n' c' ys} {w : World} (hs : Sl w .u8 A n c xs) (ht : Sl w .u8 A' n' c' ys) : Calls Try.prog 10 #[.slice A n c, .slice A' n' c'] w (RetB (.bool true) w) := by
  by_cases hbig : 100 < n
  · go_enter Try.func10, Try.ntmps10
    go_wp2_with (go_at_call 43; refine alive44.mono ?_; rintro e w1 ⟨rfl, hb⟩)
    go_ret
    exact ⟨rfl, hb⟩
  · by_cases hbig2 : 400 < n'
    · go_enter Try.func10, Try.ntmps10
      go_wp2_with (go_at_call 43; refine alive44.mono ?_; rintro e w1 ⟨rfl, hb⟩)
      go_ret
      exact ⟨rfl, hb⟩
    · have h1 := p44_Lay hs ht (by omega)
      have h2 := fun (W : World) (h : Sl W .u8 A n c xs) (h' : Sl W .u8 A' n' c' ys) => r44_Lay h h' (by omega)
      unfold RetLU at h1 h2
      obtain ⟨rv, hrv⟩ : ∃ rv, layU xs ys = rv := ⟨_, rfl⟩
      obtain ⟨o, f⟩ := rv
      simp only [hrv] at h1 h2
      have H2 := Lib.hid h2
      clear hrv h2
      go_enter Try.func10, Try.ntmps10
      go_wp2_with fail
      refine h1.mono ?_
      rintro e w1 ⟨v1, rfl, ho1, hb1⟩
      obtain ⟨A1, n1, c1, rfl, hs1⟩ := ho1.sl
      clear ho1
      go_wp2_with fail
      refine (H2.out _ (hs.bel hb1) (ht.bel hb1)).mono ?_
      rintro e w2 ⟨v2, rfl, ho2, hb2⟩
      obtain ⟨A2, n2, c2, rfl, hs2⟩ := ho2.sl
      clear ho2
      have hB2 := below_then hb1 hb2
      go_wp2_with fail
      refine (like_true (hs1.bel hb2) hs2).mono ?_
      rintro e w3 ⟨rfl, q3, hq3⟩
      have hb3 : Below w2.heap.size w2 w3 := by rw [hq3]; exact below_drewN (Below.refl _ _) _
      clear hq3
      have hB3 := below_then hB2 hb3
      go_wp2_with fail
      refine alive44.mono ?_
      rintro e w4 ⟨rfl, hb4⟩
      go_wp2
      go_ret
      exact ⟨rfl, below_then hB3 hb4⟩
end Go.Proofs.Ytlmkhjegckgmcaa
