/- Layer 44's law of lines: it returns true for every input, and leaves what was there. Conditions: the arguments read as lists. -/
import Derived.Test.Ytlmkhjegckgmcaa44L
namespace Go.Proofs.Ytlmkhjegckgmcaa
open Go.RowKit

set_option maxRecDepth 100000 in
set_option maxHeartbeats 2000000 in
theorem law_UueLines {A n c xs A' n' c' ys} {d : Int} {w : World} (hs : Sl w .u8 A n c xs) (ht : Sl w .u8 A' n' c' ys) (hd : (Lit.int .i64 d).wf = true) : Calls Try.prog 9 #[.slice A n c, .slice A' n' c', .int .i64 d] w (RetB (.bool true) w) := by
  by_cases hbig : 300 < n
  · go_enter Try.func9, Try.ntmps9
    go_wp2_with (go_at_call 43; refine alive44.mono ?_; rintro e w1 ⟨rfl, hb⟩)
    go_ret
    exact ⟨rfl, hb⟩
  · by_cases hbig2 : 300 < n'
    · go_enter Try.func9, Try.ntmps9
      go_wp2_with (go_at_call 43; refine alive44.mono ?_; rintro e w1 ⟨rfl, hb⟩)
      go_ret
      exact ⟨rfl, hb⟩
    · have h1 := p44_FromLine ht (by omega)
      have h2 := fun (W : World) (h : Sl W .u8 A' n' c' ys) => r44_FromLine h (by omega)
      unfold RetFr at h1 h2
      obtain ⟨rv, hrv⟩ : ∃ rv, fromU ys = rv := ⟨_, rfl⟩
      obtain ⟨o, f⟩ := rv
      simp only [hrv] at h1 h2
      have H2 := Lib.hid h2
      clear hrv h2
      obtain ⟨l, hl⟩ : ∃ l, lineU xs = l := ⟨_, rfl⟩
      have HL := Lib.hid hl; clear hl
      go_enter Try.func9, Try.ntmps9
      go_wp2_with fail
      refine h1.mono ?_
      rintro e w1 ⟨A1, n1, c1, rfl, hs1, hb1⟩
      go_wp2_with fail
      refine (H2.out _ (ht.bel hb1)).mono ?_
      rintro e w2 ⟨A2, n2, c2, rfl, hs2, hb2⟩
      have hB2 := below_then hb1 hb2
      have hs12 := hs1.bel hb2
      have hw := fun (x : Int) => wf_u8 (x := x)
      go_wp2_with fail
      refine (p44_Value (wf_u8.2 (by omega))).mono ?_
      rintro e w' ⟨rfl, rfl⟩
      go_wp2_with fail
      refine (r44_Value (wf_u8.2 (by omega))).mono ?_
      rintro e w' ⟨rfl, rfl⟩
      go_wp2_with fail
      refine (p44_Line (hs.bel hB2) (by omega)).mono ?_
      rw [HL.out]
      rintro e w3 ⟨v3, rfl, ho3, hb3⟩
      obtain ⟨A3, n3, c3, rfl, hs3⟩ := ho3.sl
      clear ho3
      have hB3 := below_then hB2 hb3
      go_wp2_with fail
      refine (r44_Line (hs.bel hB3) (by omega)).mono ?_
      rw [HL.out]
      rintro e w4 ⟨v4, rfl, ho4, hb4⟩
      obtain ⟨A4, n4, c4, rfl, hs4⟩ := ho4.sl
      clear ho4
      have hB4 := below_then hB3 hb4
      have hb24 := below_then hb3 hb4
      go_wp2_with fail
      refine (like_true (hs3.bel hb4) hs4).mono ?_
      rintro e w5 ⟨rfl, q5, hq5⟩
      have hb5 : Below w4.heap.size w4 w5 := by rw [hq5]; exact below_drewN (Below.refl _ _) _
      clear hq5
      have hB5 := below_then hB4 hb5
      have hb25 := below_then hb24 hb5
      go_wp2_with fail
      refine (like_true (hs12.bel hb25) (hs2.bel hb25)).mono ?_
      rintro e w6 ⟨rfl, q6, hq6⟩
      have hb6 : Below w5.heap.size w5 w6 := by rw [hq6]; exact below_drewN (Below.refl _ _) _
      clear hq6
      have hB6 := below_then hB5 hb6
      go_wp2_with fail
      refine p44_Digit.mono ?_
      rintro e w' ⟨rfl, rfl⟩
      go_wp2_with fail
      refine (r44_Digit hd).mono ?_
      rintro e w' ⟨rfl, rfl⟩
      go_wp2_with fail
      refine alive44.mono ?_
      rintro e w7 ⟨rfl, hb7⟩
      go_wp2
      go_ret
      exact ⟨rfl, below_then hB6 hb7⟩
end Go.Proofs.Ytlmkhjegckgmcaa
