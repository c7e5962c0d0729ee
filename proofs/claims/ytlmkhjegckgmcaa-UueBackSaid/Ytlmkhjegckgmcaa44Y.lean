/- Layer 44's laws of files read: each returns true for every input, and leaves what was there. Conditions: the arguments read as lists; the variable MaxLen holds a number. -/
import Derived.Test.Ytlmkhjegckgmcaa44X
import Derived.Test.Ytlmkhjegckgmcaa44L
namespace Go.Proofs.Ytlmkhjegckgmcaa
open Go.RowKit

set_option maxRecDepth 100000 in
set_option maxHeartbeats 2000000 in
theorem law_UueReads {A n c xs} {w : World} (hM : MaxL w) (hs : Sl w .u8 A n c xs) : Calls Try.prog 11 #[.slice A n c] w (RetB (.bool true) w) := by
  by_cases hbig : 600 < n
  · go_enter Try.func11, Try.ntmps11
    go_wp2_with (go_at_call 43; refine alive44.mono ?_; rintro e w1 ⟨rfl, hb⟩)
    go_ret
    exact ⟨rfl, hb⟩
  · have h1 := p44_Read hs (by omega) hM
    have h2 := fun (W : World) (h : Sl W .u8 A n c xs) => r44_Read h (by omega)
    unfold RetRU at h1 h2
    obtain ⟨rv, hrv⟩ : ∃ rv, readU xs = rv := ⟨_, rfl⟩
    obtain ⟨o, m, f⟩ := rv
    simp only [hrv] at h1 h2
    have H2 := Lib.hid h2
    clear hrv h2
    go_enter Try.func11, Try.ntmps11
    go_wp2_with fail
    refine h1.mono ?_
    rintro e w1 ⟨A1, n1, c1, A2, n2, c2, rfl, hs1, hs2, hb1⟩
    go_wp2_with fail
    refine (H2.out _ (hs.bel hb1)).mono ?_
    rintro e w2 ⟨A3, n3, c3, A4, n4, c4, rfl, hs3, hs4, hb2⟩
    have hB2 := below_then hb1 hb2
    go_wp2_with fail
    refine (like_true (hs1.bel hb2) hs3).mono ?_
    rintro e w5 ⟨rfl, q5, hq5⟩
    have hb5 : Below w2.heap.size w2 w5 := by rw [hq5]; exact below_drewN (Below.refl _ _) _
    clear hq5
    have hB5 := below_then hB2 hb5
    go_wp2_with fail
    refine (like_true ((hs2.bel hb2).bel hb5) (hs4.bel hb5)).mono ?_
    rintro e w6 ⟨rfl, q6, hq6⟩
    have hb6 : Below w5.heap.size w5 w6 := by rw [hq6]; exact below_drewN (Below.refl _ _) _
    clear hq6
    have hB6 := below_then hB5 hb6
    go_wp2_with fail
    refine alive44.mono ?_
    rintro e w8 ⟨rfl, hb8⟩
    go_wp2
    go_ret
    exact ⟨rfl, below_then hB6 hb8⟩

theorem lay44_no {xs ys : List Int} (h : nameU xs = false) : layU xs ys = ([], 13) := by unfold layU; rw [h]; rfl
theorem lay44_on {xs ys : List Int} (h : nameU xs = true) : (layU xs ys).2 = 0 := by unfold layU; rw [if_pos h]
theorem lay44_len {xs ys : List Int} (h : nameU xs = true) : (layU xs ys).1.length ≤ 9 * ys.length + 60 := by
  have := file_join (s := ys) h
  unfold layU; rw [if_pos h]; exact this
set_option maxRecDepth 100000 in
set_option maxHeartbeats 4000000 in
theorem law_UueBack {A n c xs A' n' c' ys} {w : World} (hM : MaxL w) (hs : Sl w .u8 A n c xs) (ht : Sl w .u8 A' n' c' ys) : Calls Try.prog 12 #[.slice A n c, .slice A' n' c'] w (RetB (.bool true) w) := by
  by_cases hbig : 100 < n
  · go_enter Try.func12, Try.ntmps12
    go_wp2_with (go_at_call 43; refine alive44.mono ?_; rintro e w1 ⟨rfl, hb⟩)
    go_ret
    exact ⟨rfl, hb⟩
  · by_cases hbig2 : 400 < n'
    · go_enter Try.func12, Try.ntmps12
      go_wp2_with (go_at_call 43; refine alive44.mono ?_; rintro e w1 ⟨rfl, hb⟩)
      go_ret
      exact ⟨rfl, hb⟩
    · have hny := ht.len
      have hyb : ∀ x ∈ ys, 0 ≤ x ∧ x ≤ 255 := fun x hx => by have := ht.rng x hx; omega
      have f1 := from_line ys hyb
      have hll := line_len ys
      have hLn := p44_Line ht (by omega)
      obtain ⟨q, hq⟩ : ∃ q : Nat, min (n' : Int) 45 = (q : Int) := ⟨min n' 45, by omega⟩
      have hq1 : q ≤ n' := by omega
      have hle' := ht.le
      have hcm' := ht.cm
      unfold maxLen at hcm'
      have htq := ht.take_ hq1
      have e45 : ys.take q = ys.take 45 := by
        by_cases h45 : n' ≤ 45
        · rw [List.take_of_length_le (by omega), List.take_of_length_le (by omega)]
        · rw [show q = 45 from by omega]
      rw [e45] at htq
      obtain ⟨zs, hzs⟩ : ∃ zs, ys.take 45 = zs := ⟨_, rfl⟩
      obtain ⟨ls, hls⟩ : ∃ ls, lineU ys = ls := ⟨_, rfl⟩
      rw [hzs] at f1 htq
      rw [hls] at f1 hLn hll
      have hF := fun (W : World) (A : Option Addr) (n c : Nat) (h : Sl W .u8 A n c ls) (hn : n ≤ 1048576) => p44_FromLine h (by omega)
      unfold RetFr at hF
      rw [f1] at hF
      have HF := Lib.hid hF
      have HLn := Lib.hid hLn
      clear hF hLn e45 hzs hls f1
      have hLy := fun (W : World) (h : Sl W .u8 A n c xs) (h' : Sl W .u8 A' n' c' ys) => p44_Lay h h' (by omega)
      unfold RetLU at hLy
      cases hnm : nameU xs with
      | false =>
        simp only [lay44_no hnm] at hLy
        have HLy := Lib.hid hLy
        clear hLy hnm
        go_enter Try.func12, Try.ntmps12
        go_wp2_with fail
        refine HLn.out.mono ?_
        rintro e w1 ⟨v1, rfl, ho1, hb1⟩
        obtain ⟨A1, n1, c1, rfl, hs1⟩ := ho1.sl
        have hl1 := hs1.len
        clear ho1
        go_wp2_with fail
        refine (HF.out _ _ _ _ hs1 (by omega)).mono ?_
        rintro e w2 ⟨A2, n2, c2, rfl, hs2, hb2⟩
        have hB2 := below_then hb1 hb2
        go_wp2_with fail
        refine (like_true hs2 (htq.bel hB2)).mono ?_
        rintro e w3 ⟨rfl, q3, hq3⟩
        have hb3 : Below w2.heap.size w2 w3 := by rw [hq3]; exact below_drewN (Below.refl _ _) _
        clear hq3
        have hB3 := below_then hB2 hb3
        go_wp2_with fail
        refine (HLy.out _ (hs.bel hB3) (ht.bel hB3)).mono ?_
        rintro e w4 ⟨v4, rfl, ho4, hb4⟩
        obtain ⟨A4, n4, c4, rfl, hs4⟩ := ho4.sl
        obtain rfl : n4 = 0 := hs4.len.symm
        clear ho4
        have hB4 := below_then hB3 hb4
        go_wp2_with fail
        refine alive44.mono ?_
        rintro e w8 ⟨rfl, hb8⟩
        go_wp2
        go_ret
        exact ⟨rfl, below_then hB4 hb8⟩
      | true =>
        have hb44 := back44 hnm hyb
        have hln := lay44_len (ys := ys) hnm
        simp only [lay44_on hnm] at hLy
        obtain ⟨fs, hfs⟩ : ∃ fs, (layU xs ys).1 = fs := ⟨_, rfl⟩
        simp only [hfs] at hLy hb44 hln
        have hR := fun (W : World) (A : Option Addr) (n c : Nat) (h : Sl W .u8 A n c fs) (hn : n ≤ 65536) (hM : MaxL W) => p44_Read h hn hM
        unfold RetRU at hR
        simp only [hb44] at hR
        have HLy := Lib.hid hLy
        have HR := Lib.hid hR
        clear hLy hR hnm hfs hb44
        go_enter Try.func12, Try.ntmps12
        go_wp2_with fail
        refine HLn.out.mono ?_
        rintro e w1 ⟨v1, rfl, ho1, hb1⟩
        obtain ⟨A1, n1, c1, rfl, hs1⟩ := ho1.sl
        have hl1 := hs1.len
        clear ho1
        go_wp2_with fail
        refine (HF.out _ _ _ _ hs1 (by omega)).mono ?_
        rintro e w2 ⟨A2, n2, c2, rfl, hs2, hb2⟩
        have hB2 := below_then hb1 hb2
        go_wp2_with fail
        refine (like_true hs2 (htq.bel hB2)).mono ?_
        rintro e w3 ⟨rfl, q3, hq3⟩
        have hb3 : Below w2.heap.size w2 w3 := by rw [hq3]; exact below_drewN (Below.refl _ _) _
        clear hq3
        have hB3 := below_then hB2 hb3
        go_wp2_with fail
        refine (HLy.out _ (hs.bel hB3) (ht.bel hB3)).mono ?_
        rintro e w4 ⟨v4, rfl, ho4, hb4⟩
        obtain ⟨A4, n4, c4, rfl, hs4⟩ := ho4.sl
        have hl4 := hs4.len
        clear ho4
        have hB4 := below_then hB3 hb4
        go_wp2_with fail
        refine (HR.out _ _ _ _ hs4 (by omega) (hM.bel hB4)).mono ?_
        rintro e w5 ⟨A5, n5, c5, A6, n6, c6, rfl, hs5, hs6, hb5⟩
        have hB5 := below_then hB4 hb5
        go_wp2_with fail
        refine (like_true hs5 (hs.bel hB5)).mono ?_
        rintro e w6 ⟨rfl, q6, hq6⟩
        have hb6 : Below w5.heap.size w5 w6 := by rw [hq6]; exact below_drewN (Below.refl _ _) _
        clear hq6
        have hB6 := below_then hB5 hb6
        go_wp2_with fail
        refine (like_true (hs6.bel hb6) (ht.bel hB6)).mono ?_
        rintro e w7 ⟨rfl, q7, hq7⟩
        have hb7 : Below w6.heap.size w6 w7 := by rw [hq7]; exact below_drewN (Below.refl _ _) _
        clear hq7
        have hB7 := below_then hB6 hb7
        go_wp2_with fail
        refine alive44.mono ?_
        rintro e w8 ⟨rfl, hb8⟩
        go_wp2
        go_ret
        exact ⟨rfl, below_then hB7 hb8⟩
end Go.Proofs.Ytlmkhjegckgmcaa
