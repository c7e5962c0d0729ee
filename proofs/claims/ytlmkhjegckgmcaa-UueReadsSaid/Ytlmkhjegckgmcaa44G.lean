/- Layer 44 (uue): a line read, by the program. Conditions: the argument reads as a list; lengths at most 2^22. -/
import Derived.Test.Ytlmkhjegckgmcaa44F
namespace Go.Proofs.Ytlmkhjegckgmcaa
open Go.RowKit

theorem from_cons {x : Int} {r : List Int} (h2 : (x :: r).all okU = true) (h3 : ¬ 45 < valU x) : fromU (x :: r) =
    if (r.length : Int) < (valU x + 2) / 3 * 4 then ([], 4) else if (valU x + 2) / 3 * 4 < (r.length : Int) then ([], 3) else ((decU (r.map valU)).take (valU x).toNat, 0) := by
  rw [from_on (by simp) h2 h3]
  have e : (((x :: r).length : Nat) : Int) - 1 = (r.length : Int) := by simp
  rw [e]; rfl
theorem four_of {vs : List Int} (h : 4 ≤ vs.length) : ∃ a b c d r, vs = a :: b :: c :: d :: r := by
  match vs, h with
  | a :: b :: c :: d :: r, _ => exact ⟨a, b, c, d, r, rfl⟩
  | [], h => simp at h
  | [_], h => simp at h
  | [_, _], h => simp at h
  | [_, _, _], h => simp at h

set_option maxRecDepth 100000 in
set_option maxHeartbeats 4000000 in
theorem p44_FromLine {A n c xs} {w : World} (hs : Sl w .u8 A n c xs) (hn : n ≤ 4194304) : Calls Try.prog 44 #[.slice A n c] w (RetFr xs w) := by
  have hln := hs.len
  cases xs with
  | nil =>
    obtain rfl : n = 0 := by simpa using hln.symm
    go_enter Try.func44, Try.ntmps44
    go_wp2
    go_ret2
    exact ⟨_, _, _, rfl, Sl.nil _ _, Below.refl _ _⟩
  | cons x r =>
    have hp := p44_values hs hn
    simp only [List.length_cons] at hln
    have hn0 : ((n : Int) == 0) = false := by simp; omega
    cases hall : (x :: r).all okU with
    | false =>
      have HE := Lib.hid (from_no (List.cons_ne_nil x r) hall)
      rw [hall] at hp
      unfold valsU at hp
      rw [hall] at hp
      have HP := Lib.hid hp; clear hp hall
      go_enter Try.func44, Try.ntmps44
      go_wp2_with fail
      refine HP.out.mono ?_
      rintro e w1 ⟨v1, rfl, ho1, hb1⟩
      go_wp2
      go_ret2
      unfold RetFr
      rw [HE.out]
      exact ⟨_, _, _, rfl, Sl.nil _ _, hb1⟩
    | true =>
      rw [hall] at hp
      unfold valsU at hp
      rw [hall, if_pos rfl, List.map_cons] at hp
      have hvb := valU_bd x
      obtain ⟨m, hm⟩ : ∃ m : Nat, valU x = (m : Int) := ⟨(valU x).toNat, by omega⟩
      by_cases h45 : 45 < valU x
      · have HE := Lib.hid (from_big (List.cons_ne_nil x r) h45)
        rw [hm] at hp h45
        have HP := Lib.hid hp; clear hp hall hm
        go_enter Try.func44, Try.ntmps44
        go_wp2_with fail
        refine HP.out.mono ?_
        rintro e w1 ⟨v1, rfl, ho1, hb1⟩
        obtain ⟨A1, n1, c1, rfl, hs1⟩ := ho1.sl
        have hl1 := hs1.len
        simp only [List.length_cons, List.length_map] at hl1
        obtain ⟨b, o, rfl, _⟩ := hs1.form (by omega)
        have hc0 : w1.cell? ⟨b, o, none⟩ = some (.int .i64 m) := by simpa using hs1.cell (j := 0) (by omega)
        clear ho1
        go_wp2
        go_ret2
        unfold RetFr
        rw [HE.out]
        exact ⟨_, _, _, rfl, Sl.nil _ _, hb1⟩
      · have he := from_cons hall h45
        rw [hm] at hp h45 he
        rw [Int.toNat_natCast] at he
        have hVb : ∀ y ∈ r.map valU, 0 ≤ y ∧ y < 64 := by
          intro y hy
          obtain ⟨z, _, rfl⟩ := List.mem_map.1 hy
          exact valU_bd z
        have hVl : (r.map valU).length = r.length := List.length_map _
        obtain ⟨V, hV⟩ : ∃ V, r.map valU = V := ⟨_, rfl⟩
        rw [hV] at hp he hVb hVl
        have HP := Lib.hid hp; have HE := Lib.hid he
        clear hp hall hm hV he hvb
        by_cases hlt : (r.length : Int) < ((m : Int) + 2) / 3 * 4
        · have HE' := HE.out
          rw [if_pos hlt] at HE'
          have HE := Lib.hid HE'
          clear HE'
          go_enter Try.func44, Try.ntmps44
          go_wp2_with fail
          refine HP.out.mono ?_
          rintro e w1 ⟨v1, rfl, ho1, hb1⟩
          obtain ⟨A1, n1, c1, rfl, hs1⟩ := ho1.sl
          have hl1 := hs1.len
          simp only [List.length_cons] at hl1
          have hle1 := hs1.le
          have hcm1 := hs1.cm
          unfold maxLen at hcm1
          have hta := hs1.tail (j := 1) (by omega)
          obtain ⟨b, o, rfl, hb⟩ := hs1.form (by omega)
          have hc0 : w1.cell? ⟨b, o, none⟩ = some (.int .i64 m) := by simpa using hs1.cell (j := 0) (by omega)
          have hcase : (c1 = 1 ∧ tailA (some ⟨b, o, none⟩) c1 1 = some ⟨b, o, none⟩) ∨ (¬ c1 = 1 ∧ tailA (some ⟨b, o, none⟩) c1 1 = some ⟨b, o + 1, none⟩) := by
            unfold tailA
            by_cases hc : c1 = 1
            · exact .inl ⟨hc, if_pos hc⟩
            · exact .inr ⟨hc, by rw [if_neg hc, Option.map_some, add_plain]⟩
          rw [show ((m : Int) :: V).drop 1 = V from rfl] at hta
          clear ho1
          rcases hcase with ⟨hc, hA⟩ | ⟨hc, hA⟩
          · subst hc
            obtain rfl : n1 = 1 := by omega
            have hr0 : r.length = 0 := by omega
            clear hta hA
            go_wp2_with fail
            go_quiet (fail)
            go_wp2
            go_ret2
            unfold RetFr
            rw [HE.out]
            exact ⟨_, _, _, rfl, Sl.nil _ _, below_drewN hb1 _⟩
          · clear hta hA
            go_wp2_with fail
            go_quiet (fail)
            go_wp2
            go_ret2
            unfold RetFr
            rw [HE.out]
            exact ⟨_, _, _, rfl, Sl.nil _ _, below_drewN hb1 _⟩
        · by_cases hgt : ((m : Int) + 2) / 3 * 4 < (r.length : Int)
          · have HE' := HE.out
            rw [if_neg hlt, if_pos hgt] at HE'
            have HE := Lib.hid HE'
            clear HE'
            go_enter Try.func44, Try.ntmps44
            go_wp2_with fail
            refine HP.out.mono ?_
            rintro e w1 ⟨v1, rfl, ho1, hb1⟩
            obtain ⟨A1, n1, c1, rfl, hs1⟩ := ho1.sl
            have hl1 := hs1.len
            simp only [List.length_cons] at hl1
            have hle1 := hs1.le
            have hcm1 := hs1.cm
            unfold maxLen at hcm1
            have hta := hs1.tail (j := 1) (by omega)
            obtain ⟨b, o, rfl, hb⟩ := hs1.form (by omega)
            have hc0 : w1.cell? ⟨b, o, none⟩ = some (.int .i64 m) := by simpa using hs1.cell (j := 0) (by omega)
            have hcase : (c1 = 1 ∧ tailA (some ⟨b, o, none⟩) c1 1 = some ⟨b, o, none⟩) ∨ (¬ c1 = 1 ∧ tailA (some ⟨b, o, none⟩) c1 1 = some ⟨b, o + 1, none⟩) := by
              unfold tailA
              by_cases hc : c1 = 1
              · exact .inl ⟨hc, if_pos hc⟩
              · exact .inr ⟨hc, by rw [if_neg hc, Option.map_some, add_plain]⟩
            rw [show ((m : Int) :: V).drop 1 = V from rfl] at hta
            clear ho1
            rcases hcase with ⟨hc, hA⟩ | ⟨hc, hA⟩
            · exfalso; omega
            · clear hta hA
              go_wp2_with fail
              go_quiet (fail)
              go_wp2
              go_ret2
              unfold RetFr
              rw [HE.out]
              exact ⟨_, _, _, rfl, Sl.nil _ _, below_drewN hb1 _⟩
          · have HE' := HE.out
            rw [if_neg hlt, if_neg hgt] at HE'
            have HE := Lib.hid HE'
            clear HE'
            go_enter Try.func44, Try.ntmps44
            go_wp2_with fail
            refine HP.out.mono ?_
            rintro e w1 ⟨v1, rfl, ho1, hb1⟩
            obtain ⟨A1, n1, c1, rfl, hs1⟩ := ho1.sl
            have hl1 := hs1.len
            simp only [List.length_cons] at hl1
            have hle1 := hs1.le
            have hcm1 := hs1.cm
            unfold maxLen at hcm1
            have hta := hs1.tail (j := 1) (by omega)
            obtain ⟨b, o, rfl, hb⟩ := hs1.form (by omega)
            have hc0 : w1.cell? ⟨b, o, none⟩ = some (.int .i64 m) := by simpa using hs1.cell (j := 0) (by omega)
            have hcase : (c1 = 1 ∧ tailA (some ⟨b, o, none⟩) c1 1 = some ⟨b, o, none⟩) ∨ (¬ c1 = 1 ∧ tailA (some ⟨b, o, none⟩) c1 1 = some ⟨b, o + 1, none⟩) := by
              unfold tailA
              by_cases hc : c1 = 1
              · exact .inl ⟨hc, if_pos hc⟩
              · exact .inr ⟨hc, by rw [if_neg hc, Option.map_some, add_plain]⟩
            rw [show ((m : Int) :: V).drop 1 = V from rfl] at hta
            clear ho1
            have hVn : V.length % 4 = 0 := by omega
            have hdl : V.length / 4 * 3 ≥ m := by omega
            have hdl2 := decU_len V
            have HDL : Hid ((decU V).length = V.length / 4 * 3) := by show _ = _; omega
            clear hdl2
            rcases hcase with ⟨hc, hA⟩ | ⟨hc, hA⟩
            · subst hc
              obtain rfl : n1 = 1 := by omega
              obtain rfl : V = [] := List.eq_nil_of_length_eq_zero (by omega)
              obtain rfl : m = 0 := by simp at hdl; omega
              clear hA hta
              go_wp2_with fail
              go_quiet (fail)
              go_wp2
              go_loopw [4, 8] (fun v o wr => ∃ (A2 : Option Addr) (c2 : Nat), v = .slice A2 0 c2 ∧ o = .slice none 0 0 ∧ Below w.heap.size w wr) (fun v _ _ => lenOf v)
              case atStart => exact ⟨_, _, rfl, rfl, below_drewN hb1 _⟩
              case round =>
                obtain ⟨A2, c2, rfl, rfl, hbel⟩ := hrel
                go_wp2
                go_ret2
                unfold RetFr
                rw [HE.out]
                exact ⟨_, _, _, rfl, Sl.nil _ _, hbel⟩
            · rw [hA] at hta
              clear hA
              go_wp2_with fail
              go_quiet (fail)
              go_wp2
              go_loopw [4, 8] (fun v o wr => ∃ (A2 : Option Addr) (n2 c2 : Nat) (vs zs : List Int), v = .slice A2 n2 c2 ∧ Sl w1 .i64 A2 n2 c2 vs ∧ n2 % 4 = 0 ∧ Hid (∀ y ∈ vs, 0 ≤ y ∧ y < 64) ∧ Own wr w1.heap.size 5 .u8 o zs ∧ zs.length + n2 ≤ n ∧ Hid (decU V = zs ++ decU vs) ∧ Below w1.heap.size w1 wr) (fun v _ _ => lenOf v)
              case atStart => exact ⟨_, _, _, V, [], rfl, hta, by omega, Lib.hid hVb, Own.nil _ _ _ _, by simp; omega, rfl, below_drewN (Below.refl _ _) _⟩
              case round =>
                clear hta hs1 hc0
                obtain ⟨A2, n2, c2, vs, zs, rfl, hsv, hn4, hB, ho, hzn, hI, hbel⟩ := hrel
                have hsv' := hsv.bel hbel
                have hz := hbel.size
                have hvl := hsv.len
                have hvle := hsv.le
                have hvcm := hsv.cm
                unfold maxLen at hvcm
                by_cases h0 : 0 < n2
                · obtain ⟨a', b', c', d', vs', rfl⟩ := four_of (vs := vs) (by omega)
                  have ha := hB.out a' (by simp)
                  have hb4 := hB.out b' (by simp)
                  have hc4 := hB.out c' (by simp)
                  have hd4 := hB.out d' (by simp)
                  obtain ⟨q1, q2, q3⟩ := or_abcd ha hb4 hc4 hd4
                  obtain ⟨k1, k2, k3⟩ := dec_x ha hb4 hc4 hd4
                  have hta := hsv.tail (j := 4) (by omega)
                  obtain ⟨bb, oo, rfl, _⟩ := hsv.form h0
                  have x0 : wr.cell? ⟨bb, oo, none⟩ = some (.int .i64 a') := by simpa using hsv'.cell (j := 0) (by omega)
                  have x1 : wr.cell? ⟨bb, oo + 1, none⟩ = some (.int .i64 b') := by simpa using hsv'.cell (j := 1) (by omega)
                  have x2 : wr.cell? ⟨bb, oo + 2, none⟩ = some (.int .i64 c') := by simpa using hsv'.cell (j := 2) (by omega)
                  have x3 : wr.cell? ⟨bb, oo + 3, none⟩ = some (.int .i64 d') := by simpa using hsv'.cell (j := 3) (by omega)
                  obtain ⟨X, hX⟩ : ∃ X, a' * 262144 + b' * 4096 + c' * 64 + d' = X := ⟨_, rfl⟩
                  rw [hX] at q3 k1 k2 k3
                  have hX0 : 0 ≤ X := by omega
                  have hX1 : X < 16777216 := by omega
                  obtain ⟨ha0, ha1⟩ := ha
                  obtain ⟨hb40, hb41⟩ := hb4
                  obtain ⟨hc40, hc41⟩ := hc4
                  obtain ⟨hd40, hd41⟩ := hd4
                  have hn1 : Hid (decU V = (zs ++ [X / 65536, X / 256 % 256, X % 256]) ++ decU vs') := by show _ = _; rw [hI.out, k1, k2, k3]; simp [decU]
                  have hB' : Hid (∀ y ∈ vs', 0 ≤ y ∧ y < 64) := Lib.hid fun y hy => hB.out y (by simp [hy])
                  have hoD := fun q => ho.below (below_drewN (Below.refl wr.heap.size wr) q)
                  have hbD := fun q => below_drewN hbel q
                  clear hI hB hX k1 k2 k3 hsv'
                  have hcase2 : (c2 = 4 ∧ tailA (some ⟨bb, oo, none⟩) c2 4 = some ⟨bb, oo, none⟩) ∨ (¬ c2 = 4 ∧ tailA (some ⟨bb, oo, none⟩) c2 4 = some ⟨bb, oo + 4, none⟩) := by
                    unfold tailA
                    by_cases hc : c2 = 4
                    · exact .inl ⟨hc, if_pos hc⟩
                    · exact .inr ⟨hc, by rw [if_neg hc, Option.map_some, add_plain]⟩
                  rw [show (a' :: b' :: c' :: d' :: vs').drop 4 = vs' from rfl] at hta
                  have hW : ∀ y ∈ [X / 65536, X / 256 % 256, X % 256], (Lit.int .u8 y).wf = true := by
                    intro y hy
                    rw [wf_u8]
                    simp only [List.mem_cons, List.not_mem_nil, or_false] at hy
                    rcases hy with rfl | rfl | rfl <;> omega
                  simp only [List.length_cons] at hvl
                  rcases hcase2 with ⟨hc2, hA2⟩ | ⟨hc2, hA2⟩
                  · subst hc2
                    obtain rfl : n2 = 4 := by omega
                    rw [hA2] at hta
                    clear hA2
                    go_wp2_with fail
                    go_quiet (fail)
                    go_wp2_with (at_builtin; refine wpList_app rfl rfl eltB (by decide) rfl rfl ((hoD _).alloc _) (Sl.new _ .u8 5 [X / 65536, X / 256 % 256, X % 256] hW (by simp)) ((hbD _).alloc (by simp; omega) _) (by refine ⟨?_, ?_⟩ <;> first | omega | (simp; done) | (simp; omega)) (by first | omega | (simp; done) | (simp; omega)) ?_; intro v3 w3 ho3 hb3 hg3)
                    (first | (go_roundw; (case rel => exact ⟨_, _, _, vs', _, rfl, hta, by omega, hB', ho3, by simp; omega, hn1, hb3⟩); (case measure => first | (simp [intOf] <;> omega) | (simp [lenOf] <;> omega))) | (refine ⟨?_, ?measure⟩; (repeat apply Exists.intro); refine ⟨?rel, ?eqs⟩; (case eqs => first | rfl | ((repeat (refine ⟨rfl, ?_⟩)); rfl)); (case rel => exact ⟨_, _, _, vs', _, rfl, hta, by omega, hB', ho3, by simp; omega, hn1, hb3⟩); (case measure => first | (simp [intOf] <;> omega) | (simp [lenOf] <;> omega))) | ((repeat apply Exists.intro); refine ⟨?rel, ?eqs⟩; (case eqs => first | rfl | ((repeat (refine ⟨rfl, ?_⟩)); rfl)); (case rel => exact ⟨_, _, _, vs', _, rfl, hta, by omega, hB', ho3, by simp; omega, hn1, hb3⟩)))
                  · rw [hA2] at hta
                    clear hA2
                    go_wp2_with fail
                    go_quiet (fail)
                    go_wp2_with (at_builtin; refine wpList_app rfl rfl eltB (by decide) rfl rfl ((hoD _).alloc _) (Sl.new _ .u8 5 [X / 65536, X / 256 % 256, X % 256] hW (by simp)) ((hbD _).alloc (by simp; omega) _) (by refine ⟨?_, ?_⟩ <;> first | omega | (simp; done) | (simp; omega)) (by first | omega | (simp; done) | (simp; omega)) ?_; intro v3 w3 ho3 hb3 hg3)
                    (first | (go_roundw; (case rel => exact ⟨_, _, _, vs', _, rfl, hta, by omega, hB', ho3, by simp; omega, hn1, hb3⟩); (case measure => first | (simp [intOf] <;> omega) | (simp [lenOf] <;> omega))) | (refine ⟨?_, ?measure⟩; (repeat apply Exists.intro); refine ⟨?rel, ?eqs⟩; (case eqs => first | rfl | ((repeat (refine ⟨rfl, ?_⟩)); rfl)); (case rel => exact ⟨_, _, _, vs', _, rfl, hta, by omega, hB', ho3, by simp; omega, hn1, hb3⟩); (case measure => first | (simp [intOf] <;> omega) | (simp [lenOf] <;> omega))) | ((repeat apply Exists.intro); refine ⟨?rel, ?eqs⟩; (case eqs => first | rfl | ((repeat (refine ⟨rfl, ?_⟩)); rfl)); (case rel => exact ⟨_, _, _, vs', _, rfl, hta, by omega, hB', ho3, by simp; omega, hn1, hb3⟩)))
                · obtain rfl : n2 = 0 := by omega
                  obtain rfl : vs = [] := List.eq_nil_of_length_eq_zero hvl
                  have hD : decU V = zs := by rw [hI.out]; simp [decU]
                  obtain ⟨A3, n3, c3, rfl, hs3⟩ := ho.sl
                  have hl3 : n3 = V.length / 4 * 3 := by rw [← hs3.len, ← hD]; exact HDL.out
                  have hle3 := hs3.le
                  have hcm3 := hs3.cm
                  unfold maxLen at hcm3
                  have hs4 := hs3.take_ (m := m) (by omega)
                  have HD := Lib.hid hD
                  clear hI hD
                  go_wp2
                  go_ret2
                  unfold RetFr
                  rw [HE.out, HD.out]
                  exact ⟨_, _, _, rfl, hs4, below_then hb1 hbel⟩
end Go.Proofs.Ytlmkhjegckgmcaa
