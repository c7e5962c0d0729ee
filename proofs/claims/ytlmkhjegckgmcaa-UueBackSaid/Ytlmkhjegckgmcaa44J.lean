/- Layer 44 (uue): files laid, by the program: what its function returns. Conditions: the arguments read as lists; lengths at most 2^16. -/
import Derived.Test.Ytlmkhjegckgmcaa44I
namespace Go.Proofs.Ytlmkhjegckgmcaa
open Go.RowKit

def RetLU (xs zs : List Int) (w : World) (e : Ending) (w' : World) : Prop := ∃ v, e = .returned (.tuple #[v, .int .i64 (layU xs zs).2]) ∧ Own w' w.heap.size 5 .u8 v (layU xs zs).1 ∧ Below w.heap.size w w'
theorem file_join {n s : List Int} (h : nameU n = true) : (joinL (fileU n s)).length ≤ 9 * s.length + 60 := by
  have h1 := linesU_join s.length s (Nat.le_refl _)
  have h2 := (name_len h).2
  unfold fileU
  rw [joinL_cons, joinL_app]
  have e1 : (joinL [[96], endU]).length = 8 := rfl
  have e2 : begU.length = 10 := rfl
  simp only [List.length_append, List.length_cons, List.length_nil, e1, e2]
  omega
theorem lineU_nil : lineU [] = [96] := by decide

set_option maxRecDepth 100000 in
set_option maxHeartbeats 4000000 in
theorem p44_Lay {A n c xs A' n' c' zs} {w : World} (hs : Sl w .u8 A n c xs) (ht : Sl w .u8 A' n' c' zs) (hn : n' ≤ 65536) : Calls Try.prog 52 #[.slice A n c, .slice A' n' c'] w (RetLU xs zs w) := by
  have kc := fun (w : World) (C : Array Value) (n c : Nat) => Lib.run_convert_bytes_const (P := Try.prog) w 22 5 C n c Try.underlying22 Try.underlying5
  have hp := p44_isName hs
  cases hnm : nameU xs with
  | false =>
    have HE := Lib.hid (show layU xs zs = ([], 13) by unfold layU; rw [hnm]; rfl)
    rw [hnm] at hp
    have HP := Lib.hid hp
    clear hp hnm
    go_enter Try.func52, Try.ntmps52
    go_wp2_with (first | (go_at_call 73; refine HP.out.mono ?_; rintro e w' ⟨rfl, rfl⟩))
    go_ret2
    unfold RetLU
    rw [HE.out]
    exact ⟨_, rfl, Own.nil _ _ _ _, Below.refl _ _⟩
  | true =>
    have HE := Lib.hid (show layU xs zs = (joinL (fileU xs zs), 0) by unfold layU; rw [hnm]; rfl)
    have HJ := Lib.hid (file_join (s := zs) hnm)
    have hnl := name_len hnm
    rw [hs.len] at hnl
    obtain ⟨hnl1, hnl2⟩ := hnl
    rw [hnm] at hp
    have HP := Lib.hid hp
    clear hp hnm
    have htl := ht.len
    go_enter Try.func52, Try.ntmps52
    go_wp2_with (first | (go_at_call 73; refine HP.out.mono ?_; rintro e w' ⟨rfl, rfl⟩) | (at_builtin; refine wpList_appF rfl rfl eltB (by decide) rfl rfl (Sl.newF w .u8 5 [98, 101, 103, 105, 110, 32, 54, 52, 52, 32] (10, 11) (by decide) (by decide)) (hs.alloc _) hnl1 (by first | omega | (simp; omega)) ?_; intro v1 w1 ho1 hb1; obtain ⟨A9, n9, c9, rfl, hs9⟩ := ho1.sl; clear hs9))
    have hB1 : Below w.heap.size w w1 := below_then' ((Below.refl _ _).alloc (Nat.le_refl _) _) hb1 (Nat.le_refl _)
    have hO1 : OwnL (w1.alloc (.cells #[.slice A9 n9 c9] 22)) w.heap.size 22 (.slice (some ⟨w1.heap.size, 0, none⟩) 1 1) [begU ++ xs] := OwnL.one (ho1.ln (by decide)) hB1.size
    have hB2 := hB1.alloc hB1.size (.cells #[.slice A9 n9 c9] 22)
    clear ho1 hb1 hB1
    go_loopw [1, 6] (fun s l wr => ∃ (A2 : Option Addr) (m c2 : Nat) (ys : List Int) (ls : List (List Int)), s = .slice A2 m c2 ∧ Sl w .u8 A2 m c2 ys ∧ OwnL wr w.heap.size 22 l ls ∧ m ≤ n' ∧ ls.length + m ≤ n' + 1 ∧ Hid ((begU ++ xs) :: linesU zs = ls ++ linesU ys) ∧ Below w.heap.size w wr) (fun s _ _ => lenOf s)
    case atStart => exact ⟨A', n', c', zs, _, rfl, ht, hO1, Nat.le_refl _, by simp; omega, rfl, hB2⟩
    case round =>
      clear hO1 hB2 hs
      obtain ⟨A2, m, c2, ys, ls, rfl, hsy, ho, hmn, hlm, hI, hbel⟩ := hrel
      have hz := hbel.size
      have hsy' := hsy.bel hbel
      have hyl := hsy.len
      have hyle := hsy.le
      have hycm := hsy.cm
      unfold maxLen at hycm
      by_cases h0 : 0 < m
      · obtain ⟨q, hq⟩ : ∃ q : Nat, min (m : Int) 45 = (q : Int) := ⟨min m 45, by omega⟩
        have hq1 : q ≤ m := by omega
        have hq2 : 0 < q := by omega
        have hdq : ys.drop q = ys.drop 45 := by
          by_cases h45 : m ≤ 45
          · rw [List.drop_eq_nil_of_le (by omega), List.drop_eq_nil_of_le (by omega)]
          · rw [show q = 45 from by omega]
        have hn1 : Hid ((begU ++ xs) :: linesU zs = (ls ++ [lineU ys]) ++ linesU (ys.drop q)) := by
          show _ = _
          rw [hI.out, linesU_on (by intro h; rw [h] at hyl; simp at hyl; omega), hdq]; simp
        have hta := hsy.tail (j := q) hq1
        obtain ⟨b, o, rfl, _⟩ := hsy.form h0
        have hcase : (c2 = q ∧ tailA (some ⟨b, o, none⟩) c2 q = some ⟨b, o, none⟩) ∨ (¬ c2 = q ∧ tailA (some ⟨b, o, none⟩) c2 q = some ⟨b, o + q, none⟩) := by
          unfold tailA
          by_cases hc : c2 = q
          · exact .inl ⟨hc, if_pos hc⟩
          · exact .inr ⟨hc, by rw [if_neg hc, Option.map_some, add_plain]⟩
        clear hI hdq
        rcases hcase with ⟨hc, hA⟩ | ⟨hc, hA⟩
        · obtain rfl : m = q := by omega
          subst hc
          rw [hA, Nat.sub_self] at hta
          clear hA
          go_wp2_with fail
          refine (p44_Line hsy' (by omega)).mono ?_
          rintro e w3 ⟨v3, rfl, ho3, hb3⟩
          have hB3 := below_then' hbel hb3 (Nat.le_refl _)
          have hz3 := hB3.size
          obtain ⟨A9, n9, c9, rfl, hs9⟩ := ho3.sl
          clear hs9
          go_wp2_with (at_builtin; refine wpList_appL rfl rfl eltL rfl rfl (ho.below hb3) (ho3.ln (by decide)) hB3 (by refine ⟨?_, ?_⟩ <;> first | omega | (simp; done) | (simp; omega)) (by first | omega | (simp; done) | (simp; omega)) ?_; intro v4 w4 ho4 hb4)
          (first | (go_roundw; (case rel => exact ⟨_, _, _, _, _, rfl, hta, ho4, by omega, by simp; omega, hn1, hb4⟩); (case measure => first | (simp [intOf] <;> omega) | (simp [lenOf] <;> omega))) | (refine ⟨?_, ?measure⟩; (repeat apply Exists.intro); refine ⟨?rel, ?eqs⟩; (case eqs => first | rfl | ((repeat (refine ⟨rfl, ?_⟩)); rfl)); (case rel => exact ⟨_, _, _, _, _, rfl, hta, ho4, by omega, by simp; omega, hn1, hb4⟩); (case measure => first | (simp [intOf] <;> omega) | (simp [lenOf] <;> omega))) | ((repeat apply Exists.intro); refine ⟨?rel, ?eqs⟩; (case eqs => first | rfl | ((repeat (refine ⟨rfl, ?_⟩)); rfl)); (case rel => exact ⟨_, _, _, _, _, rfl, hta, ho4, by omega, by simp; omega, hn1, hb4⟩)))
        · rw [hA] at hta
          clear hA
          go_wp2_with fail
          refine (p44_Line hsy' (by omega)).mono ?_
          rintro e w3 ⟨v3, rfl, ho3, hb3⟩
          have hB3 := below_then' hbel hb3 (Nat.le_refl _)
          have hz3 := hB3.size
          obtain ⟨A9, n9, c9, rfl, hs9⟩ := ho3.sl
          clear hs9
          go_wp2_with (at_builtin; refine wpList_appL rfl rfl eltL rfl rfl (ho.below hb3) (ho3.ln (by decide)) hB3 (by refine ⟨?_, ?_⟩ <;> first | omega | (simp; done) | (simp; omega)) (by first | omega | (simp; done) | (simp; omega)) ?_; intro v4 w4 ho4 hb4)
          (first | (go_roundw; (case rel => exact ⟨_, _, _, _, _, rfl, hta, ho4, by omega, by simp; omega, hn1, hb4⟩); (case measure => first | (simp [intOf] <;> omega) | (simp [lenOf] <;> omega))) | (refine ⟨?_, ?measure⟩; (repeat apply Exists.intro); refine ⟨?rel, ?eqs⟩; (case eqs => first | rfl | ((repeat (refine ⟨rfl, ?_⟩)); rfl)); (case rel => exact ⟨_, _, _, _, _, rfl, hta, ho4, by omega, by simp; omega, hn1, hb4⟩); (case measure => first | (simp [intOf] <;> omega) | (simp [lenOf] <;> omega))) | ((repeat apply Exists.intro); refine ⟨?rel, ?eqs⟩; (case eqs => first | rfl | ((repeat (refine ⟨rfl, ?_⟩)); rfl)); (case rel => exact ⟨_, _, _, _, _, rfl, hta, ho4, by omega, by simp; omega, hn1, hb4⟩)))
      · obtain rfl : m = 0 := by omega
        obtain rfl : ys = [] := List.eq_nil_of_length_eq_zero hyl
        have hls : ls ++ [[96], endU] = fileU xs zs := by
          have h := hI.out
          rw [linesU_nil, List.append_nil] at h
          rw [← h]; rfl
        have HLS := Lib.hid hls
        clear hI hls hsy hsy'
        go_wp2_with fail
        refine (p44_Line (Sl.nil _ _) (by decide)).mono ?_
        rw [lineU_nil]
        rintro e w3 ⟨v3, rfl, ho3, hb3⟩
        have hB3 := below_then' hbel hb3 (Nat.le_refl _)
        have hz3 := hB3.size
        obtain ⟨A9, n9, c9, rfl, hs9⟩ := ho3.sl
        have hsE := Sl.newF w3 .u8 5 endU (3, 4) (by decide) (by decide)
        have hLE : Ln (w3.alloc (.cells (endU.map (Value.int .u8)).toArray 5 (3, 4))) w.heap.size 22 (.slice (some ⟨w3.heap.size, 0, none⟩) 3 3) endU :=
          ⟨_, _, _, rfl, hsE, fun _ a ha => by injection ha with ha; subst ha; exact .inr ⟨_, 5, (3, 4), heap_alloc _ _, by decide⟩⟩
        clear hs9 hsE
        go_wp2_with (at_builtin; refine wpList_appL2 rfl rfl eltL rfl ?hx ((ho.below hb3).alloc _) ((ho3.ln (by decide)).below ((Below.refl _ _).alloc (Nat.le_refl _) _)) hLE (hB3.alloc hz3 _) (by refine ⟨?_, ?_⟩ <;> first | omega | (simp; omega)) (by omega) ?_; (case hx => first | rfl | go_simp); intro v4 w4 ho4 hb4; obtain ⟨A4, n4, c4, rfl, hL4⟩ := ho4.lns)
        have hl4 := hL4.len
        rw [HLS.out] at hL4
        simp only [List.length_append, List.length_cons, List.length_nil] at hl4
        refine (p26_Join hL4 (by omega) (by have := HJ.out; omega)).mono ?_
        rintro e w5 ⟨v5, rfl, ho5, hb5⟩
        go_wp2
        go_ret2
        unfold RetLU
        rw [HE.out]
        exact ⟨_, rfl, ho5.mono hb4.size, below_then hb4 hb5⟩
end Go.Proofs.Ytlmkhjegckgmcaa
