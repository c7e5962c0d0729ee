/- Layer 43 (dots): receiving strictly, by the program: what its function returns. Conditions: the arguments read as lists; lengths at most 2^20; the variable MaxLen holds a number. -/
import Derived.Test.Ytlmkhjegckgmcaa43D
namespace Go.Proofs.Ytlmkhjegckgmcaa
open Go.RowKit

def RetStr (xs : List Int) (w : World) (e : Ending) (w' : World) : Prop :=
  ∃ v, e = .returned (.tuple #[v, .int .i64 (strV xs).2]) ∧ Own w' w.heap.size 5 .u8 v (strV xs).1 ∧ Below w.heap.size w w'
theorem right_take {ls : List (List Int)} {k : Nat} {x : List Int} (h : ls.take (k + 1) = ls.take k ++ [x]) (hr : rightL (ls.take k) = true) (hx : (!dotV x || dotV (x.drop 1)) = true) : rightL (ls.take (k + 1)) = true := by
  unfold rightL at hr ⊢
  rw [h, List.all_append, hr, Bool.true_and, List.all_cons, hx]; rfl
theorem right_no {ls : List (List Int)} {k : Nat} {x : List Int} (h : ls.drop k = x :: ls.drop (k + 1)) (hx : dotV x = true) (hx2 : dotV (x.drop 1) = false) : rightL ls = false := by
  unfold rightL
  rw [List.all_eq_false]
  refine ⟨x, ?_, by simp only [hx, hx2]; decide⟩
  have : x ∈ ls.drop k := by rw [h]; simp
  exact List.mem_of_mem_drop this
set_option maxRecDepth 100000 in
set_option maxHeartbeats 1000000 in
theorem p43_dottedT {A n c xs} {w : World} (hs : Sl w .u8 A n c xs) (h1 : 1 ≤ n) : Calls Try.prog 65 #[.slice (tailA A c 1) (n - 1) (c - 1)] w (Ret (.bool (dotV (xs.drop 1))) w) := p43_dotted (hs.tail h1)

set_option maxRecDepth 100000 in
set_option maxHeartbeats 2000000 in
theorem p43_Strict {A n c xs} {w : World} (hs : Sl w .u8 A n c xs) (hn : n ≤ 1048576) (hM : MaxL w) : Calls Try.prog 40 #[.slice A n c] w (RetStr xs w) := by
  have hl := hs.len
  obtain ⟨b1, b2, b3, b4, b5⟩ := ahdP_bd xs
  have hp := p43_Receive hs hn hM
  have he := str_eq xs
  have hr := rec_eq xs
  have ha := fun {W : World} (h1 : Sl W .u8 A n c xs) (h2 : MaxL W) => p43_ahead h1 hn h2
  unfold RetRec at hp
  unfold RetAhd at ha
  obtain ⟨ls, hls⟩ : ∃ ls, (ahdP xs).1 = ls := ⟨_, rfl⟩
  obtain ⟨m, hm⟩ : ∃ m, (ahdP xs).2 = m := ⟨_, rfl⟩
  obtain ⟨q, hq⟩ : ∃ q, bareV 0 xs = q := ⟨_, rfl⟩
  have hB := fun {W : World} (h1 : Sl W .u8 A n c xs) (h2 : MaxL W) => p26_Bare h1 (by omega) h2
  have hq0 := bareV_le 0 xs
  simp only [hls, hm, hq] at hp he hr b1 b2 b3 b4 b5 ha hB hq0
  rw [hl] at he
  clear hls hm hq b1 b3
  by_cases h0 : m = 0
  · subst h0
    rw [if_pos rfl] at he hr
    simp only [hr] at hp
    have HE := Lib.hid he; clear he hr
    go_enter Try.func40, Try.ntmps40
    go_wp2_with fail
    refine hp.mono ?_
    rintro e w1 ⟨v1, rfl, ho1, hb1⟩
    go_wp2
    go_ret2
    unfold RetStr
    rw [HE.out]
    exact ⟨_, rfl, Own.nil _ _ _ _, hb1⟩
  · rw [if_neg h0] at he hr
    simp only [hr] at hp
    clear hr
    by_cases h1 : m < n
    · rw [if_pos h1] at he
      have HE := Lib.hid he; clear he
      go_enter Try.func40, Try.ntmps40
      go_wp2_with fail
      refine hp.mono ?_
      rintro e w1 ⟨v1, rfl, ho1, hb1⟩
      go_wp2
      go_ret2
      unfold RetStr
      rw [HE.out]
      exact ⟨_, rfl, Own.nil _ _ _ _, hb1⟩
    · rw [if_neg h1] at he
      by_cases h2 : 0 < q
      · rw [if_pos h2] at he
        have HE := Lib.hid he; clear he
        go_enter Try.func40, Try.ntmps40
        go_wp2_with fail
        refine hp.mono ?_
        rintro e w1 ⟨v1, rfl, ho1, hb1⟩
        go_wp2_with fail
        refine (hB (hs.bel hb1) (hM.bel hb1)).mono ?_
        rintro e w2 ⟨rfl, hb2⟩
        go_wp2
        go_ret2
        unfold RetStr
        rw [HE.out]
        exact ⟨_, rfl, Own.nil _ _ _ _, below_then hb1 hb2⟩
      · rw [if_neg h2] at he
        have HE := Lib.hid he; clear he
        go_enter Try.func40, Try.ntmps40
        go_wp2_with fail
        refine hp.mono ?_
        rintro e w1 ⟨v1, rfl, ho1, hb1⟩
        go_wp2_with fail
        refine (hB (hs.bel hb1) (hM.bel hb1)).mono ?_
        rintro e w2 ⟨rfl, hb2⟩
        have hB2 := below_then hb1 hb2
        go_wp2_with fail
        refine (ha (hs.bel hB2) (hM.bel hB2)).mono ?_
        rintro e w3 ⟨v3, rfl, ho3, hb3⟩
        have hB3 := below_then hB2 hb3
        obtain ⟨A3, n3, c3, rfl, hL3⟩ := ho3.lns
        have hl3 := hL3.len
        have hle3 := hL3.le
        have hcm3 := hL3.cm
        unfold maxLen at hcm3
        have ho13 := (ho1.below hb2).below hb3
        clear ho3 hp ha hB
        go_wp2
        go_loopw [37] (fun i wr => ∃ k : Nat, k ≤ n3 ∧ i = .int .i64 k ∧ rightL (ls.take k) = true ∧ Below w3.heap.size w3 wr) (fun i _ => n3 - (intOf i).toNat)
        case atStart => exact ⟨0, by omega, rfl, rfl, Below.refl _ _⟩
        case round =>
          obtain ⟨k, hk, rfl, hri, hbel⟩ := hrel
          by_cases hlt : k < n3
          · obtain ⟨b, o, A', n', c', x, rfl, hb, hcell, hx, hxe, hdx, ht⟩ := (hL3.bel hbel).get hlt
            cases hv : dotV x with
            | false =>
              have HR := Lib.hid (right_take ht hri (by rw [hv]; rfl))
              have HV := Lib.hid hv
              clear hv ht hdx hxe hri
              go_wp2_with (first | (go_at_call 65; refine (p43_dottedE hx HV.out).mono ?_; rintro e w' ⟨rfl, rfl⟩))
              (first | (go_roundw; (case rel => exact ⟨k + 1, by omega, by go_num, HR.out, hbel⟩); (case measure => first | (simp [intOf] <;> omega) | (simp [lenOf] <;> omega))) | (refine ⟨?_, ?measure⟩; (repeat apply Exists.intro); refine ⟨?rel, ?eqs⟩; (case eqs => first | rfl | ((repeat (refine ⟨rfl, ?_⟩)); rfl)); (case rel => exact ⟨k + 1, by omega, by go_num, HR.out, hbel⟩); (case measure => first | (simp [intOf] <;> omega) | (simp [lenOf] <;> omega))) | ((repeat apply Exists.intro); refine ⟨?rel, ?eqs⟩; (case eqs => first | rfl | ((repeat (refine ⟨rfl, ?_⟩)); rfl)); (case rel => exact ⟨k + 1, by omega, by go_num, HR.out, hbel⟩)))
            | true =>
              have hn1 : 1 ≤ n' := by
                rw [← hx.len]; cases x with
                | nil => cases hv
                | cons y r => simp
              have HV := Lib.hid hv
              have hxle := hx.le
              have hxcm := hx.cm
              unfold maxLen at hxcm
              have hdt := p43_dottedT hx hn1
              obtain ⟨b', o', rfl, _⟩ := hx.form hn1
              have hcase : (c' = 1 ∧ tailA (some ⟨b', o', none⟩) c' 1 = some ⟨b', o', none⟩) ∨ (¬ c' = 1 ∧ tailA (some ⟨b', o', none⟩) c' 1 = some ⟨b', o' + 1, none⟩) := by
                unfold tailA
                by_cases hc : c' = 1
                · exact .inl ⟨hc, if_pos hc⟩
                · exact .inr ⟨hc, by rw [if_neg hc, Option.map_some, add_plain]⟩
              cases hv2 : dotV (x.drop 1) with
              | true =>
                have h11 : ¬ c' = 1 := by
                  intro hc
                  have : x.drop 1 = [] := List.drop_eq_nil_of_le (by rw [hx.len]; omega)
                  rw [this] at hv2; cases hv2
                have HR := Lib.hid (right_take ht hri (by rw [hv2, Bool.or_true]))
                rw [hv2] at hdt
                clear hv hv2 ht hdx hxe hri
                rcases hcase with ⟨hc, hA⟩ | ⟨hc, hA⟩ <;> rw [hA] at hdt <;> clear hA <;> have HDT := Lib.hid hdt <;> clear hdt
                · exact absurd hc h11
                · go_wp2_with fail
                  refine (p43_dottedE hx HV.out).mono ?_
                  rintro e w' ⟨rfl, rfl⟩
                  go_wp2_with fail
                  refine HDT.out.mono ?_
                  rintro e w' ⟨rfl, rfl⟩
                  go_wp2
                  (first | (go_roundw; (case rel => exact ⟨k + 1, by omega, by go_num, HR.out, hbel⟩); (case measure => first | (simp [intOf] <;> omega) | (simp [lenOf] <;> omega))) | (refine ⟨?_, ?measure⟩; (repeat apply Exists.intro); refine ⟨?rel, ?eqs⟩; (case eqs => first | rfl | ((repeat (refine ⟨rfl, ?_⟩)); rfl)); (case rel => exact ⟨k + 1, by omega, by go_num, HR.out, hbel⟩); (case measure => first | (simp [intOf] <;> omega) | (simp [lenOf] <;> omega))) | ((repeat apply Exists.intro); refine ⟨?rel, ?eqs⟩; (case eqs => first | rfl | ((repeat (refine ⟨rfl, ?_⟩)); rfl)); (case rel => exact ⟨k + 1, by omega, by go_num, HR.out, hbel⟩)))
              | false =>
                have HR := Lib.hid (right_no hdx hv hv2)
                rw [hv2] at hdt
                clear hv hv2 ht hdx hxe hri
                rcases hcase with ⟨hc, hA⟩ | ⟨hc, hA⟩ <;> rw [hA] at hdt <;> clear hA <;> have HDT := Lib.hid hdt <;> clear hdt
                · subst hc
                  obtain rfl : n' = 1 := by omega
                  clear HDT
                  go_wp2_with fail
                  refine (p43_dottedE hx HV.out).mono ?_
                  rintro e w' ⟨rfl, rfl⟩
                  go_wp2_with fail
                  refine (p43_dottedE (Sl.none_) rfl).mono ?_
                  rintro e w' ⟨rfl, rfl⟩
                  go_wp2
                  go_ret2
                  unfold RetStr
                  rw [HE.out, HR.out]
                  exact ⟨_, rfl, Own.nil _ _ _ _, below_then hB3 hbel⟩
                · go_wp2_with fail
                  refine (p43_dottedE hx HV.out).mono ?_
                  rintro e w' ⟨rfl, rfl⟩
                  go_wp2_with fail
                  refine HDT.out.mono ?_
                  rintro e w' ⟨rfl, rfl⟩
                  go_wp2
                  go_ret2
                  unfold RetStr
                  rw [HE.out, HR.out]
                  exact ⟨_, rfl, Own.nil _ _ _ _, below_then hB3 hbel⟩
          · have HR : rightL ls = true := by rw [List.take_of_length_le (by omega)] at hri; exact hri
            have HR := Lib.hid HR
            clear hri
            go_wp2
            go_ret2
            unfold RetStr
            rw [HE.out, HR.out]
            exact ⟨_, rfl, ho13.below hbel, below_then hB3 hbel⟩
end Go.Proofs.Ytlmkhjegckgmcaa
