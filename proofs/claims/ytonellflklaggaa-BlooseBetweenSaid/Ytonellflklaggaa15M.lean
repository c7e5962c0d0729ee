/- Layer 15's law of what plays no part: it returns true for every input, and leaves what was there. Conditions: the arguments read as lists. -/
import Derived.Test.Ytonellflklaggaa15L
namespace Go.Proofs.Ytonellflklaggaa
open Go.RowKit

/-- so many digits, and other octets between -/
def Mix (ds M : List Int) (k : Nat) : Prop := (∀ y ∈ M, y ≠ 61) ∧ M.filter isD = ds.take k
theorem Mix.start (ds : List Int) : Mix ds [] 0 := ⟨by simp, by simp⟩
theorem Mix.d {ds M : List Int} {k : Nat} {y : Int} (h : Mix ds M k) (ha : allD ds = true) (hm : y ∈ ds) (ht : ds.take (k + 1) = ds.take k ++ [y]) : Mix ds (M ++ [y]) (k + 1) := by
  have hd : isD y = true := List.all_eq_true.1 ha y hm
  refine ⟨fun z hz => ?_, ?_⟩
  · rcases List.mem_append.1 hz with h5 | h5
    · exact h.1 z h5
    · simp only [List.mem_singleton] at h5; subst h5; exact isD_no61 hd
  · rw [ht, List.filter_append, h.2]; simp [hd]
theorem Mix.o {ds M : List Int} {k : Nat} {x : Int} (h : Mix ds M k) (hx : x ≠ 61) (hd : isD x = false) : Mix ds (M ++ [x]) k := by
  refine ⟨fun z hz => ?_, ?_⟩
  · rcases List.mem_append.1 hz with h5 | h5
    · exact h.1 z h5
    · simp only [List.mem_singleton] at h5; subst h5; exact hx
  · rw [List.filter_append, h.2]; simp [hd]
theorem Mix.skip {ds M : List Int} {k : Nat} (h : Mix ds M k) (hk : ds.length ≤ k) : Mix ds M (k + 1) := by
  refine ⟨h.1, ?_⟩
  rw [h.2, List.take_of_length_le hk, List.take_of_length_le (by omega)]
theorem Mix.fin {xs M bs : List Int} {k : Nat} (h : Mix (digF xs) M k) (hk : (digF xs).length ≤ k) : digF (M ++ [61] ++ bs) = digF xs ∧ lrdL (M ++ [61] ++ bs) = lrdL xs := by
  have e : digF (M ++ [61] ++ bs) = digF xs := by
    rw [List.append_assoc, digF_app h.1, List.singleton_append, digF_61, List.append_nil, h.2, List.take_of_length_le hk]
  exact ⟨e, by unfold lrdL; rw [e]⟩

set_option maxRecDepth 100000 in
set_option maxHeartbeats 8000000 in
theorem law_BlooseBetween {A n c xs A' n' c' os A2 n2 c2 bs} {w : World} (hs : Sl w .u8 A n c xs) (ht : Sl w .u8 A' n' c' os) (hb : Sl w .u8 A2 n2 c2 bs) : Calls Try.prog 8 #[.slice A n c, .slice A' n' c', .slice A2 n2 c2] w (RetB (.bool true) w) := by
  by_cases hbig : 300 < n
  · go_enter Try.func8, Try.ntmps8
    go_wp2_with (go_at_call 28; refine alive15.mono ?_; rintro e w1 ⟨rfl, hb⟩)
    go_ret
    exact ⟨rfl, hb⟩
  · by_cases hbig2 : 300 < n'
    · go_enter Try.func8, Try.ntmps8
      go_wp2_with (go_at_call 28; refine alive15.mono ?_; rintro e w1 ⟨rfl, hb⟩)
      go_ret
      exact ⟨rfl, hb⟩
    · by_cases hbig3 : 300 < n2
      · go_enter Try.func8, Try.ntmps8
        go_wp2_with (go_at_call 28; refine alive15.mono ?_; rintro e w1 ⟨rfl, hb⟩)
        go_ret
        exact ⟨rfl, hb⟩
      · have hdl := digF_len xs
        have hda := Lib.hid (digF_all xs)
        have hln := hs.len
        have e1 := likeL_self (lrdL xs)
        have e2 := likeL_self (digF xs)
        have HF := Lib.hid (fun (M : List Int) (k : Nat) (h : Mix (digF xs) M k) (hk : (digF xs).length ≤ k) => h.fin (bs := bs) hk)
        have hD := p15_Digits hs (by omega)
        obtain ⟨ds, hds⟩ : ∃ ds, digF xs = ds := ⟨_, rfl⟩
        rw [hds] at hdl hda e2 HF hD
        clear hds
        go_enter Try.func8, Try.ntmps8
        go_wp2_with fail
        refine hD.mono ?_
        rintro e w1 ⟨v1, rfl, ho1, hb1⟩
        obtain ⟨A1, n1, c1, rfl, hs1⟩ := ho1.sl
        have hl1 := hs1.len
        clear ho1 hD
        by_cases hmx : n1 < n'
        all_goals
          go_wp2
          go_loopw [8, 33] (fun v i wr => ∃ (k : Nat) (M : List Int), (k ≤ n1 ∨ k ≤ n') ∧ i = .int .i64 k ∧ Own wr w1.heap.size 5 .u8 v M ∧ M.length ≤ 2 * k ∧ Hid (Mix ds M k) ∧ Below w1.heap.size w1 wr) (fun _ i _ => n1 + n' - (intOf i).toNat)
          case atStart => exact ⟨0, [], by omega, rfl, Own.nil _ _ _ _, by simp, Mix.start ds, Below.refl _ _⟩
          case round =>
            obtain ⟨k, M, hk, rfl, ho, hMl, hI, hbel⟩ := hrel
            have hz := hbel.size
            by_cases h2 : k < n1
            · obtain ⟨b3, o3, y, rfl, hb3, hcell30, hwf3, hdy, hty⟩ := hs1.get h2
              have hcell3 := (hbel.cell (p := ⟨b3, o3 + k, none⟩) hb3).trans hcell30
              have hym : y ∈ ds := by
                have : y ∈ ds.drop k := by rw [hdy]; simp
                exact List.mem_of_mem_drop this
              have HD := Lib.hid (fun (M : List Int) (h : Mix ds M k) => h.d hda.out hym hty)
              clear hdy hty hym
              by_cases h1 : k < n'
              · obtain ⟨b4, o4, x, rfl, hb4, hcell4, hwf4, _, _⟩ := ((ht.bel hb1).bel hbel).get h1
                by_cases h61 : x = 61
                · subst h61
                  go_wp2_with (at_builtin; refine wpList_app rfl rfl eltB (by decide) rfl rfl (ho.alloc _) (Sl.one _ _ _ _ hwf3) (hbel.alloc hz _) (by refine ⟨?_, ?_⟩ <;> first | omega | (simp; done) | (simp; omega)) (by first | omega | (simp; done) | (simp; omega)) ?_; intro v5 w5 ho5 hb5 hg5)
                  (first | (go_roundw; (case rel => exact ⟨k + 1, _, by omega, by go_num, ho5, by simp; omega, HD.out _ hI.out, hb5⟩); (case measure => first | (simp [intOf] <;> omega) | (simp [lenOf] <;> omega))) | (refine ⟨?_, ?measure⟩; (repeat apply Exists.intro); refine ⟨?rel, ?eqs⟩; (case eqs => first | rfl | ((repeat (refine ⟨rfl, ?_⟩)); rfl)); (case rel => exact ⟨k + 1, _, by omega, by go_num, ho5, by simp; omega, HD.out _ hI.out, hb5⟩); (case measure => first | (simp [intOf] <;> omega) | (simp [lenOf] <;> omega))) | ((repeat apply Exists.intro); refine ⟨?rel, ?eqs⟩; (case eqs => first | rfl | ((repeat (refine ⟨rfl, ?_⟩)); rfl)); (case rel => exact ⟨k + 1, _, by omega, by go_num, ho5, by simp; omega, HD.out _ hI.out, hb5⟩)))
                · have h61' : (x == 61) = false := by simpa using h61
                  have hv := r14_Value (c := x) (w := wr)
                  cases hxd : isD x with
                  | true =>
                    rw [hxd] at hv
                    have HV := Lib.hid hv
                    clear hv hxd
                    go_wp2_with (first | (go_at_call 14; refine HV.out.mono ?_; rintro e w' ⟨rfl, rfl⟩) | (at_builtin; refine wpList_app rfl rfl eltB (by decide) rfl rfl (ho.alloc _) (Sl.one _ _ _ _ hwf3) (hbel.alloc hz _) (by refine ⟨?_, ?_⟩ <;> first | omega | (simp; done) | (simp; omega)) (by first | omega | (simp; done) | (simp; omega)) ?_; intro v5 w5 ho5 hb5 hg5))
                    (first | (go_roundw; (case rel => exact ⟨k + 1, _, by omega, by go_num, ho5, by simp; omega, HD.out _ hI.out, hb5⟩); (case measure => first | (simp [intOf] <;> omega) | (simp [lenOf] <;> omega))) | (refine ⟨?_, ?measure⟩; (repeat apply Exists.intro); refine ⟨?rel, ?eqs⟩; (case eqs => first | rfl | ((repeat (refine ⟨rfl, ?_⟩)); rfl)); (case rel => exact ⟨k + 1, _, by omega, by go_num, ho5, by simp; omega, HD.out _ hI.out, hb5⟩); (case measure => first | (simp [intOf] <;> omega) | (simp [lenOf] <;> omega))) | ((repeat apply Exists.intro); refine ⟨?rel, ?eqs⟩; (case eqs => first | rfl | ((repeat (refine ⟨rfl, ?_⟩)); rfl)); (case rel => exact ⟨k + 1, _, by omega, by go_num, ho5, by simp; omega, HD.out _ hI.out, hb5⟩)))
                  | false =>
                    rw [hxd] at hv
                    have HV := Lib.hid hv
                    have HM := Lib.hid (HD.out _ (hI.out.o h61 hxd))
                    clear hv hxd
                    go_wp2_with (first | (go_at_call 14; refine HV.out.mono ?_; rintro e w' ⟨rfl, rfl⟩) | (at_builtin; refine wpList_app rfl rfl eltB (by decide) rfl rfl (ho5.alloc _) (Sl.one _ _ _ _ hwf3) (hb5.alloc hz5 _) (by refine ⟨?_, ?_⟩ <;> first | omega | (simp; done) | (simp; omega)) (by first | omega | (simp; done) | (simp; omega)) ?_; intro v6 w6 ho6 hb6 hg6) | ((at_builtin; refine wpList_app rfl rfl eltB (by decide) rfl rfl (ho.alloc _) (Sl.one _ _ _ _ hwf4) (hbel.alloc hz _) (by refine ⟨?_, ?_⟩ <;> first | omega | (simp; done) | (simp; omega)) (by first | omega | (simp; done) | (simp; omega)) ?_; intro v5 w5 ho5 hb5 hg5); have hz5 := hb5.size; have hcell35 := (hb5.cell (p := ⟨b3, o3 + k, none⟩) hb3).trans hcell30; have hl5 : (M ++ [x]).length ≤ 2000 := by (simp; omega)))
                    (first | (go_roundw; (case rel => exact ⟨k + 1, _, by omega, by go_num, ho6, by simp; omega, HM.out, hb6⟩); (case measure => first | (simp [intOf] <;> omega) | (simp [lenOf] <;> omega))) | (refine ⟨?_, ?measure⟩; (repeat apply Exists.intro); refine ⟨?rel, ?eqs⟩; (case eqs => first | rfl | ((repeat (refine ⟨rfl, ?_⟩)); rfl)); (case rel => exact ⟨k + 1, _, by omega, by go_num, ho6, by simp; omega, HM.out, hb6⟩); (case measure => first | (simp [intOf] <;> omega) | (simp [lenOf] <;> omega))) | ((repeat apply Exists.intro); refine ⟨?rel, ?eqs⟩; (case eqs => first | rfl | ((repeat (refine ⟨rfl, ?_⟩)); rfl)); (case rel => exact ⟨k + 1, _, by omega, by go_num, ho6, by simp; omega, HM.out, hb6⟩)))
              · first
                | (exfalso; omega)
                | (go_wp2_with (at_builtin; refine wpList_app rfl rfl eltB (by decide) rfl rfl (ho.alloc _) (Sl.one _ _ _ _ hwf3) (hbel.alloc hz _) (by refine ⟨?_, ?_⟩ <;> first | omega | (simp; done) | (simp; omega)) (by first | omega | (simp; done) | (simp; omega)) ?_; intro v5 w5 ho5 hb5 hg5)
                   (first | (go_roundw; (case rel => exact ⟨k + 1, _, by omega, by go_num, ho5, by simp; omega, HD.out _ hI.out, hb5⟩); (case measure => first | (simp [intOf] <;> omega) | (simp [lenOf] <;> omega))) | (refine ⟨?_, ?measure⟩; (repeat apply Exists.intro); refine ⟨?rel, ?eqs⟩; (case eqs => first | rfl | ((repeat (refine ⟨rfl, ?_⟩)); rfl)); (case rel => exact ⟨k + 1, _, by omega, by go_num, ho5, by simp; omega, HD.out _ hI.out, hb5⟩); (case measure => first | (simp [intOf] <;> omega) | (simp [lenOf] <;> omega))) | ((repeat apply Exists.intro); refine ⟨?rel, ?eqs⟩; (case eqs => first | rfl | ((repeat (refine ⟨rfl, ?_⟩)); rfl)); (case rel => exact ⟨k + 1, _, by omega, by go_num, ho5, by simp; omega, HD.out _ hI.out, hb5⟩))))
            · by_cases h1 : k < n'
              · first
                | (exfalso; omega)
                | (skip
                   obtain ⟨b4, o4, x, rfl, hb4, hcell4, hwf4, _, _⟩ := ((ht.bel hb1).bel hbel).get h1
                   have HD := Lib.hid (fun (M : List Int) (h : Mix ds M k) => h.skip (by omega))
                   by_cases h61 : x = 61
                   · subst h61
                     go_wp2
                     (first | (go_roundw; (case rel => exact ⟨k + 1, _, by omega, by go_num, ho, by omega, HD.out _ hI.out, hbel⟩); (case measure => first | (simp [intOf] <;> omega) | (simp [lenOf] <;> omega))) | (refine ⟨?_, ?measure⟩; (repeat apply Exists.intro); refine ⟨?rel, ?eqs⟩; (case eqs => first | rfl | ((repeat (refine ⟨rfl, ?_⟩)); rfl)); (case rel => exact ⟨k + 1, _, by omega, by go_num, ho, by omega, HD.out _ hI.out, hbel⟩); (case measure => first | (simp [intOf] <;> omega) | (simp [lenOf] <;> omega))) | ((repeat apply Exists.intro); refine ⟨?rel, ?eqs⟩; (case eqs => first | rfl | ((repeat (refine ⟨rfl, ?_⟩)); rfl)); (case rel => exact ⟨k + 1, _, by omega, by go_num, ho, by omega, HD.out _ hI.out, hbel⟩)))
                   · have h61' : (x == 61) = false := by simpa using h61
                     have hv := r14_Value (c := x) (w := wr)
                     cases hxd : isD x with
                     | true =>
                       rw [hxd] at hv
                       have HV := Lib.hid hv
                       clear hv hxd
                       go_wp2_with (go_at_call 14; refine HV.out.mono ?_; rintro e w' ⟨rfl, rfl⟩)
                       (first | (go_roundw; (case rel => exact ⟨k + 1, _, by omega, by go_num, ho, by omega, HD.out _ hI.out, hbel⟩); (case measure => first | (simp [intOf] <;> omega) | (simp [lenOf] <;> omega))) | (refine ⟨?_, ?measure⟩; (repeat apply Exists.intro); refine ⟨?rel, ?eqs⟩; (case eqs => first | rfl | ((repeat (refine ⟨rfl, ?_⟩)); rfl)); (case rel => exact ⟨k + 1, _, by omega, by go_num, ho, by omega, HD.out _ hI.out, hbel⟩); (case measure => first | (simp [intOf] <;> omega) | (simp [lenOf] <;> omega))) | ((repeat apply Exists.intro); refine ⟨?rel, ?eqs⟩; (case eqs => first | rfl | ((repeat (refine ⟨rfl, ?_⟩)); rfl)); (case rel => exact ⟨k + 1, _, by omega, by go_num, ho, by omega, HD.out _ hI.out, hbel⟩)))
                     | false =>
                       rw [hxd] at hv
                       have HV := Lib.hid hv
                       have HM := Lib.hid (HD.out _ (hI.out.o h61 hxd))
                       clear hv hxd
                       go_wp2_with (first | (go_at_call 14; refine HV.out.mono ?_; rintro e w' ⟨rfl, rfl⟩) | (at_builtin; refine wpList_app rfl rfl eltB (by decide) rfl rfl (ho.alloc _) (Sl.one _ _ _ _ hwf4) (hbel.alloc hz _) (by refine ⟨?_, ?_⟩ <;> first | omega | (simp; done) | (simp; omega)) (by first | omega | (simp; done) | (simp; omega)) ?_; intro v5 w5 ho5 hb5 hg5))
                       (first | (go_roundw; (case rel => exact ⟨k + 1, _, by omega, by go_num, ho5, by simp; omega, HM.out, hb5⟩); (case measure => first | (simp [intOf] <;> omega) | (simp [lenOf] <;> omega))) | (refine ⟨?_, ?measure⟩; (repeat apply Exists.intro); refine ⟨?rel, ?eqs⟩; (case eqs => first | rfl | ((repeat (refine ⟨rfl, ?_⟩)); rfl)); (case rel => exact ⟨k + 1, _, by omega, by go_num, ho5, by simp; omega, HM.out, hb5⟩); (case measure => first | (simp [intOf] <;> omega) | (simp [lenOf] <;> omega))) | ((repeat apply Exists.intro); refine ⟨?rel, ?eqs⟩; (case eqs => first | rfl | ((repeat (refine ⟨rfl, ?_⟩)); rfl)); (case rel => exact ⟨k + 1, _, by omega, by go_num, ho5, by simp; omega, HM.out, hb5⟩))))
              · have hfin := HF.out M k hI.out (by omega)
                have hR := fun (W : World) (A : Option Addr) (m c : Nat) (h : Sl W .u8 A m c (M ++ [61] ++ bs)) (hm : m ≤ 16777216) => p15_Read h hm
                have hG := fun (W : World) (A : Option Addr) (m c : Nat) (h : Sl W .u8 A m c (M ++ [61] ++ bs)) (hm : m ≤ 16777216) => p15_Digits h hm
                rw [hfin.2] at hR
                rw [hfin.1] at hG
                have HR := Lib.hid hR; have HG := Lib.hid hG
                clear hR hG hfin hI
                have hb2' := (hb.bel hb1).bel hbel
                go_wp2_with (first | (at_builtin; refine wpList_app rfl rfl eltB (by decide) rfl rfl ho5 (hb2.bel hb5) hb5 (by refine ⟨?_, ?_⟩ <;> first | omega | (simp; done) | (simp; omega)) (by first | omega | (simp; done) | (simp; omega)) ?_; intro v6 w6 ho6 hb6 hg6) | ((at_builtin; refine wpList_app rfl rfl eltB (by decide) rfl rfl (ho.alloc _) (Sl.one _ _ _ _ (by decide)) (hbel.alloc hz _) (by refine ⟨?_, ?_⟩ <;> first | omega | (simp; done) | (simp; omega)) (by first | omega | (simp; done) | (simp; omega)) ?_; intro v5 w5 ho5 hb5 hg5); have hz5 := hb5.size; have hb2 := hb.bel hb1; have hl5 : (M ++ [61]).length ≤ 2000 := by (simp; omega)))
                obtain ⟨A6, n6, c6, rfl, hs6⟩ := ho6.sl
                have hl6 := hs6.len
                simp only [List.length_append] at hl6
                have hbl := hb.len
                have hB6 := below_then hb1 hb6
                have hs16 := hs1.bel hb6
                clear ho5 ho6 hg5 hg6 hb2'
                refine (HR.out _ _ _ _ hs6 (by simp only [List.length_cons, List.length_nil] at hl6; omega)).mono ?_
                rintro e w7 ⟨v7, rfl, ho7, hb7⟩
                obtain ⟨A7, n7, c7, rfl, hs7⟩ := ho7.sl
                clear ho7
                have hB7 := below_then hB6 hb7
                go_wp2_with fail
                refine (p15_Read (hs.bel hB7) (by omega)).mono ?_
                rintro e w8 ⟨v8, rfl, ho8, hb8⟩
                obtain ⟨A8, n8, c8, rfl, hs8⟩ := ho8.sl
                clear ho8
                have hB8 := below_then hB7 hb8
                have hb68 := below_then hb7 hb8
                go_wp2_with fail
                refine (r01_Like (hs7.bel hb8) hs8).mono ?_
                rw [e1]
                rintro e w9 ⟨rfl, hb9⟩
                have hB9 := below_then hB8 hb9
                have hb69 := below_then hb68 hb9
                go_wp2_with fail
                refine (HG.out _ _ _ _ (hs6.bel hb69) (by simp only [List.length_cons, List.length_nil] at hl6; omega)).mono ?_
                rintro e wa ⟨va, rfl, hoa, hba⟩
                obtain ⟨Aa, na, ca, rfl, hsa⟩ := hoa.sl
                clear hoa
                have hBa := below_then hB9 hba
                go_wp2_with fail
                refine (r01_Like hsa ((hs16.bel hb69).bel hba)).mono ?_
                rw [e2]
                rintro e wb ⟨rfl, hbb⟩
                have hBb := below_then hBa hbb
                go_wp2_with fail
                refine alive15.mono ?_
                rintro e wc ⟨rfl, hbc⟩
                go_wp2
                go_ret
                exact ⟨rfl, below_then hBb hbc⟩
end Go.Proofs.Ytonellflklaggaa
