/- Layer 01 (octet): texts folded and trimmed: what the functions of the program and of the reference return; the laws' own alive. Conditions: the arguments read as lists; lengths at most 2^30. -/
import Derived.Test.YtkphnhbblbamgaaDoor01S
import Derived.Lib.SlBytesConst
namespace Go.Proofs.YtkphnhbblbamgaaDoor
open Go.RowKit

def fldL (xs : List Int) : List Int := xs.map lowL
theorem fld_fld (xs : List Int) : fldL (fldL xs) = fldL xs := by unfold fldL; rw [List.map_map]; congr 1; funext x; exact lowL_low x
theorem fld_len (xs : List Int) : (fldL xs).length = xs.length := List.length_map _
set_option maxRecDepth 100000 in
set_option maxHeartbeats 1000000 in
theorem p01_Fold {A n c xs} {w : World} (hs : Sl w .u8 A n c xs) (hn : n ≤ 1073741824) : Calls Tryd.prog 20 #[.slice A n c] w (RetOwn id 5 .u8 (fldL xs) w) := by
  go_enter Tryd.func20, Tryd.ntmps20
  go_wp2_with fail
  refine (lib_BClone hs hn).mono ?_
  rintro e w1 ⟨v, rfl, ho, hb1⟩
  obtain ⟨A1, n1, c1, rfl, hs1⟩ := ho.sl
  have hz := hb1.size
  have HL := Lib.hid hs1.len; have hle := hs1.le; have hcm := hs1.cm; unfold maxLen at hcm
  go_wp2
  go_loopw [10] (fun i wr => ∃ k : Nat, k ≤ n1 ∧ i = .int .i64 k ∧ Own wr w.heap.size 5 .u8 (.slice A1 n1 c1) (mapAt lowL xs k) ∧ Below w.heap.size w wr) (fun i _ => n1 - (intOf i).toNat)
  case atStart => exact ⟨0, Nat.zero_le _, rfl, by rw [mapAt_zero]; exact ho, hb1⟩
  case round =>
    obtain ⟨k, hk, rfl, hok, hbel⟩ := hrel
    by_cases hlt : k < n1
    · obtain ⟨x, hwf, hd, ht⟩ := hs1.el hlt
      obtain ⟨g, rfl, hg, hgl, hcell, hfr, hst⟩ := hok.at_ (j := k) (by rw [mapAt_length]; have := HL.out; omega)
      rw [mapAt_get hd] at hcell
      have HD := Lib.hid hd; clear hd
      have HT := Lib.hid ht; clear ht
      have HST := Lib.hid hst; clear hst
      go_wp2_with (go_at_call 13; refine (p01_Lower hwf).mono ?_; rintro e w' ⟨rfl, rfl⟩)
      (first | (go_roundw; (case rel => exact ⟨k + 1, by omega, by go_num, by have := HST.out _ (lowL_wf hwf); rw [← mapAt_set HD.out HT.out]; exact this, hbel.setCell hg _⟩); (case measure => first | (simp [intOf] <;> omega) | (simp [lenOf] <;> omega))) | (refine ⟨?_, ?measure⟩; (repeat apply Exists.intro); refine ⟨?rel, ?eqs⟩; (case eqs => first | rfl | ((repeat (refine ⟨rfl, ?_⟩)); rfl)); (case rel => exact ⟨k + 1, by omega, by go_num, by have := HST.out _ (lowL_wf hwf); rw [← mapAt_set HD.out HT.out]; exact this, hbel.setCell hg _⟩); (case measure => first | (simp [intOf] <;> omega) | (simp [lenOf] <;> omega))) | ((repeat apply Exists.intro); refine ⟨?rel, ?eqs⟩; (case eqs => first | rfl | ((repeat (refine ⟨rfl, ?_⟩)); rfl)); (case rel => exact ⟨k + 1, by omega, by go_num, by have := HST.out _ (lowL_wf hwf); rw [← mapAt_set HD.out HT.out]; exact this, hbel.setCell hg _⟩)))
    · go_wp2
      go_ret
      exact ⟨_, rfl, by rw [mapAt_all _ _ _ (by have := HL.out; omega)] at hok; exact hok, hbel⟩
set_option maxRecDepth 100000 in
set_option maxHeartbeats 1000000 in
theorem r01_Fold {A n c xs} {w : World} (hs : Sl w .u8 A n c xs) (hn : n ≤ 1073741824) : Calls Tryd.prog 21 #[.slice A n c] w (RetOwn id 5 .u8 (fldL xs) w) := by
  have HL := Lib.hid hs.len
  go_enter Tryd.func21, Tryd.ntmps21
  go_wp2
  go_loopw [3, 4] (fun v i wr => ∃ k : Nat, k ≤ n ∧ i = .int .i64 k ∧ Own wr w.heap.size 5 .u8 v (fldL (xs.take k)) ∧ Below w.heap.size w wr) (fun _ i _ => n - (intOf i).toNat)
  case atStart => exact ⟨0, Nat.zero_le _, rfl, Own.nil _ _ _ _, Below.refl _ _⟩
  case round =>
    obtain ⟨k, hk, rfl, ho, hbel⟩ := hrel
    have hz := hbel.size
    by_cases hlt : k < n
    · obtain ⟨b, o, x, rfl, hb, hcell0, hwf, hd, ht⟩ := hs.get hlt
      have hcell := (hbel.cell (p := ⟨b, o + k, none⟩) hb).trans hcell0
      have HE := Lib.hid (show fldL (xs.take (k + 1)) = fldL (xs.take k) ++ [lowL x] by unfold fldL; rw [ht, List.map_append]; rfl)
      have hlw := lowL_wf hwf
      have hkl : (fldL (xs.take k)).length ≤ k := by rw [fld_len, List.length_take]; omega
      clear hd ht hcell0
      go_wp2_with (first | (go_at_call 14; refine (r01_Lower hwf).mono ?_; rintro e w' ⟨rfl, rfl⟩) | (at_builtin; refine wpList_app rfl rfl eltB (by decide) rfl rfl (ho.alloc _) (Sl.one _ _ _ _ hlw) (hbel.alloc hz _) (by refine ⟨?_, ?_⟩ <;> first | omega | (simp; done) | (simp; omega)) (by first | omega | (simp; done) | (simp; omega)) ?_; intro v1 w2 ho1 hb2 hg1))
      (first | (go_roundw; (case rel => exact ⟨k + 1, by omega, by go_num, by rw [HE.out]; exact ho1, hb2⟩); (case measure => first | (simp [intOf] <;> omega) | (simp [lenOf] <;> omega))) | (refine ⟨?_, ?measure⟩; (repeat apply Exists.intro); refine ⟨?rel, ?eqs⟩; (case eqs => first | rfl | ((repeat (refine ⟨rfl, ?_⟩)); rfl)); (case rel => exact ⟨k + 1, by omega, by go_num, by rw [HE.out]; exact ho1, hb2⟩); (case measure => first | (simp [intOf] <;> omega) | (simp [lenOf] <;> omega))) | ((repeat apply Exists.intro); refine ⟨?rel, ?eqs⟩; (case eqs => first | rfl | ((repeat (refine ⟨rfl, ?_⟩)); rfl)); (case rel => exact ⟨k + 1, by omega, by go_num, by rw [HE.out]; exact ho1, hb2⟩)))
    · go_wp2
      go_ret
      exact ⟨_, rfl, by rw [List.take_of_length_le (by have := HL.out; omega)] at ho; exact ho, hbel⟩
set_option maxRecDepth 100000 in
set_option maxHeartbeats 1000000 in
theorem p01_Same {A n c xs A' n' c' ys} {w : World} (hs : Sl w .u8 A n c xs) (ht : Sl w .u8 A' n' c' ys) (hn : n ≤ 1073741824) (hn' : n' ≤ 1073741824) : Calls Tryd.prog 24 #[.slice A n c, .slice A' n' c'] w (RetB (.bool (likeL (fldL xs) (fldL ys))) w) := by
  go_enter Tryd.func24, Tryd.ntmps24
  go_wp2_with fail
  refine (p01_Fold hs hn).mono ?_
  rintro e w1 ⟨v1, rfl, ho1, hb1⟩
  obtain ⟨A1, n1, c1, rfl, hs1⟩ := ho1.sl
  clear ho1
  go_wp2_with fail
  refine (p01_Fold (ht.bel hb1) hn').mono ?_
  rintro e w2 ⟨v2, rfl, ho2, hb2⟩
  obtain ⟨A2, n2, c2, rfl, hs2⟩ := ho2.sl
  clear ho2
  go_wp2_with fail
  refine (lib_BEqual (hs1.bel hb2) hs2).mono ?_
  rintro e w' ⟨rfl, rfl⟩
  go_wp2
  go_ret
  exact ⟨rfl, below_then hb1 hb2⟩
set_option maxRecDepth 100000 in
set_option maxHeartbeats 1000000 in
theorem p01_Trim {A n c xs} {w : World} (hs : Sl w .u8 A n c xs) (hn : n ≤ 1073741824) : Calls Tryd.prog 22 #[.slice A n c] w (RetOwn id 5 .u8 (tbL xs) w) := by
  have hl := tbL_len xs
  rw [hs.len] at hl
  go_enter Tryd.func22, Tryd.ntmps22
  go_wp2_with fail
  refine (lib_Trim hs).mono ?_
  rintro e w1 ⟨A1, n1, c1, rfl, hs1, hb1⟩
  have hl1 := hs1.len
  go_wp2_with fail
  refine (lib_BClone hs1 (by omega)).mono ?_
  rintro e w2 ⟨v2, rfl, ho2, hb2⟩
  go_wp2
  go_ret
  exact ⟨_, rfl, ho2.mono hb1.size, below_then hb1 hb2⟩

set_option maxRecDepth 100000 in
set_option maxHeartbeats 2000000 in
theorem r01_Trim {A n c xs} {w : World} (hs : Sl w .u8 A n c xs) : Calls Tryd.prog 23 #[.slice A n c] w (RetRd (tbL xs) w) := by
  have HL := Lib.hid hs.len
  have hle := hs.le
  have hcm := hs.cm
  unfold maxLen at hcm
  go_enter Tryd.func23, Tryd.ntmps23
  go_wp2
  go_loop [3] (fun i => ∃ k : Nat, k ≤ n ∧ i = .int .i64 k ∧ Hid (ldr xs = ldr (xs.drop k))) (fun i => n - (intOf i).toNat)
  case atStart => exact ⟨0, Nat.zero_le _, rfl, rfl⟩
  case round =>
    obtain ⟨k, hk, rfl, hI⟩ := hrel
    have hex : (k < n ∧ ∃ b o x, A = some ⟨b, o, none⟩ ∧ w.cell? ⟨b, o + k, none⟩ = some (.int .u8 x) ∧ (Lit.int .u8 x).wf = true ∧ blkB x = true ∧ Hid (ldr xs = ldr (xs.drop (k + 1)))) ∨ (Hid (ldr xs = xs.drop k) ∧ (k = n ∨ (k < n ∧ ∃ b o x, A = some ⟨b, o, none⟩ ∧ w.cell? ⟨b, o + k, none⟩ = some (.int .u8 x) ∧ (Lit.int .u8 x).wf = true ∧ blkB x = false))) := by
      by_cases hlt : k < n
      · obtain ⟨b, o, x, hA, hb, hcell, hwf, hd, ht⟩ := hs.get hlt
        cases hx : blkB x with
        | true => exact .inl ⟨hlt, b, o, x, hA, hcell, hwf, hx, by show _ = _; rw [hI.out, hd, ldr_yes hx]⟩
        | false => exact .inr ⟨by show _ = _; rw [hI.out, hd, ldr_no hx], .inr ⟨hlt, b, o, x, hA, hcell, hwf, hx⟩⟩
      · obtain rfl : k = n := by omega
        exact .inr ⟨by show _ = _; rw [hI.out, List.drop_eq_nil_of_le (by have := HL.out; omega)]; rfl, .inl rfl⟩
    clear hI
    rcases hex with ⟨hlt, b, o, x, rfl, hcell, hwf, hx, hI⟩ | ⟨hI, hend⟩
    · have hv := r01_Is (k := 2) (w := w) hwf
      have hw8 := wf_u8.1 hwf
      rw [isL2 hw8, hx] at hv
      have HV := Lib.hid hv
      clear hv hx
      go_wp2_with (go_at_call 12; refine HV.out.mono ?_; rintro e w' ⟨rfl, rfl⟩)
      (go_round; (case rel => exact ⟨k + 1, by omega, by go_num, hI⟩); (case measure => first | (simp [intOf] <;> omega) | (simp [lenOf] <;> omega)))
    · have hkl : k ≤ xs.length := by have := HL.out; omega
      have hfin : ∀ m : Nat, k ≤ m → m ≤ n → ((k < m ∧ ∃ b o x, A = some ⟨b, o, none⟩ ∧ w.cell? ⟨b, o + (m - 1), none⟩ = some (.int .u8 x) ∧ (Lit.int .u8 x).wf = true ∧ ((blkB x = true ∧ rdr ((xs.take m).drop k) = rdr ((xs.take (m - 1)).drop k)) ∨ (blkB x = false ∧ rdr ((xs.take m).drop k) = (xs.take m).drop k))) ∨ (k = m ∧ rdr ((xs.take m).drop k) = (xs.take m).drop k)) := by
        intro m h1 h2
        by_cases hlt : k < m
        · obtain ⟨b, o, x, hA, hb, hcell, hwf, hd, ht⟩ := hs.get (j := m - 1) (by omega)
          refine .inl ⟨hlt, b, o, x, hA, hcell, hwf, ?_⟩
          rw [show m - 1 + 1 = m from by omega] at ht
          have e : (xs.take m).drop k = (xs.take (m - 1)).drop k ++ [x] := by
            rw [ht, List.drop_append_of_le_length (by rw [List.length_take]; have := HL.out; omega)]
          rw [e, rdr_snoc]
          cases hx : blkB x with
          | true => exact .inl ⟨rfl, rfl⟩
          | false => exact .inr ⟨rfl, rfl⟩
        · obtain rfl : k = m := by omega
          refine .inr ⟨rfl, ?_⟩
          rw [List.drop_eq_nil_of_le (by rw [List.length_take]; omega)]; rfl
      have HFIN := Lib.hid hfin
      have HT : Hid (tbL xs = rdr ((xs.take n).drop k)) := by
        show _ = _
        unfold tbL
        rw [hI.out, List.take_of_length_le (by have := HL.out; omega)]
      clear hfin hI
      rcases hend with hkn | ⟨hlt, b, o, x, hA, hcell, hwf, hx⟩
      · subst hkn
        have HE : Hid (tbL xs = []) := by
          show _ = _
          rw [HT.out, List.drop_eq_nil_of_le (by rw [List.length_take]; omega)]; rfl
        clear HFIN HT
        go_wp2
        go_loop [4] (fun j => j = .int .i64 k) (fun j => (intOf j).toNat)
        case atStart => rfl
        case round =>
          subst hrel
          by_cases hck : c = k
          · subst hck
            go_wp2
            go_ret
            exact ⟨_, _, _, rfl, by rw [HE.out]; exact Sl.none_, Below.refl _ _⟩
          · go_wp2
            go_ret
            have h9 := hs.cut (lo := k) (hi := k) (m := 0) (c' := c - k) (Nat.le_refl _) (Nat.le_refl _) (by omega) rfl
            rw [List.drop_eq_nil_of_le (by rw [List.length_take]; omega)] at h9
            exact ⟨_, _, _, rfl, by rw [HE.out]; exact h9, Below.refl _ _⟩
      · subst hA
        have hv := r01_Is (k := 2) (w := w) hwf
        rw [isL2 (wf_u8.1 hwf), hx] at hv
        have HV := Lib.hid hv
        clear hv hx
        go_wp2_with (go_at_call 12; refine HV.out.mono ?_; rintro e w' ⟨rfl, rfl⟩)
        clear hcell HV hwf
        go_loop [4] (fun j => ∃ m : Nat, k ≤ m ∧ m ≤ n ∧ j = .int .i64 m ∧ Hid (tbL xs = rdr ((xs.take m).drop k))) (fun j => (intOf j).toNat)
        case atStart => exact ⟨n, by omega, Nat.le_refl _, rfl, HT.out⟩
        case round =>
          clear HT
          obtain ⟨m, hm1, hm2, rfl, hJ⟩ := hrel
          rcases HFIN.out m hm1 hm2 with ⟨hkm, b2, o2, y, hA2, hcell, hwf, hy⟩ | ⟨hkm, hy⟩
          · injection hA2 with hA2; injection hA2 with e1 e2 _
            subst e1; subst e2
            have hc2 : o + (m - 1) = o + m - 1 := by omega
            have hm3 : ((m : Int) - 1) = ((m - 1 : Nat) : Int) := by omega
            have hv := r01_Is (k := 2) (w := w) hwf
            rw [isL2 (wf_u8.1 hwf)] at hv
            rcases hy with ⟨hy, hr⟩ | ⟨hy, hr⟩
            · rw [hy] at hv
              have HV := Lib.hid hv
              have HJ : Hid (tbL xs = rdr ((xs.take (m - 1)).drop k)) := by show _ = _; rw [hJ.out, hr]
              clear hv hy hr hJ hc2
              go_wp2_with (go_at_call 12; refine HV.out.mono ?_; rintro e w' ⟨rfl, rfl⟩)
              (go_round; (case rel => exact ⟨m - 1, by omega, by omega, by go_num, HJ⟩); (case measure => first | (simp [intOf] <;> omega) | (simp [lenOf] <;> omega)))
            · rw [hy] at hv
              have HV := Lib.hid hv
              have HE : Hid (tbL xs = (xs.take m).drop k) := by show _ = _; rw [hJ.out, hr]
              have hck : ¬ c = k := by omega
              have hcut := hs.cutAt (lo := k) (hi := m) (m := m - k) (c' := c - k) hm1 hm2 rfl rfl
              have hmc : m ≤ c := by omega
              clear hv hy hr hJ hc2
              go_wp2_with (go_at_call 12; refine HV.out.mono ?_; rintro e w' ⟨rfl, rfl⟩)
              go_ret
              exact ⟨_, _, _, rfl, by rw [HE.out]; exact hcut, Below.refl _ _⟩
          · subst hkm
            have HE : Hid (tbL xs = (xs.take k).drop k) := by show _ = _; rw [hJ.out, hy]
            have hck : ¬ c = k := by omega
            have hcut := hs.cutAt (lo := k) (hi := k) (m := 0) (c' := c - k) hm1 hm2 (by omega) rfl
            have hmc : k ≤ c := by omega
            clear hy hJ
            go_wp2
            go_ret
            exact ⟨_, _, _, rfl, by rw [HE.out]; exact hcut, Below.refl _ _⟩
end Go.Proofs.YtkphnhbblbamgaaDoor
