/- Layer 01 (octet): texts folded: what the functions of the program and of the reference return. Conditions: the argument reads as a list; lengths at most 2^30. -/
import Derived.Test.Ytjiofcnlibkhkaa01Q
import Derived.Test.YtjiofcnlibkhkaaLibC
import Derived.Lib.SlBytesConst
namespace Go.Proofs.Ytjiofcnlibkhkaa
open Go.RowKit

def fldL (xs : List Int) : List Int := xs.map lowL
theorem fld_fld (xs : List Int) : fldL (fldL xs) = fldL xs := by unfold fldL; rw [List.map_map]; congr 1; funext x; exact lowL_low x
theorem fld_len (xs : List Int) : (fldL xs).length = xs.length := List.length_map _
set_option maxRecDepth 100000 in
set_option maxHeartbeats 1000000 in
theorem p01_Fold {A n c xs} {w : World} (hs : Sl w .u8 A n c xs) (hn : n ≤ 1073741824) : Calls Try.prog 57 #[.slice A n c] w (RetOwn id 5 .u8 (fldL xs) w) := by
  go_enter Try.func57, Try.ntmps57
  go_wp2_with fail
  refine (lib_BClone hs hn).mono ?_
  rintro e w1 ⟨v, rfl, ho, hb1⟩
  obtain ⟨A1, n1, c1, rfl, hs1⟩ := ho.sl
  have hz := hb1.size
  have HL := Lib.hid hs1.len; have hle := hs1.le; have hcm := hs1.cm; unfold maxLen at hcm
  go_wp2
  go_loopw [10] (fun i wr => ∃ k : Nat, k ≤ n1 ∧ i = .int .i64 k ∧ Own wr w.heap.size 5 .u8 (.slice A1 n1 c1) (mapAt lowL xs k) ∧ Below w.heap.size w wr) (fun i _ => n1 - (intOf i).toNat)
  case atStart => exact ⟨0, Nat.zero_le _, rfl, by rw [mapAt_zero]; exact ho, hb1⟩
  case round =>
    obtain ⟨k, hk, rfl, hok, hbel⟩ := hrel
    by_cases hlt : k < n1
    · obtain ⟨x, hwf, hd, ht⟩ := hs1.el hlt
      obtain ⟨g, rfl, hg, hgl, hcell, hfr, hst⟩ := hok.at_ (j := k) (by rw [mapAt_length]; have := HL.out; omega)
      rw [mapAt_get hd] at hcell
      have HD := Lib.hid hd; clear hd
      have HT := Lib.hid ht; clear ht
      have HST := Lib.hid hst; clear hst
      go_wp2_with (go_at_call 65; refine (p01_Lower hwf).mono ?_; rintro e w' ⟨rfl, rfl⟩)
      (first | (go_roundw; (case rel => exact ⟨k + 1, by omega, by go_num, by have := HST.out _ (lowL_wf hwf); rw [← mapAt_set HD.out HT.out]; exact this, hbel.setCell hg _⟩); (case measure => first | (simp [intOf] <;> omega) | (simp [lenOf] <;> omega))) | (refine ⟨?_, ?measure⟩; (repeat apply Exists.intro); refine ⟨?rel, ?eqs⟩; (case eqs => first | rfl | ((repeat (refine ⟨rfl, ?_⟩)); rfl)); (case rel => exact ⟨k + 1, by omega, by go_num, by have := HST.out _ (lowL_wf hwf); rw [← mapAt_set HD.out HT.out]; exact this, hbel.setCell hg _⟩); (case measure => first | (simp [intOf] <;> omega) | (simp [lenOf] <;> omega))) | ((repeat apply Exists.intro); refine ⟨?rel, ?eqs⟩; (case eqs => first | rfl | ((repeat (refine ⟨rfl, ?_⟩)); rfl)); (case rel => exact ⟨k + 1, by omega, by go_num, by have := HST.out _ (lowL_wf hwf); rw [← mapAt_set HD.out HT.out]; exact this, hbel.setCell hg _⟩)))
    · go_wp2
      go_ret
      exact ⟨_, rfl, by rw [mapAt_all _ _ _ (by have := HL.out; omega)] at hok; exact hok, hbel⟩
set_option maxRecDepth 100000 in
set_option maxHeartbeats 1000000 in
theorem r01_Fold {A n c xs} {w : World} (hs : Sl w .u8 A n c xs) (hn : n ≤ 1073741824) : Calls Try.prog 51 #[.slice A n c] w (RetOwn id 5 .u8 (fldL xs) w) := by
  have HL := Lib.hid hs.len
  go_enter Try.func51, Try.ntmps51
  go_wp2
  go_loopw [3, 4] (fun v i wr => ∃ k : Nat, k ≤ n ∧ i = .int .i64 k ∧ Own wr w.heap.size 5 .u8 v (fldL (xs.take k)) ∧ Below w.heap.size w wr) (fun _ i _ => n - (intOf i).toNat)
  case atStart => exact ⟨0, Nat.zero_le _, rfl, Own.nil _ _ _ _, Below.refl _ _⟩
  case round =>
    obtain ⟨k, hk, rfl, ho, hbel⟩ := hrel
    have hz := hbel.size
    by_cases hlt : k < n
    · obtain ⟨b, o, x, rfl, hb, hcell0, hwf, hd, ht⟩ := hs.get hlt
      have hcell := (hbel.cell (p := ⟨b, o + k, none⟩) hb).trans hcell0
      have HE := Lib.hid (show fldL (xs.take (k + 1)) = fldL (xs.take k) ++ [lowL x] by unfold fldL; rw [ht, List.map_append]; rfl)
      have hlw := lowL_wf hwf
      have hkl : (fldL (xs.take k)).length ≤ k := by rw [fld_len, List.length_take]; omega
      clear hd ht hcell0
      go_wp2_with (first | (go_at_call 60; refine (r01_Lower hwf).mono ?_; rintro e w' ⟨rfl, rfl⟩) | (at_builtin; refine wpList_app rfl rfl eltB (by decide) rfl rfl (ho.alloc _) (Sl.one _ _ _ _ hlw) (hbel.alloc hz _) (by refine ⟨?_, ?_⟩ <;> first | omega | (simp; done) | (simp; omega)) (by first | omega | (simp; done) | (simp; omega)) ?_; intro v1 w2 ho1 hb2 hg1))
      (first | (go_roundw; (case rel => exact ⟨k + 1, by omega, by go_num, by rw [HE.out]; exact ho1, hb2⟩); (case measure => first | (simp [intOf] <;> omega) | (simp [lenOf] <;> omega))) | (refine ⟨?_, ?measure⟩; (repeat apply Exists.intro); refine ⟨?rel, ?eqs⟩; (case eqs => first | rfl | ((repeat (refine ⟨rfl, ?_⟩)); rfl)); (case rel => exact ⟨k + 1, by omega, by go_num, by rw [HE.out]; exact ho1, hb2⟩); (case measure => first | (simp [intOf] <;> omega) | (simp [lenOf] <;> omega))) | ((repeat apply Exists.intro); refine ⟨?rel, ?eqs⟩; (case eqs => first | rfl | ((repeat (refine ⟨rfl, ?_⟩)); rfl)); (case rel => exact ⟨k + 1, by omega, by go_num, by rw [HE.out]; exact ho1, hb2⟩)))
    · go_wp2
      go_ret
      exact ⟨_, rfl, by rw [List.take_of_length_le (by have := HL.out; omega)] at ho; exact ho, hbel⟩
end Go.Proofs.Ytjiofcnlibkhkaa
