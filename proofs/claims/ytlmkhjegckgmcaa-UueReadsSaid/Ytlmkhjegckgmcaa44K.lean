/- Layer 44 (uue): files laid, by the reference: what its function returns; and the laws' own alive. Conditions: the arguments read as lists; lengths at most 2^16; the variable MaxLen holds a number. -/
import Derived.Test.Ytlmkhjegckgmcaa44J
namespace Go.Proofs.Ytlmkhjegckgmcaa
open Go.RowKit

set_option maxRecDepth 100000 in
set_option maxHeartbeats 4000000 in
theorem r44_Lay {A n c xs A' n' c' zs} {w : World} (hs : Sl w .u8 A n c xs) (ht : Sl w .u8 A' n' c' zs) (hn : n' ≤ 65536) : Calls Try.prog 53 #[.slice A n c, .slice A' n' c'] w (RetLU xs zs w) := by
  have kc := fun (w : World) (C : Array Value) (n c : Nat) => Lib.run_convert_bytes_const (P := Try.prog) w 22 5 C n c Try.underlying22 Try.underlying5
  have hp := r44_name hs
  cases hnm : nameU xs with
  | false =>
    have HE := Lib.hid (show layU xs zs = ([], 13) by unfold layU; rw [hnm]; rfl)
    rw [hnm] at hp
    have HP := Lib.hid hp
    clear hp hnm
    go_enter Try.func53, Try.ntmps53
    go_wp2_with (first | (go_at_call 74; refine HP.out.mono ?_; rintro e w' ⟨rfl, rfl⟩))
    go_ret2
    unfold RetLU
    rw [HE.out]
    exact ⟨_, rfl, Own.nil _ _ _ _, Below.refl _ _⟩
  | true =>
    have HE := Lib.hid (show layU xs zs = (joinL (fileU xs zs), 0) by unfold layU; rw [hnm]; rfl)
    have HJ := file_join (s := zs) hnm
    have hnl := name_len hnm
    rw [hs.len] at hnl
    obtain ⟨hnl1, hnl2⟩ := hnl
    rw [hnm] at hp
    have HP := Lib.hid hp
    clear hp hnm
    have htl := ht.len
    have hle' := ht.le
    have hcm' := ht.cm
    unfold maxLen at hcm'
    have hjf : ∀ ls r, (begU ++ xs) :: linesU zs = ls ++ r → (joinL ls).length + (joinL r).length + 8 ≤ 9 * zs.length + 60 := by
      intro ls r h
      have e : fileU xs zs = (ls ++ r) ++ [[96], endU] := by rw [← h]; rfl
      rw [e, joinL_app, joinL_app] at HJ
      have e1 : (joinL [[96], endU]).length = 8 := rfl
      simp only [List.length_append, e1] at HJ
      omega
    have HJF := Lib.hid hjf
    clear HJ hjf
    have hxl := hs.len
    have hbx : (begU ++ xs).length ≤ 50 := by rw [List.length_append, show begU.length = 10 from rfl]; omega
    go_enter Try.func53, Try.ntmps53
    go_wp2_with (first | (go_at_call 74; refine HP.out.mono ?_; rintro e w' ⟨rfl, rfl⟩) | (at_builtin; refine wpList_app rfl rfl eltB (by decide) rfl rfl (ho1.alloc _) (Sl.new _ .u8 5 [13, 10] (by decide) (by decide)) (hB1.alloc hz1 _) (by refine ⟨?_, ?_⟩ <;> first | omega | (simp; done) | (simp; omega)) (by first | omega | (simp; done) | (simp; omega)) ?_; intro v2 w2 ho2 hb2 hg2) | (at_builtin; refine wpList_appF rfl rfl eltB (by decide) rfl rfl (Sl.newF w .u8 5 [98, 101, 103, 105, 110, 32, 54, 52, 52, 32] (10, 11) (by decide) (by decide)) (hs.alloc _) hnl1 (by first | omega | (simp; omega)) ?_; intro v1 w1 ho1' hb1; have hB1 : Below w.heap.size w w1 := below_then' ((Below.refl _ _).alloc (Nat.le_refl _) _) hb1 (Nat.le_refl _); have hz1 := hB1.size; have ho1 : Own w1 w.heap.size 5 .u8 v1 (begU ++ xs) := ho1'.mono (by simp); clear ho1' hb1))
    go_loopw [6, 7] (fun o i wr => ∃ (p : Nat) (ls : List (List Int)), p ≤ n' + 45 ∧ i = .int .i64 p ∧ Own wr w.heap.size 5 .u8 o (joinL ls) ∧ Hid ((begU ++ xs) :: linesU zs = ls ++ linesU (zs.drop p)) ∧ Below w.heap.size w wr) (fun _ i _ => n' + 45 - (intOf i).toNat)
    case atStart => exact ⟨0, [begU ++ xs], by omega, rfl, by rw [joinL_cons]; simpa [joinL] using ho2, rfl, hb2⟩
    case round =>
      clear ho2 hb2 hs
      obtain ⟨p, ls, hp, rfl, ho, hI, hbel⟩ := hrel
      have hz := hbel.size
      have ht' := ht.bel hbel
      have hjl := HJF.out _ _ hI.out
      by_cases hlt : p < n'
      · have hta := ht'.tail (j := p) (by omega)
        obtain ⟨b, o, rfl, _⟩ := ht'.form (by omega)
        have hcp : ¬ c' = p := by omega
        unfold tailA at hta
        rw [if_neg hcp, Option.map_some, add_plain] at hta
        have hon := linesU_on (s := zs.drop p) (by intro h; have := congrArg List.length h; simp at this; omega)
        have hn1 : Hid ((begU ++ xs) :: linesU zs = (ls ++ [lineU (zs.drop p)]) ++ linesU (zs.drop (p + 45))) := by
          show _ = _
          rw [hI.out, hon, List.drop_drop]; simp
        have hj2 : joinL (ls ++ [lineU (zs.drop p)]) = joinL ls ++ lineU (zs.drop p) ++ [13, 10] := by rw [joinL_app]; simp [joinL]
        have HJ2 := Lib.hid hj2
        have hll := line_len (zs.drop p)
        have hjl2 : (joinL ls).length ≤ 600000 := by omega
        clear hI hon hj2 hjl
        go_wp2_with fail
        refine (r44_Line hta (by omega)).mono ?_
        rintro e w3 ⟨v3, rfl, ho3, hb3⟩
        have hB3 := below_then' hbel hb3 (Nat.le_refl _)
        have hz3 := hB3.size
        obtain ⟨A9, n9, c9, rfl, hs9⟩ := ho3.sl
        have hl9 := hs9.len
        clear ho3
        go_wp2_with (first | (at_builtin; refine wpList_app rfl rfl eltB (by decide) rfl rfl (ho4.alloc _) (Sl.new _ .u8 5 [13, 10] (by decide) (by decide)) (hb4.alloc (by omega) _) (by refine ⟨?_, ?_⟩ <;> first | omega | (simp; done) | (simp; omega)) (by first | omega | (simp; done) | (simp; omega)) ?_; intro v5 w5 ho5 hb5 hg5) | ((at_builtin; refine wpList_app rfl rfl eltB (by decide) rfl rfl (ho.below hb3) hs9 hB3 (by refine ⟨?_, ?_⟩ <;> first | omega | (simp; done) | (simp; omega)) (by first | omega | (simp; done) | (simp; omega)) ?_; intro v4 w4 ho4 hb4 hg4); have hz4 := hb4.size; have hl4 : (joinL ls ++ lineU (zs.drop p)).length ≤ 700000 := by (rw [List.length_append]; omega)))
        (first | (go_roundw; (case rel => exact ⟨p + 45, _, by omega, by go_num, by rw [HJ2.out]; exact ho5, hn1, hb5⟩); (case measure => first | (simp [intOf] <;> omega) | (simp [lenOf] <;> omega))) | (refine ⟨?_, ?measure⟩; (repeat apply Exists.intro); refine ⟨?rel, ?eqs⟩; (case eqs => first | rfl | ((repeat (refine ⟨rfl, ?_⟩)); rfl)); (case rel => exact ⟨p + 45, _, by omega, by go_num, by rw [HJ2.out]; exact ho5, hn1, hb5⟩); (case measure => first | (simp [intOf] <;> omega) | (simp [lenOf] <;> omega))) | ((repeat apply Exists.intro); refine ⟨?rel, ?eqs⟩; (case eqs => first | rfl | ((repeat (refine ⟨rfl, ?_⟩)); rfl)); (case rel => exact ⟨p + 45, _, by omega, by go_num, by rw [HJ2.out]; exact ho5, hn1, hb5⟩)))
      · have hd : zs.drop p = [] := List.drop_eq_nil_of_le (by omega)
        have hls : joinL (fileU xs zs) = joinL ls ++ [96, 13, 10, 101, 110, 100, 13, 10] := by
          have h := hI.out
          rw [hd, linesU_nil, List.append_nil] at h
          have e : fileU xs zs = ls ++ [[96], endU] := by rw [← h]; rfl
          rw [e, joinL_app]; rfl
        have HLS := Lib.hid hls
        have hjl2 : (joinL ls).length ≤ 600000 := by omega
        clear hI hd hls hjl
        go_wp2_with (at_builtin; refine wpList_app rfl rfl eltB (by decide) rfl rfl (ho.alloc _) (Sl.new _ .u8 5 [96, 13, 10, 101, 110, 100, 13, 10] (by decide) (by decide)) (hbel.alloc (by omega) _) (by refine ⟨?_, ?_⟩ <;> first | omega | (simp; done) | (simp; omega)) (by first | omega | (simp; done) | (simp; omega)) ?_; intro v5 w5 ho5 hb5 hg5)
        go_ret2
        unfold RetLU
        rw [HE.out, HLS.out]
        exact ⟨_, rfl, ho5, hb5⟩
end Go.Proofs.Ytlmkhjegckgmcaa
