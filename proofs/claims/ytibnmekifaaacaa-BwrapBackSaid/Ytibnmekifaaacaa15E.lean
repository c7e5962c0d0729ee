/- Layer 15 (bloose): what the other functions of the program, and those of the reference, return. Conditions: the argument reads as a list; lengths at most 2^24 (2^11 where codes are laid). -/
import Derived.Test.Ytibnmekifaaacaa15D
import Derived.Test.Ytibnmekifaaacaa14K
namespace Go.Proofs.Ytibnmekifaaacaa
open Go.RowKit

set_option maxRecDepth 100000 in
set_option maxHeartbeats 1000000 in
theorem p15_Read {A n c xs} {w : World} (hs : Sl w .u8 A n c xs) (hm : n ≤ 16777216) : Calls Try.prog 31 #[.slice A n c] w (RetOwn id 5 .u8 (lrdL xs) w) := by
  go_enter Try.func31, Try.ntmps31
  go_wp2_with fail
  refine (p15_read hs hm).mono ?_
  rintro e w1 ⟨v1, rfl, ho1, hb1⟩
  go_wp2
  go_ret
  exact ⟨_, rfl, ho1, hb1⟩
set_option maxRecDepth 100000 in
set_option maxHeartbeats 2000000 in
theorem r15_Digits {A n c xs} {w : World} (hs : Sl w .u8 A n c xs) (hm : n ≤ 16777216) : Calls Try.prog 30 #[.slice A n c] w (RetOwn (fun v => .tuple #[v, .int .i64 (strF xs)]) 5 .u8 (digF xs) w) := by
  have HL := Lib.hid hs.len
  go_enter Try.func30, Try.ntmps30
  go_wp2
  go_loopw [4, 5, 6] (fun v s i wr => ∃ (k m : Nat) (ys : List Int), k ≤ n ∧ m ≤ k ∧ i = .int .i64 k ∧ s = .int .i64 m ∧ Own wr w.heap.size 5 .u8 v ys ∧ ys.length ≤ k ∧ Hid (digF xs = ys ++ digF (xs.drop k) ∧ strF xs = m + strF (xs.drop k)) ∧ Below w.heap.size w wr) (fun _ _ i _ => n - (intOf i).toNat)
  case atStart => exact ⟨0, 0, [], Nat.zero_le _, Nat.le_refl _, rfl, rfl, Own.nil _ _ _ _, by simp, ⟨rfl, by simp⟩, Below.refl _ _⟩
  case round =>
    obtain ⟨k, m, ys, hk, hmk, rfl, rfl, ho, hyl, hI, hbel⟩ := hrel
    have hz := hbel.size
    by_cases hlt : k < n
    · obtain ⟨b, o, x, rfl, hb, hcell0, hwf, hd, ht⟩ := hs.get hlt
      have hcell := (hbel.cell (p := ⟨b, o + k, none⟩) hb).trans hcell0
      clear hcell0 ht
      by_cases h61 : x = 61
      · subst h61
        have e1 : digF xs = ys := by rw [hI.out.1, hd, digF_61, List.append_nil]
        have e2 : strF xs = m := by rw [hI.out.2, hd, strF_61, Int.add_zero]
        have E1 := Lib.hid e1; have E2 := Lib.hid e2
        clear hI hd e1 e2
        go_wp2
        go_ret2
        exact ⟨_, ret2 rfl (vint E2.out.symm), by rw [E1.out]; exact ho, hbel⟩
      · have h61' : (x == 61) = false := by simpa using h61
        cases hxd : isD x with
        | true =>
          have HE : Hid (digF xs = (ys ++ [x]) ++ digF (xs.drop (k + 1)) ∧ strF xs = m + strF (xs.drop (k + 1))) := by
            refine ⟨?_, ?_⟩
            · rw [hI.out.1, hd, digF_yes hxd]; simp
            · rw [hI.out.2, hd, strF_yes hxd]
          have hv := r14_Value (c := x) (w := wr)
          rw [hxd] at hv
          have HV := Lib.hid hv
          clear hI hd hv hxd
          go_wp2_with (first | (go_at_call 38; refine HV.out.mono ?_; rintro e w' ⟨rfl, rfl⟩) | (at_builtin; refine wpList_app rfl rfl eltB (by decide) rfl rfl (ho.alloc _) (Sl.one _ _ _ _ hwf) (hbel.alloc hz _) (by refine ⟨?_, ?_⟩ <;> first | omega | (simp; done) | (simp; omega)) (by first | omega | (simp; done) | (simp; omega)) ?_; intro v1 w2 ho1 hb2 hg1))
          (first | (go_roundw; (case rel => exact ⟨k + 1, m, _, by omega, by omega, by go_num, rfl, ho1, by simp; omega, HE, hb2⟩); (case measure => first | (simp [intOf] <;> omega) | (simp [lenOf] <;> omega))) | (refine ⟨?_, ?measure⟩; (repeat apply Exists.intro); refine ⟨?rel, ?eqs⟩; (case eqs => first | rfl | ((repeat (refine ⟨rfl, ?_⟩)); rfl)); (case rel => exact ⟨k + 1, m, _, by omega, by omega, by go_num, rfl, ho1, by simp; omega, HE, hb2⟩); (case measure => first | (simp [intOf] <;> omega) | (simp [lenOf] <;> omega))) | ((repeat apply Exists.intro); refine ⟨?rel, ?eqs⟩; (case eqs => first | rfl | ((repeat (refine ⟨rfl, ?_⟩)); rfl)); (case rel => exact ⟨k + 1, m, _, by omega, by omega, by go_num, rfl, ho1, by simp; omega, HE, hb2⟩)))
        | false =>
          have HE : Hid (digF xs = ys ++ digF (xs.drop (k + 1)) ∧ strF xs = ((m + 1 : Nat) : Int) + strF (xs.drop (k + 1))) := by
            refine ⟨?_, ?_⟩
            · rw [hI.out.1, hd, digF_no hxd h61]
            · rw [hI.out.2, hd, strF_no hxd h61]; push_cast; omega
          have hv := r14_Value (c := x) (w := wr)
          rw [hxd] at hv
          have HV := Lib.hid hv
          clear hI hd hv hxd
          go_wp2_with (go_at_call 38; refine HV.out.mono ?_; rintro e w' ⟨rfl, rfl⟩)
          (first | (go_roundw; (case rel => exact ⟨k + 1, m + 1, _, by omega, by omega, by go_num, by go_num, ho, by omega, HE, hbel⟩); (case measure => first | (simp [intOf] <;> omega) | (simp [lenOf] <;> omega))) | (refine ⟨?_, ?measure⟩; (repeat apply Exists.intro); refine ⟨?rel, ?eqs⟩; (case eqs => first | rfl | ((repeat (refine ⟨rfl, ?_⟩)); rfl)); (case rel => exact ⟨k + 1, m + 1, _, by omega, by omega, by go_num, by go_num, ho, by omega, HE, hbel⟩); (case measure => first | (simp [intOf] <;> omega) | (simp [lenOf] <;> omega))) | ((repeat apply Exists.intro); refine ⟨?rel, ?eqs⟩; (case eqs => first | rfl | ((repeat (refine ⟨rfl, ?_⟩)); rfl)); (case rel => exact ⟨k + 1, m + 1, _, by omega, by omega, by go_num, by go_num, ho, by omega, HE, hbel⟩)))
    · obtain rfl : k = n := by omega
      have e0 : xs.drop k = [] := List.drop_eq_nil_of_le (by have := HL.out; omega)
      have e1 : digF xs = ys := by rw [hI.out.1, e0]; simp [digF]
      have e2 : strF xs = m := by rw [hI.out.2, e0]; simp [strF]
      have E1 := Lib.hid e1; have E2 := Lib.hid e2
      clear hI e0 e1 e2
      go_wp2
      go_ret2
      exact ⟨_, ret2 rfl (vint E2.out.symm), by rw [E1.out]; exact ho, hbel⟩

set_option maxRecDepth 100000 in
set_option maxHeartbeats 2000000 in
theorem r15_Read {A n c xs} {w : World} (hs : Sl w .u8 A n c xs) (hm : n ≤ 16777216) : Calls Try.prog 19 #[.slice A n c] w (RetOwn (fun v => .tuple #[v, .int .i64 (leftL xs)]) 5 .u8 (lrdL xs) w) := by
  have hdl := digF_len xs
  rw [hs.len] at hdl
  have h1 := r15_Digits hs hm
  have h2 := fun (W : World) (A : Option Addr) (m c : Nat) (h : Sl W .u8 A m c (digF xs)) (hm : m ≤ 16777216) => r14_Values h hm
  have e1 : allD (digF xs) = true := digF_all xs
  have e2 : valuesL (digF xs) = sixesL (digF xs) := by unfold valuesL; rw [e1]; rfl
  have e3 := sixesL_length (digF xs)
  have e4 : leftL xs = ((sixesL (digF xs)).length : Int) % 8 := by rw [e3]; rfl
  have e5 : lrdL xs = oct8 (sixesL (digF xs)) := rfl
  have hbits : isBits (sixesL (digF xs)) := bits_flat (fun _ => bits_six _) _
  obtain ⟨ds, hds⟩ : ∃ ds, digF xs = ds := ⟨_, rfl⟩
  simp only [hds] at h1 h2 e1 e2 e3 e4 e5 hbits hdl
  simp only [e1, e2] at h2
  have H2 := Lib.hid h2; have E4 := Lib.hid e4; have E5 := Lib.hid e5; have HB := Lib.hid hbits
  clear h2 e1 e2 e4 e5 hbits hds
  go_enter Try.func19, Try.ntmps19
  go_wp2_with fail
  refine h1.mono ?_
  rintro e w1 ⟨v1, rfl, ho1, hb1⟩
  obtain ⟨A1, n1, c1, rfl, hs1⟩ := ho1.sl
  have hl1 := hs1.len
  clear ho1
  go_wp2_with fail
  refine (H2.out _ _ _ _ hs1 (by omega)).mono ?_
  rintro e w2 ⟨v2, rfl, ho2, hb2⟩
  obtain ⟨A2, n2, c2, rfl, hs2⟩ := ho2.sl
  have hl2 := hs2.len
  clear ho2
  have hB2 := below_then hb1 hb2
  go_wp2_with fail
  refine (r14_Octets hs2 HB.out (by omega)).mono ?_
  rintro e w3 ⟨v3, rfl, ho3, hb3⟩
  have hB3 := below_then hB2 hb3
  go_wp2
  go_ret2
  refine ⟨v3, ret2 rfl (vint ?_), ?_, hB3⟩
  · rw [E4.out, hl2]
  · rw [E5.out]; exact ho3.mono hB2.size
end Go.Proofs.Ytibnmekifaaacaa
