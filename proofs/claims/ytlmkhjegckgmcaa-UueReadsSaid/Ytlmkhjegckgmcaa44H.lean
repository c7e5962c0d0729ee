/- Layer 44 (uue): a line read, by the reference. Conditions: the argument reads as a list; lengths at most 2^20. -/
import Derived.Test.Ytlmkhjegckgmcaa44G
namespace Go.Proofs.Ytlmkhjegckgmcaa
open Go.RowKit

def sixU (xs : List Int) : List Int := xs.flatMap fun c => sixBits (valU c)
theorem sixU_length (xs : List Int) : (sixU xs).length = 6 * xs.length := by
  induction xs with
  | nil => rfl
  | cons x r ih => simp only [sixU, List.flatMap_cons, List.length_append, List.length_cons] at ih ⊢; rw [ih]; simp [sixBits]; omega
theorem six_parts {x : Int} (h : 0 ≤ x ∧ x < 64) :
    32 * (x / 32 % 2) + 16 * (x / 16 % 2) + 8 * (x / 8 % 2) + 4 * (x / 4 % 2) + 2 * (x / 2 % 2) + x % 2 = x ∧ 2 * (x / 32 % 2) + x / 16 % 2 = x / 16 ∧ 8 * (x / 8 % 2) + 4 * (x / 4 % 2) + 2 * (x / 2 % 2) + x % 2 = x % 16 ∧
    8 * (x / 32 % 2) + 4 * (x / 16 % 2) + 2 * (x / 8 % 2) + x / 4 % 2 = x / 4 ∧ 2 * (x / 2 % 2) + x % 2 = x % 4 := by
  have := byte_all (fun x => decide (x < 64 → 32 * (x / 32 % 2) + 16 * (x / 16 % 2) + 8 * (x / 8 % 2) + 4 * (x / 4 % 2) + 2 * (x / 2 % 2) + x % 2 = x ∧ 2 * (x / 32 % 2) + x / 16 % 2 = x / 16 ∧ 8 * (x / 8 % 2) + 4 * (x / 4 % 2) + 2 * (x / 2 % 2) + x % 2 = x % 16 ∧
    8 * (x / 32 % 2) + 4 * (x / 16 % 2) + 2 * (x / 8 % 2) + x / 4 % 2 = x / 4 ∧ 2 * (x / 2 % 2) + x % 2 = x % 4)) (by decide +kernel) (x := x) (by omega)
  have h2 := of_decide_eq_true this
  exact h2 h.2
theorem oct_dec : ∀ (r : List Int), r.length % 4 = 0 → oct8 (sixU r) = decU (r.map valU)
  | [], _ => rfl
  | [_], h => by simp at h
  | [_, _], h => by simp at h
  | [_, _, _], h => by simp at h
  | a :: b :: c :: d :: r, h => by
    have ih := oct_dec r (by simp only [List.length_cons] at h; omega)
    have pa := six_parts (valU_bd a)
    have pb := six_parts (valU_bd b)
    have pc := six_parts (valU_bd c)
    have pd := six_parts (valU_bd d)
    have ba := valU_bd a
    have bb := valU_bd b
    have bc := valU_bd c
    have bd := valU_bd d
    simp only [List.map_cons, decU, ← ih]
    have e : sixU (a :: b :: c :: d :: r) = sixBits (valU a) ++ (sixBits (valU b) ++ (sixBits (valU c) ++ (sixBits (valU d) ++ sixU r))) := by simp [sixU]
    rw [e]
    simp only [sixBits, List.cons_append, List.nil_append, oct8, numL, List.foldl_cons, List.foldl_nil]
    generalize valU a = A at *
    generalize valU b = B at *
    generalize valU c = C at *
    generalize valU d = D at *
    obtain ⟨a1, a2, a3, a4, a5⟩ := pa
    obtain ⟨b1, b2, b3, b4, b5⟩ := pb
    obtain ⟨c1, c2, c3, c4, c5⟩ := pc
    obtain ⟨d1, d2, d3, d4, d5⟩ := pd
    refine cons3 ?_ ?_ ?_ <;> omega
theorem take_drop1 {xs : List Int} {k : Nat} {x : Int} (h : xs.take (k + 1) = xs.take k ++ [x]) (hk : 0 < (xs.take k).length) : (xs.take (k + 1)).drop 1 = (xs.take k).drop 1 ++ [x] := by
  rw [h, List.drop_append_of_le_length hk]

set_option maxRecDepth 100000 in
set_option maxHeartbeats 4000000 in
theorem r44_FromLine {A n c xs} {w : World} (hs : Sl w .u8 A n c xs) (hn : n ≤ 1048576) : Calls Try.prog 45 #[.slice A n c] w (RetFr xs w) := by
  have HL := Lib.hid hs.len
  by_cases h0 : n = 0
  · subst h0
    obtain rfl : xs = [] := List.eq_nil_of_length_eq_zero HL.out
    go_enter Try.func45, Try.ntmps45
    go_wp2
    go_ret2
    exact ⟨_, _, _, rfl, Sl.nil _ _, Below.refl _ _⟩
  · have f0 : ((n : Int) == 0) = false := by simp; omega
    have hne : xs ≠ [] := by intro h; have := HL.out; rw [h] at this; simp at this; omega
    have HNE := Lib.hid hne; clear hne
    go_enter Try.func45, Try.ntmps45
    go_wp2
    go_loopw [4, 5] (fun v i wr => ∃ k : Nat, k ≤ n ∧ i = .int .i64 k ∧ Hid (∀ x ∈ xs.take k, okU x = true) ∧ Own wr w.heap.size 3 .i64 v (sixU ((xs.take k).drop 1)) ∧ Below w.heap.size w wr) (fun _ i _ => n - (intOf i).toNat)
    case atStart => exact ⟨0, Nat.zero_le _, rfl, by show ∀ x ∈ xs.take 0, _; simp, Own.nil _ _ _ _, Below.refl _ _⟩
    case round =>
      obtain ⟨k, hk, rfl, hA, ho, hbel⟩ := hrel
      have hz := hbel.size
      have hs' := hs.bel hbel
      by_cases hlt : k < n
      · obtain ⟨b, o, x, rfl, hb, hcell, hwf, hd, ht⟩ := hs'.get hlt
        have hlk : (xs.take k).length = k := by rw [List.length_take]; have := HL.out; omega
        have HLK := Lib.hid hlk
        have hlen : (sixU ((xs.take k).drop 1)).length ≤ 134217728 := by rw [sixU_length]; simp; omega
        have hvb := valU_bd x
        have hp := r44_Value (w := wr) hwf
        cases hx : okU x with
        | false =>
          have HE := Lib.hid (from_no HNE.out (show xs.all okU = false by rw [all_drop hA.out, hd]; simp [hx]))
          rw [hx] at hp
          have HP := Lib.hid hp; clear hp hd ht hx hlk
          go_wp2_with (first | (go_at_call 47; refine HP.out.mono ?_; rintro e w' ⟨rfl, rfl⟩))
          go_ret2
          unfold RetFr
          rw [HE.out]
          exact ⟨_, _, _, rfl, Sl.nil _ _, hbel⟩
        | true =>
          rw [hx, valR_ok hx] at hp
          have HA1 : Hid (∀ z ∈ xs.take (k + 1), okU z = true) := by
            show ∀ z ∈ _, _
            rw [ht]; intro z hz
            rcases List.mem_append.1 hz with hz | hz
            · exact hA.out z hz
            · simp at hz; subst hz; exact hx
          obtain ⟨y, hy⟩ : ∃ y, valU x = y := ⟨_, rfl⟩
          rw [hy] at hp hvb
          obtain ⟨wo, rfl⟩ : ∃ wo : World, wo = wr := ⟨_, rfl⟩
          have HP := Lib.hid hp
          obtain ⟨hv1, hv2⟩ := hvb
          by_cases hk0 : k = 0
          · subst hk0
            have e : sixU ((xs.take (0 + 1)).drop 1) = sixU ((xs.take 0).drop 1) := by rw [ht]; simp
            have HK := Lib.hid e
            clear hp hd ht hx hlk e
            simp only [Nat.add_zero] at hcell
            go_wp2_with (first | (go_at_call 47; refine HP.out.mono ?_; rintro e w' ⟨rfl, rfl⟩))
            go_loopw [4, 8] (fun v i wr => i = .int .i64 5 ∧ Own wr w.heap.size 3 .i64 v (sixU ((xs.take 0).drop 1)) ∧ Below w.heap.size w wr) (fun _ _ _ => 0)
            case atStart => exact ⟨rfl, ho, hbel⟩
            case round =>
              obtain ⟨rfl, ho2, hbel2⟩ := hrel
              go_wp2
              (first | (go_roundw; (case rel => exact ⟨1, by omega, by go_num, HA1, by rw [HK.out]; exact ho2, hbel2⟩); (case measure => first | (simp [intOf] <;> omega) | (simp [lenOf] <;> omega))) | (refine ⟨?_, ?measure⟩; (repeat apply Exists.intro); refine ⟨?rel, ?eqs⟩; (case eqs => first | rfl | ((repeat (refine ⟨rfl, ?_⟩)); rfl)); (case rel => exact ⟨1, by omega, by go_num, HA1, by rw [HK.out]; exact ho2, hbel2⟩); (case measure => first | (simp [intOf] <;> omega) | (simp [lenOf] <;> omega))) | ((repeat apply Exists.intro); refine ⟨?rel, ?eqs⟩; (case eqs => first | rfl | ((repeat (refine ⟨rfl, ?_⟩)); rfl)); (case rel => exact ⟨1, by omega, by go_num, HA1, by rw [HK.out]; exact ho2, hbel2⟩)))
          · have hk1 : sixU ((xs.take (k + 1)).drop 1) = sixU ((xs.take k).drop 1) ++ sixBits y := by rw [take_drop1 ht (by omega)]; simp [sixU, hy]
            have HK := Lib.hid hk1
            have hkp : 0 < k := by omega
            clear hp hd ht hx hlk hk1
            go_wp2_with (first | (go_at_call 47; refine HP.out.mono ?_; rintro e w' ⟨rfl, rfl⟩))
            go_loopw [4, 8] (fun v i wr => ∃ j : Nat, j ≤ 6 ∧ i = .int .i64 (5 - (j : Int)) ∧ Own wr w.heap.size 3 .i64 v (sixU ((xs.take k).drop 1) ++ (sixBits y).take j) ∧ Below w.heap.size w wr) (fun _ i _ => (intOf i + 1).toNat)
            case atStart => exact ⟨0, Nat.zero_le _, rfl, by simpa using ho, hbel⟩
            case round =>
              obtain ⟨j, hj, rfl, ho2, hbel2⟩ := hrel
              have hz2 := hbel2.size
              by_cases hlt2 : j < 6
              · have hl2 : (sixU ((xs.take k).drop 1) ++ (sixBits y).take j).length ≤ 134217736 := by simp at hlen ⊢; omega
                have : j = 0 ∨ j = 1 ∨ j = 2 ∨ j = 3 ∨ j = 4 ∨ j = 5 := by omega
                obtain ⟨jj, hjj⟩ : ∃ jj, jj = j := ⟨_, rfl⟩
                have HJ := Lib.hid hjj; clear hjj
                rcases this with h | h | h | h | h | h <;> subst h
                all_goals
                  go_wp2_with (at_builtin; refine wpList_app rfl rfl eltI (by decide) rfl rfl (ho2.alloc _) (Sl.one _ _ _ _ (wf_i64.2 (by omega))) (hbel2.alloc (by omega) _) (by refine ⟨?_, ?_⟩ <;> first | omega | (simp; done) | (simp; omega)) (by first | omega | (simp; done) | (simp; omega)) ?_; intro v1 w1 ho1 hb1 hg1)
                  rw [List.append_assoc] at ho1
                  have hjj := HJ.out
                  (first | (go_roundw; (case rel => exact ⟨jj + 1, by omega, by subst hjj; rfl, by subst hjj; exact ho1, hb1⟩); (case measure => first | (simp [intOf] <;> omega) | (simp [lenOf] <;> omega))) | (refine ⟨?_, ?measure⟩; (repeat apply Exists.intro); refine ⟨?rel, ?eqs⟩; (case eqs => first | rfl | ((repeat (refine ⟨rfl, ?_⟩)); rfl)); (case rel => exact ⟨jj + 1, by omega, by subst hjj; rfl, by subst hjj; exact ho1, hb1⟩); (case measure => first | (simp [intOf] <;> omega) | (simp [lenOf] <;> omega))) | ((repeat apply Exists.intro); refine ⟨?rel, ?eqs⟩; (case eqs => first | rfl | ((repeat (refine ⟨rfl, ?_⟩)); rfl)); (case rel => exact ⟨jj + 1, by omega, by subst hjj; rfl, by subst hjj; exact ho1, hb1⟩)))
              · obtain rfl : j = 6 := by omega
                go_wp2
                (first | (go_roundw; (case rel => exact ⟨k + 1, by omega, by go_num, HA1, by rw [HK.out]; exact ho2, hbel2⟩); (case measure => first | (simp [intOf] <;> omega) | (simp [lenOf] <;> omega))) | (refine ⟨?_, ?measure⟩; (repeat apply Exists.intro); refine ⟨?rel, ?eqs⟩; (case eqs => first | rfl | ((repeat (refine ⟨rfl, ?_⟩)); rfl)); (case rel => exact ⟨k + 1, by omega, by go_num, HA1, by rw [HK.out]; exact ho2, hbel2⟩); (case measure => first | (simp [intOf] <;> omega) | (simp [lenOf] <;> omega))) | ((repeat apply Exists.intro); refine ⟨?rel, ?eqs⟩; (case eqs => first | rfl | ((repeat (refine ⟨rfl, ?_⟩)); rfl)); (case rel => exact ⟨k + 1, by omega, by go_num, HA1, by rw [HK.out]; exact ho2, hbel2⟩)))
      · have hk : k = n := by omega
        subst hk
        rw [List.take_of_length_le (by have := HL.out; omega)] at hA ho
        have hall : xs.all okU = true := List.all_eq_true.2 hA.out
        obtain ⟨x, r, rfl⟩ := List.exists_cons_of_ne_nil HNE.out
        have hln := HL.out
        simp only [List.length_cons] at hln
        obtain ⟨b, o, rfl, hb⟩ := hs'.form (by omega)
        have hc0 : wr.cell? ⟨b, o, none⟩ = some (.int .u8 x) := by simpa using hs'.cell (j := 0) (by omega)
        have hwf : (Lit.int .u8 x).wf = true := by have := hs'.wf x (by simp); exact this
        have hp := r44_Value (w := wr) hwf
        have hxo : okU x = true := hA.out x (by simp)
        rw [hxo, valR_ok hxo] at hp
        have hvb := valU_bd x
        obtain ⟨m, hm⟩ : ∃ m : Nat, valU x = (m : Int) := ⟨(valU x).toNat, by omega⟩
        rw [show (x :: r).drop 1 = r from rfl] at ho
        by_cases h45 : 45 < valU x
        · have HE := Lib.hid (from_big HNE.out h45)
          rw [hm] at hp h45
          have HP := Lib.hid hp
          clear hp hall hm hA hxo
          go_wp2_with (first | (go_at_call 47; refine HP.out.mono ?_; rintro e w' ⟨rfl, rfl⟩))
          go_ret2
          unfold RetFr
          rw [HE.out]
          exact ⟨_, _, _, rfl, Sl.nil _ _, hbel⟩
        · have he := from_cons hall h45
          rw [hm] at hp h45 he
          rw [Int.toNat_natCast] at he
          have HP := Lib.hid hp
          have hod := oct_dec r
          have hdl := decU_len (r.map valU)
          rw [List.length_map] at hdl
          obtain ⟨V, hV⟩ : ∃ V, decU (r.map valU) = V := ⟨_, rfl⟩
          rw [hV] at he hod hdl
          have HE := Lib.hid he
          have HOD := Lib.hid hod
          clear hp hall hm hA hxo he hvb hV hod
          by_cases hlt4 : (r.length : Int) < ((m : Int) + 2) / 3 * 4
          · have HE' := HE.out
            rw [if_pos hlt4] at HE'
            have HE := Lib.hid HE'
            clear HE'
            go_wp2_with (first | (go_at_call 47; refine HP.out.mono ?_; rintro e w' ⟨rfl, rfl⟩))
            go_ret2
            unfold RetFr
            rw [HE.out]
            exact ⟨_, _, _, rfl, Sl.nil _ _, hbel⟩
          · by_cases hgt : ((m : Int) + 2) / 3 * 4 < (r.length : Int)
            · have HE' := HE.out
              rw [if_neg hlt4, if_pos hgt] at HE'
              have HE := Lib.hid HE'
              clear HE'
              go_wp2_with (first | (go_at_call 47; refine HP.out.mono ?_; rintro e w' ⟨rfl, rfl⟩))
              go_ret2
              unfold RetFr
              rw [HE.out]
              exact ⟨_, _, _, rfl, Sl.nil _ _, hbel⟩
            · have HE' := HE.out
              rw [if_neg hlt4, if_neg hgt] at HE'
              have HE := Lib.hid HE'
              clear HE'
              obtain ⟨A4, n4, c4, rfl, hs4⟩ := ho.sl
              have hl4 := hs4.len
              rw [sixU_length] at hl4
              have hbits : isBits (sixU r) := bits_flat (fun c => bits_six (valU c)) _
              go_wp2_with (first | (go_at_call 47; refine HP.out.mono ?_; rintro e w' ⟨rfl, rfl⟩))
              refine (r14_Octets hs4 hbits (by omega)).mono ?_
              rw [HOD.out (by omega)]
              rintro e w5 ⟨v5, rfl, ho5, hb5⟩
              obtain ⟨A5, n5, c5, rfl, hs5⟩ := ho5.sl
              have hl5 := hs5.len
              have hle5 := hs5.le
              have hcm5 := hs5.cm
              unfold maxLen at hcm5
              have hs6 := hs5.take_ (m := m) (by omega)
              clear ho5
              go_wp2
              go_ret2
              unfold RetFr
              rw [HE.out]
              exact ⟨_, _, _, rfl, hs6, below_then hbel hb5⟩
end Go.Proofs.Ytlmkhjegckgmcaa
