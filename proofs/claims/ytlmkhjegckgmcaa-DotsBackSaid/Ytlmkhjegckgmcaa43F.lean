/- Layer 43 (dots): receiving, and strictly, by the reference: what its functions return. Conditions: the arguments read as lists; lengths at most 2^20. -/
import Derived.Test.Ytlmkhjegckgmcaa43E
import Derived.Handy
namespace Go.Proofs.Ytlmkhjegckgmcaa
open Go.RowKit

def rgtV (xs : List Int) : Bool := match ahdV xs with | none => false | some p => rightL p.1
def RetR4 (xs : List Int) (w : World) (e : Ending) (w' : World) : Prop :=
  ∃ v, e = .returned (.tuple #[v, .int .i64 (recV xs).2.1, .int .i64 (recV xs).2.2, .bool (rgtV xs)]) ∧ Own w' w.heap.size 5 .u8 v (recV xs).1 ∧ Below w.heap.size w w'
theorem right_snoc {ls : List (List Int)} {k : Nat} {x : List Int} (h : ls.take (k + 1) = ls.take k ++ [x]) : rightL (ls.take (k + 1)) = (rightL (ls.take k) && (!dotV x || dotV (x.drop 1))) := by
  unfold rightL
  rw [h, List.all_append]; simp only [List.all_cons, List.all_nil, Bool.and_true]
theorem rec_none {xs : List Int} (h : ahdV xs = none) : recV xs = ([], 0, 4) ∧ rgtV xs = false := by unfold recV rgtV; rw [h]; exact ⟨rfl, rfl⟩
theorem rec_some {xs : List Int} {p : List (List Int) × Int} (h : ahdV xs = some p) : recV xs = (joinL (p.1.map dropV), p.2, 0) ∧ rgtV xs = rightL p.1 := by unfold recV rgtV; rw [h]; exact ⟨rfl, rfl⟩
/-- no line of these is a dot alone -/
def NoDot (ls : List (List Int)) : Prop := ∀ l ∈ ls, l ≠ [46]
theorem nodot_take {ls : List (List Int)} {k : Nat} {x : List Int} (h : ls.take (k + 1) = ls.take k ++ [x]) (h1 : NoDot (ls.take k)) (hx : x ≠ [46]) : NoDot (ls.take (k + 1)) := by
  intro l hl
  rw [h] at hl
  rcases List.mem_append.1 hl with hl | hl
  · exact h1 l hl
  · simp at hl; subst hl; exact hx
theorem rec_over {xs : List Int} {k : Nat} (hk : k < (splitL xs).length) (hn : NoDot ((splitL xs).take k)) (h : xs.length < (joinL ((splitL xs).take (k + 1))).length) : ahdV xs = none := by
  obtain ⟨h1, h2⟩ := take_done hk
  by_cases hd : k < (doneL xs).length
  · have := (h1 hd).2; omega
  · unfold ahdV; rw [← (h2 hd).2]; exact ahd_none _ hn
theorem rec_at {xs x : List Int} {k : Nat} (ht : (splitL xs).take (k + 1) = (splitL xs).take k ++ [x]) (hk : k < (splitL xs).length) (hn : NoDot ((splitL xs).take k)) (h : ¬ xs.length < (joinL ((splitL xs).take (k + 1))).length) (hx : x = [46]) :
    ahdV xs = some ((splitL xs).take k, ((joinL ((splitL xs).take (k + 1))).length : Int)) := by
  obtain ⟨h1, h2⟩ := take_done hk
  by_cases hd : k < (doneL xs).length
  · have h3 := (h1 hd).1
    have e : doneL xs = (splitL xs).take k ++ [46] :: (doneL xs).drop (k + 1) := by
      have h4 := List.take_append_drop (k + 1) (doneL xs)
      rw [← h3, ht, hx] at h4
      simpa using h4.symm
    unfold ahdV
    rw [e, ahd_some _ _ hn, ht, joinL_app, hx]
    simp [joinL]
  · have := (h2 hd).1; omega
theorem rec_end {xs : List Int} (hn : NoDot (splitL xs)) : ahdV xs = none := by
  unfold ahdV
  refine ahd_none _ fun l hl => hn l ?_
  unfold splitL; split
  · exact hl
  · exact List.mem_append_left _ hl

theorem join_drop_take (ls : List (List Int)) (k : Nat) : (joinL ((ls.take k).map dropV)).length ≤ (joinL ls).length := by
  rw [List.map_take]; exact Nat.le_trans joinL_len_take (join_drop ls)
theorem join_drop_at {ls : List (List Int)} {k : Nat} {x : List Int} (h : ls.take (k + 1) = ls.take k ++ [x]) : joinL ((ls.take (k + 1)).map dropV) = joinL ((ls.take k).map dropV) ++ dropV x ++ [13, 10] := by
  rw [map_take_succ h, joinL_app]; simp [joinL]

set_option maxRecDepth 100000 in
set_option maxHeartbeats 2000000 in
theorem r43_Receive {A n c xs} {w : World} (hs : Sl w .u8 A n c xs) (hn : n ≤ 1048576) : Calls Try.prog 39 #[.slice A n c] w (RetR4 xs w) := by
  have hl := hs.len
  have h1 := joinL_le xs
  have h2 := split_len xs
  have h3 := Lib.hid (fun l (h : l ∈ splitL xs) => split_mem h)
  have F1 := fun k : Nat => rec_over (xs := xs) (k := k)
  have F2 := fun (x : List Int) (k : Nat) => rec_at (xs := xs) (x := x) (k := k)
  have F3 := rec_end (xs := xs)
  obtain ⟨ls, hls⟩ : ∃ ls, splitL xs = ls := ⟨_, rfl⟩
  have hp := r26_Split hs (by omega)
  simp only [hls] at hp h1 h2 h3 F1 F2 F3
  clear hls
  have G1 := Lib.hid F1; have G2 := Lib.hid F2; have G3 := Lib.hid F3
  clear F1 F2 F3
  go_enter Try.func39, Try.ntmps39
  go_wp2_with fail
  refine hp.mono ?_
  rintro e w1 ⟨A1, n1, c1, rfl, hL1, hb1⟩
  have hl1 := hL1.len
  have hle1 := hL1.le
  have hcm1 := hL1.cm
  unfold maxLen at hcm1
  clear hp
  go_wp2
  go_loopw [6, 7, 8, 10] (fun v r g i wr => ∃ (k : Nat) (b : Bool) (m : Nat), k ≤ n1 ∧ i = .int .i64 k ∧ r = .int .i64 m ∧ g = .bool b ∧ Hid ((joinL (ls.take k)).length = m) ∧ Hid (rightL (ls.take k) = b) ∧ m ≤ n ∧ Hid (NoDot (ls.take k)) ∧
    Own wr w1.heap.size 5 .u8 v (joinL ((ls.take k).map dropV)) ∧ Below w1.heap.size w1 wr) (fun _ _ _ i _ => n1 - (intOf i).toNat)
  case atStart => exact ⟨0, true, 0, Nat.zero_le _, rfl, rfl, rfl, rfl, rfl, by omega, Lib.hid (fun l hl => by cases hl), Own.nil _ _ _ _, Below.refl _ _⟩
  case round =>
    obtain ⟨k, bb, m, hk, rfl, rfl, rfl, HM, HR, hm, HN, ho, hbel⟩ := hrel
    have hz := hbel.size
    have HT := join_drop_take ls k
    by_cases hlt : k < n1
    · obtain ⟨b, o, A', n', c', x, rfl, hb, hcell, hx, hxe, hdx, ht⟩ := (hL1.bel hbel).get hlt
      have hxn := hx.len
      have hxl : n' ≤ 1048576 := by
        have h5 := h3.out x (by have : x ∈ ls.drop k := by rw [hdx]; simp
                                exact List.mem_of_mem_drop this)
        rw [hx.len] at h5; omega
      have hM1 : (joinL (ls.take (k + 1))).length = m + (n' + 2) := by rw [joinL_take ht]; simp only [List.length_append, List.length_cons, List.length_nil]; rw [HM.out, hxn]; omega
      by_cases hov : n < m + (n' + 2)
      · have hR := rec_none (G1.out k (by omega) HN.out (by rw [hM1]; omega))
        have E1 := Lib.hid hR.1; have E2 := Lib.hid hR.2
        have hov' : (n : Int) < (m : Int) + ((n' : Int) + 2) := by omega
        clear hR ht hdx hxe hM1 ho
        go_wp2
        go_returns
        unfold RetR4
        rw [E1.out, E2.out]
        exact ⟨_, rfl, Own.nil _ _ _ _, below_then hb1 hbel⟩
      · have hov' : ¬ (n : Int) < (m : Int) + ((n' : Int) + 2) := by omega
        have q1 := hx.str (P := Try.prog) 22 5 9 Try.underlying22 Try.underlying5 Try.underlying9
        have hbq := dot_beq hx.wf
        obtain ⟨s1, hs1⟩ : ∃ s1, strOfNums x = s1 := ⟨_, rfl⟩
        rw [hs1] at q1 hbq
        clear hs1
        by_cases hdot : x = [46]
        · have hR := rec_some (G2.out x k ht (by omega) HN.out (by rw [hM1]; omega) hdot)
          rw [hM1, HR.out] at hR
          have E1 := Lib.hid hR.1; have E2 := Lib.hid hR.2
          rw [decide_eq_true hdot] at hbq
          clear hR ht hdx hxe hM1 hdot HN
          go_wp2
          go_returns
          unfold RetR4
          rw [E1.out, E2.out]
          exact ⟨_, rfl, ho.mono hb1.size, below_then hb1 hbel⟩
        · rw [decide_eq_false hdot] at hbq
          have HN1 := Lib.hid (nodot_take ht HN.out hdot)
          have HRS := right_snoc ht
          rw [HR.out] at HRS
          have HK := join_drop_at ht
          have hlat : (joinL ((ls.take k).map dropV)).length + (dropV x).length + 2 ≤ (joinL ls).length := by
            have h6 := join_drop_take ls (k + 1)
            rw [HK] at h6; simp only [List.length_append, List.length_cons, List.length_nil] at h6; omega
          have hform : dotV x = true → ∃ y r, x = 46 :: y :: r := by
            intro hv
            cases x with
            | nil => cases hv
            | cons z t =>
              rw [dotV_cons] at hv
              have hz : z = 46 := by simpa using hv
              subst hz
              cases t with
              | nil => exact absurd rfl hdot
              | cons y r => exact ⟨y, r, rfl⟩
          have HKK := Lib.hid HK; have HM2 := Lib.hid hM1
          clear ht hdx hxe hM1 HK hdot HN
          have hxle := hx.le
          have hxcm := hx.cm
          unfold maxLen at hxcm
          cases hv : dotV x with
          | true =>
            obtain ⟨y, r, rfl⟩ := hform hv
            have hn2 : 2 ≤ n' := by rw [← hxn]; simp
            have hta := hx.tail (j := 1) (by omega)
            obtain ⟨b', o', rfl, _⟩ := hx.form (by omega)
            unfold tailA at hta
            rw [if_neg (by omega), Option.map_some, add_plain] at hta
            have hc0 : wr.cell? ⟨b', o', none⟩ = some (.int .u8 46) := by simpa using hx.cell (j := 0) (by omega)
            have hc1 : wr.cell? ⟨b', o' + 1, none⟩ = some (.int .u8 y) := by simpa using hx.cell (j := 1) (by omega)
            have h11 : ¬ c' = 1 := by omega
            have e1 : dropV (46 :: y :: r) = y :: r := by unfold dropV; rw [if_pos hv]; rfl
            have hrl : r.length + 2 = n' := by simpa using hxn
            rw [e1] at hlat HKK
            simp only [List.length_cons] at hlat
            have hHR : rightL (ls.take (k + 1)) = (bb && (y == 46)) := by
              rw [HRS, hv, show (46 :: y :: r).drop 1 = y :: r from rfl, dotV_cons]
              simp only [Bool.not_true, Bool.false_or]
              congr 1
            have HR2 := Lib.hid hHR
            have HTA := hta
            clear hform hv e1 HRS hHR hxn
            cases bb
            all_goals
              go_wp2_with (first | (at_builtin; refine wpList_app rfl rfl eltB (by decide) rfl rfl (ho1.alloc _) (Sl.new _ .u8 5 [13, 10] (by decide) (by decide)) (hb3.alloc (by omega) _) (by refine ⟨?_, ?_⟩ <;> first | omega | (simp; done) | (simp; omega)) (by first | omega | (simp; done) | (simp; omega)) ?_; intro v4 w4 ho4 hb4 hg4) | ((at_builtin; refine wpList_app rfl rfl eltB (by decide) rfl rfl ho HTA hbel (by refine ⟨?_, ?_⟩ <;> first | omega | (simp; done) | (simp; omega)) (by first | omega | (simp; done) | (simp; omega)) ?_; intro v3 w3 ho1 hb3 hg3); have hzz := hb3.size; have hll : (joinL ((ls.take k).map dropV) ++ (46 :: y :: r).drop 1).length ≤ 1073741824 := by (rw [List.length_append]; show _ + (r.length + 1) ≤ _; omega)))
              (first | (go_roundw; (case rel => exact ⟨k + 1, _, m + (n' + 2), by omega, by go_num, by go_num, rfl, HM2, HR2, by omega, HN1, by rw [HKK.out]; exact ho4, hb4⟩); (case measure => first | (simp [intOf] <;> omega) | (simp [lenOf] <;> omega))) | (refine ⟨?_, ?measure⟩; (repeat apply Exists.intro); refine ⟨?rel, ?eqs⟩; (case eqs => first | rfl | ((repeat (refine ⟨rfl, ?_⟩)); rfl)); (case rel => exact ⟨k + 1, _, m + (n' + 2), by omega, by go_num, by go_num, rfl, HM2, HR2, by omega, HN1, by rw [HKK.out]; exact ho4, hb4⟩); (case measure => first | (simp [intOf] <;> omega) | (simp [lenOf] <;> omega))) | ((repeat apply Exists.intro); refine ⟨?rel, ?eqs⟩; (case eqs => first | rfl | ((repeat (refine ⟨rfl, ?_⟩)); rfl)); (case rel => exact ⟨k + 1, _, m + (n' + 2), by omega, by go_num, by go_num, rfl, HM2, HR2, by omega, HN1, by rw [HKK.out]; exact ho4, hb4⟩)))
          | false =>
            have e1 : dropV x = x := by unfold dropV; rw [if_neg (by simp [hv])]
            rw [e1] at hlat HKK
            rw [hv] at HRS
            simp only [Bool.not_false, Bool.true_or, Bool.and_true] at HRS
            have HR2 := Lib.hid HRS
            clear e1 HRS
            have hcase : n' = 0 ∨ (0 < n' ∧ ∃ b' o' z, A' = some ⟨b', o', none⟩ ∧ wr.cell? ⟨b', o', none⟩ = some (.int .u8 z) ∧ (z == 46) = false) := by
              rcases Nat.eq_zero_or_pos n' with h0 | h0
              · exact .inl h0
              · obtain ⟨b', o', z, e, _, hc, _, hd, _⟩ := hx.get (j := 0) h0
                refine .inr ⟨h0, b', o', z, e, by simpa using hc, ?_⟩
                rw [List.drop_zero] at hd
                rw [hd, dotV_cons] at hv
                simpa using hv
            clear hv
            rcases hcase with h0 | ⟨h0, b', o', z, rfl, hz0, hz1⟩
            · subst h0
              go_wp2_with (first | (at_builtin; refine wpList_app rfl rfl eltB (by decide) rfl rfl (ho1.alloc _) (Sl.new _ .u8 5 [13, 10] (by decide) (by decide)) (hb3.alloc (by omega) _) (by refine ⟨?_, ?_⟩ <;> first | omega | (simp; done) | (simp; omega)) (by first | omega | (simp; done) | (simp; omega)) ?_; intro v4 w4 ho4 hb4 hg4) | ((at_builtin; refine wpList_app rfl rfl eltB (by decide) rfl rfl ho hx hbel (by refine ⟨?_, ?_⟩ <;> first | omega | (simp; done) | (simp; omega)) (by first | omega | (simp; done) | (simp; omega)) ?_; intro v3 w3 ho1 hb3 hg3); have hzz := hb3.size; have hll : (joinL ((ls.take k).map dropV) ++ x).length ≤ 1073741824 := by (rw [List.length_append]; omega)))
              (first | (go_roundw; (case rel => exact ⟨k + 1, bb, m + (0 + 2), by omega, by go_num, by go_num, rfl, HM2, HR2, by omega, HN1, by rw [HKK.out]; exact ho4, hb4⟩); (case measure => first | (simp [intOf] <;> omega) | (simp [lenOf] <;> omega))) | (refine ⟨?_, ?measure⟩; (repeat apply Exists.intro); refine ⟨?rel, ?eqs⟩; (case eqs => first | rfl | ((repeat (refine ⟨rfl, ?_⟩)); rfl)); (case rel => exact ⟨k + 1, bb, m + (0 + 2), by omega, by go_num, by go_num, rfl, HM2, HR2, by omega, HN1, by rw [HKK.out]; exact ho4, hb4⟩); (case measure => first | (simp [intOf] <;> omega) | (simp [lenOf] <;> omega))) | ((repeat apply Exists.intro); refine ⟨?rel, ?eqs⟩; (case eqs => first | rfl | ((repeat (refine ⟨rfl, ?_⟩)); rfl)); (case rel => exact ⟨k + 1, bb, m + (0 + 2), by omega, by go_num, by go_num, rfl, HM2, HR2, by omega, HN1, by rw [HKK.out]; exact ho4, hb4⟩)))
            · go_wp2_with (first | (at_builtin; refine wpList_app rfl rfl eltB (by decide) rfl rfl (ho1.alloc _) (Sl.new _ .u8 5 [13, 10] (by decide) (by decide)) (hb3.alloc (by omega) _) (by refine ⟨?_, ?_⟩ <;> first | omega | (simp; done) | (simp; omega)) (by first | omega | (simp; done) | (simp; omega)) ?_; intro v4 w4 ho4 hb4 hg4) | ((at_builtin; refine wpList_app rfl rfl eltB (by decide) rfl rfl ho hx hbel (by refine ⟨?_, ?_⟩ <;> first | omega | (simp; done) | (simp; omega)) (by first | omega | (simp; done) | (simp; omega)) ?_; intro v3 w3 ho1 hb3 hg3); have hzz := hb3.size; have hll : (joinL ((ls.take k).map dropV) ++ x).length ≤ 1073741824 := by (rw [List.length_append]; omega)))
              (first | (go_roundw; (case rel => exact ⟨k + 1, bb, m + (n' + 2), by omega, by go_num, by go_num, rfl, HM2, HR2, by omega, HN1, by rw [HKK.out]; exact ho4, hb4⟩); (case measure => first | (simp [intOf] <;> omega) | (simp [lenOf] <;> omega))) | (refine ⟨?_, ?measure⟩; (repeat apply Exists.intro); refine ⟨?rel, ?eqs⟩; (case eqs => first | rfl | ((repeat (refine ⟨rfl, ?_⟩)); rfl)); (case rel => exact ⟨k + 1, bb, m + (n' + 2), by omega, by go_num, by go_num, rfl, HM2, HR2, by omega, HN1, by rw [HKK.out]; exact ho4, hb4⟩); (case measure => first | (simp [intOf] <;> omega) | (simp [lenOf] <;> omega))) | ((repeat apply Exists.intro); refine ⟨?rel, ?eqs⟩; (case eqs => first | rfl | ((repeat (refine ⟨rfl, ?_⟩)); rfl)); (case rel => exact ⟨k + 1, bb, m + (n' + 2), by omega, by go_num, by go_num, rfl, HM2, HR2, by omega, HN1, by rw [HKK.out]; exact ho4, hb4⟩)))
    · rw [List.take_of_length_le (by omega)] at HN
      have hR := rec_none (G3.out HN.out)
      have E1 := Lib.hid hR.1; have E2 := Lib.hid hR.2
      clear hR ho
      go_wp2
      go_returns
      unfold RetR4
      rw [E1.out, E2.out]
      exact ⟨_, rfl, Own.nil _ _ _ _, below_then hb1 hbel⟩
end Go.Proofs.Ytlmkhjegckgmcaa
