/- Layer 43 (dots): sending: what the functions of the program and of the reference return. Conditions: the arguments read as lists; lengths at most 2^20; the variable MaxLen holds a number. -/
import Derived.Test.Ytlmkhjegckgmcaa43
namespace Go.Proofs.Ytlmkhjegckgmcaa
open Go.RowKit

theorem joinL_mem {ls : List (List Int)} {l : List Int} (h : l ∈ ls) : l.length + 2 ≤ (joinL ls).length := by
  induction ls with
  | nil => cases h
  | cons x r ih =>
    rw [joinL_cons]
    simp only [List.length_append, List.length_cons, List.length_nil]
    rcases List.mem_cons.1 h with rfl | h
    · omega
    · have := ih h; omega
theorem split_mem {xs l : List Int} (h : l ∈ splitL xs) : l.length ≤ xs.length := by
  have h1 := joinL_mem h
  have h2 := joinL_le xs
  omega
theorem join_line (ls : List (List Int)) : (joinL (ls.map lineV)).length ≤ (joinL ls).length + ls.length := by
  induction ls with
  | nil => simp [joinL]
  | cons x r ih =>
    rw [List.map_cons, joinL_cons, joinL_cons]
    have : (lineV x).length ≤ x.length + 1 := by unfold lineV; split <;> simp
    simp only [List.length_append, List.length_cons, List.length_nil]
    omega
theorem join_drop (ls : List (List Int)) : (joinL (ls.map dropV)).length ≤ (joinL ls).length := by
  induction ls with
  | nil => simp [joinL]
  | cons x r ih =>
    rw [List.map_cons, joinL_cons, joinL_cons]
    have : (dropV x).length ≤ x.length := by unfold dropV; split <;> simp
    simp only [List.length_append, List.length_cons, List.length_nil]
    omega
theorem send_len (xs : List Int) : (joinL ((splitL xs).map lineV)).length ≤ 2 * xs.length + 2 := by
  have h1 := join_line (splitL xs)
  have h2 := joinL_le xs
  have h3 := split_len xs
  omega
theorem strL_dot : strL { data := #[46, 13, 10] } = [46, 13, 10] := by decide

set_option maxRecDepth 100000 in
set_option maxHeartbeats 1000000 in
theorem p43_Send {A n c xs} {w : World} (hs : Sl w .u8 A n c xs) (hn : n ≤ 1048576) (hM : MaxL w) : Calls Try.prog 32 #[.slice A n c] w (RetOwn id 5 .u8 (sendV xs) w) := by
  have hl := hs.len
  have h1 := send_len xs
  have h2 := split_len xs
  have h3 := Lib.hid (fun l (h : l ∈ splitL xs) => split_mem h)
  unfold sendV
  go_enter Try.func32, Try.ntmps32
  go_wp2_with fail
  refine (p26_Split hs (by omega) hM).mono ?_
  rintro e w1 ⟨v1, rfl, ho1, hb1⟩
  obtain ⟨A1, n1, c1, rfl, hL1⟩ := ho1.lns
  have hl1 := hL1.len
  clear ho1
  go_wp2_with fail
  refine (p43_each turn_Line hL1 (by omega) (fun l h => by have := h3.out l h; omega) (by omega)).mono ?_
  rintro e w2 ⟨v2, rfl, ho2, hb2⟩
  have hB2 := below_then hb1 hb2
  have hz1 := hb1.size
  have hz2 := hb2.size
  go_wp2_with (at_builtin; refine wpList_appS rfl rfl eltB Try.underlying9 rfl rfl ho2 hB2 (by refine ⟨?_, ?_⟩ <;> first | omega | (simp; done) | (simp; omega)) (by first | omega | (show _ + 2 ≤ _; omega) | (show _ + 3 ≤ _; omega) | (simp; done) | (simp; omega)) ?_; intro v3 w3 ho3 hb3 hg3)
  rw [strL_dot] at ho3
  go_ret
  exact ⟨v3, rfl, ho3.mono hz1, hb3⟩

theorem dotN_app (a b : List (List Int)) : dotN (a ++ b) = dotN a + dotN b := by
  induction a with
  | nil => simp [dotN]
  | cons x r ih => rw [List.cons_append, dotN, dotN, ih]; omega
theorem dotN_take {ls : List (List Int)} {k : Nat} {x : List Int} (h : ls.take (k + 1) = ls.take k ++ [x]) : dotN (ls.take (k + 1)) = dotN (ls.take k) + if dotV x then 1 else 0 := by
  rw [h, dotN_app]; simp [dotN]
set_option maxRecDepth 100000 in
set_option maxHeartbeats 1000000 in
theorem p43_Dotted {A n c xs} {w : World} (hs : Sl w .u8 A n c xs) (hn : n ≤ 1048576) (hM : MaxL w) : Calls Try.prog 36 #[.slice A n c] w (RetB (.int .i64 (dotN (splitL xs))) w) := by
  have hl := hs.len
  have h2 := split_len xs
  obtain ⟨ls, hls⟩ : ∃ ls, splitL xs = ls := ⟨_, rfl⟩
  have hp := p26_Split hs (by omega) hM
  rw [hls] at hp h2
  rw [hls]
  clear hls
  go_enter Try.func36, Try.ntmps36
  go_wp2_with fail
  refine hp.mono ?_
  rintro e w1 ⟨v1, rfl, ho1, hb1⟩
  obtain ⟨A1, n1, c1, rfl, hL1⟩ := ho1.lns
  have hl1 := hL1.len
  have hle1 := hL1.le
  have hcm1 := hL1.cm
  unfold maxLen at hcm1
  clear ho1 hp
  go_wp2
  go_loopw [3, 9] (fun m i wr => ∃ k : Nat, k ≤ n1 ∧ i = .int .i64 k ∧ m = .int .i64 (dotN (ls.take k)) ∧ Below w.heap.size w wr ∧ Below w1.heap.size w1 wr) (fun _ i _ => n1 - (intOf i).toNat)
  case atStart => exact ⟨0, Nat.zero_le _, rfl, rfl, hb1, Below.refl _ _⟩
  case round =>
    obtain ⟨k, hk, rfl, rfl, hbel, hbel1⟩ := hrel
    have hd0 := dotN_le (ls.take k)
    have hkl : (ls.take k).length ≤ k := by simp; omega
    by_cases hlt : k < n1
    · obtain ⟨b, o, A', n', c', x, rfl, hb, hcell, hx, _, _, ht⟩ := (hL1.bel hbel1).get hlt
      have HT := Lib.hid (dotN_take ht)
      clear ht
      cases hv : dotV x with
      | true =>
        have HV := Lib.hid hv; clear hv
        go_wp2_with (first | (go_at_call 65; refine (p43_dottedE hx HV.out).mono ?_; rintro e w' ⟨rfl, rfl⟩))
        (first | (go_roundw; (case rel => exact ⟨k + 1, by omega, by go_num, vint (by rw [HT.out, HV.out]; rfl), hbel, hbel1⟩); (case measure => first | (simp [intOf] <;> omega) | (simp [lenOf] <;> omega))) | (refine ⟨?_, ?measure⟩; (repeat apply Exists.intro); refine ⟨?rel, ?eqs⟩; (case eqs => first | rfl | ((repeat (refine ⟨rfl, ?_⟩)); rfl)); (case rel => exact ⟨k + 1, by omega, by go_num, vint (by rw [HT.out, HV.out]; rfl), hbel, hbel1⟩); (case measure => first | (simp [intOf] <;> omega) | (simp [lenOf] <;> omega))) | ((repeat apply Exists.intro); refine ⟨?rel, ?eqs⟩; (case eqs => first | rfl | ((repeat (refine ⟨rfl, ?_⟩)); rfl)); (case rel => exact ⟨k + 1, by omega, by go_num, vint (by rw [HT.out, HV.out]; rfl), hbel, hbel1⟩)))
      | false =>
        have HV := Lib.hid hv; clear hv
        go_wp2_with (first | (go_at_call 65; refine (p43_dottedE hx HV.out).mono ?_; rintro e w' ⟨rfl, rfl⟩))
        (first | (go_roundw; (case rel => exact ⟨k + 1, by omega, by go_num, vint (by rw [HT.out, HV.out]; simp), hbel, hbel1⟩); (case measure => first | (simp [intOf] <;> omega) | (simp [lenOf] <;> omega))) | (refine ⟨?_, ?measure⟩; (repeat apply Exists.intro); refine ⟨?rel, ?eqs⟩; (case eqs => first | rfl | ((repeat (refine ⟨rfl, ?_⟩)); rfl)); (case rel => exact ⟨k + 1, by omega, by go_num, vint (by rw [HT.out, HV.out]; simp), hbel, hbel1⟩); (case measure => first | (simp [intOf] <;> omega) | (simp [lenOf] <;> omega))) | ((repeat apply Exists.intro); refine ⟨?rel, ?eqs⟩; (case eqs => first | rfl | ((repeat (refine ⟨rfl, ?_⟩)); rfl)); (case rel => exact ⟨k + 1, by omega, by go_num, vint (by rw [HT.out, HV.out]; simp), hbel, hbel1⟩)))
    · rw [List.take_of_length_le (by omega)]
      go_wp2
      go_ret
      exact ⟨rfl, hbel⟩

set_option maxRecDepth 100000 in
set_option maxHeartbeats 1000000 in
theorem r43_Send {A n c xs} {w : World} (hs : Sl w .u8 A n c xs) (hn : n ≤ 1048576) : Calls Try.prog 33 #[.slice A n c] w (RetOwn id 5 .u8 (sendV xs) w) := by
  have hl := hs.len
  have h1 := send_len xs
  have h2 := split_len xs
  have h3 := Lib.hid (fun l (h : l ∈ splitL xs) => split_mem h)
  obtain ⟨ls, hls⟩ : ∃ ls, splitL xs = ls := ⟨_, rfl⟩
  have hp := r26_Split hs (by omega)
  unfold sendV
  rw [hls] at hp h1 h2 h3
  rw [hls]
  clear hls
  go_enter Try.func33, Try.ntmps33
  go_wp2_with fail
  refine hp.mono ?_
  rintro e w1 ⟨A1, n1, c1, rfl, hL1, hb1⟩
  have hl1 := hL1.len
  have hle1 := hL1.le
  have hcm1 := hL1.cm
  unfold maxLen at hcm1
  clear hp
  go_wp2
  go_loopw [3, 5] (fun v i wr => ∃ k : Nat, k ≤ n1 ∧ i = .int .i64 k ∧ Own wr w1.heap.size 5 .u8 v (joinL ((ls.take k).map lineV)) ∧ Below w1.heap.size w1 wr) (fun _ i _ => n1 - (intOf i).toNat)
  case atStart => exact ⟨0, Nat.zero_le _, rfl, Own.nil _ _ _ _, Below.refl _ _⟩
  case round =>
    obtain ⟨k, hk, rfl, ho, hbel1⟩ := hrel
    have hz := hbel1.size
    have HT : (joinL ((ls.take k).map lineV)).length ≤ 2 * xs.length + 2 := by rw [List.map_take]; exact Nat.le_trans joinL_len_take h1
    by_cases hlt : k < n1
    · obtain ⟨b, o, A', n', c', x, rfl, hb, hcell, hx, hxe, hdx, ht⟩ := (hL1.bel hbel1).get hlt
      have hxl : n' ≤ 1048576 := by
        have h5 := h3.out x (by have : x ∈ ls.drop k := by rw [hdx]; simp
                                exact List.mem_of_mem_drop this)
        rw [hx.len] at h5; omega
      have HK := Lib.hid (show joinL ((ls.take (k + 1)).map lineV) = joinL ((ls.take k).map lineV) ++ lineV x ++ [13, 10] from by rw [map_take_succ ht, joinL_app]; simp [joinL])
      have hlat : (joinL ((ls.take k).map lineV)).length + (lineV x).length + 2 ≤ 2 * xs.length + 2 := by
        have : (joinL ((ls.take (k + 1)).map lineV)).length ≤ 2 * xs.length + 2 := by rw [List.map_take]; exact Nat.le_trans joinL_len_take h1
        rw [HK.out] at this; simp only [List.length_append, List.length_cons, List.length_nil] at this; omega
      clear ht hdx hxe
      go_wp2_with fail
      refine (r43_Line hx (by omega)).mono ?_
      rintro e w2 ⟨A2, n2, c2, rfl, hs2, hb2⟩
      have hl2 := hs2.len
      have hB2 := below_then' hbel1 hb2 (Nat.le_refl _)
      have hz2 := hb2.size
      have hz3 := hbel1.size
      go_wp2_with (first | (at_builtin; refine wpList_app rfl rfl eltB (by decide) rfl rfl (ho1.alloc _) (Sl.new _ .u8 5 [13, 10] (by decide) (by decide)) (hb3.alloc (by omega) _) (by refine ⟨?_, ?_⟩ <;> first | omega | (simp; done) | (simp; omega)) (by first | omega | (simp; done) | (simp; omega)) ?_; intro v4 w4 ho4 hb4 hg4) | ((at_builtin; refine wpList_app rfl rfl eltB (by decide) rfl rfl (ho.below hb2) hs2 hB2 (by refine ⟨?_, ?_⟩ <;> first | omega | (simp; done) | (simp; omega)) (by first | omega | (simp; done) | (simp; omega)) ?_; intro v3 w3 ho1 hb3 hg3); have hzz := hb3.size; have hll : (joinL ((ls.take k).map lineV) ++ lineV x).length ≤ 1073741824 := by (rw [List.length_append]; omega)))
      (first | (go_roundw; (case rel => exact ⟨k + 1, by omega, by go_num, by rw [HK.out]; exact ho4, hb4⟩); (case measure => first | (simp [intOf] <;> omega) | (simp [lenOf] <;> omega))) | (refine ⟨?_, ?measure⟩; (repeat apply Exists.intro); refine ⟨?rel, ?eqs⟩; (case eqs => first | rfl | ((repeat (refine ⟨rfl, ?_⟩)); rfl)); (case rel => exact ⟨k + 1, by omega, by go_num, by rw [HK.out]; exact ho4, hb4⟩); (case measure => first | (simp [intOf] <;> omega) | (simp [lenOf] <;> omega))) | ((repeat apply Exists.intro); refine ⟨?rel, ?eqs⟩; (case eqs => first | rfl | ((repeat (refine ⟨rfl, ?_⟩)); rfl)); (case rel => exact ⟨k + 1, by omega, by go_num, by rw [HK.out]; exact ho4, hb4⟩)))
    · rw [List.take_of_length_le (by omega)] at ho
      go_wp2_with (at_builtin; refine wpList_app rfl rfl eltB (by decide) rfl rfl (ho.alloc _) (Sl.new _ .u8 5 [46, 13, 10] (by decide) (by decide)) (hbel1.alloc (by omega) _) (by refine ⟨?_, ?_⟩ <;> first | omega | (simp; done) | (simp; omega)) (by first | omega | (simp; done) | (simp; omega)) ?_; intro v4 w4 ho4 hb4 hg4)
      go_ret
      exact ⟨v4, rfl, ho4.mono hb1.size, below_then hb1 hb4⟩
end Go.Proofs.Ytlmkhjegckgmcaa
