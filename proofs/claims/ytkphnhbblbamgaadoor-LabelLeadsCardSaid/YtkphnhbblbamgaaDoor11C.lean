/- Layer 11 (label): what a name leads to: what the functions of the program and of the reference return. Conditions: the arguments read as lists; lengths at most 2^30. -/
import Derived.Test.YtkphnhbblbamgaaDoor11B
namespace Go.Proofs.YtkphnhbblbamgaaDoor
open Go.RowKit Go.Maps Go.WideMaps

theorem bare_len (xs : List Int) : (bareL xs).length ≤ xs.length := by
  have h1 := tbL_len (cutS xs)
  have h2 := cutS_len xs
  unfold bareL; omega
theorem csE_zero {x : List Int} (h : csNum x = 0) : csE x = 10 := by unfold csE; rw [if_pos h]
theorem csE_some {x : List Int} (h : ¬ csNum x = 0) : csE x = 0 := by unfold csE; rw [if_neg h]
theorem cdE_zero {x : List Int} (h : cdNum x = 0) : cdE x = 11 := by unfold cdE; rw [if_pos h]
theorem cdE_some {x : List Int} (h : ¬ cdNum x = 0) : cdE x = 0 := by unfold cdE; rw [if_neg h]

set_option maxRecDepth 100000 in
set_option maxHeartbeats 2000000 in
theorem p11_Charset {A n c xs} {w : World} (hs : Sl w .u8 A n c xs) (hn : n ≤ 1073741824) : Calls Tryd.prog 26 #[.slice A n c] w (RetB (.tuple #[.int .i64 (csNum (keyN xs)), .int .i64 (csE (keyN xs))]) w) := by
  have hbl := bare_len xs
  rw [hs.len] at hbl
  have kc := fun (w : World) (A : Option Addr) (n c : Nat) (xs : List Int) (h : Sl w .u8 A n c xs) => h.str (P := Tryd.prog) 26 5 9 Tryd.underlying26 Tryd.underlying5 Tryd.underlying9
  go_enter Tryd.func26, Tryd.ntmps26
  go_wp2_with fail
  refine (p11_charsets (w := w)).mono ?_
  rintro e w1 ⟨b, m, rfl, hown1, hbge, hb1⟩
  go_wp2_with fail
  refine (p11_Bare (hs.bel hb1) hn).mono ?_
  rintro e w2 ⟨v2, rfl, ho2, hb2⟩
  obtain ⟨A2, n2, c2, rfl, hs2⟩ := ho2.sl
  clear ho2
  have hl2 := hs2.len
  have hown2 := ownsMap_bel hown1 hb2
  have hB2 := below_then hb1 hb2
  clear hown1 hb1 hb2
  go_wp2_with fail
  refine (p01_Fold hs2 (by omega)).mono ?_
  rintro e w3 ⟨v3, rfl, ho3, hb3⟩
  obtain ⟨A3, n3, c3, rfl, hs3⟩ := ho3.sl
  clear ho3
  have hl3 : (keyN xs).length = n3 := hs3.len
  have hfl : (keyN xs).length = (bareL xs).length := fld_len _
  have hown3 := ownsMap_bel hown2 hb3
  have hB3 := below_then hB2 hb3
  have hwf3 : ∀ x ∈ keyN xs, (Lit.int .u8 x).wf = true := hs3.wf
  have hkc := kc w3 A3 n3 c3 _ hs3
  have hkey := key_mk2 (x := keyN xs) (by omega)
  have hlk := dm_look hwf3
  clear hown2 hB2 hb3 kc hs2 hs3
  rw [show fldL (bareL xs) = keyN xs from rfl] at hkc
  obtain ⟨s, hsq⟩ : ∃ s, strOfNums (keyN xs) = s := ⟨_, rfl⟩
  rw [hsq] at hkc hkey
  clear hsq
  have HE0 := @csE_zero (keyN xs)
  have HE1 := @csE_some (keyN xs)
  obtain ⟨N, hN⟩ : ∃ N, csNum (keyN xs) = N := ⟨_, rfl⟩
  obtain ⟨EE, hEE⟩ : ∃ EE, csE (keyN xs) = EE := ⟨_, rfl⟩
  rw [hN] at hlk HE0 HE1
  rw [hEE] at HE0 HE1
  obtain ⟨kk, hkk⟩ : ∃ kk, keyT (keyN xs) = kk := ⟨_, rfl⟩
  rw [hkk] at hkey hlk
  obtain ⟨hlk1, hlk2⟩ := hlk
  clear hkk hwf3
  by_cases hz : N = 0
  · subst hz
    obtain rfl := HE0 rfl
    rw [show decide (¬ (0 : Int) = 0) = false from rfl] at hlk1
    clear HE0 HE1 hlk2
    go_wp2_with (at_lookup; refine wpList_lookup_own_ok_int _ rfl _ _ 47 rfl 9 3 .i64 lawN Tryd.underlying47 Tryd.underlying3 (zeroN _) b m (dmN 5) rfl hown3 _ _ rfl hkey ?_; intro c hat hwc; rw [hlk1])
    go_ret2
    exact ⟨by rw [hN, hEE]; rfl, hB3⟩
  · obtain rfl := HE1 hz
    rw [show decide (¬ N = 0) = true from decide_eq_true hz] at hlk1
    clear HE0 HE1
    go_wp2_with (at_lookup; refine wpList_lookup_own_ok_int _ rfl _ _ 47 rfl 9 3 .i64 lawN Tryd.underlying47 Tryd.underlying3 (zeroN _) b m (dmN 5) rfl hown3 _ _ rfl hkey ?_; intro c hat hwc; obtain rfl := hlk2 0 c hat hz; rw [hlk1])
    go_ret2
    exact ⟨by rw [hN, hEE]; rfl, hB3⟩
set_option maxRecDepth 100000 in
set_option maxHeartbeats 2000000 in
theorem r11_Charset {A n c xs} {w : World} (hs : Sl w .u8 A n c xs) (hn : n ≤ 1073741824) : Calls Tryd.prog 27 #[.slice A n c] w (RetB (.tuple #[.int .i64 (csNum (keyN xs)), .int .i64 (csE (keyN xs))]) w) := by
  have hbl := bare_len xs
  rw [hs.len] at hbl
  have kc := fun (w : World) (A : Option Addr) (n c : Nat) (xs : List Int) (h : Sl w .u8 A n c xs) => h.str (P := Tryd.prog) 26 5 9 Tryd.underlying26 Tryd.underlying5 Tryd.underlying9
  go_enter Tryd.func27, Tryd.ntmps27
  go_wp2_with fail
  refine (r11_Bare hs hn).mono ?_
  rintro e w2 ⟨A2, n2, c2, rfl, hs2, hB2⟩
  have hl2 := hs2.len
  go_wp2_with fail
  refine (r01_Fold hs2 (by omega)).mono ?_
  rintro e w3 ⟨v3, rfl, ho3, hb3⟩
  obtain ⟨A3, n3, c3, rfl, hs3⟩ := ho3.sl
  clear ho3
  have hB3 := below_then hB2 hb3
  have hwf3 : ∀ x ∈ keyN xs, (Lit.int .u8 x).wf = true := hs3.wf
  have hkc := kc w3 A3 n3 c3 _ hs3
  rw [show fldL (bareL xs) = keyN xs from rfl] at hkc
  clear hB2 hb3 kc hs2 hs3
  obtain ⟨x, hx⟩ : ∃ x, keyN xs = x := ⟨_, rfl⟩
  rw [hx] at hwf3 hkc
  have hbeq : ∀ y : List Int, (∀ a ∈ y, (Lit.int .u8 a).wf = true) → ((strOfNums y).toList == (strOfNums x).toList) = decide (y = x) := fun y hy => str_is hy hwf3
  obtain ⟨s, hsq⟩ : ∃ s, strOfNums x = s := ⟨_, rfl⟩
  rw [hsq] at hkc hbeq
  have HBQ := Lib.hid hbeq
  clear hsq hbeq
  go_wp2
  go_loopw [5, 6, 7] (fun i _ _ wr => ∃ k : Nat, 1 ≤ k ∧ k ≤ 6 ∧ i = .int .i64 k ∧ Hid (∀ j : Nat, 1 ≤ j → j < k → x ∉ nmL j) ∧ Below w.heap.size w wr) (fun i _ _ _ => 6 - (intOf i).toNat)
  case atStart => exact ⟨1, by omega, by omega, rfl, by show ∀ _, _; intro j _ _; omega, hB3⟩
  case round =>
    obtain ⟨k, hk1, hk6, rfl, hno, hbel⟩ := hrel
    by_cases h6 : k = 6
    · subst h6
      have hc0 := cs_none (x := x) (fun j h1 h2 => hno.out j h1 (by omega))
      clear hno
      go_wp2
      go_ret2
      exact ⟨by rw [hx, csE_zero hc0, hc0]; rfl, hbel⟩
    · go_wp2_with fail
      refine (r11_Names (k := (k : Nat))).mono ?_
      rintro e w1 ⟨A1, c1, rfl, hss1, hb1⟩
      have hl4 := nmL_len (k : Nat)
      have HW := Lib.hid (nmL_wf (k : Nat))
      have HM := Lib.hid (@cs_mem (k : Nat) x)
      have hB1 : Below w.heap.size w w1 := below_then hbel hb1
      have HNO : Hid (x ∉ nmL (k : Nat) → ∀ j : Nat, 1 ≤ j → j < k + 1 → x ∉ nmL j) := by
        show _ → _
        intro h j h1 h2
        by_cases e : j = k
        · subst e; exact h
        · exact hno.out j h1 (by omega)
      obtain ⟨l, hlq⟩ : ∃ l, nmL ((k : Nat) : Int) = l := ⟨_, rfl⟩
      rw [hlq] at hss1 hl4 HW HNO HM ⊢
      clear hlq hbel hno
      go_wp2
      go_loop [7] (fun i => ∃ j : Nat, j ≤ l.length ∧ i = .int .i64 j ∧ Hid (x ∉ l.take j)) (fun i => l.length - (intOf i).toNat)
      case atStart => exact ⟨0, by omega, rfl, by show _ ∉ _; simp⟩
      case round =>
        obtain ⟨j, hj, rfl, hni⟩ := hrel
        by_cases hlt : j < l.length
        · obtain ⟨b, rfl, hb, hcell⟩ := hss1.at_ j hlt
          have hmem : l.getD j [] ∈ l := by simp [List.getD_eq_getElem?_getD, hlt]
          have hbe := HBQ.out (l.getD j []) (HW.out _ hmem)
          have htk : l.take (j + 1) = l.take j ++ [l.getD j []] := by rw [List.take_succ_eq_append_getElem hlt]; simp [List.getD_eq_getElem?_getD, hlt]
          obtain ⟨y, hy⟩ : ∃ y, l.getD j [] = y := ⟨_, rfl⟩
          rw [hy] at hcell hmem hbe htk
          clear hy
          obtain ⟨s1, hsq⟩ : ∃ s1, strOfNums y = s1 := ⟨_, rfl⟩
          rw [hsq] at hcell hbe
          clear hsq
          by_cases hyx : y = x
          · have hx := hx.trans hyx.symm
            subst hyx
            have hcs := HM.out hmem
            have hne : ¬ csNum y = 0 := by rw [hcs]; omega
            rw [show decide (y = y) = true from by simp] at hbe
            clear htk HM HNO hni HBQ HW
            go_wp2
            go_ret2
            exact ⟨by first | (rw [hx, csE_some hne, hcs]; rfl) | (rw [csE_some hne]; rfl), hB1⟩
          · rw [show decide (y = x) = false from decide_eq_false hyx] at hbe
            have hn2 : Hid (x ∉ l.take (j + 1)) := by
              show _ ∉ _
              rw [htk]
              intro h
              rcases List.mem_append.1 h with h | h
              · exact hni.out h
              · exact hyx (List.mem_singleton.1 h).symm
            clear htk hni hmem
            go_wp2
            (go_round; (case rel => exact ⟨j + 1, by omega, by go_num, hn2⟩); (case measure => first | (simp [intOf] <;> omega) | (simp [lenOf] <;> omega)))
        · obtain rfl : j = l.length := by omega
          have hn3 : Hid (∀ i : Nat, 1 ≤ i → i < k + 1 → x ∉ nmL i) := HNO.out (by have := hni.out; rwa [List.take_length] at this)
          clear HNO hni HM
          go_wp2
          (first | (go_roundw; (case rel => exact ⟨k + 1, by omega, by omega, by go_num, hn3, hB1⟩); (case measure => first | (simp [intOf] <;> omega) | (simp [lenOf] <;> omega))) | (refine ⟨?_, ?measure⟩; (repeat apply Exists.intro); refine ⟨?rel, ?eqs⟩; (case eqs => first | rfl | ((repeat (refine ⟨rfl, ?_⟩)); rfl)); (case rel => exact ⟨k + 1, by omega, by omega, by go_num, hn3, hB1⟩); (case measure => first | (simp [intOf] <;> omega) | (simp [lenOf] <;> omega))) | ((repeat apply Exists.intro); refine ⟨?rel, ?eqs⟩; (case eqs => first | rfl | ((repeat (refine ⟨rfl, ?_⟩)); rfl)); (case rel => exact ⟨k + 1, by omega, by omega, by go_num, hn3, hB1⟩)))
set_option maxRecDepth 100000 in
set_option maxHeartbeats 2000000 in
theorem p11_Coding {A n c xs} {w : World} (hs : Sl w .u8 A n c xs) (hn : n ≤ 1073741824) : Calls Tryd.prog 28 #[.slice A n c] w (RetB (.tuple #[.int .i64 (cdNum (keyC xs)), .int .i64 (cdE (keyC xs))]) w) := by
  have hbl := tbL_len xs
  rw [hs.len] at hbl
  have kc := fun (w : World) (A : Option Addr) (n c : Nat) (xs : List Int) (h : Sl w .u8 A n c xs) => h.str (P := Tryd.prog) 26 5 9 Tryd.underlying26 Tryd.underlying5 Tryd.underlying9
  go_enter Tryd.func28, Tryd.ntmps28
  go_wp2_with fail
  refine (p01_Trim hs hn).mono ?_
  rintro e w2 ⟨v2, rfl, ho2, hB2⟩
  obtain ⟨A2, n2, c2, rfl, hs2⟩ := ho2.sl
  clear ho2
  have hl2 := hs2.len
  go_wp2_with fail
  refine (p01_Fold hs2 (by omega)).mono ?_
  rintro e w3 ⟨v3, rfl, ho3, hb3⟩
  obtain ⟨A3, n3, c3, rfl, hs3⟩ := ho3.sl
  clear ho3
  have hB3 := below_then hB2 hb3
  have hwf3 : ∀ x ∈ keyC xs, (Lit.int .u8 x).wf = true := hs3.wf
  have hkc := kc w3 A3 n3 c3 _ hs3
  rw [show fldL (tbL xs) = keyC xs from rfl] at hkc
  clear hB2 hb3 kc hs2 hs3
  obtain ⟨x, hx⟩ : ∃ x, keyC xs = x := ⟨_, rfl⟩
  rw [hx] at hwf3 hkc
  have hbeq : ∀ y : List Int, (∀ a ∈ y, (Lit.int .u8 a).wf = true) → ((strOfNums y).toList == (strOfNums x).toList) = decide (y = x) := fun y hy => str_is hy hwf3
  obtain ⟨s, hsq⟩ : ∃ s, strOfNums x = s := ⟨_, rfl⟩
  rw [hsq] at hkc hbeq
  have HBQ := Lib.hid hbeq
  clear hsq hbeq
  go_wp2
  go_loopw [5] (fun i wr => ∃ k : Nat, 1 ≤ k ∧ k ≤ 4 ∧ i = .int .i64 k ∧ Hid (∀ j : Nat, 1 ≤ j → j < k → cdL j ≠ x) ∧ Below w.heap.size w wr) (fun i _ => 4 - (intOf i).toNat)
  case atStart => exact ⟨1, by omega, by omega, rfl, by show ∀ _, _; intro j _ _; omega, hB3⟩
  case round =>
    obtain ⟨k, hk1, hk6, rfl, hno, hbel⟩ := hrel
    by_cases h6 : k = 4
    · subst h6
      have hc0 := cd_none (x := x) (fun j h1 h2 => hno.out j h1 (by omega))
      clear hno
      go_wp2
      go_ret2
      exact ⟨by rw [hx, cdE_zero hc0, hc0]; rfl, hbel⟩
    · have hbe := HBQ.out (cdL k) (cdL_wf k)
      obtain ⟨s1, hs1⟩ : ∃ s1, strOfNums (cdL k) = s1 := ⟨_, rfl⟩
      rw [hs1] at hbe
      have hcn := fun w => p11_CodingName (w := w) hs1
      clear hs1
      by_cases hyx : cdL k = x
      · rw [show decide (cdL k = x) = true from decide_eq_true hyx] at hbe
        have hcs := cd_mem hk1 (by omega) hyx
        have hne : ¬ cdNum x = 0 := by rw [hcs]; omega
        clear hno HBQ hyx
        go_wp2_with (go_at_call 33; refine (hcn _).mono ?_; rintro e w' ⟨rfl, rfl⟩)
        go_ret2
        exact ⟨by rw [hx, cdE_some hne, hcs]; rfl, hbel⟩
      · rw [show decide (cdL k = x) = false from decide_eq_false hyx] at hbe
        have hn2 : Hid (∀ j : Nat, 1 ≤ j → j < k + 1 → cdL j ≠ x) := by
          show ∀ _, _
          intro j h1 h2
          by_cases e : j = k
          · subst e; exact hyx
          · exact hno.out j h1 (by omega)
        clear hno hyx
        go_wp2_with (go_at_call 33; refine (hcn _).mono ?_; rintro e w' ⟨rfl, rfl⟩)
        (first | (go_roundw; (case rel => exact ⟨k + 1, by omega, by omega, by go_num, hn2, hbel⟩); (case measure => first | (simp [intOf] <;> omega) | (simp [lenOf] <;> omega))) | (refine ⟨?_, ?measure⟩; (repeat apply Exists.intro); refine ⟨?rel, ?eqs⟩; (case eqs => first | rfl | ((repeat (refine ⟨rfl, ?_⟩)); rfl)); (case rel => exact ⟨k + 1, by omega, by omega, by go_num, hn2, hbel⟩); (case measure => first | (simp [intOf] <;> omega) | (simp [lenOf] <;> omega))) | ((repeat apply Exists.intro); refine ⟨?rel, ?eqs⟩; (case eqs => first | rfl | ((repeat (refine ⟨rfl, ?_⟩)); rfl)); (case rel => exact ⟨k + 1, by omega, by omega, by go_num, hn2, hbel⟩)))
set_option maxRecDepth 100000 in
set_option maxHeartbeats 2000000 in
theorem r11_Coding {A n c xs} {w : World} (hs : Sl w .u8 A n c xs) (hn : n ≤ 1073741824) : Calls Tryd.prog 29 #[.slice A n c] w (RetB (.tuple #[.int .i64 (cdNum (keyC xs)), .int .i64 (cdE (keyC xs))]) w) := by
  have hbl := tbL_len xs
  rw [hs.len] at hbl
  have kc := fun (w : World) (A : Option Addr) (n c : Nat) (xs : List Int) (h : Sl w .u8 A n c xs) => h.str (P := Tryd.prog) 26 5 9 Tryd.underlying26 Tryd.underlying5 Tryd.underlying9
  go_enter Tryd.func29, Tryd.ntmps29
  go_wp2_with fail
  refine (r01_Trim hs).mono ?_
  rintro e w2 ⟨A2, n2, c2, rfl, hs2, hB2⟩
  have hl2 := hs2.len
  go_wp2_with fail
  refine (r01_Fold hs2 (by omega)).mono ?_
  rintro e w3 ⟨v3, rfl, ho3, hb3⟩
  obtain ⟨A3, n3, c3, rfl, hs3⟩ := ho3.sl
  clear ho3
  have hB3 := below_then hB2 hb3
  have hwf3 : ∀ x ∈ keyC xs, (Lit.int .u8 x).wf = true := hs3.wf
  have hkc := kc w3 A3 n3 c3 _ hs3
  rw [show fldL (tbL xs) = keyC xs from rfl] at hkc
  clear hB2 hb3 kc hs2 hs3
  obtain ⟨x, hx⟩ : ∃ x, keyC xs = x := ⟨_, rfl⟩
  rw [hx] at hwf3 hkc
  have hbeq : ∀ y : List Int, (∀ a ∈ y, (Lit.int .u8 a).wf = true) → ((strOfNums y).toList == (strOfNums x).toList) = decide (y = x) := fun y hy => str_is hy hwf3
  obtain ⟨s, hsq⟩ : ∃ s, strOfNums x = s := ⟨_, rfl⟩
  rw [hsq] at hkc hbeq
  have HBQ := Lib.hid hbeq
  clear hsq hbeq
  go_wp2
  go_loopw [5] (fun i wr => ∃ k : Nat, 1 ≤ k ∧ k ≤ 4 ∧ i = .int .i64 k ∧ Hid (∀ j : Nat, 1 ≤ j → j < k → cdL j ≠ x) ∧ Below w.heap.size w wr) (fun i _ => 4 - (intOf i).toNat)
  case atStart => exact ⟨1, by omega, by omega, rfl, by show ∀ _, _; intro j _ _; omega, hB3⟩
  case round =>
    obtain ⟨k, hk1, hk6, rfl, hno, hbel⟩ := hrel
    by_cases h6 : k = 4
    · subst h6
      have hc0 := cd_none (x := x) (fun j h1 h2 => hno.out j h1 (by omega))
      clear hno
      go_wp2
      go_ret2
      exact ⟨by rw [hx, cdE_zero hc0, hc0]; rfl, hbel⟩
    · have hbe := HBQ.out (cdL k) (cdL_wf k)
      obtain ⟨s1, hs1⟩ : ∃ s1, strOfNums (cdL k) = s1 := ⟨_, rfl⟩
      rw [hs1] at hbe
      have hcn := fun w => r11_CodingName (w := w) hs1
      clear hs1
      by_cases hyx : cdL k = x
      · rw [show decide (cdL k = x) = true from decide_eq_true hyx] at hbe
        have hcs := cd_mem hk1 (by omega) hyx
        have hne : ¬ cdNum x = 0 := by rw [hcs]; omega
        clear hno HBQ hyx
        go_wp2_with (go_at_call 45; refine (hcn _).mono ?_; rintro e w4 ⟨rfl, hb4⟩)
        go_ret2
        exact ⟨by rw [hx, cdE_some hne, hcs]; rfl, below_then hbel hb4⟩
      · rw [show decide (cdL k = x) = false from decide_eq_false hyx] at hbe
        have hn2 : Hid (∀ j : Nat, 1 ≤ j → j < k + 1 → cdL j ≠ x) := by
          show ∀ _, _
          intro j h1 h2
          by_cases e : j = k
          · subst e; exact hyx
          · exact hno.out j h1 (by omega)
        clear hno hyx
        go_wp2_with (go_at_call 45; refine (hcn _).mono ?_; rintro e w4 ⟨rfl, hb4⟩)
        (first | (go_roundw; (case rel => exact ⟨k + 1, by omega, by omega, by go_num, hn2, below_then hbel hb4⟩); (case measure => first | (simp [intOf] <;> omega) | (simp [lenOf] <;> omega))) | (refine ⟨?_, ?measure⟩; (repeat apply Exists.intro); refine ⟨?rel, ?eqs⟩; (case eqs => first | rfl | ((repeat (refine ⟨rfl, ?_⟩)); rfl)); (case rel => exact ⟨k + 1, by omega, by omega, by go_num, hn2, below_then hbel hb4⟩); (case measure => first | (simp [intOf] <;> omega) | (simp [lenOf] <;> omega))) | ((repeat apply Exists.intro); refine ⟨?rel, ?eqs⟩; (case eqs => first | rfl | ((repeat (refine ⟨rfl, ?_⟩)); rfl)); (case rel => exact ⟨k + 1, by omega, by omega, by go_num, hn2, below_then hbel hb4⟩)))
end Go.Proofs.YtkphnhbblbamgaaDoor
