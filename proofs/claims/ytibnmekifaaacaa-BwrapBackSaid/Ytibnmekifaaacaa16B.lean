/- Layer 16 (bwrap): lines read: what the functions of the program and of the reference return. Conditions: the arguments read as lists; lengths at most 3000; the variable MaxLen holds a number. -/
import Derived.Test.Ytibnmekifaaacaa16
namespace Go.Proofs.Ytibnmekifaaacaa
open Go.RowKit

theorem codF_start (xs : List Int) : codL xs = codF [] [] xs := rfl
set_option maxRecDepth 100000 in
set_option maxHeartbeats 4000000 in
theorem p16_code {A n c xs} {w : World} (hs : Sl w .u8 A n c xs) (hn : n ≤ 65536) (hM : MaxL w) : Calls Try.prog 26 #[.slice A n c] w (RetOwn (fun v => .tuple #[v, .int .i64 (codL xs).2]) 5 .u8 (codL xs).1 w) := by
  have kc := fun (w : World) (C : Array Value) (n c : Nat) => Lib.run_convert_bytes_const (P := Try.prog) w 22 5 C n c Try.underlying22 Try.underlying5
  go_enter Try.func26, Try.ntmps26
  go_wp2
  go_step3
  go_wp2
  go_step3
  go_wp2
  go_loopw [0, 4] (fun s v wr => ∃ (A2 : Option Addr) (m c2 : Nat) (ds ys : List Int), s = .slice A2 m c2 ∧ Sl w .u8 A2 m c2 ds ∧ m ≤ n ∧ Own wr w.heap.size 5 .u8 v ys ∧ ys.length + m ≤ n ∧ Hid (codL xs = codF ys [] ds) ∧ Below w.heap.size w wr) (fun s _ _ => lenOf s)
  case atStart => exact ⟨_, _, _, _, [], rfl, hs, Nat.le_refl _, Own.nil _ _ _ _, by simp, rfl, Below.refl _ _⟩
  case round =>
    clear hs
    obtain ⟨A2, m, c2, ds, ys, rfl, hsy, hmn, ho, hyl, hI, hbel⟩ := hrel
    have hz := hbel.size
    have hs' := hsy.bel hbel
    have hM' := hM.bel hbel
    have hl := hsy.len
    have hbB := hbel.alloc hz (.cells ([13, 10].map (Value.int .u8)).toArray 5 (2, 3))
    by_cases h0 : 0 < m
    · rcases cutI_bd ds with hc | ⟨k, hc, hk⟩
      · have hy : ds ≠ [] := by intro h; rw [h] at hl; simp at hl; omega
        have hI2 := hI.out
        rw [codF_none hc hy] at hI2
        have HC := Lib.hid hc
        clear hI hc hy
        by_cases h76 : 76 < m
        · rw [if_pos (by omega)] at hI2
          have HE := Lib.hid hI2
          clear hI2
          go_wp2_with (((go_at_call 35; refine (lib_Cut0 (hs'.alloc _) (Sl.newF _ .u8 5 [13, 10] _ (by decide) (by decide)) (hM'.alloc _) (by omega) HC.out).mono ?_; rintro e w1 ⟨rfl, hb1⟩)); have hW1 := below_then' ((Below.refl wr.heap.size wr).alloc (Nat.le_refl _) _) hb1 (Nat.le_refl _); have hB1 := below_then' hbel hW1 (Nat.le_refl _))
          go_ret2
          exact ⟨_, ret2 rfl (vint (by rw [HE.out])), by rw [HE.out]; exact Own.nil _ _ _ _, hB1⟩
        · rw [if_neg (by omega)] at hI2
          have HE := Lib.hid hI2
          clear hI2
          go_wp2_with (((go_at_call 35; refine (lib_Cut0 (hs'.alloc _) (Sl.newF _ .u8 5 [13, 10] _ (by decide) (by decide)) (hM'.alloc _) (by omega) HC.out).mono ?_; rintro e w1 ⟨rfl, hb1⟩)); have hW1 := below_then' ((Below.refl wr.heap.size wr).alloc (Nat.le_refl _) _) hb1 (Nat.le_refl _); have hB1 := below_then' hbel hW1 (Nat.le_refl _))
          go_ret2
          exact ⟨_, ret2 rfl (vint (by rw [HE.out])), by rw [HE.out]; exact Own.nil _ _ _ _, hB1⟩
      · have hk2 : k + 2 ≤ m := by omega
        have hI2 := hI.out
        rw [codF_at hc] at hI2
        have HC := Lib.hid hc
        have hfr := hsy.take_ (m := k) (by omega)
        have hta := hsy.tail (j := k + 2) hk2
        obtain ⟨A3, hA3⟩ : ∃ A3, tailA A2 c2 (k + 2) = A3 := ⟨_, rfl⟩
        have hcut := fun {W : World} {A' c'} (h1 : Sl W .u8 A2 m c2 ds) (h2 : Sl W .u8 A' 2 c' [13, 10]) (h3 : MaxL W) => lib_Cut1 h1 h2 h3 (by omega) HC.out
        rw [hA3] at hta
        simp only [hA3] at hcut
        clear hI hc hA3
        by_cases h76 : 76 < k
        · rw [if_pos h76] at hI2
          have HE := Lib.hid hI2
          clear hI2
          go_wp2_with (((go_at_call 35; refine (hcut (hs'.alloc _) (Sl.newF _ .u8 5 [13, 10] _ (by decide) (by decide)) (hM'.alloc _)).mono ?_; rintro e w1 ⟨rfl, hb1⟩)); have hW1 := below_then' ((Below.refl wr.heap.size wr).alloc (Nat.le_refl _) _) hb1 (Nat.le_refl _); have hB1 := below_then' hbel hW1 (Nat.le_refl _))
          go_ret2
          exact ⟨_, ret2 rfl (vint (by rw [HE.out])), by rw [HE.out]; exact Own.nil _ _ _ _, hB1⟩
        · rw [if_neg h76] at hI2
          by_cases hk0 : k = 0
          · rw [if_pos hk0] at hI2
            subst hk0
            have HE := Lib.hid hI2
            clear hI2
            go_wp2_with (((go_at_call 35; refine (hcut (hs'.alloc _) (Sl.newF _ .u8 5 [13, 10] _ (by decide) (by decide)) (hM'.alloc _)).mono ?_; rintro e w1 ⟨rfl, hb1⟩)); have hW1 := below_then' ((Below.refl wr.heap.size wr).alloc (Nat.le_refl _) _) hb1 (Nat.le_refl _); have hB1 := below_then' hbel hW1 (Nat.le_refl _))
            go_ret2
            exact ⟨_, ret2 rfl (vint (by rw [HE.out])), by rw [HE.out]; exact Own.nil _ _ _ _, hB1⟩
          · rw [if_neg hk0] at hI2
            have HE := Lib.hid hI2
            have htl : (ds.take k).length = k := by rw [List.length_take]; omega
            clear hI2
            go_wp2_with (first | (at_builtin; refine wpList_app rfl rfl eltB (by decide) rfl rfl (ho.below hW1) hs1 hB1 (by refine ⟨?_, ?_⟩ <;> first | omega | (simp; done) | (simp; omega)) (by first | omega | (simp; done) | (simp; omega)) ?_; intro v3 w3 ho3 hb3 hg3) | (((go_at_call 35; refine (hcut (hs'.alloc _) (Sl.newF _ .u8 5 [13, 10] _ (by decide) (by decide)) (hM'.alloc _)).mono ?_; rintro e w1 ⟨rfl, hb1⟩)); have hW1 := below_then' ((Below.refl wr.heap.size wr).alloc (Nat.le_refl _) _) hb1 (Nat.le_refl _); have hB1 := below_then' hbel hW1 (Nat.le_refl _); have hz1 := hB1.size; have hs1 := hfr.bel hB1))
            (first | (go_roundw; (case rel => exact ⟨_, _, _, _, _, rfl, hta, by omega, ho3, by rw [List.length_append, htl]; omega, HE, hb3⟩); (case measure => first | (simp [intOf] <;> omega) | (simp [lenOf] <;> omega))) | (refine ⟨?_, ?measure⟩; (repeat apply Exists.intro); refine ⟨?rel, ?eqs⟩; (case eqs => first | rfl | ((repeat (refine ⟨rfl, ?_⟩)); rfl)); (case rel => exact ⟨_, _, _, _, _, rfl, hta, by omega, ho3, by rw [List.length_append, htl]; omega, HE, hb3⟩); (case measure => first | (simp [intOf] <;> omega) | (simp [lenOf] <;> omega))) | ((repeat apply Exists.intro); refine ⟨?rel, ?eqs⟩; (case eqs => first | rfl | ((repeat (refine ⟨rfl, ?_⟩)); rfl)); (case rel => exact ⟨_, _, _, _, _, rfl, hta, by omega, ho3, by rw [List.length_append, htl]; omega, HE, hb3⟩)))
    · obtain rfl : m = 0 := by omega
      obtain rfl : ds = [] := List.eq_nil_of_length_eq_zero hl
      have hI2 := hI.out
      rw [codF_nil, if_pos rfl] at hI2
      have HE := Lib.hid hI2
      clear hI hI2
      go_wp2
      go_ret2
      exact ⟨_, ret2 rfl (vint (by rw [HE.out])), by rw [HE.out]; exact ho, hbel⟩

theorem er16_no {xs : List Int} (h : (codL xs).2 ≠ 0) : er16 xs = (codL xs).2 ∧ rd16 xs = [] := ⟨by unfold er16; rw [if_neg h], by unfold rd16; rw [if_neg h]⟩
theorem er16_on {xs : List Int} (h : (codL xs).2 = 0) : er16 xs = errB (codL xs).1 ∧ rd16 xs = octB (codL xs).1 := ⟨by unfold er16; rw [if_pos h], by unfold rd16; rw [if_pos h]⟩
theorem rd16_err {xs : List Int} (h : er16 xs ≠ 0) : rd16 xs = [] := by
  by_cases h0 : (codL xs).2 = 0
  · rw [(er16_on h0).2]; rw [(er16_on h0).1] at h; unfold octB; rw [if_neg h]
  · exact (er16_no h0).2
theorem rd16_len (xs : List Int) : (rd16 xs).length ≤ xs.length := by
  unfold rd16
  split
  · unfold octB
    split
    · have h1 := codL_len xs
      have h2 := oct8_len (sixB (codL xs).1)
      rw [h2, sixB, sixesL_length]
      have h3 : (bodyL (codL xs).1).length ≤ (codL xs).1.length := Nat.le_trans (strip1_le _) (strip1_le _)
      omega
    · simp
  · simp

set_option maxRecDepth 100000 in
set_option maxHeartbeats 2000000 in
theorem p16_Read {A n c xs} {w : World} (hs : Sl w .u8 A n c xs) (hn : n ≤ 65536) (hM : MaxL w) : Calls Try.prog 16 #[.slice A n c] w (RetOwn (fun v => .tuple #[v, .int .i64 (er16 xs)]) 5 .u8 (rd16 xs) w) := by
  have hcl := codL_len xs
  rw [hs.len] at hcl
  have hp := p16_code hs hn hM
  have H1 := Lib.hid (er16_no (xs := xs)); have H2 := Lib.hid (er16_on (xs := xs))
  obtain ⟨cv, hcv⟩ : ∃ cv, codL xs = cv := ⟨_, rfl⟩
  obtain ⟨cs, e⟩ := cv
  rw [hcv] at hp hcl
  simp only [hcv] at H1 H2
  clear hcv
  by_cases he : e = 0
  · subst he
    obtain ⟨e1, e2⟩ := H2.out rfl
    rw [e1, e2]
    clear H1 H2 e1 e2
    go_enter Try.func16, Try.ntmps16
    go_wp2_with fail
    refine hp.mono ?_
    rintro e w1 ⟨v1, rfl, ho1, hb1⟩
    obtain ⟨A1, n1, c1, rfl, hs1⟩ := ho1.sl
    have hl1 := hs1.len
    clear ho1
    (try simp only at hs1 hl1 hcl)
    go_wp2_with fail
    refine (p14_Read hs1 (by omega)).mono ?_
    rintro e w2 ⟨v2, rfl, ho2, hb2⟩
    go_wp2
    go_ret2
    exact ⟨_, rfl, ho2.mono hb1.size, below_then hb1 hb2⟩
  · obtain ⟨e1, e2⟩ := H1.out he
    have fe : (e != 0) = true := by simpa using he
    rw [e1, e2]
    clear H1 H2 e1 e2
    go_enter Try.func16, Try.ntmps16
    go_wp2_with fail
    refine hp.mono ?_
    rintro e w1 ⟨v1, rfl, ho1, hb1⟩
    clear ho1
    go_wp2
    go_ret2
    exact ⟨_, rfl, Own.nil _ _ _ _, hb1⟩
set_option maxRecDepth 100000 in
set_option maxHeartbeats 1000000 in
theorem p16_Check {A n c xs} {w : World} (hs : Sl w .u8 A n c xs) (hn : n ≤ 65536) (hM : MaxL w) : Calls Try.prog 18 #[.slice A n c] w (RetB (.int .i64 (er16 xs)) w) := by
  go_enter Try.func18, Try.ntmps18
  go_wp2_with fail
  refine (p16_Read hs hn hM).mono ?_
  rintro e w1 ⟨v1, rfl, ho1, hb1⟩
  go_wp2
  go_ret
  exact ⟨rfl, hb1⟩
set_option maxRecDepth 100000 in
set_option maxHeartbeats 1000000 in
theorem p16_Loose {A n c xs} {w : World} (hs : Sl w .u8 A n c xs) (hn : n ≤ 65536) : Calls Try.prog 20 #[.slice A n c] w (RetOwn id 5 .u8 (lrdL xs) w) := by
  go_enter Try.func20, Try.ntmps20
  go_wp2_with fail
  refine (p15_Read hs (by omega)).mono ?_
  rintro e w1 ⟨v1, rfl, ho1, hb1⟩
  go_wp2
  go_ret
  exact ⟨_, rfl, ho1, hb1⟩
set_option maxRecDepth 100000 in
set_option maxHeartbeats 1000000 in
theorem p16_Again {A n c xs} {w : World} (hs : Sl w .u8 A n c xs) (hn : n ≤ 3000) : Calls Try.prog 21 #[.slice A n c] w (RetOwn id 5 .u8 (wrapL (layL (lrdL xs))) w) := by
  have hl := lrd_len xs
  rw [hs.len] at hl
  go_enter Try.func21, Try.ntmps21
  go_wp2_with fail
  refine (p16_Loose hs (by omega)).mono ?_
  rintro e w1 ⟨v1, rfl, ho1, hb1⟩
  obtain ⟨A1, n1, c1, rfl, hs1⟩ := ho1.sl
  have hl1 := hs1.len
  clear ho1
  go_wp2_with fail
  refine (p16_Lay hs1 (by omega)).mono ?_
  rintro e w2 ⟨v2, rfl, ho2, hb2⟩
  go_wp2
  go_ret
  exact ⟨_, rfl, ho2.mono hb1.size, below_then hb1 hb2⟩

/-- the code that the reference's check hands back -/
def cod16 (xs : List Int) : List Int := if er16 xs = 0 then (codL xs).1 else []
theorem cod16_err {xs : List Int} (h : er16 xs ≠ 0) : cod16 xs = [] := if_neg h
set_option maxRecDepth 100000 in
set_option maxHeartbeats 4000000 in
theorem r16_Check {A n c xs} {w : World} (hs : Sl w .u8 A n c xs) (hn : n ≤ 65536) : Calls Try.prog 15 #[.slice A n c] w (RetOwn (fun v => .tuple #[v, .int .i64 (er16 xs)]) 5 .u8 (cod16 xs) w) := by
  have HL := Lib.hid hs.len
  have hle := hs.le
  have hcm := hs.cm
  unfold maxLen at hcm
  have HB : Hid (∀ e, e ≠ 0 → codL xs = ([], e) → er16 xs = e ∧ cod16 xs = []) := by
    intro e he h
    have h2 : (codL xs).2 ≠ 0 := by rw [h]; exact he
    have h3 := (er16_no h2).1
    rw [h] at h3
    exact ⟨h3, cod16_err (by rw [h3]; exact he)⟩
  go_enter Try.func15, Try.ntmps15
  go_wp2
  go_loopw [4, 5, 6] (fun v g i wr => ∃ (k m : Nat) (ys cur : List Int), k ≤ n ∧ i = .int .i64 k ∧ g = .int .i64 m ∧ cur.length = m ∧ m ≤ 76 ∧ Own wr w.heap.size 5 .u8 v (ys ++ cur) ∧ (ys ++ cur).length ≤ k ∧ Hid (codL xs = codF ys cur (xs.drop k)) ∧ Below w.heap.size w wr) (fun _ _ i _ => n - (intOf i).toNat)
  case atStart => exact ⟨0, 0, [], [], Nat.zero_le _, rfl, rfl, rfl, by omega, Own.nil _ _ _ _, by simp, rfl, Below.refl _ _⟩
  case round =>
    obtain ⟨k, m, ys, cur, hk, rfl, rfl, hcl, hm76, ho, hyl, hI, hbel⟩ := hrel
    have hz := hbel.size
    have hs' := hs.bel hbel
    by_cases hlt : k < n
    · obtain ⟨b, o, x, rfl, hb, hcell, hwf, hd, _⟩ := hs'.get hlt
      have hcase : (nl x (xs.drop (k + 1)) = true) ∨ (nl x (xs.drop (k + 1)) = false) := by cases nl x (xs.drop (k + 1)) <;> simp
      rcases hcase with hnl | hnl
      · obtain ⟨rfl, r', hr'⟩ := nl_cons hnl
        have hk1 : k + 1 < n := by
          have h5 := congrArg List.length hr'
          have h6 := HL.out
          simp only [List.length_drop, List.length_cons] at h5
          omega
        obtain ⟨b2, o2, y, e2, _, hcell2, _, hd2, _⟩ := hs'.get hk1
        injection e2 with e2; injection e2 with e21 e22 _
        subst e21; subst e22
        rw [hd2] at hr'
        injection hr' with hy hr''
        subst hy
        have hI2 := hI.out
        rw [hd, hd2, codF_nl, if_neg (by omega)] at hI2
        clear hI hd hd2 hnl hr''
        by_cases hm0 : m = 0
        · subst hm0
          rw [if_pos (List.eq_nil_of_length_eq_zero hcl)] at hI2
          obtain ⟨g1, g2⟩ := HB.out 3 (by decide) hI2
          have G1 := Lib.hid g1; have G2 := Lib.hid g2
          clear hI2 g1 g2
          go_wp2
          go_ret2
          exact ⟨_, ret2 rfl (vint G1.out.symm), by rw [G2.out]; exact Own.nil _ _ _ _, hbel⟩
        · rw [if_neg (by intro h; rw [h] at hcl; simp at hcl; omega)] at hI2
          have fm : ((m : Int) == 0) = false := by simpa using hm0
          have HE := Lib.hid hI2
          clear hI2
          go_wp2
          (first | (go_roundw; (case rel => exact ⟨k + 2, 0, ys ++ cur, [], by omega, by go_num, rfl, rfl, by omega, by rw [List.append_nil]; exact ho, by rw [List.append_nil]; omega, by rw [show k + 1 + 1 = k + 2 from rfl] at HE; exact HE, hbel⟩); (case measure => first | (simp [intOf] <;> omega) | (simp [lenOf] <;> omega))) | (refine ⟨?_, ?measure⟩; (repeat apply Exists.intro); refine ⟨?rel, ?eqs⟩; (case eqs => first | rfl | ((repeat (refine ⟨rfl, ?_⟩)); rfl)); (case rel => exact ⟨k + 2, 0, ys ++ cur, [], by omega, by go_num, rfl, rfl, by omega, by rw [List.append_nil]; exact ho, by rw [List.append_nil]; omega, by rw [show k + 1 + 1 = k + 2 from rfl] at HE; exact HE, hbel⟩); (case measure => first | (simp [intOf] <;> omega) | (simp [lenOf] <;> omega))) | ((repeat apply Exists.intro); refine ⟨?rel, ?eqs⟩; (case eqs => first | rfl | ((repeat (refine ⟨rfl, ?_⟩)); rfl)); (case rel => exact ⟨k + 2, 0, ys ++ cur, [], by omega, by go_num, rfl, rfl, by omega, by rw [List.append_nil]; exact ho, by rw [List.append_nil]; omega, by rw [show k + 1 + 1 = k + 2 from rfl] at HE; exact HE, hbel⟩)))
      · have hI2 := hI.out
        rw [hd, codF_one hnl] at hI2
        have hcl2 : (cur ++ [x]).length = m + 1 := by simp; omega
        have hnot : ¬ (x = 13 ∧ k + 1 < n ∧ xs.getD (k + 1) 0 = 10) := by
          rintro ⟨hx, hk1, h10⟩
          have h7 := drop_getD xs (k + 1) (by have := HL.out; omega)
          rw [h7, hx, h10, nl_yes] at hnl
          exact absurd hnl (by decide)
        clear hI hd hnl
        have hgo : ∃ B : Bool, (if m + 1 ≤ 76 then B = true else B = false) ∧ ((B = true ∧ m + 1 ≤ 76) ∨ (B = false ∧ 76 < m + 1)) := by
          by_cases h : m + 1 ≤ 76
          · exact ⟨true, by rw [if_pos h], .inl ⟨rfl, h⟩⟩
          · exact ⟨false, by rw [if_neg h], .inr ⟨rfl, by omega⟩⟩
        clear hgo
        have hx3 : (x ≠ 13) ∨ (x = 13 ∧ ¬ k + 1 < n) ∨ (x = 13 ∧ k + 1 < n ∧ xs.getD (k + 1) 0 ≠ 10) := by
          by_cases hx : x = 13
          · by_cases hk1 : k + 1 < n
            · exact .inr (.inr ⟨hx, hk1, fun h => hnot ⟨hx, hk1, h⟩⟩)
            · exact .inr (.inl ⟨hx, hk1⟩)
          · exact .inl hx
        clear hnot
        by_cases h76 : m + 1 ≤ 76
        · have HE := Lib.hid hI2
          clear hI2
          rcases hx3 with hx | ⟨rfl, hk1⟩ | ⟨rfl, hk1, hy⟩
          · have fx : (x == 13) = false := by simpa using hx
            go_wp2_with (at_builtin; refine wpList_app rfl rfl eltB (by decide) rfl rfl (ho.alloc _) (Sl.one _ _ _ _ hwf) (hbel.alloc hz _) (by refine ⟨?_, ?_⟩ <;> first | omega | (simp; done) | (simp; omega)) (by first | omega | (simp; done) | (simp; omega)) ?_; intro v3 w3 ho3 hb3 hg3)
            (first | (go_roundw; (case rel => exact ⟨k + 1, m + 1, ys, cur ++ [x], by omega, by go_num, by go_num, hcl2, h76, by rw [← List.append_assoc]; exact ho3, by rw [← List.append_assoc]; simp only [List.length_append, List.length_cons, List.length_nil] at hyl ⊢; omega, HE, hb3⟩); (case measure => first | (simp [intOf] <;> omega) | (simp [lenOf] <;> omega))) | (refine ⟨?_, ?measure⟩; (repeat apply Exists.intro); refine ⟨?rel, ?eqs⟩; (case eqs => first | rfl | ((repeat (refine ⟨rfl, ?_⟩)); rfl)); (case rel => exact ⟨k + 1, m + 1, ys, cur ++ [x], by omega, by go_num, by go_num, hcl2, h76, by rw [← List.append_assoc]; exact ho3, by rw [← List.append_assoc]; simp only [List.length_append, List.length_cons, List.length_nil] at hyl ⊢; omega, HE, hb3⟩); (case measure => first | (simp [intOf] <;> omega) | (simp [lenOf] <;> omega))) | ((repeat apply Exists.intro); refine ⟨?rel, ?eqs⟩; (case eqs => first | rfl | ((repeat (refine ⟨rfl, ?_⟩)); rfl)); (case rel => exact ⟨k + 1, m + 1, ys, cur ++ [x], by omega, by go_num, by go_num, hcl2, h76, by rw [← List.append_assoc]; exact ho3, by rw [← List.append_assoc]; simp only [List.length_append, List.length_cons, List.length_nil] at hyl ⊢; omega, HE, hb3⟩)))
          · go_wp2_with (at_builtin; refine wpList_app rfl rfl eltB (by decide) rfl rfl (ho.alloc _) (Sl.one _ _ _ _ hwf) (hbel.alloc hz _) (by refine ⟨?_, ?_⟩ <;> first | omega | (simp; done) | (simp; omega)) (by first | omega | (simp; done) | (simp; omega)) ?_; intro v3 w3 ho3 hb3 hg3)
            (first | (go_roundw; (case rel => exact ⟨k + 1, m + 1, ys, cur ++ [13], by omega, by go_num, by go_num, hcl2, h76, by rw [← List.append_assoc]; exact ho3, by rw [← List.append_assoc]; simp only [List.length_append, List.length_cons, List.length_nil] at hyl ⊢; omega, HE, hb3⟩); (case measure => first | (simp [intOf] <;> omega) | (simp [lenOf] <;> omega))) | (refine ⟨?_, ?measure⟩; (repeat apply Exists.intro); refine ⟨?rel, ?eqs⟩; (case eqs => first | rfl | ((repeat (refine ⟨rfl, ?_⟩)); rfl)); (case rel => exact ⟨k + 1, m + 1, ys, cur ++ [13], by omega, by go_num, by go_num, hcl2, h76, by rw [← List.append_assoc]; exact ho3, by rw [← List.append_assoc]; simp only [List.length_append, List.length_cons, List.length_nil] at hyl ⊢; omega, HE, hb3⟩); (case measure => first | (simp [intOf] <;> omega) | (simp [lenOf] <;> omega))) | ((repeat apply Exists.intro); refine ⟨?rel, ?eqs⟩; (case eqs => first | rfl | ((repeat (refine ⟨rfl, ?_⟩)); rfl)); (case rel => exact ⟨k + 1, m + 1, ys, cur ++ [13], by omega, by go_num, by go_num, hcl2, h76, by rw [← List.append_assoc]; exact ho3, by rw [← List.append_assoc]; simp only [List.length_append, List.length_cons, List.length_nil] at hyl ⊢; omega, HE, hb3⟩)))
          · obtain ⟨b2, o2, y, e2, _, hcell2, _, hd2, _⟩ := hs'.get hk1
            injection e2 with e2; injection e2 with e21 e22 _
            subst e21; subst e22
            rw [drop_getD xs (k + 1) (by have := HL.out; omega)] at hd2
            injection hd2 with hy2 _
            rw [hy2] at hy
            have fy : (y == 10) = false := by simpa using hy
            clear hy2 hy
            go_wp2_with (at_builtin; refine wpList_app rfl rfl eltB (by decide) rfl rfl (ho.alloc _) (Sl.one _ _ _ _ hwf) (hbel.alloc hz _) (by refine ⟨?_, ?_⟩ <;> first | omega | (simp; done) | (simp; omega)) (by first | omega | (simp; done) | (simp; omega)) ?_; intro v3 w3 ho3 hb3 hg3)
            (first | (go_roundw; (case rel => exact ⟨k + 1, m + 1, ys, cur ++ [13], by omega, by go_num, by go_num, hcl2, h76, by rw [← List.append_assoc]; exact ho3, by rw [← List.append_assoc]; simp only [List.length_append, List.length_cons, List.length_nil] at hyl ⊢; omega, HE, hb3⟩); (case measure => first | (simp [intOf] <;> omega) | (simp [lenOf] <;> omega))) | (refine ⟨?_, ?measure⟩; (repeat apply Exists.intro); refine ⟨?rel, ?eqs⟩; (case eqs => first | rfl | ((repeat (refine ⟨rfl, ?_⟩)); rfl)); (case rel => exact ⟨k + 1, m + 1, ys, cur ++ [13], by omega, by go_num, by go_num, hcl2, h76, by rw [← List.append_assoc]; exact ho3, by rw [← List.append_assoc]; simp only [List.length_append, List.length_cons, List.length_nil] at hyl ⊢; omega, HE, hb3⟩); (case measure => first | (simp [intOf] <;> omega) | (simp [lenOf] <;> omega))) | ((repeat apply Exists.intro); refine ⟨?rel, ?eqs⟩; (case eqs => first | rfl | ((repeat (refine ⟨rfl, ?_⟩)); rfl)); (case rel => exact ⟨k + 1, m + 1, ys, cur ++ [13], by omega, by go_num, by go_num, hcl2, h76, by rw [← List.append_assoc]; exact ho3, by rw [← List.append_assoc]; simp only [List.length_append, List.length_cons, List.length_nil] at hyl ⊢; omega, HE, hb3⟩)))
        · rw [codF_long _ _ _ (by omega)] at hI2
          obtain ⟨g1, g2⟩ := HB.out 12 (by decide) hI2
          have G1 := Lib.hid g1; have G2 := Lib.hid g2
          clear hI2 g1 g2
          rcases hx3 with hx | ⟨rfl, hk1⟩ | ⟨rfl, hk1, hy⟩
          · have fx : (x == 13) = false := by simpa using hx
            go_wp2_with (at_builtin; refine wpList_app rfl rfl eltB (by decide) rfl rfl (ho.alloc _) (Sl.one _ _ _ _ hwf) (hbel.alloc hz _) (by refine ⟨?_, ?_⟩ <;> first | omega | (simp; done) | (simp; omega)) (by first | omega | (simp; done) | (simp; omega)) ?_; intro v3 w3 ho3 hb3 hg3)
            go_ret2
            exact ⟨_, ret2 rfl (vint G1.out.symm), by rw [G2.out]; exact Own.nil _ _ _ _, hb3⟩
          · go_wp2_with (at_builtin; refine wpList_app rfl rfl eltB (by decide) rfl rfl (ho.alloc _) (Sl.one _ _ _ _ hwf) (hbel.alloc hz _) (by refine ⟨?_, ?_⟩ <;> first | omega | (simp; done) | (simp; omega)) (by first | omega | (simp; done) | (simp; omega)) ?_; intro v3 w3 ho3 hb3 hg3)
            go_ret2
            exact ⟨_, ret2 rfl (vint G1.out.symm), by rw [G2.out]; exact Own.nil _ _ _ _, hb3⟩
          · obtain ⟨b2, o2, y, e2, _, hcell2, _, hd2, _⟩ := hs'.get hk1
            injection e2 with e2; injection e2 with e21 e22 _
            subst e21; subst e22
            rw [drop_getD xs (k + 1) (by have := HL.out; omega)] at hd2
            injection hd2 with hy2 _
            rw [hy2] at hy
            have fy : (y == 10) = false := by simpa using hy
            clear hy2 hy
            go_wp2_with (at_builtin; refine wpList_app rfl rfl eltB (by decide) rfl rfl (ho.alloc _) (Sl.one _ _ _ _ hwf) (hbel.alloc hz _) (by refine ⟨?_, ?_⟩ <;> first | omega | (simp; done) | (simp; omega)) (by first | omega | (simp; done) | (simp; omega)) ?_; intro v3 w3 ho3 hb3 hg3)
            go_ret2
            exact ⟨_, ret2 rfl (vint G1.out.symm), by rw [G2.out]; exact Own.nil _ _ _ _, hb3⟩
    · obtain rfl : k = n := by omega
      have hI2 := hI.out
      rw [List.drop_eq_nil_of_le (by have := HL.out; omega), codF_nil] at hI2
      clear hI
      by_cases hm0 : m = 0
      · subst hm0
        obtain rfl : cur = [] := List.eq_nil_of_length_eq_zero hcl
        rw [if_pos rfl] at hI2
        rw [List.append_nil] at ho hyl
        obtain ⟨A5, n5, c5, rfl, hs5⟩ := ho.sl
        have hl5 := hs5.len
        have h2 : (codL xs).2 = 0 := by rw [hI2]
        have g1 := (er16_on h2).1
        have g2 : errB ys = 0 → cod16 xs = ys := by
          intro h; unfold cod16; rw [g1, hI2]; simp only; rw [if_pos h]
        have g3 : errB ys ≠ 0 → cod16 xs = [] := by
          intro h; unfold cod16; rw [g1, hI2]; simp only; rw [if_neg h]
        rw [hI2] at g1
        simp only at g1
        have hr := fun (W : World) (h : Sl W .u8 A5 n5 c5 ys) => r14_Read h (by omega)
        obtain ⟨ee, hee⟩ : ∃ ee, errB ys = ee := ⟨_, rfl⟩
        rw [hee] at g1 g2 g3
        simp only [hee] at hr
        have G1 := Lib.hid g1
        have G2 := Lib.hid g2; have G3 := Lib.hid g3; have HR := Lib.hid hr
        clear hI2 h2 g1 g2 g3 hr hee
        by_cases he : ee = 0
        · subst he
          have G4 := Lib.hid (G2.out rfl)
          clear G2 G3
          go_wp2_with fail
          refine (HR.out _ hs5).mono ?_
          rintro e w6 ⟨v6, rfl, ho6, hb6⟩
          go_wp2
          go_ret2
          exact ⟨_, ret2 rfl (vint G1.out.symm), by rw [G4.out]; exact ho.below hb6, below_then' hbel hb6 (Nat.le_refl _)⟩
        · have fe : (ee != 0) = true := by simpa using he
          have G4 := Lib.hid (G3.out he)
          clear G2 G3
          go_wp2_with fail
          refine (HR.out _ hs5).mono ?_
          rintro e w6 ⟨v6, rfl, ho6, hb6⟩
          go_wp2
          go_ret2
          exact ⟨_, ret2 rfl (vint G1.out.symm), by rw [G4.out]; exact Own.nil _ _ _ _, below_then' hbel hb6 (Nat.le_refl _)⟩
      · rw [if_neg (by intro h; rw [h] at hcl; simp at hcl; omega), if_neg (by omega)] at hI2
        obtain ⟨g1, g2⟩ := HB.out 4 (by decide) hI2
        have G1 := Lib.hid g1; have G2 := Lib.hid g2
        clear hI2 g1 g2
        go_wp2
        go_ret2
        exact ⟨_, ret2 rfl (vint G1.out.symm), by rw [G2.out]; exact Own.nil _ _ _ _, hbel⟩
end Go.Proofs.Ytibnmekifaaacaa
