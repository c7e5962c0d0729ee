/- Layer 16 (bwrap): lines laid: what the functions of the program and of the reference return. Conditions: the arguments read as lists; lengths at most 3000. -/
import Derived.Test.YtibnmekifaaacaaLibD
import Derived.Test.Ytibnmekifaaacaa16S
import Derived.Test.Ytibnmekifaaacaa15E
import Derived.Lib.SlBytesConst
namespace Go.Proofs.Ytibnmekifaaacaa
open Go.RowKit

theorem lay_len (xs : List Int) : (layL xs).length ≤ 2 * xs.length + 4 := by
  have h6 := lenL_lay xs
  unfold lenL at h6
  split at h6 <;> omega
theorem wrap_le (xs : List Int) : (wrapL xs).length ≤ 3 * xs.length := by
  have := wrap_len xs
  rcases Nat.eq_zero_or_pos xs.length with h | h <;> omega

set_option maxRecDepth 100000 in
set_option maxHeartbeats 4000000 in
theorem p16_Lay {A n c xs} {w : World} (hs : Sl w .u8 A n c xs) (hn : n ≤ 3000) : Calls Try.prog 8 #[.slice A n c] w (RetOwn id 5 .u8 (wrapL (layL xs)) w) := by
  have hll := lay_len xs
  have hln := hs.len
  have hwl := wrap_le (layL xs)
  have hp := p14_Lay hs hn
  obtain ⟨cs, hcs⟩ : ∃ cs, layL xs = cs := ⟨_, rfl⟩
  rw [hcs] at hll hwl hp ⊢
  clear hcs
  go_enter Try.func8, Try.ntmps8
  go_wp2_with fail
  refine hp.mono ?_
  rintro e w1 ⟨A1, n1, c1, rfl, hs1, hb1⟩
  have hl1 := hs1.len
  go_wp2
  go_loopw [3, 4] (fun s v wr => ∃ (A2 : Option Addr) (m c2 : Nat) (ds ys : List Int), s = .slice A2 m c2 ∧ Sl w1 .u8 A2 m c2 ds ∧ m ≤ n1 ∧ Own wr w1.heap.size 5 .u8 v ys ∧ Hid (wrapL cs = ys ++ wrapL ds) ∧ Below w1.heap.size w1 wr) (fun s _ _ => lenOf s)
  case atStart => exact ⟨_, _, _, _, [], rfl, hs1, Nat.le_refl _, Own.nil _ _ _ _, rfl, Below.refl _ _⟩
  case round =>
    obtain ⟨A2, m, c2, ds, ys, rfl, hsy, hmn, ho, hI, hbel⟩ := hrel
    have hz := hbel.size
    have hsy' := hsy.bel hbel
    have hyl := hsy.len
    have hyle := hsy.le
    have hycm := hsy.cm
    unfold maxLen at hycm
    have hyy : ys.length ≤ 30000 := by
      have := congrArg List.length hI.out
      rw [List.length_append] at this
      omega
    by_cases h0 : 0 < m
    · obtain ⟨q, hq⟩ : ∃ q : Nat, min (m : Int) 76 = (q : Int) := ⟨min m 76, by omega⟩
      have hq1 : q ≤ m := by omega
      have hq2 : 0 < q := by omega
      have hqc : q ≤ c2 := by omega
      have hdq : ds.drop q = ds.drop 76 ∧ ds.take q = ds.take 76 := by
        by_cases h45 : m ≤ 76
        · rw [List.drop_eq_nil_of_le (by omega), List.drop_eq_nil_of_le (by omega), List.take_of_length_le (by omega), List.take_of_length_le (by omega)]; exact ⟨rfl, rfl⟩
        · rw [show q = 76 from by omega]; exact ⟨rfl, rfl⟩
      have hn1 : Hid (wrapL cs = (ys ++ ds.take q ++ [13, 10]) ++ wrapL (ds.drop q)) := by
        show _ = _
        rw [hI.out, wrap_line (by intro h; rw [h] at hyl; simp at hyl; omega), hdq.1, hdq.2]; simp
      have hta := hsy.tail (j := q) hq1
      have hfr := hsy'.take_ (m := q) hq1
      obtain ⟨b, o, rfl, _⟩ := hsy.form h0
      have hcase : (c2 = q ∧ tailA (some ⟨b, o, none⟩) c2 q = some ⟨b, o, none⟩) ∨ (¬ c2 = q ∧ tailA (some ⟨b, o, none⟩) c2 q = some ⟨b, o + q, none⟩) := by
        unfold tailA
        by_cases hc : c2 = q
        · exact .inl ⟨hc, if_pos hc⟩
        · exact .inr ⟨hc, by rw [if_neg hc, Option.map_some, add_plain]⟩
      clear hI hdq
      have hql : (ds.take q).length = q := by rw [List.length_take]; omega
      rcases hcase with ⟨hc, hA⟩ | ⟨hc, hA⟩
      · obtain rfl : m = q := by omega
        subst hc
        rw [hA, Nat.sub_self] at hta
        clear hA
        go_wp2_with (first | (at_builtin; refine wpList_appS rfl rfl eltB Try.underlying9 rfl rfl ho3 hb3 (by refine ⟨?_, ?_⟩ <;> first | omega | (simp; done) | (simp; omega)) (by first | omega | (show _ + 2 ≤ _; omega) | (show _ + 3 ≤ _; omega) | (simp; done) | (simp; omega)) ?_; intro v4 w4 ho4 hb4 hg4) | ((at_builtin; refine wpList_app rfl rfl eltB (by decide) rfl rfl ho hfr hbel (by refine ⟨?_, ?_⟩ <;> first | omega | (simp; done) | (simp; omega)) (by first | omega | (simp; done) | (simp; omega)) ?_; intro v3 w3 ho3 hb3 hg3); have hz3 := hb3.size; have hl3 : (ys ++ ds.take c2).length ≤ 1000000 := by (rw [List.length_append, hql]; omega)))
        rw [strL_crlf] at ho4
        (first | (go_roundw; (case rel => exact ⟨_, _, _, _, _, rfl, hta, by omega, ho4, hn1, hb4⟩); (case measure => first | (simp [intOf] <;> omega) | (simp [lenOf] <;> omega))) | (refine ⟨?_, ?measure⟩; (repeat apply Exists.intro); refine ⟨?rel, ?eqs⟩; (case eqs => first | rfl | ((repeat (refine ⟨rfl, ?_⟩)); rfl)); (case rel => exact ⟨_, _, _, _, _, rfl, hta, by omega, ho4, hn1, hb4⟩); (case measure => first | (simp [intOf] <;> omega) | (simp [lenOf] <;> omega))) | ((repeat apply Exists.intro); refine ⟨?rel, ?eqs⟩; (case eqs => first | rfl | ((repeat (refine ⟨rfl, ?_⟩)); rfl)); (case rel => exact ⟨_, _, _, _, _, rfl, hta, by omega, ho4, hn1, hb4⟩)))
      · rw [hA] at hta
        clear hA
        go_wp2_with (first | (at_builtin; refine wpList_appS rfl rfl eltB Try.underlying9 rfl rfl ho3 hb3 (by refine ⟨?_, ?_⟩ <;> first | omega | (simp; done) | (simp; omega)) (by first | omega | (show _ + 2 ≤ _; omega) | (show _ + 3 ≤ _; omega) | (simp; done) | (simp; omega)) ?_; intro v4 w4 ho4 hb4 hg4) | ((at_builtin; refine wpList_app rfl rfl eltB (by decide) rfl rfl ho hfr hbel (by refine ⟨?_, ?_⟩ <;> first | omega | (simp; done) | (simp; omega)) (by first | omega | (simp; done) | (simp; omega)) ?_; intro v3 w3 ho3 hb3 hg3); have hz3 := hb3.size; have hl3 : (ys ++ ds.take q).length ≤ 1000000 := by (rw [List.length_append, hql]; omega)))
        rw [strL_crlf] at ho4
        (first | (go_roundw; (case rel => exact ⟨_, _, _, _, _, rfl, hta, by omega, ho4, hn1, hb4⟩); (case measure => first | (simp [intOf] <;> omega) | (simp [lenOf] <;> omega))) | (refine ⟨?_, ?measure⟩; (repeat apply Exists.intro); refine ⟨?rel, ?eqs⟩; (case eqs => first | rfl | ((repeat (refine ⟨rfl, ?_⟩)); rfl)); (case rel => exact ⟨_, _, _, _, _, rfl, hta, by omega, ho4, hn1, hb4⟩); (case measure => first | (simp [intOf] <;> omega) | (simp [lenOf] <;> omega))) | ((repeat apply Exists.intro); refine ⟨?rel, ?eqs⟩; (case eqs => first | rfl | ((repeat (refine ⟨rfl, ?_⟩)); rfl)); (case rel => exact ⟨_, _, _, _, _, rfl, hta, by omega, ho4, hn1, hb4⟩)))
    · obtain rfl : m = 0 := by omega
      obtain rfl : ds = [] := List.eq_nil_of_length_eq_zero hyl
      have hls : wrapL cs = ys := by rw [hI.out, wrap_nil, List.append_nil]
      have HLS := Lib.hid hls
      clear hI hls
      go_wp2
      go_ret
      exact ⟨_, rfl, by rw [HLS.out]; exact ho.mono hb1.size, below_then hb1 hbel⟩

set_option maxRecDepth 100000 in
set_option maxHeartbeats 1000000 in
theorem p16_Lines {n : Int} {w : World} (hn : n ≤ 1152921504606846976) : Calls Try.prog 9 #[.int .i64 n] w (Ret (.int .i64 (linN n)) w) := by
  obtain ⟨l1, l2⟩ := lenL_bd n hn
  have e : linN n = lenL n / 76 + (if 0 < lenL n % 76 then 1 else 0) := by unfold linN; split <;> omega
  have hp := p14_Len (w := w) hn
  obtain ⟨l, hl⟩ : ∃ l, lenL n = l := ⟨_, rfl⟩
  rw [hl] at hp e l1 l2
  have E := Lib.hid e
  clear e hl
  go_enter Try.func9, Try.ntmps9
  go_wp2_with (go_at_call 23; refine hp.mono ?_; rintro e w' ⟨rfl, rfl⟩)
  all_goals
    go_ret
    refine ⟨ret_int ?_, rfl⟩
    rw [E.out]
    (first | (rw [if_pos (by omega)]; done) | (rw [if_pos (by omega)]; omega) | (rw [if_neg (by omega)]; omega))
set_option maxRecDepth 100000 in
set_option maxHeartbeats 1000000 in
theorem p16_Len {n : Int} {w : World} (hn : n ≤ 1152921504606846976) : Calls Try.prog 12 #[.int .i64 n] w (Ret (.int .i64 (wlenL n)) w) := by
  obtain ⟨l1, l2⟩ := lenL_bd n hn
  have h1 : 0 ≤ linN n ∧ linN n ≤ 1537228672809129304 := by unfold linN; omega
  obtain ⟨h1, h2⟩ := h1
  have hp := p14_Len (w := w) hn
  have hq := p16_Lines (w := w) hn
  have e : wlenL n = lenL n + 2 * linN n := rfl
  obtain ⟨l, hl⟩ : ∃ l, lenL n = l := ⟨_, rfl⟩
  obtain ⟨k, hk⟩ : ∃ k, linN n = k := ⟨_, rfl⟩
  rw [hl] at hp e l1 l2
  rw [hk] at hq e h1 h2
  have E := Lib.hid e
  clear e hl hk
  go_enter Try.func12, Try.ntmps12
  go_wp2_with (first | (go_at_call 23; refine hp.mono ?_; rintro e w' ⟨rfl, rfl⟩) | (go_at_call 9; refine hq.mono ?_; rintro e w' ⟨rfl, rfl⟩))
  go_ret
  exact ⟨ret_int (by first | (rw [E.out]; done) | (rw [E.out]; omega)), rfl⟩
set_option maxRecDepth 100000 in
set_option maxHeartbeats 1000000 in
theorem r16_Lines {n : Int} {w : World} (hn : n ≤ 1152921504606846976) : Calls Try.prog 13 #[.int .i64 n] w (Ret (.int .i64 (linN n)) w) := by
  obtain ⟨l1, l2⟩ := lenL_bd n hn
  have e : linN n = (lenL n + 75) / 76 := rfl
  have hp := r14_Len (w := w) hn
  obtain ⟨l, hl⟩ : ∃ l, lenL n = l := ⟨_, rfl⟩
  rw [hl] at hp e l1 l2
  have E := Lib.hid e
  clear e hl
  go_enter Try.func13, Try.ntmps13
  go_wp2_with (go_at_call 25; refine hp.mono ?_; rintro e w' ⟨rfl, rfl⟩)
  go_ret
  exact ⟨ret_int (by first | (rw [E.out]; done) | (rw [E.out]; omega)), rfl⟩
set_option maxRecDepth 100000 in
set_option maxHeartbeats 1000000 in
theorem r16_Len {n : Int} {w : World} (hn : n ≤ 1152921504606846976) : Calls Try.prog 14 #[.int .i64 n] w (Ret (.int .i64 (wlenL n)) w) := by
  obtain ⟨l1, l2⟩ := lenL_bd n hn
  have h1 : 0 ≤ linN n ∧ linN n ≤ 1537228672809129304 := by unfold linN; omega
  obtain ⟨h1, h2⟩ := h1
  have hp := r14_Len (w := w) hn
  have hq := r16_Lines (w := w) hn
  have e : wlenL n = lenL n + 2 * linN n := rfl
  obtain ⟨l, hl⟩ : ∃ l, lenL n = l := ⟨_, rfl⟩
  obtain ⟨k, hk⟩ : ∃ k, linN n = k := ⟨_, rfl⟩
  rw [hl] at hp e l1 l2
  rw [hk] at hq e h1 h2
  have E := Lib.hid e
  clear e hl hk
  go_enter Try.func14, Try.ntmps14
  go_wp2_with (first | (go_at_call 25; refine hp.mono ?_; rintro e w' ⟨rfl, rfl⟩) | (go_at_call 13; refine hq.mono ?_; rintro e w' ⟨rfl, rfl⟩))
  go_ret
  exact ⟨ret_int (by first | (rw [E.out]; done) | (rw [E.out]; omega)), rfl⟩

set_option maxRecDepth 100000 in
set_option maxHeartbeats 4000000 in
theorem r16_Lay {A n c xs} {w : World} (hs : Sl w .u8 A n c xs) (hn : n ≤ 3000) : Calls Try.prog 11 #[.slice A n c] w (RetOwn id 5 .u8 (wrapL (layL xs)) w) := by
  have hll := lay_len xs
  have hln := hs.len
  have hwl := wrap_le (layL xs)
  have hp := r14_Lay hs (by omega)
  obtain ⟨cs, hcs⟩ : ∃ cs, layL xs = cs := ⟨_, rfl⟩
  rw [hcs] at hll hwl hp ⊢
  clear hcs
  go_enter Try.func11, Try.ntmps11
  go_wp2_with fail
  refine hp.mono ?_
  rintro e w1 ⟨v1, rfl, ho1, hb1⟩
  obtain ⟨A1, n1, c1, rfl, hs1⟩ := ho1.sl
  have hl1 := hs1.len
  clear ho1
  go_wp2
  go_loopw [4, 5] (fun v i wr => ∃ (k : Nat) (ys : List Int), k ≤ n1 ∧ i = .int .i64 k ∧ Own wr w1.heap.size 5 .u8 v ys ∧ Hid (wrapL cs = ys ++ wrA (k % 76) (cs.drop k)) ∧ Below w1.heap.size w1 wr) (fun _ i _ => n1 - (intOf i).toNat)
  case atStart => exact ⟨0, [], Nat.zero_le _, rfl, Own.nil _ _ _ _, rfl, Below.refl _ _⟩
  case round =>
    obtain ⟨k, ys, hk, rfl, ho, hI, hbel⟩ := hrel
    have hz := hbel.size
    have hyy : ys.length ≤ 30000 := by
      have := congrArg List.length hI.out
      rw [List.length_append] at this
      omega
    by_cases hlt : k < n1
    · obtain ⟨b, o, x, rfl, hb, hcell0, hwf, hd, ht⟩ := hs1.get hlt
      have hcell := (hbel.cell (p := ⟨b, o + k, none⟩) hb).trans hcell0
      by_cases hend : k % 76 = 75 ∨ k + 1 = n1
      · have hr : k % 76 = 75 ∨ cs.drop (k + 1) = [] := by
          rcases hend with h | h
          · exact .inl h
          · exact .inr (List.drop_eq_nil_of_le (by omega))
        have hn1 : Hid (wrapL cs = (ys ++ [x] ++ [13, 10]) ++ wrA ((k + 1) % 76) (cs.drop (k + 1))) := by
          show _ = _
          rw [hI.out, hd, wrA_end hr]
          have e5 : wrA 0 (cs.drop (k + 1)) = wrA ((k + 1) % 76) (cs.drop (k + 1)) := by
            rcases hr with h | h
            · rw [show (k + 1) % 76 = 0 from by omega]
            · rw [h]; simp [wrA]
          rw [e5]; simp
        clear hI hd ht hr
        have hcnd : ((k : Int) % 76 = 75 ∨ (k : Int) = (n1 : Int) - 1) := by omega
        by_cases h75 : k % 76 = 75
        · have f75 : ((k : Int) % 76 == 75) = true := by simp; omega
          go_wp2_with (first | (at_builtin; refine wpList_app rfl rfl eltB (by decide) rfl rfl (ho3.alloc _) (Sl.new _ .u8 5 [13, 10] (by decide) (by decide)) (hb3.alloc hz3 _) (by refine ⟨?_, ?_⟩ <;> first | omega | (simp; done) | (simp; omega)) (by first | omega | (simp; done) | (simp; omega)) ?_; intro v4 w4 ho4 hb4 hg4) | ((at_builtin; refine wpList_app rfl rfl eltB (by decide) rfl rfl (ho.alloc _) (Sl.one _ _ _ _ hwf) (hbel.alloc hz _) (by refine ⟨?_, ?_⟩ <;> first | omega | (simp; done) | (simp; omega)) (by first | omega | (simp; done) | (simp; omega)) ?_; intro v3 w3 ho3 hb3 hg3); have hz3 := hb3.size; have hl3 : (ys ++ [x]).length ≤ 1000000 := by (simp; omega)))
          (first | (go_roundw; (case rel => exact ⟨k + 1, _, by omega, by go_num, ho4, hn1, hb4⟩); (case measure => first | (simp [intOf] <;> omega) | (simp [lenOf] <;> omega))) | (refine ⟨?_, ?measure⟩; (repeat apply Exists.intro); refine ⟨?rel, ?eqs⟩; (case eqs => first | rfl | ((repeat (refine ⟨rfl, ?_⟩)); rfl)); (case rel => exact ⟨k + 1, _, by omega, by go_num, ho4, hn1, hb4⟩); (case measure => first | (simp [intOf] <;> omega) | (simp [lenOf] <;> omega))) | ((repeat apply Exists.intro); refine ⟨?rel, ?eqs⟩; (case eqs => first | rfl | ((repeat (refine ⟨rfl, ?_⟩)); rfl)); (case rel => exact ⟨k + 1, _, by omega, by go_num, ho4, hn1, hb4⟩)))
        · have f75 : ((k : Int) % 76 == 75) = false := by simp; omega
          have fe : ((k : Int) == (n1 : Int) - 1) = true := by simp; omega
          go_wp2_with (first | (at_builtin; refine wpList_app rfl rfl eltB (by decide) rfl rfl (ho3.alloc _) (Sl.new _ .u8 5 [13, 10] (by decide) (by decide)) (hb3.alloc hz3 _) (by refine ⟨?_, ?_⟩ <;> first | omega | (simp; done) | (simp; omega)) (by first | omega | (simp; done) | (simp; omega)) ?_; intro v4 w4 ho4 hb4 hg4) | ((at_builtin; refine wpList_app rfl rfl eltB (by decide) rfl rfl (ho.alloc _) (Sl.one _ _ _ _ hwf) (hbel.alloc hz _) (by refine ⟨?_, ?_⟩ <;> first | omega | (simp; done) | (simp; omega)) (by first | omega | (simp; done) | (simp; omega)) ?_; intro v3 w3 ho3 hb3 hg3); have hz3 := hb3.size; have hl3 : (ys ++ [x]).length ≤ 1000000 := by (simp; omega)))
          (first | (go_roundw; (case rel => exact ⟨k + 1, _, by omega, by go_num, ho4, hn1, hb4⟩); (case measure => first | (simp [intOf] <;> omega) | (simp [lenOf] <;> omega))) | (refine ⟨?_, ?measure⟩; (repeat apply Exists.intro); refine ⟨?rel, ?eqs⟩; (case eqs => first | rfl | ((repeat (refine ⟨rfl, ?_⟩)); rfl)); (case rel => exact ⟨k + 1, _, by omega, by go_num, ho4, hn1, hb4⟩); (case measure => first | (simp [intOf] <;> omega) | (simp [lenOf] <;> omega))) | ((repeat apply Exists.intro); refine ⟨?rel, ?eqs⟩; (case eqs => first | rfl | ((repeat (refine ⟨rfl, ?_⟩)); rfl)); (case rel => exact ⟨k + 1, _, by omega, by go_num, ho4, hn1, hb4⟩)))
      · have hn1 : Hid (wrapL cs = (ys ++ [x]) ++ wrA ((k + 1) % 76) (cs.drop (k + 1))) := by
          show _ = _
          rw [hI.out, hd, wrA_on (by omega) (by intro h; have := congrArg List.length h; rw [List.length_drop, List.length_nil] at this; omega), show (k + 1) % 76 = k % 76 + 1 from by omega]
          simp
        clear hI hd ht
        have f75 : ((k : Int) % 76 == 75) = false := by simp; omega
        have fe : ((k : Int) == (n1 : Int) - 1) = false := by simp; omega
        go_wp2_with (at_builtin; refine wpList_app rfl rfl eltB (by decide) rfl rfl (ho.alloc _) (Sl.one _ _ _ _ hwf) (hbel.alloc hz _) (by refine ⟨?_, ?_⟩ <;> first | omega | (simp; done) | (simp; omega)) (by first | omega | (simp; done) | (simp; omega)) ?_; intro v3 w3 ho3 hb3 hg3)
        (first | (go_roundw; (case rel => exact ⟨k + 1, _, by omega, by go_num, ho3, hn1, hb3⟩); (case measure => first | (simp [intOf] <;> omega) | (simp [lenOf] <;> omega))) | (refine ⟨?_, ?measure⟩; (repeat apply Exists.intro); refine ⟨?rel, ?eqs⟩; (case eqs => first | rfl | ((repeat (refine ⟨rfl, ?_⟩)); rfl)); (case rel => exact ⟨k + 1, _, by omega, by go_num, ho3, hn1, hb3⟩); (case measure => first | (simp [intOf] <;> omega) | (simp [lenOf] <;> omega))) | ((repeat apply Exists.intro); refine ⟨?rel, ?eqs⟩; (case eqs => first | rfl | ((repeat (refine ⟨rfl, ?_⟩)); rfl)); (case rel => exact ⟨k + 1, _, by omega, by go_num, ho3, hn1, hb3⟩)))
    · have hd : cs.drop k = [] := List.drop_eq_nil_of_le (by omega)
      have hls : wrapL cs = ys := by rw [hI.out, hd]; simp [wrA]
      have HLS := Lib.hid hls
      clear hI hd hls
      go_wp2
      go_ret
      exact ⟨_, rfl, by rw [HLS.out]; exact ho.mono hb1.size, below_then hb1 hbel⟩
end Go.Proofs.Ytibnmekifaaacaa
