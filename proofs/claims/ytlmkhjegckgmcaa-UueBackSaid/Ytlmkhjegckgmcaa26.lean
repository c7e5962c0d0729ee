/- Layer 26 (lines): lines split and joined: what the functions of the program and of the reference return. Conditions: the arguments read as lists; lengths at most 2^22; the variable MaxLen holds a number. -/
import Derived.Test.YtlmkhjegckgmcaaLibD
import Derived.Lib.SlBytesConst
namespace Go.Proofs.Ytlmkhjegckgmcaa
open Go.RowKit

theorem Try.info22 : (Try.prog.info? 22).map (fun i => (i.zero, i.size, i.bytes)) = some (some (.slice none 0 0), 1, 24) := by kernel_rfl
theorem eltL : EltS Try.prog 29 22 := ⟨Try.underlying29, Try.info22⟩

def RelS (w : World) (N : Nat) (xs : List Int) (s v : Value) (wr : World) : Prop :=
  ∃ A n c ys ls, s = .slice A n c ∧ Sl w .u8 A n c ys ∧ OwnL wr w.heap.size 22 v ls ∧ ls.length + n ≤ N ∧ Hid (splitL xs = ls ++ splitL ys) ∧ Below w.heap.size w wr

set_option maxRecDepth 100000 in
set_option maxHeartbeats 1000000 in
theorem p26_Split {A n c xs} {w : World} (hs : Sl w .u8 A n c xs) (hn : n ≤ 4194304) (hM : MaxL w) : Calls Try.prog 21 #[.slice A n c] w (RetOwnL id 22 (splitL xs) w) := by
  have kc := fun (w : World) (C : Array Value) (n c : Nat) => Lib.run_convert_bytes_const (P := Try.prog) w 22 5 C n c Try.underlying22 Try.underlying5
  go_enter Try.func21, Try.ntmps21
  go_wp2
  go_loopw [0, 3] (RelS w n xs) (fun s _ _ => lenOf s)
  case atStart => unfold RelS; exact ⟨A, n, c, xs, [], rfl, hs, OwnL.nil _ _ _, by simp, rfl, Below.refl _ _⟩
  case round =>
    clear hs
    obtain ⟨A, m, c, ys, ls, rfl, hs, ho, hlen, hI, hbel⟩ := hrel
    have hz := hbel.size
    have hs' := hs.bel hbel
    have hM' := hM.bel hbel
    by_cases h0 : 0 < m
    · rcases cutI_bd ys with hc | ⟨k, hc, hk⟩
      · have hy : ys ≠ [] := by intro h; have := hs.len; rw [h] at this; simp at this; omega
        have hI2 := hI.out
        rw [split_none hc hy] at hI2
        have HI2 := Lib.hid hI2
        have HC := Lib.hid hc
        clear hI hI2 hc hy
        go_wp2_with (first | ((go_at_call 58; refine (lib_Cut0 (hs'.alloc _) (Sl.newF _ .u8 5 [13, 10] _ (by decide) (by decide)) (hM'.alloc _) (by omega) HC.out).mono ?_; rintro e w1 ⟨rfl, hb1⟩); have hW1 := below_then' ((Below.refl wr.heap.size wr).alloc (Nat.le_refl _) _) hb1 (Nat.le_refl _); have hs1 := hs'.bel hW1) | ((go_at_call 59; refine (lib_BClone hs1 (by omega)).mono ?_; rintro e w2 ⟨v2, rfl, ho2, hb2⟩); have hW2 := below_then hW1 hb2; have hB2 := below_then' hbel hW2 (Nat.le_refl _); have hz2 := hB2.size; obtain ⟨A9, n9, c9, rfl, hs9⟩ := ho2.sl; clear hs9) | (at_builtin; refine wpList_appL rfl rfl eltL rfl rfl (ho.below hW2) (ho2.ln (by decide)) hB2 (by refine ⟨?_, ?_⟩ <;> first | omega | (simp; done) | (simp; omega)) (by first | omega | (simp; done) | (simp; omega)) ?_; intro v3 w3 ho3 hb3))
        (first | (go_roundw; (case rel => exact (by unfold RelS; exact ⟨_, _, _, [], _, rfl, Sl.nil _ _, ho3, by simp; omega, by show _ = _; rw [HI2.out]; simp [split_nil], hb3⟩)); (case measure => first | (simp [intOf] <;> omega) | (simp [lenOf] <;> omega))) | (refine ⟨?_, ?measure⟩; (repeat apply Exists.intro); refine ⟨?rel, ?eqs⟩; (case eqs => first | rfl | ((repeat (refine ⟨rfl, ?_⟩)); rfl)); (case rel => exact (by unfold RelS; exact ⟨_, _, _, [], _, rfl, Sl.nil _ _, ho3, by simp; omega, by show _ = _; rw [HI2.out]; simp [split_nil], hb3⟩)); (case measure => first | (simp [intOf] <;> omega) | (simp [lenOf] <;> omega))) | ((repeat apply Exists.intro); refine ⟨?rel, ?eqs⟩; (case eqs => first | rfl | ((repeat (refine ⟨rfl, ?_⟩)); rfl)); (case rel => exact (by unfold RelS; exact ⟨_, _, _, [], _, rfl, Sl.nil _ _, ho3, by simp; omega, by show _ = _; rw [HI2.out]; simp [split_nil], hb3⟩))))
      · have hl := hs.len
        have hk2 : k + 2 ≤ m := by omega
        have hsp := (split_at hc).2
        have hI2 := hI.out
        rw [hsp] at hI2
        have HI2 := Lib.hid hI2
        have HC := Lib.hid hc
        have hfr := hs.take_ (m := k) (by omega)
        have hta := hs.tail (j := k + 2) hk2
        obtain ⟨A2, hA2⟩ : ∃ A2, tailA A c (k + 2) = A2 := ⟨_, rfl⟩
        have hcut := fun {W : World} {A' c'} (h1 : Sl W .u8 A m c ys) (h2 : Sl W .u8 A' 2 c' [13, 10]) (h3 : MaxL W) => lib_Cut1 h1 h2 h3 (by omega) HC.out
        rw [hA2] at hta
        simp only [hA2] at hcut
        clear hI hI2 hc hsp hA2 hl
        go_wp2_with (first | ((go_at_call 58; refine (hcut (hs'.alloc _) (Sl.newF _ .u8 5 [13, 10] _ (by decide) (by decide)) (hM'.alloc _)).mono ?_; rintro e w1 ⟨rfl, hb1⟩); have hW1 := below_then' ((Below.refl wr.heap.size wr).alloc (Nat.le_refl _) _) hb1 (Nat.le_refl _); have hB1 := below_then' hbel hW1 (Nat.le_refl _); have hs1 := hfr.bel hB1) | ((go_at_call 59; refine (lib_BClone hs1 (by omega)).mono ?_; rintro e w2 ⟨v2, rfl, ho2, hb2⟩); have hW2 := below_then hW1 hb2; have hB2 := below_then' hbel hW2 (Nat.le_refl _); have hz2 := hB2.size; obtain ⟨A9, n9, c9, rfl, hs9⟩ := ho2.sl; clear hs9) | (at_builtin; refine wpList_appL rfl rfl eltL rfl rfl (ho.below hW2) (ho2.ln (by decide)) hB2 (by refine ⟨?_, ?_⟩ <;> first | omega | (simp; done) | (simp; omega)) (by first | omega | (simp; done) | (simp; omega)) ?_; intro v3 w3 ho3 hb3))
        (first | (go_roundw; (case rel => exact (by unfold RelS; exact ⟨_, _, _, _, _, rfl, hta, ho3, by simp; omega, by show _ = _; rw [HI2.out]; simp, hb3⟩)); (case measure => first | (simp [intOf] <;> omega) | (simp [lenOf] <;> omega))) | (refine ⟨?_, ?measure⟩; (repeat apply Exists.intro); refine ⟨?rel, ?eqs⟩; (case eqs => first | rfl | ((repeat (refine ⟨rfl, ?_⟩)); rfl)); (case rel => exact (by unfold RelS; exact ⟨_, _, _, _, _, rfl, hta, ho3, by simp; omega, by show _ = _; rw [HI2.out]; simp, hb3⟩)); (case measure => first | (simp [intOf] <;> omega) | (simp [lenOf] <;> omega))) | ((repeat apply Exists.intro); refine ⟨?rel, ?eqs⟩; (case eqs => first | rfl | ((repeat (refine ⟨rfl, ?_⟩)); rfl)); (case rel => exact (by unfold RelS; exact ⟨_, _, _, _, _, rfl, hta, ho3, by simp; omega, by show _ = _; rw [HI2.out]; simp, hb3⟩))))
    · obtain rfl : m = 0 := by omega
      obtain rfl : ys = [] := List.eq_nil_of_length_eq_zero hs.len
      have hI2 := hI.out
      rw [split_nil, List.append_nil] at hI2
      have HI2 := Lib.hid hI2; clear hI hI2
      go_wp2
      go_ret
      exact ⟨_, rfl, by rw [HI2.out]; exact ho, hbel⟩

theorem joinL_take {ls : List (List Int)} {k : Nat} {x : List Int} (h : ls.take (k + 1) = ls.take k ++ [x]) : joinL (ls.take (k + 1)) = joinL (ls.take k) ++ x ++ [13, 10] := by
  rw [h, joinL_app]; simp [joinL]
theorem joinL_len_take {ls : List (List Int)} {k : Nat} : (joinL (ls.take k)).length ≤ (joinL ls).length := by
  have := joinL_app (ls.take k) (ls.drop k)
  rw [List.take_append_drop] at this
  rw [this, List.length_append]; omega
theorem joinL_len_at {ls : List (List Int)} {k : Nat} {x : List Int} (h : ls.take (k + 1) = ls.take k ++ [x]) : (joinL (ls.take k)).length + x.length + 2 ≤ (joinL ls).length := by
  have h1 := joinL_len_take (ls := ls) (k := k + 1)
  rw [joinL_take h] at h1
  simp only [List.length_append, List.length_cons, List.length_nil] at h1
  omega

set_option maxRecDepth 100000 in
set_option maxHeartbeats 1000000 in
theorem p26_Join {A n c ls} {w : World} (hs : Lns w A n c ls) (hn : n ≤ 4194304) (hJ : (joinL ls).length ≤ 1073741824) : Calls Try.prog 28 #[.slice A n c] w (RetOwn id 5 .u8 (joinL ls) w) := by
  have HL := Lib.hid hs.len
  go_enter Try.func28, Try.ntmps28
  go_wp2
  go_loopw [3, 8] (fun v i wr => ∃ k : Nat, k ≤ n ∧ i = .int .i64 k ∧ Own wr w.heap.size 5 .u8 v (joinL (ls.take k)) ∧ Below w.heap.size w wr) (fun _ i _ => n - (intOf i).toNat)
  case atStart => exact ⟨0, Nat.zero_le _, rfl, Own.nil _ _ _ _, Below.refl _ _⟩
  case round =>
    obtain ⟨k, hk, rfl, ho, hbel⟩ := hrel
    have hz := hbel.size
    have hs' := hs.bel hbel
    have HT := joinL_len_take (ls := ls) (k := k)
    by_cases hlt : k < n
    · obtain ⟨b, o, A', n', c', x, rfl, hb, hcell, hx, _, _, ht⟩ := hs'.get hlt
      have HK := Lib.hid (joinL_take ht)
      have hlat := joinL_len_at ht
      have hxl := hx.len
      clear ht
      go_wp2_with (first | (at_builtin; refine wpList_appS rfl rfl eltB Try.underlying9 rfl rfl ho1 hb1 (by refine ⟨?_, ?_⟩ <;> first | omega | (simp; done) | (simp; omega)) (by first | omega | (show _ + 2 ≤ _; omega) | (show _ + 3 ≤ _; omega) | (simp; done) | (simp; omega)) ?_; intro v2 w2 ho2 hb2 hg2) | ((at_builtin; refine wpList_app rfl rfl eltB (by decide) rfl rfl ho hx hbel (by refine ⟨?_, ?_⟩ <;> first | omega | (simp; done) | (simp; omega)) (by first | omega | (simp; done) | (simp; omega)) ?_; intro v1 w1 ho1 hb1 hg1); have hz1 := hb1.size; have hl1 : (joinL (ls.take k) ++ x).length ≤ 1073741824 := by (rw [List.length_append]; omega)))
      rw [strL_crlf] at ho2
      (first | (go_roundw; (case rel => exact ⟨k + 1, by omega, by go_num, by rw [HK.out]; exact ho2, hb2⟩); (case measure => first | (simp [intOf] <;> omega) | (simp [lenOf] <;> omega))) | (refine ⟨?_, ?measure⟩; (repeat apply Exists.intro); refine ⟨?rel, ?eqs⟩; (case eqs => first | rfl | ((repeat (refine ⟨rfl, ?_⟩)); rfl)); (case rel => exact ⟨k + 1, by omega, by go_num, by rw [HK.out]; exact ho2, hb2⟩); (case measure => first | (simp [intOf] <;> omega) | (simp [lenOf] <;> omega))) | ((repeat apply Exists.intro); refine ⟨?rel, ?eqs⟩; (case eqs => first | rfl | ((repeat (refine ⟨rfl, ?_⟩)); rfl)); (case rel => exact ⟨k + 1, by omega, by go_num, by rw [HK.out]; exact ho2, hb2⟩)))
    · go_wp2
      go_ret
      exact ⟨_, rfl, by rw [List.take_of_length_le (by have := HL.out; omega)] at ho; exact ho, hbel⟩
set_option maxRecDepth 100000 in
set_option maxHeartbeats 1000000 in
theorem r26_Join {A n c ls} {w : World} (hs : Lns w A n c ls) (hn : n ≤ 4194304) (hJ : (joinL ls).length ≤ 1073741824) : Calls Try.prog 29 #[.slice A n c] w (RetOwn id 5 .u8 (joinL ls) w) := by
  have HL := Lib.hid hs.len
  go_enter Try.func29, Try.ntmps29
  go_wp2
  go_loopw [3, 4] (fun v i wr => ∃ k : Nat, k ≤ n ∧ i = .int .i64 k ∧ Own wr w.heap.size 5 .u8 v (joinL (ls.take k)) ∧ Below w.heap.size w wr) (fun _ i _ => n - (intOf i).toNat)
  case atStart => exact ⟨0, Nat.zero_le _, rfl, Own.nil _ _ _ _, Below.refl _ _⟩
  case round =>
    obtain ⟨k, hk, rfl, ho, hbel⟩ := hrel
    have hz := hbel.size
    have hs' := hs.bel hbel
    have HT := joinL_len_take (ls := ls) (k := k)
    by_cases hlt : k < n
    · obtain ⟨b, o, A', n', c', x, rfl, hb, hcell, hx, _, _, ht⟩ := hs'.get hlt
      have HK := Lib.hid (joinL_take ht)
      have hlat := joinL_len_at ht
      have hxl := hx.len
      clear ht
      go_wp2_with (first | (at_builtin; refine wpList_app rfl rfl eltB (by decide) rfl rfl (ho1.alloc _) (Sl.new _ .u8 5 [13, 10] (by decide) (by decide)) (hb1.alloc (by omega) _) (by refine ⟨?_, ?_⟩ <;> first | omega | (simp; done) | (simp; omega)) (by first | omega | (simp; done) | (simp; omega)) ?_; intro v2 w2 ho2 hb2 hg2) | ((at_builtin; refine wpList_app rfl rfl eltB (by decide) rfl rfl ho hx hbel (by refine ⟨?_, ?_⟩ <;> first | omega | (simp; done) | (simp; omega)) (by first | omega | (simp; done) | (simp; omega)) ?_; intro v1 w1 ho1 hb1 hg1); have hz1 := hb1.size; have hl1 : (joinL (ls.take k) ++ x).length ≤ 1073741824 := by (rw [List.length_append]; omega)))
      (first | (go_roundw; (case rel => exact ⟨k + 1, by omega, by go_num, by rw [HK.out]; exact ho2, hb2⟩); (case measure => first | (simp [intOf] <;> omega) | (simp [lenOf] <;> omega))) | (refine ⟨?_, ?measure⟩; (repeat apply Exists.intro); refine ⟨?rel, ?eqs⟩; (case eqs => first | rfl | ((repeat (refine ⟨rfl, ?_⟩)); rfl)); (case rel => exact ⟨k + 1, by omega, by go_num, by rw [HK.out]; exact ho2, hb2⟩); (case measure => first | (simp [intOf] <;> omega) | (simp [lenOf] <;> omega))) | ((repeat apply Exists.intro); refine ⟨?rel, ?eqs⟩; (case eqs => first | rfl | ((repeat (refine ⟨rfl, ?_⟩)); rfl)); (case rel => exact ⟨k + 1, by omega, by go_num, by rw [HK.out]; exact ho2, hb2⟩)))
    · go_wp2
      go_ret
      exact ⟨_, rfl, by rw [List.take_of_length_le (by have := HL.out; omega)] at ho; exact ho, hbel⟩
end Go.Proofs.Ytlmkhjegckgmcaa
