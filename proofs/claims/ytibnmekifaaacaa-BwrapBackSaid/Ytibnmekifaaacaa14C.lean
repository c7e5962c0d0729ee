/- Layer 14's reference: Bare, Lay. Conditions: the arguments read as lists; lengths at most 2^24. -/
import Derived.Test.Ytibnmekifaaacaa14B
namespace Go.Proofs.Ytibnmekifaaacaa
open Go.RowKit

theorem pad6_pads (l : List Int) (j : Nat) (h : (l.length + j) % 6 = 0) (hj : j < 6) : pad6 l = l ++ List.replicate j 0 := by
  unfold pad6; congr 2; omega

theorem chunk6_cons {L : List Int} (h : L.length = 6) (r : List Int) : chunk6 (L ++ r) = digL (numL L) :: chunk6 r := by
  match L, h with
  | [a, b, c, d, e, f], _ => rfl
theorem bits_pad6 (xs : List Int) : isBits (pad6 (bitsL xs)) :=
  bits_append (bits_flat bits_byte xs) fun x hx => by simp at hx; exact .inl hx.2

set_option maxRecDepth 100000 in
set_option maxHeartbeats 1000000 in
theorem r14_Bare {A n c xs} {w : World} (hs : Sl w .u8 A n c xs) (hn : n ≤ 16777216) :
    Calls Try.prog 34 #[.slice A n c] w (RetOwn id 5 .u8 (bare3 xs) w) := by
  have HL := Lib.hid hs.len
  have HW := Lib.hid hs.wf
  have HBits := Lib.hid (bits_pad6 xs)
  go_enter Try.func34, Try.ntmps34
  go_wp2_with fail
  refine (r14_Bits hs hn).mono ?_
  rintro e w1 ⟨v, rfl, ho, hb1⟩
  have hz1 := hb1.size
  have hlen : (bitsL xs).length = 8 * n := by rw [bitsL_length, HL.out]
  have HLen := Lib.hid hlen; clear hlen
  go_wp2
  go_loopw [3] (fun v wr => ∃ (j : Nat) (A1 : Option Addr) (n1 c1 : Nat), j ≤ (6 - 8 * n % 6) % 6 ∧ n1 = 8 * n + j ∧ v = .slice A1 n1 c1 ∧ Own wr w.heap.size 3 .i64 v (bitsL xs ++ List.replicate j 0) ∧ Below w.heap.size w wr) (fun v _ => (6 - lenOf v % 6) % 6)
  case atStart =>
    obtain ⟨A1, n1, c1, rfl, hs1⟩ := ho.sl
    exact ⟨0, A1, n1, c1, by omega, by have := hs1.len; have := HLen.out; omega, rfl, by simpa using ho, hb1⟩
  case round =>
    obtain ⟨j, A1, n1, c1, hj, hn1, rfl, ho2, hbel⟩ := hrel
    have hz := hbel.size
    have HN1 := Lib.hid hn1
    by_cases hm : n1 % 6 = 0
    · have hm' : ((n1 : Int) % 6 != 0) = false := by simp; omega
      have HM := Lib.hid hm; clear hm
      have hp : Own wr w.heap.size 3 .i64 (.slice A1 n1 c1) (pad6 (bitsL xs)) := by rw [pad6_pads _ j (by have := HLen.out; have := HM.out; omega) (by omega)]; exact ho2
      obtain ⟨_, _, _, e1, hs2⟩ := hp.sl
      injection e1 with e1 e2 e3
      subst e1; subst e2; subst e3
      clear ho2 hp hn1
      obtain ⟨wo, rfl⟩ : ∃ wo : World, wo = wr := ⟨_, rfl⟩
      go_wp2
      go_loopw [4, 5] (fun v i wr2 => ∃ (q : Nat) (ys : List Int), 6 * q ≤ n1 ∧ i = .int .i64 (6 * q : Nat) ∧ Own wr2 wo.heap.size 5 .u8 v ys ∧ ys.length ≤ q ∧ Hid (chunk6 (pad6 (bitsL xs)) = ys ++ chunk6 ((pad6 (bitsL xs)).drop (6 * q))) ∧ Below wo.heap.size wo wr2) (fun _ i _ => n1 - (intOf i).toNat)
      case atStart => exact ⟨0, [], by omega, rfl, Own.nil _ _ _ _, by simp, rfl, Below.refl _ _⟩
      case round =>
        obtain ⟨q, ys, hq, rfl, ho3, hyl, hI, hbel3⟩ := hrel
        have hs3 := hs2.bel hbel3
        by_cases hlt : 6 * q < n1
        · have h6 : 6 * q + 6 ≤ n1 := by have := HM.out; omega
          have hbig : n1 ≤ 134217800 := by have := HN1.out; omega
          obtain ⟨b, o, rfl, hb⟩ := hs3.form (by omega)
          have hne : ¬ c1 = 6 * q := by have := hs3.le; omega
          have hle := hs3.le
          have hcm := hs3.cm
          unfold maxLen at hcm
          have hd := drop_piece (pad6 (bitsL xs)) (lo := 6 * q) (hi := 6 * q + 6) (by omega)
          rw [show 6 * q + 6 = 6 * (q + 1) from by omega] at hd
          have hs4 := hs3.cutAt (lo := 6 * q) (hi := 6 * (q + 1)) (m := 6) (c' := c1 - 6 * q) (by omega) (by omega) (by omega) rfl
          have hb6 : isBits (((pad6 (bitsL xs)).take (6 * (q + 1))).drop (6 * q)) := fun y hy => HBits.out y (List.mem_of_mem_take (List.mem_of_mem_drop hy))
          have hk6 := chunk6_cons hs4.len ((pad6 (bitsL xs)).drop (6 * (q + 1)))
          obtain ⟨L6, hL6⟩ : ∃ L6, ((pad6 (bitsL xs)).take (6 * (q + 1))).drop (6 * q) = L6 := ⟨_, rfl⟩
          rw [hL6] at hd hs4 hb6 hk6
          have HD := Lib.hid hd; have HK := Lib.hid hk6
          clear hd hk6 hL6
          have hbd := num_big hb6 (by have := hs4.len; omega)
          obtain ⟨m6, hm6⟩ : ∃ m6, numL L6 = m6 := ⟨_, rfl⟩
          rw [hm6] at hbd
          have hwm : (Lit.int .i64 m6).wf = true := wf_i64.2 (by omega)
          have hz3 := hbel3.size
          go_wp2_with (first | (go_at_call 39; refine (r14_number hs4 hb6 (by omega)).mono ?_; rintro e w' ⟨rfl, rfl⟩) | (go_at_call 45; refine (r14_Digit hwm).mono ?_; rintro e w' ⟨rfl, rfl⟩) | (at_builtin; refine wpList_app rfl rfl eltB (by decide) rfl rfl (ho3.alloc _) (Sl.one _ _ _ _ (digL_wf _)) (hbel3.alloc (by omega) _) (by refine ⟨?_, ?_⟩ <;> first | omega | (simp; done) | (simp; omega)) (by first | omega | (simp; done) | (simp; omega)) ?_; intro v1 w2 ho1 hb2 hg1))
          (first | (go_roundw; (case rel => exact ⟨q + 1, ys ++ [digL m6], by omega, by first | rfl | go_num, ho1, by simp; omega, by show _ = _; rw [hI.out, HD.out, HK.out, hm6]; simp, hb2⟩); (case measure => first | (simp [intOf] <;> omega) | (simp [lenOf] <;> omega))) | (refine ⟨?_, ?measure⟩; (repeat apply Exists.intro); refine ⟨?rel, ?eqs⟩; (case eqs => first | rfl | ((repeat (refine ⟨rfl, ?_⟩)); rfl)); (case rel => exact ⟨q + 1, ys ++ [digL m6], by omega, by first | rfl | go_num, ho1, by simp; omega, by show _ = _; rw [hI.out, HD.out, HK.out, hm6]; simp, hb2⟩); (case measure => first | (simp [intOf] <;> omega) | (simp [lenOf] <;> omega))) | ((repeat apply Exists.intro); refine ⟨?rel, ?eqs⟩; (case eqs => first | rfl | ((repeat (refine ⟨rfl, ?_⟩)); rfl)); (case rel => exact ⟨q + 1, ys ++ [digL m6], by omega, by first | rfl | go_num, ho1, by simp; omega, by show _ = _; rw [hI.out, HD.out, HK.out, hm6]; simp, hb2⟩)))
        · go_wp2
          go_ret
          exact ⟨_, rfl, by
            have h1 := hI.out
            rw [List.drop_eq_nil_of_le (by have := hs3.len; omega), bare_bits _ (fun x hx => wf_u8.1 (HW.out x hx))] at h1
            have h2 : bare3 xs = ys := by rw [h1]; simp [chunk6]
            rw [h2]; exact ho3.mono hz, hbel.trans (hbel3.mono hz)⟩
    · have hm' : ((n1 : Int) % 6 != 0) = true := by simp; omega
      have hl : (bitsL xs ++ List.replicate j 0).length ≤ 134217800 := by simp; have := HLen.out; omega
      have HM := Lib.hid hm; clear hm
      clear hn1
      go_wp2_with (at_builtin; refine wpList_app rfl rfl eltI (by decide) rfl rfl (ho2.alloc _) (Sl.one _ _ _ _ (by decide)) (hbel.alloc (by omega) _) (by refine ⟨?_, ?_⟩ <;> first | omega | (simp; done) | (simp; omega)) (by first | omega | (simp; done) | (simp; omega)) ?_; intro v1 w2 ho1 hb2 hg1)
      obtain ⟨A2, n2, c2, rfl, hs2⟩ := ho1.sl
      have hn2 : n2 = n1 + 1 := by have h1 := hs2.len; have h2 := HN1.out; have h3 := HLen.out; simp only [List.length_append, List.length_replicate, List.length_cons, List.length_nil] at h1; omega
      have hM := HM.out
      have hN1 := HN1.out
      (first | (go_roundw; (case rel => exact ⟨j + 1, A2, n2, c2, by omega, by omega, rfl, by rw [List.append_assoc] at ho1; rw [List.replicate_succ']; exact ho1, hb2⟩); (case measure => first | (simp [intOf] <;> omega) | (simp [lenOf] <;> omega))) | (refine ⟨?_, ?measure⟩; (repeat apply Exists.intro); refine ⟨?rel, ?eqs⟩; (case eqs => first | rfl | ((repeat (refine ⟨rfl, ?_⟩)); rfl)); (case rel => exact ⟨j + 1, A2, n2, c2, by omega, by omega, rfl, by rw [List.append_assoc] at ho1; rw [List.replicate_succ']; exact ho1, hb2⟩); (case measure => first | (simp [intOf] <;> omega) | (simp [lenOf] <;> omega))) | ((repeat apply Exists.intro); refine ⟨?rel, ?eqs⟩; (case eqs => first | rfl | ((repeat (refine ⟨rfl, ?_⟩)); rfl)); (case rel => exact ⟨j + 1, A2, n2, c2, by omega, by omega, rfl, by rw [List.append_assoc] at ho1; rw [List.replicate_succ']; exact ho1, hb2⟩)))
end Go.Proofs.Ytibnmekifaaacaa
