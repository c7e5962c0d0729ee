/- Layer 44 (uue): a line, by the reference: what its function returns. Conditions: the argument reads as a list; lengths at most 2^22. -/
import Derived.Test.Ytlmkhjegckgmcaa44D
namespace Go.Proofs.Ytlmkhjegckgmcaa
open Go.RowKit

theorem pad24_pads (l : List Int) (j : Nat) (h : (l.length + j) % 24 = 0) (hj : j < 24) : pad24 l = l ++ List.replicate j 0 := by
  unfold pad24; congr 2; omega
theorem chunkU_cons {L : List Int} (h : L.length = 6) (r : List Int) : chunkU (L ++ r) = digU (numL L) :: chunkU r := by
  match L, h with
  | [a, b, c, d, e, f], _ => rfl
theorem bits_pad24 (xs : List Int) : isBits (pad24 (bitsL xs)) :=
  bits_append (bits_flat bits_byte xs) fun x hx => by simp at hx; exact .inl hx.2
/-- what is the call's own of another type stays where another row has grown -/
theorem Own.kept2 {w w' : World} {B B' : Nat} {e1 e2 : TypeId} {k1 k2 : IntKind} {v1 v2 : Value} {xs ys : List Int} (h1 : Own w B e1 k1 v1 xs) (h2 : Own w B' e2 k2 v2 ys) (hne : e1 ≠ e2) (hg : w.grownBy w' v2.ownBlock) : Own w' B e1 k1 v1 xs := by
  refine h1.kept hg ?_
  cases hb : v1.ownBlock with
  | none => exact .inl rfl
  | some g =>
    refine .inr fun hh => ?_
    obtain ⟨_, _, a1, f1, q1⟩ := h1.blk g hb
    obtain ⟨_, _, a2, f2, q2⟩ := h2.blk g hh.symm
    rw [q1] at q2
    injection q2 with q2; injection q2 with _ q2 _
    exact hne q2

set_option maxRecDepth 100000 in
set_option maxHeartbeats 4000000 in
theorem r44_Line {A n c xs} {w : World} (hs : Sl w .u8 A n c xs) (hn : n ≤ 4194304) : Calls Try.prog 49 #[.slice A n c] w (RetOwn id 5 .u8 (lineU xs) w) := by
  have hln := hs.len
  have hle := hs.le
  have hcm := hs.cm
  unfold maxLen at hcm
  obtain ⟨q, hq⟩ : ∃ q : Nat, min (n : Int) 45 = (q : Int) := ⟨min n 45, by omega⟩
  have hq1 : q ≤ n := by omega
  have hq2 : q ≤ 45 := by omega
  have hs1 := hs.take_ (m := q) hq1
  have htk : xs.take q = xs.take 45 := by
    by_cases h45 : n ≤ 45
    · rw [List.take_of_length_le (by omega), List.take_of_length_le (by omega)]
    · rw [show q = 45 from by omega]
  have hlu : lineU xs = digU (q : Int) :: grp (xs.take q) := by unfold lineU; rw [← htk, hs1.len]
  obtain ⟨ys, hys⟩ : ∃ ys, xs.take q = ys := ⟨_, rfl⟩
  rw [hys] at hs1 hlu
  have hyl := hs1.len
  rw [hlu, ← chunk_bits ys fun x hx => wf_u8.1 (hs1.wf x hx)]
  clear hlu hys htk hln
  have HBits := Lib.hid (bits_pad24 ys)
  have hlen : (bitsL ys).length = 8 * q := by rw [bitsL_length, hyl]
  have HLen := Lib.hid hlen; clear hlen
  go_enter Try.func49, Try.ntmps49
  go_wp2_with (first | (go_at_call 51; refine (r44_Digit (wf_i64.2 (by omega))).mono ?_; rintro e w' ⟨rfl, rfl⟩))
  refine (r14_Bits (hs1.alloc _) (by omega)).mono ?_
  rintro e w1 ⟨v, rfl, ho, hb1⟩
  have hz0 : w.heap.size ≤ (w.alloc (.cells #[.int .u8 (digU q)] 5)).heap.size := by simp
  have hO := (Own.one w .u8 5 (digU q) (digU_wf _) (Nat.le_refl w.heap.size)).below hb1
  have hB1 := below_then' ((Below.refl w.heap.size w).alloc (Nat.le_refl _) (.cells #[.int .u8 (digU q)] 5)) hb1 (Nat.le_refl _)
  have ho := ho.mono hz0
  clear hb1 hz0
  go_wp2
  go_loopw [4] (fun v wr => ∃ (j : Nat) (A1 : Option Addr) (n1 c1 : Nat), j ≤ (24 - 8 * q % 24) % 24 ∧ n1 = 8 * q + j ∧ v = .slice A1 n1 c1 ∧ Own wr w.heap.size 3 .i64 v (bitsL ys ++ List.replicate j 0) ∧
    Own wr w.heap.size 5 .u8 (.slice (some ⟨w.heap.size, 0, none⟩) 1 1) [digU q] ∧ Below w.heap.size w wr) (fun v _ => (24 - lenOf v % 24) % 24)
  case atStart =>
    obtain ⟨A1, n1, c1, rfl, hs1⟩ := ho.sl
    exact ⟨0, A1, n1, c1, by omega, by have := hs1.len; have := HLen.out; omega, rfl, by simpa using ho, hO, hB1⟩
  case round =>
    clear hO hB1 ho
    obtain ⟨j, A1, n1, c1, hj, hn1, rfl, ho2, hO, hbel⟩ := hrel
    have hz := hbel.size
    have HN1 := Lib.hid hn1
    by_cases hm : n1 % 24 = 0
    · have hm' : ((n1 : Int) % 24 != 0) = false := by simp; omega
      have HM := Lib.hid hm; clear hm
      have hp : Own wr w.heap.size 3 .i64 (.slice A1 n1 c1) (pad24 (bitsL ys)) := by rw [pad24_pads _ j (by have := HLen.out; have := HM.out; omega) (by omega)]; exact ho2
      clear ho2 hn1
      obtain ⟨L, hLL⟩ : ∃ L, pad24 (bitsL ys) = L := ⟨_, rfl⟩
      rw [hLL] at HBits hp
      have HLL := Lib.hid hLL; clear hLL
      go_wp2
      go_loopw [3, 5] (fun v i wr2 => ∃ (q2 : Nat) (zs : List Int), 6 * q2 ≤ n1 ∧ i = .int .i64 (6 * q2 : Nat) ∧ Own wr2 w.heap.size 5 .u8 v (digU q :: zs) ∧ zs.length ≤ q2 ∧ Hid (chunkU L = zs ++ chunkU (L.drop (6 * q2))) ∧
        Own wr2 w.heap.size 3 .i64 (.slice A1 n1 c1) L ∧ Below w.heap.size w wr2) (fun _ i _ => n1 - (intOf i).toNat)
      case atStart => exact ⟨0, [], by omega, rfl, hO, by simp, rfl, hp, hbel⟩
      case round =>
        clear hO hp hbel hz
        obtain ⟨q2, zs, hq6, rfl, ho3, hzl, hI, hp, hbel⟩ := hrel
        have hz := hbel.size
        obtain ⟨_, _, _, e1, hs3⟩ := hp.sl
        injection e1 with e1 e2 e3
        subst e1; subst e2; subst e3
        by_cases hlt : 6 * q2 < n1
        · have h6 : 6 * q2 + 6 ≤ n1 := by have := HM.out; omega
          have hbig : n1 ≤ 134217800 := by have := HN1.out; omega
          obtain ⟨b, o, rfl, hb⟩ := hs3.form (by omega)
          have hne : ¬ c1 = 6 * q2 := by have := hs3.le; omega
          have hle3 := hs3.le
          have hcm3 := hs3.cm
          unfold maxLen at hcm3
          have hd := drop_piece L (lo := 6 * q2) (hi := 6 * q2 + 6) (by omega)
          rw [show 6 * q2 + 6 = 6 * (q2 + 1) from by omega] at hd
          have hs4 := hs3.cutAt (lo := 6 * q2) (hi := 6 * (q2 + 1)) (m := 6) (c' := c1 - 6 * q2) (by omega) (by omega) (by omega) rfl
          have hb6 : isBits ((L.take (6 * (q2 + 1))).drop (6 * q2)) := fun y hy => HBits.out y (List.mem_of_mem_take (List.mem_of_mem_drop hy))
          have hk6 := chunkU_cons hs4.len (L.drop (6 * (q2 + 1)))
          obtain ⟨L6, hL6⟩ : ∃ L6, (L.take (6 * (q2 + 1))).drop (6 * q2) = L6 := ⟨_, rfl⟩
          rw [hL6] at hd hs4 hb6 hk6
          have HD := Lib.hid hd; have HK := Lib.hid hk6
          clear hd hk6 hL6
          have hbd := num_big hb6 (by have := hs4.len; omega)
          obtain ⟨m6, hm6⟩ : ∃ m6, numL L6 = m6 := ⟨_, rfl⟩
          rw [hm6] at hbd
          have hwm : (Lit.int .i64 m6).wf = true := wf_i64.2 (by omega)
          have hzz : (digU q :: zs).length ≤ 134217900 := by simp only [List.length_cons]; omega
          go_wp2_with (first | (go_at_call 72; refine (r44_number hs4 hb6 (by omega)).mono ?_; rintro e w' ⟨rfl, rfl⟩) | (go_at_call 51; refine (r44_Digit hwm).mono ?_; rintro e w' ⟨rfl, rfl⟩) | (at_builtin; refine wpList_app rfl rfl eltB (by decide) rfl rfl (ho3.alloc _) (Sl.one _ _ _ _ (digU_wf _)) (hbel.alloc (by omega) _) (by refine ⟨?_, ?_⟩ <;> first | omega | (simp; done) | (simp; omega)) (by first | omega | (simp; done) | (simp; omega)) ?_; intro v1 w2 ho1 hb2 hg1))
          (first | (go_roundw; (case rel => exact ⟨q2 + 1, zs ++ [digU m6], by omega, by first | rfl | go_num, ho1, by simp; omega, by show _ = _; rw [hI.out, HD.out, HK.out, hm6]; simp, (hp.alloc _).kept2 (ho3.alloc _) (by decide) hg1, hb2⟩); (case measure => first | (simp [intOf] <;> omega) | (simp [lenOf] <;> omega))) | (refine ⟨?_, ?measure⟩; (repeat apply Exists.intro); refine ⟨?rel, ?eqs⟩; (case eqs => first | rfl | ((repeat (refine ⟨rfl, ?_⟩)); rfl)); (case rel => exact ⟨q2 + 1, zs ++ [digU m6], by omega, by first | rfl | go_num, ho1, by simp; omega, by show _ = _; rw [hI.out, HD.out, HK.out, hm6]; simp, (hp.alloc _).kept2 (ho3.alloc _) (by decide) hg1, hb2⟩); (case measure => first | (simp [intOf] <;> omega) | (simp [lenOf] <;> omega))) | ((repeat apply Exists.intro); refine ⟨?rel, ?eqs⟩; (case eqs => first | rfl | ((repeat (refine ⟨rfl, ?_⟩)); rfl)); (case rel => exact ⟨q2 + 1, zs ++ [digU m6], by omega, by first | rfl | go_num, ho1, by simp; omega, by show _ = _; rw [hI.out, HD.out, HK.out, hm6]; simp, (hp.alloc _).kept2 (ho3.alloc _) (by decide) hg1, hb2⟩)))
        · have h1 := hI.out
          rw [List.drop_eq_nil_of_le (by have := hs3.len; omega)] at h1
          have h2 : chunkU (pad24 (bitsL ys)) = zs := by rw [HLL.out, h1]; simp [chunkU]
          have H2 := Lib.hid h2
          clear hI h1 h2
          go_wp2
          go_ret
          exact ⟨_, rfl, by rw [H2.out]; exact ho3, hbel⟩
    · have hm' : ((n1 : Int) % 24 != 0) = true := by simp; omega
      have hl : (bitsL ys ++ List.replicate j 0).length ≤ 134217800 := by simp; have := HLen.out; omega
      have HM := Lib.hid hm; clear hm
      clear hn1
      go_wp2_with (at_builtin; refine wpList_app rfl rfl eltI (by decide) rfl rfl (ho2.alloc _) (Sl.one _ _ _ _ (by decide)) (hbel.alloc (by omega) _) (by refine ⟨?_, ?_⟩ <;> first | omega | (simp; done) | (simp; omega)) (by first | omega | (simp; done) | (simp; omega)) ?_; intro v1 w2 ho1 hb2 hg1)
      obtain ⟨A2, n2, c2, rfl, hs2⟩ := ho1.sl
      have hn2 : n2 = n1 + 1 := by have h1 := hs2.len; have h2 := HN1.out; have h3 := HLen.out; simp only [List.length_append, List.length_replicate, List.length_cons, List.length_nil] at h1; omega
      have hM := HM.out
      have hN1 := HN1.out
      (first | (go_roundw; (case rel => exact ⟨j + 1, A2, n2, c2, by omega, by omega, rfl, by rw [List.append_assoc] at ho1; rw [List.replicate_succ']; exact ho1, (hO.alloc _).kept2 (ho2.alloc _) (by decide) hg1, hb2⟩); (case measure => first | (simp [intOf] <;> omega) | (simp [lenOf] <;> omega))) | (refine ⟨?_, ?measure⟩; (repeat apply Exists.intro); refine ⟨?rel, ?eqs⟩; (case eqs => first | rfl | ((repeat (refine ⟨rfl, ?_⟩)); rfl)); (case rel => exact ⟨j + 1, A2, n2, c2, by omega, by omega, rfl, by rw [List.append_assoc] at ho1; rw [List.replicate_succ']; exact ho1, (hO.alloc _).kept2 (ho2.alloc _) (by decide) hg1, hb2⟩); (case measure => first | (simp [intOf] <;> omega) | (simp [lenOf] <;> omega))) | ((repeat apply Exists.intro); refine ⟨?rel, ?eqs⟩; (case eqs => first | rfl | ((repeat (refine ⟨rfl, ?_⟩)); rfl)); (case rel => exact ⟨j + 1, A2, n2, c2, by omega, by omega, rfl, by rw [List.append_assoc] at ho1; rw [List.replicate_succ']; exact ho1, (hO.alloc _).kept2 (ho2.alloc _) (by decide) hg1, hb2⟩)))
end Go.Proofs.Ytlmkhjegckgmcaa
