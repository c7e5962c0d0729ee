/- Layer 14's program (bcode): Bare. Conditions: the arguments read as lists; lengths at most 2^24. -/
import Derived.Test.Ytibnmekifaaacaa14P
namespace Go.Proofs.Ytibnmekifaaacaa
open Go.RowKit

/-- the code as the program lays it: what is held, and how many bits -/
def bareS : List Int → Int → Int → List Int
  | [], h, m => if m = 2 then [digL (h * 16)] else if m = 4 then [digL (h * 4)] else []
  | x :: r, h, m =>
    if m = 0 then digL (x / 4) :: bareS r (x % 4) 2
    else if m = 2 then digL ((h * 256 + x) / 16) :: bareS r ((h * 256 + x) % 16) 4
    else digL ((h * 256 + x) / 64) :: digL (h * 256 + x) :: bareS r 0 0
theorem bareS_eq : ∀ xs : List Int, (∀ x ∈ xs, 0 ≤ x ∧ x ≤ 255) → bareS xs 0 0 = bare3 xs
  | [], _ => rfl
  | [a], h => by have := h a (by simp); simp [bareS, bare3]
  | [a, b], h => by
    have ha := h a (by simp)
    have hb := h b (by simp)
    simp only [bareS, bare3]
    simp
    refine ⟨?_, ?_⟩ <;> (congr 1; omega)
  | a :: b :: c :: r, h => by
    have ha := h a (by simp)
    have hb := h b (by simp)
    have hc := h c (by simp)
    have ih := bareS_eq r fun x hx => h x (by simp [hx])
    have e : bareS (a :: b :: c :: r) 0 0 = digL (a / 4) :: digL ((a % 4 * 256 + b) / 16) :: digL (((a % 4 * 256 + b) % 16 * 256 + c) / 64) :: digL ((a % 4 * 256 + b) % 16 * 256 + c) :: bareS r 0 0 := by simp [bareS]
    rw [e, ih, bare3]
    refine cons4 rfl ?_ ?_ ?_
    · congr 1; omega
    · congr 1; omega
    · unfold digL; congr 1; omega

set_option maxRecDepth 100000 in
set_option maxHeartbeats 1000000 in
theorem p14_Bare {A n c xs} {w : World} (hs : Sl w .u8 A n c xs) (hn : n ≤ 16777216) :
    Calls Try.prog 33 #[.slice A n c] w (RetOwn id 5 .u8 (bare3 xs) w) := by
  have HL := Lib.hid hs.len
  have HE := Lib.hid (bareS_eq xs fun x hx => wf_u8.1 (hs.wf x hx))
  go_enter Try.func33, Try.ntmps33
  go_wp2
  go_loopw [3, 4, 5, 10] (fun v hd mn i wr => ∃ (k : Nat) (ys : List Int) (h q : Int), k ≤ n ∧ i = .int .i64 k ∧ hd = .int .i64 h ∧ mn = .int .i64 q ∧ ((q = 0 ∧ h = 0) ∨ (q = 2 ∧ 0 ≤ h ∧ h < 4) ∨ (q = 4 ∧ 0 ≤ h ∧ h < 16)) ∧
      Own wr w.heap.size 5 .u8 v ys ∧ ys.length ≤ 2 * k ∧ Hid (bareS xs 0 0 = ys ++ bareS (xs.drop k) h q) ∧ Below w.heap.size w wr) (fun _ _ _ i _ => n - (intOf i).toNat)
  case atStart => exact ⟨0, [], 0, 0, Nat.zero_le _, rfl, rfl, rfl, .inl ⟨rfl, rfl⟩, Own.nil _ _ _ _, by simp, rfl, Below.refl _ _⟩
  case round =>
    obtain ⟨k, ys, h, q, hk, rfl, rfl, rfl, hq, ho, hyl, hI, hbel⟩ := hrel
    have hz := hbel.size
    by_cases hlt : k < n
    · obtain ⟨b, o, x, rfl, hb, hcell0, hwf, hd, _⟩ := hs.get hlt
      have hcell := (hbel.cell (p := ⟨b, o + k, none⟩) hb).trans hcell0
      clear hcell0
      have HD := Lib.hid hd
      clear hd
      obtain ⟨hx1, hx2⟩ := wf_u8.1 hwf
      have hor := or_low 8 h x (by omega) (by omega) (by omega) hx1 (by omega)
      rw [show (2 : Int) ^ 8 = 256 from rfl] at hor
      obtain ⟨wo, rfl⟩ : ∃ wo : World, wo = wr := ⟨_, rfl⟩
      rcases hq with ⟨rfl, rfl⟩ | ⟨rfl, hh⟩ | ⟨rfl, hh⟩
      · obtain ⟨z, hze⟩ : ∃ z, x = z := ⟨_, rfl⟩
        have h0r : bits .or .i64 0 x = z := by rw [← hze]; simpa using hor
        clear hor
        have hz0 : 0 ≤ z := by omega
        have hz1 : z < 256 := by omega
        have hand : bits .and .i64 z 3 = z % 4 := by have := and_low 2 z (by omega); simpa using this
        have HZ := Lib.hid hze; clear hze
        go_wp2
        go_loopw [3, 5] (fun v m wr => ∃ j : Nat, j ≤ 1 ∧ m = .int .i64 (8 - 6 * (j : Int)) ∧ Own wr w.heap.size 5 .u8 v (ys ++ ([digL (z / 4)] : List Int).take j) ∧ Below w.heap.size w wr) (fun _ m _ => (intOf m).toNat)
        case atStart => exact ⟨0, by omega, rfl, by simpa using ho, hbel⟩
        case round =>
          obtain ⟨j, hj, rfl, ho2, hbel2⟩ := hrel
          have hz2 := hbel2.size
          have hl2 : (ys ++ ([digL (z / 4)] : List Int).take j).length ≤ 33554436 := by simp; omega
          by_cases hlt2 : j < 1
          · obtain rfl : j = 0 := by omega
            go_wp2_with (first | (go_at_call 43; refine p14_Digit.mono ?_; rintro e w' ⟨rfl, rfl⟩) | (at_builtin; refine wpList_app rfl rfl eltB (by decide) rfl rfl (ho2.alloc _) (Sl.one _ _ _ _ (digL_wf _)) (hbel2.alloc (by omega) _) (by refine ⟨?_, ?_⟩ <;> first | omega | (simp; done) | (simp; omega)) (by first | omega | (simp; done) | (simp; omega)) ?_; intro v1 w1 ho1 hb1 hg1))
            rw [List.append_assoc] at ho1
            (first | (go_roundw; (case rel => exact ⟨1, by omega, by first | rfl | go_num, ho1, hb1⟩); (case measure => first | (simp [intOf] <;> omega) | (simp [lenOf] <;> omega))) | (refine ⟨?_, ?measure⟩; (repeat apply Exists.intro); refine ⟨?rel, ?eqs⟩; (case eqs => first | rfl | ((repeat (refine ⟨rfl, ?_⟩)); rfl)); (case rel => exact ⟨1, by omega, by first | rfl | go_num, ho1, hb1⟩); (case measure => first | (simp [intOf] <;> omega) | (simp [lenOf] <;> omega))) | ((repeat apply Exists.intro); refine ⟨?rel, ?eqs⟩; (case eqs => first | rfl | ((repeat (refine ⟨rfl, ?_⟩)); rfl)); (case rel => exact ⟨1, by omega, by first | rfl | go_num, ho1, hb1⟩)))
          · obtain rfl : j = 1 := by omega
            go_wp2
            (go_roundw; (case rel => exact ⟨k + 1, ys ++ [digL (z / 4)], (z % 4), 2, by omega, by go_num, by first | rfl | go_num, rfl, .inr (.inl ⟨rfl, by omega, by omega⟩), ho2, by simp; omega, by
              show _ = _
              rw [hI.out, HD.out]; simp [bareS, HZ.out], hbel2⟩); (case measure => first | (simp [intOf] <;> omega) | (simp [lenOf] <;> omega)))
      · obtain ⟨z, hze⟩ : ∃ z, h * 256 + x = z := ⟨_, rfl⟩
        rw [hze] at hor
        have hz0 : 0 ≤ z := by omega
        have hz1 : z < 1024 := by omega
        have hand : bits .and .i64 z 15 = z % 16 := by have := and_low 4 z (by omega); simpa using this
        have HZ := Lib.hid hze; clear hze
        go_wp2
        go_loopw [3, 5] (fun v m wr => ∃ j : Nat, j ≤ 1 ∧ m = .int .i64 (10 - 6 * (j : Int)) ∧ Own wr w.heap.size 5 .u8 v (ys ++ ([digL (z / 16)] : List Int).take j) ∧ Below w.heap.size w wr) (fun _ m _ => (intOf m).toNat)
        case atStart => exact ⟨0, by omega, rfl, by simpa using ho, hbel⟩
        case round =>
          obtain ⟨j, hj, rfl, ho2, hbel2⟩ := hrel
          have hz2 := hbel2.size
          have hl2 : (ys ++ ([digL (z / 16)] : List Int).take j).length ≤ 33554436 := by simp; omega
          by_cases hlt2 : j < 1
          · obtain rfl : j = 0 := by omega
            go_wp2_with (first | (go_at_call 43; refine p14_Digit.mono ?_; rintro e w' ⟨rfl, rfl⟩) | (at_builtin; refine wpList_app rfl rfl eltB (by decide) rfl rfl (ho2.alloc _) (Sl.one _ _ _ _ (digL_wf _)) (hbel2.alloc (by omega) _) (by refine ⟨?_, ?_⟩ <;> first | omega | (simp; done) | (simp; omega)) (by first | omega | (simp; done) | (simp; omega)) ?_; intro v1 w1 ho1 hb1 hg1))
            rw [List.append_assoc] at ho1
            (first | (go_roundw; (case rel => exact ⟨1, by omega, by first | rfl | go_num, ho1, hb1⟩); (case measure => first | (simp [intOf] <;> omega) | (simp [lenOf] <;> omega))) | (refine ⟨?_, ?measure⟩; (repeat apply Exists.intro); refine ⟨?rel, ?eqs⟩; (case eqs => first | rfl | ((repeat (refine ⟨rfl, ?_⟩)); rfl)); (case rel => exact ⟨1, by omega, by first | rfl | go_num, ho1, hb1⟩); (case measure => first | (simp [intOf] <;> omega) | (simp [lenOf] <;> omega))) | ((repeat apply Exists.intro); refine ⟨?rel, ?eqs⟩; (case eqs => first | rfl | ((repeat (refine ⟨rfl, ?_⟩)); rfl)); (case rel => exact ⟨1, by omega, by first | rfl | go_num, ho1, hb1⟩)))
          · obtain rfl : j = 1 := by omega
            go_wp2
            (go_roundw; (case rel => exact ⟨k + 1, ys ++ [digL (z / 16)], (z % 16), 4, by omega, by go_num, by first | rfl | go_num, rfl, .inr (.inr ⟨rfl, by omega, by omega⟩), ho2, by simp; omega, by
              show _ = _
              rw [hI.out, HD.out]; simp [bareS, HZ.out], hbel2⟩); (case measure => first | (simp [intOf] <;> omega) | (simp [lenOf] <;> omega)))
      · obtain ⟨z, hze⟩ : ∃ z, h * 256 + x = z := ⟨_, rfl⟩
        rw [hze] at hor
        have hz0 : 0 ≤ z := by omega
        have hz1 : z < 4096 := by omega
        have hand : bits .and .i64 z 0 = 0 := by have := and_low 0 z (by omega); simpa using this
        have HZ := Lib.hid hze; clear hze
        go_wp2
        go_loopw [3, 5] (fun v m wr => ∃ j : Nat, j ≤ 2 ∧ m = .int .i64 (12 - 6 * (j : Int)) ∧ Own wr w.heap.size 5 .u8 v (ys ++ ([digL (z / 64), digL z] : List Int).take j) ∧ Below w.heap.size w wr) (fun _ m _ => (intOf m).toNat)
        case atStart => exact ⟨0, by omega, rfl, by simpa using ho, hbel⟩
        case round =>
          obtain ⟨j, hj, rfl, ho2, hbel2⟩ := hrel
          have hz2 := hbel2.size
          have hl2 : (ys ++ ([digL (z / 64), digL z] : List Int).take j).length ≤ 33554436 := by simp; omega
          by_cases hlt2 : j < 2
          · obtain ⟨jj, hjj⟩ : ∃ jj, jj = j := ⟨_, rfl⟩
            have HJ := Lib.hid hjj; clear hjj
            have : j = 0 ∨ j = 1 := by omega
            rcases this with h5 | h5 <;> subst h5
            all_goals
              go_wp2_with (first | (go_at_call 43; refine p14_Digit.mono ?_; rintro e w' ⟨rfl, rfl⟩) | (at_builtin; refine wpList_app rfl rfl eltB (by decide) rfl rfl (ho2.alloc _) (Sl.one _ _ _ _ (digL_wf _)) (hbel2.alloc (by omega) _) (by refine ⟨?_, ?_⟩ <;> first | omega | (simp; done) | (simp; omega)) (by first | omega | (simp; done) | (simp; omega)) ?_; intro v1 w1 ho1 hb1 hg1))
              rw [List.append_assoc] at ho1
              have hjj := HJ.out
              (first | (go_roundw; (case rel => exact ⟨jj + 1, by omega, by subst hjj; first | rfl | go_num, by subst hjj; exact ho1, hb1⟩); (case measure => first | (simp [intOf] <;> omega) | (simp [lenOf] <;> omega))) | (refine ⟨?_, ?measure⟩; (repeat apply Exists.intro); refine ⟨?rel, ?eqs⟩; (case eqs => first | rfl | ((repeat (refine ⟨rfl, ?_⟩)); rfl)); (case rel => exact ⟨jj + 1, by omega, by subst hjj; first | rfl | go_num, by subst hjj; exact ho1, hb1⟩); (case measure => first | (simp [intOf] <;> omega) | (simp [lenOf] <;> omega))) | ((repeat apply Exists.intro); refine ⟨?rel, ?eqs⟩; (case eqs => first | rfl | ((repeat (refine ⟨rfl, ?_⟩)); rfl)); (case rel => exact ⟨jj + 1, by omega, by subst hjj; first | rfl | go_num, by subst hjj; exact ho1, hb1⟩)))
          · obtain rfl : j = 2 := by omega
            go_wp2
            (go_roundw; (case rel => exact ⟨k + 1, ys ++ [digL (z / 64), digL z], 0, 0, by omega, by go_num, by first | rfl | go_num, rfl, .inl ⟨rfl, rfl⟩, ho2, by simp; omega, by
              show _ = _
              rw [hI.out, HD.out]; simp [bareS, HZ.out], hbel2⟩); (case measure => first | (simp [intOf] <;> omega) | (simp [lenOf] <;> omega)))
    · have hn0 : xs.drop k = [] := List.drop_eq_nil_of_le (by have := HL.out; omega)
      have hres : bare3 xs = ys ++ bareS [] h q := by rw [← HE.out, hI.out, hn0]
      have HR := Lib.hid hres; clear hres hn0 hI
      have hl2 : ys.length ≤ 33554436 := by omega
      rcases hq with ⟨rfl, rfl⟩ | ⟨rfl, hh⟩ | ⟨rfl, hh⟩
      · go_wp2
        go_ret
        exact ⟨_, rfl, by rw [HR.out, show ys ++ bareS [] 0 0 = ys from by simp [bareS]]; exact ho, hbel⟩
      · go_wp2_with (first | (go_at_call 43; refine p14_Digit.mono ?_; rintro e w' ⟨rfl, rfl⟩) | (at_builtin; refine wpList_app rfl rfl eltB (by decide) rfl rfl (ho.alloc _) (Sl.one _ _ _ _ (digL_wf _)) (hbel.alloc (by omega) _) (by refine ⟨?_, ?_⟩ <;> first | omega | (simp; done) | (simp; omega)) (by first | omega | (simp; done) | (simp; omega)) ?_; intro v1 w1 ho1 hb1 hg1))
        go_ret
        exact ⟨_, rfl, by rw [HR.out, show ys ++ bareS [] h 2 = ys ++ [digL (h * 16)] from by simp [bareS]]; exact ho1, hb1⟩
      · go_wp2_with (first | (go_at_call 43; refine p14_Digit.mono ?_; rintro e w' ⟨rfl, rfl⟩) | (at_builtin; refine wpList_app rfl rfl eltB (by decide) rfl rfl (ho.alloc _) (Sl.one _ _ _ _ (digL_wf _)) (hbel.alloc (by omega) _) (by refine ⟨?_, ?_⟩ <;> first | omega | (simp; done) | (simp; omega)) (by first | omega | (simp; done) | (simp; omega)) ?_; intro v1 w1 ho1 hb1 hg1))
        go_ret
        exact ⟨_, rfl, by rw [HR.out, show ys ++ bareS [] h 4 = ys ++ [digL (h * 4)] from by simp [bareS]]; exact ho1, hb1⟩
end Go.Proofs.Ytibnmekifaaacaa
