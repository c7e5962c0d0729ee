/- Layer 21 (pct): quotes read. Conditions: the arguments read as lists; lengths at most 2^22. -/
import Derived.Test.Ytcjfjhciobkbcaa21B
namespace Go.Proofs.Ytcjfjhciobkbcaa
open Go.RowKit

/-- what stands behind a quote: what is quoted, where it ends, the error -/
def unq : List Int → List Int → Int → Bool → List Int × Int × Int
  | [], _, _, _ => ([], 0, 4)
  | x :: r, out, i, true => unq r (out ++ [x]) (i + 1) false
  | x :: r, out, i, false => if x = 34 then (out, i + 1, 0) else if x = 92 then unq r out (i + 1) true else unq r (out ++ [x]) (i + 1) false
def unqS : List Int → List Int × Int × Int
  | [] => ([], 0, 3)
  | x :: r => if x = 34 then unq r [] 1 false else ([], 0, 3)
theorem unq_t {x i : Int} {r out : List Int} : unq (x :: r) out i true = unq r (out ++ [x]) (i + 1) false := rfl
theorem unq_q {i : Int} {r out : List Int} : unq (34 :: r) out i false = (out, i + 1, 0) := by simp [unq]
theorem unq_b {i : Int} {r out : List Int} : unq (92 :: r) out i false = unq r out (i + 1) true := by simp [unq]
theorem unq_o {x i : Int} {r out : List Int} (h : ¬ x = 34) (h' : ¬ x = 92) : unq (x :: r) out i false = unq r (out ++ [x]) (i + 1) false := by
  rw [unq, if_neg h, if_neg h']
theorem unq_nil {i : Int} {out : List Int} {t : Bool} : unq [] out i t = ([], 0, 4) := by cases t <;> rfl

def RetU (U : List Int × Int × Int) (w : World) (e : Ending) (w' : World) : Prop := RetOwn (fun v => .tuple #[v, .int .i64 U.2.1, .int .i64 U.2.2]) 5 .u8 U.1 w e w'

def RelU (w : World) (n : Nat) (xs : List Int) (U : List Int × Int × Int) (v i : Value) (wr : World) : Prop :=
  ∃ k : Nat, ∃ out : List Int, 1 ≤ k ∧ k ≤ n ∧ i = .int .i64 k ∧ out.length ≤ k ∧ Own wr w.heap.size 5 .u8 v out ∧ Hid (U = unq (xs.drop k) out k false) ∧ Below w.heap.size w wr
def RelV (w : World) (n : Nat) (ys : List Int) (U : List Int × Int × Int) (v t i : Value) (wr : World) : Prop :=
  ∃ k : Nat, ∃ out : List Int, ∃ tk : Bool, k ≤ n - 1 ∧ i = .int .i64 k ∧ t = .bool tk ∧ out.length ≤ k ∧ Own wr w.heap.size 5 .u8 v out ∧ Hid (U = unq (ys.drop k) out (k + 1) tk) ∧ Below w.heap.size w wr
set_option maxRecDepth 100000 in
set_option maxHeartbeats 1000000 in
theorem r21_Unquote {A n c xs} {w : World} (hs : Sl w .u8 A n c xs) (hn : n ≤ 4194304) : Calls Try.prog 29 #[.slice A n c] w (RetU (unqS xs) w) := by
  have HL := Lib.hid hs.len
  by_cases h0 : n = 0
  · subst h0
    obtain rfl : xs = [] := List.eq_nil_of_length_eq_zero HL.out
    go_enter Try.func29, Try.ntmps29
    go_wp2
    go_ret3
    exact ⟨_, rfl, Own.nil _ _ _ _, Below.refl _ _⟩
  · obtain ⟨bb, o, x, rfl, hbb, hcell, hwf, hd, _⟩ := hs.get (j := 0) (by omega)
    rw [List.drop_zero] at hd
    simp only [Nat.add_zero] at hcell
    by_cases hx : x = 34
    · subst hx
      have hU : unqS xs = unq (xs.drop 1) [] 1 false := by rw [hd]; simp [unqS]
      obtain ⟨U, hU0⟩ : ∃ U, unqS xs = U := ⟨_, rfl⟩
      rw [hU0] at hU ⊢
      clear hU0 hd
      have HU := Lib.hid hU; clear hU
      go_enter Try.func29, Try.ntmps29
      go_wp2
      go_loopw [5, 6] (RelU w n xs U) (fun _ i _ => n - (intOf i).toNat)
      case atStart => unfold RelU; exact ⟨1, [], by omega, by omega, rfl, by simp, Own.nil _ _ _ _, HU, Below.refl _ _⟩
      case round =>
        obtain ⟨k, out, hk1, hk, rfl, hlo, ho, hI, hbel⟩ := hrel
        have hz := hbel.size
        have hs' := hs.bel hbel
        by_cases hlt : k < n
        · obtain ⟨_, _, x, he, _, hcx, hwx, hd, _⟩ := hs'.get hlt
          injection he with he
          injection he with he1 he2
          subst he1; subst he2
          have HD := Lib.hid hd; clear hd
          by_cases h1 : x = 34
          · subst h1
            have hI2 := hI.out
            rw [HD.out, unq_q] at hI2
            have HI2 := Lib.hid hI2; clear hI2 hI
            go_wp2
            go_ret3
            rw [HI2.out]
            exact ⟨_, rfl, ho, hbel⟩
          · have f1 : (x == 34) = false := by simpa using h1
            by_cases h2 : x = 92
            · subst h2
              have hI2 := hI.out
              rw [HD.out, unq_b] at hI2
              by_cases hlt2 : k + 1 < n
              · obtain ⟨_, _, y, he, _, hcy, hwy, hd2, _⟩ := hs'.get hlt2
                injection he with he
                injection he with he1 he2
                subst he1; subst he2
                rw [hd2, unq_t] at hI2
                have HI2 := Lib.hid hI2; clear hI2 hI hd2
                go_wp2_with (at_builtin; refine wpList_app rfl rfl eltB (by decide) rfl rfl (ho.alloc _) (Sl.one _ _ _ _ hwy) (hbel.alloc (by omega) _) (by refine ⟨?_, ?_⟩ <;> first | omega | (simp; done) | (simp; omega)) (by first | omega | (simp; done) | (simp; omega)) ?_; intro v1 w1 ho1 hb1 hg1)
                refine ⟨⟨_, _, _, _, _, ?rel, rfl, rfl, rfl, rfl, rfl⟩, ?measure⟩
                case rel =>
                  unfold RelU
                  have e : (((k + 2 : Nat) : Int)) = (k : Int) + 1 + 1 := by omega
                  exact ⟨k + 2, out ++ [y], by omega, by omega, by rw [e], by simp; omega, ho1, by show _ = _; rw [e]; exact HI2.out, hb1⟩
                case measure => simp [intOf]; omega
              · rw [List.drop_eq_nil_of_le (by have := HL.out; omega), unq_nil] at hI2
                have HI2 := Lib.hid hI2; clear hI2 hI
                have hkn : n = k + 1 := by omega
                go_wp2
                go_ret3
                rw [HI2.out]
                exact ⟨_, rfl, Own.nil _ _ _ _, hbel⟩
            · have f2 : (x == 92) = false := by simpa using h2
              have hI2 := hI.out
              rw [HD.out, unq_o h1 h2] at hI2
              have HI2 := Lib.hid hI2; clear hI2 hI
              go_wp2_with (at_builtin; refine wpList_app rfl rfl eltB (by decide) rfl rfl (ho.alloc _) (Sl.one _ _ _ _ hwx) (hbel.alloc (by omega) _) (by refine ⟨?_, ?_⟩ <;> first | omega | (simp; done) | (simp; omega)) (by first | omega | (simp; done) | (simp; omega)) ?_; intro v1 w1 ho1 hb1 hg1)
              (first | (go_roundw; (case rel => exact (by unfold RelU; exact ⟨k + 1, out ++ [x], by omega, by omega, by go_num, by simp; omega, ho1, by show _ = _; rw [HI2.out]; push_cast; rfl, hb1⟩)); (case measure => first | (simp [intOf] <;> omega) | (simp [lenOf] <;> omega))) | (refine ⟨?_, ?measure⟩; (repeat apply Exists.intro); refine ⟨?rel, ?eqs⟩; (case eqs => first | rfl | ((repeat (refine ⟨rfl, ?_⟩)); rfl)); (case rel => exact (by unfold RelU; exact ⟨k + 1, out ++ [x], by omega, by omega, by go_num, by simp; omega, ho1, by show _ = _; rw [HI2.out]; push_cast; rfl, hb1⟩)); (case measure => first | (simp [intOf] <;> omega) | (simp [lenOf] <;> omega))) | ((repeat apply Exists.intro); refine ⟨?rel, ?eqs⟩; (case eqs => first | rfl | ((repeat (refine ⟨rfl, ?_⟩)); rfl)); (case rel => exact (by unfold RelU; exact ⟨k + 1, out ++ [x], by omega, by omega, by go_num, by simp; omega, ho1, by show _ = _; rw [HI2.out]; push_cast; rfl, hb1⟩))))
        · have hI2 := hI.out
          rw [List.drop_eq_nil_of_le (by have := HL.out; omega), unq_nil] at hI2
          have HI2 := Lib.hid hI2; clear hI2 hI
          go_wp2
          go_ret3
          rw [HI2.out]
          exact ⟨_, rfl, Own.nil _ _ _ _, hbel⟩
    · have hU : unqS xs = ([], 0, 3) := by rw [hd]; simp [unqS, hx]
      have f1 : (x == 34) = false := by simpa using hx
      have f2 : (x != 34) = true := by simpa using hx
      rw [hU]
      clear hU hd
      go_enter Try.func29, Try.ntmps29
      go_wp2
      go_ret3
      exact ⟨_, rfl, Own.nil _ _ _ _, Below.refl _ _⟩

set_option maxRecDepth 100000 in
set_option maxHeartbeats 1000000 in
theorem p21_Unquote {A n c xs} {w : World} (hs : Sl w .u8 A n c xs) (hn : n ≤ 4194304) : Calls Try.prog 28 #[.slice A n c] w (RetU (unqS xs) w) := by
  have HL := Lib.hid hs.len
  have hle := hs.le
  have hcm := hs.cm
  unfold maxLen at hcm
  by_cases h0 : n = 0
  · subst h0
    obtain rfl : xs = [] := List.eq_nil_of_length_eq_zero HL.out
    go_enter Try.func28, Try.ntmps28
    go_wp2
    go_ret3
    exact ⟨_, rfl, Own.nil _ _ _ _, Below.refl _ _⟩
  · obtain ⟨bb, o, x, rfl, hbb, hcell, hwf, hd, _⟩ := hs.get (j := 0) (by omega)
    rw [List.drop_zero] at hd
    simp only [Nat.add_zero] at hcell
    by_cases hx : x = 34
    · subst hx
      have hU : unqS xs = unq (xs.drop 1) [] 1 false := by rw [hd]; simp [unqS]
      obtain ⟨U, hU0⟩ : ∃ U, unqS xs = U := ⟨_, rfl⟩
      rw [hU0] at hU ⊢
      clear hU0 hd
      have HU := Lib.hid hU; clear hU
      by_cases hc1 : c = 1
      · subst hc1
        have hn1 : n = 1 := by omega
        subst hn1
        have hU2 : U = ([], 0, 4) := by rw [HU.out, List.drop_eq_nil_of_le (by have := HL.out; omega), unq_nil]
        rw [hU2]
        clear hU2 HU
        go_enter Try.func28, Try.ntmps28
        go_wp2
        go_loopw [5, 6, 21] (fun v t i wr => v = .slice none 0 0 ∧ t = .bool false ∧ i = .int .i64 0 ∧ wr = w) (fun _ _ _ _ => 0)
        case atStart => exact ⟨rfl, rfl, rfl, rfl⟩
        case round =>
          obtain ⟨rfl, rfl, rfl, rfl⟩ := hrel
          go_wp2
          go_ret3
          exact ⟨_, rfl, Own.nil _ _ _ _, Below.refl _ _⟩
      · have hs2 := hs.cutAt (lo := 1) (hi := n) (m := n - 1) (c' := c - 1) (by omega) (Nat.le_refl _) rfl rfl
        rw [List.take_of_length_le (by have := HL.out; omega)] at hs2
        have HL2 := Lib.hid hs2.len
        obtain ⟨ys, hys⟩ : ∃ ys, xs.drop 1 = ys := ⟨_, rfl⟩
        have hU := HU.out
        rw [hys] at hs2 HL2 hU
        have HU := Lib.hid hU; clear hU hys
        go_enter Try.func28, Try.ntmps28
        go_wp2
        go_loopw [5, 6, 21] (RelV w n ys U) (fun _ _ i _ => n - 1 - (intOf i).toNat)
        case atStart => unfold RelV; exact ⟨0, [], false, by omega, rfl, rfl, by simp, Own.nil _ _ _ _, by show _ = _; simpa using HU.out, Below.refl _ _⟩
        case round =>
          obtain ⟨k, out, tk, hk, rfl, rfl, hlo, ho, hI, hbel⟩ := hrel
          have hz := hbel.size
          have hs' := hs2.bel hbel
          by_cases hlt : k < n - 1
          · obtain ⟨_, _, x, he, _, hcx, hwx, hd, _⟩ := hs'.get hlt
            injection he with he
            injection he with he1 he2
            subst he1; subst he2
            have hI2 := hI.out
            rw [hd] at hI2
            clear hd hI
            cases tk with
            | true =>
              rw [unq_t] at hI2
              have HI2 := Lib.hid hI2; clear hI2
              go_wp2_with (at_builtin; refine wpList_app rfl rfl eltB (by decide) rfl rfl (ho.alloc _) (Sl.one _ _ _ _ hwx) (hbel.alloc (by omega) _) (by refine ⟨?_, ?_⟩ <;> first | omega | (simp; done) | (simp; omega)) (by first | omega | (simp; done) | (simp; omega)) ?_; intro v1 w1 ho1 hb1 hg1)
              (first | (go_roundw; (case rel => exact (by unfold RelV; exact ⟨k + 1, out ++ [x], false, by omega, by go_num, rfl, by simp; omega, ho1, by show _ = _; rw [HI2.out]; push_cast; rfl, hb1⟩)); (case measure => first | (simp [intOf] <;> omega) | (simp [lenOf] <;> omega))) | (refine ⟨?_, ?measure⟩; (repeat apply Exists.intro); refine ⟨?rel, ?eqs⟩; (case eqs => first | rfl | ((repeat (refine ⟨rfl, ?_⟩)); rfl)); (case rel => exact (by unfold RelV; exact ⟨k + 1, out ++ [x], false, by omega, by go_num, rfl, by simp; omega, ho1, by show _ = _; rw [HI2.out]; push_cast; rfl, hb1⟩)); (case measure => first | (simp [intOf] <;> omega) | (simp [lenOf] <;> omega))) | ((repeat apply Exists.intro); refine ⟨?rel, ?eqs⟩; (case eqs => first | rfl | ((repeat (refine ⟨rfl, ?_⟩)); rfl)); (case rel => exact (by unfold RelV; exact ⟨k + 1, out ++ [x], false, by omega, by go_num, rfl, by simp; omega, ho1, by show _ = _; rw [HI2.out]; push_cast; rfl, hb1⟩))))
            | false =>
              by_cases h1 : x = 34
              · subst h1
                rw [unq_q] at hI2
                have HI2 := Lib.hid hI2; clear hI2
                go_wp2
                go_ret3
                rw [HI2.out]
                exact ⟨_, by go_light; simp; omega, ho, hbel⟩
              · have f1 : (x == 34) = false := by simpa using h1
                by_cases h2 : x = 92
                · subst h2
                  rw [unq_b] at hI2
                  have HI2 := Lib.hid hI2; clear hI2
                  go_wp2
                  (first | (go_roundw; (case rel => exact (by unfold RelV; exact ⟨k + 1, out, true, by omega, by go_num, rfl, by omega, ho, by show _ = _; rw [HI2.out]; push_cast; rfl, hbel⟩)); (case measure => first | (simp [intOf] <;> omega) | (simp [lenOf] <;> omega))) | (refine ⟨?_, ?measure⟩; (repeat apply Exists.intro); refine ⟨?rel, ?eqs⟩; (case eqs => first | rfl | ((repeat (refine ⟨rfl, ?_⟩)); rfl)); (case rel => exact (by unfold RelV; exact ⟨k + 1, out, true, by omega, by go_num, rfl, by omega, ho, by show _ = _; rw [HI2.out]; push_cast; rfl, hbel⟩)); (case measure => first | (simp [intOf] <;> omega) | (simp [lenOf] <;> omega))) | ((repeat apply Exists.intro); refine ⟨?rel, ?eqs⟩; (case eqs => first | rfl | ((repeat (refine ⟨rfl, ?_⟩)); rfl)); (case rel => exact (by unfold RelV; exact ⟨k + 1, out, true, by omega, by go_num, rfl, by omega, ho, by show _ = _; rw [HI2.out]; push_cast; rfl, hbel⟩))))
                · have f2 : (x == 92) = false := by simpa using h2
                  rw [unq_o h1 h2] at hI2
                  have HI2 := Lib.hid hI2; clear hI2
                  go_wp2_with (at_builtin; refine wpList_app rfl rfl eltB (by decide) rfl rfl (ho.alloc _) (Sl.one _ _ _ _ hwx) (hbel.alloc (by omega) _) (by refine ⟨?_, ?_⟩ <;> first | omega | (simp; done) | (simp; omega)) (by first | omega | (simp; done) | (simp; omega)) ?_; intro v1 w1 ho1 hb1 hg1)
                  (first | (go_roundw; (case rel => exact (by unfold RelV; exact ⟨k + 1, out ++ [x], false, by omega, by go_num, rfl, by simp; omega, ho1, by show _ = _; rw [HI2.out]; push_cast; rfl, hb1⟩)); (case measure => first | (simp [intOf] <;> omega) | (simp [lenOf] <;> omega))) | (refine ⟨?_, ?measure⟩; (repeat apply Exists.intro); refine ⟨?rel, ?eqs⟩; (case eqs => first | rfl | ((repeat (refine ⟨rfl, ?_⟩)); rfl)); (case rel => exact (by unfold RelV; exact ⟨k + 1, out ++ [x], false, by omega, by go_num, rfl, by simp; omega, ho1, by show _ = _; rw [HI2.out]; push_cast; rfl, hb1⟩)); (case measure => first | (simp [intOf] <;> omega) | (simp [lenOf] <;> omega))) | ((repeat apply Exists.intro); refine ⟨?rel, ?eqs⟩; (case eqs => first | rfl | ((repeat (refine ⟨rfl, ?_⟩)); rfl)); (case rel => exact (by unfold RelV; exact ⟨k + 1, out ++ [x], false, by omega, by go_num, rfl, by simp; omega, ho1, by show _ = _; rw [HI2.out]; push_cast; rfl, hb1⟩))))
          · have hI2 := hI.out
            rw [List.drop_eq_nil_of_le (by have := HL2.out; omega), unq_nil] at hI2
            have HI2 := Lib.hid hI2; clear hI2 hI
            go_wp2
            go_ret3
            rw [HI2.out]
            exact ⟨_, rfl, Own.nil _ _ _ _, hbel⟩
    · have hU : unqS xs = ([], 0, 3) := by rw [hd]; simp [unqS, hx]
      have f1 : (x == 34) = false := by simpa using hx
      have f2 : (x != 34) = true := by simpa using hx
      rw [hU]
      clear hU hd
      go_enter Try.func28, Try.ntmps28
      go_wp2
      go_ret3
      exact ⟨_, rfl, Own.nil _ _ _ _, Below.refl _ _⟩
end Go.Proofs.Ytcjfjhciobkbcaa
