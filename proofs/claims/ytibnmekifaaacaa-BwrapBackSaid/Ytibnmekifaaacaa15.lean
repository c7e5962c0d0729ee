/- Layer 15 (bloose): the iterator over octets, by the program: what comes, in which order. Conditions: the argument reads as a list. -/
import Derived.Test.YtibnmekifaaacaaRound
import Derived.Test.Ytibnmekifaaacaa15S
import Derived.Test.Ytibnmekifaaacaa14P
namespace Go.Proofs.Ytibnmekifaaacaa
open Go.RowKit Go.Shelf
attribute [local go_sem] Oper.semAt_some

/-- the octets ahead of the first = -/
def preE : List Int → List Int
  | [] => []
  | x :: r => if x = 61 then [] else x :: preE r
/-- the number that comes with an octet -/
def numE (x : Int) : Int := if isD x then valL x else -1
theorem preE_61 (r : List Int) : preE (61 :: r) = [] := if_pos rfl
theorem preE_on {x : Int} {r : List Int} (h : x ≠ 61) : preE (x :: r) = x :: preE r := if_neg h
theorem preE_len (xs : List Int) : (preE xs).length ≤ xs.length := by
  induction xs with
  | nil => exact Nat.le_refl _
  | cons x r ih => unfold preE; split <;> simp only [List.length_cons, List.length_nil] <;> omega
theorem digF_pre (xs : List Int) : digF xs = (preE xs).filter isD := by
  induction xs with
  | nil => rfl
  | cons x r ih =>
    by_cases h : x = 61
    · subst h; rw [digF_61, preE_61]; rfl
    · rw [preE_on h]
      cases hd : isD x with
      | true => rw [digF_yes hd, List.filter_cons, hd, ih]; rfl
      | false => rw [digF_no hd h, List.filter_cons, hd, ih]; rfl
theorem strF_pre (xs : List Int) : strF xs = (((preE xs).filter fun x => !isD x).length : Int) := by
  induction xs with
  | nil => rfl
  | cons x r ih =>
    by_cases h : x = 61
    · subst h; rw [strF_61, preE_61]; rfl
    · rw [preE_on h]
      cases hd : isD x with
      | true => rw [strF_yes hd, List.filter_cons, hd, ih]; rfl
      | false => rw [strF_no hd h, List.filter_cons, hd, ih]; simp only [Bool.not_false, if_true, List.length_cons]; push_cast; omega

set_option maxRecDepth 100000 in
set_option maxHeartbeats 2000000 in
/-- the iterator's closure -/
theorem p15_each1 (n : Nat) (hn : 1 ≤ n) (l Bs n₀ : Nat) {A m c xs} (J Jx : List Int → World → Prop)
    (hY : ∀ pre x W, J pre W → pre.length < (preE xs).length → YieldAt Fence.wide (n - 1) Try.prog l #[.int .u8 x, .int .i64 (numE x)] W fun e W' =>
      (e = .returned (.bool true) ∧ J (pre ++ [x]) W' ∧ Below n₀ W W') ∨ (e = .returned (.bool false) ∧ Jx (pre ++ [x]) W'))
    (W : World) (hBs : W.cell? ⟨Bs, 0, none⟩ = some (.slice A m c)) (hs : ∀ W', Below n₀ W W' → Sl W' .u8 A m c xs) (h0 : J [] W) :
    CallsIn Fence.wide n Try.prog 59 #[.func (.yield l) #[] #[], .pointer (some ⟨Bs, 0, none⟩)] W fun e W' => (∃ v, e = .returned v) ∧
      ((∃ ys, ys = preE xs ∧ J ys W') ∨ (∃ pre, True ∧ Jx pre W')) := by
  have hln := (hs W (Below.refl _ _)).len
  have hcm : m ≤ 9223372036854775807 := by have h1 := (hs W (Below.refl _ _)).le; have h2 := (hs W (Below.refl _ _)).cm; unfold maxLen at h2; omega
  refine callsIn_of_wp Try.func59 rfl trivial ?_ rfl
  simp only [Try.ntmps59, List.size_toArray, List.length_cons, List.length_nil, Nat.reduceAdd, Nat.reduceSub, Array.replicate_succ, Array.replicate_zero, List.push_toArray, List.append_toArray, List.nil_append, List.cons_append]
  gi_wp2
  gi_loopw [9] (fun i wr => ∃ k : Nat, k ≤ m ∧ i = .int .i64 k ∧ Hid (preE xs = xs.take k ++ preE (xs.drop k)) ∧ J (xs.take k) wr ∧ Below n₀ W wr)
    (fun i _ => m - (intOf i).toNat)
  case atStart => exact ⟨0, Nat.zero_le _, rfl, by simp [Hid], by simpa using h0, Below.refl _ _⟩
  case round =>
    obtain ⟨k, hk, rfl, hI, hJs, hnx⟩ := hrel
    by_cases hlt : k < m
    · obtain ⟨b, o, x, rfl, hb, hcell, hwf, hd, ht⟩ := (hs _ hnx).get hlt
      by_cases h61 : x = 61
      · subst h61
        have he : preE xs = xs.take k := by rw [hI.out, hd, preE_61, List.append_nil]
        have HE := Lib.hid he
        clear hI hd ht he
        gi_wp2
        refine bodyPost_ret (results_none rfl _ _ _) rfl ?_
        exact ⟨⟨_, rfl⟩, .inl ⟨_, HE.out.symm, hJs⟩⟩
      · have h61' : (x == 61) = false := by simpa using h61
        have hw1 : wrap64 ((k : Int) + 1) = (k : Int) + 1 := by unfold wrap64; omega
        have he : preE xs = xs.take (k + 1) ++ preE (xs.drop (k + 1)) := by rw [hI.out, hd, preE_on h61, ht]; simp
        have hlen : (xs.take k).length < (preE xs).length := by rw [he, List.length_append, ht, List.length_append]; simp; omega
        obtain ⟨fn, tmps, assign, body, hy, hR⟩ := hY _ x wr hJs hlen
        have HE := Lib.hid he; have HT := Lib.hid ht
        clear hI hd ht he hlen h61
        cases hxd : isD x with
        | true =>
          have hnum : numE x = valL x := by unfold numE; rw [hxd]; rfl
          rw [hnum] at hy
          (try dsimp only at hy)
          have hv := p14_Value (w := wr) hwf
          rw [hxd] at hv
          have HV := Lib.hid hv; clear hv hnum hxd
          gi_wp2_with (refine ⟨trivial, ?_⟩; gi_at_call 37; refine (callsIn_wide.2 HV.out).mono ?_; rintro e w' ⟨rfl, rfl⟩)
          refine hR.mono ?_
          rintro e W3 (⟨rfl, hJ3, hk3⟩ | ⟨rfl, hJx3⟩)
          · gi_wp2
            go_roundw
            case rel => exact ⟨k + 1, by omega, by go_num, HE.out, by rw [HT.out]; exact hJ3, hnx.trans hk3⟩
            case measure => simp [intOf]; omega
          · gi_wp2
            refine bodyPost_ret (results_none rfl _ _ _) rfl ?_
            exact ⟨⟨_, rfl⟩, .inr ⟨_, trivial, hJx3⟩⟩
        | false =>
          have hnum : numE x = -1 := by unfold numE; rw [hxd]; rfl
          rw [hnum] at hy
          (try dsimp only at hy)
          have hv := p14_Value (w := wr) hwf
          rw [hxd] at hv
          have HV := Lib.hid hv; clear hv hnum hxd
          gi_wp2_with (refine ⟨trivial, ?_⟩; gi_at_call 37; refine (callsIn_wide.2 HV.out).mono ?_; rintro e w' ⟨rfl, rfl⟩)
          refine hR.mono ?_
          rintro e W3 (⟨rfl, hJ3, hk3⟩ | ⟨rfl, hJx3⟩)
          · gi_wp2
            go_roundw
            case rel => exact ⟨k + 1, by omega, by go_num, HE.out, by rw [HT.out]; exact hJ3, hnx.trans hk3⟩
            case measure => simp [intOf]; omega
          · gi_wp2
            refine bodyPost_ret (results_none rfl _ _ _) rfl ?_
            exact ⟨⟨_, rfl⟩, .inr ⟨_, trivial, hJx3⟩⟩
    · obtain rfl : k = m := by omega
      have he : preE xs = xs.take k := by rw [hI.out, List.drop_eq_nil_of_le (by omega)]; simp [preE]
      have HE := Lib.hid he
      clear hI he
      gi_wp2
      go_end0
      exact ⟨⟨_, rfl⟩, .inl ⟨_, HE.out.symm, hJs⟩⟩

set_option maxRecDepth 100000 in
set_option maxHeartbeats 1000000 in
theorem p15_each {A m c} {w : World} : Calls Try.prog 49 #[.slice A m c] w (fun e w' => e = .returned (.func (.func 59) #[] #[.pointer (some ⟨w.heap.size, 0, none⟩)]) ∧ w' = w.alloc (.cells #[.slice A m c] 22)) := by
  go_enter Try.func49, Try.ntmps49
  go_wp2
  go_ret
  exact ⟨rfl, rfl⟩

theorem p15_stops (n : Nat) (hn : 1 ≤ n) (Bs n₀ : Nat) {A m c xs} (w : World) (hBs : Bs < w.heap.size) (hn₀ : n₀ ≤ w.heap.size) (hc : w.cell? ⟨Bs, 0, none⟩ = some (.slice A m c)) (w0 : World) (hw0 : w0.heap.size ≤ n₀) (hb0 : Below w0.heap.size w0 w) (hs : Sl w0 .u8 A m c xs) :
    SeqStopsK Fence.wide n Try.prog 59 #[.pointer (some ⟨Bs, 0, none⟩)] (fun x : Int => #[Value.int .u8 x, Value.int .i64 (numE x)]) (Below n₀) (fun ys => ys = preE xs) (fun _ => True) (preE xs).length w := fun l J Jx W hW _ _ hY h0 =>
  p15_each1 n hn l Bs n₀ J Jx hY W ((hW.cell (p := ⟨Bs, 0, none⟩) hBs).trans hc) (fun W' hW' => hs.bel ((hb0.trans (hW.mono hb0.size)).trans (hW'.mono hw0))) h0
end Go.Proofs.Ytibnmekifaaacaa
