/- Layer 44 (uue): a line read, by the program: what its functions return. Conditions: the argument reads as a list; lengths at most 2^22. -/
import Derived.Test.Ytlmkhjegckgmcaa44E
namespace Go.Proofs.Ytlmkhjegckgmcaa
open Go.RowKit

theorem all_drop {p : Int → Bool} {xs : List Int} {k : Nat} (h : ∀ x ∈ xs.take k, p x = true) : xs.all p = (xs.drop k).all p := by
  rw [← List.take_append_drop k xs, List.all_append, List.all_eq_true.2 h, Bool.true_and]; simp
def valsU (xs : List Int) : List Int := if xs.all okU then xs.map valU else []
theorem valR_ok {c : Int} (h : okU c = true) : valR c = valU c := by unfold valR; rw [if_pos h]
theorem valU_bd (c : Int) : 0 ≤ valU c ∧ valU c < 64 := by unfold valU; omega
set_option maxRecDepth 100000 in
set_option maxHeartbeats 1000000 in
theorem p44_values {A n c xs} {w : World} (hs : Sl w .u8 A n c xs) (hn : n ≤ 4194304) :
    Calls Try.prog 68 #[.slice A n c] w (RetOwn (fun v => .tuple #[v, .bool (xs.all okU)]) 3 .i64 (valsU xs) w) := by
  have HL := Lib.hid hs.len
  go_enter Try.func68, Try.ntmps68
  go_wp2
  go_loopw [4, 11] (fun v i wr => ∃ k : Nat, k ≤ n ∧ i = .int .i64 k ∧ Hid (∀ x ∈ xs.take k, okU x = true) ∧ Own wr w.heap.size 3 .i64 v ((xs.take k).map valU) ∧ Below w.heap.size w wr) (fun _ i _ => n - (intOf i).toNat)
  case atStart => exact ⟨0, Nat.zero_le _, rfl, by show ∀ x ∈ xs.take 0, _; simp, Own.nil _ _ _ _, Below.refl _ _⟩
  case round =>
    obtain ⟨k, hk, rfl, hA, ho, hbel⟩ := hrel
    have hz := hbel.size
    have hs' := hs.bel hbel
    by_cases hlt : k < n
    · obtain ⟨b, o, x, rfl, hb, hcell, hwf, hd, ht⟩ := hs'.get hlt
      have HT := Lib.hid ht; have HD := Lib.hid hd
      clear ht hd
      have hlen : ((xs.take k).map valU).length ≤ 4194304 := by simp; omega
      have hvb := valU_bd x
      cases hx : okU x with
      | true =>
        have hv := valR_ok hx
        have hp := p44_Value (w := wr) hwf
        rw [hx, hv] at hp
        have HX := Lib.hid hx
        clear hx hv
        obtain ⟨y, hy⟩ : ∃ y, valU x = y := ⟨_, rfl⟩
        rw [hy] at hp hvb
        have HY := Lib.hid hy; clear hy
        have hyw : (Lit.int .i64 y).wf = true := wf_i64.2 (by omega)
        have HP := Lib.hid hp; clear hp
        go_wp2_with (first | (go_at_call 46; refine HP.out.mono ?_; rintro e w' ⟨rfl, rfl⟩) | (at_builtin; refine wpList_app rfl rfl eltI (by decide) rfl rfl (ho.alloc _) (Sl.one _ _ _ _ hyw) (hbel.alloc (by omega) _) (by refine ⟨?_, ?_⟩ <;> first | omega | (simp; done) | (simp; omega)) (by first | omega | (simp; done) | (simp; omega)) ?_; intro v1 w1 ho1 hb1 hg1))
        (first | (go_roundw; (case rel => exact ⟨k + 1, by omega, by go_num, by show ∀ z ∈ _, _; rw [HT.out]; intro z hz; rcases List.mem_append.1 hz with hz | hz; exact hA.out z hz; simp at hz; subst hz; exact HX.out, by rw [HT.out, List.map_append, List.map_cons, List.map_nil, HY.out]; exact ho1, hb1⟩); (case measure => first | (simp [intOf] <;> omega) | (simp [lenOf] <;> omega))) | (refine ⟨?_, ?measure⟩; (repeat apply Exists.intro); refine ⟨?rel, ?eqs⟩; (case eqs => first | rfl | ((repeat (refine ⟨rfl, ?_⟩)); rfl)); (case rel => exact ⟨k + 1, by omega, by go_num, by show ∀ z ∈ _, _; rw [HT.out]; intro z hz; rcases List.mem_append.1 hz with hz | hz; exact hA.out z hz; simp at hz; subst hz; exact HX.out, by rw [HT.out, List.map_append, List.map_cons, List.map_nil, HY.out]; exact ho1, hb1⟩); (case measure => first | (simp [intOf] <;> omega) | (simp [lenOf] <;> omega))) | ((repeat apply Exists.intro); refine ⟨?rel, ?eqs⟩; (case eqs => first | rfl | ((repeat (refine ⟨rfl, ?_⟩)); rfl)); (case rel => exact ⟨k + 1, by omega, by go_num, by show ∀ z ∈ _, _; rw [HT.out]; intro z hz; rcases List.mem_append.1 hz with hz | hz; exact hA.out z hz; simp at hz; subst hz; exact HX.out, by rw [HT.out, List.map_append, List.map_cons, List.map_nil, HY.out]; exact ho1, hb1⟩)))
      | false =>
        have hno : xs.all okU = false := by rw [all_drop hA.out, HD.out]; simp [hx]
        have hp := p44_Value (w := wr) hwf
        rw [hx] at hp
        have HN := Lib.hid hno; clear hno hx
        have HP := Lib.hid hp; clear hp
        go_wp2_with (first | (go_at_call 46; refine HP.out.mono ?_; rintro e w' ⟨rfl, rfl⟩))
        go_ret2
        exact ⟨.slice none 0 0, ret2 rfl (vbool HN.out.symm), by unfold valsU; rw [HN.out]; exact Own.nil _ _ _ _, hbel⟩
    · have hyes : xs.all okU = true := by rw [all_drop hA.out, List.drop_eq_nil_of_le (by have := HL.out; omega)]; rfl
      have HY := Lib.hid hyes; clear hyes
      go_wp2
      go_ret2
      exact ⟨_, ret2 rfl (vbool HY.out.symm), by unfold valsU; rw [HY.out]; rw [List.take_of_length_le (by have := HL.out; omega)] at ho; exact ho, hbel⟩

theorem or_lowG (k : Nat) (h v : Int) (hk : k ≤ 18) (h1 : 0 ≤ h) (h2 : h < 1048576) (v1 : 0 ≤ v) (v2 : v < 2 ^ k) : bits .or .i64 (h * 2 ^ k) v = h * 2 ^ k + v := by
  obtain ⟨a, rfl⟩ := Int.eq_ofNat_of_zero_le h1
  obtain ⟨b, rfl⟩ := Int.eq_ofNat_of_zero_le v1
  have hb : b < 2 ^ k := by exact_mod_cast v2
  have hp : 2 ^ k ≤ 2 ^ 18 := Nat.pow_le_pow_right (by omega) hk
  have ha : a * 2 ^ k ≤ 1048576 * 262144 := Nat.mul_le_mul (by omega) hp
  have e : ((a : Int) * 2 ^ k) = ((a * 2 ^ k : Nat) : Int) := by push_cast; rfl
  rw [e]
  show IntKind.i64.wrap ((BitVec.ofInt 64 ((a * 2 ^ k : Nat) : Int) ||| BitVec.ofInt 64 (b : Int)).toNat : Int) = _
  rw [BitVec.toNat_or, ofInt_i64 _ (by omega), ofInt_i64 _ (by omega), IntKind.wrap_i64]
  have e2 : a * 2 ^ k ||| b = a * 2 ^ k + b := by
    rw [Nat.mul_comm, Nat.two_pow_add_eq_or_of_lt hb]
  rw [e2]
  omega
theorem or_abcd {a b c d : Int} (ha : 0 ≤ a ∧ a < 64) (hb : 0 ≤ b ∧ b < 64) (hc : 0 ≤ c ∧ c < 64) (hd : 0 ≤ d ∧ d < 64) :
    bits .or .i64 (a * 262144) (b * 4096) = a * 262144 + b * 4096 ∧ bits .or .i64 (a * 262144 + b * 4096) (c * 64) = a * 262144 + b * 4096 + c * 64 ∧
    bits .or .i64 (a * 262144 + b * 4096 + c * 64) d = a * 262144 + b * 4096 + c * 64 + d := by
  have e1 := or_lowG 18 a (b * 4096) (by omega) (by omega) (by omega) (by omega) (by omega)
  have e2 := or_lowG 12 (a * 64 + b) (c * 64) (by omega) (by omega) (by omega) (by omega) (by omega)
  have e3 := or_lowG 6 (a * 4096 + b * 64 + c) d (by omega) (by omega) (by omega) (by omega) (by omega)
  rw [show (2 : Int) ^ 18 = 262144 from rfl] at e1
  rw [show (2 : Int) ^ 12 = 4096 from rfl] at e2
  rw [show (2 : Int) ^ 6 = 64 from rfl] at e3
  rw [show (a * 64 + b) * 4096 = a * 262144 + b * 4096 from by omega] at e2
  rw [show (a * 4096 + b * 64 + c) * 64 = a * 262144 + b * 4096 + c * 64 from by omega] at e3
  exact ⟨e1, e2, e3⟩

def RetFr (xs : List Int) (w : World) (e : Ending) (w' : World) : Prop :=
  ∃ A n c, e = .returned (.tuple #[.slice A n c, .int .i64 (fromU xs).2]) ∧ Sl w' .u8 A n c (fromU xs).1 ∧ Below w.heap.size w w'

theorem from_nil : fromU [] = ([], 4) := rfl
theorem from_no {xs : List Int} (h : xs ≠ []) (h2 : xs.all okU = false) : fromU xs = ([], 3) := by unfold fromU; rw [if_neg h, if_pos (.inl h2)]
theorem from_big {xs : List Int} (h : xs ≠ []) (h2 : 45 < valU (xs.getD 0 0)) : fromU xs = ([], 3) := by unfold fromU; rw [if_neg h, if_pos (.inr h2)]
theorem from_on {xs : List Int} (h : xs ≠ []) (h2 : xs.all okU = true) (h3 : ¬ 45 < valU (xs.getD 0 0)) : fromU xs =
    if (xs.length : Int) - 1 < needU xs then ([], 4) else if needU xs < (xs.length : Int) - 1 then ([], 3) else ((decU ((xs.drop 1).map valU)).take (valU (xs.getD 0 0)).toNat, 0) := by
  unfold fromU; rw [if_neg h, if_neg (by simp only [h2, Bool.true_eq_false, false_or]; exact h3)]
end Go.Proofs.Ytlmkhjegckgmcaa
