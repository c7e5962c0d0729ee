/- Layer 47 (date): digits behind a slice: what the program's function returns. Condition: the slice is the call's own. -/
import Derived.Test.Ytjiofcnlibkhkaa47F
import Derived.Test.Ytjiofcnlibkhkaa47
namespace Go.Proofs.Ytjiofcnlibkhkaa
open Go.RowKit

def digL (n : Int) : Nat → List Int
  | 0 => []
  | k + 1 => digL (n / 10) k ++ [48 + n % 10]
theorem digL_len (n : Int) (k : Nat) : (digL n k).length = k := by
  induction k generalizing n with
  | zero => rfl
  | succ k ih => unfold digL; simp [ih]
theorem digL_wf {n : Int} (hn : 0 ≤ n) (k : Nat) : ∀ x ∈ digL n k, (Lit.int .u8 x).wf = true := by
  induction k generalizing n with
  | zero => simp [digL]
  | succ k ih =>
    intro x hx
    unfold digL at hx
    rcases List.mem_append.1 hx with hx | hx
    · exact ih (n := n / 10) (by omega) x hx
    · obtain rfl := List.mem_singleton.1 hx
      exact wf_u8.2 (by omega)
def RetApp (B : Nat) (xs : List Int) (w : World) (e : Ending) (w' : World) : Prop := ∃ v, e = .returned v ∧ App w' B v xs ∧ Below B w w'
set_option maxRecDepth 100000 in
set_option maxHeartbeats 2000000 in
theorem p47_digits (k : Nat) : ∀ {n : Int} {B : Nat} {v : Value} {xs : List Int} {w : World}, k ≤ 4 → 0 ≤ n → n ≤ 1000000 → App w B v xs → B ≤ w.heap.size → xs.length ≤ 1000 → Calls Try.prog 26 #[v, .int .i64 n, .int .i64 ((k : Int) + 1)] w (RetApp B (xs ++ digL n (k + 1)) w) := by
  induction k with
  | zero =>
    intro n B v xs w _ hn hn2 ho hB hl
    have q := tmod_pos (y := n) hn 10
    have HE := Lib.hid (show digL n (0 + 1) = [48 + n % 10] from rfl)
    obtain ⟨r, hr⟩ : ∃ r, n % 10 = r := ⟨_, rfl⟩
    have hr2 : 0 ≤ r ∧ r ≤ 9 := by omega
    rw [hr] at q HE
    obtain ⟨hr3, hr4⟩ := hr2
    clear hr
    have hsl : Sl (w.alloc (.cells #[.int .u8 (48 + r)] 5)) .u8 (some ⟨w.heap.size, 0, none⟩) 1 1 [48 + r] := Sl.one w .u8 5 (48 + r) (wf_u8.2 (by omega))
    have hoa := ho.alloc (.cells #[.int .u8 (48 + r)] 5)
    go_enter Try.func26, Try.ntmps26
    go_wp2_with (at_builtin; refine wpList_appA rfl rfl eltB (by decide) rfl rfl hoa hsl (by omega) (by simp; omega) (by omega) ?_; intro v2 w2 ho2 hb2)
    go_ret
    exact ⟨_, rfl, by rw [HE.out]; exact ho2, ((Below.refl B w).alloc hB _).trans hb2⟩
  | succ k ih =>
    intro n B v xs w hk hn hn2 ho hB hl
    have q := tmod_pos (y := n) hn 10
    have q2 := tdiv_pos (y := n) hn 10
    have HE := Lib.hid (show digL n (k + 1 + 1) = digL (n / 10) (k + 1) ++ [48 + n % 10] from rfl)
    have hdl := digL_len (n / 10) (k + 1)
    obtain ⟨r, hr⟩ : ∃ r, n % 10 = r := ⟨_, rfl⟩
    obtain ⟨d, hd⟩ : ∃ d, n / 10 = d := ⟨_, rfl⟩
    have hr2 : 0 ≤ r ∧ r ≤ 9 := by omega
    have hd2 : 0 ≤ d ∧ d ≤ 1000000 := by omega
    rw [hr] at q HE
    rw [hd] at q2 HE hdl
    obtain ⟨hr3, hr4⟩ := hr2
    obtain ⟨hd3, hd4⟩ := hd2
    clear hr hd
    have hrec := ih (n := d) (by omega) hd3 hd4 ho hB hl
    have ek : (((k + 1 : Nat) : Int) + 1) = (k : Int) + 1 + 1 := by omega
    rw [ek]
    clear ek ih
    go_enter Try.func26, Try.ntmps26
    go_wp2_with (first | (go_at_call 26; refine hrec.mono ?_; rintro e w1 ⟨v1, rfl, ho1, hb1⟩; have hz1 := hb1.size; have hsl : Sl (w1.alloc (.cells #[.int .u8 (48 + r)] 5)) .u8 (some ⟨w1.heap.size, 0, none⟩) 1 1 [48 + r] := Sl.one w1 .u8 5 (48 + r) (wf_u8.2 (by omega)); have hoa := ho1.alloc (.cells #[.int .u8 (48 + r)] 5); have hBz : B ≤ w1.heap.size := Nat.le_trans hB hz1) | (at_builtin; refine wpList_appA rfl rfl eltB (by decide) rfl rfl hoa hsl (by omega) (by simp; omega) (by rw [List.length_append, hdl]; omega) ?_; intro v2 w2 ho2 hb2))
    go_ret
    exact ⟨_, rfl, by rw [HE.out, ← List.append_assoc]; exact ho2, (hb1.alloc hBz _).trans hb2⟩
end Go.Proofs.Ytjiofcnlibkhkaa
