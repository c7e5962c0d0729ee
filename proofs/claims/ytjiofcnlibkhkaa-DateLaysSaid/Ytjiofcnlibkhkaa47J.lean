/- Layer 47 (date): digits as a text: what the reference's function returns. Conditions: the number is from 0 to 10^6, at most four digits. -/
import Derived.Test.Ytjiofcnlibkhkaa47I
namespace Go.Proofs.Ytjiofcnlibkhkaa
open Go.RowKit

set_option maxRecDepth 100000 in
set_option maxHeartbeats 4000000 in
theorem r47_digits (k : Nat) : ∀ {n : Int} {w : World}, k ≤ 4 → 0 ≤ n → n ≤ 1000000 → Calls Try.prog 28 #[.int .i64 n, .int .i64 (k : Int)] w (RetB (.string (strOfNums (digL n k))) w) := by
  induction k with
  | zero =>
    intro n w _ hn hn2
    go_enter Try.func28, Try.ntmps28
    go_wp2
    go_ret
    exact ⟨by rw [show digL n 0 = [] from rfl]; rfl, Below.refl _ _⟩
  | succ k ih =>
    intro n w hk hn hn2
    have q := tmod_pos (y := n) hn 10
    have q2 := tdiv_pos (y := n) hn 10
    have HE := Lib.hid (show digL n (k + 1) = digL (n / 10) k ++ [48 + n % 10] from rfl)
    have hdl := digL_len (n / 10) k
    obtain ⟨r, hr⟩ : ∃ r, n % 10 = r := ⟨_, rfl⟩
    obtain ⟨d, hd⟩ : ∃ d, n / 10 = d := ⟨_, rfl⟩
    have hr2 : 0 ≤ r ∧ r ≤ 9 := by omega
    have hd2 : 0 ≤ d ∧ d ≤ 1000000 := by omega
    rw [hr] at q HE
    rw [hd] at q2 HE hdl
    obtain ⟨hr3, hr4⟩ := hr2
    obtain ⟨hd3, hd4⟩ := hd2
    clear hr hd
    have hrec := fun w => ih (n := d) (w := w) (by omega) hd3 hd4
    have ek : (((k + 1 : Nat) : Int)) = (k : Int) + 1 := by omega
    rw [ek]
    clear ek ih
    have kcv := fun (W : World) (A : Option Addr) (h : Sl W .u8 A 1 1 [48 + r]) => h.str (P := Try.prog) 30 5 9 Try.underlying30 Try.underlying5 Try.underlying9
    have hz1 : (strOfNums [48 + r]).size = 1 := by simp [strOfNums, ByteArray.size]
    have hz2 : (strOfNums (digL d k)).size = k := by rw [str_size, hdl]
    have HS := Lib.hid (show strOfNums (digL d k) ++ strOfNums [48 + r] = strOfNums (digL n (k + 1)) from by rw [str_app, HE.out])
    clear HE hdl
    obtain ⟨s1, hs1⟩ : ∃ s, strOfNums [48 + r] = s := ⟨_, rfl⟩
    obtain ⟨s2, hs2⟩ : ∃ s, strOfNums (digL d k) = s := ⟨_, rfl⟩
    obtain ⟨s3, hs3⟩ : ∃ s, strOfNums (digL n (k + 1)) = s := ⟨_, rfl⟩
    rw [hs1] at kcv hz1 HS
    rw [hs2] at hrec hz2 HS
    rw [hs3] at HS ⊢
    clear hs1 hs2 hs3
    have hwr : IntKind.i64.wrap (48 + r) = 48 + r := by rw [IntKind.wrap_i64]; omega
    have hwr8 : IntKind.u8.wrap (48 + r) = 48 + r := by simp [IntKind.wrap, IntKind.bits, IntKind.signed]; omega
    have hwk : IntKind.i64.wrap (k : Int) = (k : Int) := by rw [IntKind.wrap_i64]; omega
    have hsum : ¬ 9223372036854775807 < k + 1 := by omega
    have hwd : IntKind.i64.wrap d = d := by rw [IntKind.wrap_i64]; omega
    go_enter Try.func28, Try.ntmps28
    go_wp2_with fail
    refine wp_region_any (by kernel_rfl) ?_
    (try (change wpAny _ _ _ _ _ _ _ (World.drew _)))
    (refine wpAny_take (i := 0) (v := ?_) rfl (by kernel_rfl) (by kernel_rfl) (by kernel_rfl) (fun _ _ _ h => h) (Or.inl ⟨by rfl, ?_⟩) ?_; rotate_left; (· (intro W; go_simp; (try with_reducible rfl))); (try go_simp))
    (refine wpAny_take (i := 1) (v := ?_) rfl (by kernel_rfl) (by kernel_rfl) (by kernel_rfl) (fun _ _ _ h => h) (Or.inl ⟨by rfl, ?_⟩) ?_; rotate_left; (· (intro W; go_simp; (try with_reducible rfl))); (try go_simp))
    (refine wpAny_take (i := 2) (v := ?_) rfl (by kernel_rfl) (by kernel_rfl) (by kernel_rfl) (fun _ _ _ h => h) (Or.inl ⟨by rfl, ?_⟩) ?_; rotate_left; (· (intro W; go_simp; (try with_reducible rfl))); (try go_simp))
    (refine wpAny_take (i := 3) (v := ?_) rfl (by kernel_rfl) (by kernel_rfl) (by kernel_rfl) (fun _ _ _ h => h) (Or.inl ⟨by rfl, ?_⟩) ?_; rotate_left; (· (intro W; go_simp; (try with_reducible rfl))); (try go_simp))
    (try rw [hwk])
    (refine wpAny_take (i := 5) (v := ?_) rfl (by kernel_rfl) (by kernel_rfl) (by kernel_rfl) (fun _ _ _ h => h) (Or.inl ⟨by rfl, ?_⟩) ?_; rotate_left; (· (intro W; go_simp; (try with_reducible rfl))); (try go_simp))
    (refine wpAny_take (i := 6) (v := ?_) rfl (by kernel_rfl) (by kernel_rfl) (by kernel_rfl) (fun _ _ _ h => h) (Or.inl ⟨by rfl, ?_⟩) ?_; rotate_left; (· (intro W; go_simp; (try with_reducible rfl))); (try go_simp))
    (refine wpAny_take (i := 7) (v := ?_) rfl (by kernel_rfl) (by kernel_rfl) (by kernel_rfl) (fun _ _ _ h => h) (Or.inl ⟨by rfl, ?_⟩) ?_; rotate_left; (· (intro W; go_simp; (try with_reducible rfl))); (try go_simp))
    (try rw [hwr])
    (refine wpAny_take (i := 8) (v := ?_) rfl (by kernel_rfl) (by kernel_rfl) (by kernel_rfl) (fun _ _ _ h => h) (Or.inl ⟨by rfl, ?_⟩) ?_; rotate_left; (· (intro W; go_simp; (try with_reducible rfl))); (try go_simp))
    (try rw [hwr8])
    (try rw [hwd])
    (refine wpAny_ready (rs := [4, 9]) (by kernel_rfl) (by simp) ?_; refine AllReady.cons rfl (fun K hK => ?_) (AllReady.cons rfl (fun K hK => ?_) AllReady.nil))
    · go_simp
      refine (hrec _).mono ?_
      rintro e w1 ⟨rfl, hb1⟩
      have hb1 : Below w.heap.size w w1 := ((Below.refl _ _).drew).trans hb1
      (try go_simp)
      refine hK _ _ ?_
      clear hK K
      (refine wpAny_ready (rs := [9]) (by kernel_rfl) (by simp) ?_; refine AllReady.cons rfl (fun K hK => ?_) AllReady.nil)
      go_simp
      have hcv := kcv _ _ (Sl.one w1 .u8 5 (48 + r) (wf_u8.2 (by omega)))
      refine hK _ _ ?_
      clear hK K
      (refine wpAny_ready (rs := [10]) (by kernel_rfl) (by simp) ?_; refine AllReady.cons rfl (fun K hK => ?_) AllReady.nil)
      go_simp
      refine hK _ _ ?_
      clear hK K
      have HB := hb1.alloc hb1.size (.cells #[.int .u8 (48 + r)] 5)
      (refine wpAny_take (i := 11) (v := ?_) rfl (by kernel_rfl) (by kernel_rfl) (by kernel_rfl) (fun _ _ _ h => h) (Or.inl ⟨by rfl, ?_⟩) ?_; rotate_left; (· (intro W; go_simp; (try with_reducible rfl))); (try go_simp))
      (refine wpAny_take (i := 12) (v := ?_) rfl (by kernel_rfl) (by kernel_rfl) (by kernel_rfl) (fun _ _ _ h => h) (Or.inl ⟨by rfl, ?_⟩) ?_; rotate_left; (· (intro W; go_simp; (try with_reducible rfl))); (try go_simp))
      refine wpAny_done (by kernel_rfl) ?_ _
      go_wp2
      go_ret
      exact ⟨by rw [← HS.out]; rfl, HB⟩
    · go_simp
      have hsl := (Sl.one w .u8 5 (48 + r) (wf_u8.2 (by omega))).drew
      have hcv0 := kcv _ _ hsl
      have HB0 := ((Below.refl w.heap.size w).alloc (Nat.le_refl _) (.cells #[.int .u8 (48 + r)] 5)).drew
      refine hK _ _ ?_
      clear hK K
      (refine wpAny_ready (rs := [4, 10]) (by kernel_rfl) (by simp) ?_; refine AllReady.cons rfl (fun K hK => ?_) (AllReady.cons rfl (fun K hK => ?_) AllReady.nil))
      · go_simp
        refine (hrec _).mono ?_
        rintro e w1 ⟨rfl, hb1⟩
        have hcv := kcv _ _ (hsl.bel hb1)
        have HB := HB0.trans (hb1.mono HB0.size)
        (try go_simp)
        refine hK _ _ ?_
        clear hK K
        (refine wpAny_ready (rs := [10]) (by kernel_rfl) (by simp) ?_; refine AllReady.cons rfl (fun K hK => ?_) AllReady.nil)
        go_simp
        refine hK _ _ ?_
        clear hK K
        (refine wpAny_take (i := 11) (v := ?_) rfl (by kernel_rfl) (by kernel_rfl) (by kernel_rfl) (fun _ _ _ h => h) (Or.inl ⟨by rfl, ?_⟩) ?_; rotate_left; (· (intro W; go_simp; (try with_reducible rfl))); (try go_simp))
        (refine wpAny_take (i := 12) (v := ?_) rfl (by kernel_rfl) (by kernel_rfl) (by kernel_rfl) (fun _ _ _ h => h) (Or.inl ⟨by rfl, ?_⟩) ?_; rotate_left; (· (intro W; go_simp; (try with_reducible rfl))); (try go_simp))
        refine wpAny_done (by kernel_rfl) ?_ _
        go_wp2
        go_ret
        exact ⟨by rw [← HS.out]; rfl, HB⟩
      · go_simp
        refine hK _ _ ?_
        clear hK K
        (refine wpAny_ready (rs := [4]) (by kernel_rfl) (by simp) ?_; refine AllReady.cons rfl (fun K hK => ?_) AllReady.nil)
        go_simp
        refine (hrec _).mono ?_
        rintro e w1 ⟨rfl, hb1⟩
        have HB := HB0.trans (hb1.mono HB0.size)
        (try go_simp)
        refine hK _ _ ?_
        clear hK K
        (refine wpAny_take (i := 11) (v := ?_) rfl (by kernel_rfl) (by kernel_rfl) (by kernel_rfl) (fun _ _ _ h => h) (Or.inl ⟨by rfl, ?_⟩) ?_; rotate_left; (· (intro W; go_simp; (try with_reducible rfl))); (try go_simp))
        (refine wpAny_take (i := 12) (v := ?_) rfl (by kernel_rfl) (by kernel_rfl) (by kernel_rfl) (fun _ _ _ h => h) (Or.inl ⟨by rfl, ?_⟩) ?_; rotate_left; (· (intro W; go_simp; (try with_reducible rfl))); (try go_simp))
        refine wpAny_done (by kernel_rfl) ?_ _
        go_wp2
        go_ret
        exact ⟨by rw [← HS.out]; rfl, HB⟩
end Go.Proofs.Ytjiofcnlibkhkaa
