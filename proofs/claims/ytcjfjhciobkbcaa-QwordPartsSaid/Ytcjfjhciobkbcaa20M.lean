/- Layer 20's law of parts: it returns true for every input, and leaves what was there. Conditions: the argument reads as a list. -/
import Derived.Test.Ytcjfjhciobkbcaa20L
import Derived.Test.YtcjfjhciobkbcaaReg
import Derived.Test.YtcjfjhciobkbcaaExtW
namespace Go.Proofs.Ytcjfjhciobkbcaa
open Go.RowKit

/-- a slice's address from place j on, as Go keeps it -/
def tailB (A : Option Addr) (c j : Nat) : Option Addr := if c = j then A else A.map (fun x => x.add j)
theorem Sl.tailS {w : World} {k : IntKind} {A : Option Addr} {n c : Nat} {xs : List Int} (h : Sl w k A n c xs) {j : Nat} (hj : j ≤ n) : Sl w k (tailB A c j) (n - j) (c - j) (xs.drop j) := by
  unfold tailB
  have hle := h.le
  by_cases hc : c = j
  · rw [if_pos hc, show n - j = 0 from by omega, show c - j = 0 from by omega, List.drop_eq_nil_of_le (by have := h.len; omega)]; exact Sl.none_
  · rw [if_neg hc]
    have := h.cut (lo := j) (hi := n) (m := n - j) (c' := c - j) hj (Nat.le_refl _) rfl rfl
    rw [List.take_of_length_le (by have := h.len; omega)] at this
    exact this
set_option maxRecDepth 100000 in
set_option maxHeartbeats 4000000 in
theorem law_QwordParts {A n c xs} {d : Int} {w : World} (hs : Sl w .u8 A n c xs) (hd : (Lit.int .i64 d).wf = true) : Calls Try.prog 6 #[.slice A n c, .int .i64 d] w (RetB (.bool true) w) := by
  by_cases hbig : 1000 < n
  · go_enter Try.func6, Try.ntmps6
    go_wp2_with (go_at_call 15; refine alive20.mono ?_; rintro e w1 ⟨rfl, hb⟩)
    go_ret
    exact ⟨rfl, hb⟩
  · have hln := hs.len
    have hle := hs.le
    have hcm := hs.cm
    unfold maxLen at hcm
    obtain ⟨m, hm⟩ : ∃ m : Nat, (if d < 0 then 0 else d) = (m : Int) := ⟨(if d < 0 then 0 else d).toNat, by split <;> omega⟩
    obtain ⟨q, hq⟩ : ∃ q : Nat, (if (n : Int) < (m : Int) then (n : Int) else (m : Int)) = (q : Int) := ⟨min m n, by split <;> omega⟩
    have hqn : q ≤ n := by split at hq <;> omega
    have hfr := hs.take_ (m := q) hqn
    have hta := hs.tailS (j := q) hqn
    have happ := lay20_app (xs.take q) (xs.drop q)
    rw [List.take_append_drop] at happ
    have hl1 := lay20_len (xs.take q)
    have hl2 := lay20_len (xs.drop q)
    rw [hfr.len] at hl1
    rw [hta.len] at hl2
    obtain ⟨zs, hzs⟩ : ∃ zs, lay20 xs = zs := ⟨_, rfl⟩
    obtain ⟨ax, hax⟩ : ∃ ax, lay20 (xs.take q) = ax := ⟨_, rfl⟩
    obtain ⟨bs, hbs⟩ : ∃ bs, lay20 (xs.drop q) = bs := ⟨_, rfl⟩
    rw [hzs, hax, hbs] at happ
    rw [hax] at hl1
    rw [hbs] at hl2
    have P1 := fun (W : World) (h : Sl W .u8 A q c (xs.take q)) => p20_Lay h (by omega)
    have P2 := fun (W : World) (h : Sl W .u8 (tailB A c q) (n - q) (c - q) (xs.drop q)) => p20_Lay h (by omega)
    have P3 := fun (W : World) (h : Sl W .u8 A n c xs) => p20_Lay h (by omega)
    have L1 := fun (W : World) (h : Sl W .u8 A q c (xs.take q)) => p20_Len h (by omega)
    have L2 := fun (W : World) (h : Sl W .u8 (tailB A c q) (n - q) (c - q) (xs.drop q)) => p20_Len h (by omega)
    have L3 := fun (W : World) (h : Sl W .u8 A n c xs) => p20_Len h (by omega)
    simp only [hzs, hax, hbs] at P1 P2 P3 L1 L2 L3
    have HA := Lib.hid happ
    replace P1 := Lib.hid P1; replace P2 := Lib.hid P2; replace P3 := Lib.hid P3
    replace L1 := Lib.hid L1; replace L2 := Lib.hid L2; replace L3 := Lib.hid L3
    clear hzs hax hbs happ
    have hsum : (zs.length : Int) = ax.length + bs.length := by rw [HA.out, List.length_append]; push_cast; rfl
    obtain ⟨hl1a, hl1b⟩ := hl1
    obtain ⟨hl2a, hl2b⟩ := hl2
    have hcase : (c = q ∧ n = q ∧ tailB A c q = A) ∨ (¬ c = q ∧ tailB A c q = Option.map (fun x => x.add q) A) := by
      unfold tailB
      by_cases hc : c = q
      · exact .inl ⟨hc, by omega, if_pos hc⟩
      · exact .inr ⟨hc, if_neg hc⟩
    have hqc : q ≤ c := by omega
    have hnq : (n < m ∧ q = n) ∨ (¬ n < m ∧ m = q) := by split at hq <;> omega
    clear hq
    rcases hcase with ⟨hc, hn, hA⟩ | ⟨hc, hA⟩
    · rcases hnq with ⟨hnm, hq⟩ | ⟨hnm, hq⟩
      · clear hq
        subst hn
        rw [hA] at P2 L2 hta
        subst hc
        simp only [Nat.sub_self] at P2 L2 hta hl2a hl2b
        clear hA
        go_enter Try.func6, Try.ntmps6
        go_wp2_with fail
        refine wp_region_any (by kernel_rfl) ?_
        (try (change wpAny _ _ _ _ _ _ _ (World.drew _)))
        (refine wpAny_take (i := 0) (v := ?_) rfl (by kernel_rfl) (by kernel_rfl) (by kernel_rfl) (fun _ _ _ h => h) (Or.inl ⟨by rfl, ?_⟩) ?_; rotate_left; (· (intro W; go_simp; (try with_reducible rfl))); (try go_simp))
        (refine wpAny_take (i := 1) (v := ?_) rfl (by kernel_rfl) (by kernel_rfl) (by kernel_rfl) (fun _ _ _ h => h) (Or.inl ⟨by rfl, ?_⟩) ?_; rotate_left; (· (intro W; go_simp; (try with_reducible rfl))); (try go_simp))
        (refine wpAny_take (i := 2) (v := ?_) rfl (by kernel_rfl) (by kernel_rfl) (by kernel_rfl) (fun _ _ _ h => h) (Or.inl ⟨by rfl, ?_⟩) ?_; rotate_left; (· (intro W; go_simp; (try with_reducible rfl))); (try go_simp))
        (refine wpAny_take (i := 4) (v := ?_) rfl (by kernel_rfl) (by kernel_rfl) (by kernel_rfl) (fun _ _ _ h => h) (Or.inl ⟨by rfl, ?_⟩) ?_; rotate_left; (· (intro W; go_simp; (try with_reducible rfl))); (try go_simp))
        (refine wpAny_take (i := 5) (v := ?_) rfl (by kernel_rfl) (by kernel_rfl) (by kernel_rfl) (fun _ _ _ h => h) (Or.inl ⟨by rfl, ?_⟩) ?_; rotate_left; (· (intro W; go_simp; (try with_reducible rfl))); (try go_simp))
        (refine wpAny_take (i := 6) (v := ?_) rfl (by kernel_rfl) (by kernel_rfl) (by kernel_rfl) (fun _ _ _ h => h) (Or.inl ⟨by rfl, ?_⟩) ?_; rotate_left; (· (intro W; go_simp; (try with_reducible rfl))); (try go_simp))
        (refine wpAny_ready (rs := [3]) (by kernel_rfl) (by simp) ?_; refine AllReady.cons rfl (fun K hK => ?_) AllReady.nil)
        go_simp
        go_at_call 16
        refine (P1.out _ hfr.drew).mono ?_
        rintro e w1 ⟨v1, rfl, ho1, hb1⟩
        have hb1 : Below w.heap.size w w1 := ((Below.refl _ _).drew).trans hb1
        obtain ⟨A1, n1, c1, rfl, hs1⟩ := ho1.sl
        clear ho1
        (try go_simp)
        refine hK _ _ ?_
        clear hK K
        (refine wpAny_ready (rs := [7]) (by kernel_rfl) (by simp) ?_; refine AllReady.cons rfl (fun K hK => ?_) AllReady.nil)
        go_simp
        go_at_call 16
        refine (P2.out _ (hta.bel hb1)).mono ?_
        rintro e w2 ⟨v2, rfl, ho2, hb2⟩
        obtain ⟨A2, n2, c2, rfl, hs2⟩ := ho2.sl
        clear ho2
        have hB2 := below_then hb1 hb2
        (try go_simp)
        refine hK _ _ ?_
        clear hK K
        (refine wpAny_take (i := 8) (v := ?_) rfl (by kernel_rfl) (by kernel_rfl) (by kernel_rfl) (fun _ _ _ h => h) (Or.inl ⟨by rfl, ?_⟩) ?_; rotate_left; (· (intro W; go_simp; (try with_reducible rfl))); (try go_simp))
        (refine wpAny_take (i := 9) (v := ?_) rfl (by kernel_rfl) (by kernel_rfl) (by kernel_rfl) (fun _ _ _ h => h) (Or.inl ⟨by rfl, ?_⟩) ?_; rotate_left; (· (intro W; go_simp; (try with_reducible rfl))); (try go_simp))
        refine wpAny_done (by kernel_rfl) ?_ _
        go_wp2
        refine wp_region_any (by kernel_rfl) ?_
        (try (change wpAny _ _ _ _ _ _ _ (World.drew _)))
        have hn1 := hs1.len
        have hn2 := hs2.len
        have hwr : IntKind.i64.wrap ((n1 : Int) + (n2 : Int)) = (n1 : Int) + (n2 : Int) := by rw [IntKind.wrap_i64]; omega
        (refine wpAny_take (i := 0) (v := ?_) rfl (by kernel_rfl) (by kernel_rfl) (by kernel_rfl) (fun _ _ _ h => h) (Or.inl ⟨by rfl, ?_⟩) ?_; rotate_left; (· (intro W; go_simp; (try with_reducible rfl))); (try go_simp))
        (refine wpAny_take (i := 2) (v := ?_) rfl (by kernel_rfl) (by kernel_rfl) (by kernel_rfl) (fun _ _ _ h => h) (Or.inl ⟨by rfl, ?_⟩) ?_; rotate_left; (· (intro W; go_simp; (try with_reducible rfl))); (try go_simp))
        (refine wpAny_take (i := 4) (v := ?_) rfl (by kernel_rfl) (by kernel_rfl) (by kernel_rfl) (fun _ _ _ h => h) (Or.inl ⟨by rfl, ?_⟩) ?_; rotate_left; (· (intro W; go_simp; (try with_reducible rfl))); (try go_simp))
        (refine wpAny_ready (rs := [1]) (by kernel_rfl) (by simp) ?_; refine AllReady.cons rfl (fun K hK => ?_) AllReady.nil)
        refine step_app rfl rfl eltB (by decide) rfl rfl (Own.nil _ w2.heap.size _ _) ((hs1.bel hb2).drew) ((Below.refl w2.heap.size w2).drew) ⟨Nat.le_refl _, Nat.le_refl _⟩ (by simp; omega) ?_
        intro v3 w3 ho3 hb3 hg3
        rw [List.nil_append] at ho3
        have hz3 := hb3.size
        refine hK _ _ ?_
        clear hK K
        (refine wpAny_ready (rs := [3]) (by kernel_rfl) (by simp) ?_; refine AllReady.cons rfl (fun K hK => ?_) AllReady.nil)
        refine step_app rfl rfl eltB (by decide) rfl rfl ho3 (hs2.bel hb3) hb3 ⟨Nat.le_refl _, hz3⟩ (by omega) ?_
        intro v4 w4 ho4 hb4 hg4
        obtain ⟨A4, n4, c4, rfl, hs4⟩ := ho4.sl
        rw [← HA.out] at hs4
        clear ho3 ho4 hg3 hg4
        have hB4 := below_then hB2 hb4
        refine hK _ _ ?_
        clear hK K
        (refine wpAny_ready (rs := [5]) (by kernel_rfl) (by simp) ?_; refine AllReady.cons rfl (fun K hK => ?_) AllReady.nil)
        go_simp
        go_at_call 16
        refine (P3.out _ (hs.bel hB4)).mono ?_
        rintro e w5 ⟨v5, rfl, ho5, hb5⟩
        obtain ⟨A5, n5, c5, rfl, hs5⟩ := ho5.sl
        clear ho5
        have hB5 := below_then hB4 hb5
        (try go_simp)
        refine hK _ _ ?_
        clear hK K
        have hlk := fun (W : World) (h1 : Sl W .u8 A4 n4 c4 zs) (h2 : Sl W .u8 A5 n5 c5 zs) => r01_Like h1 h2
        rw [likeL_self zs] at hlk
        have HLK := Lib.hid hlk
        clear hlk
        refine wpAny_lex 6 _ rfl (by kernel_rfl) (by kernel_rfl) ?_
        simp only [List.drop_succ_cons, List.drop_zero]
        quiet_step ((rename_i X; go_at_call 17; exact Calls.ext X (HLK.out _ ((hs4.bel hb5).bel X.h) (hs5.bel X.h))))
        quiet_step (fail)
        quiet_step (fail)
        quiet_step ((rename_i X; go_at_call 19; exact Calls.ext_same X (L3.out _ ((hs.bel hB5).bel X.h))))
        quiet_step (fail)
        quiet_step (fail)
        quiet_step (fail)
        quiet_step ((rename_i X; go_at_call 19; exact Calls.ext_same X (L1.out _ ((hfr.bel hB5).bel X.h))))
        quiet_step (fail)
        quiet_step (fail)
        quiet_step (fail)
        quiet_step ((rename_i X; go_at_call 19; exact Calls.ext_same X (L2.out _ ((hta.bel hB5).bel X.h))))
        quiet_step (fail)
        quiet_step (fail)
        quiet_step (fail)
        quiet_step (fail)
        quiet_step ((rename_i X; go_at_call 15; exact Calls.ext X alive20))
        quiet_step (fail)
        quiet_step (fail)
        refine wpQuiet_nil ?_
        rintro _ ⟨X, rfl⟩
        go_wp2
        go_ret
        exact ⟨rfl, below_then hB5 X.h⟩
      · subst hq
        subst hn
        rw [hA] at P2 L2 hta
        subst hc
        simp only [Nat.sub_self] at P2 L2 hta hl2a hl2b
        clear hA
        go_enter Try.func6, Try.ntmps6
        go_wp2_with fail
        refine wp_region_any (by kernel_rfl) ?_
        (try (change wpAny _ _ _ _ _ _ _ (World.drew _)))
        (refine wpAny_take (i := 0) (v := ?_) rfl (by kernel_rfl) (by kernel_rfl) (by kernel_rfl) (fun _ _ _ h => h) (Or.inl ⟨by rfl, ?_⟩) ?_; rotate_left; (· (intro W; go_simp; (try with_reducible rfl))); (try go_simp))
        (refine wpAny_take (i := 1) (v := ?_) rfl (by kernel_rfl) (by kernel_rfl) (by kernel_rfl) (fun _ _ _ h => h) (Or.inl ⟨by rfl, ?_⟩) ?_; rotate_left; (· (intro W; go_simp; (try with_reducible rfl))); (try go_simp))
        (refine wpAny_take (i := 2) (v := ?_) rfl (by kernel_rfl) (by kernel_rfl) (by kernel_rfl) (fun _ _ _ h => h) (Or.inl ⟨by rfl, ?_⟩) ?_; rotate_left; (· (intro W; go_simp; (try with_reducible rfl))); (try go_simp))
        (refine wpAny_take (i := 4) (v := ?_) rfl (by kernel_rfl) (by kernel_rfl) (by kernel_rfl) (fun _ _ _ h => h) (Or.inl ⟨by rfl, ?_⟩) ?_; rotate_left; (· (intro W; go_simp; (try with_reducible rfl))); (try go_simp))
        (refine wpAny_take (i := 5) (v := ?_) rfl (by kernel_rfl) (by kernel_rfl) (by kernel_rfl) (fun _ _ _ h => h) (Or.inl ⟨by rfl, ?_⟩) ?_; rotate_left; (· (intro W; go_simp; (try with_reducible rfl))); (try go_simp))
        (refine wpAny_take (i := 6) (v := ?_) rfl (by kernel_rfl) (by kernel_rfl) (by kernel_rfl) (fun _ _ _ h => h) (Or.inl ⟨by rfl, ?_⟩) ?_; rotate_left; (· (intro W; go_simp; (try with_reducible rfl))); (try go_simp))
        (refine wpAny_ready (rs := [3]) (by kernel_rfl) (by simp) ?_; refine AllReady.cons rfl (fun K hK => ?_) AllReady.nil)
        go_simp
        go_at_call 16
        refine (P1.out _ hfr.drew).mono ?_
        rintro e w1 ⟨v1, rfl, ho1, hb1⟩
        have hb1 : Below w.heap.size w w1 := ((Below.refl _ _).drew).trans hb1
        obtain ⟨A1, n1, c1, rfl, hs1⟩ := ho1.sl
        clear ho1
        (try go_simp)
        refine hK _ _ ?_
        clear hK K
        (refine wpAny_ready (rs := [7]) (by kernel_rfl) (by simp) ?_; refine AllReady.cons rfl (fun K hK => ?_) AllReady.nil)
        go_simp
        go_at_call 16
        refine (P2.out _ (hta.bel hb1)).mono ?_
        rintro e w2 ⟨v2, rfl, ho2, hb2⟩
        obtain ⟨A2, n2, c2, rfl, hs2⟩ := ho2.sl
        clear ho2
        have hB2 := below_then hb1 hb2
        (try go_simp)
        refine hK _ _ ?_
        clear hK K
        (refine wpAny_take (i := 8) (v := ?_) rfl (by kernel_rfl) (by kernel_rfl) (by kernel_rfl) (fun _ _ _ h => h) (Or.inl ⟨by rfl, ?_⟩) ?_; rotate_left; (· (intro W; go_simp; (try with_reducible rfl))); (try go_simp))
        (refine wpAny_take (i := 9) (v := ?_) rfl (by kernel_rfl) (by kernel_rfl) (by kernel_rfl) (fun _ _ _ h => h) (Or.inl ⟨by rfl, ?_⟩) ?_; rotate_left; (· (intro W; go_simp; (try with_reducible rfl))); (try go_simp))
        refine wpAny_done (by kernel_rfl) ?_ _
        go_wp2
        refine wp_region_any (by kernel_rfl) ?_
        (try (change wpAny _ _ _ _ _ _ _ (World.drew _)))
        have hn1 := hs1.len
        have hn2 := hs2.len
        have hwr : IntKind.i64.wrap ((n1 : Int) + (n2 : Int)) = (n1 : Int) + (n2 : Int) := by rw [IntKind.wrap_i64]; omega
        (refine wpAny_take (i := 0) (v := ?_) rfl (by kernel_rfl) (by kernel_rfl) (by kernel_rfl) (fun _ _ _ h => h) (Or.inl ⟨by rfl, ?_⟩) ?_; rotate_left; (· (intro W; go_simp; (try with_reducible rfl))); (try go_simp))
        (refine wpAny_take (i := 2) (v := ?_) rfl (by kernel_rfl) (by kernel_rfl) (by kernel_rfl) (fun _ _ _ h => h) (Or.inl ⟨by rfl, ?_⟩) ?_; rotate_left; (· (intro W; go_simp; (try with_reducible rfl))); (try go_simp))
        (refine wpAny_take (i := 4) (v := ?_) rfl (by kernel_rfl) (by kernel_rfl) (by kernel_rfl) (fun _ _ _ h => h) (Or.inl ⟨by rfl, ?_⟩) ?_; rotate_left; (· (intro W; go_simp; (try with_reducible rfl))); (try go_simp))
        (refine wpAny_ready (rs := [1]) (by kernel_rfl) (by simp) ?_; refine AllReady.cons rfl (fun K hK => ?_) AllReady.nil)
        refine step_app rfl rfl eltB (by decide) rfl rfl (Own.nil _ w2.heap.size _ _) ((hs1.bel hb2).drew) ((Below.refl w2.heap.size w2).drew) ⟨Nat.le_refl _, Nat.le_refl _⟩ (by simp; omega) ?_
        intro v3 w3 ho3 hb3 hg3
        rw [List.nil_append] at ho3
        have hz3 := hb3.size
        refine hK _ _ ?_
        clear hK K
        (refine wpAny_ready (rs := [3]) (by kernel_rfl) (by simp) ?_; refine AllReady.cons rfl (fun K hK => ?_) AllReady.nil)
        refine step_app rfl rfl eltB (by decide) rfl rfl ho3 (hs2.bel hb3) hb3 ⟨Nat.le_refl _, hz3⟩ (by omega) ?_
        intro v4 w4 ho4 hb4 hg4
        obtain ⟨A4, n4, c4, rfl, hs4⟩ := ho4.sl
        rw [← HA.out] at hs4
        clear ho3 ho4 hg3 hg4
        have hB4 := below_then hB2 hb4
        refine hK _ _ ?_
        clear hK K
        (refine wpAny_ready (rs := [5]) (by kernel_rfl) (by simp) ?_; refine AllReady.cons rfl (fun K hK => ?_) AllReady.nil)
        go_simp
        go_at_call 16
        refine (P3.out _ (hs.bel hB4)).mono ?_
        rintro e w5 ⟨v5, rfl, ho5, hb5⟩
        obtain ⟨A5, n5, c5, rfl, hs5⟩ := ho5.sl
        clear ho5
        have hB5 := below_then hB4 hb5
        (try go_simp)
        refine hK _ _ ?_
        clear hK K
        have hlk := fun (W : World) (h1 : Sl W .u8 A4 n4 c4 zs) (h2 : Sl W .u8 A5 n5 c5 zs) => r01_Like h1 h2
        rw [likeL_self zs] at hlk
        have HLK := Lib.hid hlk
        clear hlk
        refine wpAny_lex 6 _ rfl (by kernel_rfl) (by kernel_rfl) ?_
        simp only [List.drop_succ_cons, List.drop_zero]
        quiet_step ((rename_i X; go_at_call 17; exact Calls.ext X (HLK.out _ ((hs4.bel hb5).bel X.h) (hs5.bel X.h))))
        quiet_step (fail)
        quiet_step (fail)
        quiet_step ((rename_i X; go_at_call 19; exact Calls.ext_same X (L3.out _ ((hs.bel hB5).bel X.h))))
        quiet_step (fail)
        quiet_step (fail)
        quiet_step (fail)
        quiet_step ((rename_i X; go_at_call 19; exact Calls.ext_same X (L1.out _ ((hfr.bel hB5).bel X.h))))
        quiet_step (fail)
        quiet_step (fail)
        quiet_step (fail)
        quiet_step ((rename_i X; go_at_call 19; exact Calls.ext_same X (L2.out _ ((hta.bel hB5).bel X.h))))
        quiet_step (fail)
        quiet_step (fail)
        quiet_step (fail)
        quiet_step (fail)
        quiet_step ((rename_i X; go_at_call 15; exact Calls.ext X alive20))
        quiet_step (fail)
        quiet_step (fail)
        refine wpQuiet_nil ?_
        rintro _ ⟨X, rfl⟩
        go_wp2
        go_ret
        exact ⟨rfl, below_then hB5 X.h⟩
    · rw [hA] at P2 L2 hta
      clear hA
      rcases hnq with ⟨hnm, rfl⟩ | ⟨hnm, rfl⟩
      · simp only [Nat.sub_self] at P2 L2 hta hl2a hl2b
        go_enter Try.func6, Try.ntmps6
        go_wp2_with fail
        refine wp_region_any (by kernel_rfl) ?_
        (try (change wpAny _ _ _ _ _ _ _ (World.drew _)))
        (refine wpAny_take (i := 0) (v := ?_) rfl (by kernel_rfl) (by kernel_rfl) (by kernel_rfl) (fun _ _ _ h => h) (Or.inl ⟨by rfl, ?_⟩) ?_; rotate_left; (· (intro W; go_simp; (try with_reducible rfl))); (try go_simp))
        (refine wpAny_take (i := 1) (v := ?_) rfl (by kernel_rfl) (by kernel_rfl) (by kernel_rfl) (fun _ _ _ h => h) (Or.inl ⟨by rfl, ?_⟩) ?_; rotate_left; (· (intro W; go_simp; (try with_reducible rfl))); (try go_simp))
        (refine wpAny_take (i := 2) (v := ?_) rfl (by kernel_rfl) (by kernel_rfl) (by kernel_rfl) (fun _ _ _ h => h) (Or.inl ⟨by rfl, ?_⟩) ?_; rotate_left; (· (intro W; go_simp; (try with_reducible rfl))); (try go_simp))
        (refine wpAny_take (i := 4) (v := ?_) rfl (by kernel_rfl) (by kernel_rfl) (by kernel_rfl) (fun _ _ _ h => h) (Or.inl ⟨by rfl, ?_⟩) ?_; rotate_left; (· (intro W; go_simp; (try with_reducible rfl))); (try go_simp))
        (refine wpAny_take (i := 5) (v := ?_) rfl (by kernel_rfl) (by kernel_rfl) (by kernel_rfl) (fun _ _ _ h => h) (Or.inl ⟨by rfl, ?_⟩) ?_; rotate_left; (· (intro W; go_simp; (try with_reducible rfl))); (try go_simp))
        (refine wpAny_take (i := 6) (v := ?_) rfl (by kernel_rfl) (by kernel_rfl) (by kernel_rfl) (fun _ _ _ h => h) (Or.inl ⟨by rfl, ?_⟩) ?_; rotate_left; (· (intro W; go_simp; (try with_reducible rfl))); (try go_simp))
        (refine wpAny_ready (rs := [3]) (by kernel_rfl) (by simp) ?_; refine AllReady.cons rfl (fun K hK => ?_) AllReady.nil)
        go_simp
        go_at_call 16
        refine (P1.out _ hfr.drew).mono ?_
        rintro e w1 ⟨v1, rfl, ho1, hb1⟩
        have hb1 : Below w.heap.size w w1 := ((Below.refl _ _).drew).trans hb1
        obtain ⟨A1, n1, c1, rfl, hs1⟩ := ho1.sl
        clear ho1
        (try go_simp)
        refine hK _ _ ?_
        clear hK K
        (refine wpAny_ready (rs := [7]) (by kernel_rfl) (by simp) ?_; refine AllReady.cons rfl (fun K hK => ?_) AllReady.nil)
        go_simp
        go_at_call 16
        refine (P2.out _ (hta.bel hb1)).mono ?_
        rintro e w2 ⟨v2, rfl, ho2, hb2⟩
        obtain ⟨A2, n2, c2, rfl, hs2⟩ := ho2.sl
        clear ho2
        have hB2 := below_then hb1 hb2
        (try go_simp)
        refine hK _ _ ?_
        clear hK K
        (refine wpAny_take (i := 8) (v := ?_) rfl (by kernel_rfl) (by kernel_rfl) (by kernel_rfl) (fun _ _ _ h => h) (Or.inl ⟨by rfl, ?_⟩) ?_; rotate_left; (· (intro W; go_simp; (try with_reducible rfl))); (try go_simp))
        (refine wpAny_take (i := 9) (v := ?_) rfl (by kernel_rfl) (by kernel_rfl) (by kernel_rfl) (fun _ _ _ h => h) (Or.inl ⟨by rfl, ?_⟩) ?_; rotate_left; (· (intro W; go_simp; (try with_reducible rfl))); (try go_simp))
        refine wpAny_done (by kernel_rfl) ?_ _
        go_wp2
        refine wp_region_any (by kernel_rfl) ?_
        (try (change wpAny _ _ _ _ _ _ _ (World.drew _)))
        have hn1 := hs1.len
        have hn2 := hs2.len
        have hwr : IntKind.i64.wrap ((n1 : Int) + (n2 : Int)) = (n1 : Int) + (n2 : Int) := by rw [IntKind.wrap_i64]; omega
        (refine wpAny_take (i := 0) (v := ?_) rfl (by kernel_rfl) (by kernel_rfl) (by kernel_rfl) (fun _ _ _ h => h) (Or.inl ⟨by rfl, ?_⟩) ?_; rotate_left; (· (intro W; go_simp; (try with_reducible rfl))); (try go_simp))
        (refine wpAny_take (i := 2) (v := ?_) rfl (by kernel_rfl) (by kernel_rfl) (by kernel_rfl) (fun _ _ _ h => h) (Or.inl ⟨by rfl, ?_⟩) ?_; rotate_left; (· (intro W; go_simp; (try with_reducible rfl))); (try go_simp))
        (refine wpAny_take (i := 4) (v := ?_) rfl (by kernel_rfl) (by kernel_rfl) (by kernel_rfl) (fun _ _ _ h => h) (Or.inl ⟨by rfl, ?_⟩) ?_; rotate_left; (· (intro W; go_simp; (try with_reducible rfl))); (try go_simp))
        (refine wpAny_ready (rs := [1]) (by kernel_rfl) (by simp) ?_; refine AllReady.cons rfl (fun K hK => ?_) AllReady.nil)
        refine step_app rfl rfl eltB (by decide) rfl rfl (Own.nil _ w2.heap.size _ _) ((hs1.bel hb2).drew) ((Below.refl w2.heap.size w2).drew) ⟨Nat.le_refl _, Nat.le_refl _⟩ (by simp; omega) ?_
        intro v3 w3 ho3 hb3 hg3
        rw [List.nil_append] at ho3
        have hz3 := hb3.size
        refine hK _ _ ?_
        clear hK K
        (refine wpAny_ready (rs := [3]) (by kernel_rfl) (by simp) ?_; refine AllReady.cons rfl (fun K hK => ?_) AllReady.nil)
        refine step_app rfl rfl eltB (by decide) rfl rfl ho3 (hs2.bel hb3) hb3 ⟨Nat.le_refl _, hz3⟩ (by omega) ?_
        intro v4 w4 ho4 hb4 hg4
        obtain ⟨A4, n4, c4, rfl, hs4⟩ := ho4.sl
        rw [← HA.out] at hs4
        clear ho3 ho4 hg3 hg4
        have hB4 := below_then hB2 hb4
        refine hK _ _ ?_
        clear hK K
        (refine wpAny_ready (rs := [5]) (by kernel_rfl) (by simp) ?_; refine AllReady.cons rfl (fun K hK => ?_) AllReady.nil)
        go_simp
        go_at_call 16
        refine (P3.out _ (hs.bel hB4)).mono ?_
        rintro e w5 ⟨v5, rfl, ho5, hb5⟩
        obtain ⟨A5, n5, c5, rfl, hs5⟩ := ho5.sl
        clear ho5
        have hB5 := below_then hB4 hb5
        (try go_simp)
        refine hK _ _ ?_
        clear hK K
        have hlk := fun (W : World) (h1 : Sl W .u8 A4 n4 c4 zs) (h2 : Sl W .u8 A5 n5 c5 zs) => r01_Like h1 h2
        rw [likeL_self zs] at hlk
        have HLK := Lib.hid hlk
        clear hlk
        refine wpAny_lex 6 _ rfl (by kernel_rfl) (by kernel_rfl) ?_
        simp only [List.drop_succ_cons, List.drop_zero]
        quiet_step ((rename_i X; go_at_call 17; exact Calls.ext X (HLK.out _ ((hs4.bel hb5).bel X.h) (hs5.bel X.h))))
        quiet_step (fail)
        quiet_step (fail)
        quiet_step ((rename_i X; go_at_call 19; exact Calls.ext_same X (L3.out _ ((hs.bel hB5).bel X.h))))
        quiet_step (fail)
        quiet_step (fail)
        quiet_step (fail)
        quiet_step ((rename_i X; go_at_call 19; exact Calls.ext_same X (L1.out _ ((hfr.bel hB5).bel X.h))))
        quiet_step (fail)
        quiet_step (fail)
        quiet_step (fail)
        quiet_step ((rename_i X; go_at_call 19; exact Calls.ext_same X (L2.out _ ((hta.bel hB5).bel X.h))))
        quiet_step (fail)
        quiet_step (fail)
        quiet_step (fail)
        quiet_step (fail)
        quiet_step ((rename_i X; go_at_call 15; exact Calls.ext X alive20))
        quiet_step (fail)
        quiet_step (fail)
        refine wpQuiet_nil ?_
        rintro _ ⟨X, rfl⟩
        go_wp2
        go_ret
        exact ⟨rfl, below_then hB5 X.h⟩
      · skip
        go_enter Try.func6, Try.ntmps6
        go_wp2_with fail
        refine wp_region_any (by kernel_rfl) ?_
        (try (change wpAny _ _ _ _ _ _ _ (World.drew _)))
        (refine wpAny_take (i := 0) (v := ?_) rfl (by kernel_rfl) (by kernel_rfl) (by kernel_rfl) (fun _ _ _ h => h) (Or.inl ⟨by rfl, ?_⟩) ?_; rotate_left; (· (intro W; go_simp; (try with_reducible rfl))); (try go_simp))
        (refine wpAny_take (i := 1) (v := ?_) rfl (by kernel_rfl) (by kernel_rfl) (by kernel_rfl) (fun _ _ _ h => h) (Or.inl ⟨by rfl, ?_⟩) ?_; rotate_left; (· (intro W; go_simp; (try with_reducible rfl))); (try go_simp))
        (refine wpAny_take (i := 2) (v := ?_) rfl (by kernel_rfl) (by kernel_rfl) (by kernel_rfl) (fun _ _ _ h => h) (Or.inl ⟨by rfl, ?_⟩) ?_; rotate_left; (· (intro W; go_simp; (try with_reducible rfl))); (try go_simp))
        (refine wpAny_take (i := 4) (v := ?_) rfl (by kernel_rfl) (by kernel_rfl) (by kernel_rfl) (fun _ _ _ h => h) (Or.inl ⟨by rfl, ?_⟩) ?_; rotate_left; (· (intro W; go_simp; (try with_reducible rfl))); (try go_simp))
        (refine wpAny_take (i := 5) (v := ?_) rfl (by kernel_rfl) (by kernel_rfl) (by kernel_rfl) (fun _ _ _ h => h) (Or.inl ⟨by rfl, ?_⟩) ?_; rotate_left; (· (intro W; go_simp; (try with_reducible rfl))); (try go_simp))
        (refine wpAny_take (i := 6) (v := ?_) rfl (by kernel_rfl) (by kernel_rfl) (by kernel_rfl) (fun _ _ _ h => h) (Or.inl ⟨by rfl, ?_⟩) ?_; rotate_left; (· (intro W; go_simp; (try with_reducible rfl))); (try go_simp))
        (refine wpAny_ready (rs := [3]) (by kernel_rfl) (by simp) ?_; refine AllReady.cons rfl (fun K hK => ?_) AllReady.nil)
        go_simp
        go_at_call 16
        refine (P1.out _ hfr.drew).mono ?_
        rintro e w1 ⟨v1, rfl, ho1, hb1⟩
        have hb1 : Below w.heap.size w w1 := ((Below.refl _ _).drew).trans hb1
        obtain ⟨A1, n1, c1, rfl, hs1⟩ := ho1.sl
        clear ho1
        (try go_simp)
        refine hK _ _ ?_
        clear hK K
        (refine wpAny_ready (rs := [7]) (by kernel_rfl) (by simp) ?_; refine AllReady.cons rfl (fun K hK => ?_) AllReady.nil)
        go_simp
        go_at_call 16
        refine (P2.out _ (hta.bel hb1)).mono ?_
        rintro e w2 ⟨v2, rfl, ho2, hb2⟩
        obtain ⟨A2, n2, c2, rfl, hs2⟩ := ho2.sl
        clear ho2
        have hB2 := below_then hb1 hb2
        (try go_simp)
        refine hK _ _ ?_
        clear hK K
        (refine wpAny_take (i := 8) (v := ?_) rfl (by kernel_rfl) (by kernel_rfl) (by kernel_rfl) (fun _ _ _ h => h) (Or.inl ⟨by rfl, ?_⟩) ?_; rotate_left; (· (intro W; go_simp; (try with_reducible rfl))); (try go_simp))
        (refine wpAny_take (i := 9) (v := ?_) rfl (by kernel_rfl) (by kernel_rfl) (by kernel_rfl) (fun _ _ _ h => h) (Or.inl ⟨by rfl, ?_⟩) ?_; rotate_left; (· (intro W; go_simp; (try with_reducible rfl))); (try go_simp))
        refine wpAny_done (by kernel_rfl) ?_ _
        go_wp2
        refine wp_region_any (by kernel_rfl) ?_
        (try (change wpAny _ _ _ _ _ _ _ (World.drew _)))
        have hn1 := hs1.len
        have hn2 := hs2.len
        have hwr : IntKind.i64.wrap ((n1 : Int) + (n2 : Int)) = (n1 : Int) + (n2 : Int) := by rw [IntKind.wrap_i64]; omega
        (refine wpAny_take (i := 0) (v := ?_) rfl (by kernel_rfl) (by kernel_rfl) (by kernel_rfl) (fun _ _ _ h => h) (Or.inl ⟨by rfl, ?_⟩) ?_; rotate_left; (· (intro W; go_simp; (try with_reducible rfl))); (try go_simp))
        (refine wpAny_take (i := 2) (v := ?_) rfl (by kernel_rfl) (by kernel_rfl) (by kernel_rfl) (fun _ _ _ h => h) (Or.inl ⟨by rfl, ?_⟩) ?_; rotate_left; (· (intro W; go_simp; (try with_reducible rfl))); (try go_simp))
        (refine wpAny_take (i := 4) (v := ?_) rfl (by kernel_rfl) (by kernel_rfl) (by kernel_rfl) (fun _ _ _ h => h) (Or.inl ⟨by rfl, ?_⟩) ?_; rotate_left; (· (intro W; go_simp; (try with_reducible rfl))); (try go_simp))
        (refine wpAny_ready (rs := [1]) (by kernel_rfl) (by simp) ?_; refine AllReady.cons rfl (fun K hK => ?_) AllReady.nil)
        refine step_app rfl rfl eltB (by decide) rfl rfl (Own.nil _ w2.heap.size _ _) ((hs1.bel hb2).drew) ((Below.refl w2.heap.size w2).drew) ⟨Nat.le_refl _, Nat.le_refl _⟩ (by simp; omega) ?_
        intro v3 w3 ho3 hb3 hg3
        rw [List.nil_append] at ho3
        have hz3 := hb3.size
        refine hK _ _ ?_
        clear hK K
        (refine wpAny_ready (rs := [3]) (by kernel_rfl) (by simp) ?_; refine AllReady.cons rfl (fun K hK => ?_) AllReady.nil)
        refine step_app rfl rfl eltB (by decide) rfl rfl ho3 (hs2.bel hb3) hb3 ⟨Nat.le_refl _, hz3⟩ (by omega) ?_
        intro v4 w4 ho4 hb4 hg4
        obtain ⟨A4, n4, c4, rfl, hs4⟩ := ho4.sl
        rw [← HA.out] at hs4
        clear ho3 ho4 hg3 hg4
        have hB4 := below_then hB2 hb4
        refine hK _ _ ?_
        clear hK K
        (refine wpAny_ready (rs := [5]) (by kernel_rfl) (by simp) ?_; refine AllReady.cons rfl (fun K hK => ?_) AllReady.nil)
        go_simp
        go_at_call 16
        refine (P3.out _ (hs.bel hB4)).mono ?_
        rintro e w5 ⟨v5, rfl, ho5, hb5⟩
        obtain ⟨A5, n5, c5, rfl, hs5⟩ := ho5.sl
        clear ho5
        have hB5 := below_then hB4 hb5
        (try go_simp)
        refine hK _ _ ?_
        clear hK K
        have hlk := fun (W : World) (h1 : Sl W .u8 A4 n4 c4 zs) (h2 : Sl W .u8 A5 n5 c5 zs) => r01_Like h1 h2
        rw [likeL_self zs] at hlk
        have HLK := Lib.hid hlk
        clear hlk
        refine wpAny_lex 6 _ rfl (by kernel_rfl) (by kernel_rfl) ?_
        simp only [List.drop_succ_cons, List.drop_zero]
        quiet_step ((rename_i X; go_at_call 17; exact Calls.ext X (HLK.out _ ((hs4.bel hb5).bel X.h) (hs5.bel X.h))))
        quiet_step (fail)
        quiet_step (fail)
        quiet_step ((rename_i X; go_at_call 19; exact Calls.ext_same X (L3.out _ ((hs.bel hB5).bel X.h))))
        quiet_step (fail)
        quiet_step (fail)
        quiet_step (fail)
        quiet_step ((rename_i X; go_at_call 19; exact Calls.ext_same X (L1.out _ ((hfr.bel hB5).bel X.h))))
        quiet_step (fail)
        quiet_step (fail)
        quiet_step (fail)
        quiet_step ((rename_i X; go_at_call 19; exact Calls.ext_same X (L2.out _ ((hta.bel hB5).bel X.h))))
        quiet_step (fail)
        quiet_step (fail)
        quiet_step (fail)
        quiet_step (fail)
        quiet_step ((rename_i X; go_at_call 15; exact Calls.ext X alive20))
        quiet_step (fail)
        quiet_step (fail)
        refine wpQuiet_nil ?_
        rintro _ ⟨X, rfl⟩
        go_wp2
        go_ret
        exact ⟨rfl, below_then hB5 X.h⟩
end Go.Proofs.Ytcjfjhciobkbcaa
