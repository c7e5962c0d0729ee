/- Layer 17's laws: each returns true for every input, and leaves what was there. No condition but that the arguments read as lists. -/
import Derived.Test.Ytonellflklaggaa17
import Derived.Lib.SlBytesConst
namespace Go.Proofs.Ytonellflklaggaa
open Go.RowKit

theorem ev17a : err17 [44, 44, 52] = 0 ∧ oct17 [44, 44, 52] = [255, 254] := by decide
theorem ev17b : lay17 [255, 254] = [44, 44, 52] := by decide
theorem ev17c : len17 2 = 3 := by decide
theorem ev17d : usualL [44, 97] = [47, 97] := by decide
theorem st17a : strOfNums [44, 44, 52] = { data := #[44, 44, 52] } := by decide
theorem st17b : strOfNums [47, 97] = { data := #[47, 97] } := by decide

set_option maxRecDepth 100000 in
set_option maxHeartbeats 1000000 in
theorem alive17 {w : World} : Calls Try.prog 37 #[] w (RetB (.bool true) w) := by
  have kc := fun (w : World) (C : Array Value) (n c : Nat) => Lib.run_convert_bytes_const (P := Try.prog) w 28 5 C n c Try.underlying28 Try.underlying5
  have e4 := ev17c
  go_enter Try.func37, Try.ntmps37
  go_wp2_with fail
  refine (p17_Read (Sl.newF w .u8 5 [44, 44, 52] _ (by decide) (by decide)) (by decide)).mono ?_
  rintro e w1 ⟨v1, rfl, ho1, hb1⟩
  rw [ev17a.2] at ho1
  rw [ev17a.1]
  have hB1 := below_then' ((Below.refl _ _).alloc (Nat.le_refl _) _) hb1 (Nat.le_refl w.heap.size)
  obtain ⟨A1, n1, c1, rfl, hs1⟩ := ho1.sl
  have hn1 : n1 = 2 := hs1.len.symm
  subst hn1
  clear ho1
  go_wp2_with fail
  refine (p17_Lay (Sl.new w1 .u8 5 [255, 254] (by decide) (by decide)) (by decide)).mono ?_
  rintro e w2 ⟨v2, rfl, ho2, hb2⟩
  rw [ev17b] at ho2
  have hb12 := below_then' ((Below.refl _ _).alloc (Nat.le_refl _) _) hb2 (Nat.le_refl w1.heap.size)
  have hB2 := below_then hB1 hb12
  have hs1b := hs1.bel hb12
  obtain ⟨A2, n2, c2, rfl, hs2⟩ := ho2.sl
  clear ho2 hs1
  have q1 := hs2.str (P := Try.prog) 28 5 9 Try.underlying28 Try.underlying5 Try.underlying9
  rw [st17a] at q1
  clear hs2
  obtain ⟨b, o, rfl, hlt⟩ := hs1b.form (by omega)
  have hc1 : w2.cell? ⟨b, o + 1, none⟩ = some (.int .u8 254) := hs1b.cell (j := 1) (by omega)
  clear hs1b
  go_wp2_with (go_at_call 42; refine (p17_Len (by decide)).mono ?_; rintro e w' ⟨rfl, rfl⟩)
  refine (p17_Usual (Sl.newF w2 .u8 5 [44, 97] _ (by decide) (by decide)) (by decide)).mono ?_
  rintro e w3 ⟨v3, rfl, ho3, hb3⟩
  rw [ev17d] at ho3
  have hb23 := below_then' ((Below.refl _ _).alloc (Nat.le_refl _) _) hb3 (Nat.le_refl w2.heap.size)
  have hB3 := below_then hB2 hb23
  obtain ⟨A3, n3, c3, rfl, hs3⟩ := ho3.sl
  clear ho3
  have q2 := hs3.str (P := Try.prog) 28 5 9 Try.underlying28 Try.underlying5 Try.underlying9
  rw [st17b] at q2
  clear hs3
  go_wp2
  go_ret
  exact ⟨rfl, hB3⟩

theorem len17_lay (xs : List Int) : len17 (xs.length : Int) = ((lay17 xs).length : Int) := by
  have h1 : (lay17 xs).length = (bare3 xs).length := by simp [lay17, modL, turnL]
  rw [h1, bare3_length]
  unfold len17
  rcases Nat.eq_zero_or_pos xs.length with h | h
  · rw [h]; rfl
  · rw [if_neg (by omega)]
    split <;> split <;> omega

set_option maxRecDepth 100000 in
set_option maxHeartbeats 1000000 in
theorem law_BmodLays {A n c xs} {k x : Int} {w : World} (hs : Sl w .u8 A n c xs) (hx : (Lit.int .u8 x).wf = true) :
    Calls Try.prog 10 #[.slice A n c, .int .i64 k, .int .u8 x] w (RetB (.bool true) w) := by
  by_cases hbig : 1000 < n
  · go_enter Try.func10, Try.ntmps10
    go_wp2_with (go_at_call 37; refine alive17.mono ?_; rintro e w1 ⟨rfl, hb⟩)
    go_ret
    exact ⟨rfl, hb⟩
  by_cases hbig2 : 1099511627776 < k
  · go_enter Try.func10, Try.ntmps10
    go_wp2_with (go_at_call 37; refine alive17.mono ?_; rintro e w1 ⟨rfl, hb⟩)
    go_ret
    exact ⟨rfl, hb⟩
  · have e1 := likeL_self (lay17 xs)
    have HL := Lib.hid hs.len
    go_enter Try.func10, Try.ntmps10
    go_wp2_with (first | (go_at_call 38; refine (p17_Value hx).mono ?_; rintro e w' ⟨rfl, rfl⟩) | (go_at_call 39; refine r17_Value.mono ?_; rintro e w' ⟨rfl, rfl⟩))
    refine (p17_Lay hs (by omega)).mono ?_
    rintro e w1 ⟨v1, rfl, ho1, hb1⟩
    obtain ⟨A1, n1, c1, rfl, hs1⟩ := ho1.sl
    have hlen : len17 (n : Int) = (n1 : Int) := by rw [← hs1.len, ← len17_lay, HL.out]
    clear ho1
    go_wp2_with fail
    refine (r17_Lay (hs.bel hb1) (by omega)).mono ?_
    rintro e w2 ⟨v2, rfl, ho2, hb2⟩
    obtain ⟨A2, n2, c2, rfl, hs2⟩ := ho2.sl
    clear ho2
    go_wp2_with fail
    refine (r01_Like (hs1.bel hb2) hs2).mono ?_
    rintro e w3 ⟨rfl, hb3⟩
    have hB3 := below_then (below_then hb1 hb2) hb3
    go_wp2_with (first | (go_at_call 42; refine (p17_Len (by omega)).mono ?_; rintro e w' ⟨rfl, rfl⟩) | (go_at_call 43; refine (r17_Len (by omega)).mono ?_; rintro e w4 ⟨rfl, hb4⟩) | (go_at_call 37; refine alive17.mono ?_; rintro e w5 ⟨rfl, hb5⟩))
    go_ret
    exact ⟨rfl, below_then (below_then hB3 hb4) hb5⟩

set_option maxRecDepth 100000 in
set_option maxHeartbeats 1000000 in
theorem law_BmodReads {A n c xs} {w : World} (hs : Sl w .u8 A n c xs) : Calls Try.prog 11 #[.slice A n c] w (RetB (.bool true) w) := by
  by_cases hbig : 1000 < n
  · go_enter Try.func11, Try.ntmps11
    go_wp2_with (go_at_call 37; refine alive17.mono ?_; rintro e w1 ⟨rfl, hb⟩)
    go_ret
    exact ⟨rfl, hb⟩
  · have e1 := likeL_self (oct17 xs)
    have e2 := likeL_self (usualL xs)
    have e3 := likeL_self (modL xs)
    go_enter Try.func11, Try.ntmps11
    go_wp2_with (first | (go_at_call 44; refine (p17_Read hs (by omega)).mono ?_; rintro e w1 ⟨v1, rfl, ho1, hb1⟩; obtain ⟨A1, n1, c1, rfl, hs1⟩ := ho1.sl) | (go_at_call 45; refine (r17_Read (hs.bel hb1) (by omega)).mono ?_; rintro e w2 ⟨v2, rfl, ho2, hb2⟩; obtain ⟨A2, n2, c2, rfl, hs2⟩ := ho2.sl; have hB2 := below_then hb1 hb2))
    refine (r01_Like (hs1.bel hb2) hs2).mono ?_
    rintro e w3 ⟨rfl, hb3⟩
    have hB3 := below_then hB2 hb3
    go_wp2_with (first | (go_at_call 46; refine (p17_Usual (hs.bel hB3) (by omega)).mono ?_; rintro e w4 ⟨v4, rfl, ho4, hb4⟩; obtain ⟨A4, n4, c4, rfl, hs4⟩ := ho4.sl; have hB4 := below_then hB3 hb4) | (go_at_call 47; refine (r17_Usual (hs.bel hB4) (by omega)).mono ?_; rintro e w5 ⟨v5, rfl, ho5, hb5⟩; obtain ⟨A5, n5, c5, rfl, hs5⟩ := ho5.sl; have hB5 := below_then hB4 hb5))
    refine (r01_Like (hs4.bel hb5) hs5).mono ?_
    rintro e w6 ⟨rfl, hb6⟩
    have hB6 := below_then hB5 hb6
    go_wp2_with (first | (go_at_call 48; refine (p17_Modified (hs.bel hB6) (by omega)).mono ?_; rintro e w7 ⟨v7, rfl, ho7, hb7⟩; obtain ⟨A7, n7, c7, rfl, hs7⟩ := ho7.sl; have hB7 := below_then hB6 hb7) | (go_at_call 49; refine (r17_Modified (hs.bel hB7) (by omega)).mono ?_; rintro e w8 ⟨v8, rfl, ho8, hb8⟩; obtain ⟨A8, n8, c8, rfl, hs8⟩ := ho8.sl; have hB8 := below_then hB7 hb8))
    refine (r01_Like (hs7.bel hb8) hs8).mono ?_
    rintro e w9 ⟨rfl, hb9⟩
    have hB9 := below_then hB8 hb9
    go_wp2_with (go_at_call 37; refine alive17.mono ?_; rintro e wa ⟨rfl, hba⟩)
    go_ret
    exact ⟨rfl, below_then hB9 hba⟩

theorem swap_ne {a b c : Int} (h : c ≠ a) : swapL a b c = c := if_neg h
theorem swap_eq {a b : Int} : swapL a b a = b := if_pos rfl
theorem digit_ne44 {c : Int} (h : isD c = true) : c ≠ 44 := by simp [isD] at h; omega
theorem usual_mod {L : List Int} (h : allD L = true) : usualL (modL L) = L ∧ usable17 (modL L) = true := by
  unfold allD at h
  rw [List.all_eq_true] at h
  constructor
  · unfold usualL modL turnL
    rw [List.map_map]
    refine (List.map_congr_left (fun x hx => ?_)).trans (List.map_id L)
    have := digit_ne44 (h x hx)
    show swapL 44 47 (swapL 47 44 x) = x
    by_cases h1 : x = 47
    · subst h1; rw [swap_eq, swap_eq]
    · rw [swap_ne h1, swap_ne this]
  · unfold usable17 modL turnL
    rw [List.all_eq_true]
    intro y hy
    obtain ⟨x, hx, rfl⟩ := List.mem_map.1 hy
    have h2 := h x hx
    have h3 := digit_ne44 h2
    unfold swapL isD17
    by_cases h1 : x = 47
    · simp [h1]
    · rw [if_neg h1, if_neg h3, if_neg h1]; exact h2
theorem mod_usual {L : List Int} (h : usable17 L = true) : modL (usualL L) = L := by
  unfold usable17 at h
  rw [List.all_eq_true] at h
  unfold usualL modL turnL
  rw [List.map_map]
  refine (List.map_congr_left (fun x hx => ?_)).trans (List.map_id L)
  have h2 := h x hx
  unfold isD17 at h2
  show swapL 47 44 (swapL 44 47 x) = x
  by_cases h1 : x = 44
  · subst h1; rw [swap_eq, swap_eq]
  · rw [if_neg h1] at h2
    rw [swap_ne h1]
    by_cases h3 : x = 47
    · rw [if_pos h3] at h2; cases h2
    · rw [swap_ne h3]
theorem read_lay17 {xs : List Int} (h : ∀ x ∈ xs, 0 ≤ x ∧ x ≤ 255) : err17 (lay17 xs) = 0 ∧ oct17 (lay17 xs) = xs := by
  obtain ⟨h1, h2⟩ := oct_bare xs h
  obtain ⟨h3, h4⟩ := usual_mod (bare3_allD xs)
  have hl : (lay17 xs).length % 4 ≠ 1 := by
    have : (lay17 xs).length = (bare3 xs).length := by simp [lay17, modL, turnL]
    rw [this, bare3_length]; split <;> omega
  have e : err17 (lay17 xs) = 0 := by
    unfold err17 lay17
    rw [h3, h4]
    have hz : zeroL (sixesL (bare3 xs)) = true := by unfold zeroL; rw [h2]; rfl
    rw [hz]
    unfold lay17 at hl
    simp [hl]
  refine ⟨e, ?_⟩
  unfold oct17; rw [if_pos e]; unfold lay17; rw [h3, h1]
theorem lay_read17 {s : List Int} (h : err17 s = 0) : lay17 (oct17 s) = s := by
  have hd : usable17 s = true := by
    cases e : usable17 s
    · unfold err17 at h; rw [e] at h; simp at h
    · rfl
  have h4 : s.length % 4 ≠ 1 := by
    intro e; unfold err17 at h; rw [hd, e] at h; simp at h
  have hz : numL (rest8 (sixesL (usualL s))) = 0 := by
    cases e : zeroL (sixesL (usualL s))
    · unfold err17 at h; rw [hd, e] at h; simp [h4] at h
    · simpa [zeroL] using e
  unfold oct17; rw [if_pos h]; unfold lay17
  rw [bare_oct (usualL s) (usual_all hd) (by rw [usual_length]; exact h4) hz, mod_usual hd]

set_option maxRecDepth 100000 in
set_option maxHeartbeats 1000000 in
theorem law_BmodBack {A n c xs} {w : World} (hs : Sl w .u8 A n c xs) : Calls Try.prog 12 #[.slice A n c] w (RetB (.bool true) w) := by
  by_cases hbig : 1000 < n
  · go_enter Try.func12, Try.ntmps12
    go_wp2_with (go_at_call 37; refine alive17.mono ?_; rintro e w1 ⟨rfl, hb⟩)
    go_ret
    exact ⟨rfl, hb⟩
  · obtain ⟨r1, r2⟩ := read_lay17 (xs := xs) fun x hx => wf_u8.1 (hs.wf x hx)
    have HR1 := Lib.hid r1; have HR2 := Lib.hid r2
    clear r1 r2
    have e1 := likeL_self xs
    have HL := Lib.hid hs.len
    go_enter Try.func12, Try.ntmps12
    go_wp2_with fail
    refine (p17_Lay hs (by omega)).mono ?_
    rintro e w1 ⟨v1, rfl, ho1, hb1⟩
    obtain ⟨A1, n1, c1, rfl, hs1⟩ := ho1.sl
    clear ho1
    have hn1 : n1 ≤ 3000 := by
      have h5 := hs1.len
      have h6 := bare3_length xs
      have h7 := HL.out
      have h8 : (lay17 xs).length = (bare3 xs).length := by simp [lay17, modL, turnL]
      split at h6 <;> omega
    go_wp2_with fail
    refine (p17_Read hs1 (by omega)).mono ?_
    rintro e w2 ⟨v2, rfl, ho2, hb2⟩
    rw [HR2.out] at ho2
    rw [HR1.out]
    obtain ⟨A2, n2, c2, rfl, hs2⟩ := ho2.sl
    clear ho2
    have hB2 := below_then hb1 hb2
    go_wp2_with fail
    refine (r01_Like hs2 (hs.bel hB2)).mono ?_
    rintro e w3 ⟨rfl, hb3⟩
    have hB3 := below_then hB2 hb3
    go_wp2_with fail
    refine (p17_Read (hs.bel hB3) (by omega)).mono ?_
    rintro e w4 ⟨v4, rfl, ho4, hb4⟩
    have hB4 := below_then hB3 hb4
    by_cases he : err17 xs = 0
    · have HLR := Lib.hid (lay_read17 he)
      obtain ⟨A4, n4, c4, rfl, hs4⟩ := ho4.sl
      clear ho4
      rw [he]
      have hn4 : n4 ≤ 3000 := by
        have h5 := hs4.len
        have h8 := bare3_length (oct17 xs)
        have h9 : (lay17 (oct17 xs)).length = (bare3 (oct17 xs)).length := by simp [lay17, modL, turnL]
        rw [HLR.out, HL.out] at h9
        split at h8 <;> omega
      go_wp2_with fail
      refine (p17_Lay hs4 hn4).mono ?_
      rintro e w5 ⟨v5, rfl, ho5, hb5⟩
      rw [HLR.out] at ho5
      obtain ⟨A5, n5, c5, rfl, hs5⟩ := ho5.sl
      clear ho5
      have hB5 := below_then hB4 hb5
      go_wp2_with (first | (go_at_call 21; refine (r01_Like hs5 (hs.bel hB5)).mono ?_; rintro e w6 ⟨rfl, hb6⟩) | (go_at_call 37; refine alive17.mono ?_; rintro e w7 ⟨rfl, hb7⟩))
      go_ret
      exact ⟨rfl, below_then (below_then hB5 hb6) hb7⟩
    · have he' : (err17 xs != 0) = true := by simpa using he
      have ho5 : oct17 xs = [] := by unfold oct17; rw [if_neg he]
      rw [ho5] at ho4
      obtain ⟨A4, n4, c4, rfl, hs4⟩ := ho4.sl
      clear ho4
      have hn4 : n4 = 0 := hs4.len.symm
      subst hn4
      clear he
      go_wp2_with (go_at_call 37; refine alive17.mono ?_; rintro e w7 ⟨rfl, hb7⟩)
      go_ret
      exact ⟨rfl, below_then hB4 hb7⟩
end Go.Proofs.Ytonellflklaggaa
