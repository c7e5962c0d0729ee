/- Layer 11's first law: it returns true for every input, and leaves what was there. Condition: the argument reads as a list. -/
import Derived.Test.YtkphnhbblbamgaaDoor11C
namespace Go.Proofs.YtkphnhbblbamgaaDoor
open Go.RowKit Go.Maps Go.WideMaps

set_option maxRecDepth 100000 in
set_option maxHeartbeats 1000000 in
theorem p11_Name1 {w : World} : Calls Tryd.prog 41 #[.int .i64 1] w (RetB (.string { data := #[117, 115, 45, 97, 115, 99, 105, 105] }) w) := by
  go_enter Tryd.func41, Tryd.ntmps41
  go_wp2_with fail
  refine (p11_Names (k := 1)).mono ?_
  rintro e w1 ⟨A1, c1, rfl, hss, hb⟩
  rw [show nmL 1 = nm1 from rfl] at hss ⊢
  obtain ⟨b, rfl, hbl, hcell⟩ := hss.at_ 0 (by decide)
  rw [show nm1.getD 0 [] = [117, 115, 45, 97, 115, 99, 105, 105] from rfl, sn1_0] at hcell
  have hlen : nm1.length = 4 := rfl
  rw [hlen]
  clear hss
  go_wp2
  go_ret
  exact ⟨rfl, hb⟩
set_option maxRecDepth 100000 in
set_option maxHeartbeats 2000000 in
theorem alive11 {w : World} : Calls Tryd.prog 25 #[] w (RetB (.bool true) w) := by
  have kc := fun (w : World) (C : Array Value) (n c : Nat) => Lib.run_convert_bytes_const (P := Tryd.prog) w 26 5 C n c Tryd.underlying26 Tryd.underlying5
  have h1 := fun w => p11_IsCharset (w := w) (k := 5)
  have h2 := fun w => p11_IsCharset (w := w) (k := 6)
  have h3 := fun w => p11_IsCoding (w := w) (k := 3)
  rw [show decide ((1 : Int) ≤ 5 ∧ (5 : Int) ≤ 5) = true from by decide] at h1
  rw [show decide ((1 : Int) ≤ 6 ∧ (6 : Int) ≤ 5) = false from by decide] at h2
  rw [show decide ((1 : Int) ≤ 3 ∧ (3 : Int) ≤ 3) = true from by decide] at h3
  go_enter Tryd.func25, Tryd.ntmps25
  go_wp2_with fail
  have hs3 := Sl.newF w .u8 5 [32, 85, 84, 70, 56, 32, 42, 101, 110] (9, 10) (by decide) (by decide)
  have hb3 := (Below.refl w.heap.size w).alloc (Nat.le_refl _) (.cells ([32, 85, 84, 70, 56, 32, 42, 101, 110].map (Value.int .u8)).toArray 5 (9, 10))
  refine (p11_Charset hs3 (by decide)).mono ?_
  rw [show csNum (keyN [32, 85, 84, 70, 56, 32, 42, 101, 110]) = 5 from by decide, show csE (keyN [32, 85, 84, 70, 56, 32, 42, 101, 110]) = 0 from by decide]
  rintro e w2 ⟨rfl, hb2⟩
  have hB2 := below_then' hb3 hb2 (Nat.le_refl _)
  clear hs3 hb3 hb2
  go_wp2_with fail
  have hs4 := Sl.newF w2 .u8 5 [66, 97, 115, 101, 54, 52] (6, 7) (by decide) (by decide)
  have hb4 := (Below.refl w2.heap.size w2).alloc (Nat.le_refl _) (.cells ([66, 97, 115, 101, 54, 52].map (Value.int .u8)).toArray 5 (6, 7))
  refine (p11_Coding hs4 (by decide)).mono ?_
  rw [show cdNum (keyC [66, 97, 115, 101, 54, 52]) = 3 from by decide, show cdE (keyC [66, 97, 115, 101, 54, 52]) = 0 from by decide]
  rintro e w5 ⟨rfl, hb5⟩
  have hB5 := below_then hB2 (below_then' hb4 hb5 (Nat.le_refl _))
  clear hs4 hb4 hb5
  go_wp2_with fail
  refine (p11_Name1 (w := w5)).mono ?_
  rintro e w6 ⟨rfl, hb6⟩
  have hB6 := below_then hB5 hb6
  go_wp2_with fail
  refine (h1 _).mono ?_
  rintro e w' ⟨rfl, rfl⟩
  go_wp2_with fail
  refine (h2 _).mono ?_
  rintro e w' ⟨rfl, rfl⟩
  go_wp2_with fail
  refine (h3 _).mono ?_
  rintro e w' ⟨rfl, rfl⟩
  go_wp2
  go_ret
  exact ⟨rfl, hB6⟩

set_option maxRecDepth 100000 in
set_option maxHeartbeats 2000000 in
theorem law_LabelFinds {A n c xs} {w : World} (hs : Sl w .u8 A n c xs) : Calls Tryd.prog 7 #[.slice A n c] w (RetB (.bool true) w) := by
  by_cases hbig : 500 < n
  · go_enter Tryd.func7, Tryd.ntmps7
    go_wp2_with (go_at_call 25; refine alive11.mono ?_; rintro e w1 ⟨rfl, hb⟩)
    go_ret
    exact ⟨rfl, hb⟩
  · have e2 := likeL_self (bareL xs)
    have hp1 := fun {w : World} (h : Sl w .u8 A n c xs) => p11_Charset h (by omega)
    have hp2 := fun {w : World} (h : Sl w .u8 A n c xs) => r11_Charset h (by omega)
    have hp3 := fun {w : World} (h : Sl w .u8 A n c xs) => p11_Coding h (by omega)
    have hp4 := fun {w : World} (h : Sl w .u8 A n c xs) => r11_Coding h (by omega)
    obtain ⟨N1, hN1⟩ : ∃ N, csNum (keyN xs) = N := ⟨_, rfl⟩
    obtain ⟨N2, hN2⟩ : ∃ N, csE (keyN xs) = N := ⟨_, rfl⟩
    obtain ⟨N3, hN3⟩ : ∃ N, cdNum (keyC xs) = N := ⟨_, rfl⟩
    obtain ⟨N4, hN4⟩ : ∃ N, cdE (keyC xs) = N := ⟨_, rfl⟩
    rw [hN1, hN2] at hp1 hp2
    rw [hN3, hN4] at hp3 hp4
    clear hN1 hN2 hN3 hN4
    go_enter Tryd.func7, Tryd.ntmps7
    go_wp2_with fail
    refine (hp1 hs).mono ?_
    rintro e w1 ⟨rfl, hb1⟩
    go_wp2_with fail
    refine (hp2 (hs.bel hb1)).mono ?_
    rintro e w2 ⟨rfl, hb2⟩
    have hB2 := below_then hb1 hb2
    go_wp2_with fail
    refine (hp3 (hs.bel hB2)).mono ?_
    rintro e w3 ⟨rfl, hb3⟩
    have hB3 := below_then hB2 hb3
    go_wp2_with fail
    refine (hp4 (hs.bel hB3)).mono ?_
    rintro e w4 ⟨rfl, hb4⟩
    have hB4 := below_then hB3 hb4
    clear hp1 hp2 hp3 hp4 hb1 hb2 hb3 hb4 hB2 hB3
    go_wp2_with fail
    refine (p11_Bare (hs.bel hB4) (by omega)).mono ?_
    rintro e w5 ⟨v5, rfl, ho5, hb5⟩
    obtain ⟨A5, n5, c5, rfl, hs5⟩ := ho5.sl
    clear ho5
    have hB5 := below_then hB4 hb5
    go_wp2_with fail
    refine (r11_Bare (hs.bel hB5) (by omega)).mono ?_
    rintro e w6 ⟨A6, n6, c6, rfl, hs6, hb6⟩
    have hB6 := below_then hB5 hb6
    go_wp2_with fail
    refine (r01_Like (hs5.bel hb6) hs6).mono ?_
    rw [e2]
    rintro e w7 ⟨rfl, hb7⟩
    have hB7 := below_then hB6 hb7
    clear hs5 hs6 hb5 hb6 hb7 hB4 hB5 hB6
    go_wp2_with fail
    refine (alive11 (w := w7)).mono ?_
    rintro e w8 ⟨rfl, hb8⟩
    have hB8 := below_then hB7 hb8
    go_wp2
    go_ret
    exact ⟨rfl, hB8⟩
end Go.Proofs.YtkphnhbblbamgaaDoor
