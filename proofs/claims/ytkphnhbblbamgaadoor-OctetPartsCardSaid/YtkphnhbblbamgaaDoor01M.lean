/- Layer 01's law of parts: it returns true for every input, and leaves what was there. No condition but that the argument is an octet. -/
import Derived.Test.YtkphnhbblbamgaaDoor01L
namespace Go.Proofs.YtkphnhbblbamgaaDoor
open Go.RowKit

def partsB (c : Int) : Bool :=
  (isL c 4 == (isL c 32 != isL c 64)) && !(isL c 32 && isL c 64) && !(isL c 4 && isL c 1) && !(isL c 920 && !isL c 4) && (!isL c 256 || isL c 64) && (!isL c 24 || (isL c 64 && isL c 128 && isL c 512))
theorem parts_all {c : Int} (hc : 0 ≤ c ∧ c ≤ 255) : partsB c = true := by
  have := byteAll (fun c => decide (partsB c = true)) (by decide +kernel) hc
  exact of_decide_eq_true this
set_option maxRecDepth 100000 in
set_option maxHeartbeats 4000000 in
theorem law_OctetParts {c : Int} {w : World} (hc : (Lit.int .u8 c).wf = true) : Calls Tryd.prog 6 #[.int .u8 c] w (RetB (.bool true) w) := by
  have hp := parts_all (wf_u8.1 hc)
  unfold partsB at hp
  have h4 := p01_Is (c := c) (k := 4) (w := w) hc
  have h32 := p01_Is (c := c) (k := 32) (w := w) hc
  have h64 := p01_Is (c := c) (k := 64) (w := w) hc
  have h1 := p01_Is (c := c) (k := 1) (w := w) hc
  have h920 := p01_Is (c := c) (k := 920) (w := w) hc
  have h256 := p01_Is (c := c) (k := 256) (w := w) hc
  have h24 := p01_Is (c := c) (k := 24) (w := w) hc
  have h128 := p01_Is (c := c) (k := 128) (w := w) hc
  have h512 := p01_Is (c := c) (k := 512) (w := w) hc
  generalize isL c 4 = b4 at hp h4
  generalize isL c 32 = b32 at hp h32
  generalize isL c 64 = b64 at hp h64
  generalize isL c 1 = b1 at hp h1
  generalize isL c 920 = b920 at hp h920
  generalize isL c 256 = b256 at hp h256
  generalize isL c 24 = b24 at hp h24
  generalize isL c 128 = b128 at hp h128
  generalize isL c 512 = b512 at hp h512
  have hcases : (b32 = false ∧ b64 = false ∧ b4 = false ∧ b920 = false ∧ b256 = false ∧ b24 = false) ∨ (b32 = true ∧ b64 = false ∧ b4 = true ∧ b1 = false ∧ b256 = false ∧ b24 = false) ∨ (b32 = false ∧ b64 = true ∧ b4 = true ∧ b1 = false ∧ (b24 = true → b128 = true ∧ b512 = true)) := by
    revert hp
    cases b4 <;> cases b32 <;> cases b64 <;> cases b1 <;> cases b920 <;> cases b256 <;> cases b24 <;> cases b128 <;> cases b512 <;> simp
  clear hp
  replace h4 := Lib.hid h4
  replace h32 := Lib.hid h32
  replace h64 := Lib.hid h64
  replace h1 := Lib.hid h1
  replace h920 := Lib.hid h920
  replace h256 := Lib.hid h256
  replace h24 := Lib.hid h24
  replace h128 := Lib.hid h128
  replace h512 := Lib.hid h512
  rcases hcases with ⟨rfl, rfl, rfl, rfl, rfl, rfl⟩ | ⟨rfl, rfl, rfl, rfl, rfl, rfl⟩ | ⟨rfl, rfl, rfl, rfl, hd⟩
  · go_enter Tryd.func6, Tryd.ntmps6
    go_wp2_with fail
    refine h4.out.mono ?_
    rintro e w' ⟨rfl, rfl⟩
    go_wp2_with fail
    refine h32.out.mono ?_
    rintro e w' ⟨rfl, rfl⟩
    go_wp2_with fail
    refine h64.out.mono ?_
    rintro e w' ⟨rfl, rfl⟩
    go_wp2_with fail
    refine h920.out.mono ?_
    rintro e w' ⟨rfl, rfl⟩
    go_wp2_with fail
    refine h256.out.mono ?_
    rintro e w' ⟨rfl, rfl⟩
    go_wp2_with fail
    refine h24.out.mono ?_
    rintro e w' ⟨rfl, rfl⟩
    go_wp2_with fail
    refine alive01.mono ?_
    rintro e w1 ⟨rfl, hb⟩
    go_wp2
    go_ret
    exact ⟨rfl, hb⟩
  · cases b920
    all_goals
      go_enter Tryd.func6, Tryd.ntmps6
      go_wp2_with fail
      refine h4.out.mono ?_
      rintro e w' ⟨rfl, rfl⟩
      go_wp2_with fail
      refine h32.out.mono ?_
      rintro e w' ⟨rfl, rfl⟩
      go_wp2_with fail
      refine h64.out.mono ?_
      rintro e w' ⟨rfl, rfl⟩
      go_wp2_with fail
      refine h1.out.mono ?_
      rintro e w' ⟨rfl, rfl⟩
      go_wp2_with fail
      refine h920.out.mono ?_
      rintro e w' ⟨rfl, rfl⟩
      go_wp2_with fail
      refine h256.out.mono ?_
      rintro e w' ⟨rfl, rfl⟩
      go_wp2_with fail
      refine h24.out.mono ?_
      rintro e w' ⟨rfl, rfl⟩
      go_wp2_with fail
      refine alive01.mono ?_
      rintro e w1 ⟨rfl, hb⟩
      go_wp2
      go_ret
      exact ⟨rfl, hb⟩
  · cases b24 with
    | true =>
      obtain ⟨rfl, rfl⟩ := hd rfl
      cases b920 <;> cases b256
      all_goals
        go_enter Tryd.func6, Tryd.ntmps6
        go_wp2_with fail
        refine h4.out.mono ?_
        rintro e w' ⟨rfl, rfl⟩
        go_wp2_with fail
        refine h32.out.mono ?_
        rintro e w' ⟨rfl, rfl⟩
        go_wp2_with fail
        refine h64.out.mono ?_
        rintro e w' ⟨rfl, rfl⟩
        go_wp2_with fail
        refine h1.out.mono ?_
        rintro e w' ⟨rfl, rfl⟩
        go_wp2_with fail
        refine h920.out.mono ?_
        rintro e w' ⟨rfl, rfl⟩
        go_wp2_with fail
        refine h256.out.mono ?_
        rintro e w' ⟨rfl, rfl⟩
        go_wp2_with fail
        refine h24.out.mono ?_
        rintro e w' ⟨rfl, rfl⟩
        go_wp2_with fail
        refine h128.out.mono ?_
        rintro e w' ⟨rfl, rfl⟩
        go_wp2_with fail
        refine h512.out.mono ?_
        rintro e w' ⟨rfl, rfl⟩
        go_wp2_with fail
        refine alive01.mono ?_
        rintro e w1 ⟨rfl, hb⟩
        go_wp2
        go_ret
        exact ⟨rfl, hb⟩
    | false =>
      clear hd
      cases b920 <;> cases b256
      all_goals
        go_enter Tryd.func6, Tryd.ntmps6
        go_wp2_with fail
        refine h4.out.mono ?_
        rintro e w' ⟨rfl, rfl⟩
        go_wp2_with fail
        refine h32.out.mono ?_
        rintro e w' ⟨rfl, rfl⟩
        go_wp2_with fail
        refine h64.out.mono ?_
        rintro e w' ⟨rfl, rfl⟩
        go_wp2_with fail
        refine h1.out.mono ?_
        rintro e w' ⟨rfl, rfl⟩
        go_wp2_with fail
        refine h920.out.mono ?_
        rintro e w' ⟨rfl, rfl⟩
        go_wp2_with fail
        refine h256.out.mono ?_
        rintro e w' ⟨rfl, rfl⟩
        go_wp2_with fail
        refine h24.out.mono ?_
        rintro e w' ⟨rfl, rfl⟩
        go_wp2_with fail
        refine alive01.mono ?_
        rintro e w1 ⟨rfl, hb⟩
        go_wp2
        go_ret
        exact ⟨rfl, hb⟩
end Go.Proofs.YtkphnhbblbamgaaDoor
