/- Layer 44 (uue): the third octet is put: four digits are laid. Conditions: the arguments' forms. -/
import Derived.Test.Ytlmkhjegckgmcaa44B
namespace Go.Proofs.Ytlmkhjegckgmcaa
open Go.RowKit

theorem LC.keepAt {B g : Nat} {h m : Int} {v : Value} {ys : List Int} {W W' : World} (H : LC B g h m v ys W) (hg : W.grownBy W' v.ownBlock) : W'.cell? ⟨g, 0, none⟩ = some v ∧ W'.frozen? ⟨g, 0, none⟩ = false := by
  have hk := hg.block g H.lt fun hh => H.ne hh.symm
  exact ⟨(World.cell?_of_block hk).trans H.c0, by have := H.f0; unfold World.frozen? at this ⊢; rw [hk]; exact this⟩

set_option maxRecDepth 100000 in
set_option maxHeartbeats 4000000 in
theorem p44_put3 {B g : Nat} {h x : Int} {v : Value} {ys : List Int} {W : World} (H : LC B g h 2 v ys W) (h0 : 0 ≤ h) (h1 : h < 65536) (hx : (Lit.int .u8 x).wf = true) (hl : ys.length ≤ 4194304) :
    Calls Try.prog 70 #[.pointer (some ⟨g, 0, none⟩), .int .u8 x] W (RetP B g 0 0 (ys ++ quadH (h * 256 + x)) W) := by
  obtain ⟨hx1, hx2⟩ := wf_u8.1 hx
  have hor := or_low 8 h x (by omega) (by omega) (by omega) hx1 (by omega)
  rw [show (2 : Int) ^ 8 = 256 from rfl] at hor
  obtain ⟨z, hz⟩ : ∃ z, h * 256 + x = z := ⟨_, rfl⟩
  have hz0 : 0 ≤ z := by omega
  have hz1 : z < 16777216 := by omega
  rw [hz] at hor ⊢
  clear hz
  have H2 := (H.set1 z).set2 3
  have hb2 : Below B W ((W.setCell ⟨g, 1, none⟩ (.int .i64 z)).setCell ⟨g, 2, none⟩ (.int .i64 3)) := ((Below.refl _ _).setCell H.ge _).setCell H.ge _
  have hBW : B ≤ W.heap.size := Nat.le_trans H.ge (Nat.le_of_lt H.lt)
  obtain ⟨a0, a1, a2, b0, b1, b2, _, _, _⟩ := H
  go_enter Try.func70, Try.ntmps70
  go_wp2
  go_loopw [4] (fun i wr => ∃ (j : Nat) (v : Value), j ≤ 4 ∧ i = .int .i64 (3 - (j : Int)) ∧ LC B g z 3 v (ys ++ (quadH z).take j) wr ∧ Below B W wr) (fun i _ => (intOf i + 1).toNat)
  case atStart => exact ⟨0, _, by omega, rfl, by simpa using H2, hb2⟩
  case round =>
    clear a0 a1 a2 b0 b1 b2 hb2 H2 hor
    obtain ⟨j, v1, hj, rfl, H, hbel⟩ := hrel
    have hge := H.ge
    have hlt0 := H.lt
    by_cases hlt : j < 4
    · have hl2 : (ys ++ (quadH z).take j).length ≤ 4194308 := by simp; omega
      have : j = 0 ∨ j = 1 ∨ j = 2 ∨ j = 3 := by omega
      obtain ⟨jj, hjj⟩ : ∃ jj, jj = j := ⟨_, rfl⟩
      have HJ := Lib.hid hjj; clear hjj
      rcases this with h | h | h | h <;> subst h
      all_goals
        have hfin := fun (w1 : World) (v' : Value) (zs : List Int) (o : Obj) (h1 : Own w1 B 5 .u8 v' zs) (h2 : (wr.alloc o).drew.grownBy w1 v1.ownBlock) => (H.below (((Below.refl wr.heap.size wr).alloc (Nat.le_refl _) o).drew)).grow h1 h2
        have hfroz := fun (w1 : World) (o : Obj) (h2 : (wr.alloc o).drew.grownBy w1 v1.ownBlock) => (H.below (((Below.refl wr.heap.size wr).alloc (Nat.le_refl _) o).drew)).keepAt h2
        have hoC := fun (o : Obj) => (H.below (((Below.refl wr.heap.size wr).alloc (Nat.le_refl _) o).drew)).own
        have hbC := fun (o : Obj) => (hbel.alloc (by omega) o).drew
        obtain ⟨a0, a1, a2, b0, b1, b2, ho, _, _⟩ := H
        have w18 : IntKind.i64.wrap 18 = 18 := by decide
        have w12 : IntKind.i64.wrap 12 = 12 := by decide
        have w6 : IntKind.i64.wrap 6 = 6 := by decide
        have w0 : IntKind.i64.wrap 0 = 0 := by decide
        go_wp2_with fail
        go_region_law (first | ((refine step_app rfl rfl eltB (by decide) (v := v1) (A := some ⟨wr.heap.size, 0, none⟩) (m := 1) (c := 1) ?hs ?hx (hoC _) (Sl.one wr .u8 5 (digU _) (digU_wf _)).drew (hbC _) (by refine ⟨?_, ?_⟩ <;> first | omega | (simp; omega)) (by omega) ?_); (case hs => go_simp); (case hx => go_simp); intro v2 w2 ho2 hb2 hg2; obtain ⟨A9, n9, c9, hv9, hs9⟩ := ho2.sl; subst hv9; clear hs9; obtain ⟨hc9, hf9⟩ := hfroz w2 _ hg2) | (go_simp; go_at_call 50; refine p44_Digit.mono ?_; rintro e w' ⟨rfl, rfl⟩))
        all_goals
          rw [List.append_assoc] at ho2
          have H9 := hfin _ _ _ _ ho2 hg2
          have hB9 := hb2.setCell hge (p := ⟨g, 0, none⟩) (.slice A9 n9 c9)
          clear hfin hfroz hoC hbC
          go_wp2
          have hjj := HJ.out
          (first | (go_roundw; (case rel => exact ⟨jj + 1, _, by omega, by subst hjj; first | rfl | go_num, by subst hjj; exact H9, hB9⟩); (case measure => first | (simp [intOf] <;> omega) | (simp [lenOf] <;> omega))) | (refine ⟨?_, ?measure⟩; (repeat apply Exists.intro); refine ⟨?rel, ?eqs⟩; (case eqs => first | rfl | ((repeat (refine ⟨rfl, ?_⟩)); rfl)); (case rel => exact ⟨jj + 1, _, by omega, by subst hjj; first | rfl | go_num, by subst hjj; exact H9, hB9⟩); (case measure => first | (simp [intOf] <;> omega) | (simp [lenOf] <;> omega))) | ((repeat apply Exists.intro); refine ⟨?rel, ?eqs⟩; (case eqs => first | rfl | ((repeat (refine ⟨rfl, ?_⟩)); rfl)); (case rel => exact ⟨jj + 1, _, by omega, by subst hjj; first | rfl | go_num, by subst hjj; exact H9, hB9⟩)))
    · obtain rfl : j = 4 := by omega
      have e : ys ++ (quadH z).take 4 = ys ++ quadH z := rfl
      rw [e] at H
      have H9 := (H.set1 0).set2 0
      have hB9 : Below B W ((wr.setCell ⟨g, 1, none⟩ (.int .i64 0)).setCell ⟨g, 2, none⟩ (.int .i64 0)) := (hbel.setCell H.ge _).setCell H.ge _
      obtain ⟨a0, a1, a2, b0, b1, b2, ho, _, _⟩ := H
      go_wp2
      go_returns
      exact ⟨rfl, ⟨_, H9⟩, hB9⟩
end Go.Proofs.Ytlmkhjegckgmcaa
