/- Layer 44 (uue): the layer's memory, and what putting an octet does. Conditions: the arguments' forms. -/
import Derived.Test.Ytlmkhjegckgmcaa44
import Derived.Test.YtlmkhjegckgmcaaReg
namespace Go.Proofs.Ytlmkhjegckgmcaa
open Go.RowKit

/-- the layer in block g: what it has laid, what it holds, and of how many octets -/
structure LC (B g : Nat) (h m : Int) (v : Value) (ys : List Int) (W : World) : Prop where
  c0 : W.cell? ⟨g, 0, none⟩ = some v
  c1 : W.cell? ⟨g, 1, none⟩ = some (.int .i64 h)
  c2 : W.cell? ⟨g, 2, none⟩ = some (.int .i64 m)
  f0 : W.frozen? ⟨g, 0, none⟩ = false
  f1 : W.frozen? ⟨g, 1, none⟩ = false
  f2 : W.frozen? ⟨g, 2, none⟩ = false
  own : Own W B 5 .u8 v ys
  ge : B ≤ g
  blk : ∃ arr fr, W.heap[g]? = some (.cells arr 74 fr)
section
variable {B g : Nat} {h m : Int} {v : Value} {ys : List Int} {W W' : World}
theorem LC.lt (H : LC B g h m v ys W) : g < W.heap.size := by
  obtain ⟨arr, fr, hh⟩ := H.blk
  exact (Array.getElem?_eq_some_iff.1 hh).1
theorem LC.ne (H : LC B g h m v ys W) : v.ownBlock ≠ some g := by
  intro hv
  obtain ⟨_, _, a1, f1, e1⟩ := H.own.blk g hv
  obtain ⟨a2, f2, e2⟩ := H.blk
  rw [e1] at e2
  injection e2 with e2; injection e2 with _ e2 _
  exact absurd e2 (by decide)
theorem Own.setOther {e : TypeId} {k : IntKind} {xs : List Int} (h : Own W B e k v xs) {i : Nat} (hne : v.ownBlock ≠ some g) (u : Value) : Own (W.setCell ⟨g, i, none⟩ u) B e k v xs := by
  obtain ⟨⟨h1, h2⟩, h3⟩ := h
  refine ⟨⟨h1, ?_⟩, h3⟩
  rcases h2 with h2 | ⟨g', cap, cur, rfl, hg, hh, r⟩
  · exact .inl h2
  · refine .inr ⟨g', cap, cur, rfl, hg, ?_, r⟩
    have : ¬ g = g' := fun e => hne (by simp [Value.ownBlock, e])
    simp only [World.setCell, Array.getElem?_modify]
    rw [if_neg this]; exact hh
theorem blk_set {T : TypeId} (h : ∃ arr fr, W.heap[g]? = some (.cells arr T fr)) (p : Addr) (u : Value) : ∃ arr fr, (W.setCell p u).heap[g]? = some (.cells arr T fr) := by
  obtain ⟨arr, fr, hh⟩ := h
  simp only [World.setCell, Array.getElem?_modify, hh]
  split
  · exact ⟨_, fr, rfl⟩
  · exact ⟨arr, fr, rfl⟩
theorem LC.set1 (H : LC B g h m v ys W) (u : Int) : LC B g u m v ys (W.setCell ⟨g, 1, none⟩ (.int .i64 u)) :=
  ⟨by rw [World.cell?_setCell_other _ _ _ _ (by simp)]; exact H.c0, World.cell?_setCell_same _ _ _ H.c1, by rw [World.cell?_setCell_other _ _ _ _ (by simp)]; exact H.c2,
   by rw [World.frozen?_setCell]; exact H.f0, by rw [World.frozen?_setCell]; exact H.f1, by rw [World.frozen?_setCell]; exact H.f2, H.own.setOther H.ne _, H.ge, blk_set H.blk _ _⟩
theorem LC.set2 (H : LC B g h m v ys W) (u : Int) : LC B g h u v ys (W.setCell ⟨g, 2, none⟩ (.int .i64 u)) :=
  ⟨by rw [World.cell?_setCell_other _ _ _ _ (by simp)]; exact H.c0, by rw [World.cell?_setCell_other _ _ _ _ (by simp)]; exact H.c1, World.cell?_setCell_same _ _ _ H.c2,
   by rw [World.frozen?_setCell]; exact H.f0, by rw [World.frozen?_setCell]; exact H.f1, by rw [World.frozen?_setCell]; exact H.f2, H.own.setOther H.ne _, H.ge, blk_set H.blk _ _⟩
theorem LC.below (H : LC B g h m v ys W) (hb : Below W.heap.size W W') : LC B g h m v ys W' := by
  have hlt := H.lt
  have hk := hb.block g hlt
  exact ⟨by rw [hb.cell (p := ⟨g, 0, none⟩) hlt]; exact H.c0, by rw [hb.cell (p := ⟨g, 1, none⟩) hlt]; exact H.c1, by rw [hb.cell (p := ⟨g, 2, none⟩) hlt]; exact H.c2,
    by have := H.f0; unfold World.frozen? at this ⊢; rw [hk]; exact this, by have := H.f1; unfold World.frozen? at this ⊢; rw [hk]; exact this, by have := H.f2; unfold World.frozen? at this ⊢; rw [hk]; exact this,
    H.own.below hb, H.ge, by rw [hk]; exact H.blk⟩
/-- the octets have grown -/
theorem LC.grow (H : LC B g h m v ys W) {v' : Value} {zs : List Int} (ho : Own W' B 5 .u8 v' zs) (hg : W.grownBy W' v.ownBlock) : LC B g h m v' zs (W'.setCell ⟨g, 0, none⟩ v') := by
  have hlt := H.lt
  have hk := hg.block g hlt fun hh => H.ne hh.symm
  have e : ∀ j, W'.cell? ⟨g, j, none⟩ = W.cell? ⟨g, j, none⟩ := fun j => World.cell?_of_block hk
  have f : ∀ j, W'.frozen? ⟨g, j, none⟩ = W.frozen? ⟨g, j, none⟩ := fun j => by unfold World.frozen?; rw [hk]
  have hb : ∃ arr fr, W'.heap[g]? = some (.cells arr 74 fr) := by rw [hk]; exact H.blk
  have hne : v'.ownBlock ≠ some g := by
    intro hv
    obtain ⟨_, _, a1, f1, e1⟩ := ho.blk g hv
    obtain ⟨a2, f2, e2⟩ := hb
    rw [e1] at e2
    injection e2 with e2; injection e2 with _ e2 _
    exact absurd e2 (by decide)
  exact ⟨World.cell?_setCell_same _ _ _ ((e 0).trans H.c0), by rw [World.cell?_setCell_other _ _ _ _ (by simp), e]; exact H.c1, by rw [World.cell?_setCell_other _ _ _ _ (by simp), e]; exact H.c2,
    by rw [World.frozen?_setCell, f]; exact H.f0, by rw [World.frozen?_setCell, f]; exact H.f1, by rw [World.frozen?_setCell, f]; exact H.f2, ho.setOther hne _, H.ge, blk_set hb _ _⟩
end

def RetP (B g : Nat) (h m : Int) (ys : List Int) (W : World) (e : Ending) (W' : World) : Prop := e = .returned (.tuple #[]) ∧ (∃ v, LC B g h m v ys W') ∧ Below B W W'
set_option maxRecDepth 100000 in
set_option maxHeartbeats 1000000 in
theorem p44_put1 {B g : Nat} {h m x : Int} {v : Value} {ys : List Int} {W : World} (H : LC B g h m v ys W) (hm : m = 0 ∨ m = 1) (h0 : 0 ≤ h) (h1 : h < 65536) (hx : (Lit.int .u8 x).wf = true) :
    Calls Try.prog 70 #[.pointer (some ⟨g, 0, none⟩), .int .u8 x] W (RetP B g (h * 256 + x) (m + 1) ys W) := by
  obtain ⟨hx1, hx2⟩ := wf_u8.1 hx
  have hor := or_low 8 h x (by omega) (by omega) (by omega) hx1 (by omega)
  rw [show (2 : Int) ^ 8 = 256 from rfl] at hor
  have H2 := (H.set1 (h * 256 + x)).set2 (m + 1)
  have hb2 : Below B W ((W.setCell ⟨g, 1, none⟩ (.int .i64 (h * 256 + x))).setCell ⟨g, 2, none⟩ (.int .i64 (m + 1))) := ((Below.refl _ _).setCell H.ge _).setCell H.ge _
  obtain ⟨a0, a1, a2, b0, b1, b2, _, _, _⟩ := H
  go_enter Try.func70, Try.ntmps70
  go_wp2
  go_returns
  exact ⟨rfl, ⟨_, H2⟩, hb2⟩
end Go.Proofs.Ytlmkhjegckgmcaa
