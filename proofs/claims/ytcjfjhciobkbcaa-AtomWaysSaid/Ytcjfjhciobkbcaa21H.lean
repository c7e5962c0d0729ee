/- Layer 21 (pct): what octets are read as: the program. Conditions: the arguments read as lists; lengths at most 2^22. -/
import Derived.Test.Ytcjfjhciobkbcaa21G
namespace Go.Proofs.Ytcjfjhciobkbcaa
open Go.RowKit

theorem Own.other {w : World} {B : Nat} {e : TypeId} {k : IntKind} {v : Value} {xs : List Int} (h : Own w B e k v xs) {p : Addr} (hp : p.block < B) (u : Value) : Own (w.setCell p u) B e k v xs := by
  obtain ⟨⟨h1, h2⟩, h3⟩ := h
  refine ⟨⟨h1, ?_⟩, h3⟩
  rcases h2 with h2 | ⟨g, cap, cur, hv, hg, hh, r⟩
  · exact Or.inl h2
  · exact Or.inr ⟨g, cap, cur, hv, hg, by rw [Below.heap_setCell _ _ _ _ (by omega)]; exact hh, r⟩

def JR (w : World) (p : List (Int × Bool)) (W : World) : Prop :=
  ∃ v, W.cell? ⟨w.heap.size, 0, none⟩ = some v ∧ W.frozen? ⟨w.heap.size, 0, none⟩ = false ∧ w.heap.size + 1 ≤ W.heap.size ∧ Own W (w.heap.size + 1) 5 .u8 v (fsV p) ∧ Below w.heap.size w W

set_option maxRecDepth 100000 in
set_option maxHeartbeats 1000000 in
theorem p21_Read1 {w W : World} {p : List (Int × Bool)} {x : Int} {b : Bool} (hx : (Lit.int .u8 x).wf = true) (hp : p.length ≤ 4194304) (hJ : JR w p W) :
    Calls Try.prog 65 #[.int .u8 x, .bool b, .pointer (some ⟨w.heap.size, 0, none⟩)] W (fun e W' => e = .returned (.tuple #[]) ∧ JR w (p ++ [(x, b)]) W') := by
  obtain ⟨v, hcell, hfr, hlt, ho, hbel⟩ := hJ
  have hl := fsV_len p
  obtain ⟨ys, hys⟩ : ∃ ys, fsV p = ys := ⟨_, rfl⟩
  have happ := fsV_app p (x, b)
  rw [hys] at ho hl happ
  have HA := Lib.hid happ
  clear hys happ
  obtain ⟨B, hB⟩ : ∃ B, w.heap.size = B := ⟨_, rfl⟩
  have HB := Lib.hid hB
  rw [hB] at hcell hfr hlt ho hbel ⊢
  clear hB
  have hbW := Below.refl (B + 1) W
  obtain ⟨A0, n0, c0, rfl, hs0⟩ := ho.sl
  clear hs0
  go_enter Try.func65, Try.ntmps65
  go_wp2_with ((at_builtin; refine wpList_app rfl rfl eltB (by decide) rfl rfl (ho.alloc _) (Sl.one _ _ _ _ hx) (hbW.alloc (by omega) _) (by refine ⟨?_, ?_⟩ <;> first | omega | (simp; done) | (simp; omega)) (by first | omega | (simp; done) | (simp; omega)) ?_; intro v1 w1 ho1 hb1 hg1); have hc1 := (hb1.cell (p := ⟨B, 0, none⟩) (Nat.lt_succ_self _)).trans hcell; have hf1 := (hb1.frozen (p := ⟨B, 0, none⟩) (Nat.lt_succ_self _)).trans hfr; obtain ⟨A1, n1, c1, rfl, hs1⟩ := ho1.sl)
  go_end0
  refine ⟨rfl, ?_⟩
  unfold JR
  rw [HB.out, HA.out]
  exact ⟨_, World.cell?_setCell_same _ _ _ hc1, by rw [World.frozen?_setCell]; exact hf1, Nat.le_trans (Nat.le_trans hlt hb1.size) (by simp [World.setCell]), ho1.other (Nat.lt_succ_self _) _, (hbel.trans (hb1.mono (Nat.le_succ _))).setCell (Nat.le_refl _) _⟩
theorem ear_Read {A n c xs} {w : World} (hs : Sl w .u8 A n c xs) : Ear Try.prog 65 ⟨w.heap.size, 0, none⟩ A n c xs (JR w) :=
  ⟨enters_of Try.func65 (by kernel_rfl) rfl, fun _ _ _ _ hx hp hJ => p21_Read1 hx hp hJ,
    fun p W W' hJ hb => by
      obtain ⟨v, h1, h2, h3, h4, h5⟩ := hJ
      exact ⟨v, (hb.cell (p := ⟨w.heap.size, 0, none⟩) h3).trans h1, (hb.frozen (p := ⟨w.heap.size, 0, none⟩) h3).trans h2, Nat.le_trans h3 hb.size, h4.below hb, h5.trans (hb.mono h5.size)⟩,
    fun p W hJ => by obtain ⟨v, _, _, _, _, h5⟩ := hJ; exact hs.bel h5⟩
set_option maxRecDepth 100000 in
set_option maxHeartbeats 1000000 in
theorem p21_Read {A n c xs} {w : World} (hs : Sl w .u8 A n c xs) (hn : n ≤ 4194304) : Calls Try.prog 31 #[.slice A n c] w (RetOwn id 5 .u8 (fsV (ev 0 xs)) w) := by
  have hJ0 : JR w [] (w.alloc (.cells #[.slice none 0 0] 22)) :=
    ⟨.slice none 0 0, by rw [World.cell?_alloc_at _ _ _ _ rfl]; rfl, World.frozen?_alloc_at _ _ _ _ rfl, by simp, Own.nil _ _ _ _, (Below.refl _ _).alloc (Nat.le_refl _) _⟩
  go_enter Try.func31, Try.ntmps31
  go_wp2_with fail
  refine (p21_walk (ear_Read hs) hn hJ0).mono ?_
  rintro e1 w1 ⟨rfl, hJ⟩
  obtain ⟨v, hc2, _, _, ho2, hb2⟩ := hJ
  obtain ⟨A0, n0, c0, rfl, hs0⟩ := ho2.sl
  clear hs0
  go_wp2
  go_ret
  exact ⟨_, rfl, ho2.mono (Nat.le_succ _), hb2⟩
end Go.Proofs.Ytcjfjhciobkbcaa
