/- Layer 47 (date): a date's box in memory; the steps of the reading in plain words. No condition: plain lemmas. -/
import Derived.Test.Ytjiofcnlibkhkaa47zonr
import Derived.Test.Ytjiofcnlibkhkaa47namr
namespace Go.Proofs.Ytjiofcnlibkhkaa
open Go.RowKit

theorem Keeps.cell {b : Nat} {w w' : World} (h : Keeps b w w') {p : Addr} (hp : p.block < w.heap.size) (hb : p.block ≠ b) : w'.cell? p = w.cell? p := World.cell?_of_block (h.2 p.block hp hb)
theorem Keeps.frozen {b : Nat} {w w' : World} (h : Keeps b w w') {p : Addr} (hp : p.block < w.heap.size) (hb : p.block ≠ b) : w'.frozen? p = w.frozen? p := World.frozen?_of_block (h.2 p.block hp hb)
theorem Keeps.set_new {b B o : Nat} {w w' : World} (h : Keeps b w w') (hB : w.heap.size ≤ B) (u : Value) : Keeps b w (w'.setCell ⟨B, o, none⟩ u) :=
  ⟨by rw [World.size_setCell]; exact h.1, fun j hj hn => (Below.heap_setCell w' ⟨B, o, none⟩ u j (show j ≠ B by omega)).trans (h.2 j hj hn)⟩
theorem Keeps.then_ {b : Nat} {w w1 w2 : World} (h : Keeps b w w1) (h2 : Below w1.heap.size w1 w2) : Keeps b w w2 := h.trans (Keeps.of h2)
theorem Rdr.other {w0 w : World} {b : Nat} {A : Option Addr} {n c : Nat} {xs : List Int} {k : Nat} {bad : Bool} (h : Rdr w0 w b A n c xs k bad) {B o : Nat} (hB : B ≠ b) (h0 : w0.heap.size ≤ B) (u : Value) : Rdr w0 (w.setCell ⟨B, o, none⟩ u) b A n c xs k bad :=
  have hne : b ≠ B := fun e => hB e.symm
  ⟨by rw [World.cell?_setCell_other w _ _ _ (by simp [])]; exact h.c0, by rw [World.cell?_setCell_other w _ _ _ (by simp [])]; exact h.c1, by rw [World.cell?_setCell_other w _ _ _ (by simp [])]; exact h.c2,
    by rw [World.frozen?_setCell]; exact h.f1, by rw [World.frozen?_setCell]; exact h.f2, h.sl, h.hb, by rw [World.size_setCell]; exact h.lt, h.bel.setCell (p := ⟨B, o, none⟩) h0 _⟩
/-- block B holds a date's seven numbers, which may be written -/
structure Bx (w : World) (B : Nat) (a0 a1 a2 a3 a4 a5 a6 : Int) : Prop where
  c0 : w.cell? ⟨B, 0, none⟩ = some (.int .i64 a0)
  c1 : w.cell? ⟨B, 1, none⟩ = some (.int .i64 a1)
  c2 : w.cell? ⟨B, 2, none⟩ = some (.int .i64 a2)
  c3 : w.cell? ⟨B, 3, none⟩ = some (.int .i64 a3)
  c4 : w.cell? ⟨B, 4, none⟩ = some (.int .i64 a4)
  c5 : w.cell? ⟨B, 5, none⟩ = some (.int .i64 a5)
  c6 : w.cell? ⟨B, 6, none⟩ = some (.int .i64 a6)
  f0 : w.frozen? ⟨B, 0, none⟩ = false
  f1 : w.frozen? ⟨B, 1, none⟩ = false
  f2 : w.frozen? ⟨B, 2, none⟩ = false
  f3 : w.frozen? ⟨B, 3, none⟩ = false
  f4 : w.frozen? ⟨B, 4, none⟩ = false
  f5 : w.frozen? ⟨B, 5, none⟩ = false
  f6 : w.frozen? ⟨B, 6, none⟩ = false
  lt : B < w.heap.size
theorem Bx.keep {w w' : World} {B b : Nat} {a0 a1 a2 a3 a4 a5 a6 : Int} (h : Bx w B a0 a1 a2 a3 a4 a5 a6) (hk : Keeps b w w') (hb : B ≠ b) : Bx w' B a0 a1 a2 a3 a4 a5 a6 :=
  ⟨(hk.cell h.lt hb).trans h.c0, (hk.cell h.lt hb).trans h.c1, (hk.cell h.lt hb).trans h.c2, (hk.cell h.lt hb).trans h.c3, (hk.cell h.lt hb).trans h.c4, (hk.cell h.lt hb).trans h.c5, (hk.cell h.lt hb).trans h.c6,
    (hk.frozen h.lt hb).trans h.f0, (hk.frozen h.lt hb).trans h.f1, (hk.frozen h.lt hb).trans h.f2, (hk.frozen h.lt hb).trans h.f3, (hk.frozen h.lt hb).trans h.f4, (hk.frozen h.lt hb).trans h.f5, (hk.frozen h.lt hb).trans h.f6, Nat.lt_of_lt_of_le h.lt hk.1⟩
theorem Bx.bel {w w' : World} {B : Nat} {a0 a1 a2 a3 a4 a5 a6 : Int} (h : Bx w B a0 a1 a2 a3 a4 a5 a6) (hk : Below w.heap.size w w') : Bx w' B a0 a1 a2 a3 a4 a5 a6 :=
  h.keep (b := B + 1) (Keeps.of hk) (by omega)
theorem Bx.set0 {w : World} {B : Nat} {a0 a1 a2 a3 a4 a5 a6 : Int} (h : Bx w B a0 a1 a2 a3 a4 a5 a6) (u : Int) : Bx (w.setCell ⟨B, 0, none⟩ (.int .i64 u)) B u a1 a2 a3 a4 a5 a6 :=
  ⟨World.cell?_setCell_same w _ _ h.c0, by rw [World.cell?_setCell_other w _ _ _ (by simp)]; exact h.c1, by rw [World.cell?_setCell_other w _ _ _ (by simp)]; exact h.c2, by rw [World.cell?_setCell_other w _ _ _ (by simp)]; exact h.c3, by rw [World.cell?_setCell_other w _ _ _ (by simp)]; exact h.c4, by rw [World.cell?_setCell_other w _ _ _ (by simp)]; exact h.c5, by rw [World.cell?_setCell_other w _ _ _ (by simp)]; exact h.c6, by rw [World.frozen?_setCell]; exact h.f0, by rw [World.frozen?_setCell]; exact h.f1, by rw [World.frozen?_setCell]; exact h.f2, by rw [World.frozen?_setCell]; exact h.f3, by rw [World.frozen?_setCell]; exact h.f4, by rw [World.frozen?_setCell]; exact h.f5, by rw [World.frozen?_setCell]; exact h.f6, by rw [World.size_setCell]; exact h.lt⟩
theorem Bx.set1 {w : World} {B : Nat} {a0 a1 a2 a3 a4 a5 a6 : Int} (h : Bx w B a0 a1 a2 a3 a4 a5 a6) (u : Int) : Bx (w.setCell ⟨B, 1, none⟩ (.int .i64 u)) B a0 u a2 a3 a4 a5 a6 :=
  ⟨by rw [World.cell?_setCell_other w _ _ _ (by simp)]; exact h.c0, World.cell?_setCell_same w _ _ h.c1, by rw [World.cell?_setCell_other w _ _ _ (by simp)]; exact h.c2, by rw [World.cell?_setCell_other w _ _ _ (by simp)]; exact h.c3, by rw [World.cell?_setCell_other w _ _ _ (by simp)]; exact h.c4, by rw [World.cell?_setCell_other w _ _ _ (by simp)]; exact h.c5, by rw [World.cell?_setCell_other w _ _ _ (by simp)]; exact h.c6, by rw [World.frozen?_setCell]; exact h.f0, by rw [World.frozen?_setCell]; exact h.f1, by rw [World.frozen?_setCell]; exact h.f2, by rw [World.frozen?_setCell]; exact h.f3, by rw [World.frozen?_setCell]; exact h.f4, by rw [World.frozen?_setCell]; exact h.f5, by rw [World.frozen?_setCell]; exact h.f6, by rw [World.size_setCell]; exact h.lt⟩
theorem Bx.set2 {w : World} {B : Nat} {a0 a1 a2 a3 a4 a5 a6 : Int} (h : Bx w B a0 a1 a2 a3 a4 a5 a6) (u : Int) : Bx (w.setCell ⟨B, 2, none⟩ (.int .i64 u)) B a0 a1 u a3 a4 a5 a6 :=
  ⟨by rw [World.cell?_setCell_other w _ _ _ (by simp)]; exact h.c0, by rw [World.cell?_setCell_other w _ _ _ (by simp)]; exact h.c1, World.cell?_setCell_same w _ _ h.c2, by rw [World.cell?_setCell_other w _ _ _ (by simp)]; exact h.c3, by rw [World.cell?_setCell_other w _ _ _ (by simp)]; exact h.c4, by rw [World.cell?_setCell_other w _ _ _ (by simp)]; exact h.c5, by rw [World.cell?_setCell_other w _ _ _ (by simp)]; exact h.c6, by rw [World.frozen?_setCell]; exact h.f0, by rw [World.frozen?_setCell]; exact h.f1, by rw [World.frozen?_setCell]; exact h.f2, by rw [World.frozen?_setCell]; exact h.f3, by rw [World.frozen?_setCell]; exact h.f4, by rw [World.frozen?_setCell]; exact h.f5, by rw [World.frozen?_setCell]; exact h.f6, by rw [World.size_setCell]; exact h.lt⟩
theorem Bx.set3 {w : World} {B : Nat} {a0 a1 a2 a3 a4 a5 a6 : Int} (h : Bx w B a0 a1 a2 a3 a4 a5 a6) (u : Int) : Bx (w.setCell ⟨B, 3, none⟩ (.int .i64 u)) B a0 a1 a2 u a4 a5 a6 :=
  ⟨by rw [World.cell?_setCell_other w _ _ _ (by simp)]; exact h.c0, by rw [World.cell?_setCell_other w _ _ _ (by simp)]; exact h.c1, by rw [World.cell?_setCell_other w _ _ _ (by simp)]; exact h.c2, World.cell?_setCell_same w _ _ h.c3, by rw [World.cell?_setCell_other w _ _ _ (by simp)]; exact h.c4, by rw [World.cell?_setCell_other w _ _ _ (by simp)]; exact h.c5, by rw [World.cell?_setCell_other w _ _ _ (by simp)]; exact h.c6, by rw [World.frozen?_setCell]; exact h.f0, by rw [World.frozen?_setCell]; exact h.f1, by rw [World.frozen?_setCell]; exact h.f2, by rw [World.frozen?_setCell]; exact h.f3, by rw [World.frozen?_setCell]; exact h.f4, by rw [World.frozen?_setCell]; exact h.f5, by rw [World.frozen?_setCell]; exact h.f6, by rw [World.size_setCell]; exact h.lt⟩
theorem Bx.set4 {w : World} {B : Nat} {a0 a1 a2 a3 a4 a5 a6 : Int} (h : Bx w B a0 a1 a2 a3 a4 a5 a6) (u : Int) : Bx (w.setCell ⟨B, 4, none⟩ (.int .i64 u)) B a0 a1 a2 a3 u a5 a6 :=
  ⟨by rw [World.cell?_setCell_other w _ _ _ (by simp)]; exact h.c0, by rw [World.cell?_setCell_other w _ _ _ (by simp)]; exact h.c1, by rw [World.cell?_setCell_other w _ _ _ (by simp)]; exact h.c2, by rw [World.cell?_setCell_other w _ _ _ (by simp)]; exact h.c3, World.cell?_setCell_same w _ _ h.c4, by rw [World.cell?_setCell_other w _ _ _ (by simp)]; exact h.c5, by rw [World.cell?_setCell_other w _ _ _ (by simp)]; exact h.c6, by rw [World.frozen?_setCell]; exact h.f0, by rw [World.frozen?_setCell]; exact h.f1, by rw [World.frozen?_setCell]; exact h.f2, by rw [World.frozen?_setCell]; exact h.f3, by rw [World.frozen?_setCell]; exact h.f4, by rw [World.frozen?_setCell]; exact h.f5, by rw [World.frozen?_setCell]; exact h.f6, by rw [World.size_setCell]; exact h.lt⟩
theorem Bx.set5 {w : World} {B : Nat} {a0 a1 a2 a3 a4 a5 a6 : Int} (h : Bx w B a0 a1 a2 a3 a4 a5 a6) (u : Int) : Bx (w.setCell ⟨B, 5, none⟩ (.int .i64 u)) B a0 a1 a2 a3 a4 u a6 :=
  ⟨by rw [World.cell?_setCell_other w _ _ _ (by simp)]; exact h.c0, by rw [World.cell?_setCell_other w _ _ _ (by simp)]; exact h.c1, by rw [World.cell?_setCell_other w _ _ _ (by simp)]; exact h.c2, by rw [World.cell?_setCell_other w _ _ _ (by simp)]; exact h.c3, by rw [World.cell?_setCell_other w _ _ _ (by simp)]; exact h.c4, World.cell?_setCell_same w _ _ h.c5, by rw [World.cell?_setCell_other w _ _ _ (by simp)]; exact h.c6, by rw [World.frozen?_setCell]; exact h.f0, by rw [World.frozen?_setCell]; exact h.f1, by rw [World.frozen?_setCell]; exact h.f2, by rw [World.frozen?_setCell]; exact h.f3, by rw [World.frozen?_setCell]; exact h.f4, by rw [World.frozen?_setCell]; exact h.f5, by rw [World.frozen?_setCell]; exact h.f6, by rw [World.size_setCell]; exact h.lt⟩
theorem Bx.set6 {w : World} {B : Nat} {a0 a1 a2 a3 a4 a5 a6 : Int} (h : Bx w B a0 a1 a2 a3 a4 a5 a6) (u : Int) : Bx (w.setCell ⟨B, 6, none⟩ (.int .i64 u)) B a0 a1 a2 a3 a4 a5 u :=
  ⟨by rw [World.cell?_setCell_other w _ _ _ (by simp)]; exact h.c0, by rw [World.cell?_setCell_other w _ _ _ (by simp)]; exact h.c1, by rw [World.cell?_setCell_other w _ _ _ (by simp)]; exact h.c2, by rw [World.cell?_setCell_other w _ _ _ (by simp)]; exact h.c3, by rw [World.cell?_setCell_other w _ _ _ (by simp)]; exact h.c4, by rw [World.cell?_setCell_other w _ _ _ (by simp)]; exact h.c5, World.cell?_setCell_same w _ _ h.c6, by rw [World.frozen?_setCell]; exact h.f0, by rw [World.frozen?_setCell]; exact h.f1, by rw [World.frozen?_setCell]; exact h.f2, by rw [World.frozen?_setCell]; exact h.f3, by rw [World.frozen?_setCell]; exact h.f4, by rw [World.frozen?_setCell]; exact h.f5, by rw [World.frozen?_setCell]; exact h.f6, by rw [World.size_setCell]; exact h.lt⟩
theorem Bx.other {w : World} {B B2 o : Nat} {a0 a1 a2 a3 a4 a5 a6 : Int} (h : Bx w B a0 a1 a2 a3 a4 a5 a6) (hB : B2 ≠ B) (u : Value) : Bx (w.setCell ⟨B2, o, none⟩ u) B a0 a1 a2 a3 a4 a5 a6 :=
  have hne : B ≠ B2 := fun e => hB e.symm
  ⟨by rw [World.cell?_setCell_other w _ _ _ (by simp [])]; exact h.c0, by rw [World.cell?_setCell_other w _ _ _ (by simp [])]; exact h.c1, by rw [World.cell?_setCell_other w _ _ _ (by simp [])]; exact h.c2, by rw [World.cell?_setCell_other w _ _ _ (by simp [])]; exact h.c3, by rw [World.cell?_setCell_other w _ _ _ (by simp [])]; exact h.c4, by rw [World.cell?_setCell_other w _ _ _ (by simp [])]; exact h.c5, by rw [World.cell?_setCell_other w _ _ _ (by simp [])]; exact h.c6, by rw [World.frozen?_setCell]; exact h.f0, by rw [World.frozen?_setCell]; exact h.f1, by rw [World.frozen?_setCell]; exact h.f2, by rw [World.frozen?_setCell]; exact h.f3, by rw [World.frozen?_setCell]; exact h.f4, by rw [World.frozen?_setCell]; exact h.f5, by rw [World.frozen?_setCell]; exact h.f6, by rw [World.size_setCell]; exact h.lt⟩
theorem Bx.new (w : World) (E : TypeId) (a0 a1 a2 a3 a4 a5 a6 : Int) : Bx (w.alloc (.cells #[.int .i64 a0, .int .i64 a1, .int .i64 a2, .int .i64 a3, .int .i64 a4, .int .i64 a5, .int .i64 a6] E)) w.heap.size a0 a1 a2 a3 a4 a5 a6 := by
  refine ⟨?_, ?_, ?_, ?_, ?_, ?_, ?_, ?_, ?_, ?_, ?_, ?_, ?_, ?_, ?_⟩ <;> simp [go_sem]

/-! the steps of the reading -/
abbrev Stp := Nat → Option (Int × Nat)
def stepS (f : Stp) (s : Option (List Int × Nat)) : Option (List Int × Nat) := s.bind fun p => (f p.2).map fun q => (p.1 ++ [q.1], q.2)
/-- where the reading stands: the values so far, the place, was something wrong -/
def St (s : Option (List Int × Nat)) (vals : List Int) (k : Nat) (bad : Bool) : Prop := (s = none → bad = true) ∧ ∀ p, s = some p → bad = false ∧ vals = p.1 ∧ k = p.2
theorem St.step {f : Stp} {s : Option (List Int × Nat)} {vals : List Int} {k k' : Nat} {bad bad' : Bool} {v : Int} (h : St s vals k bad) (hn : NumI (f k) v k' bad bad') : St (stepS f s) (vals ++ [v]) k' bad' := by
  obtain ⟨h1, h2⟩ := h
  cases s with
  | none =>
    refine ⟨fun _ => hn.1 (h1 rfl), fun p hp => by simp [stepS] at hp⟩
  | some p =>
    obtain ⟨e1, e2, e3⟩ := h2 p rfl
    subst e1; subst e2; subst e3
    obtain ⟨h3, h4⟩ := hn.2 rfl
    have e : stepS f (some p) = (f p.2).map fun q => (p.1 ++ [q.1], q.2) := rfl
    rw [e]
    cases hf : f p.2 with
    | none => exact ⟨fun _ => h3 hf, fun q hq => by simp at hq⟩
    | some q =>
      refine ⟨fun hq => by simp at hq, fun r hr => ?_⟩
      simp only [Option.map_some, Option.some.injEq] at hr
      subst hr
      obtain ⟨g1, g2, g3⟩ := h4 q hf
      exact ⟨g1, by rw [g2], g3⟩
/-- the day of the week, if it is told -/
def tolS (xs : List Int) : Stp := fun k =>
  if (runP xs 16 k).length > 0 then
    (if 0 ≤ nameV dayB (runP xs 16 k) then (if (skipV xs (runE xs 16 k) 44).2 then some (nameV dayB (runP xs 16 k), (skipV xs (runE xs 16 k) 44).1) else none) else none)
  else some (-1, runE xs 16 k)
def mthS (xs : List Int) : Stp := fun k => some (nameV monB (runP xs 16 k) + 1, runE xs 16 k)
def minS (xs : List Int) : Stp := fun k => if (skipV xs k 58).2 then numS xs 2 2 (skipV xs k 58).1 else none
def secS (xs : List Int) : Stp := fun k => if (skipV xs k 58).2 then numS xs 2 2 (skipV xs k 58).1 else some (0, (skipV xs k 58).1)
def dateS (xs : List Int) (k : Nat) : Option (List Int × Nat) :=
  stepS (zoneS xs) (stepS (secS xs) (stepS (minS xs) (stepS (numS xs 2 2) (stepS (numS xs 4 4) (stepS (mthS xs) (stepS (numS xs 1 2) (stepS (tolS xs) (some ([], k)))))))))
theorem St.start (k : Nat) : St (some ([], k)) [] k false := ⟨fun h => (by cases h), fun p hp => by injection hp with hp; subst hp; exact ⟨rfl, rfl, rfl⟩⟩
theorem mon_in (xs : List Int) (k : Nat) (bad : Bool) : NumI (mthS xs k) (nameV monB (runP xs 16 k) + 1) (runE xs 16 k) bad bad := ⟨fun h => h, fun h => ⟨fun e => (by cases e), fun p hp => by injection hp with hp; subst hp; exact ⟨h, rfl, rfl⟩⟩⟩
theorem min_in {xs : List Int} {k k' : Nat} {bad bad' : Bool} {v : Int} (h : NumI (numS xs 2 2 (skipV xs k 58).1) v k' (bad || !(skipV xs k 58).2) bad') : NumI (minS xs k) v k' bad bad' := by
  unfold minS
  cases hs : (skipV xs k 58).2 with
  | true => rw [hs] at h; simpa using h
  | false => rw [hs] at h; have := h.1 (by simp); exact ⟨fun _ => this, fun _ => ⟨fun _ => this, fun p hp => by simp at hp⟩⟩
/-- the reference's way: once bad, nothing is skipped -/
theorem min_in' {xs : List Int} {k k0 k' : Nat} {bad' : Bool} {v : Int} (h : NumI (numS xs 2 2 k0) v k' true bad') : NumI (minS xs k) v k' true bad' := ⟨h.1, fun e => by cases e⟩
theorem sec_in {xs : List Int} {k k' : Nat} {bad bad' : Bool} {v : Int} (hs : (skipV xs k 58).2 = true) (h : NumI (numS xs 2 2 (skipV xs k 58).1) v k' bad bad') : NumI (secS xs k) v k' bad bad' := by
  unfold secS; rw [if_pos hs]; exact h
theorem sec_no {xs : List Int} {k : Nat} {bad : Bool} (hs : (skipV xs k 58).2 = false) : NumI (secS xs k) 0 (skipV xs k 58).1 bad bad := by
  unfold secS; rw [if_neg (by rw [hs]; decide)]
  exact ⟨fun h => h, fun h => ⟨fun e => (by cases e), fun p hp => by injection hp with hp; subst hp; exact ⟨h, rfl, rfl⟩⟩⟩
theorem tol_no {xs : List Int} {k : Nat} {bad : Bool} (h : ¬ (runP xs 16 k).length > 0) : NumI (tolS xs k) (-1) (runE xs 16 k) bad bad := by
  unfold tolS; rw [if_neg h]
  exact ⟨fun h => h, fun h => ⟨fun e => (by cases e), fun p hp => by injection hp with hp; subst hp; exact ⟨h, rfl, rfl⟩⟩⟩
theorem tol_yes {xs : List Int} {k : Nat} {bad : Bool} (h : (runP xs 16 k).length > 0) : NumI (tolS xs k) (nameV dayB (runP xs 16 k)) (skipV xs (runE xs 16 k) 44).1 bad ((bad || !decide (0 ≤ nameV dayB (runP xs 16 k))) || !(skipV xs (runE xs 16 k) 44).2) := by
  unfold tolS; rw [if_pos h]
  refine ⟨fun h => by rw [h]; rfl, fun h => ?_⟩
  subst h
  by_cases h1 : 0 ≤ nameV dayB (runP xs 16 k)
  · rw [if_pos h1, decide_eq_true h1]
    cases hs : (skipV xs (runE xs 16 k) 44).2 with
    | true => exact ⟨fun e => by simp at e, fun p hp => by simp at hp; subst hp; exact ⟨rfl, rfl, rfl⟩⟩
    | false => exact ⟨fun _ => rfl, fun p hp => by simp at hp⟩
  · rw [if_neg h1, decide_eq_false h1]
    exact ⟨fun _ => by simp, fun p hp => by cases hp⟩
theorem tol_bad {xs : List Int} {k : Nat} (h : (runP xs 16 k).length > 0) (h1 : ¬ 0 ≤ nameV dayB (runP xs 16 k)) (v : Int) (k' : Nat) (bad : Bool) : NumI (tolS xs k) v k' bad true := by
  unfold tolS; rw [if_pos h, if_neg h1]
  exact ⟨fun _ => rfl, fun _ => ⟨fun _ => rfl, fun p hp => by cases hp⟩⟩
end Go.Proofs.Ytjiofcnlibkhkaa
