/- Layer 47 (date): the reader's box; what its smallest methods do. Condition: the box is the call's own, the octets lay there before it. -/
import Derived.Test.Ytjiofcnlibkhkaa47X
import Derived.Test.Ytjiofcnlibkhkaa28J
import Derived.Test.YtjiofcnlibkhkaaExtW
import Derived.Handy
namespace Go.Proofs.Ytjiofcnlibkhkaa
open Go.RowKit

/-- block b holds a reader: the octets xs (they lay there when the heap was w0's), the place k, was something wrong -/
structure Rdr (w0 w : World) (b : Nat) (A : Option Addr) (n c : Nat) (xs : List Int) (k : Nat) (bad : Bool) : Prop where
  c0 : w.cell? ⟨b, 0, none⟩ = some (.slice A n c)
  c1 : w.cell? ⟨b, 1, none⟩ = some (.int .i64 k)
  c2 : w.cell? ⟨b, 2, none⟩ = some (.bool bad)
  f1 : w.frozen? ⟨b, 1, none⟩ = false
  f2 : w.frozen? ⟨b, 2, none⟩ = false
  sl : Sl w0 .u8 A n c xs
  hb : w0.heap.size ≤ b
  lt : b < w.heap.size
  bel : Below w0.heap.size w0 w
theorem Rdr.below {w0 w w' : World} {b : Nat} {A : Option Addr} {n c : Nat} {xs : List Int} {k : Nat} {bad : Bool} (h : Rdr w0 w b A n c xs k bad) (hw : Below w.heap.size w w') : Rdr w0 w' b A n c xs k bad :=
  ⟨(hw.cell (p := ⟨b, 0, none⟩) h.lt).trans h.c0, (hw.cell (p := ⟨b, 1, none⟩) h.lt).trans h.c1, (hw.cell (p := ⟨b, 2, none⟩) h.lt).trans h.c2,
    (hw.frozen (p := ⟨b, 1, none⟩) h.lt).trans h.f1, (hw.frozen (p := ⟨b, 2, none⟩) h.lt).trans h.f2, h.sl, h.hb, Nat.lt_of_lt_of_le h.lt hw.size, below_then h.bel hw⟩
theorem Rdr.now {w0 w : World} {b : Nat} {A : Option Addr} {n c : Nat} {xs : List Int} {k : Nat} {bad : Bool} (h : Rdr w0 w b A n c xs k bad) : Sl w .u8 A n c xs := h.sl.bel h.bel
theorem Rdr.place {w0 w : World} {b : Nat} {A : Option Addr} {n c : Nat} {xs : List Int} {k k' : Nat} {bad : Bool} (h : Rdr w0 w b A n c xs k bad) : Rdr w0 (w.setCell ⟨b, 1, none⟩ (.int .i64 k')) b A n c xs k' bad :=
  ⟨by rw [World.cell?_setCell_other w _ _ _ (by simp)]; exact h.c0, World.cell?_setCell_same w _ _ h.c1, by rw [World.cell?_setCell_other w _ _ _ (by simp)]; exact h.c2,
    by rw [World.frozen?_setCell]; exact h.f1, by rw [World.frozen?_setCell]; exact h.f2, h.sl, h.hb, by rw [World.size_setCell]; exact h.lt, h.bel.setCell (p := ⟨b, 1, none⟩) h.hb _⟩
theorem Rdr.mark {w0 w : World} {b : Nat} {A : Option Addr} {n c : Nat} {xs : List Int} {k : Nat} {bad bad' : Bool} (h : Rdr w0 w b A n c xs k bad) : Rdr w0 (w.setCell ⟨b, 2, none⟩ (.bool bad')) b A n c xs k bad' :=
  ⟨by rw [World.cell?_setCell_other w _ _ _ (by simp)]; exact h.c0, by rw [World.cell?_setCell_other w _ _ _ (by simp)]; exact h.c1, World.cell?_setCell_same w _ _ h.c2,
    by rw [World.frozen?_setCell]; exact h.f1, by rw [World.frozen?_setCell]; exact h.f2, h.sl, h.hb, by rw [World.size_setCell]; exact h.lt, h.bel.setCell (p := ⟨b, 2, none⟩) h.hb _⟩
/-- all but block b is as it was -/
def Keeps (b : Nat) (w w' : World) : Prop := w.heap.size ≤ w'.heap.size ∧ ∀ j, j < w.heap.size → j ≠ b → w'.heap[j]? = w.heap[j]?
theorem Keeps.of {b : Nat} {w w' : World} (h : Below w.heap.size w w') : Keeps b w w' := ⟨h.size, fun j hj _ => h.block j hj⟩
theorem Keeps.set {b o : Nat} {w w' : World} (h : Keeps b w w') (u : Value) : Keeps b w (w'.setCell ⟨b, o, none⟩ u) :=
  ⟨by rw [World.size_setCell]; exact h.1, fun j hj hn => (Below.heap_setCell w' ⟨b, o, none⟩ u j hn).trans (h.2 j hj hn)⟩
theorem Keeps.trans {b : Nat} {w w1 w2 : World} (h : Keeps b w w1) (h2 : Keeps b w1 w2) : Keeps b w w2 :=
  ⟨Nat.le_trans h.1 h2.1, fun j hj hn => (h2.2 j (Nat.lt_of_lt_of_le hj h.1) hn).trans (h.2 j hj hn)⟩
set_option maxRecDepth 100000 in
set_option maxHeartbeats 1000000 in
theorem p47_must {w0 w : World} {b : Nat} {A : Option Addr} {n c : Nat} {xs : List Int} {k : Nat} {bad ok : Bool} (h : Rdr w0 w b A n c xs k bad) :
    Calls Try.prog 42 #[.pointer (some ⟨b, 0, none⟩), .bool ok] w (fun e w' => e = .returned (.tuple #[]) ∧ Rdr w0 w' b A n c xs k (bad || !ok) ∧ Keeps b w w') := by
  have c2 := h.c2
  have f2 := h.f2
  cases bad <;> cases ok
  · have hm := h.mark (bad' := true)
    go_enter Try.func42, Try.ntmps42
    go_wp2
    go_returns
    exact ⟨rfl, hm, (Keeps.of (Below.refl _ _)).set _⟩
  · have hm := h.mark (bad' := false)
    go_enter Try.func42, Try.ntmps42
    go_wp2
    go_returns
    exact ⟨rfl, hm, (Keeps.of (Below.refl _ _)).set _⟩
  · have hm := h.mark (bad' := true)
    go_enter Try.func42, Try.ntmps42
    go_wp2
    go_returns
    exact ⟨rfl, hm, (Keeps.of (Below.refl _ _)).set _⟩
  · have hm := h.mark (bad' := true)
    go_enter Try.func42, Try.ntmps42
    go_wp2
    go_returns
    exact ⟨rfl, hm, (Keeps.of (Below.refl _ _)).set _⟩
end Go.Proofs.Ytjiofcnlibkhkaa
