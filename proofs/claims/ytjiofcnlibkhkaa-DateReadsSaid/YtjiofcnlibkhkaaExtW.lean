/- A region that draws its order, from some operation on: what is left is walked once, in the order of the text, in whatever world that keeps what lay. No condition: plain lemmas. -/
import Derived.Test.YtjiofcnlibkhkaaKit
import Derived.Deep.QuietTactic
namespace Go.Proofs.Ytjiofcnlibkhkaa
open Go.RowKit

/-- a world that keeps what lay in w0 -/
structure ExtW (w0 : World) where
  W : World
  h : Below w0.heap.size w0 W
instance (w0 : World) : Nonempty (ExtW w0) := ⟨⟨w0, Below.refl _ _⟩⟩
theorem wpAny_lex {P : Program} {md : Region.Mode} {ops : Array Oper} {Q : Exit → Act → World → Prop} {w : World} {listed : Array Bool} {a : Act} (k : Nat) (l : List Oper) (hl : l = ops.toList.drop k)
    (hs : Region.noSelect ops = true) (hB : Region.lexFrom md ops l.length k listed = true)
    (h : wpQuiet P ops (fun w' => ∃ X : ExtW w, w' = X.W) (fun a' => ∀ w', (∃ X : ExtW w, w' = X.W) → Q .normal a' w') l a) : wpAny P md ops Q l.length listed a w :=
  wpAny_of_quiet (C := fun w' => ∃ X : ExtW w, w' = X.W) (fun _ w' hw' h => h w' hw') _ _ _ _ ⟨⟨w, Below.refl _ _⟩, rfl⟩
    (wpAnyQ_lex hs l k listed a (fun j => by subst hl; simp [List.getElem?_drop]) hB h)
theorem Calls.ext {P : Program} {f : FuncId} {args : Array Value} {w : World} (X : ExtW w) {v : Value} (h : Calls P f args X.W (RetB v X.W)) : Calls P f args X.W fun e w'' => e = .returned v ∧ ∃ Y : ExtW w, w'' = Y.W :=
  h.mono fun _ w'' ⟨he, hb⟩ => ⟨he, ⟨w'', X.h.trans (hb.mono X.h.size)⟩, rfl⟩
theorem Calls.ext_same {P : Program} {f : FuncId} {args : Array Value} {w : World} (X : ExtW w) {v : Value} (h : Calls P f args X.W (Ret v X.W)) : Calls P f args X.W fun e w'' => e = .returned v ∧ ∃ Y : ExtW w, w'' = Y.W :=
  Calls.ext X (h.mono fun _ _ hh => hh.b)
end Go.Proofs.Ytjiofcnlibkhkaa
