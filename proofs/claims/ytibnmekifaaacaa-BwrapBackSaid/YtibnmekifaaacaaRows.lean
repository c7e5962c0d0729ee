/-
  No cell of these rows narrows 'for every input' (looked for: loops, veiled, ifaces, maps, wideKeys, modest, calm, conditions, laid).
  DERIVED. THE GIVEN ROWS OF THIS SEAT. 4 by the template 'for every input the law returns true; each argument reads behind the call as it read before'; 0 by the template 'total and deterministic' (their statements: YtibnmekifaaacaaTotals.lean).
  GIVEN WITH THE SEED: the statements are not yours to turn. If you find one false, say at which input.
  Laid BY PROGRAM, IN A SANDBOX (cutbox-rows.mjs): the forced cells as the released guide's own fill.sh prints them over the translation fdd25dc28a892727… (all of the seat's roots in one cut). By AI agents, Wed Nov 11 2026. No macro, syntax, notation, axiom, sorry.
-/
import Derived.Test.YtibnmekifaaacaaChecked
import GoSem.Claim
import GoSem.ClaimJoined
import GoSem.ClaimMapViews
import Derived.JoinedTies
import Derived.KernelRfl
namespace Go.Proofs.Ytibnmekifaaacaa
/- THE CELL 'sum', in the pinned program and in every row, IS THE sha256 OF THE DUMP (.gsa) THAT YtibnmekifaaacaaProg.lean LOADS. Nothing in Lean hashes anything: it is a label: what it is worth is what the hold of that sum in a sandbox is worth. -/
noncomputable def Try.pinned : Pinned := { name := "ytibnmekifaaacaa", sum := "fdd25dc28a892727636d410013d4c9e1654d6030be4487d99b4c50662c46e19c", checked := Try.checked }
namespace Rows
def none {H : Type} : Left H := { results := [], args := [] }

/-- 'sheavelaw16.BwrapLines': WHATEVER THE INPUT: true; the input reads as it did. -/
def bwrapLinesSpec : ChangeSpec := { name := "bwrapLines", fn := fun _ => fun
  | [d] => { results := [.lit (.bool true)], args := [d] }
  | _ => none }
def bwrapLinesRow : OpenClaim := { program := "ytibnmekifaaacaa", sum := "fdd25dc28a892727636d410013d4c9e1654d6030be4487d99b4c50662c46e19c", func := "sheave/sheavelaw16.BwrapLines", spec := "bwrapLines", inPlace := ["internal/bytealg.IndexByte", "internal/bytealg.Index", "internal/bytealg.IndexByteString", "internal/bytealg.MakeNoZero"], named := ["internal/bytealg.MaxLen"], apart := false }
def BwrapLinesSaid : Prop := bwrapLinesRow.holds Try.pinned (OpenSpec.ofChange bwrapLinesSpec)

/-- ITS FALSE NEIGHBOUR: 'it returns false'. Refute it at one input. -/
def bwrapLinesWrong : ChangeSpec := { name := "bwrapLines", fn := fun _ => fun
  | [d] => { results := [.lit (.bool false)], args := [d] }
  | _ => none }
def BwrapLinesWrongFalsely : Prop := bwrapLinesRow.holds Try.pinned (OpenSpec.ofChange bwrapLinesWrong)

/-- 'sheavelaw16.BwrapLays': WHATEVER THE INPUT: true; the input reads as it did. -/
def bwrapLaysSpec : ChangeSpec := { name := "bwrapLays", fn := fun _ => fun
  | [d1, d2] => { results := [.lit (.bool true)], args := [d1, d2] }
  | _ => none }
def bwrapLaysRow : OpenClaim := { program := "ytibnmekifaaacaa", sum := "fdd25dc28a892727636d410013d4c9e1654d6030be4487d99b4c50662c46e19c", func := "sheave/sheavelaw16.BwrapLays", spec := "bwrapLays", inPlace := ["internal/bytealg.IndexByte", "internal/bytealg.Index", "internal/bytealg.IndexByteString", "internal/bytealg.MakeNoZero"], named := ["internal/bytealg.MaxLen"], apart := false }
def BwrapLaysSaid : Prop := bwrapLaysRow.holds Try.pinned (OpenSpec.ofChange bwrapLaysSpec)

/-- ITS FALSE NEIGHBOUR: 'it returns false'. Refute it at one input. -/
def bwrapLaysWrong : ChangeSpec := { name := "bwrapLays", fn := fun _ => fun
  | [d1, d2] => { results := [.lit (.bool false)], args := [d1, d2] }
  | _ => none }
def BwrapLaysWrongFalsely : Prop := bwrapLaysRow.holds Try.pinned (OpenSpec.ofChange bwrapLaysWrong)

/-- 'sheavelaw16.BwrapReads': WHATEVER THE INPUT: true; the input reads as it did. -/
def bwrapReadsSpec : ChangeSpec := { name := "bwrapReads", fn := fun _ => fun
  | [d] => { results := [.lit (.bool true)], args := [d] }
  | _ => none }
def bwrapReadsRow : OpenClaim := { program := "ytibnmekifaaacaa", sum := "fdd25dc28a892727636d410013d4c9e1654d6030be4487d99b4c50662c46e19c", func := "sheave/sheavelaw16.BwrapReads", spec := "bwrapReads", inPlace := ["internal/bytealg.IndexByte", "internal/bytealg.Index", "internal/bytealg.IndexByteString", "internal/bytealg.MakeNoZero"], unfollowed := true, recurses := true, named := ["internal/bytealg.MaxLen"], apart := false }
def BwrapReadsSaid : Prop := bwrapReadsRow.holds Try.pinned (OpenSpec.ofChange bwrapReadsSpec)

/-- ITS FALSE NEIGHBOUR: 'it returns false'. Refute it at one input. -/
def bwrapReadsWrong : ChangeSpec := { name := "bwrapReads", fn := fun _ => fun
  | [d] => { results := [.lit (.bool false)], args := [d] }
  | _ => none }
def BwrapReadsWrongFalsely : Prop := bwrapReadsRow.holds Try.pinned (OpenSpec.ofChange bwrapReadsWrong)

/-- 'sheavelaw16.BwrapBack': WHATEVER THE INPUT: true; the input reads as it did. -/
def bwrapBackSpec : ChangeSpec := { name := "bwrapBack", fn := fun _ => fun
  | [d] => { results := [.lit (.bool true)], args := [d] }
  | _ => none }
def bwrapBackRow : OpenClaim := { program := "ytibnmekifaaacaa", sum := "fdd25dc28a892727636d410013d4c9e1654d6030be4487d99b4c50662c46e19c", func := "sheave/sheavelaw16.BwrapBack", spec := "bwrapBack", inPlace := ["internal/bytealg.IndexByte", "internal/bytealg.Index", "internal/bytealg.IndexByteString", "internal/bytealg.MakeNoZero"], unfollowed := true, recurses := true, named := ["internal/bytealg.MaxLen"], apart := false }
def BwrapBackSaid : Prop := bwrapBackRow.holds Try.pinned (OpenSpec.ofChange bwrapBackSpec)

/-- ITS FALSE NEIGHBOUR: 'it returns false'. Refute it at one input. -/
def bwrapBackWrong : ChangeSpec := { name := "bwrapBack", fn := fun _ => fun
  | [d] => { results := [.lit (.bool false)], args := [d] }
  | _ => none }
def BwrapBackWrongFalsely : Prop := bwrapBackRow.holds Try.pinned (OpenSpec.ofChange bwrapBackWrong)

/- THE SECOND FORM. 'bulk': how many values and letters a reading holds, each counted each time it is reached (what is shared counts as often as it is met; a slice's spare places count too). A statement '..UptoSaid' is the law's where the arguments, and the package variables that the reading takes, are together of bulk at most 1048576: NARROWER than '..Said'. Prove '..Said' where nothing that the law and all that it calls make is longer than what came in: it says more and counts as full. Else prove '..UptoSaid'. A law counts once. -/
mutual
def uptoBulk {H : Type} : DataW H → Nat
  | .lit (.string bytes) => bytes.length + 1
  | .lit _ => 1
  | .nil => 1
  | .ptr d => uptoBulk d + 1
  | .slice elems spare => uptoBulkAll elems + uptoBulkAll spare + 1
  | .agg parts => uptoBulkAll parts + 1
  | .iface _ d => uptoBulk d + 1
  | .map entries => uptoBulkEntries entries + 1
  | .held _ => 1
def uptoBulkAll {H : Type} : List (DataW H) → Nat
  | [] => 0
  | d :: r => uptoBulk d + uptoBulkAll r
def uptoBulkEntries {H : Type} : List (Lit × DataW H) → Nat
  | [] => 0
  | x :: r => uptoBulkEntry x + uptoBulkEntries r
def uptoBulkEntry {H : Type} : Lit × DataW H → Nat
  | (.string bytes, d) => bytes.length + uptoBulk d + 1
  | (_, d) => uptoBulk d + 1
 end
def uptoSmall : (H : Type) → List (DataW H) → Bool := fun _ ds => decide (uptoBulkAll ds ≤ 1048576)
def OpenSpec.upto (s : _root_.Go.ChangeSpec) : _root_.Go.OpenSpec := { _root_.Go.OpenSpec.ofChange s with cond := some uptoSmall }

/-- 'sheavelaw16.BwrapLines', WHERE WHAT IT READS IS OF BULK AT MOST 1048576: true; the input reads as it did. -/
def bwrapLinesUptoRow : OpenClaim := { program := "ytibnmekifaaacaa", sum := "fdd25dc28a892727636d410013d4c9e1654d6030be4487d99b4c50662c46e19c", func := "sheave/sheavelaw16.BwrapLines", spec := "bwrapLines", inPlace := ["internal/bytealg.IndexByte", "internal/bytealg.Index", "internal/bytealg.IndexByteString", "internal/bytealg.MakeNoZero"], named := ["internal/bytealg.MaxLen"], apart := false, narrowed := true }
def BwrapLinesUptoSaid : Prop := bwrapLinesUptoRow.holds Try.pinned (OpenSpec.upto bwrapLinesSpec)

/-- 'sheavelaw16.BwrapLays', WHERE WHAT IT READS IS OF BULK AT MOST 1048576: true; the input reads as it did. -/
def bwrapLaysUptoRow : OpenClaim := { program := "ytibnmekifaaacaa", sum := "fdd25dc28a892727636d410013d4c9e1654d6030be4487d99b4c50662c46e19c", func := "sheave/sheavelaw16.BwrapLays", spec := "bwrapLays", inPlace := ["internal/bytealg.IndexByte", "internal/bytealg.Index", "internal/bytealg.IndexByteString", "internal/bytealg.MakeNoZero"], named := ["internal/bytealg.MaxLen"], apart := false, narrowed := true }
def BwrapLaysUptoSaid : Prop := bwrapLaysUptoRow.holds Try.pinned (OpenSpec.upto bwrapLaysSpec)

/-- 'sheavelaw16.BwrapReads', WHERE WHAT IT READS IS OF BULK AT MOST 1048576: true; the input reads as it did. -/
def bwrapReadsUptoRow : OpenClaim := { program := "ytibnmekifaaacaa", sum := "fdd25dc28a892727636d410013d4c9e1654d6030be4487d99b4c50662c46e19c", func := "sheave/sheavelaw16.BwrapReads", spec := "bwrapReads", inPlace := ["internal/bytealg.IndexByte", "internal/bytealg.Index", "internal/bytealg.IndexByteString", "internal/bytealg.MakeNoZero"], unfollowed := true, recurses := true, named := ["internal/bytealg.MaxLen"], apart := false, narrowed := true }
def BwrapReadsUptoSaid : Prop := bwrapReadsUptoRow.holds Try.pinned (OpenSpec.upto bwrapReadsSpec)

/-- 'sheavelaw16.BwrapBack', WHERE WHAT IT READS IS OF BULK AT MOST 1048576: true; the input reads as it did. -/
def bwrapBackUptoRow : OpenClaim := { program := "ytibnmekifaaacaa", sum := "fdd25dc28a892727636d410013d4c9e1654d6030be4487d99b4c50662c46e19c", func := "sheave/sheavelaw16.BwrapBack", spec := "bwrapBack", inPlace := ["internal/bytealg.IndexByte", "internal/bytealg.Index", "internal/bytealg.IndexByteString", "internal/bytealg.MakeNoZero"], unfollowed := true, recurses := true, named := ["internal/bytealg.MaxLen"], apart := false, narrowed := true }
def BwrapBackUptoSaid : Prop := bwrapBackUptoRow.holds Try.pinned (OpenSpec.upto bwrapBackSpec)

end Rows
end Go.Proofs.Ytibnmekifaaacaa
