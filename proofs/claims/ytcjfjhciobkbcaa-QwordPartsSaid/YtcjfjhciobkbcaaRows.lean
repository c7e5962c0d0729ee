/-
  No cell of these rows narrows 'for every input' (looked for: loops, veiled, ifaces, maps, wideKeys, modest, calm, conditions, laid).
  DERIVED. THE GIVEN ROWS OF THIS SEAT. 12 by the template 'for every input the law returns true; each argument reads behind the call as it read before'; 0 by the template 'total and deterministic' (their statements: YtcjfjhciobkbcaaTotals.lean).
  GIVEN WITH THE SEED: the statements are not yours to turn. If you find one false, say at which input.
  Laid BY PROGRAM, IN A SANDBOX (cutbox-rows.mjs): the forced cells as the released guide's own fill.sh prints them over the translation eb5630d30d149964… (all of the seat's roots in one cut). By AI agents, Wed Nov 11 2026. No macro, syntax, notation, axiom, sorry.
-/
import Derived.Test.YtcjfjhciobkbcaaChecked
import GoSem.Claim
import GoSem.ClaimJoined
import GoSem.ClaimMapViews
import Derived.JoinedTies
import Derived.KernelRfl
namespace Go.Proofs.Ytcjfjhciobkbcaa
/- THE CELL 'sum', in the pinned program and in every row, IS THE sha256 OF THE DUMP (.gsa) THAT YtcjfjhciobkbcaaProg.lean LOADS. Nothing in Lean hashes anything: it is a label: what it is worth is what the hold of that sum in a sandbox is worth. -/
noncomputable def Try.pinned : Pinned := { name := "ytcjfjhciobkbcaa", sum := "eb5630d30d14996466d559165d6156c590455f1369966447b7c328858e82881c", checked := Try.checked }
namespace Rows
def none {H : Type} : Left H := { results := [], args := [] }

/-- 'sheavelaw20.QwordLays': WHATEVER THE INPUT: true; the input reads as it did. -/
def qwordLaysSpec : ChangeSpec := { name := "qwordLays", fn := fun _ => fun
  | [d1, d2] => { results := [.lit (.bool true)], args := [d1, d2] }
  | _ => none }
def qwordLaysRow : OpenClaim := { program := "ytcjfjhciobkbcaa", sum := "eb5630d30d14996466d559165d6156c590455f1369966447b7c328858e82881c", func := "sheave/sheavelaw20.QwordLays", spec := "qwordLays", inPlace := ["internal/bytealg.IndexByteString", "internal/bytealg.IndexByte"], apart := false }
def QwordLaysSaid : Prop := qwordLaysRow.holds Try.pinned (OpenSpec.ofChange qwordLaysSpec)

/-- ITS FALSE NEIGHBOUR: 'it returns false'. Refute it at one input. -/
def qwordLaysWrong : ChangeSpec := { name := "qwordLays", fn := fun _ => fun
  | [d1, d2] => { results := [.lit (.bool false)], args := [d1, d2] }
  | _ => none }
def QwordLaysWrongFalsely : Prop := qwordLaysRow.holds Try.pinned (OpenSpec.ofChange qwordLaysWrong)

/-- 'sheavelaw20.QwordReads': WHATEVER THE INPUT: true; the input reads as it did. -/
def qwordReadsSpec : ChangeSpec := { name := "qwordReads", fn := fun _ => fun
  | [d] => { results := [.lit (.bool true)], args := [d] }
  | _ => none }
def qwordReadsRow : OpenClaim := { program := "ytcjfjhciobkbcaa", sum := "eb5630d30d14996466d559165d6156c590455f1369966447b7c328858e82881c", func := "sheave/sheavelaw20.QwordReads", spec := "qwordReads", inPlace := ["internal/bytealg.IndexByteString", "internal/bytealg.IndexByte"], apart := false }
def QwordReadsSaid : Prop := qwordReadsRow.holds Try.pinned (OpenSpec.ofChange qwordReadsSpec)

/-- ITS FALSE NEIGHBOUR: 'it returns false'. Refute it at one input. -/
def qwordReadsWrong : ChangeSpec := { name := "qwordReads", fn := fun _ => fun
  | [d] => { results := [.lit (.bool false)], args := [d] }
  | _ => none }
def QwordReadsWrongFalsely : Prop := qwordReadsRow.holds Try.pinned (OpenSpec.ofChange qwordReadsWrong)

/-- 'sheavelaw20.QwordBack': WHATEVER THE INPUT: true; the input reads as it did. -/
def qwordBackSpec : ChangeSpec := { name := "qwordBack", fn := fun _ => fun
  | [d] => { results := [.lit (.bool true)], args := [d] }
  | _ => none }
def qwordBackRow : OpenClaim := { program := "ytcjfjhciobkbcaa", sum := "eb5630d30d14996466d559165d6156c590455f1369966447b7c328858e82881c", func := "sheave/sheavelaw20.QwordBack", spec := "qwordBack", inPlace := ["internal/bytealg.IndexByteString", "internal/bytealg.IndexByte"], apart := false }
def QwordBackSaid : Prop := qwordBackRow.holds Try.pinned (OpenSpec.ofChange qwordBackSpec)

/-- ITS FALSE NEIGHBOUR: 'it returns false'. Refute it at one input. -/
def qwordBackWrong : ChangeSpec := { name := "qwordBack", fn := fun _ => fun
  | [d] => { results := [.lit (.bool false)], args := [d] }
  | _ => none }
def QwordBackWrongFalsely : Prop := qwordBackRow.holds Try.pinned (OpenSpec.ofChange qwordBackWrong)

/-- 'sheavelaw20.QwordParts': WHATEVER THE INPUT: true; the input reads as it did. -/
def qwordPartsSpec : ChangeSpec := { name := "qwordParts", fn := fun _ => fun
  | [d1, d2] => { results := [.lit (.bool true)], args := [d1, d2] }
  | _ => none }
def qwordPartsRow : OpenClaim := { program := "ytcjfjhciobkbcaa", sum := "eb5630d30d14996466d559165d6156c590455f1369966447b7c328858e82881c", func := "sheave/sheavelaw20.QwordParts", spec := "qwordParts", inPlace := ["internal/bytealg.IndexByteString", "internal/bytealg.IndexByte"], apart := false }
def QwordPartsSaid : Prop := qwordPartsRow.holds Try.pinned (OpenSpec.ofChange qwordPartsSpec)

/-- ITS FALSE NEIGHBOUR: 'it returns false'. Refute it at one input. -/
def qwordPartsWrong : ChangeSpec := { name := "qwordParts", fn := fun _ => fun
  | [d1, d2] => { results := [.lit (.bool false)], args := [d1, d2] }
  | _ => none }
def QwordPartsWrongFalsely : Prop := qwordPartsRow.holds Try.pinned (OpenSpec.ofChange qwordPartsWrong)

/-- 'sheavelaw21.PctUnquotes': WHATEVER THE INPUT: true; the input reads as it did. -/
def pctUnquotesSpec : ChangeSpec := { name := "pctUnquotes", fn := fun _ => fun
  | [d] => { results := [.lit (.bool true)], args := [d] }
  | _ => none }
def pctUnquotesRow : OpenClaim := { program := "ytcjfjhciobkbcaa", sum := "eb5630d30d14996466d559165d6156c590455f1369966447b7c328858e82881c", func := "sheave/sheavelaw21.PctUnquotes", spec := "pctUnquotes", inPlace := ["internal/bytealg.IndexByteString"], unfollowed := true, recurses := true, apart := false }
def PctUnquotesSaid : Prop := pctUnquotesRow.holds Try.pinned (OpenSpec.ofChange pctUnquotesSpec)

/-- ITS FALSE NEIGHBOUR: 'it returns false'. Refute it at one input. -/
def pctUnquotesWrong : ChangeSpec := { name := "pctUnquotes", fn := fun _ => fun
  | [d] => { results := [.lit (.bool false)], args := [d] }
  | _ => none }
def PctUnquotesWrongFalsely : Prop := pctUnquotesRow.holds Try.pinned (OpenSpec.ofChange pctUnquotesWrong)

/-- 'sheavelaw21.PctReads': WHATEVER THE INPUT: true; the input reads as it did. -/
def pctReadsSpec : ChangeSpec := { name := "pctReads", fn := fun _ => fun
  | [d] => { results := [.lit (.bool true)], args := [d] }
  | _ => none }
def pctReadsRow : OpenClaim := { program := "ytcjfjhciobkbcaa", sum := "eb5630d30d14996466d559165d6156c590455f1369966447b7c328858e82881c", func := "sheave/sheavelaw21.PctReads", spec := "pctReads", inPlace := ["internal/bytealg.IndexByteString"], unfollowed := true, recurses := true, apart := false }
def PctReadsSaid : Prop := pctReadsRow.holds Try.pinned (OpenSpec.ofChange pctReadsSpec)

/-- ITS FALSE NEIGHBOUR: 'it returns false'. Refute it at one input. -/
def pctReadsWrong : ChangeSpec := { name := "pctReads", fn := fun _ => fun
  | [d] => { results := [.lit (.bool false)], args := [d] }
  | _ => none }
def PctReadsWrongFalsely : Prop := pctReadsRow.holds Try.pinned (OpenSpec.ofChange pctReadsWrong)

/-- 'sheavelaw21.PctLays': WHATEVER THE INPUT: true; the input reads as it did. -/
def pctLaysSpec : ChangeSpec := { name := "pctLays", fn := fun _ => fun
  | [d1, d2] => { results := [.lit (.bool true)], args := [d1, d2] }
  | _ => none }
def pctLaysRow : OpenClaim := { program := "ytcjfjhciobkbcaa", sum := "eb5630d30d14996466d559165d6156c590455f1369966447b7c328858e82881c", func := "sheave/sheavelaw21.PctLays", spec := "pctLays", inPlace := ["internal/bytealg.IndexByteString"], unfollowed := true, recurses := true, apart := false }
def PctLaysSaid : Prop := pctLaysRow.holds Try.pinned (OpenSpec.ofChange pctLaysSpec)

/-- ITS FALSE NEIGHBOUR: 'it returns false'. Refute it at one input. -/
def pctLaysWrong : ChangeSpec := { name := "pctLays", fn := fun _ => fun
  | [d1, d2] => { results := [.lit (.bool false)], args := [d1, d2] }
  | _ => none }
def PctLaysWrongFalsely : Prop := pctLaysRow.holds Try.pinned (OpenSpec.ofChange pctLaysWrong)

/-- 'sheavelaw21.PctBack': WHATEVER THE INPUT: true; the input reads as it did. -/
def pctBackSpec : ChangeSpec := { name := "pctBack", fn := fun _ => fun
  | [d1, d2] => { results := [.lit (.bool true)], args := [d1, d2] }
  | _ => none }
def pctBackRow : OpenClaim := { program := "ytcjfjhciobkbcaa", sum := "eb5630d30d14996466d559165d6156c590455f1369966447b7c328858e82881c", func := "sheave/sheavelaw21.PctBack", spec := "pctBack", inPlace := ["internal/bytealg.IndexByteString"], unfollowed := true, recurses := true, apart := false }
def PctBackSaid : Prop := pctBackRow.holds Try.pinned (OpenSpec.ofChange pctBackSpec)

/-- ITS FALSE NEIGHBOUR: 'it returns false'. Refute it at one input. -/
def pctBackWrong : ChangeSpec := { name := "pctBack", fn := fun _ => fun
  | [d1, d2] => { results := [.lit (.bool false)], args := [d1, d2] }
  | _ => none }
def PctBackWrongFalsely : Prop := pctBackRow.holds Try.pinned (OpenSpec.ofChange pctBackWrong)

/-- 'sheavelaw28.AtomWays': WHATEVER THE INPUT: true; the input reads as it did. -/
def atomWaysSpec : ChangeSpec := { name := "atomWays", fn := fun _ => fun
  | [d1, d2] => { results := [.lit (.bool true)], args := [d1, d2] }
  | _ => none }
def atomWaysRow : OpenClaim := { program := "ytcjfjhciobkbcaa", sum := "eb5630d30d14996466d559165d6156c590455f1369966447b7c328858e82881c", func := "sheave/sheavelaw28.AtomWays", spec := "atomWays", inPlace := ["internal/bytealg.IndexByteString"], unfollowed := true, recurses := true, apart := false }
def AtomWaysSaid : Prop := atomWaysRow.holds Try.pinned (OpenSpec.ofChange atomWaysSpec)

/-- ITS FALSE NEIGHBOUR: 'it returns false'. Refute it at one input. -/
def atomWaysWrong : ChangeSpec := { name := "atomWays", fn := fun _ => fun
  | [d1, d2] => { results := [.lit (.bool false)], args := [d1, d2] }
  | _ => none }
def AtomWaysWrongFalsely : Prop := atomWaysRow.holds Try.pinned (OpenSpec.ofChange atomWaysWrong)

/-- 'sheavelaw28.AtomGaps': WHATEVER THE INPUT: true; the input reads as it did. -/
def atomGapsSpec : ChangeSpec := { name := "atomGaps", fn := fun _ => fun
  | [d1, d2, d3] => { results := [.lit (.bool true)], args := [d1, d2, d3] }
  | _ => none }
def atomGapsRow : OpenClaim := { program := "ytcjfjhciobkbcaa", sum := "eb5630d30d14996466d559165d6156c590455f1369966447b7c328858e82881c", func := "sheave/sheavelaw28.AtomGaps", spec := "atomGaps", inPlace := ["internal/bytealg.IndexByteString"], unfollowed := true, recurses := true, apart := false }
def AtomGapsSaid : Prop := atomGapsRow.holds Try.pinned (OpenSpec.ofChange atomGapsSpec)

/-- ITS FALSE NEIGHBOUR: 'it returns false'. Refute it at one input. -/
def atomGapsWrong : ChangeSpec := { name := "atomGaps", fn := fun _ => fun
  | [d1, d2, d3] => { results := [.lit (.bool false)], args := [d1, d2, d3] }
  | _ => none }
def AtomGapsWrongFalsely : Prop := atomGapsRow.holds Try.pinned (OpenSpec.ofChange atomGapsWrong)

/-- 'sheavelaw28.AtomTakes': WHATEVER THE INPUT: true; the input reads as it did. -/
def atomTakesSpec : ChangeSpec := { name := "atomTakes", fn := fun _ => fun
  | [d1, d2] => { results := [.lit (.bool true)], args := [d1, d2] }
  | _ => none }
def atomTakesRow : OpenClaim := { program := "ytcjfjhciobkbcaa", sum := "eb5630d30d14996466d559165d6156c590455f1369966447b7c328858e82881c", func := "sheave/sheavelaw28.AtomTakes", spec := "atomTakes", inPlace := ["internal/bytealg.IndexByteString"], unfollowed := true, recurses := true, apart := false }
def AtomTakesSaid : Prop := atomTakesRow.holds Try.pinned (OpenSpec.ofChange atomTakesSpec)

/-- ITS FALSE NEIGHBOUR: 'it returns false'. Refute it at one input. -/
def atomTakesWrong : ChangeSpec := { name := "atomTakes", fn := fun _ => fun
  | [d1, d2] => { results := [.lit (.bool false)], args := [d1, d2] }
  | _ => none }
def AtomTakesWrongFalsely : Prop := atomTakesRow.holds Try.pinned (OpenSpec.ofChange atomTakesWrong)

/-- 'sheavelaw28.AtomBack': WHATEVER THE INPUT: true; the input reads as it did. -/
def atomBackSpec : ChangeSpec := { name := "atomBack", fn := fun _ => fun
  | [d1, d2] => { results := [.lit (.bool true)], args := [d1, d2] }
  | _ => none }
def atomBackRow : OpenClaim := { program := "ytcjfjhciobkbcaa", sum := "eb5630d30d14996466d559165d6156c590455f1369966447b7c328858e82881c", func := "sheave/sheavelaw28.AtomBack", spec := "atomBack", inPlace := ["internal/bytealg.IndexByteString"], unfollowed := true, recurses := true, apart := false }
def AtomBackSaid : Prop := atomBackRow.holds Try.pinned (OpenSpec.ofChange atomBackSpec)

/-- ITS FALSE NEIGHBOUR: 'it returns false'. Refute it at one input. -/
def atomBackWrong : ChangeSpec := { name := "atomBack", fn := fun _ => fun
  | [d1, d2] => { results := [.lit (.bool false)], args := [d1, d2] }
  | _ => none }
def AtomBackWrongFalsely : Prop := atomBackRow.holds Try.pinned (OpenSpec.ofChange atomBackWrong)

/- THE SECOND FORM. 'bulk': how many values and letters a reading holds, each counted each time it is reached (what is shared counts as often as it is met; a slice's spare places count too). A statement '..UptoSaid' is the law's where the arguments, and the package variables that the reading takes, are together of bulk at most 1048576: NARROWER than '..Said'. Prove '..Said' where nothing that the law and all that it calls make is longer than what came in: it says more and counts as full. Else prove '..UptoSaid'. A law counts once. -/
mutual
def uptoBulk {H : Type} : DataW H → Nat
  | .lit (.string bytes) => bytes.length + 1
  | .lit _ => 1
  | .nil => 1
  | .ptr d => uptoBulk d + 1
  | .slice elems spare => uptoBulkAll elems + uptoBulkAll spare + 1
  | .agg parts => uptoBulkAll parts + 1
  | .iface _ d => uptoBulk d + 1
  | .map entries => uptoBulkEntries entries + 1
  | .held _ => 1
def uptoBulkAll {H : Type} : List (DataW H) → Nat
  | [] => 0
  | d :: r => uptoBulk d + uptoBulkAll r
def uptoBulkEntries {H : Type} : List (Lit × DataW H) → Nat
  | [] => 0
  | x :: r => uptoBulkEntry x + uptoBulkEntries r
def uptoBulkEntry {H : Type} : Lit × DataW H → Nat
  | (.string bytes, d) => bytes.length + uptoBulk d + 1
  | (_, d) => uptoBulk d + 1
 end
def uptoSmall : (H : Type) → List (DataW H) → Bool := fun _ ds => decide (uptoBulkAll ds ≤ 1048576)
def OpenSpec.upto (s : _root_.Go.ChangeSpec) : _root_.Go.OpenSpec := { _root_.Go.OpenSpec.ofChange s with cond := some uptoSmall }

/-- 'sheavelaw20.QwordLays', WHERE WHAT IT READS IS OF BULK AT MOST 1048576: true; the input reads as it did. -/
def qwordLaysUptoRow : OpenClaim := { program := "ytcjfjhciobkbcaa", sum := "eb5630d30d14996466d559165d6156c590455f1369966447b7c328858e82881c", func := "sheave/sheavelaw20.QwordLays", spec := "qwordLays", inPlace := ["internal/bytealg.IndexByteString", "internal/bytealg.IndexByte"], apart := false, narrowed := true }
def QwordLaysUptoSaid : Prop := qwordLaysUptoRow.holds Try.pinned (OpenSpec.upto qwordLaysSpec)

/-- 'sheavelaw20.QwordReads', WHERE WHAT IT READS IS OF BULK AT MOST 1048576: true; the input reads as it did. -/
def qwordReadsUptoRow : OpenClaim := { program := "ytcjfjhciobkbcaa", sum := "eb5630d30d14996466d559165d6156c590455f1369966447b7c328858e82881c", func := "sheave/sheavelaw20.QwordReads", spec := "qwordReads", inPlace := ["internal/bytealg.IndexByteString", "internal/bytealg.IndexByte"], apart := false, narrowed := true }
def QwordReadsUptoSaid : Prop := qwordReadsUptoRow.holds Try.pinned (OpenSpec.upto qwordReadsSpec)

/-- 'sheavelaw20.QwordBack', WHERE WHAT IT READS IS OF BULK AT MOST 1048576: true; the input reads as it did. -/
def qwordBackUptoRow : OpenClaim := { program := "ytcjfjhciobkbcaa", sum := "eb5630d30d14996466d559165d6156c590455f1369966447b7c328858e82881c", func := "sheave/sheavelaw20.QwordBack", spec := "qwordBack", inPlace := ["internal/bytealg.IndexByteString", "internal/bytealg.IndexByte"], apart := false, narrowed := true }
def QwordBackUptoSaid : Prop := qwordBackUptoRow.holds Try.pinned (OpenSpec.upto qwordBackSpec)

/-- 'sheavelaw20.QwordParts', WHERE WHAT IT READS IS OF BULK AT MOST 1048576: true; the input reads as it did. -/
def qwordPartsUptoRow : OpenClaim := { program := "ytcjfjhciobkbcaa", sum := "eb5630d30d14996466d559165d6156c590455f1369966447b7c328858e82881c", func := "sheave/sheavelaw20.QwordParts", spec := "qwordParts", inPlace := ["internal/bytealg.IndexByteString", "internal/bytealg.IndexByte"], apart := false, narrowed := true }
def QwordPartsUptoSaid : Prop := qwordPartsUptoRow.holds Try.pinned (OpenSpec.upto qwordPartsSpec)

/-- 'sheavelaw21.PctUnquotes', WHERE WHAT IT READS IS OF BULK AT MOST 1048576: true; the input reads as it did. -/
def pctUnquotesUptoRow : OpenClaim := { program := "ytcjfjhciobkbcaa", sum := "eb5630d30d14996466d559165d6156c590455f1369966447b7c328858e82881c", func := "sheave/sheavelaw21.PctUnquotes", spec := "pctUnquotes", inPlace := ["internal/bytealg.IndexByteString"], unfollowed := true, recurses := true, apart := false, narrowed := true }
def PctUnquotesUptoSaid : Prop := pctUnquotesUptoRow.holds Try.pinned (OpenSpec.upto pctUnquotesSpec)

/-- 'sheavelaw21.PctReads', WHERE WHAT IT READS IS OF BULK AT MOST 1048576: true; the input reads as it did. -/
def pctReadsUptoRow : OpenClaim := { program := "ytcjfjhciobkbcaa", sum := "eb5630d30d14996466d559165d6156c590455f1369966447b7c328858e82881c", func := "sheave/sheavelaw21.PctReads", spec := "pctReads", inPlace := ["internal/bytealg.IndexByteString"], unfollowed := true, recurses := true, apart := false, narrowed := true }
def PctReadsUptoSaid : Prop := pctReadsUptoRow.holds Try.pinned (OpenSpec.upto pctReadsSpec)

/-- 'sheavelaw21.PctLays', WHERE WHAT IT READS IS OF BULK AT MOST 1048576: true; the input reads as it did. -/
def pctLaysUptoRow : OpenClaim := { program := "ytcjfjhciobkbcaa", sum := "eb5630d30d14996466d559165d6156c590455f1369966447b7c328858e82881c", func := "sheave/sheavelaw21.PctLays", spec := "pctLays", inPlace := ["internal/bytealg.IndexByteString"], unfollowed := true, recurses := true, apart := false, narrowed := true }
def PctLaysUptoSaid : Prop := pctLaysUptoRow.holds Try.pinned (OpenSpec.upto pctLaysSpec)

/-- 'sheavelaw21.PctBack', WHERE WHAT IT READS IS OF BULK AT MOST 1048576: true; the input reads as it did. -/
def pctBackUptoRow : OpenClaim := { program := "ytcjfjhciobkbcaa", sum := "eb5630d30d14996466d559165d6156c590455f1369966447b7c328858e82881c", func := "sheave/sheavelaw21.PctBack", spec := "pctBack", inPlace := ["internal/bytealg.IndexByteString"], unfollowed := true, recurses := true, apart := false, narrowed := true }
def PctBackUptoSaid : Prop := pctBackUptoRow.holds Try.pinned (OpenSpec.upto pctBackSpec)

/-- 'sheavelaw28.AtomWays', WHERE WHAT IT READS IS OF BULK AT MOST 1048576: true; the input reads as it did. -/
def atomWaysUptoRow : OpenClaim := { program := "ytcjfjhciobkbcaa", sum := "eb5630d30d14996466d559165d6156c590455f1369966447b7c328858e82881c", func := "sheave/sheavelaw28.AtomWays", spec := "atomWays", inPlace := ["internal/bytealg.IndexByteString"], unfollowed := true, recurses := true, apart := false, narrowed := true }
def AtomWaysUptoSaid : Prop := atomWaysUptoRow.holds Try.pinned (OpenSpec.upto atomWaysSpec)

/-- 'sheavelaw28.AtomGaps', WHERE WHAT IT READS IS OF BULK AT MOST 1048576: true; the input reads as it did. -/
def atomGapsUptoRow : OpenClaim := { program := "ytcjfjhciobkbcaa", sum := "eb5630d30d14996466d559165d6156c590455f1369966447b7c328858e82881c", func := "sheave/sheavelaw28.AtomGaps", spec := "atomGaps", inPlace := ["internal/bytealg.IndexByteString"], unfollowed := true, recurses := true, apart := false, narrowed := true }
def AtomGapsUptoSaid : Prop := atomGapsUptoRow.holds Try.pinned (OpenSpec.upto atomGapsSpec)

/-- 'sheavelaw28.AtomTakes', WHERE WHAT IT READS IS OF BULK AT MOST 1048576: true; the input reads as it did. -/
def atomTakesUptoRow : OpenClaim := { program := "ytcjfjhciobkbcaa", sum := "eb5630d30d14996466d559165d6156c590455f1369966447b7c328858e82881c", func := "sheave/sheavelaw28.AtomTakes", spec := "atomTakes", inPlace := ["internal/bytealg.IndexByteString"], unfollowed := true, recurses := true, apart := false, narrowed := true }
def AtomTakesUptoSaid : Prop := atomTakesUptoRow.holds Try.pinned (OpenSpec.upto atomTakesSpec)

/-- 'sheavelaw28.AtomBack', WHERE WHAT IT READS IS OF BULK AT MOST 1048576: true; the input reads as it did. -/
def atomBackUptoRow : OpenClaim := { program := "ytcjfjhciobkbcaa", sum := "eb5630d30d14996466d559165d6156c590455f1369966447b7c328858e82881c", func := "sheave/sheavelaw28.AtomBack", spec := "atomBack", inPlace := ["internal/bytealg.IndexByteString"], unfollowed := true, recurses := true, apart := false, narrowed := true }
def AtomBackUptoSaid : Prop := atomBackUptoRow.holds Try.pinned (OpenSpec.upto atomBackSpec)

end Rows
end Go.Proofs.Ytcjfjhciobkbcaa
