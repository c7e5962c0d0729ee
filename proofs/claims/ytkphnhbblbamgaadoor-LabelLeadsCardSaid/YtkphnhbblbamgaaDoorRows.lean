/-
  NARROWER THAN 'FOR EVERY INPUT', by the rows' own cells (each row's printed sentence says how): OctetKinds: laid · OctetTexts: laid · OctetSame: laid · OctetParts: laid · LabelFinds: laid · LabelLeads: laid.
  DERIVED. THE GIVEN ROWS OF THIS SEAT. 6 by the template 'for every input the law returns true; each argument reads behind the call as it read before'; 0 by the template 'total and deterministic' (their statements: YtkphnhbblbamgaaDoorTotals.lean).
  GIVEN WITH THE SEED: the statements are not yours to turn. If you find one false, say at which input.
  Laid BY PROGRAM, IN A SANDBOX (cutbox-rows.mjs): the forced cells as the released guide's own fill.sh prints them over the translation e0a416b6db18179f… (all of the seat's roots in one cut). By AI agents, Wed Nov 11 2026. No macro, syntax, notation, axiom, sorry.
-/
import Derived.Test.YtkphnhbblbamgaaDoorChecked
import GoSem.PinnedTables
import GoSem.Claim
import GoSem.ClaimJoined
import GoSem.ClaimMapViews
import Derived.JoinedTies
import Derived.KernelRfl
namespace Go.Proofs.YtkphnhbblbamgaaDoor
/- THE CELL 'sum', in the pinned program and in every row, IS THE sha256 OF THE DUMP (.gsa) THAT YtkphnhbblbamgaaDoorProg.lean LOADS. Nothing in Lean hashes anything: it is a label: what it is worth is what the hold of that sum in a sandbox is worth. -/
noncomputable def Tryd.pinned : Pinned := { name := "ytkphnhbblbamgaadoor", sum := "e0a416b6db18179f912d5ce0fb572fb48348995cdee29addae6946601c118cfd", checked := Tryd.checked }
namespace Rows
def none {H : Type} : Left H := { results := [], args := [] }

/- WHAT THE LISTED PACKAGE-LEVEL VARIABLES READ AS WHEN THE CALL BEGINS. Each datum BY PROGRAM (the guide's laid-datum.mjs) off the statement by which the dump's own 'gosem.cut.vars' lays the variable. In a bare row this is a premise. The card (YtkphnhbblbamgaaDoorCards.lean) ties it to the program's text. -/
def laid_unicode_utf8_acceptRanges {H : Type} : DataW H := .agg [.agg [.lit (.int .u8 128), .lit (.int .u8 191)], .agg [.lit (.int .u8 160), .lit (.int .u8 191)], .agg [.lit (.int .u8 128), .lit (.int .u8 159)], .agg [.lit (.int .u8 144), .lit (.int .u8 191)], .agg [.lit (.int .u8 128), .lit (.int .u8 143)], .agg [.lit (.int .u8 0), .lit (.int .u8 0)], .agg [.lit (.int .u8 0), .lit (.int .u8 0)], .agg [.lit (.int .u8 0), .lit (.int .u8 0)], .agg [.lit (.int .u8 0), .lit (.int .u8 0)], .agg [.lit (.int .u8 0), .lit (.int .u8 0)], .agg [.lit (.int .u8 0), .lit (.int .u8 0)], .agg [.lit (.int .u8 0), .lit (.int .u8 0)], .agg [.lit (.int .u8 0), .lit (.int .u8 0)], .agg [.lit (.int .u8 0), .lit (.int .u8 0)], .agg [.lit (.int .u8 0), .lit (.int .u8 0)], .agg [.lit (.int .u8 0), .lit (.int .u8 0)]]
/-- One of Go's own tables, pinned by name: the form's constant. -/
def laid_unicode_utf8_first : DataW Unit := Go.Pinned.utf8First

/-- 'sheavelaw01.OctetKinds': WHATEVER THE INPUT: true; the input reads as it did. -/
def octetKindsSpec : ChangeSpec := { name := "octetKinds", fn := fun _ => fun
  | [d1, d2] => { results := [.lit (.bool true)], args := [d1, d2] }
  | _ => none }
def octetKindsRow : OpenClaim := { program := "ytkphnhbblbamgaadoor", sum := "e0a416b6db18179f912d5ce0fb572fb48348995cdee29addae6946601c118cfd", func := "sheave/sheavelaw01.OctetKinds", spec := "octetKinds", inPlace := ["internal/bytealg.IndexByteString"], named := ["unicode/utf8.first", "unicode/utf8.acceptRanges"], apart := false, laid := [("unicode/utf8.acceptRanges", laid_unicode_utf8_acceptRanges), ("unicode/utf8.first", laid_unicode_utf8_first)] }
def OctetKindsSaid : Prop := octetKindsRow.holds Tryd.pinned (OpenSpec.ofChange octetKindsSpec)

/-- ITS FALSE NEIGHBOUR: 'it returns false'. Refute it at one input. -/
def octetKindsWrong : ChangeSpec := { name := "octetKinds", fn := fun _ => fun
  | [d1, d2] => { results := [.lit (.bool false)], args := [d1, d2] }
  | _ => none }
def OctetKindsWrongFalsely : Prop := octetKindsRow.holds Tryd.pinned (OpenSpec.ofChange octetKindsWrong)

/-- 'sheavelaw01.OctetTexts': WHATEVER THE INPUT: true; the input reads as it did. -/
def octetTextsSpec : ChangeSpec := { name := "octetTexts", fn := fun _ => fun
  | [d1, d2] => { results := [.lit (.bool true)], args := [d1, d2] }
  | _ => none }
def octetTextsRow : OpenClaim := { program := "ytkphnhbblbamgaadoor", sum := "e0a416b6db18179f912d5ce0fb572fb48348995cdee29addae6946601c118cfd", func := "sheave/sheavelaw01.OctetTexts", spec := "octetTexts", inPlace := ["internal/bytealg.IndexByteString"], named := ["unicode/utf8.first", "unicode/utf8.acceptRanges"], apart := false, laid := [("unicode/utf8.acceptRanges", laid_unicode_utf8_acceptRanges), ("unicode/utf8.first", laid_unicode_utf8_first)] }
def OctetTextsSaid : Prop := octetTextsRow.holds Tryd.pinned (OpenSpec.ofChange octetTextsSpec)

/-- ITS FALSE NEIGHBOUR: 'it returns false'. Refute it at one input. -/
def octetTextsWrong : ChangeSpec := { name := "octetTexts", fn := fun _ => fun
  | [d1, d2] => { results := [.lit (.bool false)], args := [d1, d2] }
  | _ => none }
def OctetTextsWrongFalsely : Prop := octetTextsRow.holds Tryd.pinned (OpenSpec.ofChange octetTextsWrong)

/-- 'sheavelaw01.OctetSame': WHATEVER THE INPUT: true; the input reads as it did. -/
def octetSameSpec : ChangeSpec := { name := "octetSame", fn := fun _ => fun
  | [d1, d2] => { results := [.lit (.bool true)], args := [d1, d2] }
  | _ => none }
def octetSameRow : OpenClaim := { program := "ytkphnhbblbamgaadoor", sum := "e0a416b6db18179f912d5ce0fb572fb48348995cdee29addae6946601c118cfd", func := "sheave/sheavelaw01.OctetSame", spec := "octetSame", inPlace := ["internal/bytealg.IndexByteString"], named := ["unicode/utf8.first", "unicode/utf8.acceptRanges"], apart := false, laid := [("unicode/utf8.acceptRanges", laid_unicode_utf8_acceptRanges), ("unicode/utf8.first", laid_unicode_utf8_first)] }
def OctetSameSaid : Prop := octetSameRow.holds Tryd.pinned (OpenSpec.ofChange octetSameSpec)

/-- ITS FALSE NEIGHBOUR: 'it returns false'. Refute it at one input. -/
def octetSameWrong : ChangeSpec := { name := "octetSame", fn := fun _ => fun
  | [d1, d2] => { results := [.lit (.bool false)], args := [d1, d2] }
  | _ => none }
def OctetSameWrongFalsely : Prop := octetSameRow.holds Tryd.pinned (OpenSpec.ofChange octetSameWrong)

/-- 'sheavelaw01.OctetParts': WHATEVER THE INPUT: true; the input reads as it did. -/
def octetPartsSpec : ChangeSpec := { name := "octetParts", fn := fun _ => fun
  | [d] => { results := [.lit (.bool true)], args := [d] }
  | _ => none }
def octetPartsRow : OpenClaim := { program := "ytkphnhbblbamgaadoor", sum := "e0a416b6db18179f912d5ce0fb572fb48348995cdee29addae6946601c118cfd", func := "sheave/sheavelaw01.OctetParts", spec := "octetParts", inPlace := ["internal/bytealg.IndexByteString"], named := ["unicode/utf8.first", "unicode/utf8.acceptRanges"], apart := false, laid := [("unicode/utf8.acceptRanges", laid_unicode_utf8_acceptRanges), ("unicode/utf8.first", laid_unicode_utf8_first)] }
def OctetPartsSaid : Prop := octetPartsRow.holds Tryd.pinned (OpenSpec.ofChange octetPartsSpec)

/-- ITS FALSE NEIGHBOUR: 'it returns false'. Refute it at one input. -/
def octetPartsWrong : ChangeSpec := { name := "octetParts", fn := fun _ => fun
  | [d] => { results := [.lit (.bool false)], args := [d] }
  | _ => none }
def OctetPartsWrongFalsely : Prop := octetPartsRow.holds Tryd.pinned (OpenSpec.ofChange octetPartsWrong)

/-- 'sheavelaw11.LabelFinds': WHATEVER THE INPUT: true; the input reads as it did. -/
def labelFindsSpec : ChangeSpec := { name := "labelFinds", fn := fun _ => fun
  | [d] => { results := [.lit (.bool true)], args := [d] }
  | _ => none }
def labelFindsRow : OpenClaim := { program := "ytkphnhbblbamgaadoor", sum := "e0a416b6db18179f912d5ce0fb572fb48348995cdee29addae6946601c118cfd", func := "sheave/sheavelaw11.LabelFinds", spec := "labelFinds", inPlace := ["internal/bytealg.IndexByte"], named := ["unicode/utf8.first", "unicode/utf8.acceptRanges"], apart := false, laid := [("unicode/utf8.acceptRanges", laid_unicode_utf8_acceptRanges), ("unicode/utf8.first", laid_unicode_utf8_first)] }
def LabelFindsSaid : Prop := labelFindsRow.holds Tryd.pinned (OpenSpec.ofChange labelFindsSpec)

/-- ITS FALSE NEIGHBOUR: 'it returns false'. Refute it at one input. -/
def labelFindsWrong : ChangeSpec := { name := "labelFinds", fn := fun _ => fun
  | [d] => { results := [.lit (.bool false)], args := [d] }
  | _ => none }
def LabelFindsWrongFalsely : Prop := labelFindsRow.holds Tryd.pinned (OpenSpec.ofChange labelFindsWrong)

/-- 'sheavelaw11.LabelLeads': WHATEVER THE INPUT: true; the input reads as it did. -/
def labelLeadsSpec : ChangeSpec := { name := "labelLeads", fn := fun _ => fun
  | [d1, d2, d3] => { results := [.lit (.bool true)], args := [d1, d2, d3] }
  | _ => none }
def labelLeadsRow : OpenClaim := { program := "ytkphnhbblbamgaadoor", sum := "e0a416b6db18179f912d5ce0fb572fb48348995cdee29addae6946601c118cfd", func := "sheave/sheavelaw11.LabelLeads", spec := "labelLeads", inPlace := ["internal/bytealg.IndexByte"], named := ["unicode/utf8.first", "unicode/utf8.acceptRanges"], apart := false, laid := [("unicode/utf8.acceptRanges", laid_unicode_utf8_acceptRanges), ("unicode/utf8.first", laid_unicode_utf8_first)] }
def LabelLeadsSaid : Prop := labelLeadsRow.holds Tryd.pinned (OpenSpec.ofChange labelLeadsSpec)

/-- ITS FALSE NEIGHBOUR: 'it returns false'. Refute it at one input. -/
def labelLeadsWrong : ChangeSpec := { name := "labelLeads", fn := fun _ => fun
  | [d1, d2, d3] => { results := [.lit (.bool false)], args := [d1, d2, d3] }
  | _ => none }
def LabelLeadsWrongFalsely : Prop := labelLeadsRow.holds Tryd.pinned (OpenSpec.ofChange labelLeadsWrong)

/- THE SECOND FORM. 'bulk': how many values and letters a reading holds, each counted each time it is reached (what is shared counts as often as it is met; a slice's spare places count too). A statement '..UptoSaid' is the law's where the arguments, and the package variables that the reading takes, are together of bulk at most 1048576: NARROWER than '..Said'. Prove '..Said' where nothing that the law and all that it calls make is longer than what came in: it says more and counts as full. Else prove '..UptoSaid'. A law counts once. -/
mutual
def uptoBulk {H : Type} : DataW H → Nat
  | .lit (.string bytes) => bytes.length + 1
  | .lit _ => 1
  | .nil => 1
  | .ptr d => uptoBulk d + 1
  | .slice elems spare => uptoBulkAll elems + uptoBulkAll spare + 1
  | .agg parts => uptoBulkAll parts + 1
  | .iface _ d => uptoBulk d + 1
  | .map entries => uptoBulkEntries entries + 1
  | .held _ => 1
def uptoBulkAll {H : Type} : List (DataW H) → Nat
  | [] => 0
  | d :: r => uptoBulk d + uptoBulkAll r
def uptoBulkEntries {H : Type} : List (Lit × DataW H) → Nat
  | [] => 0
  | x :: r => uptoBulkEntry x + uptoBulkEntries r
def uptoBulkEntry {H : Type} : Lit × DataW H → Nat
  | (.string bytes, d) => bytes.length + uptoBulk d + 1
  | (_, d) => uptoBulk d + 1
 end
def uptoSmall : (H : Type) → List (DataW H) → Bool := fun _ ds => decide (uptoBulkAll ds ≤ 1048576)
def OpenSpec.upto (s : _root_.Go.ChangeSpec) : _root_.Go.OpenSpec := { _root_.Go.OpenSpec.ofChange s with cond := some uptoSmall }

/-- 'sheavelaw01.OctetKinds', WHERE WHAT IT READS IS OF BULK AT MOST 1048576: true; the input reads as it did. -/
def octetKindsUptoRow : OpenClaim := { program := "ytkphnhbblbamgaadoor", sum := "e0a416b6db18179f912d5ce0fb572fb48348995cdee29addae6946601c118cfd", func := "sheave/sheavelaw01.OctetKinds", spec := "octetKinds", inPlace := ["internal/bytealg.IndexByteString"], named := ["unicode/utf8.first", "unicode/utf8.acceptRanges"], apart := false, laid := [("unicode/utf8.acceptRanges", laid_unicode_utf8_acceptRanges), ("unicode/utf8.first", laid_unicode_utf8_first)], narrowed := true }
def OctetKindsUptoSaid : Prop := octetKindsUptoRow.holds Tryd.pinned (OpenSpec.upto octetKindsSpec)

/-- 'sheavelaw01.OctetTexts', WHERE WHAT IT READS IS OF BULK AT MOST 1048576: true; the input reads as it did. -/
def octetTextsUptoRow : OpenClaim := { program := "ytkphnhbblbamgaadoor", sum := "e0a416b6db18179f912d5ce0fb572fb48348995cdee29addae6946601c118cfd", func := "sheave/sheavelaw01.OctetTexts", spec := "octetTexts", inPlace := ["internal/bytealg.IndexByteString"], named := ["unicode/utf8.first", "unicode/utf8.acceptRanges"], apart := false, laid := [("unicode/utf8.acceptRanges", laid_unicode_utf8_acceptRanges), ("unicode/utf8.first", laid_unicode_utf8_first)], narrowed := true }
def OctetTextsUptoSaid : Prop := octetTextsUptoRow.holds Tryd.pinned (OpenSpec.upto octetTextsSpec)

/-- 'sheavelaw01.OctetSame', WHERE WHAT IT READS IS OF BULK AT MOST 1048576: true; the input reads as it did. -/
def octetSameUptoRow : OpenClaim := { program := "ytkphnhbblbamgaadoor", sum := "e0a416b6db18179f912d5ce0fb572fb48348995cdee29addae6946601c118cfd", func := "sheave/sheavelaw01.OctetSame", spec := "octetSame", inPlace := ["internal/bytealg.IndexByteString"], named := ["unicode/utf8.first", "unicode/utf8.acceptRanges"], apart := false, laid := [("unicode/utf8.acceptRanges", laid_unicode_utf8_acceptRanges), ("unicode/utf8.first", laid_unicode_utf8_first)], narrowed := true }
def OctetSameUptoSaid : Prop := octetSameUptoRow.holds Tryd.pinned (OpenSpec.upto octetSameSpec)

/-- 'sheavelaw01.OctetParts', WHERE WHAT IT READS IS OF BULK AT MOST 1048576: true; the input reads as it did. -/
def octetPartsUptoRow : OpenClaim := { program := "ytkphnhbblbamgaadoor", sum := "e0a416b6db18179f912d5ce0fb572fb48348995cdee29addae6946601c118cfd", func := "sheave/sheavelaw01.OctetParts", spec := "octetParts", inPlace := ["internal/bytealg.IndexByteString"], named := ["unicode/utf8.first", "unicode/utf8.acceptRanges"], apart := false, laid := [("unicode/utf8.acceptRanges", laid_unicode_utf8_acceptRanges), ("unicode/utf8.first", laid_unicode_utf8_first)], narrowed := true }
def OctetPartsUptoSaid : Prop := octetPartsUptoRow.holds Tryd.pinned (OpenSpec.upto octetPartsSpec)

/-- 'sheavelaw11.LabelFinds', WHERE WHAT IT READS IS OF BULK AT MOST 1048576: true; the input reads as it did. -/
def labelFindsUptoRow : OpenClaim := { program := "ytkphnhbblbamgaadoor", sum := "e0a416b6db18179f912d5ce0fb572fb48348995cdee29addae6946601c118cfd", func := "sheave/sheavelaw11.LabelFinds", spec := "labelFinds", inPlace := ["internal/bytealg.IndexByte"], named := ["unicode/utf8.first", "unicode/utf8.acceptRanges"], apart := false, laid := [("unicode/utf8.acceptRanges", laid_unicode_utf8_acceptRanges), ("unicode/utf8.first", laid_unicode_utf8_first)], narrowed := true }
def LabelFindsUptoSaid : Prop := labelFindsUptoRow.holds Tryd.pinned (OpenSpec.upto labelFindsSpec)

/-- 'sheavelaw11.LabelLeads', WHERE WHAT IT READS IS OF BULK AT MOST 1048576: true; the input reads as it did. -/
def labelLeadsUptoRow : OpenClaim := { program := "ytkphnhbblbamgaadoor", sum := "e0a416b6db18179f912d5ce0fb572fb48348995cdee29addae6946601c118cfd", func := "sheave/sheavelaw11.LabelLeads", spec := "labelLeads", inPlace := ["internal/bytealg.IndexByte"], named := ["unicode/utf8.first", "unicode/utf8.acceptRanges"], apart := false, laid := [("unicode/utf8.acceptRanges", laid_unicode_utf8_acceptRanges), ("unicode/utf8.first", laid_unicode_utf8_first)], narrowed := true }
def LabelLeadsUptoSaid : Prop := labelLeadsUptoRow.holds Tryd.pinned (OpenSpec.upto labelLeadsSpec)

end Rows
end Go.Proofs.YtkphnhbblbamgaaDoor
