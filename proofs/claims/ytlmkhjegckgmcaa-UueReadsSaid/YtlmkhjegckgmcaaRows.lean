/-
  No cell of these rows narrows 'for every input' (looked for: loops, veiled, ifaces, maps, wideKeys, modest, calm, conditions, laid).
  DERIVED. THE GIVEN ROWS OF THIS SEAT. 10 by the template 'for every input the law returns true; each argument reads behind the call as it read before'; 0 by the template 'total and deterministic' (their statements: YtlmkhjegckgmcaaTotals.lean).
  GIVEN WITH THE SEED: the statements are not yours to turn. If you find one false, say at which input.
  Laid BY PROGRAM, IN A SANDBOX (cutbox-rows.mjs): the forced cells as the released guide's own fill.sh prints them over the translation f92a4da2517b1b5a… (all of the seat's roots in one cut). By AI agents, Wed Nov 11 2026. No macro, syntax, notation, axiom, sorry.
-/
import Derived.Test.YtlmkhjegckgmcaaChecked
import GoSem.Claim
import GoSem.ClaimJoined
import GoSem.ClaimMapViews
import Derived.JoinedTies
import Derived.KernelRfl
namespace Go.Proofs.Ytlmkhjegckgmcaa
/- THE CELL 'sum', in the pinned program and in every row, IS THE sha256 OF THE DUMP (.gsa) THAT YtlmkhjegckgmcaaProg.lean LOADS. Nothing in Lean hashes anything: it is a label: what it is worth is what the hold of that sum in a sandbox is worth. -/
noncomputable def Try.pinned : Pinned := { name := "ytlmkhjegckgmcaa", sum := "f92a4da2517b1b5a0207517b64dfa45f61a24b65d38b7db14e3bf96d48206a01", checked := Try.checked }
namespace Rows
def none {H : Type} : Left H := { results := [], args := [] }

/-- 'sheavelaw26.LinesFits': WHATEVER THE INPUT: true; the input reads as it did. -/
def linesFitsSpec : ChangeSpec := { name := "linesFits", fn := fun _ => fun
  | [d1, d2, d3] => { results := [.lit (.bool true)], args := [d1, d2, d3] }
  | _ => none }
def linesFitsRow : OpenClaim := { program := "ytlmkhjegckgmcaa", sum := "f92a4da2517b1b5a0207517b64dfa45f61a24b65d38b7db14e3bf96d48206a01", func := "sheave/sheavelaw26.LinesFits", spec := "linesFits", inPlace := ["internal/bytealg.IndexByte", "internal/bytealg.Index", "internal/bytealg.Count"], unfollowed := true, recurses := true, named := ["internal/bytealg.MaxLen"], apart := false }
def LinesFitsSaid : Prop := linesFitsRow.holds Try.pinned (OpenSpec.ofChange linesFitsSpec)

/-- ITS FALSE NEIGHBOUR: 'it returns false'. Refute it at one input. -/
def linesFitsWrong : ChangeSpec := { name := "linesFits", fn := fun _ => fun
  | [d1, d2, d3] => { results := [.lit (.bool false)], args := [d1, d2, d3] }
  | _ => none }
def LinesFitsWrongFalsely : Prop := linesFitsRow.holds Try.pinned (OpenSpec.ofChange linesFitsWrong)

/-- 'sheavelaw26.LinesSplits': WHATEVER THE INPUT: true; the input reads as it did. -/
def linesSplitsSpec : ChangeSpec := { name := "linesSplits", fn := fun _ => fun
  | [d1, d2] => { results := [.lit (.bool true)], args := [d1, d2] }
  | _ => none }
def linesSplitsRow : OpenClaim := { program := "ytlmkhjegckgmcaa", sum := "f92a4da2517b1b5a0207517b64dfa45f61a24b65d38b7db14e3bf96d48206a01", func := "sheave/sheavelaw26.LinesSplits", spec := "linesSplits", inPlace := ["internal/bytealg.IndexByte", "internal/bytealg.Index", "internal/bytealg.Count"], unfollowed := true, recurses := true, named := ["internal/bytealg.MaxLen"], apart := false }
def LinesSplitsSaid : Prop := linesSplitsRow.holds Try.pinned (OpenSpec.ofChange linesSplitsSpec)

/-- ITS FALSE NEIGHBOUR: 'it returns false'. Refute it at one input. -/
def linesSplitsWrong : ChangeSpec := { name := "linesSplits", fn := fun _ => fun
  | [d1, d2] => { results := [.lit (.bool false)], args := [d1, d2] }
  | _ => none }
def LinesSplitsWrongFalsely : Prop := linesSplitsRow.holds Try.pinned (OpenSpec.ofChange linesSplitsWrong)

/-- 'sheavelaw26.LinesBack': WHATEVER THE INPUT: true; the input reads as it did. -/
def linesBackSpec : ChangeSpec := { name := "linesBack", fn := fun _ => fun
  | [d] => { results := [.lit (.bool true)], args := [d] }
  | _ => none }
def linesBackRow : OpenClaim := { program := "ytlmkhjegckgmcaa", sum := "f92a4da2517b1b5a0207517b64dfa45f61a24b65d38b7db14e3bf96d48206a01", func := "sheave/sheavelaw26.LinesBack", spec := "linesBack", inPlace := ["internal/bytealg.IndexByte", "internal/bytealg.Index", "internal/bytealg.Count"], unfollowed := true, recurses := true, named := ["internal/bytealg.MaxLen"], apart := false }
def LinesBackSaid : Prop := linesBackRow.holds Try.pinned (OpenSpec.ofChange linesBackSpec)

/-- ITS FALSE NEIGHBOUR: 'it returns false'. Refute it at one input. -/
def linesBackWrong : ChangeSpec := { name := "linesBack", fn := fun _ => fun
  | [d] => { results := [.lit (.bool false)], args := [d] }
  | _ => none }
def LinesBackWrongFalsely : Prop := linesBackRow.holds Try.pinned (OpenSpec.ofChange linesBackWrong)

/-- 'sheavelaw43.DotsSends': WHATEVER THE INPUT: true; the input reads as it did. -/
def dotsSendsSpec : ChangeSpec := { name := "dotsSends", fn := fun _ => fun
  | [d1, d2] => { results := [.lit (.bool true)], args := [d1, d2] }
  | _ => none }
def dotsSendsRow : OpenClaim := { program := "ytlmkhjegckgmcaa", sum := "f92a4da2517b1b5a0207517b64dfa45f61a24b65d38b7db14e3bf96d48206a01", func := "sheave/sheavelaw43.DotsSends", spec := "dotsSends", inPlace := ["internal/bytealg.IndexByte", "internal/bytealg.Index"], unfollowed := true, recurses := true, named := ["internal/bytealg.MaxLen"], apart := false }
def DotsSendsSaid : Prop := dotsSendsRow.holds Try.pinned (OpenSpec.ofChange dotsSendsSpec)

/-- ITS FALSE NEIGHBOUR: 'it returns false'. Refute it at one input. -/
def dotsSendsWrong : ChangeSpec := { name := "dotsSends", fn := fun _ => fun
  | [d1, d2] => { results := [.lit (.bool false)], args := [d1, d2] }
  | _ => none }
def DotsSendsWrongFalsely : Prop := dotsSendsRow.holds Try.pinned (OpenSpec.ofChange dotsSendsWrong)

/-- 'sheavelaw43.DotsReceives': WHATEVER THE INPUT: true; the input reads as it did. -/
def dotsReceivesSpec : ChangeSpec := { name := "dotsReceives", fn := fun _ => fun
  | [d] => { results := [.lit (.bool true)], args := [d] }
  | _ => none }
def dotsReceivesRow : OpenClaim := { program := "ytlmkhjegckgmcaa", sum := "f92a4da2517b1b5a0207517b64dfa45f61a24b65d38b7db14e3bf96d48206a01", func := "sheave/sheavelaw43.DotsReceives", spec := "dotsReceives", inPlace := ["internal/bytealg.IndexByte", "internal/bytealg.Index", "internal/bytealg.Count"], unfollowed := true, recurses := true, named := ["internal/bytealg.MaxLen"], apart := false }
def DotsReceivesSaid : Prop := dotsReceivesRow.holds Try.pinned (OpenSpec.ofChange dotsReceivesSpec)

/-- ITS FALSE NEIGHBOUR: 'it returns false'. Refute it at one input. -/
def dotsReceivesWrong : ChangeSpec := { name := "dotsReceives", fn := fun _ => fun
  | [d] => { results := [.lit (.bool false)], args := [d] }
  | _ => none }
def DotsReceivesWrongFalsely : Prop := dotsReceivesRow.holds Try.pinned (OpenSpec.ofChange dotsReceivesWrong)

/-- 'sheavelaw43.DotsBack': WHATEVER THE INPUT: true; the input reads as it did. -/
def dotsBackSpec : ChangeSpec := { name := "dotsBack", fn := fun _ => fun
  | [d1, d2] => { results := [.lit (.bool true)], args := [d1, d2] }
  | _ => none }
def dotsBackRow : OpenClaim := { program := "ytlmkhjegckgmcaa", sum := "f92a4da2517b1b5a0207517b64dfa45f61a24b65d38b7db14e3bf96d48206a01", func := "sheave/sheavelaw43.DotsBack", spec := "dotsBack", inPlace := ["internal/bytealg.IndexByte", "internal/bytealg.Index", "internal/bytealg.Count"], unfollowed := true, recurses := true, named := ["internal/bytealg.MaxLen"], apart := false }
def DotsBackSaid : Prop := dotsBackRow.holds Try.pinned (OpenSpec.ofChange dotsBackSpec)

/-- ITS FALSE NEIGHBOUR: 'it returns false'. Refute it at one input. -/
def dotsBackWrong : ChangeSpec := { name := "dotsBack", fn := fun _ => fun
  | [d1, d2] => { results := [.lit (.bool false)], args := [d1, d2] }
  | _ => none }
def DotsBackWrongFalsely : Prop := dotsBackRow.holds Try.pinned (OpenSpec.ofChange dotsBackWrong)

/-- 'sheavelaw44.UueLines': WHATEVER THE INPUT: true; the input reads as it did. -/
def uueLinesSpec : ChangeSpec := { name := "uueLines", fn := fun _ => fun
  | [d1, d2, d3] => { results := [.lit (.bool true)], args := [d1, d2, d3] }
  | _ => none }
def uueLinesRow : OpenClaim := { program := "ytlmkhjegckgmcaa", sum := "f92a4da2517b1b5a0207517b64dfa45f61a24b65d38b7db14e3bf96d48206a01", func := "sheave/sheavelaw44.UueLines", spec := "uueLines", unfollowed := true, recurses := true, apart := false }
def UueLinesSaid : Prop := uueLinesRow.holds Try.pinned (OpenSpec.ofChange uueLinesSpec)

/-- ITS FALSE NEIGHBOUR: 'it returns false'. Refute it at one input. -/
def uueLinesWrong : ChangeSpec := { name := "uueLines", fn := fun _ => fun
  | [d1, d2, d3] => { results := [.lit (.bool false)], args := [d1, d2, d3] }
  | _ => none }
def UueLinesWrongFalsely : Prop := uueLinesRow.holds Try.pinned (OpenSpec.ofChange uueLinesWrong)

/-- 'sheavelaw44.UueLays': WHATEVER THE INPUT: true; the input reads as it did. -/
def uueLaysSpec : ChangeSpec := { name := "uueLays", fn := fun _ => fun
  | [d1, d2] => { results := [.lit (.bool true)], args := [d1, d2] }
  | _ => none }
def uueLaysRow : OpenClaim := { program := "ytlmkhjegckgmcaa", sum := "f92a4da2517b1b5a0207517b64dfa45f61a24b65d38b7db14e3bf96d48206a01", func := "sheave/sheavelaw44.UueLays", spec := "uueLays", unfollowed := true, recurses := true, apart := false }
def UueLaysSaid : Prop := uueLaysRow.holds Try.pinned (OpenSpec.ofChange uueLaysSpec)

/-- ITS FALSE NEIGHBOUR: 'it returns false'. Refute it at one input. -/
def uueLaysWrong : ChangeSpec := { name := "uueLays", fn := fun _ => fun
  | [d1, d2] => { results := [.lit (.bool false)], args := [d1, d2] }
  | _ => none }
def UueLaysWrongFalsely : Prop := uueLaysRow.holds Try.pinned (OpenSpec.ofChange uueLaysWrong)

/-- 'sheavelaw44.UueReads': WHATEVER THE INPUT: true; the input reads as it did. -/
def uueReadsSpec : ChangeSpec := { name := "uueReads", fn := fun _ => fun
  | [d] => { results := [.lit (.bool true)], args := [d] }
  | _ => none }
def uueReadsRow : OpenClaim := { program := "ytlmkhjegckgmcaa", sum := "f92a4da2517b1b5a0207517b64dfa45f61a24b65d38b7db14e3bf96d48206a01", func := "sheave/sheavelaw44.UueReads", spec := "uueReads", inPlace := ["internal/bytealg.IndexByte", "internal/bytealg.Index"], unfollowed := true, recurses := true, named := ["internal/bytealg.MaxLen"], apart := false }
def UueReadsSaid : Prop := uueReadsRow.holds Try.pinned (OpenSpec.ofChange uueReadsSpec)

/-- ITS FALSE NEIGHBOUR: 'it returns false'. Refute it at one input. -/
def uueReadsWrong : ChangeSpec := { name := "uueReads", fn := fun _ => fun
  | [d] => { results := [.lit (.bool false)], args := [d] }
  | _ => none }
def UueReadsWrongFalsely : Prop := uueReadsRow.holds Try.pinned (OpenSpec.ofChange uueReadsWrong)

/-- 'sheavelaw44.UueBack': WHATEVER THE INPUT: true; the input reads as it did. -/
def uueBackSpec : ChangeSpec := { name := "uueBack", fn := fun _ => fun
  | [d1, d2] => { results := [.lit (.bool true)], args := [d1, d2] }
  | _ => none }
def uueBackRow : OpenClaim := { program := "ytlmkhjegckgmcaa", sum := "f92a4da2517b1b5a0207517b64dfa45f61a24b65d38b7db14e3bf96d48206a01", func := "sheave/sheavelaw44.UueBack", spec := "uueBack", inPlace := ["internal/bytealg.IndexByte", "internal/bytealg.Index"], unfollowed := true, recurses := true, named := ["internal/bytealg.MaxLen"], apart := false }
def UueBackSaid : Prop := uueBackRow.holds Try.pinned (OpenSpec.ofChange uueBackSpec)

/-- ITS FALSE NEIGHBOUR: 'it returns false'. Refute it at one input. -/
def uueBackWrong : ChangeSpec := { name := "uueBack", fn := fun _ => fun
  | [d1, d2] => { results := [.lit (.bool false)], args := [d1, d2] }
  | _ => none }
def UueBackWrongFalsely : Prop := uueBackRow.holds Try.pinned (OpenSpec.ofChange uueBackWrong)

/- THE SECOND FORM. 'bulk': how many values and letters a reading holds, each counted each time it is reached (what is shared counts as often as it is met; a slice's spare places count too). A statement '..UptoSaid' is the law's where the arguments, and the package variables that the reading takes, are together of bulk at most 1048576: NARROWER than '..Said'. Prove '..Said' where nothing that the law and all that it calls make is longer than what came in: it says more and counts as full. Else prove '..UptoSaid'. A law counts once. -/
mutual
def uptoBulk {H : Type} : DataW H → Nat
  | .lit (.string bytes) => bytes.length + 1
  | .lit _ => 1
  | .nil => 1
  | .ptr d => uptoBulk d + 1
  | .slice elems spare => uptoBulkAll elems + uptoBulkAll spare + 1
  | .agg parts => uptoBulkAll parts + 1
  | .iface _ d => uptoBulk d + 1
  | .map entries => uptoBulkEntries entries + 1
  | .held _ => 1
def uptoBulkAll {H : Type} : List (DataW H) → Nat
  | [] => 0
  | d :: r => uptoBulk d + uptoBulkAll r
def uptoBulkEntries {H : Type} : List (Lit × DataW H) → Nat
  | [] => 0
  | x :: r => uptoBulkEntry x + uptoBulkEntries r
def uptoBulkEntry {H : Type} : Lit × DataW H → Nat
  | (.string bytes, d) => bytes.length + uptoBulk d + 1
  | (_, d) => uptoBulk d + 1
 end
def uptoSmall : (H : Type) → List (DataW H) → Bool := fun _ ds => decide (uptoBulkAll ds ≤ 1048576)
def OpenSpec.upto (s : _root_.Go.ChangeSpec) : _root_.Go.OpenSpec := { _root_.Go.OpenSpec.ofChange s with cond := some uptoSmall }

/-- 'sheavelaw26.LinesFits', WHERE WHAT IT READS IS OF BULK AT MOST 1048576: true; the input reads as it did. -/
def linesFitsUptoRow : OpenClaim := { program := "ytlmkhjegckgmcaa", sum := "f92a4da2517b1b5a0207517b64dfa45f61a24b65d38b7db14e3bf96d48206a01", func := "sheave/sheavelaw26.LinesFits", spec := "linesFits", inPlace := ["internal/bytealg.IndexByte", "internal/bytealg.Index", "internal/bytealg.Count"], unfollowed := true, recurses := true, named := ["internal/bytealg.MaxLen"], apart := false, narrowed := true }
def LinesFitsUptoSaid : Prop := linesFitsUptoRow.holds Try.pinned (OpenSpec.upto linesFitsSpec)

/-- 'sheavelaw26.LinesSplits', WHERE WHAT IT READS IS OF BULK AT MOST 1048576: true; the input reads as it did. -/
def linesSplitsUptoRow : OpenClaim := { program := "ytlmkhjegckgmcaa", sum := "f92a4da2517b1b5a0207517b64dfa45f61a24b65d38b7db14e3bf96d48206a01", func := "sheave/sheavelaw26.LinesSplits", spec := "linesSplits", inPlace := ["internal/bytealg.IndexByte", "internal/bytealg.Index", "internal/bytealg.Count"], unfollowed := true, recurses := true, named := ["internal/bytealg.MaxLen"], apart := false, narrowed := true }
def LinesSplitsUptoSaid : Prop := linesSplitsUptoRow.holds Try.pinned (OpenSpec.upto linesSplitsSpec)

/-- 'sheavelaw26.LinesBack', WHERE WHAT IT READS IS OF BULK AT MOST 1048576: true; the input reads as it did. -/
def linesBackUptoRow : OpenClaim := { program := "ytlmkhjegckgmcaa", sum := "f92a4da2517b1b5a0207517b64dfa45f61a24b65d38b7db14e3bf96d48206a01", func := "sheave/sheavelaw26.LinesBack", spec := "linesBack", inPlace := ["internal/bytealg.IndexByte", "internal/bytealg.Index", "internal/bytealg.Count"], unfollowed := true, recurses := true, named := ["internal/bytealg.MaxLen"], apart := false, narrowed := true }
def LinesBackUptoSaid : Prop := linesBackUptoRow.holds Try.pinned (OpenSpec.upto linesBackSpec)

/-- 'sheavelaw43.DotsSends', WHERE WHAT IT READS IS OF BULK AT MOST 1048576: true; the input reads as it did. -/
def dotsSendsUptoRow : OpenClaim := { program := "ytlmkhjegckgmcaa", sum := "f92a4da2517b1b5a0207517b64dfa45f61a24b65d38b7db14e3bf96d48206a01", func := "sheave/sheavelaw43.DotsSends", spec := "dotsSends", inPlace := ["internal/bytealg.IndexByte", "internal/bytealg.Index"], unfollowed := true, recurses := true, named := ["internal/bytealg.MaxLen"], apart := false, narrowed := true }
def DotsSendsUptoSaid : Prop := dotsSendsUptoRow.holds Try.pinned (OpenSpec.upto dotsSendsSpec)

/-- 'sheavelaw43.DotsReceives', WHERE WHAT IT READS IS OF BULK AT MOST 1048576: true; the input reads as it did. -/
def dotsReceivesUptoRow : OpenClaim := { program := "ytlmkhjegckgmcaa", sum := "f92a4da2517b1b5a0207517b64dfa45f61a24b65d38b7db14e3bf96d48206a01", func := "sheave/sheavelaw43.DotsReceives", spec := "dotsReceives", inPlace := ["internal/bytealg.IndexByte", "internal/bytealg.Index", "internal/bytealg.Count"], unfollowed := true, recurses := true, named := ["internal/bytealg.MaxLen"], apart := false, narrowed := true }
def DotsReceivesUptoSaid : Prop := dotsReceivesUptoRow.holds Try.pinned (OpenSpec.upto dotsReceivesSpec)

/-- 'sheavelaw43.DotsBack', WHERE WHAT IT READS IS OF BULK AT MOST 1048576: true; the input reads as it did. -/
def dotsBackUptoRow : OpenClaim := { program := "ytlmkhjegckgmcaa", sum := "f92a4da2517b1b5a0207517b64dfa45f61a24b65d38b7db14e3bf96d48206a01", func := "sheave/sheavelaw43.DotsBack", spec := "dotsBack", inPlace := ["internal/bytealg.IndexByte", "internal/bytealg.Index", "internal/bytealg.Count"], unfollowed := true, recurses := true, named := ["internal/bytealg.MaxLen"], apart := false, narrowed := true }
def DotsBackUptoSaid : Prop := dotsBackUptoRow.holds Try.pinned (OpenSpec.upto dotsBackSpec)

/-- 'sheavelaw44.UueLines', WHERE WHAT IT READS IS OF BULK AT MOST 1048576: true; the input reads as it did. -/
def uueLinesUptoRow : OpenClaim := { program := "ytlmkhjegckgmcaa", sum := "f92a4da2517b1b5a0207517b64dfa45f61a24b65d38b7db14e3bf96d48206a01", func := "sheave/sheavelaw44.UueLines", spec := "uueLines", unfollowed := true, recurses := true, apart := false, narrowed := true }
def UueLinesUptoSaid : Prop := uueLinesUptoRow.holds Try.pinned (OpenSpec.upto uueLinesSpec)

/-- 'sheavelaw44.UueLays', WHERE WHAT IT READS IS OF BULK AT MOST 1048576: true; the input reads as it did. -/
def uueLaysUptoRow : OpenClaim := { program := "ytlmkhjegckgmcaa", sum := "f92a4da2517b1b5a0207517b64dfa45f61a24b65d38b7db14e3bf96d48206a01", func := "sheave/sheavelaw44.UueLays", spec := "uueLays", unfollowed := true, recurses := true, apart := false, narrowed := true }
def UueLaysUptoSaid : Prop := uueLaysUptoRow.holds Try.pinned (OpenSpec.upto uueLaysSpec)

/-- 'sheavelaw44.UueReads', WHERE WHAT IT READS IS OF BULK AT MOST 1048576: true; the input reads as it did. -/
def uueReadsUptoRow : OpenClaim := { program := "ytlmkhjegckgmcaa", sum := "f92a4da2517b1b5a0207517b64dfa45f61a24b65d38b7db14e3bf96d48206a01", func := "sheave/sheavelaw44.UueReads", spec := "uueReads", inPlace := ["internal/bytealg.IndexByte", "internal/bytealg.Index"], unfollowed := true, recurses := true, named := ["internal/bytealg.MaxLen"], apart := false, narrowed := true }
def UueReadsUptoSaid : Prop := uueReadsUptoRow.holds Try.pinned (OpenSpec.upto uueReadsSpec)

/-- 'sheavelaw44.UueBack', WHERE WHAT IT READS IS OF BULK AT MOST 1048576: true; the input reads as it did. -/
def uueBackUptoRow : OpenClaim := { program := "ytlmkhjegckgmcaa", sum := "f92a4da2517b1b5a0207517b64dfa45f61a24b65d38b7db14e3bf96d48206a01", func := "sheave/sheavelaw44.UueBack", spec := "uueBack", inPlace := ["internal/bytealg.IndexByte", "internal/bytealg.Index"], unfollowed := true, recurses := true, named := ["internal/bytealg.MaxLen"], apart := false, narrowed := true }
def UueBackUptoSaid : Prop := uueBackUptoRow.holds Try.pinned (OpenSpec.upto uueBackSpec)

end Rows
end Go.Proofs.Ytlmkhjegckgmcaa
