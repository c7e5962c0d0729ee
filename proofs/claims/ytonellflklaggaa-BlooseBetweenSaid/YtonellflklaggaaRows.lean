/-
  No cell of these rows narrows 'for every input' (looked for: loops, veiled, ifaces, maps, wideKeys, modest, calm, conditions, laid).
  DERIVED. THE GIVEN ROWS OF THIS SEAT. 10 by the template 'for every input the law returns true; each argument reads behind the call as it read before'; 0 by the template 'total and deterministic' (their statements: YtonellflklaggaaTotals.lean).
  GIVEN WITH THE SEED: the statements are not yours to turn. If you find one false, say at which input.
  Laid BY PROGRAM, IN A SANDBOX (cutbox-rows.mjs): the forced cells as the released guide's own fill.sh prints them over the translation ba9afc5398de843a… (all of the seat's roots in one cut). By AI agents, Wed Nov 11 2026. No macro, syntax, notation, axiom, sorry.
-/
import Derived.Test.YtonellflklaggaaChecked
import GoSem.Claim
import GoSem.ClaimJoined
import GoSem.ClaimMapViews
import Derived.JoinedTies
import Derived.KernelRfl
namespace Go.Proofs.Ytonellflklaggaa
/- THE CELL 'sum', in the pinned program and in every row, IS THE sha256 OF THE DUMP (.gsa) THAT YtonellflklaggaaProg.lean LOADS. Nothing in Lean hashes anything: it is a label: what it is worth is what the hold of that sum in a sandbox is worth. -/
noncomputable def Try.pinned : Pinned := { name := "ytonellflklaggaa", sum := "ba9afc5398de843ab15f2d1c0eba69bebb12fa4a63c71bfd7a77968c2e3f300e", checked := Try.checked }
namespace Rows
def none {H : Type} : Left H := { results := [], args := [] }

/-- 'sheavelaw14.BcodeDigits': WHATEVER THE INPUT: true; the input reads as it did. -/
def bcodeDigitsSpec : ChangeSpec := { name := "bcodeDigits", fn := fun _ => fun
  | [d1, d2] => { results := [.lit (.bool true)], args := [d1, d2] }
  | _ => none }
def bcodeDigitsRow : OpenClaim := { program := "ytonellflklaggaa", sum := "ba9afc5398de843ab15f2d1c0eba69bebb12fa4a63c71bfd7a77968c2e3f300e", func := "sheave/sheavelaw14.BcodeDigits", spec := "bcodeDigits", inPlace := ["internal/bytealg.IndexByteString", "internal/bytealg.MakeNoZero"], apart := false }
def BcodeDigitsSaid : Prop := bcodeDigitsRow.holds Try.pinned (OpenSpec.ofChange bcodeDigitsSpec)

/-- ITS FALSE NEIGHBOUR: 'it returns false'. Refute it at one input. -/
def bcodeDigitsWrong : ChangeSpec := { name := "bcodeDigits", fn := fun _ => fun
  | [d1, d2] => { results := [.lit (.bool false)], args := [d1, d2] }
  | _ => none }
def BcodeDigitsWrongFalsely : Prop := bcodeDigitsRow.holds Try.pinned (OpenSpec.ofChange bcodeDigitsWrong)

/-- 'sheavelaw14.BcodeLays': WHATEVER THE INPUT: true; the input reads as it did. -/
def bcodeLaysSpec : ChangeSpec := { name := "bcodeLays", fn := fun _ => fun
  | [d] => { results := [.lit (.bool true)], args := [d] }
  | _ => none }
def bcodeLaysRow : OpenClaim := { program := "ytonellflklaggaa", sum := "ba9afc5398de843ab15f2d1c0eba69bebb12fa4a63c71bfd7a77968c2e3f300e", func := "sheave/sheavelaw14.BcodeLays", spec := "bcodeLays", inPlace := ["internal/bytealg.IndexByteString", "internal/bytealg.MakeNoZero"], apart := false }
def BcodeLaysSaid : Prop := bcodeLaysRow.holds Try.pinned (OpenSpec.ofChange bcodeLaysSpec)

/-- ITS FALSE NEIGHBOUR: 'it returns false'. Refute it at one input. -/
def bcodeLaysWrong : ChangeSpec := { name := "bcodeLays", fn := fun _ => fun
  | [d] => { results := [.lit (.bool false)], args := [d] }
  | _ => none }
def BcodeLaysWrongFalsely : Prop := bcodeLaysRow.holds Try.pinned (OpenSpec.ofChange bcodeLaysWrong)

/-- 'sheavelaw14.BcodeBack': WHATEVER THE INPUT: true; the input reads as it did. -/
def bcodeBackSpec : ChangeSpec := { name := "bcodeBack", fn := fun _ => fun
  | [d] => { results := [.lit (.bool true)], args := [d] }
  | _ => none }
def bcodeBackRow : OpenClaim := { program := "ytonellflklaggaa", sum := "ba9afc5398de843ab15f2d1c0eba69bebb12fa4a63c71bfd7a77968c2e3f300e", func := "sheave/sheavelaw14.BcodeBack", spec := "bcodeBack", inPlace := ["internal/bytealg.IndexByteString", "internal/bytealg.MakeNoZero"], apart := false }
def BcodeBackSaid : Prop := bcodeBackRow.holds Try.pinned (OpenSpec.ofChange bcodeBackSpec)

/-- ITS FALSE NEIGHBOUR: 'it returns false'. Refute it at one input. -/
def bcodeBackWrong : ChangeSpec := { name := "bcodeBack", fn := fun _ => fun
  | [d] => { results := [.lit (.bool false)], args := [d] }
  | _ => none }
def BcodeBackWrongFalsely : Prop := bcodeBackRow.holds Try.pinned (OpenSpec.ofChange bcodeBackWrong)

/-- 'sheavelaw14.BcodeReads': WHATEVER THE INPUT: true; the input reads as it did. -/
def bcodeReadsSpec : ChangeSpec := { name := "bcodeReads", fn := fun _ => fun
  | [d] => { results := [.lit (.bool true)], args := [d] }
  | _ => none }
def bcodeReadsRow : OpenClaim := { program := "ytonellflklaggaa", sum := "ba9afc5398de843ab15f2d1c0eba69bebb12fa4a63c71bfd7a77968c2e3f300e", func := "sheave/sheavelaw14.BcodeReads", spec := "bcodeReads", inPlace := ["internal/bytealg.IndexByteString", "internal/bytealg.MakeNoZero"], apart := false }
def BcodeReadsSaid : Prop := bcodeReadsRow.holds Try.pinned (OpenSpec.ofChange bcodeReadsSpec)

/-- ITS FALSE NEIGHBOUR: 'it returns false'. Refute it at one input. -/
def bcodeReadsWrong : ChangeSpec := { name := "bcodeReads", fn := fun _ => fun
  | [d] => { results := [.lit (.bool false)], args := [d] }
  | _ => none }
def BcodeReadsWrongFalsely : Prop := bcodeReadsRow.holds Try.pinned (OpenSpec.ofChange bcodeReadsWrong)

/-- 'sheavelaw15.BlooseStrict': WHATEVER THE INPUT: true; the input reads as it did. -/
def blooseStrictSpec : ChangeSpec := { name := "blooseStrict", fn := fun _ => fun
  | [d] => { results := [.lit (.bool true)], args := [d] }
  | _ => none }
def blooseStrictRow : OpenClaim := { program := "ytonellflklaggaa", sum := "ba9afc5398de843ab15f2d1c0eba69bebb12fa4a63c71bfd7a77968c2e3f300e", func := "sheave/sheavelaw15.BlooseStrict", spec := "blooseStrict", inPlace := ["internal/bytealg.IndexByteString", "internal/bytealg.MakeNoZero"], unfollowed := true, recurses := true, apart := false }
def BlooseStrictSaid : Prop := blooseStrictRow.holds Try.pinned (OpenSpec.ofChange blooseStrictSpec)

/-- ITS FALSE NEIGHBOUR: 'it returns false'. Refute it at one input. -/
def blooseStrictWrong : ChangeSpec := { name := "blooseStrict", fn := fun _ => fun
  | [d] => { results := [.lit (.bool false)], args := [d] }
  | _ => none }
def BlooseStrictWrongFalsely : Prop := blooseStrictRow.holds Try.pinned (OpenSpec.ofChange blooseStrictWrong)

/-- 'sheavelaw15.BlooseBetween': WHATEVER THE INPUT: true; the input reads as it did. -/
def blooseBetweenSpec : ChangeSpec := { name := "blooseBetween", fn := fun _ => fun
  | [d1, d2, d3] => { results := [.lit (.bool true)], args := [d1, d2, d3] }
  | _ => none }
def blooseBetweenRow : OpenClaim := { program := "ytonellflklaggaa", sum := "ba9afc5398de843ab15f2d1c0eba69bebb12fa4a63c71bfd7a77968c2e3f300e", func := "sheave/sheavelaw15.BlooseBetween", spec := "blooseBetween", inPlace := ["internal/bytealg.IndexByteString", "internal/bytealg.MakeNoZero"], unfollowed := true, recurses := true, apart := false }
def BlooseBetweenSaid : Prop := blooseBetweenRow.holds Try.pinned (OpenSpec.ofChange blooseBetweenSpec)

/-- ITS FALSE NEIGHBOUR: 'it returns false'. Refute it at one input. -/
def blooseBetweenWrong : ChangeSpec := { name := "blooseBetween", fn := fun _ => fun
  | [d1, d2, d3] => { results := [.lit (.bool false)], args := [d1, d2, d3] }
  | _ => none }
def BlooseBetweenWrongFalsely : Prop := blooseBetweenRow.holds Try.pinned (OpenSpec.ofChange blooseBetweenWrong)

/-- 'sheavelaw15.BlooseReads': WHATEVER THE INPUT: true; the input reads as it did. -/
def blooseReadsSpec : ChangeSpec := { name := "blooseReads", fn := fun _ => fun
  | [d] => { results := [.lit (.bool true)], args := [d] }
  | _ => none }
def blooseReadsRow : OpenClaim := { program := "ytonellflklaggaa", sum := "ba9afc5398de843ab15f2d1c0eba69bebb12fa4a63c71bfd7a77968c2e3f300e", func := "sheave/sheavelaw15.BlooseReads", spec := "blooseReads", inPlace := ["internal/bytealg.IndexByteString", "internal/bytealg.MakeNoZero"], unfollowed := true, recurses := true, apart := false }
def BlooseReadsSaid : Prop := blooseReadsRow.holds Try.pinned (OpenSpec.ofChange blooseReadsSpec)

/-- ITS FALSE NEIGHBOUR: 'it returns false'. Refute it at one input. -/
def blooseReadsWrong : ChangeSpec := { name := "blooseReads", fn := fun _ => fun
  | [d] => { results := [.lit (.bool false)], args := [d] }
  | _ => none }
def BlooseReadsWrongFalsely : Prop := blooseReadsRow.holds Try.pinned (OpenSpec.ofChange blooseReadsWrong)

/-- 'sheavelaw17.BmodLays': WHATEVER THE INPUT: true; the input reads as it did. -/
def bmodLaysSpec : ChangeSpec := { name := "bmodLays", fn := fun _ => fun
  | [d1, d2, d3] => { results := [.lit (.bool true)], args := [d1, d2, d3] }
  | _ => none }
def bmodLaysRow : OpenClaim := { program := "ytonellflklaggaa", sum := "ba9afc5398de843ab15f2d1c0eba69bebb12fa4a63c71bfd7a77968c2e3f300e", func := "sheave/sheavelaw17.BmodLays", spec := "bmodLays", inPlace := ["internal/bytealg.IndexByteString"], unfollowed := true, recurses := true, apart := false }
def BmodLaysSaid : Prop := bmodLaysRow.holds Try.pinned (OpenSpec.ofChange bmodLaysSpec)

/-- ITS FALSE NEIGHBOUR: 'it returns false'. Refute it at one input. -/
def bmodLaysWrong : ChangeSpec := { name := "bmodLays", fn := fun _ => fun
  | [d1, d2, d3] => { results := [.lit (.bool false)], args := [d1, d2, d3] }
  | _ => none }
def BmodLaysWrongFalsely : Prop := bmodLaysRow.holds Try.pinned (OpenSpec.ofChange bmodLaysWrong)

/-- 'sheavelaw17.BmodReads': WHATEVER THE INPUT: true; the input reads as it did. -/
def bmodReadsSpec : ChangeSpec := { name := "bmodReads", fn := fun _ => fun
  | [d] => { results := [.lit (.bool true)], args := [d] }
  | _ => none }
def bmodReadsRow : OpenClaim := { program := "ytonellflklaggaa", sum := "ba9afc5398de843ab15f2d1c0eba69bebb12fa4a63c71bfd7a77968c2e3f300e", func := "sheave/sheavelaw17.BmodReads", spec := "bmodReads", inPlace := ["internal/bytealg.IndexByteString"], unfollowed := true, recurses := true, apart := false }
def BmodReadsSaid : Prop := bmodReadsRow.holds Try.pinned (OpenSpec.ofChange bmodReadsSpec)

/-- ITS FALSE NEIGHBOUR: 'it returns false'. Refute it at one input. -/
def bmodReadsWrong : ChangeSpec := { name := "bmodReads", fn := fun _ => fun
  | [d] => { results := [.lit (.bool false)], args := [d] }
  | _ => none }
def BmodReadsWrongFalsely : Prop := bmodReadsRow.holds Try.pinned (OpenSpec.ofChange bmodReadsWrong)

/-- 'sheavelaw17.BmodBack': WHATEVER THE INPUT: true; the input reads as it did. -/
def bmodBackSpec : ChangeSpec := { name := "bmodBack", fn := fun _ => fun
  | [d] => { results := [.lit (.bool true)], args := [d] }
  | _ => none }
def bmodBackRow : OpenClaim := { program := "ytonellflklaggaa", sum := "ba9afc5398de843ab15f2d1c0eba69bebb12fa4a63c71bfd7a77968c2e3f300e", func := "sheave/sheavelaw17.BmodBack", spec := "bmodBack", inPlace := ["internal/bytealg.IndexByteString"], unfollowed := true, recurses := true, apart := false }
def BmodBackSaid : Prop := bmodBackRow.holds Try.pinned (OpenSpec.ofChange bmodBackSpec)

/-- ITS FALSE NEIGHBOUR: 'it returns false'. Refute it at one input. -/
def bmodBackWrong : ChangeSpec := { name := "bmodBack", fn := fun _ => fun
  | [d] => { results := [.lit (.bool false)], args := [d] }
  | _ => none }
def BmodBackWrongFalsely : Prop := bmodBackRow.holds Try.pinned (OpenSpec.ofChange bmodBackWrong)

/- THE SECOND FORM. 'bulk': how many values and letters a reading holds, each counted each time it is reached (what is shared counts as often as it is met; a slice's spare places count too). A statement '..UptoSaid' is the law's where the arguments, and the package variables that the reading takes, are together of bulk at most 1048576: NARROWER than '..Said'. Prove '..Said' where nothing that the law and all that it calls make is longer than what came in: it says more and counts as full. Else prove '..UptoSaid'. A law counts once. -/
mutual
def uptoBulk {H : Type} : DataW H → Nat
  | .lit (.string bytes) => bytes.length + 1
  | .lit _ => 1
  | .nil => 1
  | .ptr d => uptoBulk d + 1
  | .slice elems spare => uptoBulkAll elems + uptoBulkAll spare + 1
  | .agg parts => uptoBulkAll parts + 1
  | .iface _ d => uptoBulk d + 1
  | .map entries => uptoBulkEntries entries + 1
  | .held _ => 1
def uptoBulkAll {H : Type} : List (DataW H) → Nat
  | [] => 0
  | d :: r => uptoBulk d + uptoBulkAll r
def uptoBulkEntries {H : Type} : List (Lit × DataW H) → Nat
  | [] => 0
  | x :: r => uptoBulkEntry x + uptoBulkEntries r
def uptoBulkEntry {H : Type} : Lit × DataW H → Nat
  | (.string bytes, d) => bytes.length + uptoBulk d + 1
  | (_, d) => uptoBulk d + 1
 end
def uptoSmall : (H : Type) → List (DataW H) → Bool := fun _ ds => decide (uptoBulkAll ds ≤ 1048576)
def OpenSpec.upto (s : _root_.Go.ChangeSpec) : _root_.Go.OpenSpec := { _root_.Go.OpenSpec.ofChange s with cond := some uptoSmall }

/-- 'sheavelaw14.BcodeDigits', WHERE WHAT IT READS IS OF BULK AT MOST 1048576: true; the input reads as it did. -/
def bcodeDigitsUptoRow : OpenClaim := { program := "ytonellflklaggaa", sum := "ba9afc5398de843ab15f2d1c0eba69bebb12fa4a63c71bfd7a77968c2e3f300e", func := "sheave/sheavelaw14.BcodeDigits", spec := "bcodeDigits", inPlace := ["internal/bytealg.IndexByteString", "internal/bytealg.MakeNoZero"], apart := false, narrowed := true }
def BcodeDigitsUptoSaid : Prop := bcodeDigitsUptoRow.holds Try.pinned (OpenSpec.upto bcodeDigitsSpec)

/-- 'sheavelaw14.BcodeLays', WHERE WHAT IT READS IS OF BULK AT MOST 1048576: true; the input reads as it did. -/
def bcodeLaysUptoRow : OpenClaim := { program := "ytonellflklaggaa", sum := "ba9afc5398de843ab15f2d1c0eba69bebb12fa4a63c71bfd7a77968c2e3f300e", func := "sheave/sheavelaw14.BcodeLays", spec := "bcodeLays", inPlace := ["internal/bytealg.IndexByteString", "internal/bytealg.MakeNoZero"], apart := false, narrowed := true }
def BcodeLaysUptoSaid : Prop := bcodeLaysUptoRow.holds Try.pinned (OpenSpec.upto bcodeLaysSpec)

/-- 'sheavelaw14.BcodeBack', WHERE WHAT IT READS IS OF BULK AT MOST 1048576: true; the input reads as it did. -/
def bcodeBackUptoRow : OpenClaim := { program := "ytonellflklaggaa", sum := "ba9afc5398de843ab15f2d1c0eba69bebb12fa4a63c71bfd7a77968c2e3f300e", func := "sheave/sheavelaw14.BcodeBack", spec := "bcodeBack", inPlace := ["internal/bytealg.IndexByteString", "internal/bytealg.MakeNoZero"], apart := false, narrowed := true }
def BcodeBackUptoSaid : Prop := bcodeBackUptoRow.holds Try.pinned (OpenSpec.upto bcodeBackSpec)

/-- 'sheavelaw14.BcodeReads', WHERE WHAT IT READS IS OF BULK AT MOST 1048576: true; the input reads as it did. -/
def bcodeReadsUptoRow : OpenClaim := { program := "ytonellflklaggaa", sum := "ba9afc5398de843ab15f2d1c0eba69bebb12fa4a63c71bfd7a77968c2e3f300e", func := "sheave/sheavelaw14.BcodeReads", spec := "bcodeReads", inPlace := ["internal/bytealg.IndexByteString", "internal/bytealg.MakeNoZero"], apart := false, narrowed := true }
def BcodeReadsUptoSaid : Prop := bcodeReadsUptoRow.holds Try.pinned (OpenSpec.upto bcodeReadsSpec)

/-- 'sheavelaw15.BlooseStrict', WHERE WHAT IT READS IS OF BULK AT MOST 1048576: true; the input reads as it did. -/
def blooseStrictUptoRow : OpenClaim := { program := "ytonellflklaggaa", sum := "ba9afc5398de843ab15f2d1c0eba69bebb12fa4a63c71bfd7a77968c2e3f300e", func := "sheave/sheavelaw15.BlooseStrict", spec := "blooseStrict", inPlace := ["internal/bytealg.IndexByteString", "internal/bytealg.MakeNoZero"], unfollowed := true, recurses := true, apart := false, narrowed := true }
def BlooseStrictUptoSaid : Prop := blooseStrictUptoRow.holds Try.pinned (OpenSpec.upto blooseStrictSpec)

/-- 'sheavelaw15.BlooseBetween', WHERE WHAT IT READS IS OF BULK AT MOST 1048576: true; the input reads as it did. -/
def blooseBetweenUptoRow : OpenClaim := { program := "ytonellflklaggaa", sum := "ba9afc5398de843ab15f2d1c0eba69bebb12fa4a63c71bfd7a77968c2e3f300e", func := "sheave/sheavelaw15.BlooseBetween", spec := "blooseBetween", inPlace := ["internal/bytealg.IndexByteString", "internal/bytealg.MakeNoZero"], unfollowed := true, recurses := true, apart := false, narrowed := true }
def BlooseBetweenUptoSaid : Prop := blooseBetweenUptoRow.holds Try.pinned (OpenSpec.upto blooseBetweenSpec)

/-- 'sheavelaw15.BlooseReads', WHERE WHAT IT READS IS OF BULK AT MOST 1048576: true; the input reads as it did. -/
def blooseReadsUptoRow : OpenClaim := { program := "ytonellflklaggaa", sum := "ba9afc5398de843ab15f2d1c0eba69bebb12fa4a63c71bfd7a77968c2e3f300e", func := "sheave/sheavelaw15.BlooseReads", spec := "blooseReads", inPlace := ["internal/bytealg.IndexByteString", "internal/bytealg.MakeNoZero"], unfollowed := true, recurses := true, apart := false, narrowed := true }
def BlooseReadsUptoSaid : Prop := blooseReadsUptoRow.holds Try.pinned (OpenSpec.upto blooseReadsSpec)

/-- 'sheavelaw17.BmodLays', WHERE WHAT IT READS IS OF BULK AT MOST 1048576: true; the input reads as it did. -/
def bmodLaysUptoRow : OpenClaim := { program := "ytonellflklaggaa", sum := "ba9afc5398de843ab15f2d1c0eba69bebb12fa4a63c71bfd7a77968c2e3f300e", func := "sheave/sheavelaw17.BmodLays", spec := "bmodLays", inPlace := ["internal/bytealg.IndexByteString"], unfollowed := true, recurses := true, apart := false, narrowed := true }
def BmodLaysUptoSaid : Prop := bmodLaysUptoRow.holds Try.pinned (OpenSpec.upto bmodLaysSpec)

/-- 'sheavelaw17.BmodReads', WHERE WHAT IT READS IS OF BULK AT MOST 1048576: true; the input reads as it did. -/
def bmodReadsUptoRow : OpenClaim := { program := "ytonellflklaggaa", sum := "ba9afc5398de843ab15f2d1c0eba69bebb12fa4a63c71bfd7a77968c2e3f300e", func := "sheave/sheavelaw17.BmodReads", spec := "bmodReads", inPlace := ["internal/bytealg.IndexByteString"], unfollowed := true, recurses := true, apart := false, narrowed := true }
def BmodReadsUptoSaid : Prop := bmodReadsUptoRow.holds Try.pinned (OpenSpec.upto bmodReadsSpec)

/-- 'sheavelaw17.BmodBack', WHERE WHAT IT READS IS OF BULK AT MOST 1048576: true; the input reads as it did. -/
def bmodBackUptoRow : OpenClaim := { program := "ytonellflklaggaa", sum := "ba9afc5398de843ab15f2d1c0eba69bebb12fa4a63c71bfd7a77968c2e3f300e", func := "sheave/sheavelaw17.BmodBack", spec := "bmodBack", inPlace := ["internal/bytealg.IndexByteString"], unfollowed := true, recurses := true, apart := false, narrowed := true }
def BmodBackUptoSaid : Prop := bmodBackUptoRow.holds Try.pinned (OpenSpec.upto bmodBackSpec)

end Rows
end Go.Proofs.Ytonellflklaggaa
