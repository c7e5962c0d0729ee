/-
  DERIVED. GIVEN WITH THE SEED: THE CARDS: each row of YtkphnhbblbamgaaDoorRows.lean that lists a variable, with what it lists TIED to the program's text (the seventh form; the later family's looks); each row that meets fmt, with fmt's text TOLD by the authors' own Lean function (tested against real Go, not proved from fmt's source: count such statements apart). THE CARD IS WHAT COUNTS. Prove the row's statement (the work); the ties are given (YtkphnhbblbamgaaDoorTie.lean); close each card by the builder's one call (the guide's Derived/Test/ToyasCard.lean, 'card_holds'). Laid BY PROGRAM, IN A SANDBOX (cutbox-door.mjs). By AI agents, Wed Nov 11 2026. No macro, syntax, notation, axiom, sorry.
-/
import Derived.Test.YtkphnhbblbamgaaDoorRows
import GoSem.ClaimSeven
namespace Go.Proofs.YtkphnhbblbamgaaDoor
namespace Rows

/-- THE TIED CARD OF 'sheavelaw01.OctetKinds'. -/
def octetKindsCard : Claim7 := { stood := { row := octetKindsRow, standIns := [], harness := (true, "48254489d714e377445bbf82eabec5a2eece98aae55e7004d12e56f27e2a3211"), looks := false }, kinds := [], alts := [], laidByText := true, laidKinds := [.data, .pinned], laidTests := true, laidLooks := .later }
def OctetKindsCardSaid : Prop := Claim7.holds Tryd.pinned (.plain (OpenSpec.ofChange octetKindsSpec)) octetKindsCard

/-- THE TIED CARD OF 'sheavelaw01.OctetTexts'. -/
def octetTextsCard : Claim7 := { stood := { row := octetTextsRow, standIns := [], harness := (true, "48254489d714e377445bbf82eabec5a2eece98aae55e7004d12e56f27e2a3211"), looks := false }, kinds := [], alts := [], laidByText := true, laidKinds := [.data, .pinned], laidTests := true, laidLooks := .later }
def OctetTextsCardSaid : Prop := Claim7.holds Tryd.pinned (.plain (OpenSpec.ofChange octetTextsSpec)) octetTextsCard

/-- THE TIED CARD OF 'sheavelaw01.OctetSame'. -/
def octetSameCard : Claim7 := { stood := { row := octetSameRow, standIns := [], harness := (true, "48254489d714e377445bbf82eabec5a2eece98aae55e7004d12e56f27e2a3211"), looks := false }, kinds := [], alts := [], laidByText := true, laidKinds := [.data, .pinned], laidTests := true, laidLooks := .later }
def OctetSameCardSaid : Prop := Claim7.holds Tryd.pinned (.plain (OpenSpec.ofChange octetSameSpec)) octetSameCard

/-- THE TIED CARD OF 'sheavelaw01.OctetParts'. -/
def octetPartsCard : Claim7 := { stood := { row := octetPartsRow, standIns := [], harness := (true, "48254489d714e377445bbf82eabec5a2eece98aae55e7004d12e56f27e2a3211"), looks := false }, kinds := [], alts := [], laidByText := true, laidKinds := [.data, .pinned], laidTests := true, laidLooks := .later }
def OctetPartsCardSaid : Prop := Claim7.holds Tryd.pinned (.plain (OpenSpec.ofChange octetPartsSpec)) octetPartsCard

/-- THE TIED CARD OF 'sheavelaw11.LabelFinds'. -/
def labelFindsCard : Claim7 := { stood := { row := labelFindsRow, standIns := [], harness := (true, "48254489d714e377445bbf82eabec5a2eece98aae55e7004d12e56f27e2a3211"), looks := false }, kinds := [], alts := [], laidByText := true, laidKinds := [.data, .pinned], laidTests := true, laidLooks := .later }
def LabelFindsCardSaid : Prop := Claim7.holds Tryd.pinned (.plain (OpenSpec.ofChange labelFindsSpec)) labelFindsCard

/-- THE TIED CARD OF 'sheavelaw11.LabelLeads'. -/
def labelLeadsCard : Claim7 := { stood := { row := labelLeadsRow, standIns := [], harness := (true, "48254489d714e377445bbf82eabec5a2eece98aae55e7004d12e56f27e2a3211"), looks := false }, kinds := [], alts := [], laidByText := true, laidKinds := [.data, .pinned], laidTests := true, laidLooks := .later }
def LabelLeadsCardSaid : Prop := Claim7.holds Tryd.pinned (.plain (OpenSpec.ofChange labelLeadsSpec)) labelLeadsCard

/-- THE SECOND FORM's CARD OF 'sheavelaw01.OctetKinds'. -/
def octetKindsUptoCard : Claim7 := { stood := { row := octetKindsUptoRow, standIns := [], harness := (true, "48254489d714e377445bbf82eabec5a2eece98aae55e7004d12e56f27e2a3211"), looks := false }, kinds := [], alts := [], laidByText := true, laidKinds := [.data, .pinned], laidTests := true, laidLooks := .later }
def OctetKindsUptoCardSaid : Prop := Claim7.holds Tryd.pinned (.plain (OpenSpec.upto octetKindsSpec)) octetKindsUptoCard

/-- THE SECOND FORM's CARD OF 'sheavelaw01.OctetTexts'. -/
def octetTextsUptoCard : Claim7 := { stood := { row := octetTextsUptoRow, standIns := [], harness := (true, "48254489d714e377445bbf82eabec5a2eece98aae55e7004d12e56f27e2a3211"), looks := false }, kinds := [], alts := [], laidByText := true, laidKinds := [.data, .pinned], laidTests := true, laidLooks := .later }
def OctetTextsUptoCardSaid : Prop := Claim7.holds Tryd.pinned (.plain (OpenSpec.upto octetTextsSpec)) octetTextsUptoCard

/-- THE SECOND FORM's CARD OF 'sheavelaw01.OctetSame'. -/
def octetSameUptoCard : Claim7 := { stood := { row := octetSameUptoRow, standIns := [], harness := (true, "48254489d714e377445bbf82eabec5a2eece98aae55e7004d12e56f27e2a3211"), looks := false }, kinds := [], alts := [], laidByText := true, laidKinds := [.data, .pinned], laidTests := true, laidLooks := .later }
def OctetSameUptoCardSaid : Prop := Claim7.holds Tryd.pinned (.plain (OpenSpec.upto octetSameSpec)) octetSameUptoCard

/-- THE SECOND FORM's CARD OF 'sheavelaw01.OctetParts'. -/
def octetPartsUptoCard : Claim7 := { stood := { row := octetPartsUptoRow, standIns := [], harness := (true, "48254489d714e377445bbf82eabec5a2eece98aae55e7004d12e56f27e2a3211"), looks := false }, kinds := [], alts := [], laidByText := true, laidKinds := [.data, .pinned], laidTests := true, laidLooks := .later }
def OctetPartsUptoCardSaid : Prop := Claim7.holds Tryd.pinned (.plain (OpenSpec.upto octetPartsSpec)) octetPartsUptoCard

/-- THE SECOND FORM's CARD OF 'sheavelaw11.LabelFinds'. -/
def labelFindsUptoCard : Claim7 := { stood := { row := labelFindsUptoRow, standIns := [], harness := (true, "48254489d714e377445bbf82eabec5a2eece98aae55e7004d12e56f27e2a3211"), looks := false }, kinds := [], alts := [], laidByText := true, laidKinds := [.data, .pinned], laidTests := true, laidLooks := .later }
def LabelFindsUptoCardSaid : Prop := Claim7.holds Tryd.pinned (.plain (OpenSpec.upto labelFindsSpec)) labelFindsUptoCard

/-- THE SECOND FORM's CARD OF 'sheavelaw11.LabelLeads'. -/
def labelLeadsUptoCard : Claim7 := { stood := { row := labelLeadsUptoRow, standIns := [], harness := (true, "48254489d714e377445bbf82eabec5a2eece98aae55e7004d12e56f27e2a3211"), looks := false }, kinds := [], alts := [], laidByText := true, laidKinds := [.data, .pinned], laidTests := true, laidLooks := .later }
def LabelLeadsUptoCardSaid : Prop := Claim7.holds Tryd.pinned (.plain (OpenSpec.upto labelLeadsSpec)) labelLeadsUptoCard
end Rows
end Go.Proofs.YtkphnhbblbamgaaDoor
