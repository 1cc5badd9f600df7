/-
  DERIVED. GIVEN WITH THE SEED: THE CARDS: each row of YtajmdpndbfmdmaaDoorRows.lean that lists a variable, with what it lists TIED to the program's text (the seventh form; the later family's looks); each row that meets fmt, with fmt's text TOLD by the authors' own Lean function (tested against real Go, not proved from fmt's source: count such statements apart). THE CARD IS WHAT COUNTS. Prove the row's statement (the work); the ties are given (YtajmdpndbfmdmaaDoorTie.lean); close each card by the builder's one call (the guide's Derived/Test/ToyasCard.lean, 'card_holds'). Laid BY PROGRAM, IN A SANDBOX (cutbox-door.mjs). By AI agents, Wed Nov 11 2026. No macro, syntax, notation, axiom, sorry.
-/
import Derived.Test.YtajmdpndbfmdmaaDoorRows
import GoSem.ClaimSeven
namespace Go.Proofs.YtajmdpndbfmdmaaDoor
namespace Rows

/-- THE TIED CARD OF 'bailifflaw07.ValueTwos'. -/
def valueTwosCard : Claim7 := { stood := { row := valueTwosRow, standIns := [], harness := (true, "bf0c239a59af7fd1b4217d4c7158331c6bb4c43959e05ed8ca085b2f4b88c94c"), looks := false }, kinds := [], alts := [], laidByText := true, laidKinds := [.data, .pinned], laidTests := true, laidLooks := .later }
def ValueTwosCardSaid : Prop := Claim7.holds Tryd.pinned (.plain (OpenSpec.ofChange valueTwosSpec)) valueTwosCard

/-- THE TIED CARD OF 'bailifflaw02.StrPlaces'. -/
def strPlacesCard : Claim7 := { stood := { row := strPlacesRow, standIns := [], harness := (true, "bf0c239a59af7fd1b4217d4c7158331c6bb4c43959e05ed8ca085b2f4b88c94c"), looks := false }, kinds := [], alts := [], laidByText := true, laidKinds := [.data, .pinned], laidTests := true, laidLooks := .later }
def StrPlacesCardSaid : Prop := Claim7.holds Tryd.pinned (.plain (OpenSpec.ofChange strPlacesSpec)) strPlacesCard

/-- THE TIED CARD OF 'bailifflaw02.StrParts'. -/
def strPartsCard : Claim7 := { stood := { row := strPartsRow, standIns := [], harness := (true, "bf0c239a59af7fd1b4217d4c7158331c6bb4c43959e05ed8ca085b2f4b88c94c"), looks := false }, kinds := [], alts := [], laidByText := true, laidKinds := [.data, .pinned], laidTests := true, laidLooks := .later }
def StrPartsCardSaid : Prop := Claim7.holds Tryd.pinned (.plain (OpenSpec.ofChange strPartsSpec)) strPartsCard

/-- THE TIED CARD OF 'bailifflaw03.LexTokens'. -/
def lexTokensCard : Claim7 := { stood := { row := lexTokensRow, standIns := [], harness := (true, "bf0c239a59af7fd1b4217d4c7158331c6bb4c43959e05ed8ca085b2f4b88c94c"), looks := false }, kinds := [], alts := [], laidByText := true, laidKinds := [.data, .data, .data], laidTests := true, laidLooks := .later }
def LexTokensCardSaid : Prop := Claim7.holds Tryd.pinned (.plain (OpenSpec.ofChange lexTokensSpec)) lexTokensCard

/-- THE TIED CARD OF 'bailifflaw01.NumTexts'. -/
def numTextsCard : Claim7 := { stood := { row := numTextsRow, standIns := [], harness := (true, "bf0c239a59af7fd1b4217d4c7158331c6bb4c43959e05ed8ca085b2f4b88c94c"), looks := false }, kinds := [], alts := [], laidByText := true, laidKinds := [.data, .data, .data, .data, .pinned], laidTests := true, laidLooks := .later }
def NumTextsCardSaid : Prop := Claim7.holds Tryd.pinned (.plain (OpenSpec.ofChange numTextsSpec)) numTextsCard

/-- THE TIED CARD OF 'bailifflaw01.NumAgain'. -/
def numAgainCard : Claim7 := { stood := { row := numAgainRow, standIns := [], harness := (true, "bf0c239a59af7fd1b4217d4c7158331c6bb4c43959e05ed8ca085b2f4b88c94c"), looks := false }, kinds := [], alts := [], laidByText := true, laidKinds := [.data, .data, .data, .data, .pinned], laidTests := true, laidLooks := .later }
def NumAgainCardSaid : Prop := Claim7.holds Tryd.pinned (.plain (OpenSpec.ofChange numAgainSpec)) numAgainCard

/-- THE TIED CARD OF 'bailifflaw03.LexTexts'. -/
def lexTextsCard : Claim7 := { stood := { row := lexTextsRow, standIns := [], harness := (true, "bf0c239a59af7fd1b4217d4c7158331c6bb4c43959e05ed8ca085b2f4b88c94c"), looks := false }, kinds := [], alts := [], laidByText := true, laidKinds := [.data, .pinned], laidTests := true, laidLooks := .later }
def LexTextsCardSaid : Prop := Claim7.holds Tryd.pinned (.plain (OpenSpec.ofChange lexTextsSpec)) lexTextsCard

/-- THE TIED CARD OF 'bailifflaw03.LexOne'. -/
def lexOneCard : Claim7 := { stood := { row := lexOneRow, standIns := [], harness := (true, "bf0c239a59af7fd1b4217d4c7158331c6bb4c43959e05ed8ca085b2f4b88c94c"), looks := false }, kinds := [], alts := [], laidByText := true, laidKinds := [.data, .pinned], laidTests := true, laidLooks := .later }
def LexOneCardSaid : Prop := Claim7.holds Tryd.pinned (.plain (OpenSpec.ofChange lexOneSpec)) lexOneCard

/-- THE TIED CARD OF 'bailifflaw02.StrNames'. -/
def strNamesCard : Claim7 := { stood := { row := strNamesRow, standIns := [], harness := (true, "bf0c239a59af7fd1b4217d4c7158331c6bb4c43959e05ed8ca085b2f4b88c94c"), looks := false }, kinds := [], alts := [], laidByText := true, laidKinds := [.data, .pinned], laidTests := true, laidLooks := .later }
def StrNamesCardSaid : Prop := Claim7.holds Tryd.pinned (.plain (OpenSpec.ofChange strNamesSpec)) strNamesCard

/-- THE TIED CARD OF 'bailifflaw07.ValueSame'. -/
def valueSameCard : Claim7 := { stood := { row := valueSameRow, standIns := [], harness := (true, "bf0c239a59af7fd1b4217d4c7158331c6bb4c43959e05ed8ca085b2f4b88c94c"), looks := false }, kinds := [], alts := [], laidByText := true, laidKinds := [.data, .data, .data, .data, .pinned], laidTests := true, laidLooks := .later }
def ValueSameCardSaid : Prop := Claim7.holds Tryd.pinned (.plain (OpenSpec.ofChange valueSameSpec)) valueSameCard

/-- THE TIED CARD OF 'bailifflaw01.NumNames'. -/
def numNamesCard : Claim7 := { stood := { row := numNamesRow, standIns := [], harness := (true, "bf0c239a59af7fd1b4217d4c7158331c6bb4c43959e05ed8ca085b2f4b88c94c"), looks := false }, kinds := [], alts := [], laidByText := true, laidKinds := [.data, .data, .data, .data, .pinned], laidTests := true, laidLooks := .later }
def NumNamesCardSaid : Prop := Claim7.holds Tryd.pinned (.plain (OpenSpec.ofChange numNamesSpec)) numNamesCard

/-- THE TIED CARD OF 'bailifflaw07.ValueNames'. -/
def valueNamesCard : Claim7 := { stood := { row := valueNamesRow, standIns := [], harness := (true, "bf0c239a59af7fd1b4217d4c7158331c6bb4c43959e05ed8ca085b2f4b88c94c"), looks := false }, kinds := [], alts := [], laidByText := true, laidKinds := [.data, .data, .data, .data, .pinned], laidTests := true, laidLooks := .later }
def ValueNamesCardSaid : Prop := Claim7.holds Tryd.pinned (.plain (OpenSpec.ofChange valueNamesSpec)) valueNamesCard

/-- THE TIED CARD OF 'bailifflaw03.LexNames'. -/
def lexNamesCard : Claim7 := { stood := { row := lexNamesRow, standIns := [], harness := (true, "bf0c239a59af7fd1b4217d4c7158331c6bb4c43959e05ed8ca085b2f4b88c94c"), looks := false }, kinds := [], alts := [], laidByText := true, laidKinds := [.data, .data, .data, .data, .pinned], laidTests := true, laidLooks := .later }
def LexNamesCardSaid : Prop := Claim7.holds Tryd.pinned (.plain (OpenSpec.ofChange lexNamesSpec)) lexNamesCard

/-- THE TIED CARD OF 'bailifflaw03.LexBack'. -/
def lexBackCard : Claim7 := { stood := { row := lexBackRow, standIns := [], harness := (true, "bf0c239a59af7fd1b4217d4c7158331c6bb4c43959e05ed8ca085b2f4b88c94c"), looks := false }, kinds := [], alts := [], laidByText := true, laidKinds := [.data, .data, .data, .data, .pinned], laidTests := true, laidLooks := .later }
def LexBackCardSaid : Prop := Claim7.holds Tryd.pinned (.plain (OpenSpec.ofChange lexBackSpec)) lexBackCard

/-- THE TIED CARD OF 'bailifflaw03.LexSpaces'. -/
def lexSpacesCard : Claim7 := { stood := { row := lexSpacesRow, standIns := [], harness := (true, "bf0c239a59af7fd1b4217d4c7158331c6bb4c43959e05ed8ca085b2f4b88c94c"), looks := false }, kinds := [], alts := [], laidByText := true, laidKinds := [.data, .data, .data, .data, .pinned], laidTests := true, laidLooks := .later }
def LexSpacesCardSaid : Prop := Claim7.holds Tryd.pinned (.plain (OpenSpec.ofChange lexSpacesSpec)) lexSpacesCard

/-- THE SECOND FORM's CARD OF 'bailifflaw07.ValueTwos'. -/
def valueTwosUptoCard : Claim7 := { stood := { row := valueTwosUptoRow, standIns := [], harness := (true, "bf0c239a59af7fd1b4217d4c7158331c6bb4c43959e05ed8ca085b2f4b88c94c"), looks := false }, kinds := [], alts := [], laidByText := true, laidKinds := [.data, .pinned], laidTests := true, laidLooks := .later }
def ValueTwosUptoCardSaid : Prop := Claim7.holds Tryd.pinned (.plain (OpenSpec.upto valueTwosSpec)) valueTwosUptoCard

/-- THE SECOND FORM's CARD OF 'bailifflaw02.StrPlaces'. -/
def strPlacesUptoCard : Claim7 := { stood := { row := strPlacesUptoRow, standIns := [], harness := (true, "bf0c239a59af7fd1b4217d4c7158331c6bb4c43959e05ed8ca085b2f4b88c94c"), looks := false }, kinds := [], alts := [], laidByText := true, laidKinds := [.data, .pinned], laidTests := true, laidLooks := .later }
def StrPlacesUptoCardSaid : Prop := Claim7.holds Tryd.pinned (.plain (OpenSpec.upto strPlacesSpec)) strPlacesUptoCard

/-- THE SECOND FORM's CARD OF 'bailifflaw02.StrParts'. -/
def strPartsUptoCard : Claim7 := { stood := { row := strPartsUptoRow, standIns := [], harness := (true, "bf0c239a59af7fd1b4217d4c7158331c6bb4c43959e05ed8ca085b2f4b88c94c"), looks := false }, kinds := [], alts := [], laidByText := true, laidKinds := [.data, .pinned], laidTests := true, laidLooks := .later }
def StrPartsUptoCardSaid : Prop := Claim7.holds Tryd.pinned (.plain (OpenSpec.upto strPartsSpec)) strPartsUptoCard

/-- THE SECOND FORM's CARD OF 'bailifflaw03.LexTokens'. -/
def lexTokensUptoCard : Claim7 := { stood := { row := lexTokensUptoRow, standIns := [], harness := (true, "bf0c239a59af7fd1b4217d4c7158331c6bb4c43959e05ed8ca085b2f4b88c94c"), looks := false }, kinds := [], alts := [], laidByText := true, laidKinds := [.data, .data, .data], laidTests := true, laidLooks := .later }
def LexTokensUptoCardSaid : Prop := Claim7.holds Tryd.pinned (.plain (OpenSpec.upto lexTokensSpec)) lexTokensUptoCard

/-- THE SECOND FORM's CARD OF 'bailifflaw01.NumTexts'. -/
def numTextsUptoCard : Claim7 := { stood := { row := numTextsUptoRow, standIns := [], harness := (true, "bf0c239a59af7fd1b4217d4c7158331c6bb4c43959e05ed8ca085b2f4b88c94c"), looks := false }, kinds := [], alts := [], laidByText := true, laidKinds := [.data, .data, .data, .data, .pinned], laidTests := true, laidLooks := .later }
def NumTextsUptoCardSaid : Prop := Claim7.holds Tryd.pinned (.plain (OpenSpec.upto numTextsSpec)) numTextsUptoCard

/-- THE SECOND FORM's CARD OF 'bailifflaw01.NumAgain'. -/
def numAgainUptoCard : Claim7 := { stood := { row := numAgainUptoRow, standIns := [], harness := (true, "bf0c239a59af7fd1b4217d4c7158331c6bb4c43959e05ed8ca085b2f4b88c94c"), looks := false }, kinds := [], alts := [], laidByText := true, laidKinds := [.data, .data, .data, .data, .pinned], laidTests := true, laidLooks := .later }
def NumAgainUptoCardSaid : Prop := Claim7.holds Tryd.pinned (.plain (OpenSpec.upto numAgainSpec)) numAgainUptoCard

/-- THE SECOND FORM's CARD OF 'bailifflaw03.LexTexts'. -/
def lexTextsUptoCard : Claim7 := { stood := { row := lexTextsUptoRow, standIns := [], harness := (true, "bf0c239a59af7fd1b4217d4c7158331c6bb4c43959e05ed8ca085b2f4b88c94c"), looks := false }, kinds := [], alts := [], laidByText := true, laidKinds := [.data, .pinned], laidTests := true, laidLooks := .later }
def LexTextsUptoCardSaid : Prop := Claim7.holds Tryd.pinned (.plain (OpenSpec.upto lexTextsSpec)) lexTextsUptoCard

/-- THE SECOND FORM's CARD OF 'bailifflaw03.LexOne'. -/
def lexOneUptoCard : Claim7 := { stood := { row := lexOneUptoRow, standIns := [], harness := (true, "bf0c239a59af7fd1b4217d4c7158331c6bb4c43959e05ed8ca085b2f4b88c94c"), looks := false }, kinds := [], alts := [], laidByText := true, laidKinds := [.data, .pinned], laidTests := true, laidLooks := .later }
def LexOneUptoCardSaid : Prop := Claim7.holds Tryd.pinned (.plain (OpenSpec.upto lexOneSpec)) lexOneUptoCard

/-- THE SECOND FORM's CARD OF 'bailifflaw02.StrNames'. -/
def strNamesUptoCard : Claim7 := { stood := { row := strNamesUptoRow, standIns := [], harness := (true, "bf0c239a59af7fd1b4217d4c7158331c6bb4c43959e05ed8ca085b2f4b88c94c"), looks := false }, kinds := [], alts := [], laidByText := true, laidKinds := [.data, .pinned], laidTests := true, laidLooks := .later }
def StrNamesUptoCardSaid : Prop := Claim7.holds Tryd.pinned (.plain (OpenSpec.upto strNamesSpec)) strNamesUptoCard

/-- THE SECOND FORM's CARD OF 'bailifflaw07.ValueSame'. -/
def valueSameUptoCard : Claim7 := { stood := { row := valueSameUptoRow, standIns := [], harness := (true, "bf0c239a59af7fd1b4217d4c7158331c6bb4c43959e05ed8ca085b2f4b88c94c"), looks := false }, kinds := [], alts := [], laidByText := true, laidKinds := [.data, .data, .data, .data, .pinned], laidTests := true, laidLooks := .later }
def ValueSameUptoCardSaid : Prop := Claim7.holds Tryd.pinned (.plain (OpenSpec.upto valueSameSpec)) valueSameUptoCard

/-- THE SECOND FORM's CARD OF 'bailifflaw01.NumNames'. -/
def numNamesUptoCard : Claim7 := { stood := { row := numNamesUptoRow, standIns := [], harness := (true, "bf0c239a59af7fd1b4217d4c7158331c6bb4c43959e05ed8ca085b2f4b88c94c"), looks := false }, kinds := [], alts := [], laidByText := true, laidKinds := [.data, .data, .data, .data, .pinned], laidTests := true, laidLooks := .later }
def NumNamesUptoCardSaid : Prop := Claim7.holds Tryd.pinned (.plain (OpenSpec.upto numNamesSpec)) numNamesUptoCard

/-- THE SECOND FORM's CARD OF 'bailifflaw07.ValueNames'. -/
def valueNamesUptoCard : Claim7 := { stood := { row := valueNamesUptoRow, standIns := [], harness := (true, "bf0c239a59af7fd1b4217d4c7158331c6bb4c43959e05ed8ca085b2f4b88c94c"), looks := false }, kinds := [], alts := [], laidByText := true, laidKinds := [.data, .data, .data, .data, .pinned], laidTests := true, laidLooks := .later }
def ValueNamesUptoCardSaid : Prop := Claim7.holds Tryd.pinned (.plain (OpenSpec.upto valueNamesSpec)) valueNamesUptoCard

/-- THE SECOND FORM's CARD OF 'bailifflaw03.LexNames'. -/
def lexNamesUptoCard : Claim7 := { stood := { row := lexNamesUptoRow, standIns := [], harness := (true, "bf0c239a59af7fd1b4217d4c7158331c6bb4c43959e05ed8ca085b2f4b88c94c"), looks := false }, kinds := [], alts := [], laidByText := true, laidKinds := [.data, .data, .data, .data, .pinned], laidTests := true, laidLooks := .later }
def LexNamesUptoCardSaid : Prop := Claim7.holds Tryd.pinned (.plain (OpenSpec.upto lexNamesSpec)) lexNamesUptoCard

/-- THE SECOND FORM's CARD OF 'bailifflaw03.LexBack'. -/
def lexBackUptoCard : Claim7 := { stood := { row := lexBackUptoRow, standIns := [], harness := (true, "bf0c239a59af7fd1b4217d4c7158331c6bb4c43959e05ed8ca085b2f4b88c94c"), looks := false }, kinds := [], alts := [], laidByText := true, laidKinds := [.data, .data, .data, .data, .pinned], laidTests := true, laidLooks := .later }
def LexBackUptoCardSaid : Prop := Claim7.holds Tryd.pinned (.plain (OpenSpec.upto lexBackSpec)) lexBackUptoCard

/-- THE SECOND FORM's CARD OF 'bailifflaw03.LexSpaces'. -/
def lexSpacesUptoCard : Claim7 := { stood := { row := lexSpacesUptoRow, standIns := [], harness := (true, "bf0c239a59af7fd1b4217d4c7158331c6bb4c43959e05ed8ca085b2f4b88c94c"), looks := false }, kinds := [], alts := [], laidByText := true, laidKinds := [.data, .data, .data, .data, .pinned], laidTests := true, laidLooks := .later }
def LexSpacesUptoCardSaid : Prop := Claim7.holds Tryd.pinned (.plain (OpenSpec.upto lexSpacesSpec)) lexSpacesUptoCard
end Rows
end Go.Proofs.YtajmdpndbfmdmaaDoor
