/-
  DERIVED. GIVEN WITH THE SEED: THE CARDS: each row of YtacjgkpncdnbgaaDoorRows.lean that lists a variable, with what it lists TIED to the program's text (the seventh form; the later family's looks); each row that meets fmt, with fmt's text TOLD by the authors' own Lean function (tested against real Go, not proved from fmt's source: count such statements apart). THE CARD IS WHAT COUNTS. Prove the row's statement (the work); the ties are given (YtacjgkpncdnbgaaDoorTie.lean); close each card by the builder's one call (the guide's Derived/Test/ToyasCard.lean, 'card_holds'). Laid BY PROGRAM, IN A SANDBOX (cutbox-door.mjs). By AI agents, Wed Nov 11 2026. No macro, syntax, notation, axiom, sorry.
-/
import Derived.Test.YtacjgkpncdnbgaaDoorRows
import GoSem.ClaimSeven
namespace Go.Proofs.YtacjgkpncdnbgaaDoor
namespace Rows

/-- THE TIED CARD OF 'cleanselaw01.RatioLowest'. -/
def ratioLowestCard : Claim7 := { stood := { row := ratioLowestRow, standIns := [], harness := (true, "c25318a78d1f2a0fd7bceaa18a05c3defbe25cb04d858c43838cc39ca79abeae"), looks := true }, kinds := [], alts := [], laidByText := true, laidKinds := [.data, .data, .data, .sentinel, .sentinel], laidTests := true, laidLooks := .later }
def RatioLowestCardSaid : Prop := Claim7.holds Tryd.pinned (.plain (OpenSpec.ofChange ratioLowestSpec)) ratioLowestCard

/-- THE TIED CARD OF 'cleanselaw01.RatioOrder'. -/
def ratioOrderCard : Claim7 := { stood := { row := ratioOrderRow, standIns := [], harness := (true, "c25318a78d1f2a0fd7bceaa18a05c3defbe25cb04d858c43838cc39ca79abeae"), looks := true }, kinds := [], alts := [], laidByText := true, laidKinds := [.data, .data, .data, .sentinel, .sentinel], laidTests := true, laidLooks := .later }
def RatioOrderCardSaid : Prop := Claim7.holds Tryd.pinned (.plain (OpenSpec.ofChange ratioOrderSpec)) ratioOrderCard

/-- THE TIED CARD OF 'cleanselaw01.RatioTexts'. -/
def ratioTextsCard : Claim7 := { stood := { row := ratioTextsRow, standIns := [], harness := (true, "c25318a78d1f2a0fd7bceaa18a05c3defbe25cb04d858c43838cc39ca79abeae"), looks := true }, kinds := [], alts := [], laidByText := true, laidKinds := [.data, .data, .data, .sentinel, .sentinel], laidTests := true, laidLooks := .later }
def RatioTextsCardSaid : Prop := Claim7.holds Tryd.pinned (.plain (OpenSpec.ofChange ratioTextsSpec)) ratioTextsCard

/-- THE TIED CARD OF 'cleanselaw01.RatioShares'. -/
def ratioSharesCard : Claim7 := { stood := { row := ratioSharesRow, standIns := [], harness := (true, "c25318a78d1f2a0fd7bceaa18a05c3defbe25cb04d858c43838cc39ca79abeae"), looks := true }, kinds := [], alts := [], laidByText := true, laidKinds := [.data, .data, .data, .sentinel, .sentinel], laidTests := true, laidLooks := .later }
def RatioSharesCardSaid : Prop := Claim7.holds Tryd.pinned (.plain (OpenSpec.ofChange ratioSharesSpec)) ratioSharesCard

/-- THE TIED CARD OF 'cleanselaw01.RatioMatchesReference'. -/
def ratioMatchesReferenceCard : Claim7 := { stood := { row := ratioMatchesReferenceRow, standIns := [], harness := (true, "c25318a78d1f2a0fd7bceaa18a05c3defbe25cb04d858c43838cc39ca79abeae"), looks := true }, kinds := [], alts := [], laidByText := true, laidKinds := [.data, .data, .data, .sentinel, .sentinel], laidTests := true, laidLooks := .later }
def RatioMatchesReferenceCardSaid : Prop := Claim7.holds Tryd.pinned (.plain (OpenSpec.ofChange ratioMatchesReferenceSpec)) ratioMatchesReferenceCard

/-- THE TIED CARD OF 'cleanselaw01.RatioField'. -/
def ratioFieldCard : Claim7 := { stood := { row := ratioFieldRow, standIns := [], harness := (true, "c25318a78d1f2a0fd7bceaa18a05c3defbe25cb04d858c43838cc39ca79abeae"), looks := true }, kinds := [], alts := [], laidByText := true, laidKinds := [.data, .data, .data, .sentinel, .sentinel], laidTests := true, laidLooks := .later }
def RatioFieldCardSaid : Prop := Claim7.holds Tryd.pinned (.plain (OpenSpec.ofChange ratioFieldSpec)) ratioFieldCard

/-- THE TIED CARD OF 'cleanselaw01.RatioExact'. -/
def ratioExactCard : Claim7 := { stood := { row := ratioExactRow, standIns := [], harness := (true, "c25318a78d1f2a0fd7bceaa18a05c3defbe25cb04d858c43838cc39ca79abeae"), looks := true }, kinds := [], alts := [], laidByText := true, laidKinds := [.data, .data, .data, .sentinel, .sentinel], laidTests := true, laidLooks := .later }
def RatioExactCardSaid : Prop := Claim7.holds Tryd.pinned (.plain (OpenSpec.ofChange ratioExactSpec)) ratioExactCard

/-- THE SECOND FORM's CARD OF 'cleanselaw01.RatioLowest'. -/
def ratioLowestUptoCard : Claim7 := { stood := { row := ratioLowestUptoRow, standIns := [], harness := (true, "c25318a78d1f2a0fd7bceaa18a05c3defbe25cb04d858c43838cc39ca79abeae"), looks := true }, kinds := [], alts := [], laidByText := true, laidKinds := [.data, .data, .data, .sentinel, .sentinel], laidTests := true, laidLooks := .later }
def RatioLowestUptoCardSaid : Prop := Claim7.holds Tryd.pinned (.plain (OpenSpec.upto ratioLowestSpec)) ratioLowestUptoCard

/-- THE SECOND FORM's CARD OF 'cleanselaw01.RatioOrder'. -/
def ratioOrderUptoCard : Claim7 := { stood := { row := ratioOrderUptoRow, standIns := [], harness := (true, "c25318a78d1f2a0fd7bceaa18a05c3defbe25cb04d858c43838cc39ca79abeae"), looks := true }, kinds := [], alts := [], laidByText := true, laidKinds := [.data, .data, .data, .sentinel, .sentinel], laidTests := true, laidLooks := .later }
def RatioOrderUptoCardSaid : Prop := Claim7.holds Tryd.pinned (.plain (OpenSpec.upto ratioOrderSpec)) ratioOrderUptoCard

/-- THE SECOND FORM's CARD OF 'cleanselaw01.RatioTexts'. -/
def ratioTextsUptoCard : Claim7 := { stood := { row := ratioTextsUptoRow, standIns := [], harness := (true, "c25318a78d1f2a0fd7bceaa18a05c3defbe25cb04d858c43838cc39ca79abeae"), looks := true }, kinds := [], alts := [], laidByText := true, laidKinds := [.data, .data, .data, .sentinel, .sentinel], laidTests := true, laidLooks := .later }
def RatioTextsUptoCardSaid : Prop := Claim7.holds Tryd.pinned (.plain (OpenSpec.upto ratioTextsSpec)) ratioTextsUptoCard

/-- THE SECOND FORM's CARD OF 'cleanselaw01.RatioShares'. -/
def ratioSharesUptoCard : Claim7 := { stood := { row := ratioSharesUptoRow, standIns := [], harness := (true, "c25318a78d1f2a0fd7bceaa18a05c3defbe25cb04d858c43838cc39ca79abeae"), looks := true }, kinds := [], alts := [], laidByText := true, laidKinds := [.data, .data, .data, .sentinel, .sentinel], laidTests := true, laidLooks := .later }
def RatioSharesUptoCardSaid : Prop := Claim7.holds Tryd.pinned (.plain (OpenSpec.upto ratioSharesSpec)) ratioSharesUptoCard

/-- THE SECOND FORM's CARD OF 'cleanselaw01.RatioMatchesReference'. -/
def ratioMatchesReferenceUptoCard : Claim7 := { stood := { row := ratioMatchesReferenceUptoRow, standIns := [], harness := (true, "c25318a78d1f2a0fd7bceaa18a05c3defbe25cb04d858c43838cc39ca79abeae"), looks := true }, kinds := [], alts := [], laidByText := true, laidKinds := [.data, .data, .data, .sentinel, .sentinel], laidTests := true, laidLooks := .later }
def RatioMatchesReferenceUptoCardSaid : Prop := Claim7.holds Tryd.pinned (.plain (OpenSpec.upto ratioMatchesReferenceSpec)) ratioMatchesReferenceUptoCard

/-- THE SECOND FORM's CARD OF 'cleanselaw01.RatioField'. -/
def ratioFieldUptoCard : Claim7 := { stood := { row := ratioFieldUptoRow, standIns := [], harness := (true, "c25318a78d1f2a0fd7bceaa18a05c3defbe25cb04d858c43838cc39ca79abeae"), looks := true }, kinds := [], alts := [], laidByText := true, laidKinds := [.data, .data, .data, .sentinel, .sentinel], laidTests := true, laidLooks := .later }
def RatioFieldUptoCardSaid : Prop := Claim7.holds Tryd.pinned (.plain (OpenSpec.upto ratioFieldSpec)) ratioFieldUptoCard

/-- THE SECOND FORM's CARD OF 'cleanselaw01.RatioExact'. -/
def ratioExactUptoCard : Claim7 := { stood := { row := ratioExactUptoRow, standIns := [], harness := (true, "c25318a78d1f2a0fd7bceaa18a05c3defbe25cb04d858c43838cc39ca79abeae"), looks := true }, kinds := [], alts := [], laidByText := true, laidKinds := [.data, .data, .data, .sentinel, .sentinel], laidTests := true, laidLooks := .later }
def RatioExactUptoCardSaid : Prop := Claim7.holds Tryd.pinned (.plain (OpenSpec.upto ratioExactSpec)) ratioExactUptoCard
end Rows
end Go.Proofs.YtacjgkpncdnbgaaDoor
