/-
  DERIVED. GIVEN WITH THE SEED: THE CARDS: each row of YtajeoodipplmlaaDoorRows.lean that lists a variable, with what it lists TIED to the program's text (the seventh form; the later family's looks); each row that meets fmt, with fmt's text TOLD by the authors' own Lean function (tested against real Go, not proved from fmt's source: count such statements apart). THE CARD IS WHAT COUNTS. Prove the row's statement (the work); the ties are given (YtajeoodipplmlaaDoorTie.lean); close each card by the builder's one call (the guide's Derived/Test/ToyasCard.lean, 'card_holds'). Laid BY PROGRAM, IN A SANDBOX (cutbox-door.mjs). By AI agents, Wed Nov 11 2026. No macro, syntax, notation, axiom, sorry.
-/
import Derived.Test.YtajeoodipplmlaaDoorRows
import GoSem.ClaimSeven
namespace Go.Proofs.YtajeoodipplmlaaDoor
namespace Rows

/-- THE TIED CARD OF 'speculumlaw04.AttrsRight'. -/
def attrsRightCard : Claim7 := { stood := { row := attrsRightRow, standIns := [], harness := (true, "b6f5cab2ef45f5981dc6045b74e080924f2c60279cfdb9c8bcd607abc3716e16"), looks := false }, kinds := [], alts := [], laidByText := true, laidKinds := [.data], laidTests := true, laidLooks := .later }
def AttrsRightCardSaid : Prop := Claim7.holds Tryd.pinned (.plain (OpenSpec.ofChange attrsRightSpec)) attrsRightCard

/-- THE TIED CARD OF 'speculumlaw04.AttrsSame'. -/
def attrsSameCard : Claim7 := { stood := { row := attrsSameRow, standIns := [], harness := (true, "b6f5cab2ef45f5981dc6045b74e080924f2c60279cfdb9c8bcd607abc3716e16"), looks := false }, kinds := [], alts := [], laidByText := true, laidKinds := [.data], laidTests := true, laidLooks := .later }
def AttrsSameCardSaid : Prop := Claim7.holds Tryd.pinned (.plain (OpenSpec.ofChange attrsSameSpec)) attrsSameCard

/-- THE TIED CARD OF 'speculumlaw04.AttrsPuts'. -/
def attrsPutsCard : Claim7 := { stood := { row := attrsPutsRow, standIns := [], harness := (true, "b6f5cab2ef45f5981dc6045b74e080924f2c60279cfdb9c8bcd607abc3716e16"), looks := false }, kinds := [], alts := [], laidByText := true, laidKinds := [.data], laidTests := true, laidLooks := .later }
def AttrsPutsCardSaid : Prop := Claim7.holds Tryd.pinned (.plain (OpenSpec.ofChange attrsPutsSpec)) attrsPutsCard

/-- THE TIED CARD OF 'speculumlaw04.AttrsBack'. -/
def attrsBackCard : Claim7 := { stood := { row := attrsBackRow, standIns := [], harness := (true, "b6f5cab2ef45f5981dc6045b74e080924f2c60279cfdb9c8bcd607abc3716e16"), looks := false }, kinds := [], alts := [], laidByText := true, laidKinds := [.data], laidTests := true, laidLooks := .later }
def AttrsBackCardSaid : Prop := Claim7.holds Tryd.pinned (.plain (OpenSpec.ofChange attrsBackSpec)) attrsBackCard

/-- THE TIED CARD OF 'speculumlaw04.AttrsNarrow'. -/
def attrsNarrowCard : Claim7 := { stood := { row := attrsNarrowRow, standIns := [], harness := (true, "b6f5cab2ef45f5981dc6045b74e080924f2c60279cfdb9c8bcd607abc3716e16"), looks := false }, kinds := [], alts := [], laidByText := true, laidKinds := [.data], laidTests := true, laidLooks := .later }
def AttrsNarrowCardSaid : Prop := Claim7.holds Tryd.pinned (.plain (OpenSpec.ofChange attrsNarrowSpec)) attrsNarrowCard

/-- THE SECOND FORM's CARD OF 'speculumlaw04.AttrsRight'. -/
def attrsRightUptoCard : Claim7 := { stood := { row := attrsRightUptoRow, standIns := [], harness := (true, "b6f5cab2ef45f5981dc6045b74e080924f2c60279cfdb9c8bcd607abc3716e16"), looks := false }, kinds := [], alts := [], laidByText := true, laidKinds := [.data], laidTests := true, laidLooks := .later }
def AttrsRightUptoCardSaid : Prop := Claim7.holds Tryd.pinned (.plain (OpenSpec.upto attrsRightSpec)) attrsRightUptoCard

/-- THE SECOND FORM's CARD OF 'speculumlaw04.AttrsSame'. -/
def attrsSameUptoCard : Claim7 := { stood := { row := attrsSameUptoRow, standIns := [], harness := (true, "b6f5cab2ef45f5981dc6045b74e080924f2c60279cfdb9c8bcd607abc3716e16"), looks := false }, kinds := [], alts := [], laidByText := true, laidKinds := [.data], laidTests := true, laidLooks := .later }
def AttrsSameUptoCardSaid : Prop := Claim7.holds Tryd.pinned (.plain (OpenSpec.upto attrsSameSpec)) attrsSameUptoCard

/-- THE SECOND FORM's CARD OF 'speculumlaw04.AttrsPuts'. -/
def attrsPutsUptoCard : Claim7 := { stood := { row := attrsPutsUptoRow, standIns := [], harness := (true, "b6f5cab2ef45f5981dc6045b74e080924f2c60279cfdb9c8bcd607abc3716e16"), looks := false }, kinds := [], alts := [], laidByText := true, laidKinds := [.data], laidTests := true, laidLooks := .later }
def AttrsPutsUptoCardSaid : Prop := Claim7.holds Tryd.pinned (.plain (OpenSpec.upto attrsPutsSpec)) attrsPutsUptoCard

/-- THE SECOND FORM's CARD OF 'speculumlaw04.AttrsBack'. -/
def attrsBackUptoCard : Claim7 := { stood := { row := attrsBackUptoRow, standIns := [], harness := (true, "b6f5cab2ef45f5981dc6045b74e080924f2c60279cfdb9c8bcd607abc3716e16"), looks := false }, kinds := [], alts := [], laidByText := true, laidKinds := [.data], laidTests := true, laidLooks := .later }
def AttrsBackUptoCardSaid : Prop := Claim7.holds Tryd.pinned (.plain (OpenSpec.upto attrsBackSpec)) attrsBackUptoCard

/-- THE SECOND FORM's CARD OF 'speculumlaw04.AttrsNarrow'. -/
def attrsNarrowUptoCard : Claim7 := { stood := { row := attrsNarrowUptoRow, standIns := [], harness := (true, "b6f5cab2ef45f5981dc6045b74e080924f2c60279cfdb9c8bcd607abc3716e16"), looks := false }, kinds := [], alts := [], laidByText := true, laidKinds := [.data], laidTests := true, laidLooks := .later }
def AttrsNarrowUptoCardSaid : Prop := Claim7.holds Tryd.pinned (.plain (OpenSpec.upto attrsNarrowSpec)) attrsNarrowUptoCard
end Rows
end Go.Proofs.YtajeoodipplmlaaDoor
