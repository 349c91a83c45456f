/-
  DERIVED. GIVEN WITH THE SEED: THE CARDS: each row of YtmeblifbkhpdnaaDoorRows.lean that lists a variable, with what it lists TIED to the program's text (the seventh form; the later family's looks); each row that meets fmt, with fmt's text TOLD by the authors' own Lean function (tested against real Go, not proved from fmt's source: count such statements apart). THE CARD IS WHAT COUNTS. Prove the row's statement (the work); the ties are given (YtmeblifbkhpdnaaDoorTie.lean); close each card by the builder's one call (the guide's Derived/Test/ToyasCard.lean, 'card_holds'). Laid BY PROGRAM, IN A SANDBOX (cutbox-door.mjs). By AI agents, Wed Nov 11 2026. No macro, syntax, notation, axiom, sorry.
-/
import Derived.Test.YtmeblifbkhpdnaaDoorRows
import GoSem.ClaimSeven
namespace Go.Proofs.YtmeblifbkhpdnaaDoor
namespace Rows

/-- THE TIED CARD OF 'gimballaw14.RecordScans'. -/
def recordScansCard : Claim7 := { stood := { row := recordScansRow, standIns := [], harness := (true, "ac748d212d0d79aa82e68b2273a819c1736f66a288add7512e8694986e20d5c1"), looks := false }, kinds := [], alts := [], laidByText := true, laidKinds := [.data, .data], laidTests := true, laidLooks := .later }
def RecordScansCardSaid : Prop := Claim7.holds Tryd.pinned (.plain (OpenSpec.ofChange recordScansSpec)) recordScansCard

/-- THE TIED CARD OF 'gimballaw14.RecordAgain'. -/
def recordAgainCard : Claim7 := { stood := { row := recordAgainRow, standIns := [], harness := (true, "ac748d212d0d79aa82e68b2273a819c1736f66a288add7512e8694986e20d5c1"), looks := false }, kinds := [], alts := [], laidByText := true, laidKinds := [.data, .data], laidTests := true, laidLooks := .later }
def RecordAgainCardSaid : Prop := Claim7.holds Tryd.pinned (.plain (OpenSpec.ofChange recordAgainSpec)) recordAgainCard

/-- THE TIED CARD OF 'gimballaw14.RecordBytes'. -/
def recordBytesCard : Claim7 := { stood := { row := recordBytesRow, standIns := [], harness := (true, "ac748d212d0d79aa82e68b2273a819c1736f66a288add7512e8694986e20d5c1"), looks := false }, kinds := [], alts := [], laidByText := true, laidKinds := [.data, .data], laidTests := true, laidLooks := .later }
def RecordBytesCardSaid : Prop := Claim7.holds Tryd.pinned (.plain (OpenSpec.ofChange recordBytesSpec)) recordBytesCard

/-- THE TIED CARD OF 'gimballaw14.RecordTorn'. -/
def recordTornCard : Claim7 := { stood := { row := recordTornRow, standIns := [], harness := (true, "ac748d212d0d79aa82e68b2273a819c1736f66a288add7512e8694986e20d5c1"), looks := false }, kinds := [], alts := [], laidByText := true, laidKinds := [.data, .data], laidTests := true, laidLooks := .later }
def RecordTornCardSaid : Prop := Claim7.holds Tryd.pinned (.plain (OpenSpec.ofChange recordTornSpec)) recordTornCard

/-- THE TIED CARD OF 'gimballaw14.RecordTurned'. -/
def recordTurnedCard : Claim7 := { stood := { row := recordTurnedRow, standIns := [], harness := (true, "ac748d212d0d79aa82e68b2273a819c1736f66a288add7512e8694986e20d5c1"), looks := false }, kinds := [], alts := [], laidByText := true, laidKinds := [.data, .data], laidTests := true, laidLooks := .later }
def RecordTurnedCardSaid : Prop := Claim7.holds Tryd.pinned (.plain (OpenSpec.ofChange recordTurnedSpec)) recordTurnedCard

/-- THE SECOND FORM's CARD OF 'gimballaw14.RecordScans'. -/
def recordScansUptoCard : Claim7 := { stood := { row := recordScansUptoRow, standIns := [], harness := (true, "ac748d212d0d79aa82e68b2273a819c1736f66a288add7512e8694986e20d5c1"), looks := false }, kinds := [], alts := [], laidByText := true, laidKinds := [.data, .data], laidTests := true, laidLooks := .later }
def RecordScansUptoCardSaid : Prop := Claim7.holds Tryd.pinned (.plain (OpenSpec.upto recordScansSpec)) recordScansUptoCard

/-- THE SECOND FORM's CARD OF 'gimballaw14.RecordAgain'. -/
def recordAgainUptoCard : Claim7 := { stood := { row := recordAgainUptoRow, standIns := [], harness := (true, "ac748d212d0d79aa82e68b2273a819c1736f66a288add7512e8694986e20d5c1"), looks := false }, kinds := [], alts := [], laidByText := true, laidKinds := [.data, .data], laidTests := true, laidLooks := .later }
def RecordAgainUptoCardSaid : Prop := Claim7.holds Tryd.pinned (.plain (OpenSpec.upto recordAgainSpec)) recordAgainUptoCard

/-- THE SECOND FORM's CARD OF 'gimballaw14.RecordBytes'. -/
def recordBytesUptoCard : Claim7 := { stood := { row := recordBytesUptoRow, standIns := [], harness := (true, "ac748d212d0d79aa82e68b2273a819c1736f66a288add7512e8694986e20d5c1"), looks := false }, kinds := [], alts := [], laidByText := true, laidKinds := [.data, .data], laidTests := true, laidLooks := .later }
def RecordBytesUptoCardSaid : Prop := Claim7.holds Tryd.pinned (.plain (OpenSpec.upto recordBytesSpec)) recordBytesUptoCard

/-- THE SECOND FORM's CARD OF 'gimballaw14.RecordTorn'. -/
def recordTornUptoCard : Claim7 := { stood := { row := recordTornUptoRow, standIns := [], harness := (true, "ac748d212d0d79aa82e68b2273a819c1736f66a288add7512e8694986e20d5c1"), looks := false }, kinds := [], alts := [], laidByText := true, laidKinds := [.data, .data], laidTests := true, laidLooks := .later }
def RecordTornUptoCardSaid : Prop := Claim7.holds Tryd.pinned (.plain (OpenSpec.upto recordTornSpec)) recordTornUptoCard

/-- THE SECOND FORM's CARD OF 'gimballaw14.RecordTurned'. -/
def recordTurnedUptoCard : Claim7 := { stood := { row := recordTurnedUptoRow, standIns := [], harness := (true, "ac748d212d0d79aa82e68b2273a819c1736f66a288add7512e8694986e20d5c1"), looks := false }, kinds := [], alts := [], laidByText := true, laidKinds := [.data, .data], laidTests := true, laidLooks := .later }
def RecordTurnedUptoCardSaid : Prop := Claim7.holds Tryd.pinned (.plain (OpenSpec.upto recordTurnedSpec)) recordTurnedUptoCard
end Rows
end Go.Proofs.YtmeblifbkhpdnaaDoor
