/-
  DERIVED. GIVEN WITH THE SEED: THE CARDS: each row of YtobfeehelmbljaaDoorRows.lean that lists a variable, with what it lists TIED to the program's text (the seventh form; the later family's looks); each row that meets fmt, with fmt's text TOLD by the authors' own Lean function (tested against real Go, not proved from fmt's source: count such statements apart). THE CARD IS WHAT COUNTS. Prove the row's statement (the work); the ties are given (YtobfeehelmbljaaDoorTie.lean); close each card by the builder's one call (the guide's Derived/Test/ToyasCard.lean, 'card_holds'). Laid BY PROGRAM, IN A SANDBOX (cutbox-door.mjs). By AI agents, Wed Nov 11 2026. No macro, syntax, notation, axiom, sorry.
-/
import Derived.Test.YtobfeehelmbljaaDoorRows
import GoSem.ClaimSeven
namespace Go.Proofs.YtobfeehelmbljaaDoor
namespace Rows

/-- THE TIED CARD OF 'laws.FnExactUnpadBody'. -/
def fnExactUnpadBodyCard : Claim7 := { stood := { row := fnExactUnpadBodyRow, standIns := [], harness := (true, "77164f291bc67a8d97c80508ce3592593e4ac68ee08b2cae2974d7e0eb6b12f4"), looks := false }, kinds := [], alts := [], laidByText := true, laidKinds := [.data, .pinned], laidTests := true, laidLooks := .later }
def FnExactUnpadBodyCardSaid : Prop := Claim7.holds Tryd.pinned (.plain (OpenSpec.ofChange fnExactUnpadBodySpec)) fnExactUnpadBodyCard

/-- THE TIED CARD OF 'laws.FnExactPeelOnion'. -/
def fnExactPeelOnionCard : Claim7 := { stood := { row := fnExactPeelOnionRow, standIns := [], harness := (true, "77164f291bc67a8d97c80508ce3592593e4ac68ee08b2cae2974d7e0eb6b12f4"), looks := false }, kinds := [], alts := [], laidByText := true, laidKinds := [.data, .pinned], laidTests := true, laidLooks := .later }
def FnExactPeelOnionCardSaid : Prop := Claim7.holds Tryd.pinned (.plain (OpenSpec.ofChange fnExactPeelOnionSpec)) fnExactPeelOnionCard

/-- THE TIED CARD OF 'laws.FnExactWalkOnion'. -/
def fnExactWalkOnionCard : Claim7 := { stood := { row := fnExactWalkOnionRow, standIns := [], harness := (true, "77164f291bc67a8d97c80508ce3592593e4ac68ee08b2cae2974d7e0eb6b12f4"), looks := false }, kinds := [], alts := [], laidByText := true, laidKinds := [.data, .pinned], laidTests := true, laidLooks := .later }
def FnExactWalkOnionCardSaid : Prop := Claim7.holds Tryd.pinned (.plain (OpenSpec.ofChange fnExactWalkOnionSpec)) fnExactWalkOnionCard

/-- THE TIED CARD OF 'laws.FnBodies'. -/
def fnBodiesCard : Claim7 := { stood := { row := fnBodiesRow, standIns := [], harness := (true, "77164f291bc67a8d97c80508ce3592593e4ac68ee08b2cae2974d7e0eb6b12f4"), looks := false }, kinds := [], alts := [], laidByText := true, laidKinds := [.data, .pinned], laidTests := true, laidLooks := .later }
def FnBodiesCardSaid : Prop := Claim7.holds Tryd.pinned (.plain (OpenSpec.ofChange fnBodiesSpec)) fnBodiesCard

/-- THE TIED CARD OF 'laws.FnLayers'. -/
def fnLayersCard : Claim7 := { stood := { row := fnLayersRow, standIns := [], harness := (true, "77164f291bc67a8d97c80508ce3592593e4ac68ee08b2cae2974d7e0eb6b12f4"), looks := false }, kinds := [], alts := [], laidByText := true, laidKinds := [.data, .pinned], laidTests := true, laidLooks := .later }
def FnLayersCardSaid : Prop := Claim7.holds Tryd.pinned (.plain (OpenSpec.ofChange fnLayersSpec)) fnLayersCard

/-- THE SECOND FORM's CARD OF 'laws.FnExactUnpadBody'. -/
def fnExactUnpadBodyUptoCard : Claim7 := { stood := { row := fnExactUnpadBodyUptoRow, standIns := [], harness := (true, "77164f291bc67a8d97c80508ce3592593e4ac68ee08b2cae2974d7e0eb6b12f4"), looks := false }, kinds := [], alts := [], laidByText := true, laidKinds := [.data, .pinned], laidTests := true, laidLooks := .later }
def FnExactUnpadBodyUptoCardSaid : Prop := Claim7.holds Tryd.pinned (.plain (OpenSpec.upto fnExactUnpadBodySpec)) fnExactUnpadBodyUptoCard

/-- THE SECOND FORM's CARD OF 'laws.FnExactPeelOnion'. -/
def fnExactPeelOnionUptoCard : Claim7 := { stood := { row := fnExactPeelOnionUptoRow, standIns := [], harness := (true, "77164f291bc67a8d97c80508ce3592593e4ac68ee08b2cae2974d7e0eb6b12f4"), looks := false }, kinds := [], alts := [], laidByText := true, laidKinds := [.data, .pinned], laidTests := true, laidLooks := .later }
def FnExactPeelOnionUptoCardSaid : Prop := Claim7.holds Tryd.pinned (.plain (OpenSpec.upto fnExactPeelOnionSpec)) fnExactPeelOnionUptoCard

/-- THE SECOND FORM's CARD OF 'laws.FnExactWalkOnion'. -/
def fnExactWalkOnionUptoCard : Claim7 := { stood := { row := fnExactWalkOnionUptoRow, standIns := [], harness := (true, "77164f291bc67a8d97c80508ce3592593e4ac68ee08b2cae2974d7e0eb6b12f4"), looks := false }, kinds := [], alts := [], laidByText := true, laidKinds := [.data, .pinned], laidTests := true, laidLooks := .later }
def FnExactWalkOnionUptoCardSaid : Prop := Claim7.holds Tryd.pinned (.plain (OpenSpec.upto fnExactWalkOnionSpec)) fnExactWalkOnionUptoCard

/-- THE SECOND FORM's CARD OF 'laws.FnBodies'. -/
def fnBodiesUptoCard : Claim7 := { stood := { row := fnBodiesUptoRow, standIns := [], harness := (true, "77164f291bc67a8d97c80508ce3592593e4ac68ee08b2cae2974d7e0eb6b12f4"), looks := false }, kinds := [], alts := [], laidByText := true, laidKinds := [.data, .pinned], laidTests := true, laidLooks := .later }
def FnBodiesUptoCardSaid : Prop := Claim7.holds Tryd.pinned (.plain (OpenSpec.upto fnBodiesSpec)) fnBodiesUptoCard

/-- THE SECOND FORM's CARD OF 'laws.FnLayers'. -/
def fnLayersUptoCard : Claim7 := { stood := { row := fnLayersUptoRow, standIns := [], harness := (true, "77164f291bc67a8d97c80508ce3592593e4ac68ee08b2cae2974d7e0eb6b12f4"), looks := false }, kinds := [], alts := [], laidByText := true, laidKinds := [.data, .pinned], laidTests := true, laidLooks := .later }
def FnLayersUptoCardSaid : Prop := Claim7.holds Tryd.pinned (.plain (OpenSpec.upto fnLayersSpec)) fnLayersUptoCard
end Rows
end Go.Proofs.YtobfeehelmbljaaDoor
