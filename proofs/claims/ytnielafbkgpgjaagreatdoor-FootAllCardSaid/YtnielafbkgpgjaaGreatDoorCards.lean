/-
  DERIVED. GIVEN WITH THE SEED: THE CARDS: each row of YtnielafbkgpgjaaGreatDoorRows.lean that lists a variable, with what it lists TIED to the program's text (the seventh form; the later family's looks); each row that meets fmt, with fmt's text TOLD by the authors' own Lean function (tested against real Go, not proved from fmt's source: count such statements apart). THE CARD IS WHAT COUNTS. Prove the row's statement (the work); the ties are given (YtnielafbkgpgjaaGreatDoorTie.lean); close each card by the builder's one call (the guide's Derived/Test/ToyasCard.lean, 'card_holds'). Laid BY PROGRAM, IN A SANDBOX (cutbox-door.mjs). By AI agents, Wed Nov 11 2026. No macro, syntax, notation, axiom, sorry.
-/
import Derived.Test.YtnielafbkgpgjaaGreatDoorRows
import GoSem.ClaimSeven
namespace Go.Proofs.YtnielafbkgpgjaaGreatDoor
namespace Rows

/-- THE TIED CARD OF 'braidworklaw14.FootReaches'. -/
def footReachesCard : Claim7 := { stood := { row := footReachesRow, standIns := [], harness := (true, "22d9e7e1913b44576be01f842981d528ad86e9bbfc9b7f5f32bea3176a268f88"), looks := true }, kinds := [], alts := [], laidByText := true, laidKinds := [.data, .data, .data, .sentinel, .sentinel, .data, .widerDeep, .widerDeep, .widerDeep], laidTests := true, laidLooks := .later }
def FootReachesCardSaid : Prop := Claim7.holds Tryz.pinned (.plain (OpenSpec.ofChange footReachesSpec)) footReachesCard

/-- THE TIED CARD OF 'braidworklaw14.FootAll'. -/
def footAllCard : Claim7 := { stood := { row := footAllRow, standIns := [], harness := (true, "22d9e7e1913b44576be01f842981d528ad86e9bbfc9b7f5f32bea3176a268f88"), looks := true }, kinds := [], alts := [], laidByText := true, laidKinds := [.data, .data, .data, .sentinel, .sentinel, .data, .widerDeep, .widerDeep, .widerDeep], laidTests := true, laidLooks := .later }
def FootAllCardSaid : Prop := Claim7.holds Tryz.pinned (.plain (OpenSpec.ofChange footAllSpec)) footAllCard

/-- THE TIED CARD OF 'braidworklaw14.FootTells'. -/
def footTellsCard : Claim7 := { stood := { row := footTellsRow, standIns := [], harness := (true, "22d9e7e1913b44576be01f842981d528ad86e9bbfc9b7f5f32bea3176a268f88"), looks := true }, kinds := [], alts := [], laidByText := true, laidKinds := [.data, .data, .data, .sentinel, .sentinel, .data, .widerDeep, .widerDeep, .widerDeep], laidTests := true, laidLooks := .later }
def FootTellsCardSaid : Prop := Claim7.holds Tryz.pinned (.plain (OpenSpec.ofChange footTellsSpec)) footTellsCard

/-- THE TIED CARD OF 'braidworklaw14.FootLess'. -/
def footLessCard : Claim7 := { stood := { row := footLessRow, standIns := [], harness := (true, "22d9e7e1913b44576be01f842981d528ad86e9bbfc9b7f5f32bea3176a268f88"), looks := true }, kinds := [], alts := [], laidByText := true, laidKinds := [.data, .data, .data, .sentinel, .sentinel, .data, .widerDeep, .widerDeep, .widerDeep], laidTests := true, laidLooks := .later }
def FootLessCardSaid : Prop := Claim7.holds Tryz.pinned (.plain (OpenSpec.ofChange footLessSpec)) footLessCard

/-- THE SECOND FORM's CARD OF 'braidworklaw14.FootReaches'. -/
def footReachesUptoCard : Claim7 := { stood := { row := footReachesUptoRow, standIns := [], harness := (true, "22d9e7e1913b44576be01f842981d528ad86e9bbfc9b7f5f32bea3176a268f88"), looks := true }, kinds := [], alts := [], laidByText := true, laidKinds := [.data, .data, .data, .sentinel, .sentinel, .data, .widerDeep, .widerDeep, .widerDeep], laidTests := true, laidLooks := .later }
def FootReachesUptoCardSaid : Prop := Claim7.holds Tryz.pinned (.plain (OpenSpec.upto footReachesSpec)) footReachesUptoCard

/-- THE SECOND FORM's CARD OF 'braidworklaw14.FootAll'. -/
def footAllUptoCard : Claim7 := { stood := { row := footAllUptoRow, standIns := [], harness := (true, "22d9e7e1913b44576be01f842981d528ad86e9bbfc9b7f5f32bea3176a268f88"), looks := true }, kinds := [], alts := [], laidByText := true, laidKinds := [.data, .data, .data, .sentinel, .sentinel, .data, .widerDeep, .widerDeep, .widerDeep], laidTests := true, laidLooks := .later }
def FootAllUptoCardSaid : Prop := Claim7.holds Tryz.pinned (.plain (OpenSpec.upto footAllSpec)) footAllUptoCard

/-- THE SECOND FORM's CARD OF 'braidworklaw14.FootTells'. -/
def footTellsUptoCard : Claim7 := { stood := { row := footTellsUptoRow, standIns := [], harness := (true, "22d9e7e1913b44576be01f842981d528ad86e9bbfc9b7f5f32bea3176a268f88"), looks := true }, kinds := [], alts := [], laidByText := true, laidKinds := [.data, .data, .data, .sentinel, .sentinel, .data, .widerDeep, .widerDeep, .widerDeep], laidTests := true, laidLooks := .later }
def FootTellsUptoCardSaid : Prop := Claim7.holds Tryz.pinned (.plain (OpenSpec.upto footTellsSpec)) footTellsUptoCard

/-- THE SECOND FORM's CARD OF 'braidworklaw14.FootLess'. -/
def footLessUptoCard : Claim7 := { stood := { row := footLessUptoRow, standIns := [], harness := (true, "22d9e7e1913b44576be01f842981d528ad86e9bbfc9b7f5f32bea3176a268f88"), looks := true }, kinds := [], alts := [], laidByText := true, laidKinds := [.data, .data, .data, .sentinel, .sentinel, .data, .widerDeep, .widerDeep, .widerDeep], laidTests := true, laidLooks := .later }
def FootLessUptoCardSaid : Prop := Claim7.holds Tryz.pinned (.plain (OpenSpec.upto footLessSpec)) footLessUptoCard
end Rows
end Go.Proofs.YtnielafbkgpgjaaGreatDoor
