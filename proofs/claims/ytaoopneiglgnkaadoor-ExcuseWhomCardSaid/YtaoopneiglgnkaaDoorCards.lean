/-
  DERIVED. GIVEN WITH THE SEED: THE CARDS: each row of YtaoopneiglgnkaaDoorRows.lean that lists a variable, with what it lists TIED to the program's text (the seventh form; the later family's looks); each row that meets fmt, with fmt's text TOLD by the authors' own Lean function (tested against real Go, not proved from fmt's source: count such statements apart). THE CARD IS WHAT COUNTS. Prove the row's statement (the work); the ties are given (YtaoopneiglgnkaaDoorTie.lean); close each card by the builder's one call (the guide's Derived/Test/ToyasCard.lean, 'card_holds'). Laid BY PROGRAM, IN A SANDBOX (cutbox-door.mjs). By AI agents, Wed Nov 11 2026. No macro, syntax, notation, axiom, sorry.
-/
import Derived.Test.YtaoopneiglgnkaaDoorRows
import GoSem.ClaimSeven
namespace Go.Proofs.YtaoopneiglgnkaaDoor
namespace Rows

/-- THE TIED CARD OF 'crosswaylaw20.ExcuseKinds'. -/
def excuseKindsCard : Claim7 := { stood := { row := excuseKindsRow, standIns := [], harness := (true, "7e8afff2ae47f114bd49d384dedb2635dd6b91778b20727717cc8939083ab443"), looks := false }, kinds := [], alts := [], laidByText := true, laidKinds := [.data], laidTests := true, laidLooks := .later }
def ExcuseKindsCardSaid : Prop := Claim7.holds Tryd.pinned (.plain (OpenSpec.ofChange excuseKindsSpec)) excuseKindsCard

/-- THE TIED CARD OF 'crosswaylaw20.ExcuseTells'. -/
def excuseTellsCard : Claim7 := { stood := { row := excuseTellsRow, standIns := [], harness := (true, "7e8afff2ae47f114bd49d384dedb2635dd6b91778b20727717cc8939083ab443"), looks := false }, kinds := [], alts := [], laidByText := true, laidKinds := [.data], laidTests := true, laidLooks := .later }
def ExcuseTellsCardSaid : Prop := Claim7.holds Tryd.pinned (.plain (OpenSpec.ofChange excuseTellsSpec)) excuseTellsCard

/-- THE TIED CARD OF 'crosswaylaw20.ExcuseNever'. -/
def excuseNeverCard : Claim7 := { stood := { row := excuseNeverRow, standIns := [], harness := (true, "7e8afff2ae47f114bd49d384dedb2635dd6b91778b20727717cc8939083ab443"), looks := false }, kinds := [], alts := [], laidByText := true, laidKinds := [.data], laidTests := true, laidLooks := .later }
def ExcuseNeverCardSaid : Prop := Claim7.holds Tryd.pinned (.plain (OpenSpec.ofChange excuseNeverSpec)) excuseNeverCard

/-- THE TIED CARD OF 'crosswaylaw20.ExcuseBehind'. -/
def excuseBehindCard : Claim7 := { stood := { row := excuseBehindRow, standIns := [], harness := (true, "7e8afff2ae47f114bd49d384dedb2635dd6b91778b20727717cc8939083ab443"), looks := false }, kinds := [], alts := [], laidByText := true, laidKinds := [.data], laidTests := true, laidLooks := .later }
def ExcuseBehindCardSaid : Prop := Claim7.holds Tryd.pinned (.plain (OpenSpec.ofChange excuseBehindSpec)) excuseBehindCard

/-- THE TIED CARD OF 'crosswaylaw20.ExcuseWhom'. -/
def excuseWhomCard : Claim7 := { stood := { row := excuseWhomRow, standIns := [], harness := (true, "7e8afff2ae47f114bd49d384dedb2635dd6b91778b20727717cc8939083ab443"), looks := false }, kinds := [], alts := [], laidByText := true, laidKinds := [.data], laidTests := true, laidLooks := .later }
def ExcuseWhomCardSaid : Prop := Claim7.holds Tryd.pinned (.plain (OpenSpec.ofChange excuseWhomSpec)) excuseWhomCard

/-- THE TIED CARD OF 'crosswaylaw20.ExcuseQuotes'. -/
def excuseQuotesCard : Claim7 := { stood := { row := excuseQuotesRow, standIns := [], harness := (true, "7e8afff2ae47f114bd49d384dedb2635dd6b91778b20727717cc8939083ab443"), looks := false }, kinds := [], alts := [], laidByText := true, laidKinds := [.data], laidTests := true, laidLooks := .later }
def ExcuseQuotesCardSaid : Prop := Claim7.holds Tryd.pinned (.plain (OpenSpec.ofChange excuseQuotesSpec)) excuseQuotesCard

/-- THE SECOND FORM's CARD OF 'crosswaylaw20.ExcuseKinds'. -/
def excuseKindsUptoCard : Claim7 := { stood := { row := excuseKindsUptoRow, standIns := [], harness := (true, "7e8afff2ae47f114bd49d384dedb2635dd6b91778b20727717cc8939083ab443"), looks := false }, kinds := [], alts := [], laidByText := true, laidKinds := [.data], laidTests := true, laidLooks := .later }
def ExcuseKindsUptoCardSaid : Prop := Claim7.holds Tryd.pinned (.plain (OpenSpec.upto excuseKindsSpec)) excuseKindsUptoCard

/-- THE SECOND FORM's CARD OF 'crosswaylaw20.ExcuseTells'. -/
def excuseTellsUptoCard : Claim7 := { stood := { row := excuseTellsUptoRow, standIns := [], harness := (true, "7e8afff2ae47f114bd49d384dedb2635dd6b91778b20727717cc8939083ab443"), looks := false }, kinds := [], alts := [], laidByText := true, laidKinds := [.data], laidTests := true, laidLooks := .later }
def ExcuseTellsUptoCardSaid : Prop := Claim7.holds Tryd.pinned (.plain (OpenSpec.upto excuseTellsSpec)) excuseTellsUptoCard

/-- THE SECOND FORM's CARD OF 'crosswaylaw20.ExcuseNever'. -/
def excuseNeverUptoCard : Claim7 := { stood := { row := excuseNeverUptoRow, standIns := [], harness := (true, "7e8afff2ae47f114bd49d384dedb2635dd6b91778b20727717cc8939083ab443"), looks := false }, kinds := [], alts := [], laidByText := true, laidKinds := [.data], laidTests := true, laidLooks := .later }
def ExcuseNeverUptoCardSaid : Prop := Claim7.holds Tryd.pinned (.plain (OpenSpec.upto excuseNeverSpec)) excuseNeverUptoCard

/-- THE SECOND FORM's CARD OF 'crosswaylaw20.ExcuseBehind'. -/
def excuseBehindUptoCard : Claim7 := { stood := { row := excuseBehindUptoRow, standIns := [], harness := (true, "7e8afff2ae47f114bd49d384dedb2635dd6b91778b20727717cc8939083ab443"), looks := false }, kinds := [], alts := [], laidByText := true, laidKinds := [.data], laidTests := true, laidLooks := .later }
def ExcuseBehindUptoCardSaid : Prop := Claim7.holds Tryd.pinned (.plain (OpenSpec.upto excuseBehindSpec)) excuseBehindUptoCard

/-- THE SECOND FORM's CARD OF 'crosswaylaw20.ExcuseWhom'. -/
def excuseWhomUptoCard : Claim7 := { stood := { row := excuseWhomUptoRow, standIns := [], harness := (true, "7e8afff2ae47f114bd49d384dedb2635dd6b91778b20727717cc8939083ab443"), looks := false }, kinds := [], alts := [], laidByText := true, laidKinds := [.data], laidTests := true, laidLooks := .later }
def ExcuseWhomUptoCardSaid : Prop := Claim7.holds Tryd.pinned (.plain (OpenSpec.upto excuseWhomSpec)) excuseWhomUptoCard

/-- THE SECOND FORM's CARD OF 'crosswaylaw20.ExcuseQuotes'. -/
def excuseQuotesUptoCard : Claim7 := { stood := { row := excuseQuotesUptoRow, standIns := [], harness := (true, "7e8afff2ae47f114bd49d384dedb2635dd6b91778b20727717cc8939083ab443"), looks := false }, kinds := [], alts := [], laidByText := true, laidKinds := [.data], laidTests := true, laidLooks := .later }
def ExcuseQuotesUptoCardSaid : Prop := Claim7.holds Tryd.pinned (.plain (OpenSpec.upto excuseQuotesSpec)) excuseQuotesUptoCard
end Rows
end Go.Proofs.YtaoopneiglgnkaaDoor
