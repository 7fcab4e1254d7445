/-
  DERIVED. GIVEN WITH THE SEED: THE CARDS: each row of YthajbaheejdoaaaDoorRows.lean that lists a variable, with what it lists TIED to the program's text (the seventh form; the later family's looks); each row that meets fmt, with fmt's text TOLD by the authors' own Lean function (tested against real Go, not proved from fmt's source: count such statements apart). THE CARD IS WHAT COUNTS. Prove the row's statement (the work); the ties are given (YthajbaheejdoaaaDoorTie.lean); close each card by the builder's one call (the guide's Derived/Test/ToyasCard.lean, 'card_holds'). Laid BY PROGRAM, IN A SANDBOX (cutbox-door.mjs). By AI agents, Wed Nov 11 2026. No macro, syntax, notation, axiom, sorry.
-/
import Derived.Test.YthajbaheejdoaaaDoorRows
import GoSem.ClaimSeven
namespace Go.Proofs.YthajbaheejdoaaaDoor
namespace Rows

/-- THE TIED CARD OF 'crosswaylaw05.EtherLays'. -/
def etherLaysCard : Claim7 := { stood := { row := etherLaysRow, standIns := [], harness := (true, "5f6968a78fa7e2216de845a4c7f2fef6a39fbdf0001c37973d76d050df8dcd75"), looks := false }, kinds := [], alts := [], laidByText := true, laidKinds := [.data], laidTests := true, laidLooks := .later }
def EtherLaysCardSaid : Prop := Claim7.holds Tryd.pinned (.plain (OpenSpec.ofChange etherLaysSpec)) etherLaysCard

/-- THE TIED CARD OF 'crosswaylaw05.EtherTakes'. -/
def etherTakesCard : Claim7 := { stood := { row := etherTakesRow, standIns := [], harness := (true, "5f6968a78fa7e2216de845a4c7f2fef6a39fbdf0001c37973d76d050df8dcd75"), looks := false }, kinds := [], alts := [], laidByText := true, laidKinds := [.data], laidTests := true, laidLooks := .later }
def EtherTakesCardSaid : Prop := Claim7.holds Tryd.pinned (.plain (OpenSpec.ofChange etherTakesSpec)) etherTakesCard

/-- THE TIED CARD OF 'crosswaylaw05.EtherBack'. -/
def etherBackCard : Claim7 := { stood := { row := etherBackRow, standIns := [], harness := (true, "5f6968a78fa7e2216de845a4c7f2fef6a39fbdf0001c37973d76d050df8dcd75"), looks := false }, kinds := [], alts := [], laidByText := true, laidKinds := [.data], laidTests := true, laidLooks := .later }
def EtherBackCardSaid : Prop := Claim7.holds Tryd.pinned (.plain (OpenSpec.ofChange etherBackSpec)) etherBackCard

/-- THE TIED CARD OF 'crosswaylaw05.EtherAgain'. -/
def etherAgainCard : Claim7 := { stood := { row := etherAgainRow, standIns := [], harness := (true, "5f6968a78fa7e2216de845a4c7f2fef6a39fbdf0001c37973d76d050df8dcd75"), looks := false }, kinds := [], alts := [], laidByText := true, laidKinds := [.data], laidTests := true, laidLooks := .later }
def EtherAgainCardSaid : Prop := Claim7.holds Tryd.pinned (.plain (OpenSpec.ofChange etherAgainSpec)) etherAgainCard

/-- THE TIED CARD OF 'crosswaylaw05.EtherAsks'. -/
def etherAsksCard : Claim7 := { stood := { row := etherAsksRow, standIns := [], harness := (true, "5f6968a78fa7e2216de845a4c7f2fef6a39fbdf0001c37973d76d050df8dcd75"), looks := false }, kinds := [], alts := [], laidByText := true, laidKinds := [.data], laidTests := true, laidLooks := .later }
def EtherAsksCardSaid : Prop := Claim7.holds Tryd.pinned (.plain (OpenSpec.ofChange etherAsksSpec)) etherAsksCard

/-- THE TIED CARD OF 'crosswaylaw05.EtherMacs'. -/
def etherMacsCard : Claim7 := { stood := { row := etherMacsRow, standIns := [], harness := (true, "5f6968a78fa7e2216de845a4c7f2fef6a39fbdf0001c37973d76d050df8dcd75"), looks := false }, kinds := [], alts := [], laidByText := true, laidKinds := [.data], laidTests := true, laidLooks := .later }
def EtherMacsCardSaid : Prop := Claim7.holds Tryd.pinned (.plain (OpenSpec.ofChange etherMacsSpec)) etherMacsCard

/-- THE TIED CARD OF 'crosswaylaw05.EtherGroups'. -/
def etherGroupsCard : Claim7 := { stood := { row := etherGroupsRow, standIns := [], harness := (true, "5f6968a78fa7e2216de845a4c7f2fef6a39fbdf0001c37973d76d050df8dcd75"), looks := false }, kinds := [], alts := [], laidByText := true, laidKinds := [.data], laidTests := true, laidLooks := .later }
def EtherGroupsCardSaid : Prop := Claim7.holds Tryd.pinned (.plain (OpenSpec.ofChange etherGroupsSpec)) etherGroupsCard

/-- THE SECOND FORM's CARD OF 'crosswaylaw05.EtherLays'. -/
def etherLaysUptoCard : Claim7 := { stood := { row := etherLaysUptoRow, standIns := [], harness := (true, "5f6968a78fa7e2216de845a4c7f2fef6a39fbdf0001c37973d76d050df8dcd75"), looks := false }, kinds := [], alts := [], laidByText := true, laidKinds := [.data], laidTests := true, laidLooks := .later }
def EtherLaysUptoCardSaid : Prop := Claim7.holds Tryd.pinned (.plain (OpenSpec.upto etherLaysSpec)) etherLaysUptoCard

/-- THE SECOND FORM's CARD OF 'crosswaylaw05.EtherTakes'. -/
def etherTakesUptoCard : Claim7 := { stood := { row := etherTakesUptoRow, standIns := [], harness := (true, "5f6968a78fa7e2216de845a4c7f2fef6a39fbdf0001c37973d76d050df8dcd75"), looks := false }, kinds := [], alts := [], laidByText := true, laidKinds := [.data], laidTests := true, laidLooks := .later }
def EtherTakesUptoCardSaid : Prop := Claim7.holds Tryd.pinned (.plain (OpenSpec.upto etherTakesSpec)) etherTakesUptoCard

/-- THE SECOND FORM's CARD OF 'crosswaylaw05.EtherBack'. -/
def etherBackUptoCard : Claim7 := { stood := { row := etherBackUptoRow, standIns := [], harness := (true, "5f6968a78fa7e2216de845a4c7f2fef6a39fbdf0001c37973d76d050df8dcd75"), looks := false }, kinds := [], alts := [], laidByText := true, laidKinds := [.data], laidTests := true, laidLooks := .later }
def EtherBackUptoCardSaid : Prop := Claim7.holds Tryd.pinned (.plain (OpenSpec.upto etherBackSpec)) etherBackUptoCard

/-- THE SECOND FORM's CARD OF 'crosswaylaw05.EtherAgain'. -/
def etherAgainUptoCard : Claim7 := { stood := { row := etherAgainUptoRow, standIns := [], harness := (true, "5f6968a78fa7e2216de845a4c7f2fef6a39fbdf0001c37973d76d050df8dcd75"), looks := false }, kinds := [], alts := [], laidByText := true, laidKinds := [.data], laidTests := true, laidLooks := .later }
def EtherAgainUptoCardSaid : Prop := Claim7.holds Tryd.pinned (.plain (OpenSpec.upto etherAgainSpec)) etherAgainUptoCard

/-- THE SECOND FORM's CARD OF 'crosswaylaw05.EtherAsks'. -/
def etherAsksUptoCard : Claim7 := { stood := { row := etherAsksUptoRow, standIns := [], harness := (true, "5f6968a78fa7e2216de845a4c7f2fef6a39fbdf0001c37973d76d050df8dcd75"), looks := false }, kinds := [], alts := [], laidByText := true, laidKinds := [.data], laidTests := true, laidLooks := .later }
def EtherAsksUptoCardSaid : Prop := Claim7.holds Tryd.pinned (.plain (OpenSpec.upto etherAsksSpec)) etherAsksUptoCard

/-- THE SECOND FORM's CARD OF 'crosswaylaw05.EtherMacs'. -/
def etherMacsUptoCard : Claim7 := { stood := { row := etherMacsUptoRow, standIns := [], harness := (true, "5f6968a78fa7e2216de845a4c7f2fef6a39fbdf0001c37973d76d050df8dcd75"), looks := false }, kinds := [], alts := [], laidByText := true, laidKinds := [.data], laidTests := true, laidLooks := .later }
def EtherMacsUptoCardSaid : Prop := Claim7.holds Tryd.pinned (.plain (OpenSpec.upto etherMacsSpec)) etherMacsUptoCard

/-- THE SECOND FORM's CARD OF 'crosswaylaw05.EtherGroups'. -/
def etherGroupsUptoCard : Claim7 := { stood := { row := etherGroupsUptoRow, standIns := [], harness := (true, "5f6968a78fa7e2216de845a4c7f2fef6a39fbdf0001c37973d76d050df8dcd75"), looks := false }, kinds := [], alts := [], laidByText := true, laidKinds := [.data], laidTests := true, laidLooks := .later }
def EtherGroupsUptoCardSaid : Prop := Claim7.holds Tryd.pinned (.plain (OpenSpec.upto etherGroupsSpec)) etherGroupsUptoCard
end Rows
end Go.Proofs.YthajbaheejdoaaaDoor
