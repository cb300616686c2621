/-
  DERIVED. GIVEN WITH THE SEED: THE CARDS: each row of YtkbkgkmogbkabaaDoorRows.lean that lists a variable, with what it lists TIED to the program's text (the seventh form; the later family's looks); each row that meets fmt, with fmt's text TOLD by the authors' own Lean function (tested against real Go, not proved from fmt's source: count such statements apart). THE CARD IS WHAT COUNTS. Prove the row's statement (the work); the ties are given (YtkbkgkmogbkabaaDoorTie.lean); close each card by the builder's one call (the guide's Derived/Test/ToyasCard.lean, 'card_holds'). Laid BY PROGRAM, IN A SANDBOX (cutbox-door.mjs). By AI agents, Wed Nov 11 2026. No macro, syntax, notation, axiom, sorry.
-/
import Derived.Test.YtkbkgkmogbkabaaDoorRows
import GoSem.ClaimSeven
namespace Go.Proofs.YtkbkgkmogbkabaaDoor
namespace Rows

/-- THE TIED CARD OF 'corrodylaw05.RouteTreeChecks'. -/
def routeTreeChecksCard : Claim7 := { stood := { row := routeTreeChecksRow, standIns := [], harness := (true, "21947a5a87ddc905c2c0e4241b411cf4012465f53c335e9effae5daa1c3095b2"), looks := false }, kinds := [], alts := [], laidByText := true, laidKinds := [.data, .data], laidTests := true, laidLooks := .later }
def RouteTreeChecksCardSaid : Prop := Claim7.holds Tryd.pinned (.plain (OpenSpec.ofChange routeTreeChecksSpec)) routeTreeChecksCard

/-- THE TIED CARD OF 'corrodylaw05.RouteMoats'. -/
def routeMoatsCard : Claim7 := { stood := { row := routeMoatsRow, standIns := [], harness := (true, "21947a5a87ddc905c2c0e4241b411cf4012465f53c335e9effae5daa1c3095b2"), looks := false }, kinds := [], alts := [], laidByText := true, laidKinds := [.data, .data], laidTests := true, laidLooks := .later }
def RouteMoatsCardSaid : Prop := Claim7.holds Tryd.pinned (.plain (OpenSpec.ofChange routeMoatsSpec)) routeMoatsCard

/-- THE TIED CARD OF 'corrodylaw05.RouteMore'. -/
def routeMoreCard : Claim7 := { stood := { row := routeMoreRow, standIns := [], harness := (true, "21947a5a87ddc905c2c0e4241b411cf4012465f53c335e9effae5daa1c3095b2"), looks := false }, kinds := [], alts := [], laidByText := true, laidKinds := [.data, .data], laidTests := true, laidLooks := .later }
def RouteMoreCardSaid : Prop := Claim7.holds Tryd.pinned (.plain (OpenSpec.ofChange routeMoreSpec)) routeMoreCard

/-- THE TIED CARD OF 'corrodylaw05.RouteRoads'. -/
def routeRoadsCard : Claim7 := { stood := { row := routeRoadsRow, standIns := [], harness := (true, "21947a5a87ddc905c2c0e4241b411cf4012465f53c335e9effae5daa1c3095b2"), looks := false }, kinds := [], alts := [], laidByText := true, laidKinds := [.data, .data], laidTests := true, laidLooks := .later }
def RouteRoadsCardSaid : Prop := Claim7.holds Tryd.pinned (.plain (OpenSpec.ofChange routeRoadsSpec)) routeRoadsCard

/-- THE TIED CARD OF 'corrodylaw05.RouteBounds'. -/
def routeBoundsCard : Claim7 := { stood := { row := routeBoundsRow, standIns := [], harness := (true, "21947a5a87ddc905c2c0e4241b411cf4012465f53c335e9effae5daa1c3095b2"), looks := false }, kinds := [], alts := [], laidByText := true, laidKinds := [.data, .data], laidTests := true, laidLooks := .later }
def RouteBoundsCardSaid : Prop := Claim7.holds Tryd.pinned (.plain (OpenSpec.ofChange routeBoundsSpec)) routeBoundsCard

/-- THE TIED CARD OF 'corrodylaw05.RouteTrees'. -/
def routeTreesCard : Claim7 := { stood := { row := routeTreesRow, standIns := [], harness := (true, "21947a5a87ddc905c2c0e4241b411cf4012465f53c335e9effae5daa1c3095b2"), looks := false }, kinds := [], alts := [], laidByText := true, laidKinds := [.data, .data], laidTests := true, laidLooks := .later }
def RouteTreesCardSaid : Prop := Claim7.holds Tryd.pinned (.plain (OpenSpec.ofChange routeTreesSpec)) routeTreesCard

/-- THE TIED CARD OF 'corrodylaw05.RoutePairs'. -/
def routePairsCard : Claim7 := { stood := { row := routePairsRow, standIns := [], harness := (true, "21947a5a87ddc905c2c0e4241b411cf4012465f53c335e9effae5daa1c3095b2"), looks := false }, kinds := [], alts := [], laidByText := true, laidKinds := [.data, .data], laidTests := true, laidLooks := .later }
def RoutePairsCardSaid : Prop := Claim7.holds Tryd.pinned (.plain (OpenSpec.ofChange routePairsSpec)) routePairsCard

/-- THE TIED CARD OF 'corrodylaw05.RouteTwice'. -/
def routeTwiceCard : Claim7 := { stood := { row := routeTwiceRow, standIns := [], harness := (true, "21947a5a87ddc905c2c0e4241b411cf4012465f53c335e9effae5daa1c3095b2"), looks := false }, kinds := [], alts := [], laidByText := true, laidKinds := [.data, .data], laidTests := true, laidLooks := .later }
def RouteTwiceCardSaid : Prop := Claim7.holds Tryd.pinned (.plain (OpenSpec.ofChange routeTwiceSpec)) routeTwiceCard

/-- THE SECOND FORM's CARD OF 'corrodylaw05.RouteTreeChecks'. -/
def routeTreeChecksUptoCard : Claim7 := { stood := { row := routeTreeChecksUptoRow, standIns := [], harness := (true, "21947a5a87ddc905c2c0e4241b411cf4012465f53c335e9effae5daa1c3095b2"), looks := false }, kinds := [], alts := [], laidByText := true, laidKinds := [.data, .data], laidTests := true, laidLooks := .later }
def RouteTreeChecksUptoCardSaid : Prop := Claim7.holds Tryd.pinned (.plain (OpenSpec.upto routeTreeChecksSpec)) routeTreeChecksUptoCard

/-- THE SECOND FORM's CARD OF 'corrodylaw05.RouteMoats'. -/
def routeMoatsUptoCard : Claim7 := { stood := { row := routeMoatsUptoRow, standIns := [], harness := (true, "21947a5a87ddc905c2c0e4241b411cf4012465f53c335e9effae5daa1c3095b2"), looks := false }, kinds := [], alts := [], laidByText := true, laidKinds := [.data, .data], laidTests := true, laidLooks := .later }
def RouteMoatsUptoCardSaid : Prop := Claim7.holds Tryd.pinned (.plain (OpenSpec.upto routeMoatsSpec)) routeMoatsUptoCard

/-- THE SECOND FORM's CARD OF 'corrodylaw05.RouteMore'. -/
def routeMoreUptoCard : Claim7 := { stood := { row := routeMoreUptoRow, standIns := [], harness := (true, "21947a5a87ddc905c2c0e4241b411cf4012465f53c335e9effae5daa1c3095b2"), looks := false }, kinds := [], alts := [], laidByText := true, laidKinds := [.data, .data], laidTests := true, laidLooks := .later }
def RouteMoreUptoCardSaid : Prop := Claim7.holds Tryd.pinned (.plain (OpenSpec.upto routeMoreSpec)) routeMoreUptoCard

/-- THE SECOND FORM's CARD OF 'corrodylaw05.RouteRoads'. -/
def routeRoadsUptoCard : Claim7 := { stood := { row := routeRoadsUptoRow, standIns := [], harness := (true, "21947a5a87ddc905c2c0e4241b411cf4012465f53c335e9effae5daa1c3095b2"), looks := false }, kinds := [], alts := [], laidByText := true, laidKinds := [.data, .data], laidTests := true, laidLooks := .later }
def RouteRoadsUptoCardSaid : Prop := Claim7.holds Tryd.pinned (.plain (OpenSpec.upto routeRoadsSpec)) routeRoadsUptoCard

/-- THE SECOND FORM's CARD OF 'corrodylaw05.RouteBounds'. -/
def routeBoundsUptoCard : Claim7 := { stood := { row := routeBoundsUptoRow, standIns := [], harness := (true, "21947a5a87ddc905c2c0e4241b411cf4012465f53c335e9effae5daa1c3095b2"), looks := false }, kinds := [], alts := [], laidByText := true, laidKinds := [.data, .data], laidTests := true, laidLooks := .later }
def RouteBoundsUptoCardSaid : Prop := Claim7.holds Tryd.pinned (.plain (OpenSpec.upto routeBoundsSpec)) routeBoundsUptoCard

/-- THE SECOND FORM's CARD OF 'corrodylaw05.RouteTrees'. -/
def routeTreesUptoCard : Claim7 := { stood := { row := routeTreesUptoRow, standIns := [], harness := (true, "21947a5a87ddc905c2c0e4241b411cf4012465f53c335e9effae5daa1c3095b2"), looks := false }, kinds := [], alts := [], laidByText := true, laidKinds := [.data, .data], laidTests := true, laidLooks := .later }
def RouteTreesUptoCardSaid : Prop := Claim7.holds Tryd.pinned (.plain (OpenSpec.upto routeTreesSpec)) routeTreesUptoCard

/-- THE SECOND FORM's CARD OF 'corrodylaw05.RoutePairs'. -/
def routePairsUptoCard : Claim7 := { stood := { row := routePairsUptoRow, standIns := [], harness := (true, "21947a5a87ddc905c2c0e4241b411cf4012465f53c335e9effae5daa1c3095b2"), looks := false }, kinds := [], alts := [], laidByText := true, laidKinds := [.data, .data], laidTests := true, laidLooks := .later }
def RoutePairsUptoCardSaid : Prop := Claim7.holds Tryd.pinned (.plain (OpenSpec.upto routePairsSpec)) routePairsUptoCard

/-- THE SECOND FORM's CARD OF 'corrodylaw05.RouteTwice'. -/
def routeTwiceUptoCard : Claim7 := { stood := { row := routeTwiceUptoRow, standIns := [], harness := (true, "21947a5a87ddc905c2c0e4241b411cf4012465f53c335e9effae5daa1c3095b2"), looks := false }, kinds := [], alts := [], laidByText := true, laidKinds := [.data, .data], laidTests := true, laidLooks := .later }
def RouteTwiceUptoCardSaid : Prop := Claim7.holds Tryd.pinned (.plain (OpenSpec.upto routeTwiceSpec)) routeTwiceUptoCard
end Rows
end Go.Proofs.YtkbkgkmogbkabaaDoor
