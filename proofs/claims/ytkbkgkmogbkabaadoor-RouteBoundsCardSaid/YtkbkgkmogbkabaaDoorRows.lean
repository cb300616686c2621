/-
  NARROWER THAN 'FOR EVERY INPUT', by the rows' own cells (each row's printed sentence says how): RouteTreeChecks: laid · RouteMoats: laid · RouteMore: laid · RouteRoads: laid · RouteBounds: laid · RouteTrees: laid · RoutePairs: laid · RouteTwice: laid.
  DERIVED. THE GIVEN ROWS OF THIS SEAT. 8 by the template 'for every input the law returns true; each argument reads behind the call as it read before'; 0 by the template 'total and deterministic' (their statements: YtkbkgkmogbkabaaDoorTotals.lean).
  GIVEN WITH THE SEED: the statements are not yours to turn. If you find one false, say at which input.
  Laid BY PROGRAM, IN A SANDBOX (cutbox-rows.mjs): the forced cells as the released guide's own fill.sh prints them over the translation faa660e5be9cc6f3… (all of the seat's roots in one cut). By AI agents, Wed Nov 11 2026. No macro, syntax, notation, axiom, sorry.
-/
import Derived.Test.YtkbkgkmogbkabaaDoorChecked
import GoSem.Claim
import GoSem.ClaimJoined
import GoSem.ClaimMapViews
import Derived.JoinedTies
import Derived.KernelRfl
namespace Go.Proofs.YtkbkgkmogbkabaaDoor
/- THE CELL 'sum', in the pinned program and in every row, IS THE sha256 OF THE DUMP (.gsa) THAT YtkbkgkmogbkabaaDoorProg.lean LOADS. Nothing in Lean hashes anything: it is a label: what it is worth is what the hold of that sum in a sandbox is worth. -/
noncomputable def Tryd.pinned : Pinned := { name := "ytkbkgkmogbkabaadoor", sum := "faa660e5be9cc6f3fd3c064372cce39d3847be712f91f3ff3f1502b5eafba155", checked := Tryd.checked }
namespace Rows
def none {H : Type} : Left H := { results := [], args := [] }

/- WHAT THE LISTED PACKAGE-LEVEL VARIABLES READ AS WHEN THE CALL BEGINS. Each datum BY PROGRAM (the guide's laid-datum.mjs) off the statement by which the dump's own 'gosem.cut.vars' lays the variable. In a bare row this is a premise. The card (YtkbkgkmogbkabaaDoorCards.lean) ties it to the program's text. -/
def laid_math_bits_deBruijn32tab {H : Type} : DataW H := .agg [.lit (.int .u8 0), .lit (.int .u8 1), .lit (.int .u8 28), .lit (.int .u8 2), .lit (.int .u8 29), .lit (.int .u8 14), .lit (.int .u8 24), .lit (.int .u8 3), .lit (.int .u8 30), .lit (.int .u8 22), .lit (.int .u8 20), .lit (.int .u8 15), .lit (.int .u8 25), .lit (.int .u8 17), .lit (.int .u8 4), .lit (.int .u8 8), .lit (.int .u8 31), .lit (.int .u8 27), .lit (.int .u8 13), .lit (.int .u8 23), .lit (.int .u8 21), .lit (.int .u8 19), .lit (.int .u8 16), .lit (.int .u8 7), .lit (.int .u8 26), .lit (.int .u8 12), .lit (.int .u8 18), .lit (.int .u8 6), .lit (.int .u8 11), .lit (.int .u8 5), .lit (.int .u8 10), .lit (.int .u8 9)]
def laid_math_bits_deBruijn64tab {H : Type} : DataW H := .agg [.lit (.int .u8 0), .lit (.int .u8 1), .lit (.int .u8 56), .lit (.int .u8 2), .lit (.int .u8 57), .lit (.int .u8 49), .lit (.int .u8 28), .lit (.int .u8 3), .lit (.int .u8 61), .lit (.int .u8 58), .lit (.int .u8 42), .lit (.int .u8 50), .lit (.int .u8 38), .lit (.int .u8 29), .lit (.int .u8 17), .lit (.int .u8 4), .lit (.int .u8 62), .lit (.int .u8 47), .lit (.int .u8 59), .lit (.int .u8 36), .lit (.int .u8 45), .lit (.int .u8 43), .lit (.int .u8 51), .lit (.int .u8 22), .lit (.int .u8 53), .lit (.int .u8 39), .lit (.int .u8 33), .lit (.int .u8 30), .lit (.int .u8 24), .lit (.int .u8 18), .lit (.int .u8 12), .lit (.int .u8 5), .lit (.int .u8 63), .lit (.int .u8 55), .lit (.int .u8 48), .lit (.int .u8 27), .lit (.int .u8 60), .lit (.int .u8 41), .lit (.int .u8 37), .lit (.int .u8 16), .lit (.int .u8 46), .lit (.int .u8 35), .lit (.int .u8 44), .lit (.int .u8 21), .lit (.int .u8 52), .lit (.int .u8 32), .lit (.int .u8 23), .lit (.int .u8 11), .lit (.int .u8 54), .lit (.int .u8 26), .lit (.int .u8 40), .lit (.int .u8 15), .lit (.int .u8 34), .lit (.int .u8 20), .lit (.int .u8 31), .lit (.int .u8 10), .lit (.int .u8 25), .lit (.int .u8 14), .lit (.int .u8 19), .lit (.int .u8 9), .lit (.int .u8 13), .lit (.int .u8 8), .lit (.int .u8 7), .lit (.int .u8 6)]

/-- 'corrodylaw05.RouteTreeChecks': WHATEVER THE INPUT: true; the input reads as it did. -/
def routeTreeChecksSpec : ChangeSpec := { name := "routeTreeChecks", fn := fun _ => fun
  | [d1, d2, d3] => { results := [.lit (.bool true)], args := [d1, d2, d3] }
  | _ => none }
def routeTreeChecksRow : OpenClaim := { program := "ytkbkgkmogbkabaadoor", sum := "faa660e5be9cc6f3fd3c064372cce39d3847be712f91f3ff3f1502b5eafba155", func := "corrody/corrodylaw05.RouteTreeChecks", spec := "routeTreeChecks", unfollowed := true, recurses := true, named := ["math/bits.deBruijn32tab", "math/bits.deBruijn64tab"], apart := false, laid := [("math/bits.deBruijn32tab", laid_math_bits_deBruijn32tab), ("math/bits.deBruijn64tab", laid_math_bits_deBruijn64tab)] }
def RouteTreeChecksSaid : Prop := routeTreeChecksRow.holds Tryd.pinned (OpenSpec.ofChange routeTreeChecksSpec)

/-- ITS FALSE NEIGHBOUR: 'it returns false'. Refute it at one input. -/
def routeTreeChecksWrong : ChangeSpec := { name := "routeTreeChecks", fn := fun _ => fun
  | [d1, d2, d3] => { results := [.lit (.bool false)], args := [d1, d2, d3] }
  | _ => none }
def RouteTreeChecksWrongFalsely : Prop := routeTreeChecksRow.holds Tryd.pinned (OpenSpec.ofChange routeTreeChecksWrong)

/-- 'corrodylaw05.RouteMoats': WHATEVER THE INPUT: true; the input reads as it did. -/
def routeMoatsSpec : ChangeSpec := { name := "routeMoats", fn := fun _ => fun
  | [d1, d2] => { results := [.lit (.bool true)], args := [d1, d2] }
  | _ => none }
def routeMoatsRow : OpenClaim := { program := "ytkbkgkmogbkabaadoor", sum := "faa660e5be9cc6f3fd3c064372cce39d3847be712f91f3ff3f1502b5eafba155", func := "corrody/corrodylaw05.RouteMoats", spec := "routeMoats", unfollowed := true, recurses := true, named := ["math/bits.deBruijn32tab", "math/bits.deBruijn64tab"], apart := false, laid := [("math/bits.deBruijn32tab", laid_math_bits_deBruijn32tab), ("math/bits.deBruijn64tab", laid_math_bits_deBruijn64tab)] }
def RouteMoatsSaid : Prop := routeMoatsRow.holds Tryd.pinned (OpenSpec.ofChange routeMoatsSpec)

/-- ITS FALSE NEIGHBOUR: 'it returns false'. Refute it at one input. -/
def routeMoatsWrong : ChangeSpec := { name := "routeMoats", fn := fun _ => fun
  | [d1, d2] => { results := [.lit (.bool false)], args := [d1, d2] }
  | _ => none }
def RouteMoatsWrongFalsely : Prop := routeMoatsRow.holds Tryd.pinned (OpenSpec.ofChange routeMoatsWrong)

/-- 'corrodylaw05.RouteMore': WHATEVER THE INPUT: true; the input reads as it did. -/
def routeMoreSpec : ChangeSpec := { name := "routeMore", fn := fun _ => fun
  | [d1, d2, d3] => { results := [.lit (.bool true)], args := [d1, d2, d3] }
  | _ => none }
def routeMoreRow : OpenClaim := { program := "ytkbkgkmogbkabaadoor", sum := "faa660e5be9cc6f3fd3c064372cce39d3847be712f91f3ff3f1502b5eafba155", func := "corrody/corrodylaw05.RouteMore", spec := "routeMore", unfollowed := true, recurses := true, named := ["math/bits.deBruijn32tab", "math/bits.deBruijn64tab"], apart := false, laid := [("math/bits.deBruijn32tab", laid_math_bits_deBruijn32tab), ("math/bits.deBruijn64tab", laid_math_bits_deBruijn64tab)] }
def RouteMoreSaid : Prop := routeMoreRow.holds Tryd.pinned (OpenSpec.ofChange routeMoreSpec)

/-- ITS FALSE NEIGHBOUR: 'it returns false'. Refute it at one input. -/
def routeMoreWrong : ChangeSpec := { name := "routeMore", fn := fun _ => fun
  | [d1, d2, d3] => { results := [.lit (.bool false)], args := [d1, d2, d3] }
  | _ => none }
def RouteMoreWrongFalsely : Prop := routeMoreRow.holds Tryd.pinned (OpenSpec.ofChange routeMoreWrong)

/-- 'corrodylaw05.RouteRoads': WHATEVER THE INPUT: true; the input reads as it did. -/
def routeRoadsSpec : ChangeSpec := { name := "routeRoads", fn := fun _ => fun
  | [d1, d2, d3] => { results := [.lit (.bool true)], args := [d1, d2, d3] }
  | _ => none }
def routeRoadsRow : OpenClaim := { program := "ytkbkgkmogbkabaadoor", sum := "faa660e5be9cc6f3fd3c064372cce39d3847be712f91f3ff3f1502b5eafba155", func := "corrody/corrodylaw05.RouteRoads", spec := "routeRoads", unfollowed := true, recurses := true, named := ["math/bits.deBruijn32tab", "math/bits.deBruijn64tab"], apart := false, laid := [("math/bits.deBruijn32tab", laid_math_bits_deBruijn32tab), ("math/bits.deBruijn64tab", laid_math_bits_deBruijn64tab)] }
def RouteRoadsSaid : Prop := routeRoadsRow.holds Tryd.pinned (OpenSpec.ofChange routeRoadsSpec)

/-- ITS FALSE NEIGHBOUR: 'it returns false'. Refute it at one input. -/
def routeRoadsWrong : ChangeSpec := { name := "routeRoads", fn := fun _ => fun
  | [d1, d2, d3] => { results := [.lit (.bool false)], args := [d1, d2, d3] }
  | _ => none }
def RouteRoadsWrongFalsely : Prop := routeRoadsRow.holds Tryd.pinned (OpenSpec.ofChange routeRoadsWrong)

/-- 'corrodylaw05.RouteBounds': WHATEVER THE INPUT: true; the input reads as it did. -/
def routeBoundsSpec : ChangeSpec := { name := "routeBounds", fn := fun _ => fun
  | [d1, d2, d3, d4] => { results := [.lit (.bool true)], args := [d1, d2, d3, d4] }
  | _ => none }
def routeBoundsRow : OpenClaim := { program := "ytkbkgkmogbkabaadoor", sum := "faa660e5be9cc6f3fd3c064372cce39d3847be712f91f3ff3f1502b5eafba155", func := "corrody/corrodylaw05.RouteBounds", spec := "routeBounds", unfollowed := true, recurses := true, named := ["math/bits.deBruijn32tab", "math/bits.deBruijn64tab"], apart := false, laid := [("math/bits.deBruijn32tab", laid_math_bits_deBruijn32tab), ("math/bits.deBruijn64tab", laid_math_bits_deBruijn64tab)] }
def RouteBoundsSaid : Prop := routeBoundsRow.holds Tryd.pinned (OpenSpec.ofChange routeBoundsSpec)

/-- ITS FALSE NEIGHBOUR: 'it returns false'. Refute it at one input. -/
def routeBoundsWrong : ChangeSpec := { name := "routeBounds", fn := fun _ => fun
  | [d1, d2, d3, d4] => { results := [.lit (.bool false)], args := [d1, d2, d3, d4] }
  | _ => none }
def RouteBoundsWrongFalsely : Prop := routeBoundsRow.holds Tryd.pinned (OpenSpec.ofChange routeBoundsWrong)

/-- 'corrodylaw05.RouteTrees': WHATEVER THE INPUT: true; the input reads as it did. -/
def routeTreesSpec : ChangeSpec := { name := "routeTrees", fn := fun _ => fun
  | [d1, d2] => { results := [.lit (.bool true)], args := [d1, d2] }
  | _ => none }
def routeTreesRow : OpenClaim := { program := "ytkbkgkmogbkabaadoor", sum := "faa660e5be9cc6f3fd3c064372cce39d3847be712f91f3ff3f1502b5eafba155", func := "corrody/corrodylaw05.RouteTrees", spec := "routeTrees", unfollowed := true, recurses := true, named := ["math/bits.deBruijn32tab", "math/bits.deBruijn64tab"], apart := false, laid := [("math/bits.deBruijn32tab", laid_math_bits_deBruijn32tab), ("math/bits.deBruijn64tab", laid_math_bits_deBruijn64tab)] }
def RouteTreesSaid : Prop := routeTreesRow.holds Tryd.pinned (OpenSpec.ofChange routeTreesSpec)

/-- ITS FALSE NEIGHBOUR: 'it returns false'. Refute it at one input. -/
def routeTreesWrong : ChangeSpec := { name := "routeTrees", fn := fun _ => fun
  | [d1, d2] => { results := [.lit (.bool false)], args := [d1, d2] }
  | _ => none }
def RouteTreesWrongFalsely : Prop := routeTreesRow.holds Tryd.pinned (OpenSpec.ofChange routeTreesWrong)

/-- 'corrodylaw05.RoutePairs': WHATEVER THE INPUT: true; the input reads as it did. -/
def routePairsSpec : ChangeSpec := { name := "routePairs", fn := fun _ => fun
  | [d1, d2, d3] => { results := [.lit (.bool true)], args := [d1, d2, d3] }
  | _ => none }
def routePairsRow : OpenClaim := { program := "ytkbkgkmogbkabaadoor", sum := "faa660e5be9cc6f3fd3c064372cce39d3847be712f91f3ff3f1502b5eafba155", func := "corrody/corrodylaw05.RoutePairs", spec := "routePairs", unfollowed := true, recurses := true, named := ["math/bits.deBruijn32tab", "math/bits.deBruijn64tab"], apart := false, laid := [("math/bits.deBruijn32tab", laid_math_bits_deBruijn32tab), ("math/bits.deBruijn64tab", laid_math_bits_deBruijn64tab)] }
def RoutePairsSaid : Prop := routePairsRow.holds Tryd.pinned (OpenSpec.ofChange routePairsSpec)

/-- ITS FALSE NEIGHBOUR: 'it returns false'. Refute it at one input. -/
def routePairsWrong : ChangeSpec := { name := "routePairs", fn := fun _ => fun
  | [d1, d2, d3] => { results := [.lit (.bool false)], args := [d1, d2, d3] }
  | _ => none }
def RoutePairsWrongFalsely : Prop := routePairsRow.holds Tryd.pinned (OpenSpec.ofChange routePairsWrong)

/-- 'corrodylaw05.RouteTwice': WHATEVER THE INPUT: true; the input reads as it did. -/
def routeTwiceSpec : ChangeSpec := { name := "routeTwice", fn := fun _ => fun
  | [d1, d2] => { results := [.lit (.bool true)], args := [d1, d2] }
  | _ => none }
def routeTwiceRow : OpenClaim := { program := "ytkbkgkmogbkabaadoor", sum := "faa660e5be9cc6f3fd3c064372cce39d3847be712f91f3ff3f1502b5eafba155", func := "corrody/corrodylaw05.RouteTwice", spec := "routeTwice", unfollowed := true, recurses := true, named := ["math/bits.deBruijn32tab", "math/bits.deBruijn64tab"], apart := false, laid := [("math/bits.deBruijn32tab", laid_math_bits_deBruijn32tab), ("math/bits.deBruijn64tab", laid_math_bits_deBruijn64tab)] }
def RouteTwiceSaid : Prop := routeTwiceRow.holds Tryd.pinned (OpenSpec.ofChange routeTwiceSpec)

/-- ITS FALSE NEIGHBOUR: 'it returns false'. Refute it at one input. -/
def routeTwiceWrong : ChangeSpec := { name := "routeTwice", fn := fun _ => fun
  | [d1, d2] => { results := [.lit (.bool false)], args := [d1, d2] }
  | _ => none }
def RouteTwiceWrongFalsely : Prop := routeTwiceRow.holds Tryd.pinned (OpenSpec.ofChange routeTwiceWrong)

/- THE SECOND FORM. 'bulk': how many values and letters a reading holds, each counted each time it is reached (what is shared counts as often as it is met; a slice's spare places count too). A statement '..UptoSaid' is the law's where the arguments, and the package variables that the reading takes, are together of bulk at most 1048576: NARROWER than '..Said'. Prove '..Said' where nothing that the law and all that it calls make is longer than what came in: it says more and counts as full. Else prove '..UptoSaid'. A law counts once. -/
mutual
def uptoBulk {H : Type} : DataW H → Nat
  | .lit (.string bytes) => bytes.length + 1
  | .lit _ => 1
  | .nil => 1
  | .ptr d => uptoBulk d + 1
  | .slice elems spare => uptoBulkAll elems + uptoBulkAll spare + 1
  | .agg parts => uptoBulkAll parts + 1
  | .iface _ d => uptoBulk d + 1
  | .map entries => uptoBulkEntries entries + 1
  | .held _ => 1
def uptoBulkAll {H : Type} : List (DataW H) → Nat
  | [] => 0
  | d :: r => uptoBulk d + uptoBulkAll r
def uptoBulkEntries {H : Type} : List (Lit × DataW H) → Nat
  | [] => 0
  | x :: r => uptoBulkEntry x + uptoBulkEntries r
def uptoBulkEntry {H : Type} : Lit × DataW H → Nat
  | (.string bytes, d) => bytes.length + uptoBulk d + 1
  | (_, d) => uptoBulk d + 1
 end
def uptoSmall : (H : Type) → List (DataW H) → Bool := fun _ ds => decide (uptoBulkAll ds ≤ 1048576)
def OpenSpec.upto (s : _root_.Go.ChangeSpec) : _root_.Go.OpenSpec := { _root_.Go.OpenSpec.ofChange s with cond := some uptoSmall }

/-- 'corrodylaw05.RouteTreeChecks', WHERE WHAT IT READS IS OF BULK AT MOST 1048576: true; the input reads as it did. -/
def routeTreeChecksUptoRow : OpenClaim := { program := "ytkbkgkmogbkabaadoor", sum := "faa660e5be9cc6f3fd3c064372cce39d3847be712f91f3ff3f1502b5eafba155", func := "corrody/corrodylaw05.RouteTreeChecks", spec := "routeTreeChecks", unfollowed := true, recurses := true, named := ["math/bits.deBruijn32tab", "math/bits.deBruijn64tab"], apart := false, laid := [("math/bits.deBruijn32tab", laid_math_bits_deBruijn32tab), ("math/bits.deBruijn64tab", laid_math_bits_deBruijn64tab)], narrowed := true }
def RouteTreeChecksUptoSaid : Prop := routeTreeChecksUptoRow.holds Tryd.pinned (OpenSpec.upto routeTreeChecksSpec)

/-- 'corrodylaw05.RouteMoats', WHERE WHAT IT READS IS OF BULK AT MOST 1048576: true; the input reads as it did. -/
def routeMoatsUptoRow : OpenClaim := { program := "ytkbkgkmogbkabaadoor", sum := "faa660e5be9cc6f3fd3c064372cce39d3847be712f91f3ff3f1502b5eafba155", func := "corrody/corrodylaw05.RouteMoats", spec := "routeMoats", unfollowed := true, recurses := true, named := ["math/bits.deBruijn32tab", "math/bits.deBruijn64tab"], apart := false, laid := [("math/bits.deBruijn32tab", laid_math_bits_deBruijn32tab), ("math/bits.deBruijn64tab", laid_math_bits_deBruijn64tab)], narrowed := true }
def RouteMoatsUptoSaid : Prop := routeMoatsUptoRow.holds Tryd.pinned (OpenSpec.upto routeMoatsSpec)

/-- 'corrodylaw05.RouteMore', WHERE WHAT IT READS IS OF BULK AT MOST 1048576: true; the input reads as it did. -/
def routeMoreUptoRow : OpenClaim := { program := "ytkbkgkmogbkabaadoor", sum := "faa660e5be9cc6f3fd3c064372cce39d3847be712f91f3ff3f1502b5eafba155", func := "corrody/corrodylaw05.RouteMore", spec := "routeMore", unfollowed := true, recurses := true, named := ["math/bits.deBruijn32tab", "math/bits.deBruijn64tab"], apart := false, laid := [("math/bits.deBruijn32tab", laid_math_bits_deBruijn32tab), ("math/bits.deBruijn64tab", laid_math_bits_deBruijn64tab)], narrowed := true }
def RouteMoreUptoSaid : Prop := routeMoreUptoRow.holds Tryd.pinned (OpenSpec.upto routeMoreSpec)

/-- 'corrodylaw05.RouteRoads', WHERE WHAT IT READS IS OF BULK AT MOST 1048576: true; the input reads as it did. -/
def routeRoadsUptoRow : OpenClaim := { program := "ytkbkgkmogbkabaadoor", sum := "faa660e5be9cc6f3fd3c064372cce39d3847be712f91f3ff3f1502b5eafba155", func := "corrody/corrodylaw05.RouteRoads", spec := "routeRoads", unfollowed := true, recurses := true, named := ["math/bits.deBruijn32tab", "math/bits.deBruijn64tab"], apart := false, laid := [("math/bits.deBruijn32tab", laid_math_bits_deBruijn32tab), ("math/bits.deBruijn64tab", laid_math_bits_deBruijn64tab)], narrowed := true }
def RouteRoadsUptoSaid : Prop := routeRoadsUptoRow.holds Tryd.pinned (OpenSpec.upto routeRoadsSpec)

/-- 'corrodylaw05.RouteBounds', WHERE WHAT IT READS IS OF BULK AT MOST 1048576: true; the input reads as it did. -/
def routeBoundsUptoRow : OpenClaim := { program := "ytkbkgkmogbkabaadoor", sum := "faa660e5be9cc6f3fd3c064372cce39d3847be712f91f3ff3f1502b5eafba155", func := "corrody/corrodylaw05.RouteBounds", spec := "routeBounds", unfollowed := true, recurses := true, named := ["math/bits.deBruijn32tab", "math/bits.deBruijn64tab"], apart := false, laid := [("math/bits.deBruijn32tab", laid_math_bits_deBruijn32tab), ("math/bits.deBruijn64tab", laid_math_bits_deBruijn64tab)], narrowed := true }
def RouteBoundsUptoSaid : Prop := routeBoundsUptoRow.holds Tryd.pinned (OpenSpec.upto routeBoundsSpec)

/-- 'corrodylaw05.RouteTrees', WHERE WHAT IT READS IS OF BULK AT MOST 1048576: true; the input reads as it did. -/
def routeTreesUptoRow : OpenClaim := { program := "ytkbkgkmogbkabaadoor", sum := "faa660e5be9cc6f3fd3c064372cce39d3847be712f91f3ff3f1502b5eafba155", func := "corrody/corrodylaw05.RouteTrees", spec := "routeTrees", unfollowed := true, recurses := true, named := ["math/bits.deBruijn32tab", "math/bits.deBruijn64tab"], apart := false, laid := [("math/bits.deBruijn32tab", laid_math_bits_deBruijn32tab), ("math/bits.deBruijn64tab", laid_math_bits_deBruijn64tab)], narrowed := true }
def RouteTreesUptoSaid : Prop := routeTreesUptoRow.holds Tryd.pinned (OpenSpec.upto routeTreesSpec)

/-- 'corrodylaw05.RoutePairs', WHERE WHAT IT READS IS OF BULK AT MOST 1048576: true; the input reads as it did. -/
def routePairsUptoRow : OpenClaim := { program := "ytkbkgkmogbkabaadoor", sum := "faa660e5be9cc6f3fd3c064372cce39d3847be712f91f3ff3f1502b5eafba155", func := "corrody/corrodylaw05.RoutePairs", spec := "routePairs", unfollowed := true, recurses := true, named := ["math/bits.deBruijn32tab", "math/bits.deBruijn64tab"], apart := false, laid := [("math/bits.deBruijn32tab", laid_math_bits_deBruijn32tab), ("math/bits.deBruijn64tab", laid_math_bits_deBruijn64tab)], narrowed := true }
def RoutePairsUptoSaid : Prop := routePairsUptoRow.holds Tryd.pinned (OpenSpec.upto routePairsSpec)

/-- 'corrodylaw05.RouteTwice', WHERE WHAT IT READS IS OF BULK AT MOST 1048576: true; the input reads as it did. -/
def routeTwiceUptoRow : OpenClaim := { program := "ytkbkgkmogbkabaadoor", sum := "faa660e5be9cc6f3fd3c064372cce39d3847be712f91f3ff3f1502b5eafba155", func := "corrody/corrodylaw05.RouteTwice", spec := "routeTwice", unfollowed := true, recurses := true, named := ["math/bits.deBruijn32tab", "math/bits.deBruijn64tab"], apart := false, laid := [("math/bits.deBruijn32tab", laid_math_bits_deBruijn32tab), ("math/bits.deBruijn64tab", laid_math_bits_deBruijn64tab)], narrowed := true }
def RouteTwiceUptoSaid : Prop := routeTwiceUptoRow.holds Tryd.pinned (OpenSpec.upto routeTwiceSpec)

end Rows
end Go.Proofs.YtkbkgkmogbkabaaDoor
