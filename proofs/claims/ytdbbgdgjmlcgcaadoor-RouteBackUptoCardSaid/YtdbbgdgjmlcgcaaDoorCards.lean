/-
  DERIVED. GIVEN WITH THE SEED: THE CARDS: each row of YtdbbgdgjmlcgcaaDoorRows.lean that lists a variable, with what it lists TIED to the program's text (the seventh form; the later family's looks); each row that meets fmt, with fmt's text TOLD by the authors' own Lean function (tested against real Go, not proved from fmt's source: count such statements apart). THE CARD IS WHAT COUNTS. Prove the row's statement (the work); the ties are given (YtdbbgdgjmlcgcaaDoorTie.lean); close each card by the builder's one call (the guide's Derived/Test/ToyasCard.lean, 'card_holds'). Laid BY PROGRAM, IN A SANDBOX (cutbox-door.mjs). By AI agents, Wed Nov 11 2026. No macro, syntax, notation, axiom, sorry.
-/
import Derived.Test.YtdbbgdgjmlcgcaaDoorRows
import GoSem.ClaimSeven
namespace Go.Proofs.YtdbbgdgjmlcgcaaDoor
namespace Rows

/-- THE TIED CARD OF 'atriumlaw20.RouteSplits'. -/
def routeSplitsCard : Claim7 := { stood := { row := routeSplitsRow, standIns := [], harness := (true, "8f94ef841cd07b06aebe5badb57cef398a95db50a08f6a7ffb1ca73970e850c2"), looks := false }, kinds := [], alts := [], laidByText := true, laidKinds := [.data, .pinned], laidTests := true, laidLooks := .later }
def RouteSplitsCardSaid : Prop := Claim7.holds Tryd.pinned (.plain (OpenSpec.ofChange routeSplitsSpec)) routeSplitsCard

/-- THE TIED CARD OF 'atriumlaw20.RouteOnce'. -/
def routeOnceCard : Claim7 := { stood := { row := routeOnceRow, standIns := [], harness := (true, "8f94ef841cd07b06aebe5badb57cef398a95db50a08f6a7ffb1ca73970e850c2"), looks := false }, kinds := [], alts := [], laidByText := true, laidKinds := [.data, .pinned], laidTests := true, laidLooks := .later }
def RouteOnceCardSaid : Prop := Claim7.holds Tryd.pinned (.plain (OpenSpec.ofChange routeOnceSpec)) routeOnceCard

/-- THE TIED CARD OF 'atriumlaw20.RouteEscapes'. -/
def routeEscapesCard : Claim7 := { stood := { row := routeEscapesRow, standIns := [], harness := (true, "8f94ef841cd07b06aebe5badb57cef398a95db50a08f6a7ffb1ca73970e850c2"), looks := false }, kinds := [], alts := [], laidByText := true, laidKinds := [.data, .pinned], laidTests := true, laidLooks := .later }
def RouteEscapesCardSaid : Prop := Claim7.holds Tryd.pinned (.plain (OpenSpec.ofChange routeEscapesSpec)) routeEscapesCard

/-- THE TIED CARD OF 'atriumlaw20.RouteBack'. -/
def routeBackCard : Claim7 := { stood := { row := routeBackRow, standIns := [], harness := (true, "8f94ef841cd07b06aebe5badb57cef398a95db50a08f6a7ffb1ca73970e850c2"), looks := false }, kinds := [], alts := [], laidByText := true, laidKinds := [.data, .data, .data, .data, .pinned], laidTests := true, laidLooks := .later }
def RouteBackCardSaid : Prop := Claim7.holds Tryd.pinned (.plain (OpenSpec.ofChange routeBackSpec)) routeBackCard

/-- THE SECOND FORM's CARD OF 'atriumlaw20.RouteSplits'. -/
def routeSplitsUptoCard : Claim7 := { stood := { row := routeSplitsUptoRow, standIns := [], harness := (true, "8f94ef841cd07b06aebe5badb57cef398a95db50a08f6a7ffb1ca73970e850c2"), looks := false }, kinds := [], alts := [], laidByText := true, laidKinds := [.data, .pinned], laidTests := true, laidLooks := .later }
def RouteSplitsUptoCardSaid : Prop := Claim7.holds Tryd.pinned (.plain (OpenSpec.upto routeSplitsSpec)) routeSplitsUptoCard

/-- THE SECOND FORM's CARD OF 'atriumlaw20.RouteOnce'. -/
def routeOnceUptoCard : Claim7 := { stood := { row := routeOnceUptoRow, standIns := [], harness := (true, "8f94ef841cd07b06aebe5badb57cef398a95db50a08f6a7ffb1ca73970e850c2"), looks := false }, kinds := [], alts := [], laidByText := true, laidKinds := [.data, .pinned], laidTests := true, laidLooks := .later }
def RouteOnceUptoCardSaid : Prop := Claim7.holds Tryd.pinned (.plain (OpenSpec.upto routeOnceSpec)) routeOnceUptoCard

/-- THE SECOND FORM's CARD OF 'atriumlaw20.RouteEscapes'. -/
def routeEscapesUptoCard : Claim7 := { stood := { row := routeEscapesUptoRow, standIns := [], harness := (true, "8f94ef841cd07b06aebe5badb57cef398a95db50a08f6a7ffb1ca73970e850c2"), looks := false }, kinds := [], alts := [], laidByText := true, laidKinds := [.data, .pinned], laidTests := true, laidLooks := .later }
def RouteEscapesUptoCardSaid : Prop := Claim7.holds Tryd.pinned (.plain (OpenSpec.upto routeEscapesSpec)) routeEscapesUptoCard

/-- THE SECOND FORM's CARD OF 'atriumlaw20.RouteBack'. -/
def routeBackUptoCard : Claim7 := { stood := { row := routeBackUptoRow, standIns := [], harness := (true, "8f94ef841cd07b06aebe5badb57cef398a95db50a08f6a7ffb1ca73970e850c2"), looks := false }, kinds := [], alts := [], laidByText := true, laidKinds := [.data, .data, .data, .data, .pinned], laidTests := true, laidLooks := .later }
def RouteBackUptoCardSaid : Prop := Claim7.holds Tryd.pinned (.plain (OpenSpec.upto routeBackSpec)) routeBackUptoCard
end Rows
end Go.Proofs.YtdbbgdgjmlcgcaaDoor
