/-
  DERIVED. GIVEN WITH THE SEED: THE CARDS: each row of YtkhkemagkcjdoaaDoorRows.lean that lists a variable, with what it lists TIED to the program's text (the seventh form; the later family's looks); each row that meets fmt, with fmt's text TOLD by the authors' own Lean function (tested against real Go, not proved from fmt's source: count such statements apart). THE CARD IS WHAT COUNTS. Prove the row's statement (the work); the ties are given (YtkhkemagkcjdoaaDoorTie.lean); close each card by the builder's one call (the guide's Derived/Test/ToyasCard.lean, 'card_holds'). Laid BY PROGRAM, IN A SANDBOX (cutbox-door.mjs). By AI agents, Wed Nov 11 2026. No macro, syntax, notation, axiom, sorry.
-/
import Derived.Test.YtkhkemagkcjdoaaDoorRows
import GoSem.ClaimSeven
namespace Go.Proofs.YtkhkemagkcjdoaaDoor
namespace Rows

/-- THE TIED CARD OF 'conciergelaw26.ClientAsk'. -/
def clientAskCard : Claim7 := { stood := { row := clientAskRow, standIns := [], harness := (true, "4c608bea0966c8b66d174ea1e6d9be794ad4ed9030e17987011d13a1f1281cbe"), looks := true }, kinds := [], alts := [], laidByText := true, laidKinds := [.data, .pinned], laidTests := true, laidLooks := .later }
def ClientAskCardSaid : Prop := Claim7.holds Tryd.pinned (.plain (OpenSpec.ofChange clientAskSpec)) clientAskCard

/-- THE TIED CARD OF 'conciergelaw26.ClientBad'. -/
def clientBadCard : Claim7 := { stood := { row := clientBadRow, standIns := [], harness := (true, "4c608bea0966c8b66d174ea1e6d9be794ad4ed9030e17987011d13a1f1281cbe"), looks := true }, kinds := [], alts := [], laidByText := true, laidKinds := [.data, .pinned], laidTests := true, laidLooks := .later }
def ClientBadCardSaid : Prop := Claim7.holds Tryd.pinned (.plain (OpenSpec.ofChange clientBadSpec)) clientBadCard

/-- THE TIED CARD OF 'conciergelaw14.QueryKey'. -/
def queryKeyCard : Claim7 := { stood := { row := queryKeyRow, standIns := [], harness := (true, "4c608bea0966c8b66d174ea1e6d9be794ad4ed9030e17987011d13a1f1281cbe"), looks := true }, kinds := [], alts := [], laidByText := true, laidKinds := [.data, .data, .data, .data, .sentinel, .sentinel, .pinned], laidTests := true, laidLooks := .later }
def QueryKeyCardSaid : Prop := Claim7.holds Tryd.pinned (.plain (OpenSpec.ofChange queryKeySpec)) queryKeyCard

/-- THE TIED CARD OF 'conciergelaw14.QueryCheck'. -/
def queryCheckCard : Claim7 := { stood := { row := queryCheckRow, standIns := [], harness := (true, "4c608bea0966c8b66d174ea1e6d9be794ad4ed9030e17987011d13a1f1281cbe"), looks := true }, kinds := [], alts := [], laidByText := true, laidKinds := [.data, .data, .data, .data, .sentinel, .sentinel, .pinned], laidTests := true, laidLooks := .later }
def QueryCheckCardSaid : Prop := Claim7.holds Tryd.pinned (.plain (OpenSpec.ofChange queryCheckSpec)) queryCheckCard

/-- THE TIED CARD OF 'conciergelaw21.CacheLru'. -/
def cacheLruCard : Claim7 := { stood := { row := cacheLruRow, standIns := [], harness := (true, "4c608bea0966c8b66d174ea1e6d9be794ad4ed9030e17987011d13a1f1281cbe"), looks := true }, kinds := [], alts := [], laidByText := true, laidKinds := [.data, .data, .data, .data, .sentinel, .sentinel, .pinned], laidTests := true, laidLooks := .later }
def CacheLruCardSaid : Prop := Claim7.holds Tryd.pinned (.plain (OpenSpec.ofChange cacheLruSpec)) cacheLruCard

/-- THE TIED CARD OF 'conciergelaw3.AddrParse'. -/
def addrParseCard : Claim7 := { stood := { row := addrParseRow, standIns := [], harness := (true, "4c608bea0966c8b66d174ea1e6d9be794ad4ed9030e17987011d13a1f1281cbe"), looks := true }, kinds := [], alts := [], laidByText := true, laidKinds := [.data, .data, .data, .data, .sentinel, .sentinel, .pinned], laidTests := true, laidLooks := .later }
def AddrParseCardSaid : Prop := Claim7.holds Tryd.pinned (.plain (OpenSpec.ofChange addrParseSpec)) addrParseCard

/-- THE TIED CARD OF 'conciergelaw3.AddrPrint'. -/
def addrPrintCard : Claim7 := { stood := { row := addrPrintRow, standIns := [], harness := (true, "4c608bea0966c8b66d174ea1e6d9be794ad4ed9030e17987011d13a1f1281cbe"), looks := true }, kinds := [], alts := [], laidByText := true, laidKinds := [.data, .data, .data, .data, .sentinel, .sentinel, .pinned], laidTests := true, laidLooks := .later }
def AddrPrintCardSaid : Prop := Claim7.holds Tryd.pinned (.plain (OpenSpec.ofChange addrPrintSpec)) addrPrintCard

/-- THE TIED CARD OF 'conciergelaw3.AddrPrefix'. -/
def addrPrefixCard : Claim7 := { stood := { row := addrPrefixRow, standIns := [], harness := (true, "4c608bea0966c8b66d174ea1e6d9be794ad4ed9030e17987011d13a1f1281cbe"), looks := true }, kinds := [], alts := [], laidByText := true, laidKinds := [.data, .data, .data, .data, .sentinel, .sentinel, .pinned], laidTests := true, laidLooks := .later }
def AddrPrefixCardSaid : Prop := Claim7.holds Tryd.pinned (.plain (OpenSpec.ofChange addrPrefixSpec)) addrPrefixCard

/-- THE SECOND FORM's CARD OF 'conciergelaw26.ClientAsk'. -/
def clientAskUptoCard : Claim7 := { stood := { row := clientAskUptoRow, standIns := [], harness := (true, "4c608bea0966c8b66d174ea1e6d9be794ad4ed9030e17987011d13a1f1281cbe"), looks := true }, kinds := [], alts := [], laidByText := true, laidKinds := [.data, .pinned], laidTests := true, laidLooks := .later }
def ClientAskUptoCardSaid : Prop := Claim7.holds Tryd.pinned (.plain (OpenSpec.upto clientAskSpec)) clientAskUptoCard

/-- THE SECOND FORM's CARD OF 'conciergelaw26.ClientBad'. -/
def clientBadUptoCard : Claim7 := { stood := { row := clientBadUptoRow, standIns := [], harness := (true, "4c608bea0966c8b66d174ea1e6d9be794ad4ed9030e17987011d13a1f1281cbe"), looks := true }, kinds := [], alts := [], laidByText := true, laidKinds := [.data, .pinned], laidTests := true, laidLooks := .later }
def ClientBadUptoCardSaid : Prop := Claim7.holds Tryd.pinned (.plain (OpenSpec.upto clientBadSpec)) clientBadUptoCard

/-- THE SECOND FORM's CARD OF 'conciergelaw14.QueryKey'. -/
def queryKeyUptoCard : Claim7 := { stood := { row := queryKeyUptoRow, standIns := [], harness := (true, "4c608bea0966c8b66d174ea1e6d9be794ad4ed9030e17987011d13a1f1281cbe"), looks := true }, kinds := [], alts := [], laidByText := true, laidKinds := [.data, .data, .data, .data, .sentinel, .sentinel, .pinned], laidTests := true, laidLooks := .later }
def QueryKeyUptoCardSaid : Prop := Claim7.holds Tryd.pinned (.plain (OpenSpec.upto queryKeySpec)) queryKeyUptoCard

/-- THE SECOND FORM's CARD OF 'conciergelaw14.QueryCheck'. -/
def queryCheckUptoCard : Claim7 := { stood := { row := queryCheckUptoRow, standIns := [], harness := (true, "4c608bea0966c8b66d174ea1e6d9be794ad4ed9030e17987011d13a1f1281cbe"), looks := true }, kinds := [], alts := [], laidByText := true, laidKinds := [.data, .data, .data, .data, .sentinel, .sentinel, .pinned], laidTests := true, laidLooks := .later }
def QueryCheckUptoCardSaid : Prop := Claim7.holds Tryd.pinned (.plain (OpenSpec.upto queryCheckSpec)) queryCheckUptoCard

/-- THE SECOND FORM's CARD OF 'conciergelaw21.CacheLru'. -/
def cacheLruUptoCard : Claim7 := { stood := { row := cacheLruUptoRow, standIns := [], harness := (true, "4c608bea0966c8b66d174ea1e6d9be794ad4ed9030e17987011d13a1f1281cbe"), looks := true }, kinds := [], alts := [], laidByText := true, laidKinds := [.data, .data, .data, .data, .sentinel, .sentinel, .pinned], laidTests := true, laidLooks := .later }
def CacheLruUptoCardSaid : Prop := Claim7.holds Tryd.pinned (.plain (OpenSpec.upto cacheLruSpec)) cacheLruUptoCard

/-- THE SECOND FORM's CARD OF 'conciergelaw3.AddrParse'. -/
def addrParseUptoCard : Claim7 := { stood := { row := addrParseUptoRow, standIns := [], harness := (true, "4c608bea0966c8b66d174ea1e6d9be794ad4ed9030e17987011d13a1f1281cbe"), looks := true }, kinds := [], alts := [], laidByText := true, laidKinds := [.data, .data, .data, .data, .sentinel, .sentinel, .pinned], laidTests := true, laidLooks := .later }
def AddrParseUptoCardSaid : Prop := Claim7.holds Tryd.pinned (.plain (OpenSpec.upto addrParseSpec)) addrParseUptoCard

/-- THE SECOND FORM's CARD OF 'conciergelaw3.AddrPrint'. -/
def addrPrintUptoCard : Claim7 := { stood := { row := addrPrintUptoRow, standIns := [], harness := (true, "4c608bea0966c8b66d174ea1e6d9be794ad4ed9030e17987011d13a1f1281cbe"), looks := true }, kinds := [], alts := [], laidByText := true, laidKinds := [.data, .data, .data, .data, .sentinel, .sentinel, .pinned], laidTests := true, laidLooks := .later }
def AddrPrintUptoCardSaid : Prop := Claim7.holds Tryd.pinned (.plain (OpenSpec.upto addrPrintSpec)) addrPrintUptoCard

/-- THE SECOND FORM's CARD OF 'conciergelaw3.AddrPrefix'. -/
def addrPrefixUptoCard : Claim7 := { stood := { row := addrPrefixUptoRow, standIns := [], harness := (true, "4c608bea0966c8b66d174ea1e6d9be794ad4ed9030e17987011d13a1f1281cbe"), looks := true }, kinds := [], alts := [], laidByText := true, laidKinds := [.data, .data, .data, .data, .sentinel, .sentinel, .pinned], laidTests := true, laidLooks := .later }
def AddrPrefixUptoCardSaid : Prop := Claim7.holds Tryd.pinned (.plain (OpenSpec.upto addrPrefixSpec)) addrPrefixUptoCard
end Rows
end Go.Proofs.YtkhkemagkcjdoaaDoor
