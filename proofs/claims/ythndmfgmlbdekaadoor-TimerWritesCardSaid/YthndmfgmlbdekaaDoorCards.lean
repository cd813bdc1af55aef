/-
  DERIVED. GIVEN WITH THE SEED: THE CARDS: each row of YthndmfgmlbdekaaDoorRows.lean that lists a variable, with what it lists TIED to the program's text (the seventh form; the later family's looks); each row that meets fmt, with fmt's text TOLD by the authors' own Lean function (tested against real Go, not proved from fmt's source: count such statements apart). THE CARD IS WHAT COUNTS. Prove the row's statement (the work); the ties are given (YthndmfgmlbdekaaDoorTie.lean); close each card by the builder's one call (the guide's Derived/Test/ToyasCard.lean, 'card_holds'). Laid BY PROGRAM, IN A SANDBOX (cutbox-door.mjs). By AI agents, Wed Nov 11 2026. No macro, syntax, notation, axiom, sorry.
-/
import Derived.Test.YthndmfgmlbdekaaDoorRows
import GoSem.ClaimSeven
namespace Go.Proofs.YthndmfgmlbdekaaDoor
namespace Rows

/-- THE TIED CARD OF 'tandemlaw6.TimerWrites'. -/
def timerWritesCard : Claim7 := { stood := { row := timerWritesRow, standIns := [], harness := (true, "35ec18fb3aee945779c81a2fc891d4a2461140bca9546071ae418f2a32167178"), looks := false }, kinds := [], alts := [], laidByText := true, laidKinds := [.data], laidTests := true, laidLooks := .later }
def TimerWritesCardSaid : Prop := Claim7.holds Tryd.pinned (.plain (OpenSpec.ofChange timerWritesSpec)) timerWritesCard

/-- THE TIED CARD OF 'tandemlaw6.TimerReads'. -/
def timerReadsCard : Claim7 := { stood := { row := timerReadsRow, standIns := [], harness := (true, "35ec18fb3aee945779c81a2fc891d4a2461140bca9546071ae418f2a32167178"), looks := false }, kinds := [], alts := [], laidByText := true, laidKinds := [.data], laidTests := true, laidLooks := .later }
def TimerReadsCardSaid : Prop := Claim7.holds Tryd.pinned (.plain (OpenSpec.ofChange timerReadsSpec)) timerReadsCard

/-- THE TIED CARD OF 'tandemlaw6.TimerAdvances'. -/
def timerAdvancesCard : Claim7 := { stood := { row := timerAdvancesRow, standIns := [], harness := (true, "35ec18fb3aee945779c81a2fc891d4a2461140bca9546071ae418f2a32167178"), looks := false }, kinds := [], alts := [], laidByText := true, laidKinds := [.data, .data, .data], laidTests := true, laidLooks := .later }
def TimerAdvancesCardSaid : Prop := Claim7.holds Tryd.pinned (.plain (OpenSpec.ofChange timerAdvancesSpec)) timerAdvancesCard

/-- THE TIED CARD OF 'tandemlaw6.TimerApart'. -/
def timerApartCard : Claim7 := { stood := { row := timerApartRow, standIns := [], harness := (true, "35ec18fb3aee945779c81a2fc891d4a2461140bca9546071ae418f2a32167178"), looks := false }, kinds := [], alts := [], laidByText := true, laidKinds := [.data, .data, .data], laidTests := true, laidLooks := .later }
def TimerApartCardSaid : Prop := Claim7.holds Tryd.pinned (.plain (OpenSpec.ofChange timerApartSpec)) timerApartCard

/-- THE TIED CARD OF 'tandemlaw6.TimerSums'. -/
def timerSumsCard : Claim7 := { stood := { row := timerSumsRow, standIns := [], harness := (true, "35ec18fb3aee945779c81a2fc891d4a2461140bca9546071ae418f2a32167178"), looks := false }, kinds := [], alts := [], laidByText := true, laidKinds := [.data, .data, .data], laidTests := true, laidLooks := .later }
def TimerSumsCardSaid : Prop := Claim7.holds Tryd.pinned (.plain (OpenSpec.ofChange timerSumsSpec)) timerSumsCard

/-- THE TIED CARD OF 'tandemlaw6.TimerPeriods'. -/
def timerPeriodsCard : Claim7 := { stood := { row := timerPeriodsRow, standIns := [], harness := (true, "35ec18fb3aee945779c81a2fc891d4a2461140bca9546071ae418f2a32167178"), looks := false }, kinds := [], alts := [], laidByText := true, laidKinds := [.data, .data, .data], laidTests := true, laidLooks := .later }
def TimerPeriodsCardSaid : Prop := Claim7.holds Tryd.pinned (.plain (OpenSpec.ofChange timerPeriodsSpec)) timerPeriodsCard

/-- THE TIED CARD OF 'tandemlaw6.TimerOnce'. -/
def timerOnceCard : Claim7 := { stood := { row := timerOnceRow, standIns := [], harness := (true, "35ec18fb3aee945779c81a2fc891d4a2461140bca9546071ae418f2a32167178"), looks := false }, kinds := [], alts := [], laidByText := true, laidKinds := [.data, .data, .data], laidTests := true, laidLooks := .later }
def TimerOnceCardSaid : Prop := Claim7.holds Tryd.pinned (.plain (OpenSpec.ofChange timerOnceSpec)) timerOnceCard

/-- THE TIED CARD OF 'tandemlaw6.TimerTicks'. -/
def timerTicksCard : Claim7 := { stood := { row := timerTicksRow, standIns := [], harness := (true, "35ec18fb3aee945779c81a2fc891d4a2461140bca9546071ae418f2a32167178"), looks := false }, kinds := [], alts := [], laidByText := true, laidKinds := [.data, .data, .data], laidTests := true, laidLooks := .later }
def TimerTicksCardSaid : Prop := Claim7.holds Tryd.pinned (.plain (OpenSpec.ofChange timerTicksSpec)) timerTicksCard

/-- THE TIED CARD OF 'tandemlaw6.TimerLatches'. -/
def timerLatchesCard : Claim7 := { stood := { row := timerLatchesRow, standIns := [], harness := (true, "35ec18fb3aee945779c81a2fc891d4a2461140bca9546071ae418f2a32167178"), looks := false }, kinds := [], alts := [], laidByText := true, laidKinds := [.data, .data, .data], laidTests := true, laidLooks := .later }
def TimerLatchesCardSaid : Prop := Claim7.holds Tryd.pinned (.plain (OpenSpec.ofChange timerLatchesSpec)) timerLatchesCard

/-- THE TIED CARD OF 'tandemlaw6.TimerNexts'. -/
def timerNextsCard : Claim7 := { stood := { row := timerNextsRow, standIns := [], harness := (true, "35ec18fb3aee945779c81a2fc891d4a2461140bca9546071ae418f2a32167178"), looks := false }, kinds := [], alts := [], laidByText := true, laidKinds := [.data, .data, .data], laidTests := true, laidLooks := .later }
def TimerNextsCardSaid : Prop := Claim7.holds Tryd.pinned (.plain (OpenSpec.ofChange timerNextsSpec)) timerNextsCard

/-- THE TIED CARD OF 'tandemlaw6.TimerFrames'. -/
def timerFramesCard : Claim7 := { stood := { row := timerFramesRow, standIns := [], harness := (true, "35ec18fb3aee945779c81a2fc891d4a2461140bca9546071ae418f2a32167178"), looks := false }, kinds := [], alts := [], laidByText := true, laidKinds := [.data, .data, .data], laidTests := true, laidLooks := .later }
def TimerFramesCardSaid : Prop := Claim7.holds Tryd.pinned (.plain (OpenSpec.ofChange timerFramesSpec)) timerFramesCard

/-- THE TIED CARD OF 'tandemlaw6.TimerFives'. -/
def timerFivesCard : Claim7 := { stood := { row := timerFivesRow, standIns := [], harness := (true, "35ec18fb3aee945779c81a2fc891d4a2461140bca9546071ae418f2a32167178"), looks := false }, kinds := [], alts := [], laidByText := true, laidKinds := [.data, .data, .data], laidTests := true, laidLooks := .later }
def TimerFivesCardSaid : Prop := Claim7.holds Tryd.pinned (.plain (OpenSpec.ofChange timerFivesSpec)) timerFivesCard

/-- THE TIED CARD OF 'tandemlaw6.TimerPlays'. -/
def timerPlaysCard : Claim7 := { stood := { row := timerPlaysRow, standIns := [], harness := (true, "35ec18fb3aee945779c81a2fc891d4a2461140bca9546071ae418f2a32167178"), looks := false }, kinds := [], alts := [], laidByText := true, laidKinds := [.data, .data, .data], laidTests := true, laidLooks := .later }
def TimerPlaysCardSaid : Prop := Claim7.holds Tryd.pinned (.plain (OpenSpec.ofChange timerPlaysSpec)) timerPlaysCard

/-- THE TIED CARD OF 'tandemlaw6.TimerKeeps'. -/
def timerKeepsCard : Claim7 := { stood := { row := timerKeepsRow, standIns := [], harness := (true, "35ec18fb3aee945779c81a2fc891d4a2461140bca9546071ae418f2a32167178"), looks := false }, kinds := [], alts := [], laidByText := true, laidKinds := [.data, .data, .data], laidTests := true, laidLooks := .later }
def TimerKeepsCardSaid : Prop := Claim7.holds Tryd.pinned (.plain (OpenSpec.ofChange timerKeepsSpec)) timerKeepsCard

/-- THE SECOND FORM's CARD OF 'tandemlaw6.TimerWrites'. -/
def timerWritesUptoCard : Claim7 := { stood := { row := timerWritesUptoRow, standIns := [], harness := (true, "35ec18fb3aee945779c81a2fc891d4a2461140bca9546071ae418f2a32167178"), looks := false }, kinds := [], alts := [], laidByText := true, laidKinds := [.data], laidTests := true, laidLooks := .later }
def TimerWritesUptoCardSaid : Prop := Claim7.holds Tryd.pinned (.plain (OpenSpec.upto timerWritesSpec)) timerWritesUptoCard

/-- THE SECOND FORM's CARD OF 'tandemlaw6.TimerReads'. -/
def timerReadsUptoCard : Claim7 := { stood := { row := timerReadsUptoRow, standIns := [], harness := (true, "35ec18fb3aee945779c81a2fc891d4a2461140bca9546071ae418f2a32167178"), looks := false }, kinds := [], alts := [], laidByText := true, laidKinds := [.data], laidTests := true, laidLooks := .later }
def TimerReadsUptoCardSaid : Prop := Claim7.holds Tryd.pinned (.plain (OpenSpec.upto timerReadsSpec)) timerReadsUptoCard

/-- THE SECOND FORM's CARD OF 'tandemlaw6.TimerAdvances'. -/
def timerAdvancesUptoCard : Claim7 := { stood := { row := timerAdvancesUptoRow, standIns := [], harness := (true, "35ec18fb3aee945779c81a2fc891d4a2461140bca9546071ae418f2a32167178"), looks := false }, kinds := [], alts := [], laidByText := true, laidKinds := [.data, .data, .data], laidTests := true, laidLooks := .later }
def TimerAdvancesUptoCardSaid : Prop := Claim7.holds Tryd.pinned (.plain (OpenSpec.upto timerAdvancesSpec)) timerAdvancesUptoCard

/-- THE SECOND FORM's CARD OF 'tandemlaw6.TimerApart'. -/
def timerApartUptoCard : Claim7 := { stood := { row := timerApartUptoRow, standIns := [], harness := (true, "35ec18fb3aee945779c81a2fc891d4a2461140bca9546071ae418f2a32167178"), looks := false }, kinds := [], alts := [], laidByText := true, laidKinds := [.data, .data, .data], laidTests := true, laidLooks := .later }
def TimerApartUptoCardSaid : Prop := Claim7.holds Tryd.pinned (.plain (OpenSpec.upto timerApartSpec)) timerApartUptoCard

/-- THE SECOND FORM's CARD OF 'tandemlaw6.TimerSums'. -/
def timerSumsUptoCard : Claim7 := { stood := { row := timerSumsUptoRow, standIns := [], harness := (true, "35ec18fb3aee945779c81a2fc891d4a2461140bca9546071ae418f2a32167178"), looks := false }, kinds := [], alts := [], laidByText := true, laidKinds := [.data, .data, .data], laidTests := true, laidLooks := .later }
def TimerSumsUptoCardSaid : Prop := Claim7.holds Tryd.pinned (.plain (OpenSpec.upto timerSumsSpec)) timerSumsUptoCard

/-- THE SECOND FORM's CARD OF 'tandemlaw6.TimerPeriods'. -/
def timerPeriodsUptoCard : Claim7 := { stood := { row := timerPeriodsUptoRow, standIns := [], harness := (true, "35ec18fb3aee945779c81a2fc891d4a2461140bca9546071ae418f2a32167178"), looks := false }, kinds := [], alts := [], laidByText := true, laidKinds := [.data, .data, .data], laidTests := true, laidLooks := .later }
def TimerPeriodsUptoCardSaid : Prop := Claim7.holds Tryd.pinned (.plain (OpenSpec.upto timerPeriodsSpec)) timerPeriodsUptoCard

/-- THE SECOND FORM's CARD OF 'tandemlaw6.TimerOnce'. -/
def timerOnceUptoCard : Claim7 := { stood := { row := timerOnceUptoRow, standIns := [], harness := (true, "35ec18fb3aee945779c81a2fc891d4a2461140bca9546071ae418f2a32167178"), looks := false }, kinds := [], alts := [], laidByText := true, laidKinds := [.data, .data, .data], laidTests := true, laidLooks := .later }
def TimerOnceUptoCardSaid : Prop := Claim7.holds Tryd.pinned (.plain (OpenSpec.upto timerOnceSpec)) timerOnceUptoCard

/-- THE SECOND FORM's CARD OF 'tandemlaw6.TimerTicks'. -/
def timerTicksUptoCard : Claim7 := { stood := { row := timerTicksUptoRow, standIns := [], harness := (true, "35ec18fb3aee945779c81a2fc891d4a2461140bca9546071ae418f2a32167178"), looks := false }, kinds := [], alts := [], laidByText := true, laidKinds := [.data, .data, .data], laidTests := true, laidLooks := .later }
def TimerTicksUptoCardSaid : Prop := Claim7.holds Tryd.pinned (.plain (OpenSpec.upto timerTicksSpec)) timerTicksUptoCard

/-- THE SECOND FORM's CARD OF 'tandemlaw6.TimerLatches'. -/
def timerLatchesUptoCard : Claim7 := { stood := { row := timerLatchesUptoRow, standIns := [], harness := (true, "35ec18fb3aee945779c81a2fc891d4a2461140bca9546071ae418f2a32167178"), looks := false }, kinds := [], alts := [], laidByText := true, laidKinds := [.data, .data, .data], laidTests := true, laidLooks := .later }
def TimerLatchesUptoCardSaid : Prop := Claim7.holds Tryd.pinned (.plain (OpenSpec.upto timerLatchesSpec)) timerLatchesUptoCard

/-- THE SECOND FORM's CARD OF 'tandemlaw6.TimerNexts'. -/
def timerNextsUptoCard : Claim7 := { stood := { row := timerNextsUptoRow, standIns := [], harness := (true, "35ec18fb3aee945779c81a2fc891d4a2461140bca9546071ae418f2a32167178"), looks := false }, kinds := [], alts := [], laidByText := true, laidKinds := [.data, .data, .data], laidTests := true, laidLooks := .later }
def TimerNextsUptoCardSaid : Prop := Claim7.holds Tryd.pinned (.plain (OpenSpec.upto timerNextsSpec)) timerNextsUptoCard

/-- THE SECOND FORM's CARD OF 'tandemlaw6.TimerFrames'. -/
def timerFramesUptoCard : Claim7 := { stood := { row := timerFramesUptoRow, standIns := [], harness := (true, "35ec18fb3aee945779c81a2fc891d4a2461140bca9546071ae418f2a32167178"), looks := false }, kinds := [], alts := [], laidByText := true, laidKinds := [.data, .data, .data], laidTests := true, laidLooks := .later }
def TimerFramesUptoCardSaid : Prop := Claim7.holds Tryd.pinned (.plain (OpenSpec.upto timerFramesSpec)) timerFramesUptoCard

/-- THE SECOND FORM's CARD OF 'tandemlaw6.TimerFives'. -/
def timerFivesUptoCard : Claim7 := { stood := { row := timerFivesUptoRow, standIns := [], harness := (true, "35ec18fb3aee945779c81a2fc891d4a2461140bca9546071ae418f2a32167178"), looks := false }, kinds := [], alts := [], laidByText := true, laidKinds := [.data, .data, .data], laidTests := true, laidLooks := .later }
def TimerFivesUptoCardSaid : Prop := Claim7.holds Tryd.pinned (.plain (OpenSpec.upto timerFivesSpec)) timerFivesUptoCard

/-- THE SECOND FORM's CARD OF 'tandemlaw6.TimerPlays'. -/
def timerPlaysUptoCard : Claim7 := { stood := { row := timerPlaysUptoRow, standIns := [], harness := (true, "35ec18fb3aee945779c81a2fc891d4a2461140bca9546071ae418f2a32167178"), looks := false }, kinds := [], alts := [], laidByText := true, laidKinds := [.data, .data, .data], laidTests := true, laidLooks := .later }
def TimerPlaysUptoCardSaid : Prop := Claim7.holds Tryd.pinned (.plain (OpenSpec.upto timerPlaysSpec)) timerPlaysUptoCard

/-- THE SECOND FORM's CARD OF 'tandemlaw6.TimerKeeps'. -/
def timerKeepsUptoCard : Claim7 := { stood := { row := timerKeepsUptoRow, standIns := [], harness := (true, "35ec18fb3aee945779c81a2fc891d4a2461140bca9546071ae418f2a32167178"), looks := false }, kinds := [], alts := [], laidByText := true, laidKinds := [.data, .data, .data], laidTests := true, laidLooks := .later }
def TimerKeepsUptoCardSaid : Prop := Claim7.holds Tryd.pinned (.plain (OpenSpec.upto timerKeepsSpec)) timerKeepsUptoCard
end Rows
end Go.Proofs.YthndmfgmlbdekaaDoor
