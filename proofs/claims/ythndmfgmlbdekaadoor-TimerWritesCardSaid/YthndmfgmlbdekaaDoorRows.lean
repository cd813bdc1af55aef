/-
  NARROWER THAN 'FOR EVERY INPUT', by the rows' own cells (each row's printed sentence says how): TimerWrites: laid · TimerReads: laid · TimerAdvances: laid · TimerApart: laid · TimerSums: laid · TimerPeriods: laid · TimerOnce: laid · TimerTicks: laid · TimerLatches: laid · TimerNexts: laid · TimerFrames: laid · TimerFives: laid · TimerPlays: laid · TimerKeeps: laid.
  DERIVED. THE GIVEN ROWS OF THIS SEAT. 14 by the template 'for every input the law returns true; each argument reads behind the call as it read before'; 0 by the template 'total and deterministic' (their statements: YthndmfgmlbdekaaDoorTotals.lean).
  GIVEN WITH THE SEED: the statements are not yours to turn. If you find one false, say at which input.
  Laid BY PROGRAM, IN A SANDBOX (cutbox-rows.mjs): the forced cells as the released guide's own fill.sh prints them over the translation 9f30faa09a60e79d… (all of the seat's roots in one cut). By AI agents, Wed Nov 11 2026. No macro, syntax, notation, axiom, sorry.
-/
import Derived.Test.YthndmfgmlbdekaaDoorChecked
import GoSem.Claim
import GoSem.ClaimJoined
import GoSem.ClaimMapViews
import Derived.JoinedTies
import Derived.KernelRfl
namespace Go.Proofs.YthndmfgmlbdekaaDoor
/- THE CELL 'sum', in the pinned program and in every row, IS THE sha256 OF THE DUMP (.gsa) THAT YthndmfgmlbdekaaDoorProg.lean LOADS. Nothing in Lean hashes anything: it is a label: what it is worth is what the hold of that sum in a sandbox is worth. -/
noncomputable def Tryd.pinned : Pinned := { name := "ythndmfgmlbdekaadoor", sum := "9f30faa09a60e79dd295868bd2d9d9adf239e762ee264c36c432f2846ef30428", checked := Tryd.checked }
namespace Rows
def none {H : Type} : Left H := { results := [], args := [] }

/- WHAT THE LISTED PACKAGE-LEVEL VARIABLES READ AS WHEN THE CALL BEGINS. Each datum BY PROGRAM (the guide's laid-datum.mjs) off the statement by which the dump's own 'gosem.cut.vars' lays the variable. In a bare row this is a premise. The card (YthndmfgmlbdekaaDoorCards.lean) ties it to the program's text. -/
def laid_tandem_timer_dividers {H : Type} : DataW H := .agg [.lit (.int .u64 1), .lit (.int .u64 8), .lit (.int .u64 64), .lit (.int .u64 256)]
def laid_tandem_timer_four {H : Type} : DataW H := .agg [.lit (.int .u64 29830), .agg [.lit (.int .u64 7457), .lit (.int .u64 14913), .lit (.int .u64 22371), .lit (.int .u64 29829)]]
def laid_tandem_timer_five {H : Type} : DataW H := .agg [.lit (.int .u64 37282), .agg [.lit (.int .u64 7457), .lit (.int .u64 14913), .lit (.int .u64 22371), .lit (.int .u64 37281)]]

/-- 'tandemlaw6.TimerWrites': WHATEVER THE INPUT: true; the input reads as it did. -/
def timerWritesSpec : ChangeSpec := { name := "timerWrites", fn := fun _ => fun
  | [d1, d2, d3, d4] => { results := [.lit (.bool true)], args := [d1, d2, d3, d4] }
  | _ => none }
def timerWritesRow : OpenClaim := { program := "ythndmfgmlbdekaadoor", sum := "9f30faa09a60e79dd295868bd2d9d9adf239e762ee264c36c432f2846ef30428", func := "tandem/tandemlaw6.TimerWrites", spec := "timerWrites", named := ["tandem/timer.dividers"], apart := false, laid := [("tandem/timer.dividers", laid_tandem_timer_dividers)] }
def TimerWritesSaid : Prop := timerWritesRow.holds Tryd.pinned (OpenSpec.ofChange timerWritesSpec)

/-- ITS FALSE NEIGHBOUR: 'it returns false'. Refute it at one input. -/
def timerWritesWrong : ChangeSpec := { name := "timerWrites", fn := fun _ => fun
  | [d1, d2, d3, d4] => { results := [.lit (.bool false)], args := [d1, d2, d3, d4] }
  | _ => none }
def TimerWritesWrongFalsely : Prop := timerWritesRow.holds Tryd.pinned (OpenSpec.ofChange timerWritesWrong)

/-- 'tandemlaw6.TimerReads': WHATEVER THE INPUT: true; the input reads as it did. -/
def timerReadsSpec : ChangeSpec := { name := "timerReads", fn := fun _ => fun
  | [d1, d2] => { results := [.lit (.bool true)], args := [d1, d2] }
  | _ => none }
def timerReadsRow : OpenClaim := { program := "ythndmfgmlbdekaadoor", sum := "9f30faa09a60e79dd295868bd2d9d9adf239e762ee264c36c432f2846ef30428", func := "tandem/tandemlaw6.TimerReads", spec := "timerReads", named := ["tandem/timer.dividers"], apart := false, laid := [("tandem/timer.dividers", laid_tandem_timer_dividers)] }
def TimerReadsSaid : Prop := timerReadsRow.holds Tryd.pinned (OpenSpec.ofChange timerReadsSpec)

/-- ITS FALSE NEIGHBOUR: 'it returns false'. Refute it at one input. -/
def timerReadsWrong : ChangeSpec := { name := "timerReads", fn := fun _ => fun
  | [d1, d2] => { results := [.lit (.bool false)], args := [d1, d2] }
  | _ => none }
def TimerReadsWrongFalsely : Prop := timerReadsRow.holds Tryd.pinned (OpenSpec.ofChange timerReadsWrong)

/-- 'tandemlaw6.TimerAdvances': WHATEVER THE INPUT: true; the input reads as it did. -/
def timerAdvancesSpec : ChangeSpec := { name := "timerAdvances", fn := fun _ => fun
  | [d1, d2] => { results := [.lit (.bool true)], args := [d1, d2] }
  | _ => none }
def timerAdvancesRow : OpenClaim := { program := "ythndmfgmlbdekaadoor", sum := "9f30faa09a60e79dd295868bd2d9d9adf239e762ee264c36c432f2846ef30428", func := "tandem/tandemlaw6.TimerAdvances", spec := "timerAdvances", named := ["tandem/timer.dividers", "tandem/timer.five", "tandem/timer.four"], apart := false, laid := [("tandem/timer.dividers", laid_tandem_timer_dividers), ("tandem/timer.four", laid_tandem_timer_four), ("tandem/timer.five", laid_tandem_timer_five)] }
def TimerAdvancesSaid : Prop := timerAdvancesRow.holds Tryd.pinned (OpenSpec.ofChange timerAdvancesSpec)

/-- ITS FALSE NEIGHBOUR: 'it returns false'. Refute it at one input. -/
def timerAdvancesWrong : ChangeSpec := { name := "timerAdvances", fn := fun _ => fun
  | [d1, d2] => { results := [.lit (.bool false)], args := [d1, d2] }
  | _ => none }
def TimerAdvancesWrongFalsely : Prop := timerAdvancesRow.holds Tryd.pinned (OpenSpec.ofChange timerAdvancesWrong)

/-- 'tandemlaw6.TimerApart': WHATEVER THE INPUT: true; the input reads as it did. -/
def timerApartSpec : ChangeSpec := { name := "timerApart", fn := fun _ => fun
  | [d1, d2, d3] => { results := [.lit (.bool true)], args := [d1, d2, d3] }
  | _ => none }
def timerApartRow : OpenClaim := { program := "ythndmfgmlbdekaadoor", sum := "9f30faa09a60e79dd295868bd2d9d9adf239e762ee264c36c432f2846ef30428", func := "tandem/tandemlaw6.TimerApart", spec := "timerApart", named := ["tandem/timer.dividers", "tandem/timer.five", "tandem/timer.four"], apart := false, laid := [("tandem/timer.dividers", laid_tandem_timer_dividers), ("tandem/timer.four", laid_tandem_timer_four), ("tandem/timer.five", laid_tandem_timer_five)] }
def TimerApartSaid : Prop := timerApartRow.holds Tryd.pinned (OpenSpec.ofChange timerApartSpec)

/-- ITS FALSE NEIGHBOUR: 'it returns false'. Refute it at one input. -/
def timerApartWrong : ChangeSpec := { name := "timerApart", fn := fun _ => fun
  | [d1, d2, d3] => { results := [.lit (.bool false)], args := [d1, d2, d3] }
  | _ => none }
def TimerApartWrongFalsely : Prop := timerApartRow.holds Tryd.pinned (OpenSpec.ofChange timerApartWrong)

/-- 'tandemlaw6.TimerSums': WHATEVER THE INPUT: true; the input reads as it did. -/
def timerSumsSpec : ChangeSpec := { name := "timerSums", fn := fun _ => fun
  | [d1, d2, d3] => { results := [.lit (.bool true)], args := [d1, d2, d3] }
  | _ => none }
def timerSumsRow : OpenClaim := { program := "ythndmfgmlbdekaadoor", sum := "9f30faa09a60e79dd295868bd2d9d9adf239e762ee264c36c432f2846ef30428", func := "tandem/tandemlaw6.TimerSums", spec := "timerSums", named := ["tandem/timer.dividers", "tandem/timer.five", "tandem/timer.four"], apart := false, laid := [("tandem/timer.dividers", laid_tandem_timer_dividers), ("tandem/timer.four", laid_tandem_timer_four), ("tandem/timer.five", laid_tandem_timer_five)] }
def TimerSumsSaid : Prop := timerSumsRow.holds Tryd.pinned (OpenSpec.ofChange timerSumsSpec)

/-- ITS FALSE NEIGHBOUR: 'it returns false'. Refute it at one input. -/
def timerSumsWrong : ChangeSpec := { name := "timerSums", fn := fun _ => fun
  | [d1, d2, d3] => { results := [.lit (.bool false)], args := [d1, d2, d3] }
  | _ => none }
def TimerSumsWrongFalsely : Prop := timerSumsRow.holds Tryd.pinned (OpenSpec.ofChange timerSumsWrong)

/-- 'tandemlaw6.TimerPeriods': WHATEVER THE INPUT: true; the input reads as it did. -/
def timerPeriodsSpec : ChangeSpec := { name := "timerPeriods", fn := fun _ => fun
  | [d1, d2, d3, d4] => { results := [.lit (.bool true)], args := [d1, d2, d3, d4] }
  | _ => none }
def timerPeriodsRow : OpenClaim := { program := "ythndmfgmlbdekaadoor", sum := "9f30faa09a60e79dd295868bd2d9d9adf239e762ee264c36c432f2846ef30428", func := "tandem/tandemlaw6.TimerPeriods", spec := "timerPeriods", named := ["tandem/timer.dividers", "tandem/timer.five", "tandem/timer.four"], apart := false, laid := [("tandem/timer.dividers", laid_tandem_timer_dividers), ("tandem/timer.four", laid_tandem_timer_four), ("tandem/timer.five", laid_tandem_timer_five)] }
def TimerPeriodsSaid : Prop := timerPeriodsRow.holds Tryd.pinned (OpenSpec.ofChange timerPeriodsSpec)

/-- ITS FALSE NEIGHBOUR: 'it returns false'. Refute it at one input. -/
def timerPeriodsWrong : ChangeSpec := { name := "timerPeriods", fn := fun _ => fun
  | [d1, d2, d3, d4] => { results := [.lit (.bool false)], args := [d1, d2, d3, d4] }
  | _ => none }
def TimerPeriodsWrongFalsely : Prop := timerPeriodsRow.holds Tryd.pinned (OpenSpec.ofChange timerPeriodsWrong)

/-- 'tandemlaw6.TimerOnce': WHATEVER THE INPUT: true; the input reads as it did. -/
def timerOnceSpec : ChangeSpec := { name := "timerOnce", fn := fun _ => fun
  | [d1, d2, d3] => { results := [.lit (.bool true)], args := [d1, d2, d3] }
  | _ => none }
def timerOnceRow : OpenClaim := { program := "ythndmfgmlbdekaadoor", sum := "9f30faa09a60e79dd295868bd2d9d9adf239e762ee264c36c432f2846ef30428", func := "tandem/tandemlaw6.TimerOnce", spec := "timerOnce", named := ["tandem/timer.dividers", "tandem/timer.five", "tandem/timer.four"], apart := false, laid := [("tandem/timer.dividers", laid_tandem_timer_dividers), ("tandem/timer.four", laid_tandem_timer_four), ("tandem/timer.five", laid_tandem_timer_five)] }
def TimerOnceSaid : Prop := timerOnceRow.holds Tryd.pinned (OpenSpec.ofChange timerOnceSpec)

/-- ITS FALSE NEIGHBOUR: 'it returns false'. Refute it at one input. -/
def timerOnceWrong : ChangeSpec := { name := "timerOnce", fn := fun _ => fun
  | [d1, d2, d3] => { results := [.lit (.bool false)], args := [d1, d2, d3] }
  | _ => none }
def TimerOnceWrongFalsely : Prop := timerOnceRow.holds Tryd.pinned (OpenSpec.ofChange timerOnceWrong)

/-- 'tandemlaw6.TimerTicks': WHATEVER THE INPUT: true; the input reads as it did. -/
def timerTicksSpec : ChangeSpec := { name := "timerTicks", fn := fun _ => fun
  | [d] => { results := [.lit (.bool true)], args := [d] }
  | _ => none }
def timerTicksRow : OpenClaim := { program := "ythndmfgmlbdekaadoor", sum := "9f30faa09a60e79dd295868bd2d9d9adf239e762ee264c36c432f2846ef30428", func := "tandem/tandemlaw6.TimerTicks", spec := "timerTicks", named := ["tandem/timer.dividers", "tandem/timer.five", "tandem/timer.four"], apart := false, laid := [("tandem/timer.dividers", laid_tandem_timer_dividers), ("tandem/timer.four", laid_tandem_timer_four), ("tandem/timer.five", laid_tandem_timer_five)] }
def TimerTicksSaid : Prop := timerTicksRow.holds Tryd.pinned (OpenSpec.ofChange timerTicksSpec)

/-- ITS FALSE NEIGHBOUR: 'it returns false'. Refute it at one input. -/
def timerTicksWrong : ChangeSpec := { name := "timerTicks", fn := fun _ => fun
  | [d] => { results := [.lit (.bool false)], args := [d] }
  | _ => none }
def TimerTicksWrongFalsely : Prop := timerTicksRow.holds Tryd.pinned (OpenSpec.ofChange timerTicksWrong)

/-- 'tandemlaw6.TimerLatches': WHATEVER THE INPUT: true; the input reads as it did. -/
def timerLatchesSpec : ChangeSpec := { name := "timerLatches", fn := fun _ => fun
  | [d1, d2] => { results := [.lit (.bool true)], args := [d1, d2] }
  | _ => none }
def timerLatchesRow : OpenClaim := { program := "ythndmfgmlbdekaadoor", sum := "9f30faa09a60e79dd295868bd2d9d9adf239e762ee264c36c432f2846ef30428", func := "tandem/tandemlaw6.TimerLatches", spec := "timerLatches", named := ["tandem/timer.dividers", "tandem/timer.five", "tandem/timer.four"], apart := false, laid := [("tandem/timer.dividers", laid_tandem_timer_dividers), ("tandem/timer.four", laid_tandem_timer_four), ("tandem/timer.five", laid_tandem_timer_five)] }
def TimerLatchesSaid : Prop := timerLatchesRow.holds Tryd.pinned (OpenSpec.ofChange timerLatchesSpec)

/-- ITS FALSE NEIGHBOUR: 'it returns false'. Refute it at one input. -/
def timerLatchesWrong : ChangeSpec := { name := "timerLatches", fn := fun _ => fun
  | [d1, d2] => { results := [.lit (.bool false)], args := [d1, d2] }
  | _ => none }
def TimerLatchesWrongFalsely : Prop := timerLatchesRow.holds Tryd.pinned (OpenSpec.ofChange timerLatchesWrong)

/-- 'tandemlaw6.TimerNexts': WHATEVER THE INPUT: true; the input reads as it did. -/
def timerNextsSpec : ChangeSpec := { name := "timerNexts", fn := fun _ => fun
  | [d1, d2] => { results := [.lit (.bool true)], args := [d1, d2] }
  | _ => none }
def timerNextsRow : OpenClaim := { program := "ythndmfgmlbdekaadoor", sum := "9f30faa09a60e79dd295868bd2d9d9adf239e762ee264c36c432f2846ef30428", func := "tandem/tandemlaw6.TimerNexts", spec := "timerNexts", named := ["tandem/timer.dividers", "tandem/timer.four", "tandem/timer.five"], apart := false, laid := [("tandem/timer.dividers", laid_tandem_timer_dividers), ("tandem/timer.four", laid_tandem_timer_four), ("tandem/timer.five", laid_tandem_timer_five)] }
def TimerNextsSaid : Prop := timerNextsRow.holds Tryd.pinned (OpenSpec.ofChange timerNextsSpec)

/-- ITS FALSE NEIGHBOUR: 'it returns false'. Refute it at one input. -/
def timerNextsWrong : ChangeSpec := { name := "timerNexts", fn := fun _ => fun
  | [d1, d2] => { results := [.lit (.bool false)], args := [d1, d2] }
  | _ => none }
def TimerNextsWrongFalsely : Prop := timerNextsRow.holds Tryd.pinned (OpenSpec.ofChange timerNextsWrong)

/-- 'tandemlaw6.TimerFrames': WHATEVER THE INPUT: true; the input reads as it did. -/
def timerFramesSpec : ChangeSpec := { name := "timerFrames", fn := fun _ => fun
  | [d1, d2, d3] => { results := [.lit (.bool true)], args := [d1, d2, d3] }
  | _ => none }
def timerFramesRow : OpenClaim := { program := "ythndmfgmlbdekaadoor", sum := "9f30faa09a60e79dd295868bd2d9d9adf239e762ee264c36c432f2846ef30428", func := "tandem/tandemlaw6.TimerFrames", spec := "timerFrames", named := ["tandem/timer.dividers", "tandem/timer.four", "tandem/timer.five"], apart := false, laid := [("tandem/timer.dividers", laid_tandem_timer_dividers), ("tandem/timer.four", laid_tandem_timer_four), ("tandem/timer.five", laid_tandem_timer_five)] }
def TimerFramesSaid : Prop := timerFramesRow.holds Tryd.pinned (OpenSpec.ofChange timerFramesSpec)

/-- ITS FALSE NEIGHBOUR: 'it returns false'. Refute it at one input. -/
def timerFramesWrong : ChangeSpec := { name := "timerFrames", fn := fun _ => fun
  | [d1, d2, d3] => { results := [.lit (.bool false)], args := [d1, d2, d3] }
  | _ => none }
def TimerFramesWrongFalsely : Prop := timerFramesRow.holds Tryd.pinned (OpenSpec.ofChange timerFramesWrong)

/-- 'tandemlaw6.TimerFives': WHATEVER THE INPUT: true; the input reads as it did. -/
def timerFivesSpec : ChangeSpec := { name := "timerFives", fn := fun _ => fun
  | [d1, d2, d3] => { results := [.lit (.bool true)], args := [d1, d2, d3] }
  | _ => none }
def timerFivesRow : OpenClaim := { program := "ythndmfgmlbdekaadoor", sum := "9f30faa09a60e79dd295868bd2d9d9adf239e762ee264c36c432f2846ef30428", func := "tandem/tandemlaw6.TimerFives", spec := "timerFives", named := ["tandem/timer.dividers", "tandem/timer.five", "tandem/timer.four"], apart := false, laid := [("tandem/timer.dividers", laid_tandem_timer_dividers), ("tandem/timer.four", laid_tandem_timer_four), ("tandem/timer.five", laid_tandem_timer_five)] }
def TimerFivesSaid : Prop := timerFivesRow.holds Tryd.pinned (OpenSpec.ofChange timerFivesSpec)

/-- ITS FALSE NEIGHBOUR: 'it returns false'. Refute it at one input. -/
def timerFivesWrong : ChangeSpec := { name := "timerFives", fn := fun _ => fun
  | [d1, d2, d3] => { results := [.lit (.bool false)], args := [d1, d2, d3] }
  | _ => none }
def TimerFivesWrongFalsely : Prop := timerFivesRow.holds Tryd.pinned (OpenSpec.ofChange timerFivesWrong)

/-- 'tandemlaw6.TimerPlays': WHATEVER THE INPUT: true; the input reads as it did. -/
def timerPlaysSpec : ChangeSpec := { name := "timerPlays", fn := fun _ => fun
  | [d] => { results := [.lit (.bool true)], args := [d] }
  | _ => none }
def timerPlaysRow : OpenClaim := { program := "ythndmfgmlbdekaadoor", sum := "9f30faa09a60e79dd295868bd2d9d9adf239e762ee264c36c432f2846ef30428", func := "tandem/tandemlaw6.TimerPlays", spec := "timerPlays", named := ["tandem/timer.dividers", "tandem/timer.five", "tandem/timer.four"], apart := false, laid := [("tandem/timer.dividers", laid_tandem_timer_dividers), ("tandem/timer.four", laid_tandem_timer_four), ("tandem/timer.five", laid_tandem_timer_five)] }
def TimerPlaysSaid : Prop := timerPlaysRow.holds Tryd.pinned (OpenSpec.ofChange timerPlaysSpec)

/-- ITS FALSE NEIGHBOUR: 'it returns false'. Refute it at one input. -/
def timerPlaysWrong : ChangeSpec := { name := "timerPlays", fn := fun _ => fun
  | [d] => { results := [.lit (.bool false)], args := [d] }
  | _ => none }
def TimerPlaysWrongFalsely : Prop := timerPlaysRow.holds Tryd.pinned (OpenSpec.ofChange timerPlaysWrong)

/-- 'tandemlaw6.TimerKeeps': WHATEVER THE INPUT: true; the input reads as it did. -/
def timerKeepsSpec : ChangeSpec := { name := "timerKeeps", fn := fun _ => fun
  | [d1, d2, d3, d4, d5] => { results := [.lit (.bool true)], args := [d1, d2, d3, d4, d5] }
  | _ => none }
def timerKeepsRow : OpenClaim := { program := "ythndmfgmlbdekaadoor", sum := "9f30faa09a60e79dd295868bd2d9d9adf239e762ee264c36c432f2846ef30428", func := "tandem/tandemlaw6.TimerKeeps", spec := "timerKeeps", named := ["tandem/timer.dividers", "tandem/timer.five", "tandem/timer.four"], apart := false, laid := [("tandem/timer.dividers", laid_tandem_timer_dividers), ("tandem/timer.four", laid_tandem_timer_four), ("tandem/timer.five", laid_tandem_timer_five)] }
def TimerKeepsSaid : Prop := timerKeepsRow.holds Tryd.pinned (OpenSpec.ofChange timerKeepsSpec)

/-- ITS FALSE NEIGHBOUR: 'it returns false'. Refute it at one input. -/
def timerKeepsWrong : ChangeSpec := { name := "timerKeeps", fn := fun _ => fun
  | [d1, d2, d3, d4, d5] => { results := [.lit (.bool false)], args := [d1, d2, d3, d4, d5] }
  | _ => none }
def TimerKeepsWrongFalsely : Prop := timerKeepsRow.holds Tryd.pinned (OpenSpec.ofChange timerKeepsWrong)

/- THE SECOND FORM. 'bulk': how many values and letters a reading holds, each counted each time it is reached (what is shared counts as often as it is met; a slice's spare places count too). A statement '..UptoSaid' is the law's where the arguments, and the package variables that the reading takes, are together of bulk at most 1048576: NARROWER than '..Said'. Prove '..Said' where nothing that the law and all that it calls make is longer than what came in: it says more and counts as full. Else prove '..UptoSaid'. A law counts once. -/
mutual
def uptoBulk {H : Type} : DataW H → Nat
  | .lit (.string bytes) => bytes.length + 1
  | .lit _ => 1
  | .nil => 1
  | .ptr d => uptoBulk d + 1
  | .slice elems spare => uptoBulkAll elems + uptoBulkAll spare + 1
  | .agg parts => uptoBulkAll parts + 1
  | .iface _ d => uptoBulk d + 1
  | .map entries => uptoBulkEntries entries + 1
  | .held _ => 1
def uptoBulkAll {H : Type} : List (DataW H) → Nat
  | [] => 0
  | d :: r => uptoBulk d + uptoBulkAll r
def uptoBulkEntries {H : Type} : List (Lit × DataW H) → Nat
  | [] => 0
  | x :: r => uptoBulkEntry x + uptoBulkEntries r
def uptoBulkEntry {H : Type} : Lit × DataW H → Nat
  | (.string bytes, d) => bytes.length + uptoBulk d + 1
  | (_, d) => uptoBulk d + 1
 end
def uptoSmall : (H : Type) → List (DataW H) → Bool := fun _ ds => decide (uptoBulkAll ds ≤ 1048576)
def OpenSpec.upto (s : _root_.Go.ChangeSpec) : _root_.Go.OpenSpec := { _root_.Go.OpenSpec.ofChange s with cond := some uptoSmall }

/-- 'tandemlaw6.TimerWrites', WHERE WHAT IT READS IS OF BULK AT MOST 1048576: true; the input reads as it did. -/
def timerWritesUptoRow : OpenClaim := { program := "ythndmfgmlbdekaadoor", sum := "9f30faa09a60e79dd295868bd2d9d9adf239e762ee264c36c432f2846ef30428", func := "tandem/tandemlaw6.TimerWrites", spec := "timerWrites", named := ["tandem/timer.dividers"], apart := false, laid := [("tandem/timer.dividers", laid_tandem_timer_dividers)], narrowed := true }
def TimerWritesUptoSaid : Prop := timerWritesUptoRow.holds Tryd.pinned (OpenSpec.upto timerWritesSpec)

/-- 'tandemlaw6.TimerReads', WHERE WHAT IT READS IS OF BULK AT MOST 1048576: true; the input reads as it did. -/
def timerReadsUptoRow : OpenClaim := { program := "ythndmfgmlbdekaadoor", sum := "9f30faa09a60e79dd295868bd2d9d9adf239e762ee264c36c432f2846ef30428", func := "tandem/tandemlaw6.TimerReads", spec := "timerReads", named := ["tandem/timer.dividers"], apart := false, laid := [("tandem/timer.dividers", laid_tandem_timer_dividers)], narrowed := true }
def TimerReadsUptoSaid : Prop := timerReadsUptoRow.holds Tryd.pinned (OpenSpec.upto timerReadsSpec)

/-- 'tandemlaw6.TimerAdvances', WHERE WHAT IT READS IS OF BULK AT MOST 1048576: true; the input reads as it did. -/
def timerAdvancesUptoRow : OpenClaim := { program := "ythndmfgmlbdekaadoor", sum := "9f30faa09a60e79dd295868bd2d9d9adf239e762ee264c36c432f2846ef30428", func := "tandem/tandemlaw6.TimerAdvances", spec := "timerAdvances", named := ["tandem/timer.dividers", "tandem/timer.five", "tandem/timer.four"], apart := false, laid := [("tandem/timer.dividers", laid_tandem_timer_dividers), ("tandem/timer.four", laid_tandem_timer_four), ("tandem/timer.five", laid_tandem_timer_five)], narrowed := true }
def TimerAdvancesUptoSaid : Prop := timerAdvancesUptoRow.holds Tryd.pinned (OpenSpec.upto timerAdvancesSpec)

/-- 'tandemlaw6.TimerApart', WHERE WHAT IT READS IS OF BULK AT MOST 1048576: true; the input reads as it did. -/
def timerApartUptoRow : OpenClaim := { program := "ythndmfgmlbdekaadoor", sum := "9f30faa09a60e79dd295868bd2d9d9adf239e762ee264c36c432f2846ef30428", func := "tandem/tandemlaw6.TimerApart", spec := "timerApart", named := ["tandem/timer.dividers", "tandem/timer.five", "tandem/timer.four"], apart := false, laid := [("tandem/timer.dividers", laid_tandem_timer_dividers), ("tandem/timer.four", laid_tandem_timer_four), ("tandem/timer.five", laid_tandem_timer_five)], narrowed := true }
def TimerApartUptoSaid : Prop := timerApartUptoRow.holds Tryd.pinned (OpenSpec.upto timerApartSpec)

/-- 'tandemlaw6.TimerSums', WHERE WHAT IT READS IS OF BULK AT MOST 1048576: true; the input reads as it did. -/
def timerSumsUptoRow : OpenClaim := { program := "ythndmfgmlbdekaadoor", sum := "9f30faa09a60e79dd295868bd2d9d9adf239e762ee264c36c432f2846ef30428", func := "tandem/tandemlaw6.TimerSums", spec := "timerSums", named := ["tandem/timer.dividers", "tandem/timer.five", "tandem/timer.four"], apart := false, laid := [("tandem/timer.dividers", laid_tandem_timer_dividers), ("tandem/timer.four", laid_tandem_timer_four), ("tandem/timer.five", laid_tandem_timer_five)], narrowed := true }
def TimerSumsUptoSaid : Prop := timerSumsUptoRow.holds Tryd.pinned (OpenSpec.upto timerSumsSpec)

/-- 'tandemlaw6.TimerPeriods', WHERE WHAT IT READS IS OF BULK AT MOST 1048576: true; the input reads as it did. -/
def timerPeriodsUptoRow : OpenClaim := { program := "ythndmfgmlbdekaadoor", sum := "9f30faa09a60e79dd295868bd2d9d9adf239e762ee264c36c432f2846ef30428", func := "tandem/tandemlaw6.TimerPeriods", spec := "timerPeriods", named := ["tandem/timer.dividers", "tandem/timer.five", "tandem/timer.four"], apart := false, laid := [("tandem/timer.dividers", laid_tandem_timer_dividers), ("tandem/timer.four", laid_tandem_timer_four), ("tandem/timer.five", laid_tandem_timer_five)], narrowed := true }
def TimerPeriodsUptoSaid : Prop := timerPeriodsUptoRow.holds Tryd.pinned (OpenSpec.upto timerPeriodsSpec)

/-- 'tandemlaw6.TimerOnce', WHERE WHAT IT READS IS OF BULK AT MOST 1048576: true; the input reads as it did. -/
def timerOnceUptoRow : OpenClaim := { program := "ythndmfgmlbdekaadoor", sum := "9f30faa09a60e79dd295868bd2d9d9adf239e762ee264c36c432f2846ef30428", func := "tandem/tandemlaw6.TimerOnce", spec := "timerOnce", named := ["tandem/timer.dividers", "tandem/timer.five", "tandem/timer.four"], apart := false, laid := [("tandem/timer.dividers", laid_tandem_timer_dividers), ("tandem/timer.four", laid_tandem_timer_four), ("tandem/timer.five", laid_tandem_timer_five)], narrowed := true }
def TimerOnceUptoSaid : Prop := timerOnceUptoRow.holds Tryd.pinned (OpenSpec.upto timerOnceSpec)

/-- 'tandemlaw6.TimerTicks', WHERE WHAT IT READS IS OF BULK AT MOST 1048576: true; the input reads as it did. -/
def timerTicksUptoRow : OpenClaim := { program := "ythndmfgmlbdekaadoor", sum := "9f30faa09a60e79dd295868bd2d9d9adf239e762ee264c36c432f2846ef30428", func := "tandem/tandemlaw6.TimerTicks", spec := "timerTicks", named := ["tandem/timer.dividers", "tandem/timer.five", "tandem/timer.four"], apart := false, laid := [("tandem/timer.dividers", laid_tandem_timer_dividers), ("tandem/timer.four", laid_tandem_timer_four), ("tandem/timer.five", laid_tandem_timer_five)], narrowed := true }
def TimerTicksUptoSaid : Prop := timerTicksUptoRow.holds Tryd.pinned (OpenSpec.upto timerTicksSpec)

/-- 'tandemlaw6.TimerLatches', WHERE WHAT IT READS IS OF BULK AT MOST 1048576: true; the input reads as it did. -/
def timerLatchesUptoRow : OpenClaim := { program := "ythndmfgmlbdekaadoor", sum := "9f30faa09a60e79dd295868bd2d9d9adf239e762ee264c36c432f2846ef30428", func := "tandem/tandemlaw6.TimerLatches", spec := "timerLatches", named := ["tandem/timer.dividers", "tandem/timer.five", "tandem/timer.four"], apart := false, laid := [("tandem/timer.dividers", laid_tandem_timer_dividers), ("tandem/timer.four", laid_tandem_timer_four), ("tandem/timer.five", laid_tandem_timer_five)], narrowed := true }
def TimerLatchesUptoSaid : Prop := timerLatchesUptoRow.holds Tryd.pinned (OpenSpec.upto timerLatchesSpec)

/-- 'tandemlaw6.TimerNexts', WHERE WHAT IT READS IS OF BULK AT MOST 1048576: true; the input reads as it did. -/
def timerNextsUptoRow : OpenClaim := { program := "ythndmfgmlbdekaadoor", sum := "9f30faa09a60e79dd295868bd2d9d9adf239e762ee264c36c432f2846ef30428", func := "tandem/tandemlaw6.TimerNexts", spec := "timerNexts", named := ["tandem/timer.dividers", "tandem/timer.four", "tandem/timer.five"], apart := false, laid := [("tandem/timer.dividers", laid_tandem_timer_dividers), ("tandem/timer.four", laid_tandem_timer_four), ("tandem/timer.five", laid_tandem_timer_five)], narrowed := true }
def TimerNextsUptoSaid : Prop := timerNextsUptoRow.holds Tryd.pinned (OpenSpec.upto timerNextsSpec)

/-- 'tandemlaw6.TimerFrames', WHERE WHAT IT READS IS OF BULK AT MOST 1048576: true; the input reads as it did. -/
def timerFramesUptoRow : OpenClaim := { program := "ythndmfgmlbdekaadoor", sum := "9f30faa09a60e79dd295868bd2d9d9adf239e762ee264c36c432f2846ef30428", func := "tandem/tandemlaw6.TimerFrames", spec := "timerFrames", named := ["tandem/timer.dividers", "tandem/timer.four", "tandem/timer.five"], apart := false, laid := [("tandem/timer.dividers", laid_tandem_timer_dividers), ("tandem/timer.four", laid_tandem_timer_four), ("tandem/timer.five", laid_tandem_timer_five)], narrowed := true }
def TimerFramesUptoSaid : Prop := timerFramesUptoRow.holds Tryd.pinned (OpenSpec.upto timerFramesSpec)

/-- 'tandemlaw6.TimerFives', WHERE WHAT IT READS IS OF BULK AT MOST 1048576: true; the input reads as it did. -/
def timerFivesUptoRow : OpenClaim := { program := "ythndmfgmlbdekaadoor", sum := "9f30faa09a60e79dd295868bd2d9d9adf239e762ee264c36c432f2846ef30428", func := "tandem/tandemlaw6.TimerFives", spec := "timerFives", named := ["tandem/timer.dividers", "tandem/timer.five", "tandem/timer.four"], apart := false, laid := [("tandem/timer.dividers", laid_tandem_timer_dividers), ("tandem/timer.four", laid_tandem_timer_four), ("tandem/timer.five", laid_tandem_timer_five)], narrowed := true }
def TimerFivesUptoSaid : Prop := timerFivesUptoRow.holds Tryd.pinned (OpenSpec.upto timerFivesSpec)

/-- 'tandemlaw6.TimerPlays', WHERE WHAT IT READS IS OF BULK AT MOST 1048576: true; the input reads as it did. -/
def timerPlaysUptoRow : OpenClaim := { program := "ythndmfgmlbdekaadoor", sum := "9f30faa09a60e79dd295868bd2d9d9adf239e762ee264c36c432f2846ef30428", func := "tandem/tandemlaw6.TimerPlays", spec := "timerPlays", named := ["tandem/timer.dividers", "tandem/timer.five", "tandem/timer.four"], apart := false, laid := [("tandem/timer.dividers", laid_tandem_timer_dividers), ("tandem/timer.four", laid_tandem_timer_four), ("tandem/timer.five", laid_tandem_timer_five)], narrowed := true }
def TimerPlaysUptoSaid : Prop := timerPlaysUptoRow.holds Tryd.pinned (OpenSpec.upto timerPlaysSpec)

/-- 'tandemlaw6.TimerKeeps', WHERE WHAT IT READS IS OF BULK AT MOST 1048576: true; the input reads as it did. -/
def timerKeepsUptoRow : OpenClaim := { program := "ythndmfgmlbdekaadoor", sum := "9f30faa09a60e79dd295868bd2d9d9adf239e762ee264c36c432f2846ef30428", func := "tandem/tandemlaw6.TimerKeeps", spec := "timerKeeps", named := ["tandem/timer.dividers", "tandem/timer.five", "tandem/timer.four"], apart := false, laid := [("tandem/timer.dividers", laid_tandem_timer_dividers), ("tandem/timer.four", laid_tandem_timer_four), ("tandem/timer.five", laid_tandem_timer_five)], narrowed := true }
def TimerKeepsUptoSaid : Prop := timerKeepsUptoRow.holds Tryd.pinned (OpenSpec.upto timerKeepsSpec)

end Rows
end Go.Proofs.YthndmfgmlbdekaaDoor
