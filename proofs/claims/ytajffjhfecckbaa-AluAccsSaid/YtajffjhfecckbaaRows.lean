/-
  No cell of these rows narrows 'for every input' (looked for: loops, veiled, ifaces, maps, wideKeys, modest, calm, conditions, laid).
  DERIVED. THE GIVEN ROWS OF THIS SEAT. 11 by the template 'for every input the law returns true; each argument reads behind the call as it read before'; 0 by the template 'total and deterministic' (their statements: YtajffjhfecckbaaTotals.lean).
  GIVEN WITH THE SEED: the statements are not yours to turn. If you find one false, say at which input.
  Laid BY PROGRAM, IN A SANDBOX (cutbox-rows.mjs): the forced cells as the released guide's own fill.sh prints them over the translation 4ace805bd8d96893… (all of the seat's roots in one cut). By AI agents, Wed Nov 11 2026. No macro, syntax, notation, axiom, sorry.
-/
import Derived.Test.YtajffjhfecckbaaChecked
import GoSem.Claim
import GoSem.ClaimJoined
import GoSem.ClaimMapViews
import Derived.JoinedTies
import Derived.KernelRfl
namespace Go.Proofs.Ytajffjhfecckbaa
/- THE CELL 'sum', in the pinned program and in every row, IS THE sha256 OF THE DUMP (.gsa) THAT YtajffjhfecckbaaProg.lean LOADS. Nothing in Lean hashes anything: it is a label: what it is worth is what the hold of that sum in a sandbox is worth. -/
noncomputable def Try.pinned : Pinned := { name := "ytajffjhfecckbaa", sum := "4ace805bd8d96893ef1ea458434bcb43aabd6b0b8cdc5a1f3c76e5d085e5e0bc", checked := Try.checked }
namespace Rows
def none {H : Type} : Left H := { results := [], args := [] }

/-- 'tandemlaw3.AluTurns': WHATEVER THE INPUT: true; the input reads as it did. -/
def aluTurnsSpec : ChangeSpec := { name := "aluTurns", fn := fun _ => fun
  | [d1, d2] => { results := [.lit (.bool true)], args := [d1, d2] }
  | _ => none }
def aluTurnsRow : OpenClaim := { program := "ytajffjhfecckbaa", sum := "4ace805bd8d96893ef1ea458434bcb43aabd6b0b8cdc5a1f3c76e5d085e5e0bc", func := "tandem/tandemlaw3.AluTurns", spec := "aluTurns", apart := false }
def AluTurnsSaid : Prop := aluTurnsRow.holds Try.pinned (OpenSpec.ofChange aluTurnsSpec)

/-- ITS FALSE NEIGHBOUR: 'it returns false'. Refute it at one input. -/
def aluTurnsWrong : ChangeSpec := { name := "aluTurns", fn := fun _ => fun
  | [d1, d2] => { results := [.lit (.bool false)], args := [d1, d2] }
  | _ => none }
def AluTurnsWrongFalsely : Prop := aluTurnsRow.holds Try.pinned (OpenSpec.ofChange aluTurnsWrong)

/-- 'tandemlaw3.AluDecimalTakes': WHATEVER THE INPUT: true; the input reads as it did. -/
def aluDecimalTakesSpec : ChangeSpec := { name := "aluDecimalTakes", fn := fun _ => fun
  | [d1, d2, d3, d4] => { results := [.lit (.bool true)], args := [d1, d2, d3, d4] }
  | _ => none }
def aluDecimalTakesRow : OpenClaim := { program := "ytajffjhfecckbaa", sum := "4ace805bd8d96893ef1ea458434bcb43aabd6b0b8cdc5a1f3c76e5d085e5e0bc", func := "tandem/tandemlaw3.AluDecimalTakes", spec := "aluDecimalTakes", apart := false }
def AluDecimalTakesSaid : Prop := aluDecimalTakesRow.holds Try.pinned (OpenSpec.ofChange aluDecimalTakesSpec)

/-- ITS FALSE NEIGHBOUR: 'it returns false'. Refute it at one input. -/
def aluDecimalTakesWrong : ChangeSpec := { name := "aluDecimalTakes", fn := fun _ => fun
  | [d1, d2, d3, d4] => { results := [.lit (.bool false)], args := [d1, d2, d3, d4] }
  | _ => none }
def AluDecimalTakesWrongFalsely : Prop := aluDecimalTakesRow.holds Try.pinned (OpenSpec.ofChange aluDecimalTakesWrong)

/-- 'tandemlaw3.AluLongTakes': WHATEVER THE INPUT: true; the input reads as it did. -/
def aluLongTakesSpec : ChangeSpec := { name := "aluLongTakes", fn := fun _ => fun
  | [d1, d2, d3] => { results := [.lit (.bool true)], args := [d1, d2, d3] }
  | _ => none }
def aluLongTakesRow : OpenClaim := { program := "ytajffjhfecckbaa", sum := "4ace805bd8d96893ef1ea458434bcb43aabd6b0b8cdc5a1f3c76e5d085e5e0bc", func := "tandem/tandemlaw3.AluLongTakes", spec := "aluLongTakes", apart := false }
def AluLongTakesSaid : Prop := aluLongTakesRow.holds Try.pinned (OpenSpec.ofChange aluLongTakesSpec)

/-- ITS FALSE NEIGHBOUR: 'it returns false'. Refute it at one input. -/
def aluLongTakesWrong : ChangeSpec := { name := "aluLongTakes", fn := fun _ => fun
  | [d1, d2, d3] => { results := [.lit (.bool false)], args := [d1, d2, d3] }
  | _ => none }
def AluLongTakesWrongFalsely : Prop := aluLongTakesRow.holds Try.pinned (OpenSpec.ofChange aluLongTakesWrong)

/-- 'tandemlaw3.AluAccs': WHATEVER THE INPUT: true; the input reads as it did. -/
def aluAccsSpec : ChangeSpec := { name := "aluAccs", fn := fun _ => fun
  | [d1, d2] => { results := [.lit (.bool true)], args := [d1, d2] }
  | _ => none }
def aluAccsRow : OpenClaim := { program := "ytajffjhfecckbaa", sum := "4ace805bd8d96893ef1ea458434bcb43aabd6b0b8cdc5a1f3c76e5d085e5e0bc", func := "tandem/tandemlaw3.AluAccs", spec := "aluAccs", apart := false }
def AluAccsSaid : Prop := aluAccsRow.holds Try.pinned (OpenSpec.ofChange aluAccsSpec)

/-- ITS FALSE NEIGHBOUR: 'it returns false'. Refute it at one input. -/
def aluAccsWrong : ChangeSpec := { name := "aluAccs", fn := fun _ => fun
  | [d1, d2] => { results := [.lit (.bool false)], args := [d1, d2] }
  | _ => none }
def AluAccsWrongFalsely : Prop := aluAccsRow.holds Try.pinned (OpenSpec.ofChange aluAccsWrong)

/-- 'tandemlaw3.AluDecimalAdds': WHATEVER THE INPUT: true; the input reads as it did. -/
def aluDecimalAddsSpec : ChangeSpec := { name := "aluDecimalAdds", fn := fun _ => fun
  | [d1, d2, d3, d4] => { results := [.lit (.bool true)], args := [d1, d2, d3, d4] }
  | _ => none }
def aluDecimalAddsRow : OpenClaim := { program := "ytajffjhfecckbaa", sum := "4ace805bd8d96893ef1ea458434bcb43aabd6b0b8cdc5a1f3c76e5d085e5e0bc", func := "tandem/tandemlaw3.AluDecimalAdds", spec := "aluDecimalAdds", apart := false }
def AluDecimalAddsSaid : Prop := aluDecimalAddsRow.holds Try.pinned (OpenSpec.ofChange aluDecimalAddsSpec)

/-- ITS FALSE NEIGHBOUR: 'it returns false'. Refute it at one input. -/
def aluDecimalAddsWrong : ChangeSpec := { name := "aluDecimalAdds", fn := fun _ => fun
  | [d1, d2, d3, d4] => { results := [.lit (.bool false)], args := [d1, d2, d3, d4] }
  | _ => none }
def AluDecimalAddsWrongFalsely : Prop := aluDecimalAddsRow.holds Try.pinned (OpenSpec.ofChange aluDecimalAddsWrong)

/-- 'tandemlaw3.AluLongSums': WHATEVER THE INPUT: true; the input reads as it did. -/
def aluLongSumsSpec : ChangeSpec := { name := "aluLongSums", fn := fun _ => fun
  | [d1, d2, d3] => { results := [.lit (.bool true)], args := [d1, d2, d3] }
  | _ => none }
def aluLongSumsRow : OpenClaim := { program := "ytajffjhfecckbaa", sum := "4ace805bd8d96893ef1ea458434bcb43aabd6b0b8cdc5a1f3c76e5d085e5e0bc", func := "tandem/tandemlaw3.AluLongSums", spec := "aluLongSums", apart := false }
def AluLongSumsSaid : Prop := aluLongSumsRow.holds Try.pinned (OpenSpec.ofChange aluLongSumsSpec)

/-- ITS FALSE NEIGHBOUR: 'it returns false'. Refute it at one input. -/
def aluLongSumsWrong : ChangeSpec := { name := "aluLongSums", fn := fun _ => fun
  | [d1, d2, d3] => { results := [.lit (.bool false)], args := [d1, d2, d3] }
  | _ => none }
def AluLongSumsWrongFalsely : Prop := aluLongSumsRow.holds Try.pinned (OpenSpec.ofChange aluLongSumsWrong)

/-- 'tandemlaw3.AluSigned': WHATEVER THE INPUT: true; the input reads as it did. -/
def aluSignedSpec : ChangeSpec := { name := "aluSigned", fn := fun _ => fun
  | [d1, d2, d3, d4] => { results := [.lit (.bool true)], args := [d1, d2, d3, d4] }
  | _ => none }
def aluSignedRow : OpenClaim := { program := "ytajffjhfecckbaa", sum := "4ace805bd8d96893ef1ea458434bcb43aabd6b0b8cdc5a1f3c76e5d085e5e0bc", func := "tandem/tandemlaw3.AluSigned", spec := "aluSigned", apart := false }
def AluSignedSaid : Prop := aluSignedRow.holds Try.pinned (OpenSpec.ofChange aluSignedSpec)

/-- ITS FALSE NEIGHBOUR: 'it returns false'. Refute it at one input. -/
def aluSignedWrong : ChangeSpec := { name := "aluSigned", fn := fun _ => fun
  | [d1, d2, d3, d4] => { results := [.lit (.bool false)], args := [d1, d2, d3, d4] }
  | _ => none }
def AluSignedWrongFalsely : Prop := aluSignedRow.holds Try.pinned (OpenSpec.ofChange aluSignedWrong)

/-- 'tandemlaw3.AluParts': WHATEVER THE INPUT: true; the input reads as it did. -/
def aluPartsSpec : ChangeSpec := { name := "aluParts", fn := fun _ => fun
  | [d1, d2, d3, d4] => { results := [.lit (.bool true)], args := [d1, d2, d3, d4] }
  | _ => none }
def aluPartsRow : OpenClaim := { program := "ytajffjhfecckbaa", sum := "4ace805bd8d96893ef1ea458434bcb43aabd6b0b8cdc5a1f3c76e5d085e5e0bc", func := "tandem/tandemlaw3.AluParts", spec := "aluParts", apart := false }
def AluPartsSaid : Prop := aluPartsRow.holds Try.pinned (OpenSpec.ofChange aluPartsSpec)

/-- ITS FALSE NEIGHBOUR: 'it returns false'. Refute it at one input. -/
def aluPartsWrong : ChangeSpec := { name := "aluParts", fn := fun _ => fun
  | [d1, d2, d3, d4] => { results := [.lit (.bool false)], args := [d1, d2, d3, d4] }
  | _ => none }
def AluPartsWrongFalsely : Prop := aluPartsRow.holds Try.pinned (OpenSpec.ofChange aluPartsWrong)

/-- 'tandemlaw3.AluDoes': WHATEVER THE INPUT: true; the input reads as it did. -/
def aluDoesSpec : ChangeSpec := { name := "aluDoes", fn := fun _ => fun
  | [d1, d2] => { results := [.lit (.bool true)], args := [d1, d2] }
  | _ => none }
def aluDoesRow : OpenClaim := { program := "ytajffjhfecckbaa", sum := "4ace805bd8d96893ef1ea458434bcb43aabd6b0b8cdc5a1f3c76e5d085e5e0bc", func := "tandem/tandemlaw3.AluDoes", spec := "aluDoes", unfollowed := true, recurses := true, apart := false }
def AluDoesSaid : Prop := aluDoesRow.holds Try.pinned (OpenSpec.ofChange aluDoesSpec)

/-- ITS FALSE NEIGHBOUR: 'it returns false'. Refute it at one input. -/
def aluDoesWrong : ChangeSpec := { name := "aluDoes", fn := fun _ => fun
  | [d1, d2] => { results := [.lit (.bool false)], args := [d1, d2] }
  | _ => none }
def AluDoesWrongFalsely : Prop := aluDoesRow.holds Try.pinned (OpenSpec.ofChange aluDoesWrong)

/-- 'tandemlaw3.AluDabbles': WHATEVER THE INPUT: true; the input reads as it did. -/
def aluDabblesSpec : ChangeSpec := { name := "aluDabbles", fn := fun _ => fun
  | [d1, d2] => { results := [.lit (.bool true)], args := [d1, d2] }
  | _ => none }
def aluDabblesRow : OpenClaim := { program := "ytajffjhfecckbaa", sum := "4ace805bd8d96893ef1ea458434bcb43aabd6b0b8cdc5a1f3c76e5d085e5e0bc", func := "tandem/tandemlaw3.AluDabbles", spec := "aluDabbles", unfollowed := true, recurses := true, apart := false }
def AluDabblesSaid : Prop := aluDabblesRow.holds Try.pinned (OpenSpec.ofChange aluDabblesSpec)

/-- ITS FALSE NEIGHBOUR: 'it returns false'. Refute it at one input. -/
def aluDabblesWrong : ChangeSpec := { name := "aluDabbles", fn := fun _ => fun
  | [d1, d2] => { results := [.lit (.bool false)], args := [d1, d2] }
  | _ => none }
def AluDabblesWrongFalsely : Prop := aluDabblesRow.holds Try.pinned (OpenSpec.ofChange aluDabblesWrong)

/-- 'tandemlaw3.AluPairs': WHATEVER THE INPUT: true; the input reads as it did. -/
def aluPairsSpec : ChangeSpec := { name := "aluPairs", fn := fun _ => fun
  | [d] => { results := [.lit (.bool true)], args := [d] }
  | _ => none }
def aluPairsRow : OpenClaim := { program := "ytajffjhfecckbaa", sum := "4ace805bd8d96893ef1ea458434bcb43aabd6b0b8cdc5a1f3c76e5d085e5e0bc", func := "tandem/tandemlaw3.AluPairs", spec := "aluPairs", unfollowed := true, recurses := true, apart := false }
def AluPairsSaid : Prop := aluPairsRow.holds Try.pinned (OpenSpec.ofChange aluPairsSpec)

/-- ITS FALSE NEIGHBOUR: 'it returns false'. Refute it at one input. -/
def aluPairsWrong : ChangeSpec := { name := "aluPairs", fn := fun _ => fun
  | [d] => { results := [.lit (.bool false)], args := [d] }
  | _ => none }
def AluPairsWrongFalsely : Prop := aluPairsRow.holds Try.pinned (OpenSpec.ofChange aluPairsWrong)

/- THE SECOND FORM. 'bulk': how many values and letters a reading holds, each counted each time it is reached (what is shared counts as often as it is met; a slice's spare places count too). A statement '..UptoSaid' is the law's where the arguments, and the package variables that the reading takes, are together of bulk at most 1048576: NARROWER than '..Said'. Prove '..Said' where nothing that the law and all that it calls make is longer than what came in: it says more and counts as full. Else prove '..UptoSaid'. A law counts once. -/
mutual
def uptoBulk {H : Type} : DataW H → Nat
  | .lit (.string bytes) => bytes.length + 1
  | .lit _ => 1
  | .nil => 1
  | .ptr d => uptoBulk d + 1
  | .slice elems spare => uptoBulkAll elems + uptoBulkAll spare + 1
  | .agg parts => uptoBulkAll parts + 1
  | .iface _ d => uptoBulk d + 1
  | .map entries => uptoBulkEntries entries + 1
  | .held _ => 1
def uptoBulkAll {H : Type} : List (DataW H) → Nat
  | [] => 0
  | d :: r => uptoBulk d + uptoBulkAll r
def uptoBulkEntries {H : Type} : List (Lit × DataW H) → Nat
  | [] => 0
  | x :: r => uptoBulkEntry x + uptoBulkEntries r
def uptoBulkEntry {H : Type} : Lit × DataW H → Nat
  | (.string bytes, d) => bytes.length + uptoBulk d + 1
  | (_, d) => uptoBulk d + 1
 end
def uptoSmall : (H : Type) → List (DataW H) → Bool := fun _ ds => decide (uptoBulkAll ds ≤ 1048576)
def OpenSpec.upto (s : _root_.Go.ChangeSpec) : _root_.Go.OpenSpec := { _root_.Go.OpenSpec.ofChange s with cond := some uptoSmall }

/-- 'tandemlaw3.AluTurns', WHERE WHAT IT READS IS OF BULK AT MOST 1048576: true; the input reads as it did. -/
def aluTurnsUptoRow : OpenClaim := { program := "ytajffjhfecckbaa", sum := "4ace805bd8d96893ef1ea458434bcb43aabd6b0b8cdc5a1f3c76e5d085e5e0bc", func := "tandem/tandemlaw3.AluTurns", spec := "aluTurns", apart := false, narrowed := true }
def AluTurnsUptoSaid : Prop := aluTurnsUptoRow.holds Try.pinned (OpenSpec.upto aluTurnsSpec)

/-- 'tandemlaw3.AluDecimalTakes', WHERE WHAT IT READS IS OF BULK AT MOST 1048576: true; the input reads as it did. -/
def aluDecimalTakesUptoRow : OpenClaim := { program := "ytajffjhfecckbaa", sum := "4ace805bd8d96893ef1ea458434bcb43aabd6b0b8cdc5a1f3c76e5d085e5e0bc", func := "tandem/tandemlaw3.AluDecimalTakes", spec := "aluDecimalTakes", apart := false, narrowed := true }
def AluDecimalTakesUptoSaid : Prop := aluDecimalTakesUptoRow.holds Try.pinned (OpenSpec.upto aluDecimalTakesSpec)

/-- 'tandemlaw3.AluLongTakes', WHERE WHAT IT READS IS OF BULK AT MOST 1048576: true; the input reads as it did. -/
def aluLongTakesUptoRow : OpenClaim := { program := "ytajffjhfecckbaa", sum := "4ace805bd8d96893ef1ea458434bcb43aabd6b0b8cdc5a1f3c76e5d085e5e0bc", func := "tandem/tandemlaw3.AluLongTakes", spec := "aluLongTakes", apart := false, narrowed := true }
def AluLongTakesUptoSaid : Prop := aluLongTakesUptoRow.holds Try.pinned (OpenSpec.upto aluLongTakesSpec)

/-- 'tandemlaw3.AluAccs', WHERE WHAT IT READS IS OF BULK AT MOST 1048576: true; the input reads as it did. -/
def aluAccsUptoRow : OpenClaim := { program := "ytajffjhfecckbaa", sum := "4ace805bd8d96893ef1ea458434bcb43aabd6b0b8cdc5a1f3c76e5d085e5e0bc", func := "tandem/tandemlaw3.AluAccs", spec := "aluAccs", apart := false, narrowed := true }
def AluAccsUptoSaid : Prop := aluAccsUptoRow.holds Try.pinned (OpenSpec.upto aluAccsSpec)

/-- 'tandemlaw3.AluDecimalAdds', WHERE WHAT IT READS IS OF BULK AT MOST 1048576: true; the input reads as it did. -/
def aluDecimalAddsUptoRow : OpenClaim := { program := "ytajffjhfecckbaa", sum := "4ace805bd8d96893ef1ea458434bcb43aabd6b0b8cdc5a1f3c76e5d085e5e0bc", func := "tandem/tandemlaw3.AluDecimalAdds", spec := "aluDecimalAdds", apart := false, narrowed := true }
def AluDecimalAddsUptoSaid : Prop := aluDecimalAddsUptoRow.holds Try.pinned (OpenSpec.upto aluDecimalAddsSpec)

/-- 'tandemlaw3.AluLongSums', WHERE WHAT IT READS IS OF BULK AT MOST 1048576: true; the input reads as it did. -/
def aluLongSumsUptoRow : OpenClaim := { program := "ytajffjhfecckbaa", sum := "4ace805bd8d96893ef1ea458434bcb43aabd6b0b8cdc5a1f3c76e5d085e5e0bc", func := "tandem/tandemlaw3.AluLongSums", spec := "aluLongSums", apart := false, narrowed := true }
def AluLongSumsUptoSaid : Prop := aluLongSumsUptoRow.holds Try.pinned (OpenSpec.upto aluLongSumsSpec)

/-- 'tandemlaw3.AluSigned', WHERE WHAT IT READS IS OF BULK AT MOST 1048576: true; the input reads as it did. -/
def aluSignedUptoRow : OpenClaim := { program := "ytajffjhfecckbaa", sum := "4ace805bd8d96893ef1ea458434bcb43aabd6b0b8cdc5a1f3c76e5d085e5e0bc", func := "tandem/tandemlaw3.AluSigned", spec := "aluSigned", apart := false, narrowed := true }
def AluSignedUptoSaid : Prop := aluSignedUptoRow.holds Try.pinned (OpenSpec.upto aluSignedSpec)

/-- 'tandemlaw3.AluParts', WHERE WHAT IT READS IS OF BULK AT MOST 1048576: true; the input reads as it did. -/
def aluPartsUptoRow : OpenClaim := { program := "ytajffjhfecckbaa", sum := "4ace805bd8d96893ef1ea458434bcb43aabd6b0b8cdc5a1f3c76e5d085e5e0bc", func := "tandem/tandemlaw3.AluParts", spec := "aluParts", apart := false, narrowed := true }
def AluPartsUptoSaid : Prop := aluPartsUptoRow.holds Try.pinned (OpenSpec.upto aluPartsSpec)

/-- 'tandemlaw3.AluDoes', WHERE WHAT IT READS IS OF BULK AT MOST 1048576: true; the input reads as it did. -/
def aluDoesUptoRow : OpenClaim := { program := "ytajffjhfecckbaa", sum := "4ace805bd8d96893ef1ea458434bcb43aabd6b0b8cdc5a1f3c76e5d085e5e0bc", func := "tandem/tandemlaw3.AluDoes", spec := "aluDoes", unfollowed := true, recurses := true, apart := false, narrowed := true }
def AluDoesUptoSaid : Prop := aluDoesUptoRow.holds Try.pinned (OpenSpec.upto aluDoesSpec)

/-- 'tandemlaw3.AluDabbles', WHERE WHAT IT READS IS OF BULK AT MOST 1048576: true; the input reads as it did. -/
def aluDabblesUptoRow : OpenClaim := { program := "ytajffjhfecckbaa", sum := "4ace805bd8d96893ef1ea458434bcb43aabd6b0b8cdc5a1f3c76e5d085e5e0bc", func := "tandem/tandemlaw3.AluDabbles", spec := "aluDabbles", unfollowed := true, recurses := true, apart := false, narrowed := true }
def AluDabblesUptoSaid : Prop := aluDabblesUptoRow.holds Try.pinned (OpenSpec.upto aluDabblesSpec)

/-- 'tandemlaw3.AluPairs', WHERE WHAT IT READS IS OF BULK AT MOST 1048576: true; the input reads as it did. -/
def aluPairsUptoRow : OpenClaim := { program := "ytajffjhfecckbaa", sum := "4ace805bd8d96893ef1ea458434bcb43aabd6b0b8cdc5a1f3c76e5d085e5e0bc", func := "tandem/tandemlaw3.AluPairs", spec := "aluPairs", unfollowed := true, recurses := true, apart := false, narrowed := true }
def AluPairsUptoSaid : Prop := aluPairsUptoRow.holds Try.pinned (OpenSpec.upto aluPairsSpec)

end Rows
end Go.Proofs.Ytajffjhfecckbaa
