/-
  No cell of these rows narrows 'for every input' (looked for: loops, veiled, ifaces, maps, wideKeys, modest, calm, conditions, laid).
  DERIVED. THE GIVEN ROWS OF THIS SEAT. 6 by the template 'for every input the law returns true; each argument reads behind the call as it read before'; 0 by the template 'total and deterministic' (their statements: YtdapkmbigfcaoaaTotals.lean).
  GIVEN WITH THE SEED: the statements are not yours to turn. If you find one false, say at which input.
  Laid BY PROGRAM, IN A SANDBOX (cutbox-rows.mjs): the forced cells as the released guide's own fill.sh prints them over the translation 4b71e0b5f68a07d0… (all of the seat's roots in one cut). By AI agents, Wed Nov 11 2026. No macro, syntax, notation, axiom, sorry.
-/
import Derived.Test.YtdapkmbigfcaoaaChecked
import GoSem.Claim
import GoSem.ClaimJoined
import GoSem.ClaimMapViews
import Derived.JoinedTies
import Derived.KernelRfl
namespace Go.Proofs.Ytdapkmbigfcaoaa
/- THE CELL 'sum', in the pinned program and in every row, IS THE sha256 OF THE DUMP (.gsa) THAT YtdapkmbigfcaoaaProg.lean LOADS. Nothing in Lean hashes anything: it is a label: what it is worth is what the hold of that sum in a sandbox is worth. -/
noncomputable def Try.pinned : Pinned := { name := "ytdapkmbigfcaoaa", sum := "4b71e0b5f68a07d0677b738d849dc5a864e0b5304d5a782183eda06fe06a2731", checked := Try.checked }
namespace Rows
def none {H : Type} : Left H := { results := [], args := [] }

/-- 'tandemlaw14.CacheSlots': WHATEVER THE INPUT: true; the input reads as it did. -/
def cacheSlotsSpec : ChangeSpec := { name := "cacheSlots", fn := fun _ => fun
  | [d1, d2] => { results := [.lit (.bool true)], args := [d1, d2] }
  | _ => none }
def cacheSlotsRow : OpenClaim := { program := "ytdapkmbigfcaoaa", sum := "4b71e0b5f68a07d0677b738d849dc5a864e0b5304d5a782183eda06fe06a2731", func := "tandem/tandemlaw14.CacheSlots", spec := "cacheSlots", apart := false }
def CacheSlotsSaid : Prop := cacheSlotsRow.holds Try.pinned (OpenSpec.ofChange cacheSlotsSpec)

/-- ITS FALSE NEIGHBOUR: 'it returns false'. Refute it at one input. -/
def cacheSlotsWrong : ChangeSpec := { name := "cacheSlots", fn := fun _ => fun
  | [d1, d2] => { results := [.lit (.bool false)], args := [d1, d2] }
  | _ => none }
def CacheSlotsWrongFalsely : Prop := cacheSlotsRow.holds Try.pinned (OpenSpec.ofChange cacheSlotsWrong)

/-- 'tandemlaw14.CacheBook': WHATEVER THE INPUT: true; the input reads as it did. -/
def cacheBookSpec : ChangeSpec := { name := "cacheBook", fn := fun _ => fun
  | [d1, d2] => { results := [.lit (.bool true)], args := [d1, d2] }
  | _ => none }
def cacheBookRow : OpenClaim := { program := "ytdapkmbigfcaoaa", sum := "4b71e0b5f68a07d0677b738d849dc5a864e0b5304d5a782183eda06fe06a2731", func := "tandem/tandemlaw14.CacheBook", spec := "cacheBook", unfollowed := true, recurses := true, apart := false }
def CacheBookSaid : Prop := cacheBookRow.holds Try.pinned (OpenSpec.ofChange cacheBookSpec)

/-- ITS FALSE NEIGHBOUR: 'it returns false'. Refute it at one input. -/
def cacheBookWrong : ChangeSpec := { name := "cacheBook", fn := fun _ => fun
  | [d1, d2] => { results := [.lit (.bool false)], args := [d1, d2] }
  | _ => none }
def CacheBookWrongFalsely : Prop := cacheBookRow.holds Try.pinned (OpenSpec.ofChange cacheBookWrong)

/-- 'tandemlaw14.CacheOne': WHATEVER THE INPUT: true; the input reads as it did. -/
def cacheOneSpec : ChangeSpec := { name := "cacheOne", fn := fun _ => fun
  | [d1, d2] => { results := [.lit (.bool true)], args := [d1, d2] }
  | _ => none }
def cacheOneRow : OpenClaim := { program := "ytdapkmbigfcaoaa", sum := "4b71e0b5f68a07d0677b738d849dc5a864e0b5304d5a782183eda06fe06a2731", func := "tandem/tandemlaw14.CacheOne", spec := "cacheOne", unfollowed := true, recurses := true, apart := false }
def CacheOneSaid : Prop := cacheOneRow.holds Try.pinned (OpenSpec.ofChange cacheOneSpec)

/-- ITS FALSE NEIGHBOUR: 'it returns false'. Refute it at one input. -/
def cacheOneWrong : ChangeSpec := { name := "cacheOne", fn := fun _ => fun
  | [d1, d2] => { results := [.lit (.bool false)], args := [d1, d2] }
  | _ => none }
def CacheOneWrongFalsely : Prop := cacheOneRow.holds Try.pinned (OpenSpec.ofChange cacheOneWrong)

/-- 'tandemlaw14.CacheFresh': WHATEVER THE INPUT: true; the input reads as it did. -/
def cacheFreshSpec : ChangeSpec := { name := "cacheFresh", fn := fun _ => fun
  | [d1, d2, d3] => { results := [.lit (.bool true)], args := [d1, d2, d3] }
  | _ => none }
def cacheFreshRow : OpenClaim := { program := "ytdapkmbigfcaoaa", sum := "4b71e0b5f68a07d0677b738d849dc5a864e0b5304d5a782183eda06fe06a2731", func := "tandem/tandemlaw14.CacheFresh", spec := "cacheFresh", unfollowed := true, recurses := true, apart := false }
def CacheFreshSaid : Prop := cacheFreshRow.holds Try.pinned (OpenSpec.ofChange cacheFreshSpec)

/-- ITS FALSE NEIGHBOUR: 'it returns false'. Refute it at one input. -/
def cacheFreshWrong : ChangeSpec := { name := "cacheFresh", fn := fun _ => fun
  | [d1, d2, d3] => { results := [.lit (.bool false)], args := [d1, d2, d3] }
  | _ => none }
def CacheFreshWrongFalsely : Prop := cacheFreshRow.holds Try.pinned (OpenSpec.ofChange cacheFreshWrong)

/-- 'tandemlaw14.CachePlays': WHATEVER THE INPUT: true; the input reads as it did. -/
def cachePlaysSpec : ChangeSpec := { name := "cachePlays", fn := fun _ => fun
  | [d1, d2] => { results := [.lit (.bool true)], args := [d1, d2] }
  | _ => none }
def cachePlaysRow : OpenClaim := { program := "ytdapkmbigfcaoaa", sum := "4b71e0b5f68a07d0677b738d849dc5a864e0b5304d5a782183eda06fe06a2731", func := "tandem/tandemlaw14.CachePlays", spec := "cachePlays", unfollowed := true, recurses := true, apart := false }
def CachePlaysSaid : Prop := cachePlaysRow.holds Try.pinned (OpenSpec.ofChange cachePlaysSpec)

/-- ITS FALSE NEIGHBOUR: 'it returns false'. Refute it at one input. -/
def cachePlaysWrong : ChangeSpec := { name := "cachePlays", fn := fun _ => fun
  | [d1, d2] => { results := [.lit (.bool false)], args := [d1, d2] }
  | _ => none }
def CachePlaysWrongFalsely : Prop := cachePlaysRow.holds Try.pinned (OpenSpec.ofChange cachePlaysWrong)

/-- 'tandemlaw14.CacheNil': WHATEVER THE INPUT: true; the input reads as it did. -/
def cacheNilSpec : ChangeSpec := { name := "cacheNil", fn := fun _ => fun
  | [] => { results := [.lit (.bool true)], args := [] }
  | _ => none }
def cacheNilRow : OpenClaim := { program := "ytdapkmbigfcaoaa", sum := "4b71e0b5f68a07d0677b738d849dc5a864e0b5304d5a782183eda06fe06a2731", func := "tandem/tandemlaw14.CacheNil", spec := "cacheNil", unfollowed := true, recurses := true, apart := false }
def CacheNilSaid : Prop := cacheNilRow.holds Try.pinned (OpenSpec.ofChange cacheNilSpec)

/-- ITS FALSE NEIGHBOUR: 'it returns false'. Refute it at one input. -/
def cacheNilWrong : ChangeSpec := { name := "cacheNil", fn := fun _ => fun
  | [] => { results := [.lit (.bool false)], args := [] }
  | _ => none }
def CacheNilWrongFalsely : Prop := cacheNilRow.holds Try.pinned (OpenSpec.ofChange cacheNilWrong)

/- THE SECOND FORM. 'bulk': how many values and letters a reading holds, each counted each time it is reached (what is shared counts as often as it is met; a slice's spare places count too). A statement '..UptoSaid' is the law's where the arguments, and the package variables that the reading takes, are together of bulk at most 1048576: NARROWER than '..Said'. Prove '..Said' where nothing that the law and all that it calls make is longer than what came in: it says more and counts as full. Else prove '..UptoSaid'. A law counts once. -/
mutual
def uptoBulk {H : Type} : DataW H → Nat
  | .lit (.string bytes) => bytes.length + 1
  | .lit _ => 1
  | .nil => 1
  | .ptr d => uptoBulk d + 1
  | .slice elems spare => uptoBulkAll elems + uptoBulkAll spare + 1
  | .agg parts => uptoBulkAll parts + 1
  | .iface _ d => uptoBulk d + 1
  | .map entries => uptoBulkEntries entries + 1
  | .held _ => 1
def uptoBulkAll {H : Type} : List (DataW H) → Nat
  | [] => 0
  | d :: r => uptoBulk d + uptoBulkAll r
def uptoBulkEntries {H : Type} : List (Lit × DataW H) → Nat
  | [] => 0
  | x :: r => uptoBulkEntry x + uptoBulkEntries r
def uptoBulkEntry {H : Type} : Lit × DataW H → Nat
  | (.string bytes, d) => bytes.length + uptoBulk d + 1
  | (_, d) => uptoBulk d + 1
 end
def uptoSmall : (H : Type) → List (DataW H) → Bool := fun _ ds => decide (uptoBulkAll ds ≤ 1048576)
def OpenSpec.upto (s : _root_.Go.ChangeSpec) : _root_.Go.OpenSpec := { _root_.Go.OpenSpec.ofChange s with cond := some uptoSmall }

/-- 'tandemlaw14.CacheSlots', WHERE WHAT IT READS IS OF BULK AT MOST 1048576: true; the input reads as it did. -/
def cacheSlotsUptoRow : OpenClaim := { program := "ytdapkmbigfcaoaa", sum := "4b71e0b5f68a07d0677b738d849dc5a864e0b5304d5a782183eda06fe06a2731", func := "tandem/tandemlaw14.CacheSlots", spec := "cacheSlots", apart := false, narrowed := true }
def CacheSlotsUptoSaid : Prop := cacheSlotsUptoRow.holds Try.pinned (OpenSpec.upto cacheSlotsSpec)

/-- 'tandemlaw14.CacheBook', WHERE WHAT IT READS IS OF BULK AT MOST 1048576: true; the input reads as it did. -/
def cacheBookUptoRow : OpenClaim := { program := "ytdapkmbigfcaoaa", sum := "4b71e0b5f68a07d0677b738d849dc5a864e0b5304d5a782183eda06fe06a2731", func := "tandem/tandemlaw14.CacheBook", spec := "cacheBook", unfollowed := true, recurses := true, apart := false, narrowed := true }
def CacheBookUptoSaid : Prop := cacheBookUptoRow.holds Try.pinned (OpenSpec.upto cacheBookSpec)

/-- 'tandemlaw14.CacheOne', WHERE WHAT IT READS IS OF BULK AT MOST 1048576: true; the input reads as it did. -/
def cacheOneUptoRow : OpenClaim := { program := "ytdapkmbigfcaoaa", sum := "4b71e0b5f68a07d0677b738d849dc5a864e0b5304d5a782183eda06fe06a2731", func := "tandem/tandemlaw14.CacheOne", spec := "cacheOne", unfollowed := true, recurses := true, apart := false, narrowed := true }
def CacheOneUptoSaid : Prop := cacheOneUptoRow.holds Try.pinned (OpenSpec.upto cacheOneSpec)

/-- 'tandemlaw14.CacheFresh', WHERE WHAT IT READS IS OF BULK AT MOST 1048576: true; the input reads as it did. -/
def cacheFreshUptoRow : OpenClaim := { program := "ytdapkmbigfcaoaa", sum := "4b71e0b5f68a07d0677b738d849dc5a864e0b5304d5a782183eda06fe06a2731", func := "tandem/tandemlaw14.CacheFresh", spec := "cacheFresh", unfollowed := true, recurses := true, apart := false, narrowed := true }
def CacheFreshUptoSaid : Prop := cacheFreshUptoRow.holds Try.pinned (OpenSpec.upto cacheFreshSpec)

/-- 'tandemlaw14.CachePlays', WHERE WHAT IT READS IS OF BULK AT MOST 1048576: true; the input reads as it did. -/
def cachePlaysUptoRow : OpenClaim := { program := "ytdapkmbigfcaoaa", sum := "4b71e0b5f68a07d0677b738d849dc5a864e0b5304d5a782183eda06fe06a2731", func := "tandem/tandemlaw14.CachePlays", spec := "cachePlays", unfollowed := true, recurses := true, apart := false, narrowed := true }
def CachePlaysUptoSaid : Prop := cachePlaysUptoRow.holds Try.pinned (OpenSpec.upto cachePlaysSpec)

/-- 'tandemlaw14.CacheNil', WHERE WHAT IT READS IS OF BULK AT MOST 1048576: true; the input reads as it did. -/
def cacheNilUptoRow : OpenClaim := { program := "ytdapkmbigfcaoaa", sum := "4b71e0b5f68a07d0677b738d849dc5a864e0b5304d5a782183eda06fe06a2731", func := "tandem/tandemlaw14.CacheNil", spec := "cacheNil", unfollowed := true, recurses := true, apart := false, narrowed := true }
def CacheNilUptoSaid : Prop := cacheNilUptoRow.holds Try.pinned (OpenSpec.upto cacheNilSpec)

end Rows
end Go.Proofs.Ytdapkmbigfcaoaa
