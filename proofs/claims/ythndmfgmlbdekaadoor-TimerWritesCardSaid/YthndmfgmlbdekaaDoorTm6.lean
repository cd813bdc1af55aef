/- The sequencer over n cycles: its loop, and what stands behind it. -/
import Derived.Test.YthndmfgmlbdekaaDoorTm5
namespace Go.Proofs.YthndmfgmlbdekaaDoor.Ev
open Go Go.RowKit
set_option linter.unusedVariables false
set_option linter.unusedSimpArgs false
set_option linter.constructorNameAsVariable false
/-! Pieces of a text, of a tree. -/
def codeOf (fn : Func) : Code := match fn.body with | some c => c | none => .skip
def seqL : Code → Code | .seq a _ => a | c => c
def seqR : Code → Code | .seq _ b => b | c => c
def blkOf : Code → Code | .block _ c => c | c => c
def loopOf : Code → Code | .loop c => c | c => c
def lft {α : Type} : Tree α → Tree α | .node _ l _ => l | t => t
def rgt {α : Type} : Tree α → Tree α | .node _ _ r => r | t => t
def outSt : Tree Out → St | .leaf o => o.2 | _ => ⟨.e, .e, 0, 0⟩
theorem seqO_of {t : Tree Out} {f : St → Tree Out} {s : St} (h : t.get = some (.nrm, s)) : (seqO t f).get = (f s).get := by
  induction t with
  | leaf o => cases h; rfl
  | node b l r ihl ihr =>
    cases b with
    | true => exact ihl h
    | false => exact ihr h
  | bad => cases h
theorem seqO_ex {t : Tree Out} {f : St → Tree Out} {o : Out} (h : t.get = some o) (hk : o.1 ≠ .nrm) : (seqO t f).get = some o := by
  induction t with
  | leaf o' =>
    cases h
    obtain ⟨k, s⟩ := o
    cases k with
    | nrm => exact absurd rfl hk
    | ex i => rfl
    | rt => rfl
  | node b l r ihl ihr =>
    cases b with
    | true => exact ihl h
    | false => exact ihr h
  | bad => cases h
theorem unblock_of {id : Nat} {t : Tree Out} {s : St} (h : t.get = some (.ex id, s)) : (unblock id t).get = some (.nrm, s) := by
  induction t with
  | leaf o =>
    cases h
    simp only [unblock]
    rw [beq_iff.2 rfl]; rfl
  | node b l r ihl ihr =>
    cases b with
    | true => exact ihl h
    | false => exact ihr h
  | bad => cases h

/-! The loop. -/
def keepS : Nat → Option (List Nat) | 0 => some [1, 2, 4] | _ => none
theorem keepS_ok : KeepOk keepS := by
  intro b ds h x hx
  unfold keepS at h
  split at h
  · cases h; simp at hx; omega
  · cases h
noncomputable def bodyS : Code := loopOf (blkOf (seqL (seqR (codeOf Tryd.f35))))
noncomputable def restS : Code := seqR (seqR (codeOf Tryd.f35))
def clk00 : List L := [.int .u16 (.lit 0), .int .u16 (.lit 0), .int .u16 (.lit 0), .int .u8 (.lit 0), .int .u8 (.lit 0), .bool (.lit false), .bool (.lit false), .bool (.lit false), .bool (.lit false), .bool (.lit false), .int .u16 (.lit 0), .int .u8 (.lit 0), .int .u8 (.lit 0)]
def stS (c : Clk) (n : Int) : St :=
  ⟨T.set depth (T.set depth (T.set depth .e 4 (some (0, .v (.l (.ptr 4 (.lit 0)))))) 2 (some (0, .v (.l (.ptr 3 (.lit 0)))))) 1 (some (0, vint .u64 (.sym n))),
    T.set depth (T.set depth H0 3 (some ⟨true, .row (stamp 0 (clkLs c))⟩)) 4 (some ⟨true, .row (stamp 0 clk00)⟩), 5, 0⟩
noncomputable def tS (k : Nat) (c : Clk) (n : Int) : Tree Out := evC (Cb.with sp2) 92 k keepS 0 bodyS (stS c n)
noncomputable def sB (k : Nat) (c : Clk) (n : Int) : St := outSt (lft (lft (tS k c n)))
noncomputable def sX (k : Nat) (c : Clk) (n : Int) : St := outSt (rgt (tS k c n))
def rMore (c : Clk) (n : Int) : Bool := bif decide (n > 0) then (bif decide (c.wa > 0) then true else decide (IntKind.u64.wrap c.pl ≥ K.rnd c.fi)) else false
theorem tS_eq (k : Nat) (c : Clk) (n : Int) : tS k c n = .node (rMore c n) (.node (K.okv c) (.leaf (.nrm, sB k c n)) .bad) (.leaf (.ex 0, sX k c n)) := by kernel_rfl
theorem sB_eq (k : Nat) (c : Clk) (n : Int) : headSt (keepS 0) (sB k c n) = stS (K.one c) (IntKind.u64.wrap (n - 1)) := by kernel_rfl
noncomputable def endS (o : Out) : Tree (V × St) := match o.1 with
  | .ex _ => .bad
  | _ => (evRes (Cb.with sp2) o.2 Tryd.f35.results.toList).bind fun xs => .leaf (pack xs, o.2)
noncomputable def tailS (k : Nat) (c : Clk) (n : Int) : Tree (V × St) := (evC (Cb.with sp2) 92 k keepS 0 restS (sX k c n)).bind endS
noncomputable def sA (k : Nat) (c : Clk) (n : Int) : St := outSt (evC (Cb.with sp2) 92 k keepS 0 (seqL (codeOf Tryd.f35)) ⟨argEnv 0 [clkV c, vint .u64 (.sym n)] .e, H0, 3, 0⟩)
theorem ev35 (k : Nat) (c : Clk) (n : Int) : evFn (Cb.with sp2) k keepS Tryd.f35 Cb.H0 3 [clkV c, vint .u64 (.sym n)] =
    (seqO (unblock 0 (evLoop k (headSt (keepS 0)) (evC (Cb.with sp2) 92 k keepS 0 bodyS) (sA k c n))) (evC (Cb.with sp2) 92 k keepS 0 restS)).bind endS := by kernel_rfl
theorem sA_eq (k : Nat) (c : Clk) (n : Int) : headSt (keepS 0) (sA k c n) = stS c n := by kernel_rfl
def rTo (c : Clk) (n : Int) : Int := IntKind.u64.wrap (IntKind.u64.wrap c.pl + n)
def rMarks (c : Clk) (n : Int) : Int := IntKind.u8.wrap ((IntKind.u64.wrap (IntKind.u64.wrap (IntKind.u64.wrap c.be + K.passed (rTo c n) (K.rnd c.fi) [7457, 14913, 22371, K.lastB c.fi]) - K.passed (IntKind.u64.wrap c.pl) (K.rnd c.fi) [7457, 14913, 22371, K.lastB c.fi])).tmod 64)
def rAsk (c : Clk) (n : Int) : Bool := bif decide (K.passed (rTo c n) (K.rnd c.fi) [29828, 29829, 29830] > K.passed (IntKind.u64.wrap c.pl) (K.rnd c.fi) [29828, 29829, 29830]) then true else c.fr
def rTl (c : Clk) (n : Int) (fr : Bool) : Clk := { c with fr := fr, pl := IntKind.u16.wrap ((rTo c n).tmod (K.rnd c.fi)), be := rMarks c n }
theorem tail_eq (k : Nat) (c : Clk) (n : Int) : vals (tailS (k + 5) c n) =
    .node (n == 0) (.leaf (clkV c)) (.node (okP (rTo c n) (K.rnd c.fi)) (.node (okP (IntKind.u64.wrap c.pl) (K.rnd c.fi))
      (.node (!c.fi) (.node (!c.inh) (.node (okP (rTo c n) (K.rnd c.fi)) (.node (okP (IntKind.u64.wrap c.pl) (K.rnd c.fi)) (.node (K.rnd c.fi != 0) (.leaf (clkV (rTl c n (rAsk c n)))) .bad) .bad) .bad)
        (.node (K.rnd c.fi != 0) (.leaf (clkV (rTl c n c.fr))) .bad)) (.node (K.rnd c.fi != 0) (.leaf (clkV (rTl c n c.fr))) .bad)) .bad) .bad) := by kernel_rfl
end Go.Proofs.YthndmfgmlbdekaaDoor.Ev
