/- The evaluator's second part: regions that draw their order, statements, loops, whole functions. Definitions alone. -/
import Derived.Test.YthndmfgmlbdekaaDoorEv1
import Derived.Deep.Quiet
import Derived.StillTail
namespace Go.Proofs.YthndmfgmlbdekaaDoor.Ev
open Go Go.RowKit
set_option linter.unusedSimpArgs false
set_option linter.constructorNameAsVariable false
set_option linter.unusedVariables false
def isQ : Op → Bool
  | .alloc _ => false
  | .box _ _ => false
  | .store _ _ _ => false
  | _ => true
def quietHead : List Oper → Nat
  | [] => 0
  | o :: os => bif isQ o.op then quietHead os + 1 else 0
def drawOk (ops : Array Oper) : Bool :=
  bif ops.toList.all (fun o => isQ o.op) then Region.lexB .any ops else Region.lexTailB .any ops (quietHead ops.toList)
def seqO : Tree Out → (St → Tree Out) → Tree Out
  | .leaf (.nrm, s), f => f s
  | .leaf o, _ => .leaf o
  | .node t l r, f => .node t (seqO l f) (seqO r f)
  | .bad, _ => .bad
def unblock (id : Nat) : Tree Out → Tree Out
  | .leaf (.ex i, s) => bif Nat.beq i id then .leaf (.nrm, s) else .leaf (.ex i, s)
  | .leaf o => .leaf o
  | .node t l r => .node t (unblock id l) (unblock id r)
  | .bad => .bad
def evLoop : Nat → (St → St) → (St → Tree Out) → St → Tree Out
  | 0, _, _, _ => .bad
  | n + 1, hd, f, s => seqO (f (hd s)) (evLoop n hd f)
def keepEnv (lvl : Nat) (e : T (Nat × V)) : List Nat → T (Nat × V)
  | [] => .e
  | d :: ds => match e.get d with
    | some x => T.set depth (keepEnv lvl e ds) d (some (lvl, x.2))
    | none => keepEnv lvl e ds
def headSt (keep : Option (List Nat)) (s : St) : St := match keep with
  | some ds => { s with env := keepEnv s.lvl s.env ds }
  | none => s
section
variable (C : Ctx) (nt k : Nat) (keep : Nat → Option (List Nat))
def evC : Nat → Code → St → Tree Out
  | _, .skip, s => .leaf (.nrm, s)
  | _, .region _ ops draw, s => bif !draw || drawOk ops then (evOps C nt ops.toList ops.toList s).bind fun s' => .leaf (.nrm, s') else .bad
  | b, .seq x y, s => seqO (evC b x s) (evC b y)
  | b, .cond c x y, s => match evO C s c with
    | some (.v (.l (.bool (.lit t)))) => bif t then evC b x s else evC b y s
    | some (.v (.l (.bool (.sym t)))) => join s.lvl t (evC b x s.up) (evC b y s.up)
    | _ => .bad
  | _, .block id x, s => unblock id (evC id x s)
  | b, .loop x, s => evLoop k (headSt (keep b)) (evC b x) s
  | _, .exit id, s => .leaf (.ex id, s)
  | _, .ret, s => .leaf (.rt, s)
  | _, .label _, s => .leaf (.nrm, s)
  | _, _, _ => .bad
def evRes (s : St) : List ResultVar → Tree (List V0)
  | [] => .leaf []
  | .tmp t :: rs => match s.env.get t with
    | some (_, .v x) => (evRes s rs).bind fun xs => .leaf (x :: xs)
    | _ => .bad
  | .cell a t :: rs => match s.env.get a with
    | some (_, p) => (evLoad C s t p).bind fun v => match v with
      | .v x => (evRes s rs).bind fun xs => .leaf (x :: xs)
      | .tup _ => .bad
    | _ => .bad
def pack : List V0 → V
  | [x] => .v x
  | xs => .tup xs
def argEnv : Nat → List V → T (Nat × V) → T (Nat × V)
  | _, [], e => e
  | i, x :: xs, e => argEnv (i + 1) xs (T.set depth e i (some (0, x)))
def evBody (c : Code) (rs : List ResultVar) (h : T Blk) (n : Nat) (args : List V) : Tree (V × St) :=
  (evC C nt k keep 0 c ⟨argEnv 0 args .e, h, n, 0⟩).bind fun o => match o.1 with
    | .ex _ => .bad
    | _ => (evRes C o.2 rs).bind fun xs => .leaf (pack xs, o.2)
def evFn (fn : Func) (h : T Blk) (n : Nat) (args : List V) : Tree (V × St) := match fn.body with
  | some c => bif Nat.ble args.length fn.ntmps && Nat.ble fn.ntmps 4000 then evBody C fn.ntmps k keep c fn.results.toList h n args else .bad
  | none => .bad
end
/-- The value alone. -/
def vals (t : Tree (V × St)) : Tree V := t.bind fun p => .leaf p.1
def tdOf : TypeDesc → TD
  | .int k => .int k
  | .bool => .bool
  | .struct fs => .struct (fs.toList.map fun f => (f.offset, f.type))
  | .array n e => .arr n e
  | .slice e => .slice e
  | _ => .other
def aggOf : TypeDesc → Bool
  | .struct _ => true
  | .array _ _ => true
  | _ => false
def tiOf (P : Program) (t : TypeId) : Option TI := match P.info? t, P.underlying t with
  | some i, some d => match i.zero with
    | some z => some ⟨i.size, i.bytes, aggOf d, z.cells.toList.map ofL, tdOf d⟩
    | none => none
  | _, _ => none
def tyIn : List (Nat × TI) → Nat → Option TI
  | [], _ => none
  | (u, i) :: xs, t => bif Nat.beq u t then some i else tyIn xs t
end Go.Proofs.YthndmfgmlbdekaaDoor.Ev
