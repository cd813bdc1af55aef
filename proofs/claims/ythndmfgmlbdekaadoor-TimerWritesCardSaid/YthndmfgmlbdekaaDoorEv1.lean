/- A small evaluator over the program's operations, on a frame and a heap whose shape is written out and whose numbers are variables; its answer is a tree of tests. Definitions alone. -/
import Derived.Below
import Derived.Laws.Entries
namespace Go.Proofs.YthndmfgmlbdekaaDoor.Ev
open Go Go.RowKit
set_option linter.unusedSimpArgs false
set_option linter.constructorNameAsVariable false
set_option linter.unusedVariables false

/-! ### Numbers and tests: known ones apart from the others -/
inductive I where | lit (n : Int) | sym (n : Int)
def I.n : I → Int | .lit n => n | .sym n => n
def I.map (f : Int → Int) : I → I | .lit n => .lit (f n) | .sym n => .sym (f n)
def I.map2 (f : Int → Int → Int) : I → I → I
  | .lit a, .lit b => .lit (f a b)
  | .lit a, .sym b => .sym (f a b)
  | .sym a, .lit b => .sym (f a b)
  | .sym a, .sym b => .sym (f a b)
inductive B where | lit (b : Bool) | sym (b : Bool)
def B.b : B → Bool | .lit b => b | .sym b => b
def B.not : B → B | .lit b => .lit (!b) | .sym b => .sym (!b)
def B.eq : B → B → B
  | .lit a, .lit b => .lit (a == b)
  | .lit a, .sym b => .sym (a == b)
  | .sym a, .lit b => .sym (a == b)
  | .sym a, .sym b => .sym (a == b)
def I.cmp (f : Int → Int → Bool) : I → I → B
  | .lit a, .lit b => .lit (f a b)
  | .lit a, .sym b => .sym (f a b)
  | .sym a, .lit b => .sym (f a b)
  | .sym a, .sym b => .sym (f a b)
inductive N where | lit (n : Nat) | sym (n : Nat)
def N.n : N → Nat | .lit n => n | .sym n => n
def N.map (f : Nat → Nat) : N → N | .lit n => .lit (f n) | .sym n => .sym (f n)
def N.map2 (f : Nat → Nat → Nat) : N → N → N
  | .lit a, .lit b => .lit (f a b)
  | .lit a, .sym b => .sym (f a b)
  | .sym a, .lit b => .sym (f a b)
  | .sym a, .sym b => .sym (f a b)
def I.toN : I → N | .lit n => .lit n.toNat | .sym n => .sym n.toNat
def N.toI : N → I | .lit n => .lit n | .sym n => .sym n

/-! ### Values -/
inductive L where
  | int (k : IntKind) (x : I)
  | bool (x : B)
  | ptr (v : Nat) (o : N)
  | slc (v : Nat) (o l c : N)
  | raw (x : Value)
  | str (x : ByteArray)
  | ifc (t : TypeId) (x : L)
inductive V0 where | l (x : L) | agg (xs : List L)
inductive V where | v (x : V0) | tup (xs : List V0)
def L.den (ρ : List Nat) : L → Option Value
  | .int k x => some (.int k x.n)
  | .bool x => some (.bool x.b)
  | .ptr v o => match ρ[v]? with | some b => some (.pointer (some ⟨b, o.n, none⟩)) | none => none
  | .slc v o l c => match ρ[v]? with | some b => some (.slice (some ⟨b, o.n, none⟩) l.n c.n) | none => none
  | .raw x => some x
  | .str x => some (.string x)
  | .ifc t x => match x.den ρ with | some y => some (.iface t y) | none => none
def denL (ρ : List Nat) : List L → Option (List Value)
  | [] => some []
  | x :: xs => match x.den ρ, denL ρ xs with | some y, some ys => some (y :: ys) | _, _ => none
def V0.den (ρ : List Nat) : V0 → Option Value
  | .l x => x.den ρ
  | .agg xs => match denL ρ xs with | some ys => some (.agg ys.toArray) | none => none
def denV0 (ρ : List Nat) : List V0 → Option (List Value)
  | [] => some []
  | x :: xs => match x.den ρ, denV0 ρ xs with | some y, some ys => some (y :: ys) | _, _ => none
def V.den (ρ : List Nat) : V → Option Value
  | .v x => x.den ρ
  | .tup xs => match denV0 ρ xs with | some ys => some (.tuple ys.toArray) | none => none
def denVs (ρ : List Nat) : List V → Option (List Value)
  | [] => some []
  | x :: xs => match x.den ρ, denVs ρ xs with | some y, some ys => some (y :: ys) | _, _ => none
def ofL : Value → L
  | .int k n => .int k (.lit n)
  | .bool b => .bool (.lit b)
  | .string b => .str b
  | x => .raw x
def ofV : Value → V
  | .agg cs => .v (.agg (cs.toList.map ofL))
  | .tuple cs => if cs.isEmpty then .tup [] else .v (.l (.raw (.tuple cs)))
  | x => .v (.l (ofL x))
def vint (k : IntKind) (x : I) : V := .v (.l (.int k x))
def vbool (x : B) : V := .v (.l (.bool x))

/-! ### Finite maps over numbers -/
inductive T (α : Type) where | e | n (o : Option α) (l r : T α)
def T.get {α : Type} : T α → Nat → Option α
  | .e, _ => none
  | .n o l r, k => bif Nat.beq k 0 then o else bif Nat.beq (k % 2) 1 then l.get ((k - 1) / 2) else r.get ((k - 1) / 2)
def T.set {α : Type} : Nat → T α → Nat → Option α → T α
  | 0, t, _, _ => t
  | f + 1, .e, k, v => bif Nat.beq k 0 then .n v .e .e else bif Nat.beq (k % 2) 1 then .n none (T.set f .e ((k - 1) / 2) v) .e else .n none .e (T.set f .e ((k - 1) / 2) v)
  | f + 1, .n o l r, k, v => bif Nat.beq k 0 then .n v l r else bif Nat.beq (k % 2) 1 then .n o (T.set f l ((k - 1) / 2) v) r else .n o l (T.set f r ((k - 1) / 2) v)
def T.merge {α : Type} (f : α → α → Option α) : T α → T α → T α
  | .n o l r, .n o' l' r' => .n (match o, o' with | some a, some b => f a b | _, _ => none) (T.merge f l l') (T.merge f r r')
  | _, _ => .e
def T.all {α : Type} (f : α → Bool) : T α → Bool
  | .e => true
  | .n o l r => (match o with | some a => f a | none => true) && (l.all f && r.all f)

/-! ### Trees of tests -/
inductive Tree (α : Type) where | leaf (x : α) | node (t : Bool) (l r : Tree α) | bad
def Tree.get {α : Type} : Tree α → Option α
  | .leaf x => some x
  | .node t l r => bif t then l.get else r.get
  | .bad => none
def Tree.bind {α β : Type} : Tree α → (α → Tree β) → Tree β
  | .leaf x, f => f x
  | .node t l r, f => .node t (l.bind f) (r.bind f)
  | .bad, _ => .bad
def need {α : Type} (t : B) (x : Tree α) : Tree α := match t with
  | .lit b => bif b then x else .bad
  | .sym b => .node b x .bad
def ofO {α : Type} : Option α → Tree α | some x => .leaf x | none => .bad

/-! ### States -/
inductive Cells where
  | row (xs : List (Nat × L))
  | ints (st : Nat) (k : IntKind) (xs : List Int)
structure Blk where
  wr : Bool
  cs : Cells
structure St where
  env : T (Nat × V)
  heap : T Blk
  next : Nat
  lvl : Nat
def depth : Nat := 13
def St.put (s : St) (d : Option Tmp) (v : V) : St := match d with
  | some d => { s with env := T.set depth s.env d (some (s.lvl, v)) }
  | none => s

/-! ### What is known of the program -/
inductive TD where
  | int (k : IntKind) | bool | struct (fs : List (Nat × TypeId)) | arr (n : Nat) (e : TypeId) | slice (e : TypeId) | other
structure TI where
  size : Nat
  bytes : Nat
  agg : Bool
  zero : List L
  d : TD
inductive EK where | int (k : IntKind) | bool
structure Ctx where
  P : Program
  ty : TypeId → Option TI
  gs : List Nat
  H0 : T Blk
  spec : FuncId → Option (T Blk → Nat → List V → Tree V)
  eqs : List (TypeId × List EK)
def idx : List Nat → Nat → Option Nat
  | [], _ => none
  | x :: xs, g => bif Nat.beq x g then some 0 else match idx xs g with | some i => some (i + 1) | none => none
section
variable (C : Ctx)
def evO (s : St) : Operand → Option V
  | .tmp t => match s.env.get t with | some x => some x.2 | none => none
  | .const v => some (ofV v)
  | .global g => match idx C.gs g with | some i => some (.v (.l (.ptr i (.lit 0)))) | none => none
  | .func f => some (.v (.l (.raw (.func (.func f) #[] #[]))))
def evOs (s : St) : List Operand → Option (List V)
  | [] => some []
  | x :: xs => match evO C s x, evOs s xs with | some y, some ys => some (y :: ys) | _, _ => none

/-! ### Merging -/
def mI (t : Bool) : I → I → I
  | .lit a, .lit b => bif a == b then .lit a else .sym (bif t then a else b)
  | .lit a, .sym b => .sym (bif t then a else b)
  | .sym a, .lit b => .sym (bif t then a else b)
  | .sym a, .sym b => .sym (bif t then a else b)
def mB (t : Bool) : B → B → B
  | .lit a, .lit b => bif a == b then .lit a else .sym (bif t then a else b)
  | .lit a, .sym b => .sym (bif t then a else b)
  | .sym a, .lit b => .sym (bif t then a else b)
  | .sym a, .sym b => .sym (bif t then a else b)
def mN (t : Bool) : N → N → N
  | .lit a, .lit b => bif Nat.beq a b then .lit a else .sym (bif t then a else b)
  | .lit a, .sym b => .sym (bif t then a else b)
  | .sym a, .lit b => .sym (bif t then a else b)
  | .sym a, .sym b => .sym (bif t then a else b)
def sameRaw : Value → Value → Bool
  | .pointer none, .pointer none => true
  | .nilIface, .nilIface => true
  | .nilFunc, .nilFunc => true
  | .slice none a b, .slice none c d => Nat.beq a c && Nat.beq b d
  | .map none, .map none => true
  | .func (.func f) x y, .func (.func g) z w => Nat.beq f g && (x.isEmpty && y.isEmpty && (z.isEmpty && w.isEmpty))
  | _, _ => false
def mL (t : Bool) : L → L → Option L
  | .int k x, .int k' y => bif decide (k = k') then some (.int k (mI t x y)) else none
  | .bool x, .bool y => some (.bool (mB t x y))
  | .ptr v o, .ptr v' o' => bif Nat.beq v v' then some (.ptr v (mN t o o')) else none
  | .slc v o l c, .slc v' o' l' c' => bif Nat.beq v v' then some (.slc v (mN t o o') (mN t l l') (mN t c c')) else none
  | .raw x, .raw y => bif sameRaw x y then some (.raw x) else none
  | .str x, .str y => some (.str (bif t then x else y))
  | .ifc a x, .ifc b y => bif Nat.beq a b then (match mL t x y with | some z => some (.ifc a z) | none => none) else none
  | _, _ => none
def mLs (t : Bool) : List L → List L → Option (List L)
  | [], [] => some []
  | x :: xs, y :: ys => match mL t x y, mLs t xs ys with | some z, some zs => some (z :: zs) | _, _ => none
  | _, _ => none
def mV0 (t : Bool) : V0 → V0 → Option V0
  | .l x, .l y => match mL t x y with | some z => some (.l z) | none => none
  | .agg xs, .agg ys => match mLs t xs ys with | some zs => some (.agg zs) | none => none
  | _, _ => none
def mV0s (t : Bool) : List V0 → List V0 → Option (List V0)
  | [], [] => some []
  | x :: xs, y :: ys => match mV0 t x y, mV0s t xs ys with | some z, some zs => some (z :: zs) | _, _ => none
  | _, _ => none
def mV (t : Bool) : V → V → Option V
  | .v x, .v y => match mV0 t x y with | some z => some (.v z) | none => none
  | .tup xs, .tup ys => match mV0s t xs ys with | some zs => some (.tup zs) | none => none
  | _, _ => none
def mEnv (lvl : Nat) (t : Bool) (x y : Nat × V) : Option (Nat × V) :=
  bif Nat.ble x.1 lvl && Nat.ble y.1 lvl then some x else match mV t x.2 y.2 with | some z => some (lvl, z) | none => none
def mRow (lvl : Nat) (t : Bool) : List (Nat × L) → List (Nat × L) → Option (List (Nat × L))
  | [], [] => some []
  | x :: xs, y :: ys => match mRow lvl t xs ys with
    | some zs => bif Nat.ble x.1 lvl && Nat.ble y.1 lvl then some (x :: zs) else (match mL t x.2 y.2 with | some z => some ((lvl, z) :: zs) | none => none)
    | none => none
  | _, _ => none
def mCells (lvl : Nat) (t : Bool) : Cells → Cells → Option Cells
  | .row xs, .row ys => match mRow lvl t xs ys with | some zs => some (.row zs) | none => none
  | .ints a k xs, .ints b k' ys => bif Nat.ble a lvl && Nat.ble b lvl then some (.ints a k xs) else bif decide (k = k') then some (.ints lvl k (bif t then xs else ys)) else none
  | _, _ => none
def mBlk (lvl : Nat) (t : Bool) (x y : Blk) : Option Blk :=
  bif x.wr == y.wr then (match mCells lvl t x.cs y.cs with | some cs => some ⟨x.wr, cs⟩ | none => none) else none
/-- Every block of the one is in what came of both: nothing is lost. -/
def T.sub {α β : Type} : T α → T β → Bool
  | .e, _ => true
  | .n (some _) l r, .n (some _) l' r' => l.sub l' && r.sub r'
  | .n none l r, .n _ l' r' => l.sub l' && r.sub r'
  | .n none l r, .e => l.sub (.e : T β) && r.sub (.e : T β)
  | _, _ => false
def mSt (lvl : Nat) (t : Bool) (x y : St) : Option St :=
  bif Nat.beq x.next y.next then
    (let h := T.merge (mBlk lvl t) x.heap y.heap
     bif T.sub x.heap h && T.sub y.heap h then some ⟨T.merge (mEnv lvl t) x.env y.env, h, x.next, lvl⟩ else none)
  else none
def St.up (s : St) : St := { s with lvl := s.lvl + 1 }
def St.at (l : Nat) (s : St) : St := { s with lvl := l }
inductive Kd where | nrm | ex (i : Nat) | rt
def Kd.same : Kd → Kd → Bool | .nrm, .nrm => true | .rt, .rt => true | .ex i, .ex j => Nat.beq i j | _, _ => false
abbrev Out := Kd × St
def downS (lvl : Nat) : Tree St → Tree St
  | .leaf s => .leaf (s.at lvl)
  | .node t l r => .node t (downS lvl l) (downS lvl r)
  | .bad => .bad
def down (lvl : Nat) : Tree Out → Tree Out
  | .leaf s => .leaf (s.1, s.2.at lvl)
  | .node t l r => .node t (down lvl l) (down lvl r)
  | .bad => .bad
def joinS (lvl : Nat) (t : Bool) (l r : Tree St) : Tree St := match l, r with
  | .leaf x, .leaf y => match mSt lvl t x y with | some s => .leaf s | none => .node t (.leaf (x.at lvl)) (.leaf (y.at lvl))
  | .bad, .bad => .bad
  | l, r => .node t (downS lvl l) (downS lvl r)
def join (lvl : Nat) (t : Bool) (l r : Tree Out) : Tree Out := match l, r with
  | .leaf x, .leaf y => bif x.1.same y.1 then (match mSt lvl t x.2 y.2 with | some s => .leaf (x.1, s) | none => .node t (.leaf (x.1, x.2.at lvl)) (.leaf (y.1, y.2.at lvl))) else .node t (.leaf (x.1, x.2.at lvl)) (.leaf (y.1, y.2.at lvl))
  | .bad, .bad => .bad
  | l, r => .node t (down lvl l) (down lvl r)

/-! ### Operations that only read -/
def isInts (k : IntKind) : List L → Option (List Int)
  | [] => some []
  | .int k' x :: xs => bif decide (k = k') then (match isInts k xs with | some ys => some (x.n :: ys) | none => none) else none
  | _ :: _ => none
def asInts : List L → Option (IntKind × List Int)
  | .int k x :: xs => match isInts k xs with | some ys => some (k, x.n :: ys) | none => none
  | _ => none
def ltB (a b : N) : B := match a, b with
  | .lit a, .lit b => .lit (Nat.blt a b)
  | .lit a, .sym b => .sym (decide (a < b))
  | .sym a, .lit b => .sym (decide (a < b))
  | .sym a, .sym b => .sym (decide (a < b))
/-- One cell. -/
def Cells.at (cs : Cells) (o : N) : Tree L := match cs, o with
  | .row xs, .lit o => match xs[o]? with | some x => .leaf x.2 | none => .bad
  | .row xs, .sym o => match asInts (xs.map (·.2)) with
    | some (k, ys) => .node (decide (o < ys.length)) (.leaf (.int k (.sym (ys.getD o 0)))) .bad
    | none => .bad
  | .ints _ k xs, o => .node (decide (o.n < xs.length)) (.leaf (.int k (.sym (xs.getD o.n 0)))) .bad
def takeL : Nat → List (Nat × L) → Option (List L)
  | 0, _ => some []
  | n + 1, x :: xs => match takeL n xs with | some ys => some (x.2 :: ys) | none => none
  | _ + 1, [] => none
def evLoad (s : St) (t : TypeId) : V → Tree V
  | .v (.l (.ptr v o)) => match C.ty t, s.heap.get v with
    | some i, some b => bif i.agg then (match b.cs, o with
        | .row xs, .lit o => match takeL i.size (xs.drop o) with | some ys => .leaf (.v (.agg ys)) | none => .bad
        | _, _ => .bad)
      else (b.cs.at o).bind fun x => .leaf (.v (.l x))
    | _, _ => .bad
  | _ => .bad
def arith (op : BinOp) (k : IntKind) : Option (Int → Int → Int) := match op with
  | .add => some fun a b => k.wrap (a + b)
  | .sub => some fun a b => k.wrap (a - b)
  | .mul => some fun a b => k.wrap (a * b)
  | .and => some (bits .and k)
  | .or => some (bits .or k)
  | .xor => some (bits .xor k)
  | .andNot => some (bits .andNot k)
  | _ => none
def compare (op : BinOp) : Option (Int → Int → Bool) := match op with
  | .eql => some fun a b => a == b
  | .neq => some fun a b => a != b
  | .lss => some fun a b => decide (a < b)
  | .leq => some fun a b => decide (a ≤ b)
  | .gtr => some fun a b => decide (a > b)
  | .geq => some fun a b => decide (a ≥ b)
  | _ => none
def shiftBy (op : BinOp) (k : IntKind) : Option (Int → Int → Int) := match op with
  | .shl => some fun a n => k.wrap (a * 2 ^ (min n.toNat k.bits))
  | .shr => some fun a n => a.fdiv (2 ^ (min n.toNat k.bits))
  | _ => none
def divide (op : BinOp) (k : IntKind) : Option (Int → Int → Int) := match op with
  | .quo => some fun a b => k.wrap (a.tdiv b)
  | .rem => some fun a b => a.tmod b
  | _ => none
/-- '==' of cells one by one, as the fields' kinds are. -/
def eqLs : List EK → List L → List L → Option Bool
  | [], [], [] => some true
  | .int k :: ks, .int a x :: xs, .int b y :: ys => bif decide (a = k) && decide (b = k) then (match eqLs ks xs ys with | some r => some (x.n == y.n && r) | none => none) else none
  | .bool :: ks, .bool x :: xs, .bool y :: ys => match eqLs ks xs ys with | some r => some (x.b == y.b && r) | none => none
  | _, _, _ => none
def eqOf : List (TypeId × List EK) → TypeId → Option (List EK)
  | [], _ => none
  | (u, ks) :: es, t => bif Nat.beq u t then some ks else eqOf es t
def isEq : BinOp → Option Bool | .eql => some true | .neq => some false | _ => none
def flip (p : Bool) (x : B) : B := bif p then x else x.not
def evBin (op : BinOp) (xt : TypeId) : V → V → Tree V
  | .v (.l (.int k x)), .v (.l (.int k' y)) =>
    match shiftBy op k with
    | some f => need (I.cmp (fun a _ => decide (0 ≤ a)) y (.lit 0)) (.leaf (vint k (I.map2 f x y)))
    | none => bif decide (k = k') then
        (match arith op k with
        | some f => .leaf (vint k (I.map2 f x y))
        | none => match divide op k with
          | some f => need (I.cmp (fun a b => a != b) y (.lit 0)) (.leaf (vint k (I.map2 f x y)))
          | none => match compare op with
            | some f => .leaf (vbool (I.cmp f x y))
            | none => .bad) else .bad
  | .v (.l (.bool x)), .v (.l (.bool y)) => match isEq op, C.ty xt with
    | some p, some ⟨_, _, _, _, .bool⟩ => .leaf (vbool (flip p (B.eq x y)))
    | _, _ => .bad
  | .v (.agg xs), .v (.agg ys) => match isEq op, eqOf C.eqs xt with
    | some p, some ks => match eqLs ks xs ys with
      | some b => .leaf (vbool (flip p (.sym b)))
      | none => .bad
    | _, _ => .bad
  | _, _ => .bad
def evUn (op : UnOp) : V → Tree V
  | .v (.l (.bool x)) => match op with | .not => .leaf (vbool x.not) | _ => .bad
  | .v (.l (.int k x)) => match op with
    | .neg => .leaf (vint k (x.map fun a => k.wrap (0 - a)))
    | .xor => .leaf (vint k (x.map fun a => bits .xor k (if k.signed then -1 else k.max) a))
    | _ => .bad
  | _ => .bad
def fieldOf (t : TypeId) (f : Nat) : Option (Nat × TypeId) := match C.ty t with
  | some ⟨_, _, _, _, .struct fs⟩ => fs[f]?
  | _ => none
/-- A part of an aggregate. -/
def evPart (t : TypeId) (xs : List L) (o : Nat) : Tree V := match C.ty t with
  | some i => bif i.agg then (bif Nat.ble (o + i.size) xs.length then .leaf (.v (.agg ((xs.drop o).take i.size))) else .bad)
    else match xs[o]? with | some x => .leaf (.v (.l x)) | none => .bad
  | none => .bad
def inB (i : I) (n : N) : B := match i, n with
  | .lit i, .lit n => .lit (decide (0 ≤ i ∧ i < n))
  | .lit i, .sym n => .sym (decide (0 ≤ i ∧ i < n))
  | .sym i, .lit n => .sym (decide (0 ≤ i ∧ i < n))
  | .sym i, .sym n => .sym (decide (0 ≤ i ∧ i < n))
def sizeT (t : TypeId) : Option Nat := match C.ty t with | some i => some i.size | none => none
def evIndexAddr (t : TypeId) : V → V → Tree V
  | .v (.l (.ptr v o)), .v (.l (.int k i)) => match C.ty t with
    | some ⟨_, _, _, _, .arr n e⟩ => match sizeT C e with
      | some z => bif Nat.ble 2 n then need (inB i (.lit n)) (.leaf (.v (.l (.ptr v (N.map2 (fun a b => a + b * z) o i.toN))))) else .bad
      | none => .bad
    | _ => .bad
  | .v (.l (.slc v o l c)), .v (.l (.int k i)) => match C.ty t with
    | some ⟨_, _, _, _, .slice e⟩ => match sizeT C e with
      | some z => need (inB i l) (.leaf (.v (.l (.ptr v (N.map2 (fun a b => a + b * z) o i.toN)))))
      | none => .bad
    | _ => .bad
  | _, _ => .bad
def evIndex (t : TypeId) : V → V → Tree V
  | .v (.agg xs), .v (.l (.int k i)) => match C.ty t with
    | some ⟨_, _, _, _, .arr n e⟩ => match sizeT C e with
      | some z => need (inB i (.lit n)) (match i with
        | .lit j => evPart C e xs (j.toNat * z)
        | .sym j => match C.ty e, asInts xs with
          | some ⟨_, _, false, _, _⟩, some (q, ys) => .node (decide (j.toNat * z < ys.length)) (.leaf (vint q (.sym (ys.getD (j.toNat * z) 0)))) .bad
          | _, _ => .bad)
      | none => .bad
    | _ => .bad
  | _, _ => .bad
/-- 's[:]' of an array's address, whole. -/
def evSlice (t : TypeId) (x : V) (lo hi mx : Option Operand) : Tree V := match x, lo, hi, mx with
  | .v (.l (.ptr v o)), none, none, none => match C.ty t with
    | some ⟨_, _, _, _, .arr n e⟩ => match sizeT C e with
      | some z => bif Nat.ble 1 n then .leaf (.v (.l (.slc v o (.lit n) (.lit n)))) else .bad
      | none => .bad
    | _ => .bad
  | _, _, _, _ => .bad
def pasteL (xs : List L) (o : Nat) (ys : List L) : List L := xs.take o ++ ys ++ xs.drop (o + ys.length)
def leafOk : L → Bool
  | .raw x => match x with | .agg _ => false | .tuple _ => false | _ => true
  | _ => true
def cellsV : V → Option (List L)
  | .v (.l x) => bif leafOk x then some [x] else none
  | .v (.agg xs) => some xs
  | .tup _ => none
def evFill (place : Nat → Option (Nat × Nat)) : List L → List (Nat × V) → Option (List L)
  | cs, [] => some cs
  | cs, (i, v) :: rest => match place i, cellsV v with
    | some (o, z), some ys => bif Nat.beq ys.length z && Nat.ble (o + ys.length) cs.length then evFill place (pasteL cs o ys) rest else none
    | _, _ => none
def evParts (s : St) : List (Nat × Operand) → Option (List (Nat × V))
  | [] => some []
  | (i, x) :: xs => match evO C s x, evParts s xs with | some y, some ys => some ((i, y) :: ys) | _, _ => none
def placesOf : List (Nat × TypeId) → Option (List (Nat × Nat))
  | [] => some []
  | (o, e) :: fs => match sizeT C e, placesOf fs with | some z, some ps => some ((o, z) :: ps) | _, _ => none
def evBuild (t : TypeId) (ps : List (Nat × V)) : Tree V := match C.ty t with
  | some i => match i.d with
    | .struct fs => match placesOf C fs with
      | some pl => match evFill (fun j => pl[j]?) i.zero ps with
        | some cs => .leaf (.v (.agg cs))
        | none => .bad
      | none => .bad
    | .arr _ e => match sizeT C e with
      | some z => match evFill (fun j => some (j * z, z)) i.zero ps with
        | some cs => .leaf (.v (.agg cs))
        | none => .bad
      | none => .bad
    | _ => .bad
  | none => .bad
def evLen : V → Tree V
  | .v (.l (.slc _ _ l _)) => .leaf (vint .i64 l.toI)
  | _ => .bad
def least (a b : Int) : Int := if b < a then b else a
def most (a b : Int) : Int := if b > a then b else a
def evBuiltin (b : Builtin) (argTypes : Array TypeId) (args : List V) : Tree V := match b, args with
  | .len, [x] => match argTypes[0]? with
    | some t => match C.ty t with | some ⟨_, _, _, _, .slice _⟩ => evLen x | _ => .bad
    | none => .bad
  | .min, [.v (.l (.int k x)), .v (.l (.int k' y))] => .leaf (vint k (I.map2 least x y))
  | .max, [.v (.l (.int k x)), .v (.l (.int k' y))] => .leaf (vint k (I.map2 most x y))
  | _, _ => .bad
def evPick (t : B) (x y : Option V) : Tree V := match t with
  | .lit b => bif b then ofO x else ofO y
  | .sym b => match x, y with
    | some x, some y => match mV b x y with | some z => .leaf z | none => .node b (.leaf x) (.leaf y)
    | x, y => .node b (ofO x) (ofO y)
def evPure (s : St) : Op → Tree V
  | .move x => ofO (evO C s x)
  | .assign x => ofO (evO C s x)
  | .pick c a b => match evO C s c with
    | some (.v (.l (.bool t))) => evPick t (evO C s a) (evO C s b)
    | _ => .bad
  | .nilCheck x => match evO C s x with
    | some (.v (.l (.ptr v o))) => .leaf (.v (.l (.ptr v o)))
    | _ => .bad
  | .binOp op xt x y _ => match evO C s x, evO C s y with | some a, some b => evBin C op xt a b | _, _ => .bad
  | .unOp op _ x => match evO C s x with | some a => evUn op a | none => .bad
  | .convert sr d x => match evO C s x, C.ty d, C.ty sr with
    | some (.v (.l (.int k n))), some ⟨_, _, _, _, .int k'⟩, some _ => .leaf (vint k' (n.map k'.wrap))
    | _, _, _ => .bad
  | .fieldAddr t x f => match evO C s x, fieldOf C t f with
    | some (.v (.l (.ptr v o))), some (d, e) => (match sizeT C e with
      | some z => bif Nat.beq z 0 then .bad else .leaf (.v (.l (.ptr v (o.map (· + d)))))
      | none => .bad)
    | _, _ => .bad
  | .field t x f => match evO C s x, fieldOf C t f with
    | some (.v (.agg xs)), some (d, e) => evPart C e xs d
    | _, _ => .bad
  | .indexAddr t x i => match evO C s x, evO C s i with | some a, some b => evIndexAddr C t a b | _, _ => .bad
  | .index t x i => match evO C s x, evO C s i with | some a, some b => evIndex C t a b | _, _ => .bad
  | .extract x i => match evO C s x with
    | some (.tup xs) => match xs[i]? with | some y => .leaf (.v y) | none => .bad
    | _ => .bad
  | .slice t x lo hi mx => match evO C s x with | some a => evSlice C t a lo hi mx | none => .bad
  | .load t x => match evO C s x with | some a => evLoad C s t a | none => .bad
  | .build t ps => match evParts C s ps.toList with | some qs => evBuild C t qs | none => .bad
  | .call { callee := .builtin b, args := args, argTypes := ts } => match evOs C s args.toList with | some xs => evBuiltin C b ts xs | none => .bad
  | _ => .bad

/-! ### Operations that do more -/
def stamp (l : Nat) : List L → List (Nat × L)
  | [] => []
  | x :: xs => (l, x) :: stamp l xs
def St.new (s : St) (xs : List L) : Tree (V × St) :=
  bif Nat.blt s.next 4000 then .leaf (.v (.l (.ptr s.next (.lit 0))), { s with heap := T.set depth s.heap s.next (some ⟨true, .row (stamp s.lvl xs)⟩), next := s.next + 1 }) else .bad
def setRow (l : Nat) : List (Nat × L) → Nat → List L → Option (List (Nat × L))
  | xs, 0, [] => some xs
  | _ :: xs, 0, y :: ys => match setRow l xs 0 ys with | some zs => some ((l, y) :: zs) | none => none
  | x :: xs, o + 1, ys => match setRow l xs o ys with | some zs => some (x :: zs) | none => none
  | [], _, _ => none
def evStore (s : St) (t : TypeId) (a x : V) : Tree St := match a, cellsV x, sizeT C t with
  | .v (.l (.ptr v (.lit o))), some ys, some z => match s.heap.get v with
    | some b => bif b.wr && (Nat.blt v 4000 && (Nat.beq ys.length z && ys.all leafOk)) then (match b.cs with
        | .row xs => match setRow s.lvl xs o ys with | some zs => .leaf { s with heap := T.set depth s.heap v (some { b with cs := .row zs }) } | none => .bad
        | _ => .bad) else .bad
    | none => .bad
  | _, _, _ => .bad
def calleeOf : Call → Option Operand
  | { callee := .value f, .. } => some f
  | _ => none
def funcOf : V → Option FuncId
  | .v (.l (.raw (.func (.func g) x y))) => bif x.isEmpty && y.isEmpty then some g else none
  | _ => none
def evCall (s : St) (c : Call) : Tree V := match calleeOf c with
  | some f => match evO C s f with
    | some fv => match funcOf fv, evOs C s c.args.toList with
      | some g, some xs => match C.spec g with
        | some F => F s.heap s.next xs
        | none => .bad
      | _, _ => .bad
    | none => .bad
  | none => .bad
def isCall : Op → Option Call
  | .call c => match c.callee with | .value _ => some c | _ => none
  | _ => none
def evOp (s : St) (o : Op) : Tree (V × St) := match isCall o with
  | some c => (evCall C s c).bind fun v => .leaf (v, s)
  | none => match o with
    | .alloc t => match C.ty t with | some i => s.new i.zero | none => .bad
    | .box t x => match evO C s x with
      | some v => match cellsV v with | some xs => s.new xs | none => .bad
      | none => .bad
    | .store t a x => match evO C s a, evO C s x with
      | some p, some v => (evStore C s t p v).bind fun s' => .leaf (.tup [], s')
      | _, _ => .bad
    | o => (evPure C s o).bind fun v => .leaf (v, s)

/-! ### Regions -/
def dstOf (ops : List Oper) (j : Nat) : Option Tmp := match ops[j]? with | some o => o.dst | none => none
def okDst (nt : Nat) : Option Tmp → Bool | some d => Nat.blt d nt | none => true
def evOps (nt : Nat) (ops : List Oper) : List Oper → St → Tree St
  | [], s => .leaf s
  | o :: rest, s =>
    bif okDst nt o.dst then
      (match o.guard with
      | none => (evOp C s o.op).bind fun p => evOps nt ops rest (p.2.put o.dst p.1)
      | some (j, want) => match dstOf ops j with
        | some d => match s.env.get d with
          | some (_, .v (.l (.bool (.lit b)))) => bif b == want then (evOp C s o.op).bind fun p => evOps nt ops rest (p.2.put o.dst p.1) else evOps nt ops rest (s.put o.dst (.tup []))
          | some (_, .v (.l (.bool (.sym b)))) =>
            let yes := (s.up.put (some d) (vbool (.lit true)))
            let no := (s.up.put (some d) (vbool (.lit false)))
            bif Nat.blt d nt then
            joinS s.lvl b
              (bif want then (evOp C yes o.op).bind fun p => evOps nt ops rest (p.2.put o.dst p.1) else evOps nt ops rest (yes.put o.dst (.tup [])))
              (bif want then evOps nt ops rest (no.put o.dst (.tup [])) else (evOp C no o.op).bind fun p => evOps nt ops rest (p.2.put o.dst p.1))
            else .bad
          | some (_, .tup []) => evOps nt ops rest (s.put o.dst (.tup []))
          | _ => .bad
        | none => .bad)
    else .bad
end
end Go.Proofs.YthndmfgmlbdekaaDoor.Ev
