/- The timer's context: the program's tables, the package's variables, the clock as data. -/
import Derived.Test.YthndmfgmlbdekaaDoorEv14
import Derived.Test.YthndmfgmlbdekaaDoorProg
namespace Go.Proofs.YthndmfgmlbdekaaDoor.Ev
open Go Go.RowKit
set_option linter.unusedSimpArgs false
set_option linter.unusedVariables false
set_option linter.constructorNameAsVariable false
noncomputable def tab : List (Nat × TI) := [
  (2, TI.mk 1 8 false [L.int IntKind.i64 (I.lit 0)] (TD.int IntKind.i64)),
  (3, TI.mk 1 8 false [L.int IntKind.i64 (I.lit 0)] (TD.int IntKind.i64)),
  (4, TI.mk 1 1 false [L.bool (B.lit false)] TD.bool),
  (5, TI.mk 1 1 false [L.int IntKind.u8 (I.lit 0)] (TD.int IntKind.u8)),
  (22, TI.mk 1 2 false [L.int IntKind.u16 (I.lit 0)] (TD.int IntKind.u16)),
  (24, TI.mk 13 18 true [L.int IntKind.u16 (I.lit 0), L.int IntKind.u16 (I.lit 0), L.int IntKind.u16 (I.lit 0), L.int IntKind.u8 (I.lit 0), L.int IntKind.u8 (I.lit 0), L.bool (B.lit false), L.bool (B.lit false), L.bool (B.lit false), L.bool (B.lit false), L.bool (B.lit false), L.int IntKind.u16 (I.lit 0), L.int IntKind.u8 (I.lit 0), L.int IntKind.u8 (I.lit 0)] (TD.struct [(0, 22), (1, 22), (2, 22), (3, 5), (4, 5), (5, 4), (6, 4), (7, 4), (8, 4), (9, 4), (10, 22), (11, 5), (12, 5)])),
  (39, TI.mk 1 8 false [L.int IntKind.u64 (I.lit 0)] (TD.int IntKind.u64)),
  (46, TI.mk 4 24 true [L.int IntKind.i64 (I.lit 0), L.int IntKind.u16 (I.lit 0), L.int IntKind.u8 (I.lit 0), L.int IntKind.i64 (I.lit 0)] (TD.struct [(0, 3), (1, 22), (2, 5), (3, 3)])),
  (47, TI.mk 4 24 true [L.int IntKind.i64 (I.lit 0), L.int IntKind.u16 (I.lit 0), L.int IntKind.u8 (I.lit 0), L.int IntKind.i64 (I.lit 0)] (TD.struct [(0, 3), (1, 22), (2, 5), (3, 3)])),
  (51, TI.mk 1 8 false [L.int IntKind.u64 (I.lit 0)] (TD.int IntKind.u64)),
  (53, TI.mk 4 32 true [L.int IntKind.u64 (I.lit 0), L.int IntKind.u64 (I.lit 0), L.int IntKind.u64 (I.lit 0), L.int IntKind.u64 (I.lit 0)] (TD.arr 4 51)),
  (55, TI.mk 5 40 true [L.int IntKind.u64 (I.lit 0), L.int IntKind.u64 (I.lit 0), L.int IntKind.u64 (I.lit 0), L.int IntKind.u64 (I.lit 0), L.int IntKind.u64 (I.lit 0)] (TD.struct [(0, 51), (1, 53)])),
  (57, TI.mk 3 24 true [L.int IntKind.u64 (I.lit 0), L.int IntKind.u64 (I.lit 0), L.int IntKind.u64 (I.lit 0)] (TD.arr 3 51)),
  (60, TI.mk 1 24 false [L.raw (Value.slice none 0 0)] (TD.slice 51))]
def H0 : T Blk :=
  .n (some ⟨false, .row [(0, .int .u64 (.lit 1)), (0, .int .u64 (.lit 8)), (0, .int .u64 (.lit 64)), (0, .int .u64 (.lit 256))]⟩)
    (.n (some ⟨false, .row [(0, .int .u64 (.lit 29830)), (0, .int .u64 (.lit 7457)), (0, .int .u64 (.lit 14913)), (0, .int .u64 (.lit 22371)), (0, .int .u64 (.lit 29829))]⟩) .e .e)
    (.n (some ⟨false, .row [(0, .int .u64 (.lit 37282)), (0, .int .u64 (.lit 7457)), (0, .int .u64 (.lit 14913)), (0, .int .u64 (.lit 22371)), (0, .int .u64 (.lit 37281))]⟩) .e .e)
def eqTab : List (TypeId × List EK) := [(24, [.int .u16, .int .u16, .int .u16, .int .u8, .int .u8, .bool, .bool, .bool, .bool, .bool, .int .u16, .int .u8, .int .u8])]
noncomputable def Cb : Ctx := { P := Tryd.prog, ty := tyIn tab, gs := [0, 1, 2], H0 := H0, spec := fun _ => none, eqs := eqTab }
theorem okCb : Ok Cb := ⟨tyIn_ok (by kernel_rfl), by kernel_rfl, eqOf_ok (by kernel_rfl)⟩
theorem good0 : Good (Cb.with []) := Good.nil okCb
theorem gsNodup : Cb.gs.Nodup := by decide

/-! ### Arguments in one form -/
def canL : L → L
  | .int k x => .int k (.sym x.n)
  | .bool x => .bool (.sym x.b)
  | x => x
def can0 : V0 → V0
  | .l x => .l (canL x)
  | .agg xs => .agg (xs.map canL)
def canV : V → V
  | .v x => .v (can0 x)
  | .tup xs => .tup (xs.map can0)
theorem canL_den (ρ : List Nat) (x : L) : (canL x).den ρ = x.den ρ := by cases x <;> rfl
theorem canLs_den (ρ : List Nat) : ∀ xs : List L, denL ρ (xs.map canL) = denL ρ xs
  | [] => rfl
  | x :: xs => by simp only [List.map_cons, denL, canL_den, canLs_den ρ xs]
theorem can0_den (ρ : List Nat) (x : V0) : (can0 x).den ρ = x.den ρ := by
  cases x with
  | l x => exact canL_den ρ x
  | agg xs => simp only [can0, V0.den, canLs_den]
theorem can0s_den (ρ : List Nat) : ∀ xs : List V0, denV0 ρ (xs.map can0) = denV0 ρ xs
  | [] => rfl
  | x :: xs => by simp only [List.map_cons, denV0, can0_den, can0s_den ρ xs]
theorem canV_den (ρ : List Nat) (x : V) : (canV x).den ρ = x.den ρ := by
  cases x with
  | v x => exact can0_den ρ x
  | tup xs => simp only [canV, V.den, can0s_den]
theorem canVs_den (ρ : List Nat) : ∀ xs : List V, denVs ρ (xs.map canV) = denVs ρ xs
  | [] => rfl
  | x :: xs => by simp only [List.map_cons, denVs, canV_den, canVs_den ρ xs]
/-- A contract over arguments in one form, none of them a place. -/
def onC (G : List V → Option V) : Spec := fun _ _ args => ofO (G (args.map canV))
theorem FnOk.onC {C : Ctx} (g : Good C) (hn : C.gs.Nodup) {f : FuncId} {fn : Func} (hf : C.P.funcs[f]? = some fn) {G : List V → Option V}
    (H : ∀ cs v, G cs = some v → (∀ ρ ρ', denVs ρ cs = denVs ρ' cs) ∧ (∀ ρ ρ', v.den ρ = v.den ρ') ∧ ∃ k v', (vals (evFn C k (fun _ => none) fn C.H0 C.gs.length cs)).get = some v' ∧ ∀ ρ, v'.den ρ = v.den ρ) : FnOk C f (onC G) := by
  refine FnOk.intro g.ok g.hs g.hb hn hf fun h n args v hv => ?_
  obtain ⟨h1, h2, k, v', h3, h4⟩ := H _ v (get_ofO hv)
  exact ⟨_, k, _, v', keep_none, fun ρ vs ha => by rw [h1 C.gs ρ, canVs_den]; exact ha, h3, fun ρ ρ' x hx => by rw [h2 ρ ρ', ← h4]; exact hx⟩
def intOf? (k : IntKind) : L → Option Int
  | .int k' (.sym a) => bif decide (k' = k) then some a else none
  | _ => none
def boolOf? : L → Option Bool
  | .bool (.sym a) => some a
  | _ => none
theorem intOf?_eq {k : IntKind} {x : L} {a : Int} (h : intOf? k x = some a) : x = .int k (.sym a) := by
  unfold intOf? at h
  split at h
  · rename_i k' a'
    by_cases e : k' = k
    · subst e; simp at h; rw [h]
    · simp [e] at h
  · cases h
theorem boolOf?_eq {x : L} {a : Bool} (h : boolOf? x = some a) : x = .bool (.sym a) := by
  unfold boolOf? at h
  split at h
  · cases h; rfl
  · cases h

/-! ### The clock -/
structure Clk where
  la : Int
  co : Int
  pr : Int
  ho : Int
  ct : Int
  fl : Bool
  ov : Bool
  fi : Bool
  inh : Bool
  fr : Bool
  pl : Int
  wa : Int
  be : Int
def clkLs (c : Clk) : List L := [.int .u16 (.sym c.la), .int .u16 (.sym c.co), .int .u16 (.sym c.pr), .int .u8 (.sym c.ho), .int .u8 (.sym c.ct), .bool (.sym c.fl), .bool (.sym c.ov), .bool (.sym c.fi), .bool (.sym c.inh), .bool (.sym c.fr), .int .u16 (.sym c.pl), .int .u8 (.sym c.wa), .int .u8 (.sym c.be)]
def clk0 (c : Clk) : V0 := .agg (clkLs c)
def clkV (c : Clk) : V := .v (clk0 c)
def clkL : List L → Option Clk
  | [x0, x1, x2, x3, x4, x5, x6, x7, x8, x9, x10, x11, x12] => match intOf? .u16 x0 with | none => none | some a0 => match intOf? .u16 x1 with | none => none | some a1 => match intOf? .u16 x2 with | none => none | some a2 => match intOf? .u8 x3 with | none => none | some a3 => match intOf? .u8 x4 with | none => none | some a4 => match boolOf? x5 with | none => none | some a5 => match boolOf? x6 with | none => none | some a6 => match boolOf? x7 with | none => none | some a7 => match boolOf? x8 with | none => none | some a8 => match boolOf? x9 with | none => none | some a9 => match intOf? .u16 x10 with | none => none | some a10 => match intOf? .u8 x11 with | none => none | some a11 => match intOf? .u8 x12 with | none => none | some a12 => some ⟨a0, a1, a2, a3, a4, a5, a6, a7, a8, a9, a10, a11, a12⟩
  | _ => none
theorem clkL_eq {xs : List L} {c : Clk} (h : clkL xs = some c) : xs = clkLs c := by
  unfold clkL at h
  split at h
  · rename_i x0 x1 x2 x3 x4 x5 x6 x7 x8 x9 x10 x11 x12
    split at h
    · cases h
    rename_i a0 h0
    split at h
    · cases h
    rename_i a1 h1
    split at h
    · cases h
    rename_i a2 h2
    split at h
    · cases h
    rename_i a3 h3
    split at h
    · cases h
    rename_i a4 h4
    split at h
    · cases h
    rename_i a5 h5
    split at h
    · cases h
    rename_i a6 h6
    split at h
    · cases h
    rename_i a7 h7
    split at h
    · cases h
    rename_i a8 h8
    split at h
    · cases h
    rename_i a9 h9
    split at h
    · cases h
    rename_i a10 h10
    split at h
    · cases h
    rename_i a11 h11
    split at h
    · cases h
    rename_i a12 h12
    cases h
    rw [intOf?_eq h0, intOf?_eq h1, intOf?_eq h2, intOf?_eq h3, intOf?_eq h4, boolOf?_eq h5, boolOf?_eq h6, boolOf?_eq h7, boolOf?_eq h8, boolOf?_eq h9, intOf?_eq h10, intOf?_eq h11, intOf?_eq h12]
    rfl
  · cases h
theorem clkV_flat (c : Clk) (ρ ρ' : List Nat) : (clkV c).den ρ = (clkV c).den ρ' := rfl
/-- Of a clock. -/
def g1 (g : Clk → V) : List V → Option V
  | [.v (.agg xs)] => match clkL xs with | some c => some (g c) | none => none
  | _ => none
/-- Of a clock and a number. -/
def g2 (k : IntKind) (g : Clk → Int → V) : List V → Option V
  | [.v (.agg xs), .v (.l y)] => match clkL xs with | some c => (match intOf? k y with | some n => some (g c n) | none => none) | none => none
  | _ => none
theorem FnOk.g1 {C : Ctx} (gd : Good C) (hn : C.gs.Nodup) {f : FuncId} {fn : Func} (hf : C.P.funcs[f]? = some fn) {g : Clk → V} (hv : ∀ c ρ ρ', (g c).den ρ = (g c).den ρ')
    (k : Nat) (H : ∀ c, ∃ v', (vals (evFn C k (fun _ => none) fn C.H0 C.gs.length [clkV c])).get = some v' ∧ ∀ ρ, v'.den ρ = (g c).den ρ) : FnOk C f (Ev.onC (Ev.g1 g)) := by
  refine FnOk.onC gd hn hf fun cs v h => ?_
  unfold Ev.g1 at h
  split at h
  · rename_i xs
    split at h
    · rename_i c hc
      cases h
      rw [clkL_eq hc]
      exact ⟨fun _ _ => rfl, hv c, k, H c⟩
    · cases h
  · cases h
theorem FnOk.g2 {C : Ctx} (gd : Good C) (hn : C.gs.Nodup) {f : FuncId} {fn : Func} (hf : C.P.funcs[f]? = some fn) {kd : IntKind} {g : Clk → Int → V} (hv : ∀ c n ρ ρ', (g c n).den ρ = (g c n).den ρ')
    (k : Nat) (H : ∀ c n, ∃ v', (vals (evFn C k (fun _ => none) fn C.H0 C.gs.length [clkV c, vint kd (.sym n)])).get = some v' ∧ ∀ ρ, v'.den ρ = (g c n).den ρ) : FnOk C f (Ev.onC (Ev.g2 kd g)) := by
  refine FnOk.onC gd hn hf fun cs v h => ?_
  unfold Ev.g2 at h
  split at h
  · rename_i xs y
    split at h
    · rename_i c hc
      split at h
      · rename_i n hn'
        cases h
        rw [clkL_eq hc, intOf?_eq hn']
        exact ⟨fun _ _ => rfl, hv c n, k, H c n⟩
      · cases h
    · cases h
  · cases h
end Go.Proofs.YthndmfgmlbdekaaDoor.Ev
