/- The evaluator is sound, second part: what a state says of a frame and a world; operations that only read. -/
import Derived.Test.YthndmfgmlbdekaaDoorEv3
import Derived.Laws.Tables
import Derived.Laws.CopyRow
import Derived.Laws.Cells
namespace Go.Proofs.YthndmfgmlbdekaaDoor.Ev
open Go Go.RowKit
set_option linter.unusedSimpArgs false
set_option linter.unusedVariables false
set_option linter.constructorNameAsVariable false

/-! ### What a state says -/
def Cells.den (ρ : List Nat) : Cells → Option (List Value)
  | .row xs => denL ρ (xs.map (·.2))
  | .ints _ k xs => some (xs.map (.int k ·))
/-- The blocks that are known lie in the world as it is said; those that may be written are of the kind A. -/
def HeapOk (A : Nat → Prop) (ρ : List Nat) (h : T Blk) (w : World) : Prop :=
  ∀ v b, h.get v = some b → ∃ g ys t fr, ρ[v]? = some g ∧ b.cs.den ρ = some ys ∧ w.heap[g]? = some (.cells ys.toArray t fr) ∧ (b.wr = true → fr = (0, 0) ∧ A g)
/-- Outside of W the blocks of w are as they were. -/
structure Fr (W : List Nat) (w w' : World) : Prop where
  os : w'.os = w.os
  tape : w'.tape = w.tape
  output : w'.output = w.output
  size : w.heap.size ≤ w'.heap.size
  block : ∀ k, k < w.heap.size → k ∉ W → w'.heap[k]? = w.heap[k]?
theorem Fr.refl (W : List Nat) (w : World) : Fr W w w := ⟨rfl, rfl, rfl, Nat.le_refl _, fun _ _ _ => rfl⟩
theorem Fr.trans {W : List Nat} {a b c : World} (h : Fr W a b) (k : Fr W b c) : Fr W a c :=
  ⟨k.os.trans h.os, k.tape.trans h.tape, k.output.trans h.output, Nat.le_trans h.size k.size, fun i hi hW => (k.block i (Nat.lt_of_lt_of_le hi h.size) hW).trans (h.block i hi hW)⟩
theorem Fr.of_below {W : List Nat} {a b : World} (h : Below a.heap.size a b) : Fr W a b := ⟨h.os, h.tape, h.output, h.size, fun k hk _ => h.block k hk⟩
theorem Fr.below {a b : World} (h : Fr [] a b) : Below a.heap.size a b := ⟨h.os, h.tape, h.output, h.size, fun k hk => h.block k hk (by simp)⟩
def mayWrite (w0 : World) (W : List Nat) (g : Nat) : Prop := w0.heap.size ≤ g ∨ g ∈ W
structure HSim (gl : List Nat) (w0 : World) (W : List Nat) (ρ : List Nat) (h : T Blk) (w : World) : Prop where
  gs : gl <+: ρ
  nodup : ρ.Nodup
  lt : ∀ g ∈ ρ, g < w.heap.size
  heap : HeapOk (mayWrite w0 W) ρ h w
  fr : Fr W w0 w
structure ESim (ρ : List Nat) (e : T (Nat × V)) (a : Act) : Prop where
  env : ∀ d x, e.get d = some x → ∃ y, x.2.den ρ = some y ∧ a.tmps[d]? = some y
  defs : a.defers = []
structure Sim (C : Ctx) (w0 : World) (W : List Nat) (n : Nat) (ρ : List Nat) (s : St) (a : Act) (w : World) : Prop where
  h : HSim C.gs w0 W ρ s.heap w
  e : ESim ρ s.env a
  len : ρ.length = s.next
  size : a.tmps.size = n

/-! ### What is known of the program, is so -/
theorem tiOf_ok {P : Program} {t : TypeId} {i : TI} (h : tiOf P t = some i) : ∃ info d z, P.info? t = some info ∧ P.underlying t = some d ∧ info.zero = some z ∧
    i.size = info.size ∧ i.bytes = info.bytes ∧ i.agg = aggOf d ∧ i.zero = z.cells.toList.map ofL ∧ i.d = tdOf d := by
  unfold tiOf at h
  split at h
  · rename_i info d hi hd
    split at h
    · rename_i z hz
      cases h
      exact ⟨info, d, z, hi, hd, hz, rfl, rfl, rfl, rfl, rfl⟩
    · cases h
  · cases h
def eqVs : List EK → List Value → List Value → Option Bool
  | [], [], [] => some true
  | .int k :: ks, .int a x :: xs, .int b y :: ys => if a = k ∧ b = k then (match eqVs ks xs ys with | some r => some (x == y && r) | none => none) else none
  | .bool :: ks, .bool x :: xs, .bool y :: ys => match eqVs ks xs ys with | some r => some (x == y && r) | none => none
  | _, _, _ => none
/-- A struct type whose '==' is that of its cells. -/
def EqOk (P : Program) (t : TypeId) (ks : List EK) : Prop := P.eqGuardType P.depth t = false ∧
  ∀ (xs ys : List Value) (b : Bool) (w : World), eqVs ks xs ys = some b → (Op.equal t (.agg xs.toArray) (.agg ys.toArray)).run P w = .ok b w
structure Ok (C : Ctx) : Prop where
  ty : ∀ t i, C.ty t = some i → tiOf C.P t = some i
  mixed : C.P.follows .mixedOrders = true
  eqs : ∀ t ks, eqOf C.eqs t = some ks → EqOk C.P t ks

section
variable {C : Ctx} (ok : Ok C) {w0 : World} {W : List Nat}
theorem tdOf_int {d : TypeDesc} {k : IntKind} (h : tdOf d = .int k) : d = .int k := by cases d <;> simp [tdOf] at h; subst h; rfl
theorem tdOf_bool {d : TypeDesc} (h : tdOf d = .bool) : d = .bool := by cases d <;> simp [tdOf] at h; rfl
theorem tdOf_arr {d : TypeDesc} {n : Nat} {t : TypeId} (h : tdOf d = .arr n t) : d = .array n t := by cases d <;> simp [tdOf] at h; obtain ⟨rfl, rfl⟩ := h; rfl
theorem tdOf_slice {d : TypeDesc} {t : TypeId} (h : tdOf d = .slice t) : d = .slice t := by cases d <;> simp [tdOf] at h; subst h; rfl
theorem tdOf_struct {d : TypeDesc} {fs : List (Nat × TypeId)} (h : tdOf d = .struct fs) : ∃ fields, d = .struct fields ∧ fs = fields.toList.map fun f => (f.offset, f.type) := by
  cases d <;> simp [tdOf] at h; rename_i f; exact ⟨f, rfl, h.symm⟩
include ok
theorem run_size {t : TypeId} {i : TI} (h : C.ty t = some i) (w : World) : (sizeOf t).run C.P w = .ok i.size w := by
  obtain ⟨info, d, z, h1, h2, h3, h4, _⟩ := tiOf_ok (ok.ty t i h)
  simp [sizeOf, typeInfo, h1, h4]
theorem run_sizeT {t : TypeId} {z : Nat} (h : sizeT C t = some z) (w : World) : (sizeOf t).run C.P w = .ok z w := by
  unfold sizeT at h
  split at h
  · rename_i i hi; cases h; exact run_size ok hi w
  · cases h
theorem run_isAgg {t : TypeId} {i : TI} (h : C.ty t = some i) (w : World) : (isAgg t).run C.P w = .ok i.agg w := by
  obtain ⟨info, d, z, h1, h2, h3, h4, h5, h6, h7, h8⟩ := tiOf_ok (ok.ty t i h)
  rw [h6]
  cases d <;> simp [isAgg, run_underlying h2, aggOf]
theorem run_zero {t : TypeId} {i : TI} (h : C.ty t = some i) (w : World) : ∃ z, (zeroValue t).run C.P w = .ok z w ∧ ∀ ρ, denL ρ i.zero = some z.cells.toList := by
  obtain ⟨info, d, z, h1, h2, h3, h4, h5, h6, h7, h8⟩ := tiOf_ok (ok.ty t i h)
  exact ⟨z, by simp [zeroValue, typeInfo, h1, h3], fun ρ => by rw [h7]; exact ofLs_den ρ _⟩
theorem under_of {t : TypeId} {a b : Nat} {c : Bool} {z : List L} {x : TD} (h : C.ty t = some ⟨a, b, c, z, x⟩) : ∃ d, C.P.underlying t = some d ∧ x = tdOf d := by
  obtain ⟨info, d, z, h1, h2, h3, h4, h5, h6, h7, h8⟩ := tiOf_ok (ok.ty t _ h)
  exact ⟨d, h2, h8⟩
end

/-! ### Operands -/
section
variable {C : Ctx} {w0 : World} {W : List Nat} {n : Nat} {ρ : List Nat} {s : St} {a : Act} {w : World}
theorem idx_get : ∀ {gs : List Nat} {g i : Nat}, idx gs g = some i → gs[i]? = some g
  | [], g, i, h => by cases h
  | x :: xs, g, i, h => by
    simp only [idx, cond_ite, beq_iff] at h
    split at h
    · rename_i e; cases h; simp [e]
    · split at h
      · rename_i j hj; cases h; simpa using idx_get hj
      · cases h
theorem evO_den (hg : C.gs <+: ρ) (he : ESim ρ s.env a) {x : Operand} {v : V} (h : evO C s x = some v) : v.den ρ = some (a.eval x) := by
  cases x with
  | tmp t =>
    simp only [evO] at h
    split at h
    · rename_i p hp
      cases h
      obtain ⟨y, h1, h2⟩ := he.env _ _ hp
      rw [h1]
      simp [Act.eval, h2]
    · cases h
  | const c => cases h; exact ofV_den ρ c
  | global g =>
    simp only [evO] at h
    split at h
    · rename_i i hi
      cases h
      simp only [V.den, V0.den, L.den, pre_get hg (idx_get hi), N.n]; rfl
    · cases h
  | func f => cases h; rfl
theorem evOs_den (hg : C.gs <+: ρ) (he : ESim ρ s.env a) : ∀ {xs : List Operand} {vs : List V}, evOs C s xs = some vs → denVs ρ vs = some (xs.map a.eval)
  | [], _, h => by cases h; rfl
  | x :: xs, vs, h => by
    simp only [evOs] at h
    split at h
    · rename_i v us hv hu
      cases h
      simp only [denVs, evO_den hg he hv, evOs_den hg he hu, List.map_cons]
    · cases h
end
end Go.Proofs.YthndmfgmlbdekaaDoor.Ev
