/- The timer's functions, one by one: what each answers, and that it does: the small ones. -/
import Derived.Test.YthndmfgmlbdekaaDoorTm1
namespace Go.Proofs.YthndmfgmlbdekaaDoor.Ev
open Go Go.RowKit
set_option linter.unusedSimpArgs false
set_option linter.unusedVariables false
set_option linter.constructorNameAsVariable false
namespace K
/-- The divider of a control byte. -/
def dv (ct : Int) : Int := [1, 8, 64, 256].getD (bits .and .u8 (ct.fdiv 8) 3).toNat 0
/-- A round's length; its last beat. -/
def rnd (fi : Bool) : Int := bif fi then 37282 else 29830
def lastB (fi : Bool) : Int := bif fi then 37281 else 29829
end K
theorem and3 (x : Int) : 0 ≤ bits .and .u8 x 3 ∧ bits .and .u8 x 3 < 4 := by
  have h : ∀ y : BitVec 8, 0 ≤ IntKind.u8.wrap ((y &&& 3#8).toNat : Int) ∧ IntKind.u8.wrap ((y &&& 3#8).toNat : Int) < 4 := by decide +kernel
  exact h (BitVec.ofInt 8 x)
def dvV (c : Clk) : V := vint .u64 (.sym (K.dv c.ct))
theorem ev37 (c : Clk) : vals (evFn (Cb.with []) 1 (fun _ => none) Tryd.f37 Cb.H0 3 [clkV c]) =
    .node (decide (0 ≤ bits .and .u8 (c.ct.fdiv 8) 3 ∧ bits .and .u8 (c.ct.fdiv 8) 3 < 4)) (.node (decide (0 + (bits .and .u8 (c.ct.fdiv 8) 3).toNat * 1 < 4)) (.leaf (vint .u64 (.sym ([1, 8, 64, 256].getD (0 + (bits .and .u8 (c.ct.fdiv 8) 3).toNat * 1) 0)))) .bad) .bad := by kernel_rfl
theorem ok37 : FnOk (Cb.with []) 37 (onC (g1 dvV)) := FnOk.g1 good0 gsNodup Tryd.func37 (fun _ _ _ => rfl) 1 fun c => by
  have h := and3 (c.ct.fdiv 8)
  refine ⟨dvV c, ?_, fun _ => rfl⟩
  show (vals (evFn (Cb.with []) 1 (fun _ => none) Tryd.f37 Cb.H0 3 [clkV c])).get = _
  rw [ev37]
  simp only [Tree.get, decide_eq_true h, cond_true]
  rw [decide_eq_true (by omega), cond_true, Nat.zero_add, Nat.mul_one]
  rfl
def modeV (fi : Bool) : V := .v (.agg [.int .u64 (.sym (K.rnd fi)), .int .u64 (.lit 7457), .int .u64 (.lit 14913), .int .u64 (.lit 22371), .int .u64 (.sym (K.lastB fi))])
theorem ok46 : FnOk (Cb.with []) 46 (onC (g1 fun c => modeV c.fi)) := FnOk.g1 good0 gsNodup Tryd.func46 (fun _ _ _ => rfl) 1 fun c => by
  obtain ⟨la, co, pr, ho, ct, fl, ov, fi, inh, fr, pl, wa, be⟩ := c
  cases fi
  · exact ⟨.v (.agg [.int .u64 (.lit 29830), .int .u64 (.lit 7457), .int .u64 (.lit 14913), .int .u64 (.lit 22371), .int .u64 (.lit 29829)]), by kernel_rfl, fun _ => rfl⟩
  · exact ⟨.v (.agg [.int .u64 (.lit 37282), .int .u64 (.lit 7457), .int .u64 (.lit 14913), .int .u64 (.lit 22371), .int .u64 (.lit 37281)]), by kernel_rfl, fun _ => rfl⟩
def askV : V := .v (.agg [.int .u64 (.lit 29828), .int .u64 (.lit 29829), .int .u64 (.lit 29830)])
def g0 (v : V) : List V → Option V
  | [] => some v
  | _ => none
theorem FnOk.g0 {C : Ctx} (gd : Good C) (hn : C.gs.Nodup) {f : FuncId} {fn : Func} (hf : C.P.funcs[f]? = some fn) {v : V} (hv : ∀ ρ ρ', v.den ρ = v.den ρ')
    (k : Nat) (H : (vals (evFn C k (fun _ => none) fn C.H0 C.gs.length [])).get = some v) : FnOk C f (Ev.onC (Ev.g0 v)) := by
  refine FnOk.onC gd hn hf fun cs u h => ?_
  unfold Ev.g0 at h
  split at h
  · cases h; exact ⟨fun _ _ => rfl, hv, k, v, H, fun _ => rfl⟩
  · cases h
theorem ok48 : FnOk (Cb.with []) 48 (onC (g0 askV)) := FnOk.g0 good0 gsNodup Tryd.func48 (fun _ _ => rfl) 1 (by kernel_rfl)
/-- The small ones. -/
noncomputable def sp1 : List (Nat × Spec) := [(48, onC (g0 askV)), (46, onC (g1 fun c => modeV c.fi)), (37, onC (g1 dvV))]
theorem good1 : Good (Cb.with sp1) :=
  ((good0.cons Tryd.func37 (by kernel_rfl) (by kernel_rfl) ok37).cons Tryd.func46 (by kernel_rfl) (by kernel_rfl) ok46).cons Tryd.func48 (by kernel_rfl) (by kernel_rfl) ok48
end Go.Proofs.YthndmfgmlbdekaaDoor.Ev
