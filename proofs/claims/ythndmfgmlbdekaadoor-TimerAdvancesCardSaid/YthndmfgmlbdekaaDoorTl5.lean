/- The law's walk: n cycles in few steps are n single ones. -/
import Derived.Test.YthndmfgmlbdekaaDoorTm21
namespace Go.Proofs.YthndmfgmlbdekaaDoor.Ev
open Go Go.RowKit
set_option linter.unusedVariables false
set_option linter.unusedSimpArgs false
set_option linter.constructorNameAsVariable false
theorem ev5 (c : Clk) (n : Int) : vals (evFn (Cb.with spF) 1 (fun _ => none) Tryd.f5 Cb.H0 3 [clkV c, vint .i64 (.sym n)]) =
  .node (okI c (n.tmod 65536)) (.node (okR c (n.tmod 65536)) (.leaf (vbool (.sym (eqC (K.adv c (n.tmod 65536)) (K.adv c (n.tmod 65536)))))) .bad) .bad := by kernel_rfl
theorem law5 (c : Clk) (n : Int) (hc : K.okC c = true) (hn : -9223372036854775808 ≤ n ∧ n < 9223372036854775808) :
    ∃ v', (vals (evFn (Cb.with spF) 1 (fun _ => none) Tryd.f5 Cb.H0 3 [clkV c, vint .i64 (.sym n)])).get = some v' ∧ ∀ ρ, v'.den ρ = some (.bool true) := by
  have h1 := Int.tmod_lt_of_pos n (show (0 : Int) < 65536 by decide)
  have h2 : -65536 < n.tmod 65536 := Int.lt_tmod_of_pos n (show (0 : Int) < 65536 by decide)
  rw [ev5, okI_t hc (by omega) (by omega), show okR c (n.tmod 65536) = true by unfold okR; rw [hc, decide_eq_true (by omega)]; rfl, eqC_self]
  exact ⟨_, rfl, fun _ => rfl⟩
end Go.Proofs.YthndmfgmlbdekaaDoor.Ev
namespace Go.Proofs.YthndmfgmlbdekaaDoor.Pure
open Go Go.RowKit Go.Proofs.YthndmfgmlbdekaaDoor.Ev
set_option linter.unusedVariables false
theorem TimerAdvances (a0_0 : Int) (a0_1 : Int) (a0_2 : Int) (a0_3 : Int) (a0_4 : Int) (a0_5 : Bool) (a0_6 : Bool) (a0_7 : Bool) (a0_8 : Bool) (a0_9 : Bool) (a0_10 : Int) (a0_11 : Int) (a0_12 : Int) (a1 : Int) (w : World) (h0_0 : (Lit.int .u16 a0_0).wf = true) (h0_1 : (Lit.int .u16 a0_1).wf = true) (h0_2 : (Lit.int .u16 a0_2).wf = true) (h0_3 : (Lit.int .u8 a0_3).wf = true) (h0_4 : (Lit.int .u8 a0_4).wf = true) (h0_10 : (Lit.int .u16 a0_10).wf = true) (h0_11 : (Lit.int .u8 a0_11).wf = true) (h0_12 : (Lit.int .u8 a0_12).wf = true) (h1 : (Lit.int .i64 a1).wf = true) (G : Ev.GOk Ev.Cb w) :
    Calls Tryd.prog 5 #[.agg #[.int .u16 a0_0, .int .u16 a0_1, .int .u16 a0_2, .int .u8 a0_3, .int .u8 a0_4, .bool a0_5, .bool a0_6, .bool a0_7, .bool a0_8, .bool a0_9, .int .u16 a0_10, .int .u8 a0_11, .int .u8 a0_12], .int .i64 a1] w fun e w' => e = .returned (.bool true) ∧ Below w.heap.size w w' := by
  obtain ⟨v, h, hv⟩ := Ev.law5 ⟨a0_0, a0_1, a0_2, a0_3, a0_4, a0_5, a0_6, a0_7, a0_8, a0_9, a0_10, a0_11, a0_12⟩ a1 (okC_of h0_0 h0_1 h0_2 h0_3 h0_4 h0_10 h0_11 h0_12) (of_i64 h1)
  exact calls_of_ev (C := Cb.with spF) goodF.ok goodF.hs goodF.hb gsNodup Tryd.func5 keep_none G rfl h hv
end Go.Proofs.YthndmfgmlbdekaaDoor.Pure
