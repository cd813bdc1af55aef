/- The law's walk: Valid, Irq, Tick and Next of every clock. -/
import Derived.Test.YthndmfgmlbdekaaDoorTm21
namespace Go.Proofs.YthndmfgmlbdekaaDoor.Ev
open Go Go.RowKit
set_option linter.unusedVariables false
set_option linter.unusedSimpArgs false
set_option linter.constructorNameAsVariable false
theorem ev10 (c : Clk) : vals (evFn (Cb.with spF) 1 (fun _ => none) Tryd.f10 Cb.H0 3 [clkV c]) =
  .node (K.okC c) (.node (K.okC c) (.node (!(K.valid c == K.valid c)) FF (.node (K.okC c) (.node (K.okC c) (.node (!(K.irq c == K.irq c)) FF (.node (K.okC c) (.node (K.okC c) (.node (eqC (K.adv c 1) (K.adv c 1)) (.node (K.okC c) (.node (K.okC c) (.leaf (vbool (.sym (K.next c == K.next c)))) .bad) .bad) FF) .bad) .bad)) .bad) .bad)) .bad) .bad := by kernel_rfl
theorem law10 (c : Clk) (hc : K.okC c = true) :
    ∃ v', (vals (evFn (Cb.with spF) 1 (fun _ => none) Tryd.f10 Cb.H0 3 [clkV c])).get = some v' ∧ ∀ ρ, v'.den ρ = some (.bool true) := by
  rw [ev10, hc, eqC_self, show (!(K.valid c == K.valid c)) = false by simp, show (!(K.irq c == K.irq c)) = false by simp]
  refine ⟨_, rfl, fun _ => ?_⟩
  show some (Value.bool (K.next c == K.next c)) = _
  simp
end Go.Proofs.YthndmfgmlbdekaaDoor.Ev
namespace Go.Proofs.YthndmfgmlbdekaaDoor.Pure
open Go Go.RowKit Go.Proofs.YthndmfgmlbdekaaDoor.Ev
set_option linter.unusedVariables false
theorem TimerTicks (a0_0 : Int) (a0_1 : Int) (a0_2 : Int) (a0_3 : Int) (a0_4 : Int) (a0_5 : Bool) (a0_6 : Bool) (a0_7 : Bool) (a0_8 : Bool) (a0_9 : Bool) (a0_10 : Int) (a0_11 : Int) (a0_12 : Int) (w : World) (h0_0 : (Lit.int .u16 a0_0).wf = true) (h0_1 : (Lit.int .u16 a0_1).wf = true) (h0_2 : (Lit.int .u16 a0_2).wf = true) (h0_3 : (Lit.int .u8 a0_3).wf = true) (h0_4 : (Lit.int .u8 a0_4).wf = true) (h0_10 : (Lit.int .u16 a0_10).wf = true) (h0_11 : (Lit.int .u8 a0_11).wf = true) (h0_12 : (Lit.int .u8 a0_12).wf = true) (G : Ev.GOk Ev.Cb w) :
    Calls Tryd.prog 10 #[.agg #[.int .u16 a0_0, .int .u16 a0_1, .int .u16 a0_2, .int .u8 a0_3, .int .u8 a0_4, .bool a0_5, .bool a0_6, .bool a0_7, .bool a0_8, .bool a0_9, .int .u16 a0_10, .int .u8 a0_11, .int .u8 a0_12]] w fun e w' => e = .returned (.bool true) ∧ Below w.heap.size w w' := by
  obtain ⟨v, h, hv⟩ := Ev.law10 ⟨a0_0, a0_1, a0_2, a0_3, a0_4, a0_5, a0_6, a0_7, a0_8, a0_9, a0_10, a0_11, a0_12⟩ (okC_of h0_0 h0_1 h0_2 h0_3 h0_4 h0_10 h0_11 h0_12)
  exact calls_of_ev (C := Cb.with spF) goodF.ok goodF.hs goodF.hb gsNodup Tryd.func10 keep_none G rfl h hv
end Go.Proofs.YthndmfgmlbdekaaDoor.Pure
