/- The law's walk: timer and sequencer do not bear on each other. -/
import Derived.Test.YthndmfgmlbdekaaDoorTm17
namespace Go.Proofs.YthndmfgmlbdekaaDoor.Ev
open Go Go.RowKit
set_option linter.unusedVariables false
set_option linter.unusedSimpArgs false
set_option linter.constructorNameAsVariable false
theorem ev6 (c d : Clk) (n : Int) : vals (evFn (Cb.with spC) 1 (fun _ => none) Tryd.f6 Cb.H0 3 [clkV c, clkV d, vint .i64 (.sym n)]) =
  .node true (.node false FF (.node true (.node false FF (.node (K.okC c) (.node (!K.valid c) TT (.node (K.okC d) (.node (!K.valid d) TT (.node (okI (K.mixed c d) (msk n)) (.node (okI c (msk n)) (.node (okI d (msk n))
    (.leaf (vbool (.sym (eqC (K.adv (K.mixed c d) (msk n)) (K.mixed (K.adv c (msk n)) (K.adv d (msk n))))))) .bad) .bad) .bad)) .bad)) .bad)) .bad)) .bad := by kernel_rfl
theorem law6 (c d : Clk) (n : Int) (hc : K.okC c = true) (hd : K.okC d = true) (hn : -9223372036854775808 ≤ n ∧ n < 9223372036854775808) :
    ∃ v', (vals (evFn (Cb.with spC) 1 (fun _ => none) Tryd.f6 Cb.H0 3 [clkV c, clkV d, vint .i64 (.sym n)])).get = some v' ∧ ∀ ρ, v'.den ρ = some (.bool true) := by
  obtain ⟨m0, m1⟩ := msk_in n
  rw [ev6, hc, hd]
  cases hv : K.valid c with
  | false => exact ⟨_, rfl, fun _ => rfl⟩
  | true =>
    cases hw : K.valid d with
    | false => exact ⟨_, rfl, fun _ => rfl⟩
    | true =>
      have kc := okv_iff.2 ⟨hc, hv⟩
      have kd := okv_iff.2 ⟨hd, hw⟩
      rw [okI_t (okv_iff.1 (okv_mixed kc kd)).1 (by omega) (by omega), okI_t hc (by omega) (by omega), okI_t hd (by omega) (by omega), adv_of_mixed kc kd m0, eqC_self]
      exact ⟨_, rfl, fun _ => rfl⟩
end Go.Proofs.YthndmfgmlbdekaaDoor.Ev
namespace Go.Proofs.YthndmfgmlbdekaaDoor.Pure
open Go Go.RowKit Go.Proofs.YthndmfgmlbdekaaDoor.Ev
set_option linter.unusedVariables false
theorem TimerApart (a0_0 : Int) (a0_1 : Int) (a0_2 : Int) (a0_3 : Int) (a0_4 : Int) (a0_5 : Bool) (a0_6 : Bool) (a0_7 : Bool) (a0_8 : Bool) (a0_9 : Bool) (a0_10 : Int) (a0_11 : Int) (a0_12 : Int) (a1_0 : Int) (a1_1 : Int) (a1_2 : Int) (a1_3 : Int) (a1_4 : Int) (a1_5 : Bool) (a1_6 : Bool) (a1_7 : Bool) (a1_8 : Bool) (a1_9 : Bool) (a1_10 : Int) (a1_11 : Int) (a1_12 : Int) (a2 : Int) (w : World) (h0_0 : (Lit.int .u16 a0_0).wf = true) (h0_1 : (Lit.int .u16 a0_1).wf = true) (h0_2 : (Lit.int .u16 a0_2).wf = true) (h0_3 : (Lit.int .u8 a0_3).wf = true) (h0_4 : (Lit.int .u8 a0_4).wf = true) (h0_10 : (Lit.int .u16 a0_10).wf = true) (h0_11 : (Lit.int .u8 a0_11).wf = true) (h0_12 : (Lit.int .u8 a0_12).wf = true) (h1_0 : (Lit.int .u16 a1_0).wf = true) (h1_1 : (Lit.int .u16 a1_1).wf = true) (h1_2 : (Lit.int .u16 a1_2).wf = true) (h1_3 : (Lit.int .u8 a1_3).wf = true) (h1_4 : (Lit.int .u8 a1_4).wf = true) (h1_10 : (Lit.int .u16 a1_10).wf = true) (h1_11 : (Lit.int .u8 a1_11).wf = true) (h1_12 : (Lit.int .u8 a1_12).wf = true) (h2 : (Lit.int .i64 a2).wf = true) (G : Ev.GOk Ev.Cb w) :
    Calls Tryd.prog 6 #[.agg #[.int .u16 a0_0, .int .u16 a0_1, .int .u16 a0_2, .int .u8 a0_3, .int .u8 a0_4, .bool a0_5, .bool a0_6, .bool a0_7, .bool a0_8, .bool a0_9, .int .u16 a0_10, .int .u8 a0_11, .int .u8 a0_12], .agg #[.int .u16 a1_0, .int .u16 a1_1, .int .u16 a1_2, .int .u8 a1_3, .int .u8 a1_4, .bool a1_5, .bool a1_6, .bool a1_7, .bool a1_8, .bool a1_9, .int .u16 a1_10, .int .u8 a1_11, .int .u8 a1_12], .int .i64 a2] w fun e w' => e = .returned (.bool true) ∧ Below w.heap.size w w' := by
  obtain ⟨v, h, hv⟩ := Ev.law6 ⟨a0_0, a0_1, a0_2, a0_3, a0_4, a0_5, a0_6, a0_7, a0_8, a0_9, a0_10, a0_11, a0_12⟩ ⟨a1_0, a1_1, a1_2, a1_3, a1_4, a1_5, a1_6, a1_7, a1_8, a1_9, a1_10, a1_11, a1_12⟩ a2 (okC_of h0_0 h0_1 h0_2 h0_3 h0_4 h0_10 h0_11 h0_12) (okC_of h1_0 h1_1 h1_2 h1_3 h1_4 h1_10 h1_11 h1_12) (of_i64 h2)
  exact calls_of_ev (C := Cb.with spC) goodC.ok goodC.hs goodC.hb gsNodup Tryd.func6 keep_none G rfl h hv
end Go.Proofs.YthndmfgmlbdekaaDoor.Pure
