/- The law's walk: the counter's two bytes are of one moment. -/
import Derived.Test.YthndmfgmlbdekaaDoorTm17
namespace Go.Proofs.YthndmfgmlbdekaaDoor.Ev
open Go Go.RowKit
set_option linter.unusedVariables false
set_option linter.unusedSimpArgs false
set_option linter.constructorNameAsVariable false
def c11 (c : Clk) (n : Int) : Clk := K.adv (K.rc c 16408) (msk n)
theorem ev11 (c : Clk) (n : Int) : vals (evFn (Cb.with spC) 1 (fun _ => none) Tryd.f11 Cb.H0 3 [clkV c, vint .i64 (.sym n)]) =
  .node (K.okC c) (.node (!K.valid c) (.node true (.leaf (vbool (.sym true))) .bad) (.node (K.okC c) (.node (okI (K.rc c 16408) (msk n)) (.node (K.okC (c11 c n)) (.node (K.rm c 16408 == 255) (.node (K.rm (c11 c n) 16409 == 255)
    (.node (IntKind.i64.wrap (IntKind.i64.wrap (256 * IntKind.i64.wrap (K.rv (c11 c n) 16409)) + IntKind.i64.wrap (K.rv c 16408)) == IntKind.i64.wrap c.co) (.node (K.okC (K.rc (c11 c n) 16409)) (.leaf (vbool (.sym (K.valid (K.rc (c11 c n) 16409))))) .bad) FF) FF) FF) .bad) .bad) .bad)) .bad := by kernel_rfl
theorem law11 (c : Clk) (n : Int) (hc : K.okC c = true) (hn : -9223372036854775808 ≤ n ∧ n < 9223372036854775808) :
    ∃ v', (vals (evFn (Cb.with spC) 1 (fun _ => none) Tryd.f11 Cb.H0 3 [clkV c, vint .i64 (.sym n)])).get = some v' ∧ ∀ ρ, v'.den ρ = some (.bool true) := by
  have m0 : 0 ≤ msk n ∧ msk n < 4611686018427387904 := by
    rw [msk_eq]; exact ⟨Int.emod_nonneg _ (by decide), Int.emod_lt_of_pos _ (by decide)⟩
  rw [ev11, hc]
  cases hv : K.valid c with
  | false => exact ⟨_, rfl, fun _ => rfl⟩
  | true =>
    have kc := okv_iff.2 ⟨hc, hv⟩
    have h := okC_iff.1 hc
    have hf : ¬ K.valid c = false := by rw [hv]; simp
    have e1 : K.rc c 16408 = { c with ho := c.co / 256 } := by unfold K.rc; rw [if_neg hf]; rfl
    have e2 : K.rm c 16408 = 255 := by unfold K.rm; rw [if_neg hf]; rfl
    have e3 : K.rv c 16408 = c.co % 256 := by unfold K.rv; rw [if_neg hf]; rfl
    have kd : K.okv (K.rc c 16408) = true := by
      rw [e1]
      obtain ⟨h2, h3, h4⟩ := valid_iff.1 hv
      refine okv_iff.2 ⟨okC_iff.2 ?_, valid_iff.2 ⟨h2, h3, h4⟩⟩
      exact ⟨h.1, h.2.1, h.2.2.1, by show 0 ≤ c.co / 256 ∧ c.co / 256 < 256; omega, h.2.2.2.2⟩
    have ka : K.okv (c11 c n) = true := okv_adv kd
    have hg : ¬ K.valid (c11 c n) = false := by rw [(okv_iff.1 ka).2]; simp
    have g1 : K.rc (c11 c n) 16409 = c11 c n := by unfold K.rc; rw [if_neg hg]; rfl
    have g2 : K.rm (c11 c n) 16409 = 255 := by unfold K.rm; rw [if_neg hg]; rfl
    have g3 : K.rv (c11 c n) 16409 = c.co / 256 := by
      have : K.rv (c11 c n) 16409 = (c11 c n).ho := by unfold K.rv; rw [if_neg hg]; rfl
      rw [this]
      unfold c11
      rw [adv_mixed kd m0.1, e1]
      show (K.count _ _).ho = c.co / 256
      unfold K.count
      split
      · rfl
      · split
        · rfl
        · split <;> rfl
    rw [okI_t (okv_iff.1 kd).1 (by omega) (by omega), e2, e3, g1, g2, g3, (okv_iff.1 ka).1, (okv_iff.1 ka).2]
    have e : (IntKind.i64.wrap (IntKind.i64.wrap (256 * IntKind.i64.wrap (c.co / 256)) + IntKind.i64.wrap (c.co % 256)) == IntKind.i64.wrap c.co) = true := by
      rw [wi64 (x := c.co / 256) (by omega) (by omega), wi64 (x := 256 * (c.co / 256)) (by omega) (by omega), wi64 (x := c.co % 256) (by omega) (by omega), wi64 (x := c.co) (by omega) (by omega), wi64 (by omega) (by omega)]
      simp; omega
    rw [e]
    exact ⟨_, rfl, fun _ => rfl⟩
end Go.Proofs.YthndmfgmlbdekaaDoor.Ev
namespace Go.Proofs.YthndmfgmlbdekaaDoor.Pure
open Go Go.RowKit Go.Proofs.YthndmfgmlbdekaaDoor.Ev
set_option linter.unusedVariables false
theorem TimerLatches (a0_0 : Int) (a0_1 : Int) (a0_2 : Int) (a0_3 : Int) (a0_4 : Int) (a0_5 : Bool) (a0_6 : Bool) (a0_7 : Bool) (a0_8 : Bool) (a0_9 : Bool) (a0_10 : Int) (a0_11 : Int) (a0_12 : Int) (a1 : Int) (w : World) (h0_0 : (Lit.int .u16 a0_0).wf = true) (h0_1 : (Lit.int .u16 a0_1).wf = true) (h0_2 : (Lit.int .u16 a0_2).wf = true) (h0_3 : (Lit.int .u8 a0_3).wf = true) (h0_4 : (Lit.int .u8 a0_4).wf = true) (h0_10 : (Lit.int .u16 a0_10).wf = true) (h0_11 : (Lit.int .u8 a0_11).wf = true) (h0_12 : (Lit.int .u8 a0_12).wf = true) (h1 : (Lit.int .i64 a1).wf = true) (G : Ev.GOk Ev.Cb w) :
    Calls Tryd.prog 11 #[.agg #[.int .u16 a0_0, .int .u16 a0_1, .int .u16 a0_2, .int .u8 a0_3, .int .u8 a0_4, .bool a0_5, .bool a0_6, .bool a0_7, .bool a0_8, .bool a0_9, .int .u16 a0_10, .int .u8 a0_11, .int .u8 a0_12], .int .i64 a1] w fun e w' => e = .returned (.bool true) ∧ Below w.heap.size w w' := by
  obtain ⟨v, h, hv⟩ := Ev.law11 ⟨a0_0, a0_1, a0_2, a0_3, a0_4, a0_5, a0_6, a0_7, a0_8, a0_9, a0_10, a0_11, a0_12⟩ a1 (okC_of h0_0 h0_1 h0_2 h0_3 h0_4 h0_10 h0_11 h0_12) (of_i64 h1)
  exact calls_of_ev (C := Cb.with spC) goodC.ok goodC.hs goodC.hb gsNodup Tryd.func11 keep_none G rfl h hv
end Go.Proofs.YthndmfgmlbdekaaDoor.Pure
