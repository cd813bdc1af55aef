/- The law's walk: Next is the first cycle behind which the line is high. -/
import Derived.Test.YthndmfgmlbdekaaDoorTm22
namespace Go.Proofs.YthndmfgmlbdekaaDoor.Ev
open Go Go.RowKit
set_option linter.unusedVariables false
set_option linter.unusedSimpArgs false
set_option linter.constructorNameAsVariable false
theorem ev12 (c : Clk) (k : Int) : vals (evFn (Cb.with spF) 1 (fun _ => none) Tryd.f12 Cb.H0 3 [clkV c, vint .i64 (.sym k)]) =
  .node (K.okC c) (.node (K.next c == 4611686018427387904)
    (.node (K.okC c) (.node (!K.irq c) (.node (okI c 1099511627776) (.node (K.okC (K.adv c 1099511627776)) (.node (!K.irq (K.adv c 1099511627776)) (.node true (.node true (.node (4611686018427387904 == K.next c) (.node true (.leaf (vbool (.sym true))) .bad) FF) .bad) .bad) FF) .bad) .bad) FF) .bad)
    (.node (decide (K.next c < 0)) FF (.node (decide (K.next c > 33554432)) FF (.node (K.okC c) (.node (!K.valid c) FF (.node (okI c (K.next c)) (.node (K.okC (K.adv c (K.next c))) (.node (!K.irq (K.adv c (K.next c))) FF
      (.node (okI c (IntKind.i64.wrap (K.next c + msk k))) (.node (K.okC (K.adv c (IntKind.i64.wrap (K.next c + msk k)))) (.node (!K.irq (K.adv c (IntKind.i64.wrap (K.next c + msk k)))) FF (.node (K.next c == 0) TT
      (.node (okI c (IntKind.i64.wrap (K.next c - 1))) (.node (K.okC (K.adv c (IntKind.i64.wrap (K.next c - 1)))) (.node (!K.irq (K.adv c (IntKind.i64.wrap (K.next c - 1)))) (.node (K.next c != 0)
      (.node (okI c ((msk k).tmod (K.next c))) (.node (K.okC (K.adv c ((msk k).tmod (K.next c)))) (.leaf (vbool (.sym (!K.irq (K.adv c ((msk k).tmod (K.next c))))))) .bad) .bad) .bad) FF) .bad) .bad))) .bad) .bad)) .bad) .bad)) .bad)))) .bad := by kernel_rfl
theorem law12 (c : Clk) (k : Int) (hc : K.okC c = true) (hk : -9223372036854775808 ≤ k ∧ k < 9223372036854775808) :
    ∃ v', (vals (evFn (Cb.with spF) 1 (fun _ => none) Tryd.f12 Cb.H0 3 [clkV c, vint .i64 (.sym k)])).get = some v' ∧ ∀ ρ, v'.den ρ = some (.bool true) := by
  obtain ⟨m0, m1⟩ := msk_in k
  rw [ev12, hc]
  cases hv : K.valid c with
  | false =>
    have hn : K.next c = 4611686018427387904 := by unfold K.next; rw [if_pos hv]; rfl
    have hi : K.irq c = false := by unfold K.irq; rw [hv]; rfl
    rw [adv_bad hv, hn, hi, hc, okI_t hc (by omega) (by omega)]
    exact ⟨_, rfl, fun _ => rfl⟩
  | true =>
    have h := okv_iff.2 ⟨hc, hv⟩
    have hA : ∀ m, K.okC (K.adv c m) = true := fun m => okC_adv hc
    cases hi : K.irq c with
    | true =>
      have hn : K.next c = 0 := by unfold K.next; rw [if_neg (by rw [hv]; simp), hi]; rfl
      rw [hn, hA, hA, hA, wi64 (x := 0 + msk k) (by omega) (by omega), okI_t hc (by omega) (by omega), okI_t hc (by omega) (by omega), okI_t hc (by omega) (by omega), irq_high h hi (by omega), irq_high h hi (by omega), irq_high h hi (by omega)]
      exact ⟨_, rfl, fun _ => rfl⟩
    | false =>
      obtain ⟨b1, b2⟩ := next_bounds h hi
      by_cases hn : K.next c = K.never
      · have e1 : K.irq (K.adv c 1099511627776) = false := by
          rw [irq_adv h hi (by omega) (by unfold K.never; omega), hn]; decide
        rw [show (K.next c == 4611686018427387904) = true by rw [hn]; decide, okI_t hc (by omega) (by omega), hA, e1, show (4611686018427387904 == K.next c) = true by rw [hn]; decide]
        exact ⟨_, rfl, fun _ => rfl⟩
      · have b2 : K.next c ≤ 16777216 := b2.resolve_left hn
        have hne : (0 : Int) < K.next c := by omega
        have t0 : 0 ≤ (msk k).tmod (K.next c) := Int.tmod_nonneg _ m0
        have t1 : (msk k).tmod (K.next c) < K.next c := Int.tmod_lt_of_pos _ hne
        have hnev : K.next c + msk k < K.never ∨ True := .inr trivial
        have i1 : K.irq (K.adv c (K.next c)) = true := by rw [irq_adv h hi (by omega) (by unfold K.never; omega)]; simp
        have i2 : K.irq (K.adv c (K.next c + msk k)) = true := by
          rw [← adv_add hc (by omega) m0]
          exact irq_high (okv_adv h) i1 m0
        have i3 : K.irq (K.adv c (K.next c - 1)) = false := by rw [irq_adv h hi (by omega) (by unfold K.never; omega), decide_eq_false (by omega)]
        have i4 : K.irq (K.adv c ((msk k).tmod (K.next c))) = false := by rw [irq_adv h hi t0 (by unfold K.never; omega), decide_eq_false (by omega)]
        rw [show (K.next c == 4611686018427387904) = false by simp; omega, decide_eq_false (show ¬ K.next c < 0 by omega), decide_eq_false (show ¬ K.next c > 33554432 by omega), wi64 (x := K.next c + msk k) (by omega) (by omega), wi64 (x := K.next c - 1) (by omega) (by omega),
          hA, hA, hA, hA, hA, okI_t hc (by omega) (by omega), okI_t hc (by omega) (by omega), okI_t hc (by omega) (by omega), okI_t hc (by omega) (by omega), okI_t hc (by omega) (by omega), i1, i2, i3, i4, show (K.next c == 0) = false by simp; omega, show (K.next c != 0) = true by simp; omega]
        exact ⟨_, rfl, fun _ => rfl⟩
end Go.Proofs.YthndmfgmlbdekaaDoor.Ev
namespace Go.Proofs.YthndmfgmlbdekaaDoor.Pure
open Go Go.RowKit Go.Proofs.YthndmfgmlbdekaaDoor.Ev
set_option linter.unusedVariables false
theorem TimerNexts (a0_0 : Int) (a0_1 : Int) (a0_2 : Int) (a0_3 : Int) (a0_4 : Int) (a0_5 : Bool) (a0_6 : Bool) (a0_7 : Bool) (a0_8 : Bool) (a0_9 : Bool) (a0_10 : Int) (a0_11 : Int) (a0_12 : Int) (a1 : Int) (w : World) (h0_0 : (Lit.int .u16 a0_0).wf = true) (h0_1 : (Lit.int .u16 a0_1).wf = true) (h0_2 : (Lit.int .u16 a0_2).wf = true) (h0_3 : (Lit.int .u8 a0_3).wf = true) (h0_4 : (Lit.int .u8 a0_4).wf = true) (h0_10 : (Lit.int .u16 a0_10).wf = true) (h0_11 : (Lit.int .u8 a0_11).wf = true) (h0_12 : (Lit.int .u8 a0_12).wf = true) (h1 : (Lit.int .i64 a1).wf = true) (G : Ev.GOk Ev.Cb w) :
    Calls Tryd.prog 12 #[.agg #[.int .u16 a0_0, .int .u16 a0_1, .int .u16 a0_2, .int .u8 a0_3, .int .u8 a0_4, .bool a0_5, .bool a0_6, .bool a0_7, .bool a0_8, .bool a0_9, .int .u16 a0_10, .int .u8 a0_11, .int .u8 a0_12], .int .i64 a1] w fun e w' => e = .returned (.bool true) ∧ Below w.heap.size w w' := by
  obtain ⟨v, h, hv⟩ := Ev.law12 ⟨a0_0, a0_1, a0_2, a0_3, a0_4, a0_5, a0_6, a0_7, a0_8, a0_9, a0_10, a0_11, a0_12⟩ a1 (okC_of h0_0 h0_1 h0_2 h0_3 h0_4 h0_10 h0_11 h0_12) (of_i64 h1)
  exact calls_of_ev (C := Cb.with spF) goodF.ok goodF.hs goodF.hb gsNodup Tryd.func12 keep_none G rfl h hv
end Go.Proofs.YthndmfgmlbdekaaDoor.Pure
