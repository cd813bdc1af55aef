/- The law's walk: a and b cycles are a + b, one is Tick, none is none. -/
import Derived.Test.YthndmfgmlbdekaaDoorTm14
namespace Go.Proofs.YthndmfgmlbdekaaDoor.Ev
open Go Go.RowKit
set_option linter.constructorNameAsVariable false
set_option linter.unusedVariables false
set_option linter.unusedSimpArgs false
abbrev TT : Tree V := .leaf (vbool (.lit true))
abbrev FF : Tree V := .leaf (vbool (.lit false))
def msk (a : Int) : Int := bits .and .i64 a 4611686018427387903
theorem msk_eq (a : Int) : msk a = a % 4611686018427387904 := half_eq a
theorem okI_t {c : Clk} {n : Int} (h : K.okC c = true) (h0 : -9223372036854775808 ≤ n) (h1 : n < 9223372036854775808) : okI c n = true := by
  unfold okI isI; rw [h, decide_eq_true (by omega)]; rfl
theorem ev7 (c : Clk) (a b : Int) : vals (evFn (Cb.with sp9) 1 (fun _ => none) Tryd.f7 Cb.H0 3 [clkV c, vint .i64 (.sym a), vint .i64 (.sym b)]) =
  Tree.node (okI c 1) (Tree.node (K.okC c) (Tree.node (!(eqC (K.adv c 1) (K.adv c 1))) FF (Tree.node (okI c 0) (Tree.node (!(eqC (K.adv c 0) c)) FF (Tree.node (okI c (IntKind.i64.wrap (-1 - msk a))) (Tree.node (!(eqC (K.adv c (IntKind.i64.wrap (-1 - msk a))) c)) FF (Tree.node true (Tree.node false FF (Tree.node (K.okC c) (Tree.node (K.okC c) (Tree.node (K.valid c == eqC (K.adv c 1) c) FF (Tree.node (okI c (msk a)) (Tree.node (okI (K.adv c (msk a)) (msk b)) (Tree.node (okI c (IntKind.i64.wrap (msk a + msk b))) (.leaf (vbool (.sym (eqC (K.adv (K.adv c (msk a)) (msk b)) (K.adv c (IntKind.i64.wrap (msk a + msk b))))))) .bad) .bad) .bad)) .bad) .bad)) .bad)) .bad)) .bad)) .bad) .bad := by kernel_rfl
theorem adv1_ne (c : Clk) (h : K.okv c = true) : K.adv c 1 ≠ c := by
  obtain ⟨h1, h2⟩ := okv_iff.1 h
  intro e
  rw [adv_one h2 (by omega)] at e
  have e' : K.one (K.count c 1) = c := e
  have hk := okv_count (n := 1) h (by omega)
  have k1 : (K.one (K.count c 1)).pl = (K.one c).pl := by
    rw [← one_count]; unfold K.count; split
    · rfl
    · split
      · rfl
      · split <;> rfl
  have k2 : (K.one (K.count c 1)).wa = (K.one c).wa := by
    rw [← one_count]; unfold K.count; split
    · rfl
    · split
      · rfl
      · split <;> rfl
  have e1 : (if c.wa = 1 then 0 else K.wrapAt c.fi (c.pl + 1)) = c.pl := k1.symm.trans (congrArg Clk.pl e')
  have e2 : (if c.wa = 0 then 0 else c.wa - 1) = c.wa := k2.symm.trans (congrArg Clk.wa e')
  have h1 := okC_iff.1 h1
  have w0 : c.wa = 0 := by split at e2 <;> omega
  rw [if_neg (by omega)] at e1
  have hr : K.rnd c.fi = 29830 ∨ K.rnd c.fi = 37282 := by cases c.fi <;> decide
  obtain ⟨h2, _⟩ := valid_iff.1 h2
  unfold K.wrapAt at e1
  split at e1 <;> omega
theorem law7 (c : Clk) (a b : Int) (hc : K.okC c = true) (ha : -9223372036854775808 ≤ a ∧ a < 9223372036854775808) (hb : -9223372036854775808 ≤ b ∧ b < 9223372036854775808) :
    ∃ v', (vals (evFn (Cb.with sp9) 1 (fun _ => none) Tryd.f7 Cb.H0 3 [clkV c, vint .i64 (.sym a), vint .i64 (.sym b)])).get = some v' ∧ ∀ ρ, v'.den ρ = some (.bool true) := by
  have ma := Int.emod_nonneg a (show (4611686018427387904 : Int) ≠ 0 by decide)
  have ma' := Int.emod_lt_of_pos a (show (4611686018427387904 : Int) > 0 by decide)
  have mb := Int.emod_nonneg b (show (4611686018427387904 : Int) ≠ 0 by decide)
  have mb' := Int.emod_lt_of_pos b (show (4611686018427387904 : Int) > 0 by decide)
  rw [ev7, msk_eq, msk_eq, wi64 (x := -1 - a % 4611686018427387904) (by omega) (by omega), wi64 (x := a % 4611686018427387904 + b % 4611686018427387904) (by omega) (by omega)]
  rw [okI_t hc (by omega) (by omega), okI_t hc (by omega) (by omega), okI_t hc (by omega) (by omega), okI_t hc (by omega) (by omega), okI_t (okC_adv hc) (by omega) (by omega), okI_t hc (by omega) (by omega), hc, eqC_self, adv_low (n := 0) (by omega), adv_low (n := -1 - a % 4611686018427387904) (by omega), eqC_self, adv_add hc ma mb, eqC_self]
  have e : (K.valid c == eqC (K.adv c 1) c) = false := by
    cases hv : K.valid c with
    | false => rw [adv_bad hv, eqC_self]; rfl
    | true =>
      have : eqC (K.adv c 1) c = false := by
        cases h : eqC (K.adv c 1) c with
        | false => rfl
        | true => exact absurd (eqC_iff.1 h) (adv1_ne c (okv_iff.2 ⟨hc, hv⟩))
      rw [this]; rfl
  rw [e]
  exact ⟨_, rfl, fun _ => rfl⟩
end Go.Proofs.YthndmfgmlbdekaaDoor.Ev
namespace Go.Proofs.YthndmfgmlbdekaaDoor.Pure
open Go Go.RowKit Go.Proofs.YthndmfgmlbdekaaDoor.Ev
set_option linter.unusedVariables false
theorem TimerSums (a0_0 : Int) (a0_1 : Int) (a0_2 : Int) (a0_3 : Int) (a0_4 : Int) (a0_5 : Bool) (a0_6 : Bool) (a0_7 : Bool) (a0_8 : Bool) (a0_9 : Bool) (a0_10 : Int) (a0_11 : Int) (a0_12 : Int) (a1 : Int) (a2 : Int) (w : World) (h0_0 : (Lit.int .u16 a0_0).wf = true) (h0_1 : (Lit.int .u16 a0_1).wf = true) (h0_2 : (Lit.int .u16 a0_2).wf = true) (h0_3 : (Lit.int .u8 a0_3).wf = true) (h0_4 : (Lit.int .u8 a0_4).wf = true) (h0_10 : (Lit.int .u16 a0_10).wf = true) (h0_11 : (Lit.int .u8 a0_11).wf = true) (h0_12 : (Lit.int .u8 a0_12).wf = true) (h1 : (Lit.int .i64 a1).wf = true) (h2 : (Lit.int .i64 a2).wf = true) (G : Ev.GOk Ev.Cb w) :
    Calls Tryd.prog 7 #[.agg #[.int .u16 a0_0, .int .u16 a0_1, .int .u16 a0_2, .int .u8 a0_3, .int .u8 a0_4, .bool a0_5, .bool a0_6, .bool a0_7, .bool a0_8, .bool a0_9, .int .u16 a0_10, .int .u8 a0_11, .int .u8 a0_12], .int .i64 a1, .int .i64 a2] w fun e w' => e = .returned (.bool true) ∧ Below w.heap.size w w' := by
  obtain ⟨v, h, hv⟩ := Ev.law7 ⟨a0_0, a0_1, a0_2, a0_3, a0_4, a0_5, a0_6, a0_7, a0_8, a0_9, a0_10, a0_11, a0_12⟩ a1 a2 (okC_of h0_0 h0_1 h0_2 h0_3 h0_4 h0_10 h0_11 h0_12) (of_i64 h1) (of_i64 h2)
  exact calls_of_ev (C := Cb.with sp9) good9.ok good9.hs good9.hb gsNodup Tryd.func7 keep_none G rfl h hv
end Go.Proofs.YthndmfgmlbdekaaDoor.Pure
