/- The law's walk: with ONCE the timer runs out once and stops. -/
import Derived.Test.YthndmfgmlbdekaaDoorTl8
namespace Go.Proofs.YthndmfgmlbdekaaDoor.Ev
open Go Go.RowKit
set_option linter.unusedVariables false
set_option linter.unusedSimpArgs false
set_option linter.constructorNameAsVariable false
theorem once_count {l p n : Int} (l0 : 0 ≤ l) (n0 : 0 ≤ n) :
    K.count (K.started l p true) n = if n < (l + 1) * K.size p then { K.started l p true with co := l - n / K.size p, pr := n % K.size p } else { K.started l p true with ct := 6 + p % 4 * 8, fl := true } := by
  have hd := size_cases p
  have ed : K.dvn (K.started l p true).ct = K.size p := by
    show K.dvn (3 + p % 4 * 8 + 4) = _
    rw [show 3 + p % 4 * 8 + 4 = 7 + p % 4 * 8 by omega]; exact dvn_started 7 (.inr rfl)
  have k := Int.ediv_lt_iff_lt_mul (a := n) (b := l + 1) (show 0 < K.size p by omega)
  unfold K.count
  rw [if_neg (show ¬ (K.started l p true).ct % 2 = 0 by show ¬ (3 + p % 4 * 8 + 4) % 2 = 0; omega), ed]
  show (if (0 + n) / K.size p ≤ l then _ else _) = _
  rw [show 0 + n = n by omega]
  by_cases hlt : n < (l + 1) * K.size p
  · rw [if_pos (by omega), if_pos hlt]
    show Clk.mk l (l - (0 + n) / K.size p) ((0 + n) % K.size p) _ _ _ _ _ _ _ _ _ _ = _
    rw [show 0 + n = n by omega]
    rfl
  · rw [if_neg (by omega), if_neg hlt, if_pos (show (K.started l p true).ct / 4 % 2 = 1 by show (3 + p % 4 * 8 + 4) / 4 % 2 = 1; omega)]
    show Clk.mk l l 0 0 (3 + p % 4 * 8 + 4 - 1) true (false || false) _ _ _ _ _ _ = Clk.mk l l 0 0 (6 + p % 4 * 8) true false _ _ _ _ _ _
    rw [show 3 + p % 4 * 8 + 4 - 1 = 6 + p % 4 * 8 by omega]
    rfl
def CO (l p n : Int) : Clk := K.adv (K.started l p true) n
def ctl7 (p : Int) : Int := bits .or .u8 7 (IntKind.u8.wrap (p.tmod 4 * 8))
def ctl6 (p : Int) : Int := bits .or .u8 6 (IntKind.u8.wrap (p.tmod 4 * 8))
def oB (l p n : Int) : Tree V :=
  .node (okI (K.started l p true) n) (.node (decide (n < PP l p))
    (.node (!(CO l p n).fl) (.node (!(CO l p n).ov) (.node (K.size p != 0) (.node (IntKind.i64.wrap (CO l p n).co == IntKind.i64.wrap (IntKind.i64.wrap l - IntKind.i64.wrap (n.tdiv (K.size p)))) (.node (K.size p != 0)
      (.leaf (vbool (.sym (bif IntKind.i64.wrap (CO l p n).pr == n.tmod (K.size p) then (CO l p n).ct == ctl7 p else false)))) .bad) FF) .bad) FF) FF)
    (.node (CO l p n).fl (.node (!(CO l p n).ov) (.node ((CO l p n).co == l) (.node ((CO l p n).pr == 0) (.node ((CO l p n).ct == ctl6 p) (.node (K.okC (CO l p n)) (.leaf (vbool (.sym (K.irq (CO l p n))))) .bad) FF) FF) FF) FF) FF)) .bad
theorem ev9 (l p k : Int) : vals (evFn (Cb.with spG) 1 (fun _ => none) Tryd.f9 Cb.H0 3 [vint .u16 (.sym l), vint .u8 (.sym p), vint .i64 (.sym k)]) =
  .node (isB p) (.node (bits .and .i64 (msk k) 1 == 1) (.node (IntKind.i64.wrap (2 * PP l p) != 0) (.node (decide ((0 ≤ l ∧ l < 65536) ∧ 0 ≤ p ∧ p < 256)) (oB l p ((msk k).tmod (IntKind.i64.wrap (2 * PP l p)))) .bad) .bad)
    (.node (decide ((0 ≤ l ∧ l < 65536) ∧ 0 ≤ p ∧ p < 256)) (oB l p (msk k)) .bad)) .bad := by kernel_rfl
theorem ctl7_eq {p : Int} (h0 : 0 ≤ p) (h1 : p < 256) : ctl7 p = 7 + p % 4 * 8 := by256 (P := fun p => ctl7 p = 7 + p % 4 * 8) (by decide +kernel) h0 h1
theorem ctl6_eq {p : Int} (h0 : 0 ≤ p) (h1 : p < 256) : ctl6 p = 6 + p % 4 * 8 := by256 (P := fun p => ctl6 p = 6 + p % 4 * 8) (by decide +kernel) h0 h1
theorem oB_get {l p n : Int} (hl : 0 ≤ l ∧ l < 65536) (hp : 0 ≤ p ∧ p < 256) (n0 : 0 ≤ n) (n1 : n < 4611686018427387904) : ∃ v', (oB l p n).get = some v' ∧ ∀ ρ, v'.den ρ = some (.bool true) := by
  obtain ⟨eP, P0, P1⟩ := PP_eq (p := p) hl.1 hl.2
  have hd := size_cases p
  have hs := okv_started (p := p) hl.1 hl.2 true
  have hcC : K.okC (CO l p n) = true := okC_adv (okv_iff.1 hs).1
  have hcV : K.valid (CO l p n) = true := (okv_iff.1 (okv_adv hs)).2
  have eC : CO l p n = K.mixed (K.count (K.started l p true) n) (K.it K.one n.toNat (K.started l p true)) := adv_mixed hs n0
  rw [once_count hl.1 n0] at eC
  have r0 : 0 ≤ n % K.size p := Int.emod_nonneg _ (by omega)
  have r1 : n % K.size p < K.size p := Int.emod_lt_of_pos _ (by omega)
  unfold oB
  rw [okI_t (okv_iff.1 hs).1 (by omega) (by omega), eP, show (K.size p != 0) = true by simp; omega, hcC]
  by_cases hlt : n < (l + 1) * K.size p
  · rw [if_pos hlt] at eC
    have q0 : 0 ≤ n / K.size p := Int.ediv_nonneg n0 (by omega)
    have q1 : n / K.size p < l + 1 := Int.ediv_lt_of_lt_mul (by omega) hlt
    have c2 : (CO l p n).co = l - n / K.size p := by rw [eC]; rfl
    have c3 : (CO l p n).pr = n % K.size p := by rw [eC]; rfl
    have c5 : (CO l p n).ct = 7 + p % 4 * 8 := by rw [eC]; show 3 + p % 4 * 8 + 4 = _; omega
    have c6 : (CO l p n).fl = false := by rw [eC]; rfl
    have c7 : (CO l p n).ov = false := by rw [eC]; rfl
    rw [decide_eq_true hlt, c2, c3, c5, c6, c7, ctl7_eq hp.1 hp.2, Int.tdiv_eq_ediv_of_nonneg n0, Int.tmod_eq_emod_of_nonneg n0, wi64 (x := l - n / K.size p) (by omega) (by omega), wi64 (x := l) (by omega) (by omega), wi64 (x := n / K.size p) (by omega) (by omega), wi64 (x := l - n / K.size p) (by omega) (by omega), wi64 (x := n % K.size p) (by omega) (by omega)]
    simp only [beq_self_eq_true, cond_true]
    exact ⟨_, rfl, fun _ => rfl⟩
  · rw [if_neg hlt] at eC
    have c2 : (CO l p n).co = l := by rw [eC]; rfl
    have c3 : (CO l p n).pr = 0 := by rw [eC]; rfl
    have c5 : (CO l p n).ct = 6 + p % 4 * 8 := by rw [eC]; rfl
    have c6 : (CO l p n).fl = true := by rw [eC]; rfl
    have c7 : (CO l p n).ov = false := by rw [eC]; rfl
    have ei : K.irq (CO l p n) = true := by
      unfold K.irq
      rw [hcV, c6, c5, decide_eq_true (show (6 + p % 4 * 8) / 2 % 2 = 1 by omega)]
      simp
    rw [decide_eq_false hlt, c2, c3, c5, c6, c7, ei, ctl6_eq hp.1 hp.2]
    simp only [beq_self_eq_true, cond_true]
    exact ⟨_, rfl, fun _ => rfl⟩
theorem law9 (l p k : Int) (hl : 0 ≤ l ∧ l < 65536) (hp : 0 ≤ p ∧ p < 256) (hk : -9223372036854775808 ≤ k ∧ k < 9223372036854775808) :
    ∃ v', (vals (evFn (Cb.with spG) 1 (fun _ => none) Tryd.f9 Cb.H0 3 [vint .u16 (.sym l), vint .u8 (.sym p), vint .i64 (.sym k)])).get = some v' ∧ ∀ ρ, v'.den ρ = some (.bool true) := by
  obtain ⟨m0, m1⟩ := msk_in k
  obtain ⟨eP, P0, P1⟩ := PP_eq (p := p) hl.1 hl.2
  have e2 : IntKind.i64.wrap (2 * PP l p) = 2 * ((l + 1) * K.size p) := by rw [eP, wi64 (by omega) (by omega)]
  rw [ev9, e2, show isB p = true by unfold isB; rw [decide_eq_true hp], decide_eq_true (show (0 ≤ l ∧ l < 65536) ∧ 0 ≤ p ∧ p < 256 from ⟨hl, hp⟩), show (2 * ((l + 1) * K.size p) != 0) = true from bne_iff_ne.2 (by omega), Int.tmod_eq_emod_of_nonneg m0]
  have t0 : 0 ≤ msk k % (2 * ((l + 1) * K.size p)) := Int.emod_nonneg _ (by omega)
  have t1 : msk k % (2 * ((l + 1) * K.size p)) < 2 * ((l + 1) * K.size p) := Int.emod_lt_of_pos _ (by omega)
  cases hb : (bits .and .i64 (msk k) 1 == 1) with
  | true =>
    obtain ⟨v', h1, h2⟩ := oB_get (n := msk k % (2 * ((l + 1) * K.size p))) hl hp t0 (by omega)
    exact ⟨v', h1, h2⟩
  | false =>
    obtain ⟨v', h1, h2⟩ := oB_get (n := msk k) hl hp m0 m1
    exact ⟨v', h1, h2⟩
end Go.Proofs.YthndmfgmlbdekaaDoor.Ev
namespace Go.Proofs.YthndmfgmlbdekaaDoor.Pure
open Go Go.RowKit Go.Proofs.YthndmfgmlbdekaaDoor.Ev
set_option linter.unusedVariables false
theorem TimerOnce (a0 : Int) (a1 : Int) (a2 : Int) (w : World) (h0 : (Lit.int .u16 a0).wf = true) (h1 : (Lit.int .u8 a1).wf = true) (h2 : (Lit.int .i64 a2).wf = true) (G : Ev.GOk Ev.Cb w) :
    Calls Tryd.prog 9 #[.int .u16 a0, .int .u8 a1, .int .i64 a2] w fun e w' => e = .returned (.bool true) ∧ Below w.heap.size w w' := by
  obtain ⟨v, h, hv⟩ := Ev.law9 a0 a1 a2 (of_u16 h0) (of_u8 h1) (of_i64 h2)
  exact calls_of_ev (C := Cb.with spG) goodG.ok goodG.hs goodG.hb gsNodup Tryd.func9 keep_none G rfl h hv
end Go.Proofs.YthndmfgmlbdekaaDoor.Pure
