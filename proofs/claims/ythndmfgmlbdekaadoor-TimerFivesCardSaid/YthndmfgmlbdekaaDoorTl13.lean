/- The law's walk: rounds of 29830 cycles, beats, interrupt, behind a write in any cycle. -/
import Derived.Test.YthndmfgmlbdekaaDoorTm24
namespace Go.Proofs.YthndmfgmlbdekaaDoor.Ev
open Go Go.RowKit
set_option linter.unusedVariables false
set_option linter.unusedSimpArgs false
set_option linter.constructorNameAsVariable false
def KF (k : Int) : Int := bits .and .i64 k 4294967295
def c0F (a : Int) : Clk := K.write K.zero 16407 0 a
def wF (a : Int) : Int := IntKind.i64.wrap (3 + bits .and .i64 a 1)
def jF (d : Int) : Int := (msk d).tmod 29830
def nF (a b d : Int) : Int := IntKind.i64.wrap (IntKind.i64.wrap (wF a + IntKind.i64.wrap (KF b * 29830)) + jF d)
def CF (a b d : Int) : Clk := K.adv (c0F a) (nF a b d)
theorem ev13 (a b d : Int) : vals (evFn (Cb.with spG) 1 (fun _ => none) Tryd.f13 Cb.H0 3 [vint .i64 (.sym a), vint .i64 (.sym b), vint .i64 (.sym d)]) =
  .node true (.node (IntKind.i64.wrap (c0F a).wa != wF a) FF (.node (K.okC (c0F a)) (.node (K.next (c0F a) != IntKind.i64.wrap (wF a + 29828)) FF (.node (okI (c0F a) (IntKind.i64.wrap (wF a - 1))) (.node (K.okC (K.adv (c0F a) (IntKind.i64.wrap (wF a - 1)))) (.node (K.next (K.adv (c0F a) (IntKind.i64.wrap (wF a - 1))) != 29829) FF
    (.node (okI (c0F a) (nF a b d)) (.node (bif IntKind.i64.wrap (CF a b d).pl != jF d then true else bif (CF a b d).wa != 0 then true else IntKind.i64.wrap (CF a b d).be != (IntKind.i64.wrap (IntKind.i64.wrap (4 * KF b) + K.marks (jF d) 29829)).tmod 64) FF
    (.node (decide (KF b ≥ 1)) (.node ((CF a b d).fr == true) (.node (K.okC (CF a b d)) (.leaf (vbool (.sym (K.irq (CF a b d) == (CF a b d).fr)))) .bad) FF) (.node ((CF a b d).fr == decide (jF d ≥ 29828)) (.node (K.okC (CF a b d)) (.leaf (vbool (.sym (K.irq (CF a b d) == (CF a b d).fr)))) .bad) FF))) .bad)) .bad) .bad)) .bad)) .bad := by kernel_rfl
theorem marks_in (j l : Int) : 0 ≤ K.marks j l ∧ K.marks j l ≤ 4 := by
  unfold K.marks; split <;> split <;> split <;> split <;> omega
theorem law13 (a b d : Int) (ha : -9223372036854775808 ≤ a ∧ a < 9223372036854775808) (hb : -9223372036854775808 ≤ b ∧ b < 9223372036854775808) (hd : -9223372036854775808 ≤ d ∧ d < 9223372036854775808) :
    ∃ v', (vals (evFn (Cb.with spG) 1 (fun _ => none) Tryd.f13 Cb.H0 3 [vint .i64 (.sym a), vint .i64 (.sym b), vint .i64 (.sym d)])).get = some v' ∧ ∀ ρ, v'.den ρ = some (.bool true) := by
  obtain ⟨m0, m1⟩ := msk_in d
  have eK : KF b = b % 4294967296 := b32_eq b
  have K0 : 0 ≤ KF b := by rw [eK]; exact Int.emod_nonneg _ (by decide)
  have K1 : KF b < 4294967296 := by rw [eK]; exact Int.emod_lt_of_pos _ (by decide)
  have eJ : jF d = msk d % 29830 := by unfold jF; rw [Int.tmod_eq_emod_of_nonneg m0]
  have J0 : 0 ≤ jF d := by rw [eJ]; exact Int.emod_nonneg _ (by decide)
  have J1 : jF d < 29830 := by rw [eJ]; exact Int.emod_lt_of_pos _ (by decide)
  have M := marks_in (jF d) 29829
  have hw : wF a = 3 + a % 2 := by unfold wF; rw [bone64, wi64 (by omega) (by omega)]
  have hw2 : wF a = 3 ∨ wF a = 4 := by omega
  have ec : c0F a = { K.zero with fi := false, wa := wF a } := by
    rw [hw]; unfold c0F K.write
    rw [if_neg (by decide), if_pos rfl]
    show Clk.mk 0 0 0 0 0 false false (decide ((0 : Int) ≥ 128)) (decide ((0 : Int) / 64 % 2 = 1)) (false && !decide ((0 : Int) / 64 % 2 = 1)) 0 (if a % 2 = 1 then 4 else 3) 0 = Clk.mk 0 0 0 0 0 false false false false false 0 (3 + a % 2) 0
    rw [show (if a % 2 = 1 then (4 : Int) else 3) = 3 + a % 2 by split <;> omega]
    rfl
  have en : nF a b d = wF a + (KF b * K.rnd false + jF d) := by
    show IntKind.i64.wrap (IntKind.i64.wrap (wF a + IntKind.i64.wrap (KF b * 29830)) + jF d) = wF a + (KF b * 29830 + jF d)
    rw [wi64 (x := KF b * 29830) (by omega) (by omega), wi64 (x := wF a + KF b * 29830) (by omega) (by omega), wi64 (by omega) (by omega)]
    omega
  have n1 : nF a b d < 9223372036854775808 := by rw [en]; show wF a + (KF b * 29830 + jF d) < _; omega
  have n0 : 0 ≤ nF a b d := by rw [en]; show 0 ≤ wF a + (KF b * 29830 + jF d); omega
  have eC : CF a b d = { K.seq0 false 0 with fr := !false && decide (KF b ≥ 1 ∨ jF d ≥ 29828), pl := jF d, be := ((bif false then 1 else 0) + 4 * KF b + K.marks (jF d) (K.lastB false)) % 64 } := by
    unfold CF
    rw [ec, en]
    exact begun hw2 K0 J0 J1
  have hok : K.okv (c0F a) = true := by rw [ec]; rcases hw2 with e | e <;> rw [e] <;> decide
  have hcC : K.okC (CF a b d) = true := okC_adv (okv_iff.1 hok).1
  have hcV : K.valid (CF a b d) = true := (okv_iff.1 (okv_adv hok)).2
  have cp : (CF a b d).pl = jF d := by rw [eC]
  have cw : (CF a b d).wa = 0 := by rw [eC]; rfl
  have cb : (CF a b d).be = (4 * KF b + K.marks (jF d) 29829) % 64 := by
    rw [eC]; show (0 + 4 * KF b + K.marks (jF d) 29829) % 64 = _; rw [Int.zero_add]
  have cf : (CF a b d).fr = decide (KF b ≥ 1 ∨ jF d ≥ 29828) := by rw [eC]; rfl
  have ei : K.irq (CF a b d) = (CF a b d).fr := by
    unfold K.irq
    rw [hcV, show (CF a b d).fl = false by rw [eC]; rfl]
    simp
  have x1 : K.next (c0F a) = wF a + 29828 := by rw [ec]; rcases hw2 with e | e <;> rw [e] <;> decide +kernel
  have x2 : K.next (K.adv (c0F a) (wF a - 1)) = 29829 := by rw [ec]; rcases hw2 with e | e <;> rw [e] <;> decide +kernel
  have x3 : (c0F a).wa = wF a := by rw [ec]
  have r0 : 0 ≤ (4 * KF b + K.marks (jF d) 29829) % 64 := Int.emod_nonneg _ (by decide)
  have r1 : (4 * KF b + K.marks (jF d) 29829) % 64 < 64 := Int.emod_lt_of_pos _ (by decide)
  rw [ev13, x3, x1, wi64 (x := wF a) (by omega) (by omega), wi64 (x := wF a + 29828) (by omega) (by omega), wi64 (x := wF a - 1) (by omega) (by omega), x2, cp, cw, cb, (okv_iff.1 hok).1, okC_adv (okv_iff.1 hok).1, okI_t (okv_iff.1 hok).1 (by omega) (by omega), okI_t (okv_iff.1 hok).1 (by omega) (by omega), hcC,
    wi64 (x := jF d) (by omega) (by omega), wi64 (x := (4 * KF b + K.marks (jF d) 29829) % 64) (by omega) (by omega), wi64 (x := 4 * KF b) (by omega) (by omega), wi64 (x := 4 * KF b + K.marks (jF d) 29829) (by omega) (by omega), Int.tmod_eq_emod_of_nonneg (by omega), ei, cf]
  simp only [bne_self_eq_false, beq_self_eq_true, cond_false]
  by_cases hk : KF b ≥ 1
  · rw [decide_eq_true hk, decide_eq_true (show KF b ≥ 1 ∨ jF d ≥ 29828 from .inl hk)]
    exact ⟨_, rfl, fun _ => rfl⟩
  · rw [decide_eq_false hk, show decide (KF b ≥ 1 ∨ jF d ≥ 29828) = decide (jF d ≥ 29828) by rw [decide_eq_decide]; omega]
    simp only [beq_self_eq_true]
    exact ⟨_, rfl, fun _ => rfl⟩
end Go.Proofs.YthndmfgmlbdekaaDoor.Ev
namespace Go.Proofs.YthndmfgmlbdekaaDoor.Pure
open Go Go.RowKit Go.Proofs.YthndmfgmlbdekaaDoor.Ev
set_option linter.unusedVariables false
theorem TimerFrames (a0 : Int) (a1 : Int) (a2 : Int) (w : World) (h0 : (Lit.int .i64 a0).wf = true) (h1 : (Lit.int .i64 a1).wf = true) (h2 : (Lit.int .i64 a2).wf = true) (G : Ev.GOk Ev.Cb w) :
    Calls Tryd.prog 13 #[.int .i64 a0, .int .i64 a1, .int .i64 a2] w fun e w' => e = .returned (.bool true) ∧ Below w.heap.size w w' := by
  obtain ⟨v, h, hv⟩ := Ev.law13 a0 a1 a2 (of_i64 h0) (of_i64 h1) (of_i64 h2)
  exact calls_of_ev (C := Cb.with spG) goodG.ok goodG.hs goodG.hb gsNodup Tryd.func13 keep_none G rfl h hv
end Go.Proofs.YthndmfgmlbdekaaDoor.Pure
