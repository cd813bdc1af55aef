/- The law's walk: the timer runs out every (L + 1)d cycles and counts evenly between. -/
import Derived.Test.YthndmfgmlbdekaaDoorTm23
namespace Go.Proofs.YthndmfgmlbdekaaDoor.Ev
open Go Go.RowKit
set_option linter.unusedVariables false
set_option linter.unusedSimpArgs false
set_option linter.constructorNameAsVariable false
theorem size_cases (p : Int) : K.size p = 1 ∨ K.size p = 8 ∨ K.size p = 64 ∨ K.size p = 256 := by unfold K.size; split <;> (try split) <;> (try split) <;> simp
theorem dvn_started {p : Int} (x : Int) (hx : x = 3 ∨ x = 7) : K.dvn (x + p % 4 * 8) = K.size p := by
  unfold K.dvn K.size
  rw [show (x + p % 4 * 8) / 8 % 4 = p % 4 by omega]
theorem okv_started {l p : Int} (l0 : 0 ≤ l) (l1 : l < 65536) (o : Bool) : K.okv (K.started l p o) = true := by
  have hb : (bif o then (4 : Int) else 0) = 0 ∨ (bif o then (4 : Int) else 0) = 4 := by cases o <;> simp
  refine okv_iff.2 ⟨okC_iff.2 ?_, valid_iff.2 ⟨?_, fun h => (by cases h), fun _ => rfl⟩⟩
  · show (0 ≤ l ∧ l < 65536) ∧ (0 ≤ l ∧ l < 65536) ∧ ((0 : Int) ≤ 0 ∧ (0 : Int) < 65536) ∧ ((0 : Int) ≤ 0 ∧ (0 : Int) < 256) ∧ (0 ≤ 3 + p % 4 * 8 + (bif o then (4 : Int) else 0) ∧ 3 + p % 4 * 8 + (bif o then (4 : Int) else 0) < 256) ∧ ((0 : Int) ≤ 0 ∧ (0 : Int) < 65536) ∧ ((0 : Int) ≤ 0 ∧ (0 : Int) < 256) ∧ ((0 : Int) ≤ 0 ∧ (0 : Int) < 256)
    omega
  · have hd := dvn_cases (3 + p % 4 * 8 + (bif o then (4 : Int) else 0))
    show 3 + p % 4 * 8 + (bif o then (4 : Int) else 0) < 32 ∧ (0 : Int) < K.dvn (3 + p % 4 * 8 + (bif o then (4 : Int) else 0)) ∧ (0 : Int) ≤ 37281 ∧ (0 : Int) ≤ 4 ∧ (0 : Int) ≤ 63
    omega
theorem per_count {l p k j : Int} (l0 : 0 ≤ l) (k0 : 0 ≤ k) (j0 : 0 ≤ j) (j1 : j < (l + 1) * K.size p) :
    K.count (K.started l p false) (k * ((l + 1) * K.size p) + j) = { K.started l p false with co := l - j / K.size p, pr := j % K.size p, fl := decide (k ≥ 1), ov := decide (k ≥ 2) } := by
  have hd := size_cases p
  have hd0 : 0 < K.size p := by omega
  have ed : K.dvn (K.started l p false).ct = K.size p := by
    show K.dvn (3 + p % 4 * 8 + 0) = _
    rw [Int.add_zero]; exact dvn_started 3 (.inl rfl)
  have ha : 0 + (k * ((l + 1) * K.size p) + j) = j + K.size p * (k * (l + 1)) := by
    rw [Int.mul_comm (K.size p), Int.mul_assoc]; omega
  have e1 : (0 + (k * ((l + 1) * K.size p) + j)) / K.size p = j / K.size p + k * (l + 1) := by rw [ha, Int.add_mul_ediv_left _ _ (by omega)]
  have e2 : (0 + (k * ((l + 1) * K.size p) + j)) % K.size p = j % K.size p := by rw [ha, Int.add_mul_emod_self_left]
  have q0 : 0 ≤ j / K.size p := Int.ediv_nonneg j0 (by omega)
  have q1 : j / K.size p < l + 1 := Int.ediv_lt_of_lt_mul hd0 j1
  unfold K.count
  rw [if_neg (show ¬ (K.started l p false).ct % 2 = 0 by show ¬ (3 + p % 4 * 8 + 0) % 2 = 0; omega), ed]
  show (if (0 + (k * ((l + 1) * K.size p) + j)) / K.size p ≤ l then _ else _) = _
  by_cases hk : k = 0
  · subst hk
    rw [if_pos (by rw [e1, Int.zero_mul]; omega)]
    show Clk.mk l (l - (0 + (0 * ((l + 1) * K.size p) + j)) / K.size p) ((0 + (0 * ((l + 1) * K.size p) + j)) % K.size p) _ _ false false _ _ _ _ _ _ = _
    rw [e1, e2, Int.zero_mul, Int.add_zero]
    rfl
  · have m0 : 0 ≤ (k - 1) * (l + 1) := Int.mul_nonneg (by omega) (by omega)
    have m1 : k * (l + 1) = (k - 1) * (l + 1) + (l + 1) := by rw [Int.sub_mul]; omega
    rw [if_neg (by rw [e1]; omega), if_neg (show ¬ (K.started l p false).ct / 4 % 2 = 1 by show ¬ (3 + p % 4 * 8 + 0) / 4 % 2 = 1; omega)]
    show Clk.mk l (l - ((0 + (k * ((l + 1) * K.size p) + j)) / K.size p - (l + 1)) % (l + 1)) ((0 + (k * ((l + 1) * K.size p) + j)) % K.size p) _ _ true ((false || false) || decide ((0 + (k * ((l + 1) * K.size p) + j)) / K.size p - (l + 1) ≥ l + 1)) _ _ _ _ _ _ = _
    have e3 : j / K.size p + k * (l + 1) - (l + 1) = j / K.size p + (l + 1) * (k - 1) := by rw [Int.mul_comm (l + 1)]; omega
    have e4 : (j / K.size p + (l + 1) * (k - 1)) % (l + 1) = j / K.size p := by rw [Int.add_mul_emod_self_left, Int.emod_eq_of_lt q0 q1]
    have e5 : decide (j / K.size p + (l + 1) * (k - 1) ≥ l + 1) = decide (k ≥ 2) := by
      rw [decide_eq_decide, Int.mul_comm (l + 1)]
      by_cases h2 : k ≥ 2
      · have m2 : 0 ≤ (k - 2) * (l + 1) := Int.mul_nonneg (by omega) (by omega)
        have m3 : (k - 1) * (l + 1) = (k - 2) * (l + 1) + (l + 1) := by rw [Int.sub_mul, Int.sub_mul]; omega
        omega
      · have : k = 1 := by omega
        subst this
        simp; omega
    rw [e1, e2, e3, e4, e5, decide_eq_true (show k ≥ 1 by omega)]
    rfl
def PP (l p : Int) : Int := IntKind.i64.wrap (IntKind.i64.wrap (IntKind.i64.wrap l + 1) * K.size p)
def KK (k : Int) : Int := bits .and .i64 k 4294967295
def JJ (l p j : Int) : Int := (msk j).tmod (PP l p)
def NN (l p k j : Int) : Int := IntKind.i64.wrap (IntKind.i64.wrap (KK k * PP l p) + JJ l p j)
def CC (l p k j : Int) : Clk := K.adv (K.started l p false) (NN l p k j)
def ctlQ (p : Int) : Int := bits .or .u8 3 (IntKind.u8.wrap (p.tmod 4 * 8))
theorem ev8 (l p k j : Int) : vals (evFn (Cb.with spG) 1 (fun _ => none) Tryd.f8 Cb.H0 3 [vint .u16 (.sym l), vint .u8 (.sym p), vint .i64 (.sym k), vint .i64 (.sym j)]) =
  .node (isB p) (.node (PP l p != 0) (.node (decide ((0 ≤ l ∧ l < 65536) ∧ 0 ≤ p ∧ p < 256)) (.node (okI (K.started l p false) (NN l p k j)) (.node ((CC l p k j).la != l) FF (.node (K.size p != 0)
    (.node (IntKind.i64.wrap (CC l p k j).co != IntKind.i64.wrap (IntKind.i64.wrap l - IntKind.i64.wrap ((JJ l p j).tdiv (K.size p)))) FF (.node (K.size p != 0)
    (.node (bif IntKind.i64.wrap (CC l p k j).pr != (JJ l p j).tmod (K.size p) then true else (CC l p k j).ct != ctlQ p) FF
    (.node ((CC l p k j).fl == decide (KK k ≥ 1)) (.node ((CC l p k j).ov == decide (KK k ≥ 2)) (.node (K.okC (CC l p k j)) (.leaf (vbool (.sym (bif K.irq (CC l p k j) then true else !(CC l p k j).fl)))) .bad) FF) FF)) .bad)) .bad)) .bad) .bad) .bad) .bad := by kernel_rfl
theorem ctlQ_eq {p : Int} (h0 : 0 ≤ p) (h1 : p < 256) : ctlQ p = 3 + p % 4 * 8 := by256 (P := fun p => ctlQ p = 3 + p % 4 * 8) (by decide +kernel) h0 h1
theorem PP_eq {l p : Int} (l0 : 0 ≤ l) (l1 : l < 65536) : PP l p = (l + 1) * K.size p ∧ 1 ≤ (l + 1) * K.size p ∧ (l + 1) * K.size p ≤ 16777216 := by
  have hd := size_cases p
  have hb : 1 ≤ (l + 1) * K.size p ∧ (l + 1) * K.size p ≤ 16777216 := by rcases hd with e | e | e | e <;> rw [e] <;> omega
  unfold PP
  rw [wi64 (x := l) (by omega) (by omega), wi64 (x := l + 1) (by omega) (by omega), wi64 (by omega) (by omega)]
  exact ⟨rfl, hb⟩
theorem law8 (l p k j : Int) (hl : 0 ≤ l ∧ l < 65536) (hp : 0 ≤ p ∧ p < 256) (hk : -9223372036854775808 ≤ k ∧ k < 9223372036854775808) (hj : -9223372036854775808 ≤ j ∧ j < 9223372036854775808) :
    ∃ v', (vals (evFn (Cb.with spG) 1 (fun _ => none) Tryd.f8 Cb.H0 3 [vint .u16 (.sym l), vint .u8 (.sym p), vint .i64 (.sym k), vint .i64 (.sym j)])).get = some v' ∧ ∀ ρ, v'.den ρ = some (.bool true) := by
  obtain ⟨m0, m1⟩ := msk_in j
  obtain ⟨eP, P0, P1⟩ := PP_eq (p := p) hl.1 hl.2
  have hd := size_cases p
  have eK : KK k = k % 4294967296 := b32_eq k
  have K0 : 0 ≤ KK k := by rw [eK]; exact Int.emod_nonneg _ (by decide)
  have K1 : KK k < 4294967296 := by rw [eK]; exact Int.emod_lt_of_pos _ (by decide)
  have eJ : JJ l p j = msk j % ((l + 1) * K.size p) := by unfold JJ; rw [eP, Int.tmod_eq_emod_of_nonneg m0]
  have J0 : 0 ≤ JJ l p j := by rw [eJ]; exact Int.emod_nonneg _ (by omega)
  have J1 : JJ l p j < (l + 1) * K.size p := by rw [eJ]; exact Int.emod_lt_of_pos _ (by omega)
  have KP0 : 0 ≤ KK k * ((l + 1) * K.size p) := Int.mul_nonneg K0 (by omega)
  have KP1 : KK k * ((l + 1) * K.size p) ≤ 4294967296 * 16777216 := Int.mul_le_mul (by omega) P1 (by omega) (by omega)
  have eN : NN l p k j = KK k * ((l + 1) * K.size p) + JJ l p j := by
    unfold NN
    rw [eP, wi64 (x := KK k * _) (by omega) (by omega), wi64 (by omega) (by omega)]
  have hs := okv_started (p := p) hl.1 hl.2 false
  have hcC : K.okC (CC l p k j) = true := okC_adv (okv_iff.1 hs).1
  have hcV : K.valid (CC l p k j) = true := (okv_iff.1 (okv_adv hs)).2
  have eC : CC l p k j = K.mixed { K.started l p false with co := l - JJ l p j / K.size p, pr := JJ l p j % K.size p, fl := decide (KK k ≥ 1), ov := decide (KK k ≥ 2) } (K.it K.one (NN l p k j).toNat (K.started l p false)) := by
    unfold CC
    rw [adv_mixed hs (by omega), eN, per_count hl.1 K0 J0 J1]
  have c1 : (CC l p k j).la = l := by rw [eC]; rfl
  have c2 : (CC l p k j).co = l - JJ l p j / K.size p := by rw [eC]; rfl
  have c3 : (CC l p k j).pr = JJ l p j % K.size p := by rw [eC]; rfl
  have c5 : (CC l p k j).ct = 3 + p % 4 * 8 := by rw [eC]; show 3 + p % 4 * 8 + 0 = _; omega
  have c6 : (CC l p k j).fl = decide (KK k ≥ 1) := by rw [eC]; rfl
  have c7 : (CC l p k j).ov = decide (KK k ≥ 2) := by rw [eC]; rfl
  have q0 : 0 ≤ JJ l p j / K.size p := Int.ediv_nonneg J0 (by omega)
  have q1 : JJ l p j / K.size p < l + 1 := Int.ediv_lt_of_lt_mul (by omega) J1
  have r0 : 0 ≤ JJ l p j % K.size p := Int.emod_nonneg _ (by omega)
  have r1 : JJ l p j % K.size p < K.size p := Int.emod_lt_of_pos _ (by omega)
  have ei : (bif K.irq (CC l p k j) then true else !decide (KK k ≥ 1)) = true := by
    unfold K.irq
    rw [hcV, c6, c5, decide_eq_true (show (3 + p % 4 * 8) / 2 % 2 = 1 by omega)]
    cases decide (KK k ≥ 1) <;> cases (CC l p k j).fr <;> rfl
  rw [ev8, c1, c2, c3, c5, c6, c7, ei, hcC, ctlQ_eq hp.1 hp.2, okI_t (okv_iff.1 hs).1 (by omega) (by omega), show isB p = true by unfold isB; rw [decide_eq_true hp], decide_eq_true (show (0 ≤ l ∧ l < 65536) ∧ 0 ≤ p ∧ p < 256 from ⟨hl, hp⟩),
    Int.tdiv_eq_ediv_of_nonneg J0, Int.tmod_eq_emod_of_nonneg J0, wi64 (x := l - JJ l p j / K.size p) (by omega) (by omega), wi64 (x := l) (by omega) (by omega), wi64 (x := JJ l p j / K.size p) (by omega) (by omega), wi64 (x := l - JJ l p j / K.size p) (by omega) (by omega), wi64 (x := JJ l p j % K.size p) (by omega) (by omega),
    show (PP l p != 0) = true by simp; omega, show (K.size p != 0) = true by simp; omega]
  simp only [bne_self_eq_false, beq_self_eq_true, cond_false]
  exact ⟨_, rfl, fun _ => rfl⟩
end Go.Proofs.YthndmfgmlbdekaaDoor.Ev
namespace Go.Proofs.YthndmfgmlbdekaaDoor.Pure
open Go Go.RowKit Go.Proofs.YthndmfgmlbdekaaDoor.Ev
set_option linter.unusedVariables false
theorem TimerPeriods (a0 : Int) (a1 : Int) (a2 : Int) (a3 : Int) (w : World) (h0 : (Lit.int .u16 a0).wf = true) (h1 : (Lit.int .u8 a1).wf = true) (h2 : (Lit.int .i64 a2).wf = true) (h3 : (Lit.int .i64 a3).wf = true) (G : Ev.GOk Ev.Cb w) :
    Calls Tryd.prog 8 #[.int .u16 a0, .int .u8 a1, .int .i64 a2, .int .i64 a3] w fun e w' => e = .returned (.bool true) ∧ Below w.heap.size w w' := by
  obtain ⟨v, h, hv⟩ := Ev.law8 a0 a1 a2 a3 (of_u16 h0) (of_u8 h1) (of_i64 h2) (of_i64 h3)
  exact calls_of_ev (C := Cb.with spG) goodG.ok goodG.hs goodG.hb gsNodup Tryd.func8 keep_none G rfl h hv
end Go.Proofs.YthndmfgmlbdekaaDoor.Pure
