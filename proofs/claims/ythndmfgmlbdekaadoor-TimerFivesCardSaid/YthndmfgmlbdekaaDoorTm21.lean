/- The document's Next. -/
import Derived.Test.YthndmfgmlbdekaaDoorTm20
namespace Go.Proofs.YthndmfgmlbdekaaDoor.Ev
open Go Go.RowKit
set_option linter.unusedVariables false
set_option linter.unusedSimpArgs false
set_option linter.constructorNameAsVariable false
def rNo (c : Clk) : Int := IntKind.i64.wrap (IntKind.i64.wrap (IntKind.i64.wrap (IntKind.i64.wrap c.co * K.dvn c.ct) + K.dvn c.ct) - IntKind.i64.wrap c.pr)
def rB (c : Clk) : Int := bif c.fi then rNo c else rNo c
theorem ev33 (c : Clk) : vals (evFn (Cb.with spE) 1 (fun _ => none) Tryd.f33 Cb.H0 3 [clkV c]) =
  .node (K.okC c) (.node (!K.valid c) (.leaf (vint .i64 (.lit 4611686018427387904))) (.node (K.okC c) (.node (K.irq c) (.leaf (vint .i64 (.lit 0)))
    (.node (Int.tmod c.ct 4 == 3) (.node (isB c.ct) (.node (isB c.ct) (.node (bif c.fi then true else c.inh) (.leaf (vint .i64 (.sym (rB c)))) (.node (okA c) (.node (decide (K.nf c < rB c)) (.leaf (vint .i64 (.sym (K.nf c)))) (.leaf (vint .i64 (.sym (rB c))))) .bad)) .bad) .bad)
      (.node (bif c.fi then true else c.inh) (.leaf (vint .i64 (.lit 4611686018427387904))) (.node (okA c) (.node (decide (K.nf c < 4611686018427387904)) (.leaf (vint .i64 (.sym (K.nf c)))) (.leaf (vint .i64 (.lit 4611686018427387904)))) .bad)))) .bad)) .bad := by kernel_rfl
theorem no_le {c : Clk} (h : K.okC c = true) : K.no c ≤ K.never := by
  have h := okC_iff.1 h
  have hd := dvn_cases c.ct
  have hb : 0 ≤ (c.co + 1) * K.dvn c.ct ∧ (c.co + 1) * K.dvn c.ct ≤ 65536 * 256 := by
    rcases hd with e | e | e | e <;> rw [e] <;> omega
  unfold K.no K.never
  split <;> omega
theorem ok33 : FnOk (Cb.with spE) 33 (onT (t1 K.okC fun c => vint .i64 (.sym (K.next c)))) := FnOk.t1 goodE gsNodup Tryd.func33 (fun _ _ _ => rfl) 1 keep_none fun c hc => by
  have h := okC_iff.1 hc
  have hd := dvn_cases c.ct
  have hb : 0 ≤ (c.co + 1) * K.dvn c.ct ∧ (c.co + 1) * K.dvn c.ct ≤ 65536 * 256 := by
    rcases hd with e | e | e | e <;> rw [e] <;> omega
  have hb2 : 0 ≤ c.co * K.dvn c.ct ∧ c.co * K.dvn c.ct ≤ 65536 * 256 ∧ (c.co + 1) * K.dvn c.ct = c.co * K.dvn c.ct + K.dvn c.ct := by
    rcases hd with e | e | e | e <;> rw [e] <;> omega
  have hl := no_le hc
  show ∃ v', (vals (evFn (Cb.with spE) 1 (fun _ => none) Tryd.f33 Cb.H0 3 [clkV c])).get = some v' ∧ _
  rw [ev33, hc]
  unfold K.next
  cases hv : K.valid c with
  | false => exact ⟨_, rfl, fun _ => rfl⟩
  | true =>
    cases hi : K.irq c with
    | true => exact ⟨_, rfl, fun _ => rfl⟩
    | false =>
      have hfr : c.fr = false := by
        unfold K.irq at hi
        rw [hv] at hi
        cases hf : c.fr with
        | false => rfl
        | true => rw [hf] at hi; cases hi
      have hB : isB c.ct = true := by unfold isB; rw [decide_eq_true (by omega)]
      have e1 : rB c = (c.co + 1) * K.dvn c.ct - c.pr := by
        have : rB c = rNo c := by unfold rB; cases c.fi <;> rfl
        rw [this]
        unfold rNo
        rw [wi64 (x := c.co) (by omega) (by omega), wi64 (x := c.pr) (by omega) (by omega), wi64 (x := c.co * K.dvn c.ct) (by omega) (by omega), wi64 (x := c.co * K.dvn c.ct + K.dvn c.ct) (by omega) (by omega), wi64 (by omega) (by omega)]
        omega
      rw [hB, e1, Int.tmod_eq_emod_of_nonneg (by omega)]
      have hA : c.fi = false → c.inh = false → okA c = true := fun h1 h2 => by unfold okA; rw [okv_iff.2 ⟨hc, hv⟩, h1, h2, hfr]; rfl
      by_cases hct : c.ct % 4 = 3
      · have hno : K.no c = (c.co + 1) * K.dvn c.ct - c.pr := by unfold K.no; rw [if_pos (by omega)]
        rw [show (c.ct % 4 == 3) = true by simp [hct], ← hno]
        by_cases hm : c.fi = true ∨ c.inh = true
        · have hn : K.nf c = K.never := by unfold K.nf; rcases hm with e | e <;> rw [e] <;> simp
          rw [show (bif c.fi then true else c.inh) = true by rcases hm with e | e <;> rw [e] <;> simp]
          refine ⟨_, rfl, fun _ => ?_⟩
          simp only [Bool.true_eq_false, if_false, cond_false]
          rw [hn, if_neg (by omega)]
        · have hfi : c.fi = false := by cases hx : c.fi <;> simp_all
          have hin : c.inh = false := by cases hx : c.inh <;> simp_all
          rw [hA hfi hin, hfi, hin]
          by_cases hlt : K.nf c < K.no c
          · rw [decide_eq_true hlt]
            refine ⟨_, rfl, fun _ => ?_⟩
            simp only [Bool.true_eq_false, if_false, cond_false]
            rw [if_pos hlt]
          · rw [decide_eq_false hlt]
            refine ⟨_, rfl, fun _ => ?_⟩
            simp only [Bool.true_eq_false, if_false, cond_false]
            rw [if_neg hlt]
      · have hno : K.no c = 4611686018427387904 := by unfold K.no; rw [if_neg (by omega)]; rfl
        rw [show (c.ct % 4 == 3) = false by simp [hct], ← hno]
        by_cases hm : c.fi = true ∨ c.inh = true
        · have hn : K.nf c = K.never := by unfold K.nf; rcases hm with e | e <;> rw [e] <;> simp
          rw [show (bif c.fi then true else c.inh) = true by rcases hm with e | e <;> rw [e] <;> simp]
          refine ⟨_, rfl, fun _ => ?_⟩
          simp only [Bool.true_eq_false, if_false, cond_false]
          rw [hn, if_neg (by omega), hno]; rfl
        · have hfi : c.fi = false := by cases hx : c.fi <;> simp_all
          have hin : c.inh = false := by cases hx : c.inh <;> simp_all
          rw [hA hfi hin, hfi, hin]
          by_cases hlt : K.nf c < K.no c
          · rw [decide_eq_true hlt]
            refine ⟨_, rfl, fun _ => ?_⟩
            simp only [Bool.true_eq_false, if_false, cond_false]
            rw [if_pos hlt]
          · rw [decide_eq_false hlt]
            refine ⟨_, rfl, fun _ => ?_⟩
            simp only [Bool.true_eq_false, if_false, cond_false]
            rw [if_neg hlt, hno]; rfl
noncomputable def spF : List (Nat × Spec) := (33, onT (t1 K.okC fun c => vint .i64 (.sym (K.next c)))) :: (22, onT (t2 .i64 okR fun c n => clkV (K.adv c n))) :: spE
theorem goodF : Good (Cb.with spF) := (goodE.cons Tryd.func22 (by kernel_rfl) (by kernel_rfl) ok22).cons Tryd.func33 (by kernel_rfl) (by kernel_rfl) ok33
end Go.Proofs.YthndmfgmlbdekaaDoor.Ev
