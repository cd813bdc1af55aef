/- The document's Tick and Irq, and its Advance. -/
import Derived.Test.YthndmfgmlbdekaaDoorTm10
namespace Go.Proofs.YthndmfgmlbdekaaDoor.Ev
open Go Go.RowKit
set_option linter.unusedVariables false
set_option linter.unusedSimpArgs false
set_option linter.constructorNameAsVariable false
def rW1 (e : Clk) : Clk := { e with wa := IntKind.u8.wrap (e.wa - 1) }
def rW2 (e : Clk) : Clk := { rW1 e with pl := 0 }
def rTick0 (e : Clk) : Clk := mix (decide (e.wa > 0)) (mix (IntKind.u8.wrap (e.wa - 1) == 0) (mix e.fi (rBeatC (rW2 e)) (rW2 e)) (rW1 e)) e
def rTick (e : Clk) : Clk := { rTick0 e with pl := bif decide (e.wa > 0) then bif IntKind.u8.wrap (e.wa - 1) == 0 then 0 else e.pl else e.pl }
def rUp (d : Clk) : Clk := { d with pl := IntKind.u16.wrap (d.pl + 1) }
theorem ev31 (c : Clk) : vals (evFn (Cb.with sp7) 1 (fun _ => none) Tryd.f31 Cb.H0 3 [clkV c]) = .node (K.okC c) (.node (!K.valid c) (.leaf (clkV c)) (.node (K.okv c) (.node (K.count c 1).fi
    (.node (K.okC (rUp (K.count c 1))) (.leaf (clkV (rTick (K.five (rUp (K.count c 1)))))) .bad) (.node (K.okC (rUp (K.count c 1))) (.leaf (clkV (rTick (K.four (rUp (K.count c 1)))))) .bad)) .bad)) .bad := by kernel_rfl
theorem rTick_eq {e : Clk} (h0 : 0 ≤ e.wa) (h1 : e.wa ≤ 4) (b0 : 0 ≤ e.be) (b1 : e.be ≤ 63) : rTick e = { e with
    pl := if e.wa = 1 then 0 else e.pl
    wa := if e.wa = 0 then 0 else e.wa - 1
    be := if e.wa = 1 ∧ e.fi = true then (e.be + 1) % 64 else e.be } := by
  obtain ⟨la, co, pr, ho, ct, fl, ov, fi, inh, fr, pl, wa, be⟩ := e
  simp only at h0 h1 b0 b1
  unfold rTick rTick0
  simp only [mix_eq, rW1, rW2, rBeatC, rBeat_eq b0 b1, beq_true_iff, bif_ite, decide_eq_true_eq]
  by_cases w0 : wa = 0
  · subst w0; rfl
  · rw [if_pos (by omega : wa > 0), if_pos (by omega : wa > 0), wu8 (by omega) (by omega), if_neg w0]
    by_cases w1 : wa = 1
    · subst w1; cases fi <;> rfl
    · rw [if_neg (by omega : ¬ wa - 1 = 0), if_neg (by omega : ¬ wa - 1 = 0), if_neg w1, if_neg (by simp [w1])]
theorem count_same (c : Clk) (n : Int) : (K.count c n).fi = c.fi ∧ (K.count c n).inh = c.inh ∧ (K.count c n).fr = c.fr ∧ (K.count c n).pl = c.pl ∧ (K.count c n).wa = c.wa ∧ (K.count c n).be = c.be := by
  unfold K.count; repeat (first | exact ⟨rfl, rfl, rfl, rfl, rfl, rfl⟩ | split)
theorem tick_one {d : Clk} (h : K.okv d = true) : K.okC (rUp d) = true ∧ (d.fi = true → rTick (K.five (rUp d)) = K.one d) ∧ (d.fi = false → rTick (K.four (rUp d)) = K.one d) := by
  obtain ⟨h1, h2⟩ := okv_iff.1 h
  have h1' := okC_iff.1 h1
  obtain ⟨h2, h3, h4⟩ := valid_iff.1 h2
  have eu : rUp d = { d with pl := d.pl + 1 } := by unfold rUp; rw [wu16 (by omega) (by omega)]
  have hb : ∀ fi, 0 ≤ K.beatAt fi (d.pl + 1) d.be ∧ K.beatAt fi (d.pl + 1) d.be ≤ 63 := fun fi => beatAt_range (by omega) (by omega)
  rw [eu]
  refine ⟨okC_iff.2 ⟨h1'.1, h1'.2.1, h1'.2.2.1, h1'.2.2.2.1, h1'.2.2.2.2.1, by show 0 ≤ d.pl + 1 ∧ d.pl + 1 < 65536; omega, h1'.2.2.2.2.2.2⟩, fun hf => ?_, fun hf => ?_⟩
  · obtain ⟨la, co, pr, ho, ct, fl, ov, fi, inh, fr, pl, wa, be⟩ := d
    simp only at hf
    subst hf
    have hb := hb true
    rw [rTick_eq (e := K.five ⟨la, co, pr, ho, ct, fl, ov, true, inh, fr, pl + 1, wa, be⟩) (by show 0 ≤ wa; exact h1'.2.2.2.2.2.2.1.1) (by show wa ≤ 4; exact h2.2.2.2.1) hb.1 hb.2]
    have ef : K.frAt ⟨la, co, pr, ho, ct, fl, ov, true, inh, fr, pl, wa, be⟩ (pl + 1) = fr := by unfold K.frAt; cases fr <;> rfl
    show _ = Clk.mk la co pr ho ct fl ov true inh (K.frAt ⟨la, co, pr, ho, ct, fl, ov, true, inh, fr, pl, wa, be⟩ (pl + 1)) _ _ _
    rw [ef]; rfl
  · obtain ⟨la, co, pr, ho, ct, fl, ov, fi, inh, fr, pl, wa, be⟩ := d
    simp only at hf
    subst hf
    have hb := hb false
    rw [rTick_eq (e := K.four ⟨la, co, pr, ho, ct, fl, ov, false, inh, fr, pl + 1, wa, be⟩) (by show 0 ≤ wa; exact h1'.2.2.2.2.2.2.1.1) (by show wa ≤ 4; exact h2.2.2.2.1) hb.1 hb.2]
    rfl
theorem ok31 : FnOk (Cb.with sp7) 31 (onT (t1 K.okC fun c => clkV (K.adv c 1))) := FnOk.t1 good7 gsNodup Tryd.func31 (fun _ _ _ => rfl) 1 keep_none fun c hc => by
  refine ⟨clkV (K.adv c 1), ?_, fun _ => rfl⟩
  show (vals (evFn (Cb.with sp7) 1 (fun _ => none) Tryd.f31 Cb.H0 3 [clkV c])).get = _
  rw [ev31, hc]
  cases hv : K.valid c with
  | false => unfold K.adv; rw [if_pos (.inr hv)]; rfl
  | true =>
    have hok := okv_iff.2 ⟨hc, hv⟩
    obtain ⟨e1, e2, e3⟩ := tick_one (okv_count (n := 1) hok (by omega))
    have ea : K.adv c 1 = K.one (K.count c 1) := by unfold K.adv; rw [if_neg (by rw [hv]; simp)]; rfl
    rw [hok, e1, ea]
    cases hf : (K.count c 1).fi with
    | true => rw [← e2 hf]; rfl
    | false => rw [← e3 hf]; rfl
def rIrqR (c : Clk) : Bool := bif c.fr then true else bif c.fl then (IntKind.u8.wrap (c.ct.tdiv 2)).tmod 2 == 1 else false
theorem ev30 (c : Clk) : vals (evFn (Cb.with sp7) 1 (fun _ => none) Tryd.f30 Cb.H0 3 [clkV c]) = .node (K.okC c) (.node (!K.valid c) (.leaf (vbool (.lit false))) (.leaf (vbool (.sym (rIrqR c))))) .bad := by kernel_rfl
theorem ok30 : FnOk (Cb.with sp7) 30 (onT (t1 K.okC fun c => vbool (.sym (K.irq c)))) := FnOk.t1 good7 gsNodup Tryd.func30 (fun _ _ _ => rfl) 1 keep_none fun c hc => by
  have h := okC_iff.1 hc
  show ∃ v', (vals (evFn (Cb.with sp7) 1 (fun _ => none) Tryd.f30 Cb.H0 3 [clkV c])).get = some v' ∧ _
  rw [ev30, hc]
  have e : rIrqR c = (c.fr || (c.fl && decide (c.ct / 2 % 2 = 1))) := by
    unfold rIrqR
    rw [Int.tdiv_eq_ediv_of_nonneg (by omega), wu8 (by omega) (by omega), Int.tmod_eq_emod_of_nonneg (by omega), beq_true_iff]
    cases c.fr <;> cases c.fl <;> rfl
  unfold K.irq
  cases hv : K.valid c with
  | false => exact ⟨_, rfl, fun _ => rfl⟩
  | true => refine ⟨_, rfl, fun _ => ?_⟩; rw [e]; rfl
noncomputable def sp8 : List (Nat × Spec) := (30, onT (t1 K.okC fun c => vbool (.sym (K.irq c)))) :: (31, onT (t1 K.okC fun c => clkV (K.adv c 1))) :: sp7
theorem good8 : Good (Cb.with sp8) := (good7.cons Tryd.func31 (by kernel_rfl) (by kernel_rfl) ok31).cons Tryd.func30 (by kernel_rfl) (by kernel_rfl) ok30
end Go.Proofs.YthndmfgmlbdekaaDoor.Ev
