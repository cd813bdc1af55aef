/- The timer's functions on clocks that may be: one cycle of the sequencer, n cycles of the timer. -/
import Derived.Test.YthndmfgmlbdekaaDoorTm3
namespace Go.Proofs.YthndmfgmlbdekaaDoor.Ev
open Go Go.RowKit
set_option linter.unusedVariables false
set_option linter.unusedSimpArgs false
set_option linter.constructorNameAsVariable false
theorem okv_iff {c : Clk} : K.okv c = true ↔ K.okC c = true ∧ K.valid c = true := by unfold K.okv; rw [Bool.and_eq_true]
theorem rAt_eq {pl : Int} (h0 : 0 ≤ pl) (h1 : pl ≤ 37281) : rAt pl = pl + 1 := by
  unfold rAt
  rw [wu16 (by omega) (by omega), wu64 (by omega) (by omega)]
theorem rBeat_eq {b : Int} (h0 : 0 ≤ b) (h1 : b ≤ 63) : rBeat b = (b + 1) % 64 := by
  unfold rBeat
  rw [wu8 (by omega) (by omega), Int.tmod_eq_emod_of_nonneg (by omega)]
theorem beq_true_iff {a b : Int} : (a == b) = decide (a = b) := by rw [Bool.eq_iff_iff]; simp
theorem rBeats_eq {fi : Bool} {pl b : Int} (h0 : 0 ≤ pl) (h1 : pl ≤ 37281) (b0 : 0 ≤ b) (b1 : b ≤ 63) : rBeats fi pl b = K.beatAt fi (pl + 1) b := by
  unfold rBeats K.beatAt
  simp only [rAt_eq h0 h1, beq_true_iff, cond_ite, decide_eq_true_eq]
  have hl : K.lastB fi ≠ 7457 ∧ K.lastB fi ≠ 14913 ∧ K.lastB fi ≠ 22371 := by cases fi <;> decide
  have e := rBeat_eq b0 b1
  by_cases c1 : pl + 1 = 7457
  · rw [if_pos c1, if_neg (by omega), if_neg (by omega), if_neg (by omega), if_pos (.inl c1), e]
  rw [if_neg c1]
  by_cases c2 : pl + 1 = 14913
  · rw [if_pos c2, if_neg (by omega), if_neg (by omega), if_pos (.inr (.inl c2)), e]
  rw [if_neg c2]
  by_cases c3 : pl + 1 = 22371
  · rw [if_pos c3, if_neg (by omega), if_pos (.inr (.inr (.inl c3))), e]
  rw [if_neg c3]
  by_cases c4 : pl + 1 = K.lastB fi
  · rw [if_pos c4, if_pos (.inr (.inr (.inr c4))), e]
  · rw [if_neg c4, if_neg (by omega)]
theorem beatAt_range {fi : Bool} {at_ b : Int} (b0 : 0 ≤ b) (b1 : b ≤ 63) : 0 ≤ K.beatAt fi at_ b ∧ K.beatAt fi at_ b ≤ 63 := by
  unfold K.beatAt; split <;> omega
theorem rPl_eq {fi : Bool} {pl : Int} (h0 : 0 ≤ pl) (h1 : pl ≤ 37281) : rPl fi pl = K.wrapAt fi (pl + 1) := by
  unfold rPl K.wrapAt
  simp only [rAt_eq h0 h1, cond_ite, decide_eq_true_eq]
  rw [wu16 (by omega) (by omega)]
  by_cases h : pl + 1 < K.rnd fi
  · rw [if_neg (by omega), if_pos h]
  · rw [if_pos (by omega), if_neg h]
theorem rOne_eq {c : Clk} (h : K.okv c = true) : rOne c = K.one c := by
  obtain ⟨h1, h2⟩ := okv_iff.1 h
  have h1 := okC_iff.1 h1
  obtain ⟨h2, _⟩ := valid_iff.1 h2
  have e1 := rAt_eq (pl := c.pl) (by omega) (by omega)
  have e2 := rBeats_eq (fi := c.fi) (pl := c.pl) (b := c.be) (by omega) (by omega) (by omega) (by omega)
  have e3 := rPl_eq (fi := c.fi) (pl := c.pl) (by omega) (by omega)
  have e4 := beatAt_range (fi := c.fi) (at_ := c.pl + 1) (b := c.be) (by omega) (by omega)
  have e5 := rBeat_eq e4.1 e4.2
  unfold rOne K.one
  simp only [e1, e2, e3, e5, beq_true_iff]
  have f1 : (bif (bif !c.fi then bif !c.inh then bif decide (c.pl + 1 ≥ 29828) then decide (c.pl + 1 ≤ 29830) else false else false else false) then true else c.fr) = K.frAt c (c.pl + 1) := by
    unfold K.frAt
    rw [Bool.decide_and]
    cases c.fi <;> cases c.inh <;> cases c.fr <;> cases h3 : decide (c.pl + 1 ≥ 29828) <;> cases h4 : decide (c.pl + 1 ≤ 29830) <;> simp_all
  rw [f1]
  by_cases w0 : c.wa = 0
  · rw [decide_eq_false (by omega : ¬ c.wa > 0), if_neg (by omega), if_pos w0, if_neg (by omega), w0]; rfl
  · have hw := wu8 (x := c.wa - 1) (by omega) (by omega)
    rw [decide_eq_true (by omega : c.wa > 0), hw, if_neg w0]
    simp only [cond_true]
    by_cases w1 : c.wa = 1
    · rw [decide_eq_true (by omega : c.wa - 1 = 0), if_pos w1]
      simp only [cond_true]
      cases hfi : c.fi with
      | true => rw [if_pos ⟨w1, rfl⟩]; rfl
      | false => rw [if_neg (by simp)]; rfl
    · rw [decide_eq_false (by omega : ¬ c.wa - 1 = 0), if_neg w1, if_neg (by simp [w1])]
      rfl
theorem ok47 : FnOk (Cb.with sp1) 47 (onT (t1 K.okv fun c => clkV (K.one c))) := FnOk.t1 good1 gsNodup Tryd.func47 (fun _ _ _ => rfl) 10 keep_none fun c hc => by
  refine ⟨clkV (rOne c), ?_, fun ρ => by rw [rOne_eq hc]⟩
  show (vals (evFn (Cb.with sp1) 10 (fun _ => none) Tryd.f47 Cb.H0 3 [clkV c])).get = _
  rw [ev47]; rfl

/-! ### The timer -/
def rAll (c : Clk) (n : Int) : Int := IntKind.u64.wrap (IntKind.u64.wrap c.pr + n)
def rSteps (c : Clk) (n : Int) : Int := IntKind.u64.wrap ((rAll c n).tdiv (K.dv c.ct))
def rPre (c : Clk) (n : Int) : Int := IntKind.u16.wrap ((rAll c n).tmod (K.dv c.ct))
def rOver (c : Clk) : Bool := bif c.ov then true else c.fl
def rRest (c : Clk) (n : Int) : Int := IntKind.u64.wrap (rSteps c n - IntKind.u64.wrap (IntKind.u64.wrap c.co + 1))
def rRound (c : Clk) : Int := IntKind.u64.wrap (IntKind.u64.wrap c.la + 1)
def litClk (x : Clk) (fl : B) (pr : I) : V := .v (.agg [.int .u16 (.sym x.la), .int .u16 (.sym x.co), .int .u16 pr, .int .u8 (.sym x.ho), .int .u8 (.sym x.ct), .bool fl, .bool (.sym x.ov), .bool (.sym x.fi), .bool (.sym x.inh), .bool (.sym x.fr), .int .u16 (.sym x.pl), .int .u8 (.sym x.wa), .int .u8 (.sym x.be)])
theorem litClk_den (x : Clk) (fl : B) (pr : I) (ρ : List Nat) : (litClk x fl pr).den ρ = (clkV { x with fl := fl.b, pr := pr.n }).den ρ := rfl
theorem ev36 (c : Clk) (n : Int) : vals (evFn (Cb.with sp1) 1 (fun _ => none) Tryd.f36 Cb.H0 3 [clkV c, vint .u64 (.sym n)]) =
    .node (bits .and .u8 c.ct 1 == 0) (.leaf (clkV c)) (.node (K.dv c.ct != 0) (.node (K.dv c.ct != 0) (.node (decide (rSteps c n ≤ IntKind.u64.wrap c.co))
      (.leaf (clkV { c with co := IntKind.u16.wrap (c.co - IntKind.u16.wrap (rSteps c n)), pr := rPre c n }))
      (.node (bits .and .u8 c.ct 4 != 0) (.leaf (litClk { c with co := c.la, ct := bits .andNot .u8 c.ct 1, ov := rOver c } (.lit true) (.lit 0)))
        (.node (rRound c != 0) (.leaf (litClk { c with co := IntKind.u16.wrap (c.la - IntKind.u16.wrap ((rRest c n).tmod (rRound c))), ov := bif rOver c then true else decide (rRest c n ≥ rRound c) } (.lit true) (.sym (rPre c n)))) .bad))) .bad) .bad) := by kernel_rfl
def okn (c : Clk) (n : Int) : Bool := K.okv c && decide (0 ≤ n ∧ n < 9223372036854775808)
theorem and_ne0 (x : Int) : (x * 4 != 0) = decide (x ≠ 0) := by rw [Bool.eq_iff_iff]; simp
theorem ok36 : FnOk (Cb.with sp1) 36 (onT (t2 .u64 okn fun c n => clkV (K.count c n))) := FnOk.t2 good1 gsNodup Tryd.func36 (fun _ _ _ _ => rfl) 1 keep_none fun c n hc => by
  unfold okn at hc
  rw [Bool.and_eq_true, decide_eq_true_eq] at hc
  obtain ⟨hv, hn⟩ := hc
  obtain ⟨h1, h2⟩ := okv_iff.1 hv
  have h1 := okC_iff.1 h1
  obtain ⟨h2, _⟩ := valid_iff.1 h2
  show ∃ v', (vals (evFn (Cb.with sp1) 1 (fun _ => none) Tryd.f36 Cb.H0 3 [clkV c, vint .u64 (.sym n)])).get = some v' ∧ _
  rw [ev36]
  have hdv := dv_eq (ct := c.ct) (by omega) (by omega)
  have hd := dvn_cases c.ct
  have hd0 : K.dvn c.ct > 0 := by omega
  have e1 : rAll c n = c.pr + n := by unfold rAll; rw [wu64 (x := c.pr) (by omega) (by omega), wu64 (by omega) (by omega)]
  have hq0 : 0 ≤ (c.pr + n) / K.dvn c.ct := Int.ediv_nonneg (by omega) (by omega)
  have hq1 : (c.pr + n) / K.dvn c.ct ≤ c.pr + n := Int.ediv_le_self _ (by omega)
  have hr0 : 0 ≤ (c.pr + n) % K.dvn c.ct := Int.emod_nonneg _ (by omega)
  have hr1 : (c.pr + n) % K.dvn c.ct < K.dvn c.ct := Int.emod_lt_of_pos _ hd0
  have e2 : rSteps c n = (c.pr + n) / K.dvn c.ct := by
    unfold rSteps
    rw [e1, hdv, Int.tdiv_eq_ediv_of_nonneg (by omega), wu64 hq0 (by omega)]
  have e3 : rPre c n = (c.pr + n) % K.dvn c.ct := by
    unfold rPre
    rw [e1, hdv, Int.tmod_eq_emod_of_nonneg (by omega), wu16 hr0 (by omega)]
  have e4 : rRound c = c.la + 1 := by unfold rRound; rw [wu64 (x := c.la) (by omega) (by omega), wu64 (by omega) (by omega)]
  have e5 : rOver c = (c.ov || c.fl) := by unfold rOver; cases c.ov <;> rfl
  have nz : (K.dv c.ct != 0) = true := by rw [hdv]; simp; omega
  have nz2 : (rRound c != 0) = true := by rw [e4]; simp; omega
  simp only [Tree.get, nz, nz2, cond_true, e2, e3, e5, wu64 (x := c.co) (by omega) (by omega), and1 (x := c.ct) (by omega) (by omega), and4 (x := c.ct) (by omega) (by omega), clear1 (x := c.ct) (by omega) (by omega), beq_true_iff, and_ne0]
  unfold K.count
  by_cases p1 : c.ct % 2 = 0
  · rw [decide_eq_true p1, if_pos p1]; exact ⟨_, rfl, fun _ => rfl⟩
  rw [decide_eq_false p1, if_neg p1]
  by_cases p2 : (c.pr + n) / K.dvn c.ct ≤ c.co
  · rw [decide_eq_true p2, if_pos p2]
    refine ⟨_, rfl, fun _ => ?_⟩
    rw [wu16 hq0 (by omega), wu16 (by omega) (by omega)]
  rw [decide_eq_false p2, if_neg p2]
  by_cases p3 : c.ct / 4 % 2 = 1
  · rw [decide_eq_true (by omega : c.ct / 4 % 2 ≠ 0), if_pos p3]
    refine ⟨_, rfl, fun ρ => ?_⟩
    rw [litClk_den, show c.ct - c.ct % 2 = c.ct - 1 by omega]
    rfl
  · rw [decide_eq_false (by omega : ¬ c.ct / 4 % 2 ≠ 0), if_neg p3]
    refine ⟨_, rfl, fun ρ => ?_⟩
    have e6 : rRest c n = (c.pr + n) / K.dvn c.ct - (c.co + 1) := by
      unfold rRest
      rw [e2, wu64 (x := c.co) (by omega) (by omega), wu64 (x := c.co + 1) (by omega) (by omega), wu64 (by omega) (by omega)]
    have m0 : 0 ≤ ((c.pr + n) / K.dvn c.ct - (c.co + 1)) % (c.la + 1) := Int.emod_nonneg _ (by omega)
    have m1 : ((c.pr + n) / K.dvn c.ct - (c.co + 1)) % (c.la + 1) < c.la + 1 := Int.emod_lt_of_pos _ (by omega)
    rw [e4, e6, Int.tmod_eq_emod_of_nonneg (by omega), wu16 m0 (by omega), wu16 (by omega) (by omega), litClk_den, bif_or]
    rfl
end Go.Proofs.YthndmfgmlbdekaaDoor.Ev
