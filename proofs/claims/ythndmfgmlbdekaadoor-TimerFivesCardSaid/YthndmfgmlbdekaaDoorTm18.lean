/- The next interrupt: the timer's, the sequencer's. -/
import Derived.Test.YthndmfgmlbdekaaDoorTm17
namespace Go.Proofs.YthndmfgmlbdekaaDoor.Ev
open Go Go.RowKit
set_option linter.unusedVariables false
set_option linter.unusedSimpArgs false
set_option linter.constructorNameAsVariable false
namespace K
def never : Int := 4611686018427387904
/-- Cycles until the timer runs out, if it asks. -/
def no (c : Clk) : Int := if c.ct % 2 = 1 ∧ c.ct / 2 % 2 = 1 then (c.co + 1) * dvn c.ct - c.pr else never
/-- Cycles until the sequencer asks. -/
def nfN : Nat → Clk → Int → Int
  | 0, _, n => n
  | j + 1, c, n => if c.wa > 0 ∨ c.pl ≥ 29830 then (bif (one c).fr then n + 1 else nfN j (one c) (n + 1)) else n + (if 29828 - c.pl > 1 then 29828 - c.pl else 1)
def nf (c : Clk) : Int := bif (c.fi || c.inh) then never else nfN 6 c 0
def next (c : Clk) : Int := if valid c = false then never else bif irq c then 0 else if nf c < no c then nf c else no c
end K
/-! ### The first cycle behind which the sequencer asks -/
def First (c : Clk) (r : Int) : Prop := 1 ≤ r ∧ (K.it K.one r.toNat c).fr = true ∧ ∀ m : Nat, (m : Int) < r → (K.it K.one m c).fr = false
theorem one_fr {c : Clk} (h : c.fr = true) : (K.one c).fr = true := by
  show K.frAt c (c.pl + 1) = true
  unfold K.frAt; rw [h]; rfl
theorem it_fr {c : Clk} (h : c.fr = true) : ∀ n, (K.it K.one n c).fr = true
  | 0 => h
  | n + 1 => by rw [it_succ]; exact one_fr (it_fr h n)
theorem First.uniq {c : Clk} {r r' : Int} (h : First c r) (h' : First c r') : r = r' := by
  have a1 : ¬ r < r' := fun hlt => by
    have := h'.2.2 r.toNat (by have := h.1; omega)
    rw [h.2.1] at this; cases this
  have a2 : ¬ r' < r := fun hlt => by
    have := h.2.2 r'.toNat (by have := h'.1; omega)
    rw [h'.2.1] at this; cases this
  omega
theorem First.step {c : Clk} {r : Int} (hc : c.fr = false) (h1 : (K.one c).fr = false) (h : First (K.one c) r) : First c (r + 1) := by
  obtain ⟨a, b, d⟩ := h
  refine ⟨by omega, ?_, fun m hm => ?_⟩
  · rw [show (r + 1).toNat = r.toNat + 1 by omega]; exact b
  · cases m with
    | zero => exact hc
    | succ m => exact d m (by omega)
theorem it_fi (c : Clk) : ∀ n, (K.it K.one n c).fi = c.fi ∧ (K.it K.one n c).inh = c.inh
  | 0 => ⟨rfl, rfl⟩
  | n + 1 => by rw [it_succ]; exact it_fi c n
theorem run_fr {c : Clk} (hw : c.wa = 0) (hp : 0 ≤ c.pl) (hfi : c.fi = false) : ∀ m : Nat, c.pl + m ≤ 29827 → (K.it K.one m c).pl = c.pl + m ∧ (K.it K.one m c).wa = 0 ∧ (K.it K.one m c).fr = c.fr
  | 0, _ => ⟨by show c.pl = c.pl + 0; omega, hw, rfl⟩
  | m + 1, h => by
    obtain ⟨h1, h2, h3⟩ := run_fr hw hp hfi m (by omega)
    have hf : (K.it K.one m c).fi = false := (it_fi c m).1.trans hfi
    rw [it_succ]
    generalize K.it K.one m c = d at h1 h2 h3 hf
    refine ⟨?_, ?_, ?_⟩
    · show (if d.wa = 1 then 0 else K.wrapAt d.fi (d.pl + 1)) = _
      rw [if_neg (by omega)]; unfold K.wrapAt; rw [hf, if_pos (show d.pl + 1 < K.rnd false by show d.pl + 1 < 29830; omega)]; omega
    · show (if d.wa = 0 then 0 else d.wa - 1) = 0
      rw [if_pos h2]
    · show K.frAt d (d.pl + 1) = _
      unfold K.frAt
      rw [decide_eq_false (by omega), ← h3]
      cases d.fr <;> cases d.fi <;> cases d.inh <;> rfl
theorem first_base {c : Clk} (hw : c.wa = 0) (hp : 0 ≤ c.pl) (hp1 : c.pl < 29830) (hfi : c.fi = false) (hin : c.inh = false) (hfr : c.fr = false) : First c (if 29828 - c.pl > 1 then 29828 - c.pl else 1) := by
  have last : ∀ d : Clk, d.fi = false → d.inh = false → 29828 ≤ d.pl + 1 → d.pl + 1 ≤ 29830 → (K.one d).fr = true := fun d h1 h2 h3 h4 => by
    show K.frAt d (d.pl + 1) = true
    unfold K.frAt; rw [h1, h2, decide_eq_true (by omega)]; cases d.fr <;> rfl
  split
  · rename_i h
    refine ⟨by omega, ?_, fun m hm => ?_⟩
    · obtain ⟨h1, h2, h3⟩ := run_fr hw hp hfi (29828 - c.pl - 1).toNat (by omega)
      rw [show (29828 - c.pl).toNat = (29828 - c.pl - 1).toNat + 1 by omega, it_succ]
      exact last _ ((it_fi c _).1.trans hfi) ((it_fi c _).2.trans hin) (by omega) (by omega)
    · rw [(run_fr hw hp hfi m (by omega)).2.2, hfr]
  · rename_i h
    refine ⟨by omega, last c hfi hin (by omega) (by omega), fun m hm => ?_⟩
    obtain rfl : m = 0 := by omega
    exact hfr
def ms (c : Clk) : Int := c.wa + (if c.pl ≥ 29830 then 1 else 0)
theorem ms_one {c : Clk} (h : K.okv c = true) (hfi : c.fi = false) (hc : c.wa > 0 ∨ c.pl ≥ 29830) : ms (K.one c) < ms c := by
  obtain ⟨h1, h2⟩ := okv_iff.1 h
  have h1 := okC_iff.1 h1
  have e1 : (K.one c).wa = if c.wa = 0 then 0 else c.wa - 1 := rfl
  have e2 : (K.one c).pl = if c.wa = 1 then 0 else K.wrapAt c.fi (c.pl + 1) := rfl
  have e3 : K.wrapAt c.fi (c.pl + 1) = if c.pl + 1 < 29830 then c.pl + 1 else 0 := by rw [hfi]; rfl
  unfold ms
  rw [e1, e2, e3]
  split <;> split <;> split <;> (try split) <;> (try split) <;> omega
theorem nfN_first : ∀ (j : Nat) (c : Clk) (n : Int), K.okv c = true → c.fi = false → c.inh = false → c.fr = false → ms c < j → First c (K.nfN j c n - n) ∧ K.nfN j c n ≤ n + j + 29828
  | 0, c, n, h, _, _, _, hj => by
    have h1 := okC_iff.1 (okv_iff.1 h).1
    unfold ms at hj; split at hj <;> omega
  | j + 1, c, n, h, hfi, hin, hfr, hj => by
    have h1 := okC_iff.1 (okv_iff.1 h).1
    unfold K.nfN
    by_cases hc : c.wa > 0 ∨ c.pl ≥ 29830
    · rw [if_pos hc]
      have hm := ms_one h hfi hc
      cases ho : (K.one c).fr with
      | true =>
        refine ⟨?_, by simp; omega⟩
        show First c (n + 1 - n)
        rw [show n + 1 - n = 1 by omega]
        exact ⟨by omega, ho, fun m hm => by obtain rfl : m = 0 := by omega
                                            exact hfr⟩
      | false =>
        obtain ⟨a, b⟩ := nfN_first j (K.one c) (n + 1) (okv_it h 1) hfi hin ho (by omega)
        refine ⟨?_, by simp; omega⟩
        show First c (K.nfN j (K.one c) (n + 1) - n)
        rw [show K.nfN j (K.one c) (n + 1) - n = K.nfN j (K.one c) (n + 1) - (n + 1) + 1 by omega]
        exact First.step hfr ho a
    · rw [if_neg hc]
      have := first_base (c := c) (by omega) (by omega) (by omega) hfi hin hfr
      refine ⟨by rw [show n + (if 29828 - c.pl > 1 then 29828 - c.pl else 1) - n = if 29828 - c.pl > 1 then 29828 - c.pl else 1 by omega]; exact this, ?_⟩
      split <;> omega
theorem ms_lt {c : Clk} (h : K.okv c = true) : ms c < 6 := by
  have h2 := (valid_iff.1 (okv_iff.1 h).2).1
  unfold ms; split <;> omega
theorem nf_first {c : Clk} (h : K.okv c = true) (hfi : c.fi = false) (hin : c.inh = false) (hfr : c.fr = false) : First c (K.nf c) ∧ K.nf c ≤ 29834 := by
  have e : K.nf c = K.nfN 6 c 0 := by unfold K.nf; rw [hfi, hin]; rfl
  obtain ⟨a, b⟩ := nfN_first 6 c 0 h hfi hin hfr (ms_lt h)
  rw [Int.sub_zero] at a
  rw [e]; exact ⟨a, by omega⟩

/-! ### The walks -/
def nfT : Nat → Clk → Int → Tree V
  | 0, _, _ => .bad
  | j + 1, c, n => .node (bif decide (c.wa > 0) then true else decide (IntKind.u64.wrap c.pl ≥ 29830)) (.node (K.okv c) (.node (K.one c).fr (.leaf (vint .i64 (.lit (n + 1)))) (nfT j (K.one c) (n + 1))) .bad)
      (.leaf (vint .i64 (.sym (IntKind.i64.wrap (n + if IntKind.i64.wrap (29828 - IntKind.i64.wrap c.pl) > 1 then IntKind.i64.wrap (29828 - IntKind.i64.wrap c.pl) else 1)))))
theorem ev44 (c : Clk) : vals (evFn (Cb.with spC) 6 (fun _ => none) Tryd.f44 Cb.H0 3 [clkV c]) = .node (bif c.fi then true else c.inh) (.leaf (vint .i64 (.lit 4611686018427387904))) (nfT 6 c 0) := by kernel_rfl
theorem nfT_get : ∀ (j : Nat) (c : Clk) (n : Int), K.okv c = true → c.fi = false → ms c < j → 0 ≤ n → n + j ≤ 10 → ∃ v', (nfT j c n).get = some v' ∧ ∀ ρ, v'.den ρ = (vint .i64 (.sym (K.nfN j c n))).den ρ
  | 0, c, n, h, _, hj, _, _ => by
    have h1 := okC_iff.1 (okv_iff.1 h).1
    unfold ms at hj; split at hj <;> omega
  | j + 1, c, n, h, hfi, hj, h0, hn => by
    have h1 := okC_iff.1 (okv_iff.1 h).1
    have h2 := (valid_iff.1 (okv_iff.1 h).2).1
    unfold nfT K.nfN
    rw [wu64 (by omega) (by omega), bif_or, wi64 (x := c.pl) (by omega) (by omega), wi64 (x := 29828 - c.pl) (by omega) (by omega)]
    by_cases hc : c.wa > 0 ∨ c.pl ≥ 29830
    · rw [if_pos hc, show (decide (c.wa > 0) || decide (c.pl ≥ 29830)) = true by simpa using hc, h]
      cases ho : (K.one c).fr with
      | true => exact ⟨_, rfl, fun _ => rfl⟩
      | false => exact nfT_get j (K.one c) (n + 1) (okv_it h 1) hfi (by have := ms_one h hfi hc; omega) (by omega) (by omega)
    · rw [if_neg hc, show (decide (c.wa > 0) || decide (c.pl ≥ 29830)) = false by simpa using hc]
      refine ⟨_, rfl, fun _ => ?_⟩
      rw [wi64 (by split <;> omega) (by split <;> omega)]
def okn' (c : Clk) : Bool := K.okv c && !c.fr
theorem ok44 : FnOk (Cb.with spC) 44 (onT (t1 K.okv fun c => vint .i64 (.sym (K.nf c)))) := FnOk.t1 goodC gsNodup Tryd.func44 (fun _ _ _ => rfl) 6 keep_none fun c hc => by
  show ∃ v', (vals (evFn (Cb.with spC) 6 (fun _ => none) Tryd.f44 Cb.H0 3 [clkV c])).get = some v' ∧ _
  rw [ev44]
  unfold K.nf
  cases hfi : c.fi with
  | true => exact ⟨_, rfl, fun _ => rfl⟩
  | false =>
    cases hin : c.inh with
    | true => exact ⟨_, rfl, fun _ => rfl⟩
    | false => exact nfT_get 6 c 0 hc hfi (ms_lt hc) (by omega) (by omega)
theorem ev43 (c : Clk) : vals (evFn (Cb.with spC) 1 (fun _ => none) Tryd.f43 Cb.H0 3 [clkV c]) = .node (bif bits .and .u8 c.ct 1 == 0 then true else bits .and .u8 c.ct 2 == 0) (.leaf (vint .i64 (.lit 4611686018427387904)))
  (.leaf (vint .i64 (.sym (IntKind.i64.wrap (IntKind.i64.wrap (IntKind.i64.wrap (IntKind.i64.wrap c.co + 1) * IntKind.i64.wrap (K.dv c.ct)) - IntKind.i64.wrap c.pr))))) := by kernel_rfl
theorem ok43 : FnOk (Cb.with spC) 43 (onT (t1 K.okC fun c => vint .i64 (.sym (K.no c)))) := FnOk.t1 goodC gsNodup Tryd.func43 (fun _ _ _ => rfl) 1 keep_none fun c hc => by
  have h := okC_iff.1 hc
  have hd := dvn_cases c.ct
  show ∃ v', (vals (evFn (Cb.with spC) 1 (fun _ => none) Tryd.f43 Cb.H0 3 [clkV c])).get = some v' ∧ _
  rw [ev43, and1 (by omega) (by omega), and2 (by omega) (by omega), dv_eq (by omega) (by omega), bif_or]
  unfold K.no
  by_cases hc : c.ct % 2 = 1 ∧ c.ct / 2 % 2 = 1
  · rw [if_pos hc, show ((c.ct % 2 == 0) || (c.ct / 2 % 2 * 2 == 0)) = false by simp; omega]
    refine ⟨_, rfl, fun _ => ?_⟩
    have hb : 0 ≤ (c.co + 1) * K.dvn c.ct ∧ (c.co + 1) * K.dvn c.ct ≤ 65536 * 256 := by
      rcases hd with e | e | e | e <;> rw [e] <;> omega
    rw [wi64 (x := c.co) (by omega) (by omega), wi64 (x := K.dvn c.ct) (by omega) (by omega), wi64 (x := c.pr) (by omega) (by omega), wi64 (x := c.co + 1) (by omega) (by omega), wi64 (x := (c.co + 1) * K.dvn c.ct) (by omega) (by omega), wi64 (by omega) (by omega)]
  · rw [if_neg hc, show ((c.ct % 2 == 0) || (c.ct / 2 % 2 * 2 == 0)) = true by simp; omega]
    exact ⟨_, rfl, fun _ => rfl⟩
noncomputable def spD : List (Nat × Spec) := (44, onT (t1 K.okv fun c => vint .i64 (.sym (K.nf c)))) :: (43, onT (t1 K.okC fun c => vint .i64 (.sym (K.no c)))) :: spC
theorem goodD : Good (Cb.with spD) := (goodC.cons Tryd.func43 (by kernel_rfl) (by kernel_rfl) ok43).cons Tryd.func44 (by kernel_rfl) (by kernel_rfl) ok44
end Go.Proofs.YthndmfgmlbdekaaDoor.Ev
