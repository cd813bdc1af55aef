/- When the line is high: Next is the first cycle of it. -/
import Derived.Test.YthndmfgmlbdekaaDoorTm21
namespace Go.Proofs.YthndmfgmlbdekaaDoor.Ev
open Go Go.RowKit
set_option linter.unusedVariables false
set_option linter.unusedSimpArgs false
set_option linter.constructorNameAsVariable false
theorem count_ct {c : Clk} (n : Int) : (K.count c n).ct / 2 % 2 = c.ct / 2 % 2 := by
  unfold K.count
  split
  · rfl
  · split
    · rfl
    · split
      · show (c.ct - 1) / 2 % 2 = _; omega
      · rfl
theorem count_fl {c : Clk} {n : Int} (h : K.okv c = true) : (K.count c n).fl = (c.fl || decide (c.ct % 2 = 1 ∧ (c.co + 1) * K.dvn c.ct - c.pr ≤ n)) := by
  have h1 := okC_iff.1 (okv_iff.1 h).1
  have hd := dvn_cases c.ct
  have hd0 : 0 < K.dvn c.ct := by omega
  have k := Int.ediv_lt_iff_lt_mul (a := c.pr + n) (b := c.co + 1) hd0
  unfold K.count
  by_cases c1 : c.ct % 2 = 0
  · rw [if_pos c1, decide_eq_false (by omega), Bool.or_false]
  rw [if_neg c1]
  by_cases c2 : (c.pr + n) / K.dvn c.ct ≤ c.co
  · rw [if_pos c2, decide_eq_false (by omega), Bool.or_false]
  · have e : decide (c.ct % 2 = 1 ∧ (c.co + 1) * K.dvn c.ct - c.pr ≤ n) = true := decide_eq_true (by omega)
    rw [if_neg c2, e, Bool.or_true]
    split <;> rfl
theorem it_fr_off {c : Clk} (hm : c.fi = true ∨ c.inh = true) (hfr : c.fr = false) : ∀ n, (K.it K.one n c).fr = false
  | 0 => hfr
  | n + 1 => by
    rw [it_succ]
    have h1 := it_fr_off hm hfr n
    obtain ⟨h2, h3⟩ := it_fi c n
    show K.frAt _ _ = false
    unfold K.frAt
    rw [h1, h2, h3]
    rcases hm with e | e <;> rw [e]
    · rfl
    · cases c.fi <;> rfl
theorem it_fr_at {c : Clk} {m : Int} (h : K.okv c = true) (hfr : c.fr = false) (h0 : 0 ≤ m) (h1 : m < K.never) : (K.it K.one m.toNat c).fr = decide (K.nf c ≤ m) := by
  by_cases hm : c.fi = true ∨ c.inh = true
  · have hn : K.nf c = K.never := by unfold K.nf; rcases hm with e | e <;> rw [e] <;> simp
    rw [it_fr_off hm hfr, hn, decide_eq_false (by omega)]
  · have hfi : c.fi = false := by cases hx : c.fi <;> simp_all
    have hin : c.inh = false := by cases hx : c.inh <;> simp_all
    obtain ⟨⟨a, b, d⟩, _⟩ := nf_first h hfi hin hfr
    by_cases hlt : m < K.nf c
    · rw [d m.toNat (by omega), decide_eq_false (by omega)]
    · rw [decide_eq_true (by omega), show m.toNat = (K.nf c).toNat + (m.toNat - (K.nf c).toNat) by omega, it_add]
      exact it_fr b _
theorem irq_mixed {c : Clk} {m : Int} (h : K.okv c = true) (h0 : 0 ≤ m) : K.irq (K.adv c m) = ((K.it K.one m.toNat c).fr || ((c.fl || decide (c.ct % 2 = 1 ∧ (c.co + 1) * K.dvn c.ct - c.pr ≤ m)) && decide (c.ct / 2 % 2 = 1))) := by
  have hv := (okv_iff.1 (okv_adv (n := m) h)).2
  unfold K.irq
  rw [hv, Bool.true_and, adv_mixed h h0]
  show ((K.it K.one m.toNat c).fr || ((K.count c m).fl && decide ((K.count c m).ct / 2 % 2 = 1))) = _
  rw [count_fl h, count_ct]
theorem irq_high {c : Clk} {m : Int} (h : K.okv c = true) (hi : K.irq c = true) (h0 : 0 ≤ m) : K.irq (K.adv c m) = true := by
  rw [irq_mixed h h0]
  unfold K.irq at hi
  rw [(okv_iff.1 h).2, Bool.true_and] at hi
  cases hf : c.fr with
  | true => rw [it_fr hf]; rfl
  | false =>
    rw [hf, Bool.false_or, Bool.and_eq_true] at hi
    rw [hi.1, hi.2]; simp
theorem next_low {c : Clk} (h : K.okv c = true) (hi : K.irq c = false) : K.next c = if K.nf c < K.no c then K.nf c else K.no c := by
  unfold K.next; rw [if_neg (by rw [(okv_iff.1 h).2]; simp), hi]; rfl
theorem irq_adv {c : Clk} {m : Int} (h : K.okv c = true) (hi : K.irq c = false) (h0 : 0 ≤ m) (h1 : m < K.never) : K.irq (K.adv c m) = decide (K.next c ≤ m) := by
  have hi' := hi
  unfold K.irq at hi'
  rw [(okv_iff.1 h).2, Bool.true_and, Bool.or_eq_false_iff] at hi'
  rw [irq_mixed h h0, it_fr_at h hi'.1 h0 h1, next_low h hi]
  have e : ((c.fl || decide (c.ct % 2 = 1 ∧ (c.co + 1) * K.dvn c.ct - c.pr ≤ m)) && decide (c.ct / 2 % 2 = 1)) = decide (K.no c ≤ m) := by
    unfold K.no
    by_cases ha : c.ct / 2 % 2 = 1
    · have hfl : c.fl = false := by
        have := hi'.2
        rw [decide_eq_true ha, Bool.and_true] at this; exact this
      rw [hfl, decide_eq_true ha, Bool.and_true, Bool.false_or, decide_eq_decide]
      by_cases hr : c.ct % 2 = 1
      · rw [if_pos ⟨hr, ha⟩]; simp [hr]
      · rw [if_neg (by omega)]; unfold K.never at *; omega
    · rw [decide_eq_false ha, Bool.and_false, if_neg (by omega)]
      rw [decide_eq_false (by omega)]
  rw [e, Bool.eq_iff_iff]
  simp only [Bool.or_eq_true, decide_eq_true_eq]
  split <;> omega
theorem no_bounds {c : Clk} (h : K.okv c = true) : 1 ≤ K.no c ∧ (K.no c = K.never ∨ K.no c ≤ 16777216) := by
  have h1 := okC_iff.1 (okv_iff.1 h).1
  have h2 := (valid_iff.1 (okv_iff.1 h).2).1
  have hd := dvn_cases c.ct
  have hb : K.dvn c.ct ≤ (c.co + 1) * K.dvn c.ct ∧ (c.co + 1) * K.dvn c.ct ≤ 65536 * 256 := by
    rcases hd with e | e | e | e <;> rw [e] <;> omega
  unfold K.no K.never
  split <;> omega
theorem next_bounds {c : Clk} (h : K.okv c = true) (hi : K.irq c = false) : 1 ≤ K.next c ∧ (K.next c = K.never ∨ K.next c ≤ 16777216) := by
  have hi' := hi
  unfold K.irq at hi'
  rw [(okv_iff.1 h).2, Bool.true_and, Bool.or_eq_false_iff] at hi'
  have hno := no_bounds h
  rw [next_low h hi]
  by_cases hm : c.fi = true ∨ c.inh = true
  · have hn : K.nf c = K.never := by unfold K.nf; rcases hm with e | e <;> rw [e] <;> simp
    rw [hn]; unfold K.never at *; split <;> omega
  · have hfi : c.fi = false := by cases hx : c.fi <;> simp_all
    have hin : c.inh = false := by cases hx : c.inh <;> simp_all
    obtain ⟨⟨a, _, _⟩, b⟩ := nf_first h hfi hin hi'.1
    split <;> omega
end Go.Proofs.YthndmfgmlbdekaaDoor.Ev
