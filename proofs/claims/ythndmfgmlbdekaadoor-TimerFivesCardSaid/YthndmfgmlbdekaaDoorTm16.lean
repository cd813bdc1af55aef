/- Timer and sequencer apart; n cycles field by field. -/
import Derived.Test.YthndmfgmlbdekaaDoorTm15
namespace Go.Proofs.YthndmfgmlbdekaaDoor.Ev
open Go Go.RowKit
set_option linter.unusedVariables false
set_option linter.unusedSimpArgs false
set_option linter.constructorNameAsVariable false
namespace K
/-- The timer of one clock, the sequencer of another. -/
def mixed (t s : Clk) : Clk := { s with la := t.la, co := t.co, pr := t.pr, ho := t.ho, ct := t.ct, fl := t.fl, ov := t.ov }
end K
theorem mixed_self (c : Clk) : K.mixed c c = c := rfl
theorem one_mixed (t s : Clk) : K.one (K.mixed t s) = K.mixed t (K.one s) := rfl
theorem it_mixed (t s : Clk) : ∀ n, K.it K.one n (K.mixed t s) = K.mixed t (K.it K.one n s)
  | 0 => rfl
  | n + 1 => by rw [it_succ, it_succ, it_mixed t s n, one_mixed]
theorem count_mixed (t s : Clk) (n : Int) : K.count (K.mixed t s) n = K.mixed (K.count t n) s := by
  unfold K.count
  by_cases h1 : t.ct % 2 = 0
  · rw [if_pos h1]; exact if_pos h1
  rw [if_neg h1]
  refine (if_neg h1).trans ?_
  by_cases h2 : (t.pr + n) / K.dvn t.ct ≤ t.co
  · rw [if_pos h2]; exact if_pos h2
  rw [if_neg h2]
  refine (if_neg h2).trans ?_
  by_cases h3 : t.ct / 4 % 2 = 1
  · rw [if_pos h3]; exact if_pos h3
  rw [if_neg h3]
  exact if_neg h3
theorem count_zero {c : Clk} (h : K.okv c = true) : K.count c 0 = c := by
  obtain ⟨h1, h2⟩ := okv_iff.1 h
  have h1 := okC_iff.1 h1
  obtain ⟨h2, h3, h4⟩ := valid_iff.1 h2
  unfold K.count
  by_cases c1 : c.ct % 2 = 0
  · rw [if_pos c1]
  have e1 : (c.pr + 0) / K.dvn c.ct = 0 := Int.ediv_eq_zero_of_lt (by omega) (by omega)
  have e2 : (c.pr + 0) % K.dvn c.ct = c.pr := by rw [Int.emod_eq_of_lt (by omega) (by omega)]; omega
  rw [if_neg c1, e1, e2, if_pos (by omega), Int.sub_zero]
/-- n cycles are the timer's n and the sequencer's n. -/
theorem adv_mixed {c : Clk} {n : Int} (h : K.okv c = true) (hn : 0 ≤ n) : K.adv c n = K.mixed (K.count c n) (K.it K.one n.toNat c) := by
  have e : K.it K.one n.toNat (K.count c n) = K.mixed (K.count c n) (K.it K.one n.toNat c) := by
    have e1 : K.count c n = K.mixed (K.count c n) c := by rw [← count_mixed, mixed_self]
    rw [← it_mixed, ← e1]
  by_cases h1 : n < 1
  · obtain rfl : n = 0 := by omega
    rw [adv_low h1, count_zero h]; rfl
  · rw [adv_one (okv_iff.1 h).2 (by omega), e]
theorem okv_mixed {t s : Clk} (ht : K.okv t = true) (hs : K.okv s = true) : K.okv (K.mixed t s) = true := by
  obtain ⟨t1, t2⟩ := okv_iff.1 ht
  obtain ⟨s1, s2⟩ := okv_iff.1 hs
  have t1 := okC_iff.1 t1
  have s1 := okC_iff.1 s1
  obtain ⟨t2, t3, t4⟩ := valid_iff.1 t2
  obtain ⟨s2, s3, s4⟩ := valid_iff.1 s2
  refine okv_iff.2 ⟨okC_iff.2 ?_, valid_iff.2 ⟨?_, t3, s4⟩⟩
  · exact ⟨t1.1, t1.2.1, t1.2.2.1, t1.2.2.2.1, t1.2.2.2.2.1, s1.2.2.2.2.2⟩
  · exact ⟨t2.1, t2.2.1, s2.2.2⟩
theorem adv_of_mixed {t s : Clk} {n : Int} (ht : K.okv t = true) (hs : K.okv s = true) (hn : 0 ≤ n) : K.adv (K.mixed t s) n = K.mixed (K.adv t n) (K.adv s n) := by
  rw [adv_mixed (okv_mixed ht hs) hn, adv_mixed ht hn, adv_mixed hs hn, count_mixed, it_mixed]
  rfl
/-- The sequencer's cycles leave the timer alone. -/
theorem it_tim (c : Clk) (n : Nat) : K.it K.one n c = K.mixed c (K.it K.one n c) := by
  rw [← it_mixed, mixed_self]
theorem count_seq (c : Clk) (n : Int) : K.count c n = K.mixed (K.count c n) c := by rw [← count_mixed, mixed_self]
end Go.Proofs.YthndmfgmlbdekaaDoor.Ev
