/- Cycles add up: the timer's and the sequencer's, apart and together. -/
import Derived.Test.YthndmfgmlbdekaaDoorTm13
namespace Go.Proofs.YthndmfgmlbdekaaDoor.Ev
open Go Go.RowKit
set_option linter.constructorNameAsVariable false
set_option linter.unusedVariables false
set_option linter.unusedSimpArgs false
theorem one_count (c : Clk) (n : Int) : K.count (K.one c) n = K.one (K.count c n) := by
  unfold K.count
  by_cases h1 : c.ct % 2 = 0
  · rw [if_pos h1]; exact if_pos h1
  rw [if_neg h1]
  refine (if_neg h1).trans ?_
  by_cases h2 : (c.pr + n) / K.dvn c.ct ≤ c.co
  · rw [if_pos h2]; exact if_pos h2
  rw [if_neg h2]
  refine (if_neg h2).trans ?_
  by_cases h3 : c.ct / 4 % 2 = 1
  · rw [if_pos h3]; exact if_pos h3
  rw [if_neg h3]
  exact if_neg h3
theorem it_count (n : Int) : ∀ (k : Nat) (c : Clk), K.count (K.it K.one k c) n = K.it K.one k (K.count c n)
  | 0, c => rfl
  | k + 1, c => by rw [it_succ, it_succ, one_count, it_count n k c]
theorem div_step {x b d : Int} (hd : 0 < d) : (x + b) / d = x / d + (x % d + b) / d ∧ (x + b) % d = (x % d + b) % d := by
  refine ⟨?_, (Int.emod_add_emod x d b).symm⟩
  have h := Int.emod_add_mul_ediv x d
  have e : x + b = (x % d + b) + d * (x / d) := by omega
  rw [e, Int.add_mul_ediv_left _ _ (by omega), Int.add_comm]
theorem count_add {c : Clk} {a b : Int} (h : K.okv c = true) (ha : 0 ≤ a) (hb : 0 ≤ b) : K.count (K.count c a) b = K.count c (a + b) := by
  obtain ⟨h1, h2⟩ := okv_iff.1 h
  have h1 := okC_iff.1 h1
  obtain ⟨h2, h3, h4⟩ := valid_iff.1 h2
  have hd := dvn_cases c.ct
  have hd0 : 0 < K.dvn c.ct := by omega
  obtain ⟨e1, e2⟩ := div_step (x := c.pr + a) (b := b) hd0
  have hq : 0 ≤ ((c.pr + a) % K.dvn c.ct + b) / K.dvn c.ct := Int.ediv_nonneg (by have := Int.emod_nonneg (c.pr + a) (show K.dvn c.ct ≠ 0 by omega); omega) (by omega)
  by_cases c1 : c.ct % 2 = 0
  · have e : ∀ n, K.count c n = c := fun n => if_pos c1
    rw [e a, e b, e]
  by_cases c2 : (c.pr + a) / K.dvn c.ct ≤ c.co
  · have e : K.count c a = { c with pr := (c.pr + a) % K.dvn c.ct, co := c.co - (c.pr + a) / K.dvn c.ct } := by unfold K.count; rw [if_neg c1, if_pos c2]
    rw [e]
    unfold K.count
    refine (if_neg c1).trans ?_
    rw [if_neg c1, ← Int.add_assoc, e1, e2]
    by_cases c3 : ((c.pr + a) % K.dvn c.ct + b) / K.dvn c.ct ≤ c.co - (c.pr + a) / K.dvn c.ct
    · refine (if_pos c3).trans ?_
      rw [if_pos (c := (c.pr + a) / K.dvn c.ct + ((c.pr + a) % K.dvn c.ct + b) / K.dvn c.ct ≤ c.co) (by omega)]
      have e3 : c.co - (c.pr + a) / K.dvn c.ct - ((c.pr + a) % K.dvn c.ct + b) / K.dvn c.ct = c.co - ((c.pr + a) / K.dvn c.ct + ((c.pr + a) % K.dvn c.ct + b) / K.dvn c.ct) := by omega
      dsimp only
      rw [e3]
    · refine (if_neg c3).trans ?_
      rw [if_neg (c := (c.pr + a) / K.dvn c.ct + ((c.pr + a) % K.dvn c.ct + b) / K.dvn c.ct ≤ c.co) (by omega)]
      by_cases c4 : c.ct / 4 % 2 = 1
      · exact (if_pos c4).trans (if_pos c4).symm
      · refine (if_neg c4).trans (.trans ?_ (if_neg c4).symm)
        show Clk.mk _ _ _ _ _ _ _ _ _ _ _ _ _ = Clk.mk _ _ _ _ _ _ _ _ _ _ _ _ _
        have e3 : ((c.pr + a) % K.dvn c.ct + b) / K.dvn c.ct - (c.co - (c.pr + a) / K.dvn c.ct + 1) = (c.pr + a) / K.dvn c.ct + ((c.pr + a) % K.dvn c.ct + b) / K.dvn c.ct - (c.co + 1) := by omega
        rw [e3]
  · by_cases c4 : c.ct / 4 % 2 = 1
    · have e : K.count c a = { c with co := c.la, pr := 0, ct := c.ct - 1, fl := true, ov := c.ov || c.fl } := by unfold K.count; rw [if_neg c1, if_neg c2, if_pos c4]
      have e' : K.count c (a + b) = { c with co := c.la, pr := 0, ct := c.ct - 1, fl := true, ov := c.ov || c.fl } := by unfold K.count; rw [if_neg c1, ← Int.add_assoc, e1, if_neg (by omega), if_pos c4]
      rw [e, e']
      exact if_pos (show (c.ct - 1) % 2 = 0 by omega)
    · have e : K.count c a = { c with co := c.la - ((c.pr + a) / K.dvn c.ct - (c.co + 1)) % (c.la + 1), pr := (c.pr + a) % K.dvn c.ct, fl := true, ov := (c.ov || c.fl) || decide ((c.pr + a) / K.dvn c.ct - (c.co + 1) ≥ c.la + 1) } := by unfold K.count; rw [if_neg c1, if_neg c2, if_neg c4]
      rw [e]
      unfold K.count
      refine (if_neg c1).trans ?_
      rw [if_neg c1, ← Int.add_assoc, e1, e2]
      rw [if_neg (c := (c.pr + a) / K.dvn c.ct + ((c.pr + a) % K.dvn c.ct + b) / K.dvn c.ct ≤ c.co) (by omega)]
      generalize hs : (c.pr + a) / K.dvn c.ct = s at *
      generalize hs2 : ((c.pr + a) % K.dvn c.ct + b) / K.dvn c.ct = s2 at *
      have hL : 0 < c.la + 1 := by omega
      obtain ⟨f1, f2⟩ := div_step (x := s - (c.co + 1)) (b := s2) hL
      have g0 := Int.emod_nonneg (s - (c.co + 1)) (show c.la + 1 ≠ 0 by omega)
      have g1 := Int.emod_lt_of_pos (s - (c.co + 1)) hL
      have g2 := Int.emod_add_mul_ediv (s - (c.co + 1)) (c.la + 1)
      have es : s + s2 - (c.co + 1) = s - (c.co + 1) + s2 := by omega
      rw [es]
      by_cases c5 : s2 ≤ c.la - (s - (c.co + 1)) % (c.la + 1)
      · refine (if_pos c5).trans (.trans ?_ (if_neg c4).symm)
        have f3 : ((s - (c.co + 1)) % (c.la + 1) + s2) % (c.la + 1) = (s - (c.co + 1)) % (c.la + 1) + s2 := Int.emod_eq_of_lt (by omega) (by omega)
        have f4 : ((s - (c.co + 1)) % (c.la + 1) + s2) / (c.la + 1) = 0 := Int.ediv_eq_zero_of_lt (by omega) (by omega)
        have f5 : decide (s - (c.co + 1) ≥ c.la + 1) = decide (s - (c.co + 1) + s2 ≥ c.la + 1) := by
          have k1 := Int.le_ediv_iff_mul_le (a := 1) (b := s - (c.co + 1)) hL
          have k2 := Int.le_ediv_iff_mul_le (a := 1) (b := s - (c.co + 1) + s2) hL
          rw [f1, f4] at k2
          rw [decide_eq_decide]
          omega
        rw [f2, f3, ← f5]
        have e3 : c.la - (s - (c.co + 1)) % (c.la + 1) - s2 = c.la - ((s - (c.co + 1)) % (c.la + 1) + s2) := by omega
        dsimp only
        rw [e3]
      · refine (if_neg c5).trans ?_
        refine (if_neg c4).trans (.trans ?_ (if_neg c4).symm)
        have f6 : s2 - (c.la - (s - (c.co + 1)) % (c.la + 1) + 1) = (s - (c.co + 1)) % (c.la + 1) + s2 - (c.la + 1) := by omega
        have f7 : (s2 - (c.la - (s - (c.co + 1)) % (c.la + 1) + 1)) % (c.la + 1) = ((s - (c.co + 1)) % (c.la + 1) + s2) % (c.la + 1) := by rw [f6, Int.sub_emod_right]
        have f8 : decide (s - (c.co + 1) + s2 ≥ c.la + 1) = true := by
          rw [decide_eq_true_eq]
          have k3 : (s - (c.co + 1)) % (c.la + 1) ≤ s - (c.co + 1) := by
            have k4 : 0 ≤ (c.la + 1) * ((s - (c.co + 1)) / (c.la + 1)) := Int.mul_nonneg (by omega) (Int.ediv_nonneg (by omega) (by omega))
            omega
          omega
        show Clk.mk _ _ _ _ _ _ _ _ _ _ _ _ _ = Clk.mk _ _ _ _ _ _ _ _ _ _ _ _ _
        rw [f2, f7, f8]
        simp
theorem adv_one {c : Clk} {n : Int} (h : K.valid c = true) (hn : 1 ≤ n) : K.adv c n = K.it K.one n.toNat (K.count c n) := by
  unfold K.adv; rw [if_neg (by rw [h]; simp; omega)]
theorem adv_bad {c : Clk} {n : Int} (h : K.valid c = false) : K.adv c n = c := by unfold K.adv; rw [if_pos (.inr h)]
theorem adv_low {c : Clk} {n : Int} (h : n < 1) : K.adv c n = c := by unfold K.adv; rw [if_pos (.inl h)]
theorem adv_add {c : Clk} {a b : Int} (h : K.okC c = true) (ha : 0 ≤ a) (hb : 0 ≤ b) : K.adv (K.adv c a) b = K.adv c (a + b) := by
  cases hv : K.valid c with
  | false => rw [adv_bad hv, adv_bad hv, adv_bad hv]
  | true =>
    have hk := okv_iff.2 ⟨h, hv⟩
    by_cases a0 : a < 1
    · obtain rfl : a = 0 := by omega
      rw [adv_low a0]; congr 1; omega
    by_cases b0 : b < 1
    · obtain rfl : b = 0 := by omega
      rw [adv_low b0]; congr 1; omega
    have hka := okv_adv (n := a) hk
    rw [adv_one (okv_iff.1 hka).2 (by omega), adv_one hv (by omega), adv_one hv (by omega), it_count, count_add hk ha hb, ← it_add]
    congr 1
    omega
theorem band_low (k : Nat) (hk : k < 63) (n : Int) : bits .and .i64 n ((2 ^ k - 1 : Nat) : Int) = n % 2 ^ k := by
  have hp : (2 ^ k : Nat) ≤ 2 ^ 62 := Nat.pow_le_pow_right (by omega) (by omega)
  have hp0 : 0 < (2 ^ k : Nat) := Nat.two_pow_pos k
  have h127 : (BitVec.ofInt 64 ((2 ^ k - 1 : Nat) : Int)).toNat = 2 ^ k - 1 := by
    rw [BitVec.toNat_ofInt]
    omega
  have key : (BitVec.ofInt 64 n &&& BitVec.ofInt 64 ((2 ^ k - 1 : Nat) : Int)).toNat = (n % ((2 ^ 64 : Nat) : Int)).toNat % 2 ^ k := by
    rw [BitVec.toNat_and, BitVec.toNat_ofInt, h127, Nat.and_two_pow_sub_one_eq_mod]
  show IntKind.i64.wrap ((BitVec.ofInt 64 n &&& BitVec.ofInt 64 ((2 ^ k - 1 : Nat) : Int)).toNat : Nat) = n % 2 ^ k
  rw [key]
  have m0 : (n % ((2 ^ 64 : Nat) : Int)).toNat % 2 ^ k < 2 ^ k := Nat.mod_lt _ hp0
  have e : (((n % ((2 ^ 64 : Nat) : Int)).toNat % 2 ^ k : Nat) : Int) = n % 2 ^ k := by
    have e1 : (((n % ((2 ^ 64 : Nat) : Int)).toNat : Nat) : Int) = n % ((2 ^ 64 : Nat) : Int) := Int.toNat_of_nonneg (Int.emod_nonneg _ (by decide))
    rw [Int.natCast_emod, e1]
    have hdv : ((2 ^ k : Nat) : Int) ∣ ((2 ^ 64 : Nat) : Int) := by
      rw [Int.natCast_dvd_natCast]; exact Nat.pow_dvd_pow 2 (by omega)
    rw [Int.emod_emod_of_dvd _ hdv]
    simp
  rw [wi64 (by omega) (by omega), e]
theorem half_eq (n : Int) : bits .and .i64 n 4611686018427387903 = n % 4611686018427387904 := band_low 62 (by omega) n
theorem b32_eq (n : Int) : bits .and .i64 n 4294967295 = n % 4294967296 := band_low 32 (by omega) n
/-- Clocks alike. -/
def eqC (c d : Clk) : Bool := c.la == d.la && (c.co == d.co && (c.pr == d.pr && (c.ho == d.ho && (c.ct == d.ct && (c.fl == d.fl && (c.ov == d.ov && (c.fi == d.fi && (c.inh == d.inh && (c.fr == d.fr && (c.pl == d.pl && (c.wa == d.wa && (c.be == d.be && true))))))))))))
theorem eqC_iff {c d : Clk} : eqC c d = true ↔ c = d := by
  obtain ⟨a1, a2, a3, a4, a5, a6, a7, a8, a9, a10, a11, a12, a13⟩ := c
  obtain ⟨b1, b2, b3, b4, b5, b6, b7, b8, b9, b10, b11, b12, b13⟩ := d
  unfold eqC
  simp only [Bool.and_eq_true, beq_iff_eq, and_true, Clk.mk.injEq]
theorem eqC_self (c : Clk) : eqC c c = true := eqC_iff.2 rfl
abbrev TT : Tree V := .leaf (vbool (.lit true))
abbrev FF : Tree V := .leaf (vbool (.lit false))
def msk (a : Int) : Int := bits .and .i64 a 4611686018427387903
theorem msk_eq (a : Int) : msk a = a % 4611686018427387904 := half_eq a
theorem msk_in (n : Int) : 0 ≤ msk n ∧ msk n < 4611686018427387904 := by
  rw [msk_eq]; exact ⟨Int.emod_nonneg _ (by decide), Int.emod_lt_of_pos _ (by decide)⟩
theorem okI_t {c : Clk} {n : Int} (h : K.okC c = true) (h0 : -9223372036854775808 ≤ n) (h1 : n < 9223372036854775808) : okI c n = true := by
  unfold okI isI; rw [h, decide_eq_true (by omega)]; rfl
end Go.Proofs.YthndmfgmlbdekaaDoor.Ev
