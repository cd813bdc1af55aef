/- n cycles of the sequencer are n times one cycle: plain numbers. -/
import Derived.Test.YthndmfgmlbdekaaDoorTm6
namespace Go.Proofs.YthndmfgmlbdekaaDoor.Ev
open Go Go.RowKit
set_option linter.unusedVariables false
set_option linter.unusedSimpArgs false
set_option linter.constructorNameAsVariable false
namespace K
/-- n times. -/
def it (f : Clk → Clk) : Nat → Clk → Clk
  | 0, c => c
  | n + 1, c => it f n (f c)
def tail (c : Clk) (n : Int) : Clk := { c with
  fr := c.fr || (!c.fi && (!c.inh && decide (passed (c.pl + n) (rnd c.fi) [29828, 29829, 29830] > passed c.pl (rnd c.fi) [29828, 29829, 29830])))
  pl := (c.pl + n) % rnd c.fi
  be := (c.be + passed (c.pl + n) (rnd c.fi) [7457, 14913, 22371, lastB c.fi] - passed c.pl (rnd c.fi) [7457, 14913, 22371, lastB c.fi]) % 64 }
def more (c : Clk) (n : Int) : Bool := decide (n > 0 ∧ (c.wa > 0 ∨ c.pl ≥ rnd c.fi))
def seqL : Nat → Clk → Int → Clk × Int
  | 0, c, n => (c, n)
  | j + 1, c, n => if more c n = true then seqL j (one c) (n - 1) else (c, n)
end K
theorem it_add (f : Clk → Clk) : ∀ (m n : Nat) (c : Clk), K.it f (m + n) c = K.it f n (K.it f m c)
  | 0, n, c => by rw [Nat.zero_add]; rfl
  | m + 1, n, c => by rw [Nat.succ_add]; exact it_add f m n (f c)
theorem it_succ (f : Clk → Clk) (n : Nat) (c : Clk) : K.it f (n + 1) c = f (K.it f n c) := by rw [it_add]; rfl
theorem rnd_cases (fi : Bool) : (fi = true ∧ K.rnd fi = 37282 ∧ K.lastB fi = 37281) ∨ (fi = false ∧ K.rnd fi = 29830 ∧ K.lastB fi = 29829) := by cases fi <;> simp [K.rnd, K.lastB]
theorem rnd_pos (fi : Bool) : 29830 ≤ K.rnd fi ∧ K.rnd fi ≤ 37282 := by cases fi <;> simp [K.rnd]
theorem okv_one {c : Clk} (h : K.okv c = true) : K.okv (K.one c) = true := by
  obtain ⟨h1, h2⟩ := okv_iff.1 h
  have h1 := okC_iff.1 h1
  obtain ⟨h2, h3, h4⟩ := valid_iff.1 h2
  have hr := rnd_pos c.fi
  have b1 := beatAt_range (fi := c.fi) (at_ := c.pl + 1) (b := c.be) (by omega) (by omega)
  have p1 : 0 ≤ K.wrapAt c.fi (c.pl + 1) ∧ K.wrapAt c.fi (c.pl + 1) ≤ 37281 := by unfold K.wrapAt; split <;> omega
  have e1 : 0 ≤ (K.one c).pl ∧ (K.one c).pl ≤ 37281 := by show 0 ≤ (if c.wa = 1 then (0 : Int) else _) ∧ (if c.wa = 1 then (0 : Int) else _) ≤ 37281; split <;> omega
  have e2 : 0 ≤ (K.one c).wa ∧ (K.one c).wa ≤ 4 := by show 0 ≤ (if c.wa = 0 then (0 : Int) else _) ∧ (if c.wa = 0 then (0 : Int) else _) ≤ 4; split <;> omega
  have e3 : 0 ≤ (K.one c).be ∧ (K.one c).be ≤ 63 := by show 0 ≤ (if c.wa = 1 ∧ c.fi = true then _ else _) ∧ (if c.wa = 1 ∧ c.fi = true then _ else _) ≤ 63; split <;> omega
  refine okv_iff.2 ⟨okC_iff.2 ⟨h1.1, h1.2.1, h1.2.2.1, h1.2.2.2.1, h1.2.2.2.2.1, by omega, by omega, by omega⟩, valid_iff.2 ⟨⟨h2.1, h2.2.1, by omega, by omega, by omega⟩, h3, fun hi => ?_⟩⟩
  have hi' : c.inh = true := hi
  show K.frAt c (c.pl + 1) = false
  unfold K.frAt
  rw [h4 hi', hi']
  cases c.fi <;> rfl
theorem okv_it {c : Clk} (h : K.okv c = true) : ∀ n, K.okv (K.it K.one n c) = true
  | 0 => h
  | n + 1 => by rw [it_succ]; exact okv_one (okv_it h n)

/-! The marks. -/
theorem ite_shift (p q : Prop) [Decidable p] [Decidable q] (h : p ↔ q) : (if p then (1 : Int) else 0) = if q then 1 else 0 := by
  by_cases hp : p
  · rw [if_pos hp, if_pos (h.1 hp)]
  · rw [if_neg hp, if_neg (fun hq => hp (h.2 hq))]
theorem step_mod {x r : Int} (hx : 0 ≤ x) (hr : 0 < r) : ((x + 1) % r = x % r + 1 ∧ (x + 1) / r = x / r ∧ x % r + 1 < r) ∨ ((x + 1) % r = 0 ∧ (x + 1) / r = x / r + 1 ∧ x % r + 1 = r) := by
  have h0 := Int.emod_nonneg x (by omega : r ≠ 0)
  have h1 := Int.emod_lt_of_pos x hr
  have h2 := Int.mul_ediv_add_emod x r
  by_cases h : x % r + 1 < r
  · left
    have e : x + 1 = (x % r + 1) + r * (x / r) := by omega
    refine ⟨?_, ?_, h⟩
    · rw [e, Int.add_mul_emod_self_left, Int.emod_eq_of_lt (by omega) h]
    · rw [e, Int.add_mul_ediv_left _ _ (by omega : r ≠ 0), Int.ediv_eq_zero_of_lt (by omega) h]; omega
  · right
    have h3 : x % r + 1 = r := by omega
    have e : x + 1 = r * (x / r + 1) := by rw [Int.mul_add]; omega
    refine ⟨?_, ?_, h3⟩
    · rw [e, Int.mul_emod_right]
    · rw [e, Int.mul_ediv_cancel_left _ (by omega : r ≠ 0)]
theorem marks_step {fi : Bool} {x : Int} (hx : 0 ≤ x) : K.passed (x + 1) (K.rnd fi) [7457, 14913, 22371, K.lastB fi] =
    K.passed x (K.rnd fi) [7457, 14913, 22371, K.lastB fi] + (if x % K.rnd fi + 1 = 7457 ∨ x % K.rnd fi + 1 = 14913 ∨ x % K.rnd fi + 1 = 22371 ∨ x % K.rnd fi + 1 = K.lastB fi then 1 else 0) := by
  have hr := rnd_cases fi
  have h0 := Int.emod_nonneg x (by omega : K.rnd fi ≠ 0)
  simp only [K.passed, K.cnt, List.length_cons, List.length_nil]
  rcases step_mod hx (by omega : 0 < K.rnd fi) with ⟨e1, e2, e3⟩ | ⟨e1, e2, e3⟩
  · rw [e1, e2]
    generalize x % K.rnd fi = q at *
    generalize x / K.rnd fi = d at *
    generalize K.rnd fi = r at *
    generalize K.lastB fi = l at *
    have hl : l = 37281 ∨ l = 29829 := by omega
    clear hr e1 e2
    by_cases c1 : q + 1 = 7457
    · rw [if_pos (show q + 1 = 7457 ∨ q + 1 = 14913 ∨ q + 1 = 22371 ∨ q + 1 = l by omega), if_pos (by omega : 7457 ≤ q + 1), if_neg (by omega : ¬ 7457 ≤ q), if_neg (by omega : ¬ 14913 ≤ q + 1), if_neg (by omega : ¬ 14913 ≤ q), if_neg (by omega : ¬ 22371 ≤ q + 1), if_neg (by omega : ¬ 22371 ≤ q), if_neg (by omega : ¬ l ≤ q + 1), if_neg (by omega : ¬ l ≤ q)]; omega
    by_cases c2 : q + 1 = 14913
    · rw [if_pos (show q + 1 = 7457 ∨ q + 1 = 14913 ∨ q + 1 = 22371 ∨ q + 1 = l by omega), if_pos (by omega : 7457 ≤ q + 1), if_pos (by omega : 7457 ≤ q), if_pos (by omega : 14913 ≤ q + 1), if_neg (by omega : ¬ 14913 ≤ q), if_neg (by omega : ¬ 22371 ≤ q + 1), if_neg (by omega : ¬ 22371 ≤ q), if_neg (by omega : ¬ l ≤ q + 1), if_neg (by omega : ¬ l ≤ q)]; omega
    by_cases c3 : q + 1 = 22371
    · rw [if_pos (show q + 1 = 7457 ∨ q + 1 = 14913 ∨ q + 1 = 22371 ∨ q + 1 = l by omega), if_pos (by omega : 7457 ≤ q + 1), if_pos (by omega : 7457 ≤ q), if_pos (by omega : 14913 ≤ q + 1), if_pos (by omega : 14913 ≤ q), if_pos (by omega : 22371 ≤ q + 1), if_neg (by omega : ¬ 22371 ≤ q), if_neg (by omega : ¬ l ≤ q + 1), if_neg (by omega : ¬ l ≤ q)]; omega
    by_cases c4 : q + 1 = l
    · rw [if_pos (show q + 1 = 7457 ∨ q + 1 = 14913 ∨ q + 1 = 22371 ∨ q + 1 = l by omega), if_pos (by omega : 7457 ≤ q + 1), if_pos (by omega : 7457 ≤ q), if_pos (by omega : 14913 ≤ q + 1), if_pos (by omega : 14913 ≤ q), if_pos (by omega : 22371 ≤ q + 1), if_pos (by omega : 22371 ≤ q), if_pos (by omega : l ≤ q + 1), if_neg (by omega : ¬ l ≤ q)]; omega
    · rw [if_neg (by omega : ¬ (q + 1 = 7457 ∨ q + 1 = 14913 ∨ q + 1 = 22371 ∨ q + 1 = l)), ite_shift (7457 ≤ q + 1) (7457 ≤ q) (by omega), ite_shift (14913 ≤ q + 1) (14913 ≤ q) (by omega), ite_shift (22371 ≤ q + 1) (22371 ≤ q) (by omega), ite_shift (l ≤ q + 1) (l ≤ q) (by omega)]; omega
  · rw [e1, e2, if_neg (by omega : ¬ (x % K.rnd fi + 1 = 7457 ∨ x % K.rnd fi + 1 = 14913 ∨ x % K.rnd fi + 1 = 22371 ∨ x % K.rnd fi + 1 = K.lastB fi))]
    generalize x % K.rnd fi = q at *
    generalize x / K.rnd fi = d at *
    rw [if_neg (by omega : ¬ (7457 : Int) ≤ 0), if_neg (by omega : ¬ (14913 : Int) ≤ 0), if_neg (by omega : ¬ (22371 : Int) ≤ 0), if_neg (by omega : ¬ K.lastB fi ≤ 0), if_pos (by omega : 7457 ≤ q), if_pos (by omega : 14913 ≤ q), if_pos (by omega : 22371 ≤ q), if_pos (by omega : K.lastB fi ≤ q)]
    omega
theorem asks_step {x : Int} (hx : 0 ≤ x) : K.passed (x + 1) 29830 [29828, 29829, 29830] = K.passed x 29830 [29828, 29829, 29830] + (if 29828 ≤ x % 29830 + 1 then 1 else 0) := by
  have h0 := Int.emod_nonneg x (by omega : (29830 : Int) ≠ 0)
  simp only [K.passed, K.cnt, List.length_cons, List.length_nil]
  rcases step_mod hx (by omega : (0 : Int) < 29830) with ⟨e1, e2, e3⟩ | ⟨e1, e2, e3⟩
  · rw [e1, e2]
    generalize x % 29830 = q at *
    generalize x / 29830 = d at *
    clear e1 e2
    by_cases c1 : q + 1 < 29828
    · rw [if_neg (by omega : ¬ 29828 ≤ q + 1), if_neg (by omega : ¬ 29828 ≤ q), if_neg (by omega : ¬ 29829 ≤ q + 1), if_neg (by omega : ¬ 29829 ≤ q), if_neg (by omega : ¬ 29830 ≤ q + 1), if_neg (by omega : ¬ 29830 ≤ q)]; omega
    by_cases c2 : q + 1 = 29828
    · rw [if_pos (by omega : 29828 ≤ q + 1), if_neg (by omega : ¬ 29828 ≤ q), if_neg (by omega : ¬ 29829 ≤ q + 1), if_neg (by omega : ¬ 29829 ≤ q), if_neg (by omega : ¬ 29830 ≤ q + 1), if_neg (by omega : ¬ 29830 ≤ q)]; omega
    · rw [if_pos (by omega : 29828 ≤ q + 1), if_pos (by omega : 29828 ≤ q), if_pos (by omega : 29829 ≤ q + 1), if_neg (by omega : ¬ 29829 ≤ q), if_neg (by omega : ¬ 29830 ≤ q + 1), if_neg (by omega : ¬ 29830 ≤ q)]; omega
  · rw [e1, e2]
    generalize x % 29830 = q at *
    generalize x / 29830 = d at *
    rw [if_neg (by omega : ¬ (29828 : Int) ≤ 0), if_neg (by omega : ¬ (29829 : Int) ≤ 0), if_neg (by omega : ¬ (29830 : Int) ≤ 0), if_pos (by omega : 29828 ≤ q), if_pos (by omega : 29829 ≤ q), if_neg (by omega : ¬ 29830 ≤ q), if_pos (by omega : 29828 ≤ q + 1)]
    omega
theorem passed_mono_nat {fi : Bool} {x : Int} (hx : 0 ≤ x) : ∀ n : Nat, K.passed x (K.rnd fi) [7457, 14913, 22371, K.lastB fi] ≤ K.passed (x + n) (K.rnd fi) [7457, 14913, 22371, K.lastB fi]
  | 0 => by simp
  | n + 1 => by
    have h := passed_mono_nat (fi := fi) hx n
    have h2 := marks_step (fi := fi) (x := x + n) (by omega)
    rw [show x + ((n + 1 : Nat) : Int) = x + n + 1 by omega, h2]
    split <;> omega
theorem asks_mono_nat {x : Int} (hx : 0 ≤ x) : ∀ n : Nat, K.passed x 29830 [29828, 29829, 29830] ≤ K.passed (x + n) 29830 [29828, 29829, 29830]
  | 0 => by simp
  | n + 1 => by
    have h := asks_mono_nat hx n
    have h2 := asks_step (x := x + n) (by omega)
    rw [show x + ((n + 1 : Nat) : Int) = x + n + 1 by omega, h2]
    split <;> omega
theorem Clk.ext' {a b : Clk} (h1 : a.la = b.la) (h2 : a.co = b.co) (h3 : a.pr = b.pr) (h4 : a.ho = b.ho) (h5 : a.ct = b.ct) (h6 : a.fl = b.fl) (h7 : a.ov = b.ov) (h8 : a.fi = b.fi) (h9 : a.inh = b.inh) (h10 : a.fr = b.fr) (h11 : a.pl = b.pl) (h12 : a.wa = b.wa) (h13 : a.be = b.be) : a = b := by
  cases a; cases b; simp_all
/-- Where nothing is waited for and the place is in the round, the closed form is n single cycles. -/
theorem tail_it {c : Clk} (h : K.okv c = true) (hw : c.wa = 0) (hp : c.pl < K.rnd c.fi) : ∀ n : Nat, K.tail c n = K.it K.one n c
  | 0 => by
    obtain ⟨h1, h2⟩ := okv_iff.1 h
    have h1 := okC_iff.1 h1
    obtain ⟨h2, h3, h4⟩ := valid_iff.1 h2
    refine Clk.ext' rfl rfl rfl rfl rfl rfl rfl rfl rfl ?_ ?_ rfl ?_
    · show (c.fr || _) = c.fr
      rw [show (c.pl + ((0 : Nat) : Int)) = c.pl by omega, decide_eq_false (by omega)]
      cases c.fr <;> cases c.fi <;> cases c.inh <;> rfl
    · show (c.pl + ((0 : Nat) : Int)) % _ = c.pl
      rw [show (c.pl + ((0 : Nat) : Int)) = c.pl by omega]
      exact Int.emod_eq_of_lt (by omega) hp
    · show (c.be + K.passed (c.pl + ((0 : Nat) : Int)) _ _ - _) % 64 = c.be
      rw [show (c.pl + ((0 : Nat) : Int)) = c.pl by omega]
      omega
  | n + 1 => by
    obtain ⟨h1, h2⟩ := okv_iff.1 h
    have h1 := okC_iff.1 h1
    obtain ⟨h2, h3, h4⟩ := valid_iff.1 h2
    rw [it_succ, ← tail_it h hw hp n]
    have hx : 0 ≤ c.pl + n := by omega
    have hr := rnd_pos c.fi
    have q0 := Int.emod_nonneg (c.pl + n) (by omega : K.rnd c.fi ≠ 0)
    have q1 := Int.emod_lt_of_pos (c.pl + n) (by omega : 0 < K.rnd c.fi)
    have es : c.pl + ((n + 1 : Nat) : Int) = c.pl + n + 1 := by omega
    have hm := marks_step (fi := c.fi) hx
    have w1 : ¬ c.wa = 1 := by omega
    refine Clk.ext' rfl rfl rfl rfl rfl rfl rfl rfl rfl ?_ ?_ ?_ ?_
    · show (c.fr || _) = K.frAt (K.tail c n) ((c.pl + n) % K.rnd c.fi + 1)
      unfold K.frAt
      show _ = ((c.fr || (!c.fi && (!c.inh && decide (K.passed (c.pl + n) (K.rnd c.fi) [29828, 29829, 29830] > K.passed c.pl (K.rnd c.fi) [29828, 29829, 29830])))) || (!c.fi && (!c.inh && _)))
      cases hfi : c.fi with
      | true => cases c.fr <;> rfl
      | false =>
        rw [hfi] at q0 q1
        have hr0 : K.rnd false = 29830 := rfl
        have key : K.passed (c.pl + n + 1) (K.rnd false) [29828, 29829, 29830] = K.passed (c.pl + n) (K.rnd false) [29828, 29829, 29830] + (if 29828 ≤ (c.pl + n) % K.rnd false + 1 then 1 else 0) := asks_step hx
        have hmono : K.passed c.pl (K.rnd false) [29828, 29829, 29830] ≤ K.passed (c.pl + n) (K.rnd false) [29828, 29829, 29830] := asks_mono_nat (x := c.pl) (by omega) n
        rw [es, key]
        cases c.inh with
        | true => cases c.fr <;> rfl
        | false =>
          cases c.fr with
          | true => rfl
          | false =>
            simp only [Bool.not_false, Bool.true_and, Bool.false_or]
            by_cases ha : 29828 ≤ (c.pl + n) % K.rnd false + 1
            · rw [if_pos ha, decide_eq_true (by omega), decide_eq_true (p := 29828 ≤ (c.pl + n) % K.rnd false + 1 ∧ (c.pl + n) % K.rnd false + 1 ≤ 29830) ⟨ha, by omega⟩, Bool.or_true]
            · rw [if_neg ha, decide_eq_false (p := 29828 ≤ (c.pl + n) % K.rnd false + 1 ∧ (c.pl + n) % K.rnd false + 1 ≤ 29830) (fun h => ha h.1), Bool.or_false, Int.add_zero]
    · show (c.pl + ((n + 1 : Nat) : Int)) % K.rnd c.fi = if c.wa = 1 then 0 else K.wrapAt c.fi ((c.pl + n) % K.rnd c.fi + 1)
      rw [if_neg w1, es]
      unfold K.wrapAt
      rcases step_mod hx (by omega : 0 < K.rnd c.fi) with ⟨e1, e2, e3⟩ | ⟨e1, e2, e3⟩
      · rw [e1, if_pos e3]
      · rw [e1, if_neg (by omega)]
    · show c.wa = if c.wa = 0 then 0 else c.wa - 1
      rw [if_pos hw, hw]
    · show (c.be + K.passed (c.pl + ((n + 1 : Nat) : Int)) _ _ - _) % 64 = if c.wa = 1 ∧ c.fi = true then _ else K.beatAt c.fi ((c.pl + n) % K.rnd c.fi + 1) (K.tail c n).be
      rw [if_neg (fun h => w1 h.1), es, hm]
      show _ = K.beatAt c.fi ((c.pl + n) % K.rnd c.fi + 1) ((c.be + K.passed (c.pl + n) (K.rnd c.fi) [7457, 14913, 22371, K.lastB c.fi] - K.passed c.pl (K.rnd c.fi) [7457, 14913, 22371, K.lastB c.fi]) % 64)
      unfold K.beatAt
      split
      · omega
      · omega
def meas (c : Clk) : Nat := if c.wa > 0 then c.wa.toNat else if c.pl ≥ K.rnd c.fi then 1 else 0
theorem more_iff {c : Clk} {n : Int} : K.more c n = true ↔ n > 0 ∧ (c.wa > 0 ∨ c.pl ≥ K.rnd c.fi) := by unfold K.more; rw [decide_eq_true_eq]
theorem meas_one {c : Clk} (h : K.okv c = true) {n : Int} (hm : K.more c n = true) : meas (K.one c) < meas c := by
  obtain ⟨h1, h2⟩ := okv_iff.1 h
  have h1 := okC_iff.1 h1
  obtain ⟨h2, h3, h4⟩ := valid_iff.1 h2
  have hm := more_iff.1 hm
  have hr := rnd_pos c.fi
  unfold meas
  have e1 : (K.one c).wa = if c.wa = 0 then 0 else c.wa - 1 := rfl
  have e2 : (K.one c).pl = if c.wa = 1 then 0 else K.wrapAt c.fi (c.pl + 1) := rfl
  have e3 : (K.one c).fi = c.fi := rfl
  rw [e1, e2, e3]
  have e4 : K.wrapAt c.fi (c.pl + 1) < K.rnd c.fi := by unfold K.wrapAt; split <;> omega
  by_cases w0 : c.wa = 0
  · rw [if_pos w0, if_neg (by omega : ¬ c.wa = 1), if_neg (by omega : ¬ (0 : Int) > 0), if_neg (by omega), if_neg (by omega : ¬ c.wa > 0), if_pos (by omega)]; omega
  · rw [if_neg w0, if_pos (by omega : c.wa > 0)]
    by_cases w1 : c.wa = 1
    · rw [if_pos w1, if_neg (by omega), if_neg (by omega)]; omega
    · rw [if_pos (by omega : c.wa - 1 > 0)]; omega
/-- The loop's end, and what it has done. -/
theorem seqL_spec : ∀ (j : Nat) (c : Clk) (n : Nat), K.okv c = true → meas c < j → ∃ i m : Nat, i + m = n ∧ K.seqL j c n = (K.it K.one i c, (m : Int)) ∧ (m > 0 → (K.it K.one i c).wa = 0 ∧ (K.it K.one i c).pl < K.rnd (K.it K.one i c).fi)
  | 0, c, n, _, h => by omega
  | j + 1, c, n, h, hm => by
    simp only [K.seqL]
    by_cases hmo : K.more c n = true
    · rw [if_pos hmo]
      have h1 := more_iff.1 hmo
      obtain ⟨n', rfl⟩ : ∃ n', n = n' + 1 := ⟨n - 1, by omega⟩
      obtain ⟨i, m, e1, e2, e3⟩ := seqL_spec j (K.one c) n' (okv_one h) (by have := meas_one h hmo; omega)
      refine ⟨i + 1, m, by omega, ?_, e3⟩
      rw [show ((n' + 1 : Nat) : Int) - 1 = n' by omega, e2]; rfl
    · rw [if_neg hmo]
      refine ⟨0, n, by omega, rfl, fun hn => ?_⟩
      obtain ⟨h1, h2⟩ := okv_iff.1 h
      have h1 := okC_iff.1 h1
      have h3 : ¬ (((n : Int) > 0) ∧ (c.wa > 0 ∨ c.pl ≥ K.rnd c.fi)) := fun h => hmo (more_iff.2 h)
      show c.wa = 0 ∧ c.pl < K.rnd c.fi
      omega
end Go.Proofs.YthndmfgmlbdekaaDoor.Ev
