/- The sequencer over n cycles: walk and plain numbers joined. -/
import Derived.Test.YthndmfgmlbdekaaDoorTm7
namespace Go.Proofs.YthndmfgmlbdekaaDoor.Ev
open Go Go.RowKit
set_option linter.unusedVariables false
set_option linter.unusedSimpArgs false
set_option linter.constructorNameAsVariable false
theorem get_bind' {α β : Type} (f : α → Tree β) : ∀ t : Tree α, (t.bind f).get = t.get.bind fun x => (f x).get
  | .leaf x => rfl
  | .node true l r => get_bind' f l
  | .node false l r => get_bind' f r
  | .bad => rfl
theorem bind_congr {α β : Type} {f : α → Tree β} {t t' : Tree α} (h : t.get = t'.get) : (t.bind f).get = (t'.bind f).get := by rw [get_bind', get_bind', h]
theorem rMore_eq {c : Clk} {n : Int} (h : K.okC c = true) : rMore c n = K.more c n := by
  have h := okC_iff.1 h
  unfold rMore K.more
  rw [wu64 (by omega) (by omega), Bool.eq_iff_iff]
  simp only [cond_ite, decide_eq_true_eq]
  constructor
  · intro h1
    split at h1
    · split at h1
      · exact ⟨by assumption, .inl (by assumption)⟩
      · exact ⟨by assumption, .inr (of_decide_eq_true h1)⟩
    · cases h1
  · rintro ⟨h1, h2⟩
    rw [if_pos h1]
    split
    · rfl
    · exact decide_eq_true (by omega)
theorem loop_get (k : Nat) : ∀ (j : Nat) (c : Clk) (n : Int) (s : St), K.okv c = true → 0 ≤ n → n < 9223372036854775808 → meas c < j → headSt (keepS 0) s = stS c n →
    (evLoop j (headSt (keepS 0)) (evC (Cb.with sp2) 92 k keepS 0 bodyS) s).get = some (.ex 0, sX k (K.seqL j c n).1 (K.seqL j c n).2)
  | 0, _, _, _, _, _, _, h, _ => by omega
  | j + 1, c, n, s, hv, h0, h1, hm, hs => by
    show (seqO (evC (Cb.with sp2) 92 k keepS 0 bodyS (headSt (keepS 0) s)) (evLoop j (headSt (keepS 0)) (evC (Cb.with sp2) 92 k keepS 0 bodyS))).get = _
    rw [hs]
    have e := tS_eq k c n
    rw [rMore_eq (okv_iff.1 hv).1, hv] at e
    simp only [K.seqL]
    cases hmo : K.more c n with
    | true =>
      rw [hmo] at e
      have hpos := (more_iff.1 hmo).1
      have g : (tS k c n).get = some (.nrm, sB k c n) := by rw [e]; rfl
      rw [if_pos rfl]
      refine (seqO_of g).trans ?_
      refine loop_get k j (K.one c) (n - 1) _ (okv_one hv) (by omega) (by omega) (by have := meas_one hv hmo; omega) ?_
      rw [sB_eq, wu64 (by omega) (by omega)]
    | false =>
      rw [hmo] at e
      have g : (tS k c n).get = some (.ex 0, sX k c n) := by rw [e]; rfl
      rw [if_neg (by simp)]
      exact seqO_ex g (by simp)
theorem passed_nonneg {x r : Int} (hx : 0 ≤ x) (hr : 0 < r) (ms : List Int) : 0 ≤ K.passed x r ms ∧ K.passed x r ms ≤ (x / r + 1) * (ms.length : Int) := by
  have h0 : 0 ≤ x / r := Int.ediv_nonneg hx (by omega)
  have hc : ∀ (z : Int) (l : List Int), 0 ≤ K.cnt z l ∧ K.cnt z l ≤ (l.length : Int) := by
    intro z l
    induction l with
    | nil => simp [K.cnt]
    | cons m l ih => simp only [K.cnt, List.length_cons]; split <;> omega
  have h1 := hc (x % r) ms
  have h2 : 0 ≤ x / r * (ms.length : Int) := Int.mul_nonneg h0 (by omega)
  unfold K.passed
  rw [Int.add_mul]
  omega
theorem okP_of {x : Int} {fi : Bool} (h0 : 0 ≤ x) (h1 : x < 9223372036854841344) : okP x (K.rnd fi) = true := okP_iff.2 (by have := rnd_pos fi; omega)
theorem tail_get (k : Nat) {c : Clk} {n : Nat} (hv : K.okv c = true) (hn : (n : Int) < 9223372036854775808) (hw : n > 0 → c.wa = 0 ∧ c.pl < K.rnd c.fi) : (vals (tailS (k + 5) c n)).get = some (clkV (K.it K.one n c)) := by
  obtain ⟨h1, h2⟩ := okv_iff.1 hv
  have h1 := okC_iff.1 h1
  obtain ⟨h2, h3, h4⟩ := valid_iff.1 h2
  rw [tail_eq]
  rcases Nat.eq_zero_or_pos n with hz | hp
  · subst hz; rfl
  · obtain ⟨hw, hpl⟩ := hw hp
    rw [← tail_it hv hw hpl n]
    have hr := rnd_pos c.fi
    have e0 : ((n : Int) == 0) = false := by simp; omega
    have e1 : rTo c n = c.pl + n := by unfold rTo; rw [wu64 (x := c.pl) (by omega) (by omega), wu64 (by omega) (by omega)]
    have e2 : IntKind.u64.wrap c.pl = c.pl := wu64 (by omega) (by omega)
    have k1 := okP_of (fi := c.fi) (x := c.pl + n) (by omega) (by omega)
    have k2 := okP_of (fi := c.fi) (x := c.pl) (by omega) (by omega)
    have k3 : (K.rnd c.fi != 0) = true := by simp; omega
    have m1 := passed_mono_nat (fi := c.fi) (x := c.pl) (by omega) n
    have m2 := passed_nonneg (x := c.pl + n) (r := K.rnd c.fi) (by omega) (by omega) [7457, 14913, 22371, K.lastB c.fi]
    have m3 : (c.pl + n) / K.rnd c.fi < 922337203685485 := Int.ediv_lt_of_lt_mul (by omega) (by omega)
    simp only [List.length_cons, List.length_nil] at m2
    have m4 := passed_nonneg (x := c.pl) (r := K.rnd c.fi) (by omega) (by omega) [7457, 14913, 22371, K.lastB c.fi]
    have q0 := Int.emod_nonneg (c.pl + n) (by omega : K.rnd c.fi ≠ 0)
    have q1 := Int.emod_lt_of_pos (c.pl + n) (by omega : 0 < K.rnd c.fi)
    have e3 : rMarks c n = (K.tail c n).be := by
      unfold rMarks
      rw [e1, e2, wu64 (x := c.be) (by omega) (by omega), wu64 (x := c.be + _) (by omega) (by omega), wu64 (by omega) (by omega), Int.tmod_eq_emod_of_nonneg (by omega), wu8 (by omega) (by omega)]
      rfl
    have e4 : ∀ fr, rTl c n fr = { K.tail c n with fr := fr } := fun fr => by
      unfold rTl
      rw [e3, e1, Int.tmod_eq_emod_of_nonneg (by omega), wu16 q0 (by omega)]
      rfl
    have e5 : rAsk c n = (c.fr || decide (K.passed (c.pl + n) (K.rnd c.fi) [29828, 29829, 29830] > K.passed c.pl (K.rnd c.fi) [29828, 29829, 29830])) := by
      unfold rAsk
      rw [e1, e2, bif_or, Bool.or_comm]
    rw [e0, e1, e2, k1, k2, k3]
    simp only [Tree.get, cond_true, cond_false, e4, e5]
    have e6 : ∀ b, b = (K.tail c n).fr → clkV { K.tail c n with fr := b } = clkV (K.tail c n) := fun b hb => by rw [hb]
    cases hfi : c.fi with
    | true => exact congrArg some (e6 _ (by show c.fr = (c.fr || (!c.fi && _)); rw [hfi]; cases c.fr <;> rfl))
    | false =>
      cases hih : c.inh with
      | true => exact congrArg some (e6 _ (by show c.fr = (c.fr || (!c.fi && (!c.inh && _))); rw [hfi, hih]; cases c.fr <;> rfl))
      | false =>
        refine congrArg some (e6 _ ?_)
        show _ = (c.fr || (!c.fi && (!c.inh && _)))
        rw [hfi, hih]; rfl
theorem ok35 : FnOk (Cb.with sp2) 35 (onT (t2 .u64 okn fun c n => clkV (K.it K.one n.toNat c))) := FnOk.t2 good2 gsNodup Tryd.func35 (fun _ _ _ _ => rfl) (5 + 5) keepS_ok fun c n hc => by
  unfold okn at hc
  rw [Bool.and_eq_true, decide_eq_true_eq] at hc
  obtain ⟨hv, h0, h1⟩ := hc
  obtain ⟨m, rfl⟩ := Int.eq_ofNat_of_zero_le h0
  refine ⟨clkV (K.it K.one m c), ?_, fun _ => rfl⟩
  show (vals (evFn (Cb.with sp2) (5 + 5) keepS Tryd.f35 Cb.H0 3 [clkV c, vint .u64 (.sym (m : Int))])).get = _
  rw [ev35]
  obtain ⟨g1, g2⟩ := okv_iff.1 hv
  have g1 := okC_iff.1 g1
  obtain ⟨g2, _⟩ := valid_iff.1 g2
  have hm : meas c < 10 := by unfold meas; split <;> (try split) <;> omega
  have hl := loop_get (5 + 5) 10 c m _ hv (by omega) h1 hm (sA_eq (5 + 5) c m)
  obtain ⟨i, q, e1, e2, e3⟩ := seqL_spec 10 c m hv hm
  rw [e2] at hl
  have hu := unblock_of (id := 0) hl
  have ht := tail_get 5 (okv_it hv i) (n := q) (by omega) e3
  rw [← it_add, e1] at ht
  rw [← ht]
  unfold vals tailS
  exact bind_congr (bind_congr (seqO_of hu))
noncomputable def sp3 : List (Nat × Spec) := (35, onT (t2 .u64 okn fun c n => clkV (K.it K.one n.toNat c))) :: sp2
theorem good3 : Good (Cb.with sp3) := good2.cons Tryd.func35 (by kernel_rfl) (by kernel_rfl) ok35
end Go.Proofs.YthndmfgmlbdekaaDoor.Ev
