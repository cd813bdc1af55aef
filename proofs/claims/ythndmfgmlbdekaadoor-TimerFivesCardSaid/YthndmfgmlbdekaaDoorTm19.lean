/- Next of the program; the document's way to the sequencer's interrupt. -/
import Derived.Test.YthndmfgmlbdekaaDoorTm18
namespace Go.Proofs.YthndmfgmlbdekaaDoor.Ev
open Go Go.RowKit
set_option linter.unusedVariables false
set_option linter.unusedSimpArgs false
set_option linter.constructorNameAsVariable false
theorem ev32 (c : Clk) : vals (evFn (Cb.with spD) 1 (fun _ => none) Tryd.f32 Cb.H0 3 [clkV c]) = .node (K.okC c) (.node (!K.valid c) (.leaf (vint .i64 (.lit 4611686018427387904))) (.node (K.okC c) (.node (K.irq c) (.leaf (vint .i64 (.lit 0)))
  (.node (K.okC c) (.node (K.okv c) (.leaf (vint .i64 (.sym (if K.nf c < K.no c then K.nf c else K.no c)))) .bad) .bad)) .bad)) .bad := by kernel_rfl
theorem ok32 : FnOk (Cb.with spD) 32 (onT (t1 K.okC fun c => vint .i64 (.sym (K.next c)))) := FnOk.t1 goodD gsNodup Tryd.func32 (fun _ _ _ => rfl) 1 keep_none fun c hc => by
  show ∃ v', (vals (evFn (Cb.with spD) 1 (fun _ => none) Tryd.f32 Cb.H0 3 [clkV c])).get = some v' ∧ _
  rw [ev32, hc]
  unfold K.next
  cases hv : K.valid c with
  | false => exact ⟨_, rfl, fun _ => rfl⟩
  | true =>
    cases hi : K.irq c with
    | true => exact ⟨_, rfl, fun _ => rfl⟩
    | false => rw [okv_iff.2 ⟨hc, hv⟩]; exact ⟨_, rfl, fun _ => rfl⟩
theorem First.of_mixed {t s : Clk} {r : Int} (h : First (K.mixed t s) r) : First s r := by
  obtain ⟨a, b, d⟩ := h
  refine ⟨a, ?_, fun m hm => ?_⟩
  · rw [it_mixed] at b; exact b
  · have := d m hm
    rw [it_mixed] at this; exact this
def akT (wa : Int) : Nat → Clk → Int → Tree V
  | 0, _, _ => .bad
  | j + 1, d, i => .node (decide (i + 1 ≤ IntKind.i64.wrap wa)) (.node (K.okC d) (.node (K.adv d 1).fr (.leaf (vint .i64 (.lit (i + 1)))) (akT wa j (K.adv d 1) (i + 1))) .bad)
      (.node (decide (IntKind.i64.wrap d.pl < 29828)) (.leaf (vint .i64 (.sym (IntKind.i64.wrap (IntKind.i64.wrap (IntKind.i64.wrap wa + 29828) - IntKind.i64.wrap d.pl)))))
        (.node (decide (IntKind.i64.wrap d.pl < 29830)) (.leaf (vint .i64 (.sym (IntKind.i64.wrap (IntKind.i64.wrap wa + 1))))) (.leaf (vint .i64 (.sym (IntKind.i64.wrap (IntKind.i64.wrap (IntKind.i64.wrap wa + 1) + 29828)))))))
theorem ev45 (c : Clk) : vals (evFn (Cb.with spD) 6 (fun _ => none) Tryd.f45 Cb.H0 3 [clkV c]) = akT c.wa 6 c 0 := by kernel_rfl
theorem akT_get (wa : Int) (hwa : wa ≤ 4) : ∀ (j : Nat) (d : Clk) (i : Int), K.okv d = true → d.fi = false → d.inh = false → d.fr = false → d.wa = wa - i → wa - i < j → 0 ≤ i →
    ∃ v' r, (akT wa j d i).get = some v' ∧ First d r ∧ ∀ ρ, v'.den ρ = (vint .i64 (.sym (r + i))).den ρ
  | 0, d, i, h, _, _, _, hd, hj, _ => by
    have h1 := okC_iff.1 (okv_iff.1 h).1
    omega
  | j + 1, d, i, h, hfi, hin, hfr, hd, hj, hi => by
    have h1 := okC_iff.1 (okv_iff.1 h).1
    have h2 := (valid_iff.1 (okv_iff.1 h).2).1
    unfold akT
    rw [wi64 (x := wa) (by omega) (by omega), wi64 (x := d.pl) (by omega) (by omega), wi64 (x := wa + 29828) (by omega) (by omega), wi64 (x := wa + 1) (by omega) (by omega), (okv_iff.1 h).1]
    by_cases hc : i + 1 ≤ wa
    · rw [decide_eq_true hc]
      have e : K.adv d 1 = K.mixed (K.count d 1) (K.one d) := adv_mixed h (by omega)
      have ef : (K.adv d 1).fr = (K.one d).fr := by rw [e]; rfl
      rw [ef]
      cases ho : (K.one d).fr with
      | true => exact ⟨_, 1, rfl, ⟨by omega, ho, fun m hm => by (obtain rfl : m = 0 := by omega); exact hfr⟩, fun ρ => by rw [Int.add_comm]; rfl⟩
      | false =>
        obtain ⟨v', r, g1, g2, g3⟩ := akT_get wa hwa j (K.adv d 1) (i + 1) (okv_adv h) (by rw [e]; exact hfi) (by rw [e]; exact hin) (by rw [ef]; exact ho) (by
          rw [e]; show (if d.wa = 0 then 0 else d.wa - 1) = _; rw [if_neg (by omega)]; omega) (by omega) (by omega)
        refine ⟨v', r + 1, g1, First.step hfr ho (First.of_mixed (e ▸ g2)), fun ρ => ?_⟩
        rw [g3, show r + (i + 1) = r + 1 + i by omega]
    · rw [decide_eq_false hc]
      have w0 : d.wa = 0 := by omega
      by_cases p1 : d.pl < 29828
      · rw [decide_eq_true p1]
        refine ⟨_, 29828 - d.pl, rfl, ?_, fun ρ => ?_⟩
        · have := first_base w0 (by omega) (by omega) hfi hin hfr
          rw [show (if 29828 - d.pl > 1 then 29828 - d.pl else 1) = 29828 - d.pl by split <;> omega] at this
          exact this
        · rw [wi64 (by omega) (by omega), show wa + 29828 - d.pl = 29828 - d.pl + i by omega]
      · rw [decide_eq_false p1]
        by_cases p2 : d.pl < 29830
        · rw [decide_eq_true p2]
          refine ⟨_, 1, rfl, ?_, fun ρ => ?_⟩
          · have := first_base w0 (by omega) (by omega) hfi hin hfr
            rw [if_neg (by omega)] at this
            exact this
          · rw [show wa + 1 = 1 + i by omega]
        · rw [decide_eq_false p2]
          have o1 : (K.one d).fr = false := by
            show K.frAt d (d.pl + 1) = false
            unfold K.frAt; rw [hfr, hfi, hin, decide_eq_false (by omega)]; rfl
          have o2 : (K.one d).pl = 0 := by
            show (if d.wa = 1 then 0 else K.wrapAt d.fi (d.pl + 1)) = 0
            rw [if_neg (by omega), hfi]
            exact if_neg (show ¬ d.pl + 1 < 29830 by omega)
          have o3 : (K.one d).wa = 0 := by
            show (if d.wa = 0 then 0 else d.wa - 1) = 0
            rw [if_pos w0]
          refine ⟨_, 29829, rfl, ?_, fun ρ => ?_⟩
          · have := first_base (c := K.one d) o3 (by omega) (by omega) hfi hin o1
            rw [o2] at this
            exact First.step hfr o1 this
          · rw [wi64 (by omega) (by omega), show wa + 1 + 29828 = 29829 + i by omega]
def okA (c : Clk) : Bool := K.okv c && (!c.fi && (!c.inh && !c.fr))
theorem ok45 : FnOk (Cb.with spD) 45 (onT (t1 okA fun c => vint .i64 (.sym (K.nf c)))) := FnOk.t1 goodD gsNodup Tryd.func45 (fun _ _ _ => rfl) 6 keep_none fun c hc => by
  show ∃ v', (vals (evFn (Cb.with spD) 6 (fun _ => none) Tryd.f45 Cb.H0 3 [clkV c])).get = some v' ∧ _
  unfold okA at hc
  simp only [Bool.and_eq_true, Bool.not_eq_true'] at hc
  obtain ⟨h, hfi, hin, hfr⟩ := hc
  have h2 := (valid_iff.1 (okv_iff.1 h).2).1
  rw [ev45]
  obtain ⟨v', r, g1, g2, g3⟩ := akT_get c.wa (by omega) 6 c 0 h hfi hin hfr (by omega) (by omega) (by omega)
  refine ⟨v', g1, fun ρ => ?_⟩
  rw [g3, g2.uniq (nf_first h hfi hin hfr).1, Int.add_zero]
noncomputable def spE : List (Nat × Spec) := (45, onT (t1 okA fun c => vint .i64 (.sym (K.nf c)))) :: (32, onT (t1 K.okC fun c => vint .i64 (.sym (K.next c)))) :: spD
theorem goodE : Good (Cb.with spE) := (goodD.cons Tryd.func32 (by kernel_rfl) (by kernel_rfl) ok32).cons Tryd.func45 (by kernel_rfl) (by kernel_rfl) ok45
end Go.Proofs.YthndmfgmlbdekaaDoor.Ev
