/- Advance, Tick and Irq of clocks. -/
import Derived.Test.YthndmfgmlbdekaaDoorTm8
namespace Go.Proofs.YthndmfgmlbdekaaDoor.Ev
open Go Go.RowKit
set_option linter.unusedVariables false
set_option linter.unusedSimpArgs false
set_option linter.constructorNameAsVariable false
namespace K
def adv (c : Clk) (n : Int) : Clk := if n < 1 ∨ valid c = false then c else it one n.toNat (count c n)
def irq (c : Clk) : Bool := valid c && (c.fr || (c.fl && decide (c.ct / 2 % 2 = 1)))
end K
theorem dvn_pred {ct : Int} (h : ct % 2 = 1) : K.dvn (ct - 1) = K.dvn ct := by
  unfold K.dvn
  rw [show (ct - 1) / 8 % 4 = ct / 8 % 4 by omega]
theorem okv_count {c : Clk} {n : Int} (h : K.okv c = true) (hn : 0 ≤ n) : K.okv (K.count c n) = true := by
  obtain ⟨h1, h2⟩ := okv_iff.1 h
  have h1 := okC_iff.1 h1
  obtain ⟨h2, h3, h4⟩ := valid_iff.1 h2
  have hd := dvn_cases c.ct
  have hd0 : K.dvn c.ct > 0 := by omega
  have hq0 : 0 ≤ (c.pr + n) / K.dvn c.ct := Int.ediv_nonneg (by omega) (by omega)
  have hr0 : 0 ≤ (c.pr + n) % K.dvn c.ct := Int.emod_nonneg _ (by omega)
  have hr1 : (c.pr + n) % K.dvn c.ct < K.dvn c.ct := Int.emod_lt_of_pos _ hd0
  unfold K.count
  split
  · exact h
  · split
    · refine okv_iff.2 ⟨okC_iff.2 ?_, valid_iff.2 ⟨?_, h3, h4⟩⟩
      · exact ⟨h1.1, ⟨by show 0 ≤ c.co - _; omega, by show c.co - _ < 65536; omega⟩, ⟨hr0, by show _ % _ < (65536 : Int); omega⟩, h1.2.2.2⟩
      · exact ⟨h2.1, hr1, h2.2.2⟩
    · split
      · refine okv_iff.2 ⟨okC_iff.2 ?_, valid_iff.2 ⟨?_, fun _ => rfl, h4⟩⟩
        · exact ⟨h1.1, h1.1, by show (0 : Int) ≤ 0 ∧ (0 : Int) < 65536; omega, h1.2.2.2.1, by show 0 ≤ c.ct - 1 ∧ c.ct - 1 < 256; omega, h1.2.2.2.2.2⟩
        · refine ⟨by show c.ct - 1 < 32; omega, ?_, h2.2.2⟩
          show (0 : Int) < K.dvn (c.ct - 1)
          rw [dvn_pred (by omega)]
          exact hd0
      · have m0 : 0 ≤ ((c.pr + n) / K.dvn c.ct - (c.co + 1)) % (c.la + 1) := Int.emod_nonneg _ (by omega)
        have m1 : ((c.pr + n) / K.dvn c.ct - (c.co + 1)) % (c.la + 1) < c.la + 1 := Int.emod_lt_of_pos _ (by omega)
        refine okv_iff.2 ⟨okC_iff.2 ?_, valid_iff.2 ⟨?_, fun _ => rfl, h4⟩⟩
        · exact ⟨h1.1, ⟨by show 0 ≤ c.la - _; omega, by show c.la - _ < 65536; omega⟩, ⟨hr0, by show _ % _ < (65536 : Int); omega⟩, h1.2.2.2⟩
        · exact ⟨h2.1, hr1, h2.2.2⟩
theorem okv_adv {c : Clk} {n : Int} (h : K.okv c = true) : K.okv (K.adv c n) = true := by
  unfold K.adv
  split
  · exact h
  · exact okv_it (okv_count h (by omega)) _
theorem okC_adv {c : Clk} {n : Int} (h : K.okC c = true) : K.okC (K.adv c n) = true := by
  cases hv : K.valid c with
  | true => exact (okv_iff.1 (okv_adv (okv_iff.2 ⟨h, hv⟩))).1
  | false => unfold K.adv; rw [if_pos (.inr hv)]; exact h
def isI (n : Int) : Bool := decide (-9223372036854775808 ≤ n ∧ n < 9223372036854775808)
def okI (c : Clk) (n : Int) : Bool := K.okC c && isI n
def isRest (c : Clk) : Bool := c.la == c.la && (c.co == c.co && (c.pr == 0 && (c.ho == c.ho && (c.ct == 0 && (c.fl == false && (c.ov == false && (c.fi == false && (c.inh == false && (c.fr == false && (c.pl == c.pl && (c.wa == 0 && (c.be == c.be && true))))))))))))
theorem ev21 (c : Clk) (n : Int) : vals (evFn (Cb.with sp3) 1 (fun _ => none) Tryd.f21 Cb.H0 3 [clkV c, vint .i64 (.sym n)]) =
    .node (decide (n < 1)) (.leaf (clkV c)) (.node (K.okC c) (.node (!K.valid c) (.leaf (clkV c)) (.node (isRest c)
      (.node (okn c (IntKind.u64.wrap n)) (.leaf (clkV (K.it K.one (IntKind.u64.wrap n).toNat c))) .bad)
      (.node (okn c (IntKind.u64.wrap n)) (.node (okn (K.count c (IntKind.u64.wrap n)) (IntKind.u64.wrap n)) (.leaf (clkV (K.it K.one (IntKind.u64.wrap n).toNat (K.count c (IntKind.u64.wrap n))))) .bad) .bad))) .bad) := by kernel_rfl
theorem ok21 : FnOk (Cb.with sp3) 21 (onT (t2 .i64 okI fun c n => clkV (K.adv c n))) := FnOk.t2 good3 gsNodup Tryd.func21 (fun _ _ _ _ => rfl) 1 keep_none fun c n hc => by
  unfold okI isI at hc
  rw [Bool.and_eq_true, decide_eq_true_eq] at hc
  obtain ⟨hC, hn⟩ := hc
  show ∃ v', (vals (evFn (Cb.with sp3) 1 (fun _ => none) Tryd.f21 Cb.H0 3 [clkV c, vint .i64 (.sym n)])).get = some v' ∧ _
  rw [ev21, hC]
  by_cases h1 : n < 1
  · rw [decide_eq_true h1]
    exact ⟨_, rfl, fun _ => by unfold K.adv; rw [if_pos (.inl h1)]⟩
  · rw [decide_eq_false h1, wu64 (by omega) (by omega)]
    cases hv : K.valid c with
    | false => exact ⟨_, rfl, fun _ => by unfold K.adv; rw [if_pos (.inr hv)]⟩
    | true =>
      have hok := okv_iff.2 ⟨hC, hv⟩
      have k1 : okn c n = true := by unfold okn; rw [hok, decide_eq_true (by omega)]; rfl
      have k2 : okn (K.count c n) n = true := by unfold okn; rw [okv_count hok (by omega), decide_eq_true (by omega)]; rfl
      rw [k1, k2]
      have hadv : K.adv c n = K.it K.one n.toNat (K.count c n) := by unfold K.adv; rw [if_neg (by rw [hv]; simp; omega)]
      cases hr : isRest c with
      | false => exact ⟨_, rfl, fun _ => by rw [hadv]⟩
      | true =>
        refine ⟨_, rfl, fun _ => ?_⟩
        have : K.count c n = c := by
          unfold isRest at hr
          simp only [Bool.and_eq_true, beq_iff_eq] at hr
          unfold K.count
          rw [if_pos (by omega)]
        rw [hadv, this]
theorem ev25 (c : Clk) : vals (evFn (Cb.with ((21, onT (t2 .i64 okI fun c n => clkV (K.adv c n))) :: sp3)) 1 (fun _ => none) Tryd.f25 Cb.H0 3 [clkV c]) = .node (okI c 1) (.leaf (clkV (K.adv c 1))) .bad := by kernel_rfl
noncomputable def sp4 : List (Nat × Spec) := (21, onT (t2 .i64 okI fun c n => clkV (K.adv c n))) :: sp3
theorem good4 : Good (Cb.with sp4) := good3.cons Tryd.func21 (by kernel_rfl) (by kernel_rfl) ok21
theorem ok25 : FnOk (Cb.with sp4) 25 (onT (t1 K.okC fun c => clkV (K.adv c 1))) := FnOk.t1 good4 gsNodup Tryd.func25 (fun _ _ _ => rfl) 1 keep_none fun c hc => by
  refine ⟨clkV (K.adv c 1), ?_, fun _ => rfl⟩
  show (vals (evFn (Cb.with sp4) 1 (fun _ => none) Tryd.f25 Cb.H0 3 [clkV c])).get = _
  have := ev25 c
  unfold sp4
  rw [this]
  unfold okI
  rw [hc]; rfl
def rIrq (c : Clk) : Bool := bif K.valid c then bif c.fr then true else bif c.fl then bits .and .u8 c.ct 2 != 0 else false else false
theorem ev28 (c : Clk) : vals (evFn (Cb.with sp4) 1 (fun _ => none) Tryd.f28 Cb.H0 3 [clkV c]) = .node (K.okC c) (.leaf (vbool (.sym (rIrq c)))) .bad := by kernel_rfl
theorem rIrq_eq {c : Clk} (h : K.okC c = true) : rIrq c = K.irq c := by
  have h := okC_iff.1 h
  unfold rIrq K.irq
  rw [and2 (by omega) (by omega)]
  have e : (c.ct / 2 % 2 * 2 != 0) = decide (c.ct / 2 % 2 = 1) := by rw [Bool.eq_iff_iff]; simp; omega
  rw [e]
  cases K.valid c <;> cases c.fr <;> cases c.fl <;> rfl
theorem ok28 : FnOk (Cb.with sp4) 28 (onT (t1 K.okC fun c => vbool (.sym (K.irq c)))) := FnOk.t1 good4 gsNodup Tryd.func28 (fun _ _ _ => rfl) 1 keep_none fun c hc => by
  refine ⟨vbool (.sym (rIrq c)), ?_, fun _ => by rw [rIrq_eq hc]⟩
  show (vals (evFn (Cb.with sp4) 1 (fun _ => none) Tryd.f28 Cb.H0 3 [clkV c])).get = _
  rw [ev28, hc]; rfl
noncomputable def sp5 : List (Nat × Spec) := (28, onT (t1 K.okC fun c => vbool (.sym (K.irq c)))) :: (25, onT (t1 K.okC fun c => clkV (K.adv c 1))) :: sp4
theorem good5 : Good (Cb.with sp5) := (good4.cons Tryd.func25 (by kernel_rfl) (by kernel_rfl) ok25).cons Tryd.func28 (by kernel_rfl) (by kernel_rfl) ok28
end Go.Proofs.YthndmfgmlbdekaaDoor.Ev
