/- The law's walk: valid stays valid, invalid is left alone, what is acknowledged no longer asks. -/
import Derived.Test.YthndmfgmlbdekaaDoorTm23
namespace Go.Proofs.YthndmfgmlbdekaaDoor.Ev
open Go Go.RowKit
set_option linter.unusedVariables false
set_option linter.unusedSimpArgs false
set_option linter.constructorNameAsVariable false
def xK (c : Clk) : Bool := bif bits .and .u8 (K.rv c 16405) 128 != bits .and .u8 (K.rv (K.rc c 16405) 16411) 128 then true else bif !((bits .and .u8 (K.rv c 16405) 128 != 0) == c.fl) then true else bif !((bits .and .u8 (K.rv c 16405) 64 != 0) == c.fr) then true else bits .and .u8 (K.rv (K.rc c 16405) 16411) 63 != c.be
def fK (c : Clk) : Clk := K.rc (K.rc c 16405) 16411
theorem ev16 (c : Clk) (a v y n : Int) : vals (evFn (Cb.with spG) 1 (fun _ => none) Tryd.f16 Cb.H0 3 [clkV c, vint .u16 (.sym a), vint .u8 (.sym v), vint .i64 (.sym y), vint .i64 (.sym n)]) =
  .node true (.node false FF (.node (K.okC c) (.node (!K.valid c)
    (.node (K.okC c) (.node (K.rv c a == 0) (.node (K.rm c a == 0) (.node (eqC (K.rc c a) c) (.node (okW c a v y) (.node (eqC (K.write c a v y) c) (.node (K.okC c) (.node (eqC (K.adv c 1) c) (.node (okI c n) (.node (eqC (K.adv c n) c) (.node (K.okC c) (.node (!K.irq c) (.node (K.okC c) (.leaf (vbool (.sym (K.next c == 4611686018427387904)))) .bad) FF) .bad) FF) .bad) FF) .bad) FF) .bad) FF) FF) FF) .bad)
    (.node (K.okC c) (.node (K.okC (K.rc c a)) (.node (!K.valid (K.rc c a)) FF (.node (okW c a v y) (.node (K.okC (K.write c a v y)) (.node (!K.valid (K.write c a v y)) FF (.node (okI c n) (.node (K.okC (K.adv c n)) (.node (!K.valid (K.adv c n)) FF (.node (K.okC c) (.node (K.okC (K.rc c 16405)) (.node (xK c) FF
      (.node (K.okC (fK c)) (.node (!K.irq (fK c)) (.node (!(fK c).fl) (.node (okW (K.rc c 16405) 16411 v y) (.leaf (vbool (.sym (eqC (K.write (K.rc c 16405) 16411 v y) (fK c))))) .bad) FF) FF) .bad)) .bad) .bad)) .bad) .bad)) .bad) .bad)) .bad) .bad)) .bad)) .bad := by kernel_rfl
theorem okv_rc {c : Clk} {a : Int} (h : K.okv c = true) : K.okv (K.rc c a) = true := by
  obtain ⟨h1, h2⟩ := okv_iff.1 h
  have hc := okC_iff.1 h1
  obtain ⟨h2, h3, h4⟩ := valid_iff.1 h2
  unfold K.rc
  split
  · exact h
  split
  · exact okv_iff.2 ⟨okC_iff.2 hc, valid_iff.2 ⟨h2, h3, fun _ => rfl⟩⟩
  split
  · exact okv_iff.2 ⟨okC_iff.2 ⟨hc.1, hc.2.1, hc.2.2.1, by show 0 ≤ c.co / 256 ∧ c.co / 256 < 256; omega, hc.2.2.2.2⟩, valid_iff.2 ⟨h2, h3, h4⟩⟩
  split
  · exact h
  split
  · exact h
  split
  · exact okv_iff.2 ⟨okC_iff.2 hc, valid_iff.2 ⟨h2, fun h => (by cases h), h4⟩⟩
  · exact h
theorem okv_write {c : Clk} {a v y : Int} (h : K.okv c = true) (v0 : 0 ≤ v) (v1 : v < 256) : K.okv (K.write c a v y) = true := by
  obtain ⟨h1, h2⟩ := okv_iff.1 h
  have hc := okC_iff.1 h1
  obtain ⟨h2, h3, h4⟩ := valid_iff.1 h2
  unfold K.write
  split
  · exact h
  split
  · have hw : (if y % 2 = 1 then (4 : Int) else 3) = 3 ∨ (if y % 2 = 1 then (4 : Int) else 3) = 4 := by split <;> simp
    refine okv_iff.2 ⟨okC_iff.2 ⟨hc.1, hc.2.1, hc.2.2.1, hc.2.2.2.1, hc.2.2.2.2.1, hc.2.2.2.2.2.1, ?_, hc.2.2.2.2.2.2.2⟩, valid_iff.2 ⟨⟨h2.1, h2.2.1, h2.2.2.1, ?_, h2.2.2.2.2⟩, h3, fun hi => ?_⟩⟩
    · show 0 ≤ (if y % 2 = 1 then (4 : Int) else 3) ∧ (if y % 2 = 1 then (4 : Int) else 3) < 256; omega
    · show (if y % 2 = 1 then (4 : Int) else 3) ≤ 4; omega
    · have hi : decide (v / 64 % 2 = 1) = true := hi
      show (c.fr && !decide (v / 64 % 2 = 1)) = false
      rw [hi]; cases c.fr <;> rfl
  split
  · exact okv_iff.2 ⟨okC_iff.2 ⟨by show 0 ≤ c.la / 256 * 256 + v ∧ c.la / 256 * 256 + v < 65536; omega, hc.2⟩, valid_iff.2 ⟨h2, h3, h4⟩⟩
  split
  · exact okv_iff.2 ⟨okC_iff.2 ⟨by show 0 ≤ c.la % 256 + v * 256 ∧ c.la % 256 + v * 256 < 65536; omega, hc.2⟩, valid_iff.2 ⟨h2, h3, h4⟩⟩
  split
  · have hd := dvn_cases (v % 32)
    have hco : (if v ≥ 128 then c.la else c.co) = c.la ∨ (if v ≥ 128 then c.la else c.co) = c.co := by split <;> simp
    refine okv_iff.2 ⟨okC_iff.2 ⟨hc.1, ?_, ?_, hc.2.2.2.1, ?_, hc.2.2.2.2.2⟩, valid_iff.2 ⟨⟨?_, ?_, h2.2.2⟩, h3, h4⟩⟩
    · show 0 ≤ (if v ≥ 128 then c.la else c.co) ∧ (if v ≥ 128 then c.la else c.co) < 65536; omega
    · show (0 : Int) ≤ 0 ∧ (0 : Int) < 65536; omega
    · show 0 ≤ v % 32 ∧ v % 32 < 256; omega
    · show v % 32 < 32; omega
    · show (0 : Int) < K.dvn (v % 32); omega
  split
  · exact okv_iff.2 ⟨okC_iff.2 hc, valid_iff.2 ⟨h2, fun h => (by cases h), h4⟩⟩
  · exact h
theorem xb1 (x y : Bool) : bits .and .u8 ((bif x then 128 else 0) + (bif y then 64 else 0)) 128 = (bif x then 128 else 0) := by cases x <;> cases y <;> decide +kernel
theorem xb2 (x y : Bool) : bits .and .u8 ((bif x then 128 else 0) + (bif y then 64 else 0)) 64 = (bif y then 64 else 0) := by cases x <;> cases y <;> decide +kernel
theorem xb3 (x y : Bool) {p : Int} (h0 : 0 ≤ p) (h1 : p ≤ 63) : bits .and .u8 ((bif x then 128 else 0) + (bif y then 64 else 0) + p) 128 = (bif x then 128 else 0) ∧ bits .and .u8 ((bif x then 128 else 0) + (bif y then 64 else 0) + p) 63 = p := by
  cases x <;> cases y
  · exact by256 (P := fun p => p ≤ 63 → bits .and .u8 (0 + 0 + p) 128 = 0 ∧ bits .and .u8 (0 + 0 + p) 63 = p) (by decide +kernel) h0 (by omega) h1
  · exact by256 (P := fun p => p ≤ 63 → bits .and .u8 (0 + 64 + p) 128 = 0 ∧ bits .and .u8 (0 + 64 + p) 63 = p) (by decide +kernel) h0 (by omega) h1
  · exact by256 (P := fun p => p ≤ 63 → bits .and .u8 (128 + 0 + p) 128 = 128 ∧ bits .and .u8 (128 + 0 + p) 63 = p) (by decide +kernel) h0 (by omega) h1
  · exact by256 (P := fun p => p ≤ 63 → bits .and .u8 (128 + 64 + p) 128 = 128 ∧ bits .and .u8 (128 + 64 + p) 63 = p) (by decide +kernel) h0 (by omega) h1
theorem law16 (c : Clk) (a v y n : Int) (hc : K.okC c = true) (ha : 0 ≤ a ∧ a < 65536) (hv : 0 ≤ v ∧ v < 256) (hy : -9223372036854775808 ≤ y ∧ y < 9223372036854775808) (hn : -9223372036854775808 ≤ n ∧ n < 9223372036854775808) :
    ∃ v', (vals (evFn (Cb.with spG) 1 (fun _ => none) Tryd.f16 Cb.H0 3 [clkV c, vint .u16 (.sym a), vint .u8 (.sym v), vint .i64 (.sym y), vint .i64 (.sym n)])).get = some v' ∧ ∀ ρ, v'.den ρ = some (.bool true) := by
  have hW : ∀ (d : Clk) (x : Int), K.okC d = true → okW d x v y = true := fun d x hd => by unfold okW isB; rw [hd, decide_eq_true hv]; rfl
  rw [ev16, hc, hW c a hc, okI_t hc hn.1 hn.2]
  cases hval : K.valid c with
  | false =>
    have e1 : K.rv c a = 0 := by unfold K.rv; rw [if_pos hval]
    have e2 : K.rm c a = 0 := by unfold K.rm; rw [if_pos hval]
    have e3 : K.rc c a = c := by unfold K.rc; rw [if_pos hval]
    have e4 : K.write c a v y = c := by unfold K.write; rw [if_pos hval]
    have e5 : K.irq c = false := by unfold K.irq; rw [hval]; rfl
    have e6 : K.next c = 4611686018427387904 := by unfold K.next; rw [if_pos hval]; rfl
    rw [e1, e2, e3, e4, e5, e6, adv_bad hval, adv_bad hval, eqC_self]
    exact ⟨_, rfl, fun _ => rfl⟩
  | true =>
    have h := okv_iff.2 ⟨hc, hval⟩
    have hb := (valid_iff.1 hval).1
    have hb' := okC_iff.1 hc
    have hf : ¬ K.valid c = false := by rw [hval]; simp
    obtain ⟨g1, g2⟩ := okv_iff.1 (okv_rc (a := a) h)
    obtain ⟨g3, g4⟩ := okv_iff.1 (okv_write (a := a) (y := y) h hv.1 hv.2)
    obtain ⟨g5, g6⟩ := okv_iff.1 (okv_adv (n := n) h)
    have he := okv_rc (a := 16405) h
    obtain ⟨g7, g8⟩ := okv_iff.1 he
    have e1 : K.rc c 16405 = { c with fr := false } := by unfold K.rc; rw [if_neg hf]; rfl
    have hfe : ¬ K.valid (K.rc c 16405) = false := by rw [g8]; simp
    have ef : fK c = { K.rc c 16405 with fl := false, ov := false } := by unfold fK; rw [K.rc, if_neg hfe]; rfl
    obtain ⟨g9, g10⟩ := okv_iff.1 (okv_rc (a := 16411) he)
    have g9 : K.okC (fK c) = true := g9
    have ew : K.write (K.rc c 16405) 16411 v y = fK c := by
      rw [ef]; unfold K.write; rw [if_neg hfe]; rfl
    have ei : K.irq (fK c) = false := by
      unfold K.irq; rw [ef, e1]
      show (_ && (false || (false && _))) = false
      simp
    have el : (fK c).fl = false := by rw [ef]
    have r1 : K.rv c 16405 = (bif c.fl then 128 else 0) + (bif c.fr then 64 else 0) := by unfold K.rv; rw [if_neg hf]; rfl
    have r2 : K.rv (K.rc c 16405) 16411 = (bif c.fl then 128 else 0) + (bif c.ov then 64 else 0) + c.be := by unfold K.rv; rw [if_neg hfe, e1]; rfl
    have ex : xK c = false := by
      unfold xK
      obtain ⟨x1, x2⟩ := xb3 c.fl c.ov (p := c.be) (by omega) hb.2.2.2.2
      rw [r1, r2, xb1, xb2, x1, x2]
      cases c.fl <;> cases c.fr <;> simp
    rw [g1, g2, g3, g4, g5, g6, g7, g9, ex, ei, el, hW _ _ g7, ew, eqC_self]
    exact ⟨_, rfl, fun _ => rfl⟩
end Go.Proofs.YthndmfgmlbdekaaDoor.Ev
namespace Go.Proofs.YthndmfgmlbdekaaDoor.Pure
open Go Go.RowKit Go.Proofs.YthndmfgmlbdekaaDoor.Ev
set_option linter.unusedVariables false
theorem TimerKeeps (a0_0 : Int) (a0_1 : Int) (a0_2 : Int) (a0_3 : Int) (a0_4 : Int) (a0_5 : Bool) (a0_6 : Bool) (a0_7 : Bool) (a0_8 : Bool) (a0_9 : Bool) (a0_10 : Int) (a0_11 : Int) (a0_12 : Int) (a1 : Int) (a2 : Int) (a3 : Int) (a4 : Int) (w : World) (h0_0 : (Lit.int .u16 a0_0).wf = true) (h0_1 : (Lit.int .u16 a0_1).wf = true) (h0_2 : (Lit.int .u16 a0_2).wf = true) (h0_3 : (Lit.int .u8 a0_3).wf = true) (h0_4 : (Lit.int .u8 a0_4).wf = true) (h0_10 : (Lit.int .u16 a0_10).wf = true) (h0_11 : (Lit.int .u8 a0_11).wf = true) (h0_12 : (Lit.int .u8 a0_12).wf = true) (h1 : (Lit.int .u16 a1).wf = true) (h2 : (Lit.int .u8 a2).wf = true) (h3 : (Lit.int .i64 a3).wf = true) (h4 : (Lit.int .i64 a4).wf = true) (G : Ev.GOk Ev.Cb w) :
    Calls Tryd.prog 16 #[.agg #[.int .u16 a0_0, .int .u16 a0_1, .int .u16 a0_2, .int .u8 a0_3, .int .u8 a0_4, .bool a0_5, .bool a0_6, .bool a0_7, .bool a0_8, .bool a0_9, .int .u16 a0_10, .int .u8 a0_11, .int .u8 a0_12], .int .u16 a1, .int .u8 a2, .int .i64 a3, .int .i64 a4] w fun e w' => e = .returned (.bool true) ∧ Below w.heap.size w w' := by
  obtain ⟨v, h, hv⟩ := Ev.law16 ⟨a0_0, a0_1, a0_2, a0_3, a0_4, a0_5, a0_6, a0_7, a0_8, a0_9, a0_10, a0_11, a0_12⟩ a1 a2 a3 a4 (okC_of h0_0 h0_1 h0_2 h0_3 h0_4 h0_10 h0_11 h0_12) (of_u16 h1) (of_u8 h2) (of_i64 h3) (of_i64 h4)
  exact calls_of_ev (C := Cb.with spG) goodG.ok goodG.hs goodG.hb gsNodup Tryd.func16 keep_none G rfl h hv
end Go.Proofs.YthndmfgmlbdekaaDoor.Pure
