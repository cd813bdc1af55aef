/- Read, the program's and the document's. -/
import Derived.Test.YthndmfgmlbdekaaDoorTm14
namespace Go.Proofs.YthndmfgmlbdekaaDoor.Ev
open Go Go.RowKit
set_option linter.unusedVariables false
set_option linter.unusedSimpArgs false
set_option linter.constructorNameAsVariable false
namespace K
def rv (c : Clk) (a : Int) : Int :=
  if valid c = false then 0 else
  if a = 16405 then (bif c.fl then 128 else 0) + (bif c.fr then 64 else 0) else
  if a = 16408 then c.co % 256 else
  if a = 16409 then c.ho else
  if a = 16410 then c.ct + (bif c.fl then 128 else 0) else
  if a = 16411 then (bif c.fl then 128 else 0) + (bif c.ov then 64 else 0) + c.be else 0
def rm (c : Clk) (a : Int) : Int :=
  if valid c = false then 0 else
  if a = 16405 then 192 else
  if a = 16408 then 255 else
  if a = 16409 then 255 else
  if a = 16410 then 159 else
  if a = 16411 then 255 else 0
def rc (c : Clk) (a : Int) : Clk :=
  if valid c = false then c else
  if a = 16405 then { c with fr := false } else
  if a = 16408 then { c with ho := c.co / 256 } else
  if a = 16409 then c else
  if a = 16410 then c else
  if a = 16411 then { c with fl := false, ov := false } else c
end K
def clkA (c : Clk) (ho : Int) (fl ov fr : B) : V0 := .agg [.int .u16 (.sym c.la), .int .u16 (.sym c.co), .int .u16 (.sym c.pr), .int .u8 (.sym ho), .int .u8 (.sym c.ct), .bool fl, .bool ov, .bool (.sym c.fi), .bool (.sym c.inh), .bool fr, .int .u16 (.sym c.pl), .int .u8 (.sym c.wa), .int .u8 (.sym c.be)]
def rdT (v m : I) (x : V0) : Tree V := .leaf (.tup [.l (.int .u8 v), .l (.int .u8 m), x])
def rdV (c : Clk) (a : Int) : V := .tup [.l (.int .u8 (.sym (K.rv c a))), .l (.int .u8 (.sym (K.rm c a))), clk0 (K.rc c a)]
theorem ev19 (c : Clk) (a : Int) : vals (evFn (Cb.with sp9) 1 (fun _ => none) Tryd.f19 Cb.H0 3 [clkV c, vint .u16 (.sym a)]) =
  .node (K.okC c) (.node (!K.valid c) (rdT (.lit 0) (.lit 0) (clk0 c))
    (.node (a == 16405) (rdT (.sym (bif c.fr then bits .or .u8 (bif c.fl then 128 else 0) 64 else bif c.fl then 128 else 0)) (.lit 192) (clkA c c.ho (.sym c.fl) (.sym c.ov) (.lit false)))
    (.node (a == 16408) (rdT (.sym (IntKind.u8.wrap c.co)) (.lit 255) (clkA c (IntKind.u8.wrap (c.co.fdiv 256)) (.sym c.fl) (.sym c.ov) (.sym c.fr)))
    (.node (a == 16409) (rdT (.sym c.ho) (.lit 255) (clk0 c))
    (.node (a == 16410) (rdT (.sym (bits .or .u8 (bif c.fl then 128 else 0) c.ct)) (.lit 159) (clk0 c))
    (.node (a == 16411) (rdT (.sym (bits .or .u8 (bif c.ov then bits .or .u8 (bif c.fl then 128 else 0) 64 else bif c.fl then 128 else 0) c.be)) (.lit 255) (clkA c c.ho (.lit false) (.lit false) (.sym c.fr)))
      (rdT (.lit 0) (.lit 0) (clk0 c)))))))) .bad := by kernel_rfl
theorem ev20 (c : Clk) (a : Int) : vals (evFn (Cb.with sp9) 1 (fun _ => none) Tryd.f20 Cb.H0 3 [clkV c, vint .u16 (.sym a)]) =
  .node (K.okC c) (.node (!K.valid c) (rdT (.lit 0) (.lit 0) (clk0 c))
    (.node (a == 16405) (rdT (.sym (IntKind.u8.wrap ((bif c.fl then 128 else 0) + (bif c.fr then 64 else 0)))) (.lit 192) (clkA c c.ho (.sym c.fl) (.sym c.ov) (.lit false)))
    (.node (a == 16408) (rdT (.sym (IntKind.u8.wrap (c.co.tmod 256))) (.lit 255) (clkA c (IntKind.u8.wrap (IntKind.u16.wrap (c.co.tdiv 256))) (.sym c.fl) (.sym c.ov) (.sym c.fr)))
    (.node (a == 16409) (rdT (.sym c.ho) (.lit 255) (clk0 c))
    (.node (a == 16410) (rdT (.sym (IntKind.u8.wrap (c.ct + (bif c.fl then 128 else 0)))) (.lit 159) (clk0 c))
    (.node (a == 16411) (rdT (.sym (IntKind.u8.wrap (IntKind.u8.wrap ((bif c.fl then 128 else 0) + (bif c.ov then 64 else 0)) + c.be))) (.lit 255) (clkA c c.ho (.lit false) (.lit false) (.sym c.fr)))
      (rdT (.lit 0) (.lit 0) (clk0 c)))))))) .bad := by kernel_rfl
theorem rb1 (x y : Bool) : (bif y then bits .or .u8 (bif x then 128 else 0) 64 else bif x then 128 else 0) = (bif x then 128 else 0) + (bif y then (64 : Int) else 0) := by cases x <;> cases y <;> decide +kernel
theorem rb2 (x : Bool) {p : Int} (h0 : 0 ≤ p) (h1 : p < 32) : bits .or .u8 (bif x then 128 else 0) p = p + (bif x then 128 else 0) := by
  cases x
  · exact by256 (P := fun p => p < 32 → bits .or .u8 0 p = p + 0) (by decide +kernel) h0 (by omega) h1
  · exact by256 (P := fun p => p < 32 → bits .or .u8 128 p = p + 128) (by decide +kernel) h0 (by omega) h1
theorem rb3 (x y : Bool) {p : Int} (h0 : 0 ≤ p) (h1 : p ≤ 63) : bits .or .u8 ((bif x then 128 else 0) + (bif y then 64 else 0)) p = (bif x then 128 else 0) + (bif y then 64 else 0) + p := by
  cases x <;> cases y
  · exact by256 (P := fun p => p ≤ 63 → bits .or .u8 (0 + 0) p = 0 + 0 + p) (by decide +kernel) h0 (by omega) h1
  · exact by256 (P := fun p => p ≤ 63 → bits .or .u8 (0 + 64) p = 0 + 64 + p) (by decide +kernel) h0 (by omega) h1
  · exact by256 (P := fun p => p ≤ 63 → bits .or .u8 (128 + 0) p = 128 + 0 + p) (by decide +kernel) h0 (by omega) h1
  · exact by256 (P := fun p => p ≤ 63 → bits .or .u8 (128 + 64) p = 128 + 64 + p) (by decide +kernel) h0 (by omega) h1
theorem bw128 (x : Bool) : 0 ≤ (bif x then (128 : Int) else 0) ∧ (bif x then (128 : Int) else 0) ≤ 128 := by cases x <;> decide
theorem bw64 (x : Bool) : 0 ≤ (bif x then (64 : Int) else 0) ∧ (bif x then (64 : Int) else 0) ≤ 64 := by cases x <;> decide
theorem read_step {c : Clk} {a : Int} (hval : K.valid c = true) (v1 v2 v4 v5 : Int) (h2 : Int)
    (e1 : v1 = (bif c.fl then 128 else 0) + (bif c.fr then 64 else 0)) (e2 : v2 = c.co % 256) (e3 : h2 = c.co / 256) (e4 : v4 = c.ct + (bif c.fl then 128 else 0)) (e5 : v5 = (bif c.fl then 128 else 0) + (bif c.ov then 64 else 0) + c.be) :
    ∃ v', (Tree.node true (.node (!true) (rdT (.lit 0) (.lit 0) (clk0 c))
    (.node (a == 16405) (rdT (.sym v1) (.lit 192) (clkA c c.ho (.sym c.fl) (.sym c.ov) (.lit false)))
    (.node (a == 16408) (rdT (.sym v2) (.lit 255) (clkA c h2 (.sym c.fl) (.sym c.ov) (.sym c.fr)))
    (.node (a == 16409) (rdT (.sym c.ho) (.lit 255) (clk0 c))
    (.node (a == 16410) (rdT (.sym v4) (.lit 159) (clk0 c))
    (.node (a == 16411) (rdT (.sym v5) (.lit 255) (clkA c c.ho (.lit false) (.lit false) (.sym c.fr)))
      (rdT (.lit 0) (.lit 0) (clk0 c)))))))) .bad).get = some v' ∧ ∀ ρ, v'.den ρ = (rdV c a).den ρ := by
  subst e1 e2 e3 e4 e5
  have hv : ¬ K.valid c = false := by rw [hval]; simp
  unfold rdV K.rv K.rm K.rc
  by_cases c1 : a = 16405
  · subst c1
    simp only [if_neg hv, if_true]
    exact ⟨_, rfl, fun _ => rfl⟩
  by_cases c2 : a = 16408
  · subst c2
    rw [ne_beq c1]
    simp only [if_neg hv, if_neg c1, if_true]
    exact ⟨_, rfl, fun _ => rfl⟩
  by_cases c3 : a = 16409
  · subst c3
    rw [ne_beq c1, ne_beq c2]
    simp only [if_neg hv, if_neg c1, if_neg c2, if_true]
    exact ⟨_, rfl, fun _ => rfl⟩
  by_cases c4 : a = 16410
  · subst c4
    rw [ne_beq c1, ne_beq c2, ne_beq c3]
    simp only [if_neg hv, if_neg c1, if_neg c2, if_neg c3, if_true]
    exact ⟨_, rfl, fun _ => rfl⟩
  by_cases c5 : a = 16411
  · subst c5
    rw [ne_beq c1, ne_beq c2, ne_beq c3, ne_beq c4]
    simp only [if_neg hv, if_neg c1, if_neg c2, if_neg c3, if_neg c4, if_true]
    exact ⟨_, rfl, fun _ => rfl⟩
  rw [ne_beq c1, ne_beq c2, ne_beq c3, ne_beq c4, ne_beq c5]
  simp only [if_neg hv, if_neg c1, if_neg c2, if_neg c3, if_neg c4, if_neg c5]
  exact ⟨_, rfl, fun _ => rfl⟩
theorem rd_bad {c : Clk} {a : Int} (h : K.valid c = false) : rdV c a = .tup [.l (.int .u8 (.sym 0)), .l (.int .u8 (.sym 0)), clk0 c] := by
  unfold rdV K.rv K.rm K.rc; rw [if_pos h, if_pos h, if_pos h]
theorem ok19 : FnOk (Cb.with sp9) 19 (onT (t2 .u16 (fun c _ => K.okC c) rdV)) := FnOk.t2 good9 gsNodup Tryd.func19 (fun _ _ _ _ => rfl) 1 keep_none fun c a hc => by
  have h := okC_iff.1 hc
  show ∃ v', (vals (evFn (Cb.with sp9) 1 (fun _ => none) Tryd.f19 Cb.H0 3 [clkV c, vint .u16 (.sym a)])).get = some v' ∧ _
  rw [ev19, hc]
  cases hval : K.valid c with
  | false => exact ⟨_, rfl, fun _ => by rw [rd_bad hval]; rfl⟩
  | true =>
    have hw := (valid_iff.1 hval).1
    refine read_step hval _ _ _ _ _ (rb1 _ _) ?_ ?_ (rb2 _ (by omega) (by omega)) (by rw [rb1, rb3 _ _ (by omega) (by omega)])
    · show c.co % 256 = _; rfl
    · rw [Int.fdiv_eq_ediv_of_nonneg _ (by omega), wu8 (by omega) (by omega)]
theorem ok20 : FnOk (Cb.with sp9) 20 (onT (t2 .u16 (fun c _ => K.okC c) rdV)) := FnOk.t2 good9 gsNodup Tryd.func20 (fun _ _ _ _ => rfl) 1 keep_none fun c a hc => by
  have h := okC_iff.1 hc
  show ∃ v', (vals (evFn (Cb.with sp9) 1 (fun _ => none) Tryd.f20 Cb.H0 3 [clkV c, vint .u16 (.sym a)])).get = some v' ∧ _
  rw [ev20, hc]
  cases hval : K.valid c with
  | false => exact ⟨_, rfl, fun _ => by rw [rd_bad hval]; rfl⟩
  | true =>
    have hw := (valid_iff.1 hval).1
    have f1 := bw128 c.fl
    have f2 := bw64 c.fr
    have f3 := bw64 c.ov
    refine read_step hval _ _ _ _ _ (wu8 (by omega) (by omega)) ?_ ?_ (wu8 (by omega) (by omega)) (by rw [wu8 (x := (bif c.fl then 128 else 0) + (bif c.ov then 64 else 0)) (by omega) (by omega), wu8 (by omega) (by omega)])
    · rw [Int.tmod_eq_emod_of_nonneg (by omega), wu8 (by omega) (by omega)]
    · rw [Int.tdiv_eq_ediv_of_nonneg (by omega), wu16 (by omega) (by omega), wu8 (by omega) (by omega)]
noncomputable def spA : List (Nat × Spec) := (20, onT (t2 .u16 (fun c _ => K.okC c) rdV)) :: (19, onT (t2 .u16 (fun c _ => K.okC c) rdV)) :: sp9
theorem goodA : Good (Cb.with spA) := (good9.cons Tryd.func19 (by kernel_rfl) (by kernel_rfl) ok19).cons Tryd.func20 (by kernel_rfl) (by kernel_rfl) ok20
end Go.Proofs.YthndmfgmlbdekaaDoor.Ev
