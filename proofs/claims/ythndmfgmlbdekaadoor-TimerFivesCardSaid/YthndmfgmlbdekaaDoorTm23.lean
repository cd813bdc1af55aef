/- The law's own functions in closed form: a divider's size, a timer that has just begun, the beats that have come. -/
import Derived.Test.YthndmfgmlbdekaaDoorTm22
namespace Go.Proofs.YthndmfgmlbdekaaDoor.Ev
open Go Go.RowKit
set_option linter.unusedVariables false
set_option linter.unusedSimpArgs false
set_option linter.constructorNameAsVariable false
namespace K
def zero : Clk := ⟨0, 0, 0, 0, 0, false, false, false, false, false, 0, 0, 0⟩
def size (p : Int) : Int := if p % 4 = 0 then 1 else if p % 4 = 1 then 8 else if p % 4 = 2 then 64 else 256
def started (l p : Int) (o : Bool) : Clk := ⟨l, l, 0, 0, 3 + p % 4 * 8 + (bif o then 4 else 0), false, false, false, false, false, 0, 0, 0⟩
def marks (j last : Int) : Int := (if j ≥ 7457 then 1 else 0) + (if j ≥ 14913 then 1 else 0) + (if j ≥ 22371 then 1 else 0) + (if j ≥ last then 1 else 0)
end K
/-- Of a u16, a u8 and a bool; of two numbers. -/
def t3 (t : Int → Int → Bool → Bool) (g : Int → Int → Bool → V) : List V → Tree V
  | [.v (.l x), .v (.l y), .v (.l z)] => match intOf? .u16 x, intOf? .u8 y, boolOf? z with | some a, some b, some o => gdT (t a b o) (.leaf (g a b o)) | _, _, _ => .bad
  | _ => .bad
def i2 (g : Int → Int → V) : List V → Tree V
  | [.v (.l x), .v (.l y)] => match intOf? .i64 x, intOf? .i64 y with | some a, some b => .leaf (g a b) | _, _ => .bad
  | _ => .bad
theorem FnOk.t3 {C : Ctx} (gd : Good C) (hn : C.gs.Nodup) {f : FuncId} {fn : Func} (hf : C.P.funcs[f]? = some fn) {t : Int → Int → Bool → Bool} {g : Int → Int → Bool → V} (hv : ∀ a b o ρ ρ', (g a b o).den ρ = (g a b o).den ρ')
    (k : Nat) {keep : Nat → Option (List Nat)} (hk : KeepOk keep) (H : ∀ a b o, t a b o = true → ∃ v', (vals (evFn C k keep fn C.H0 C.gs.length [vint .u16 (.sym a), vint .u8 (.sym b), vbool (.sym o)])).get = some v' ∧ ∀ ρ, v'.den ρ = (g a b o).den ρ) : FnOk C f (Ev.onT (Ev.t3 t g)) := by
  refine FnOk.onT gd hn hf fun cs v h => ?_
  unfold Ev.t3 at h
  split at h
  · split at h
    · rename_i a b o ha hb ho
      obtain ⟨h1, h2⟩ := gdT_get h
      cases h2
      rw [intOf?_eq ha, intOf?_eq hb, boolOf?_eq ho]
      obtain ⟨v', h3, h4⟩ := H a b o h1
      exact ⟨fun _ _ => rfl, hv a b o, k, keep, v', hk, h3, h4⟩
    · cases h
  · cases h
theorem FnOk.i2 {C : Ctx} (gd : Good C) (hn : C.gs.Nodup) {f : FuncId} {fn : Func} (hf : C.P.funcs[f]? = some fn) {g : Int → Int → V} (hv : ∀ a b ρ ρ', (g a b).den ρ = (g a b).den ρ')
    (k : Nat) {keep : Nat → Option (List Nat)} (hk : KeepOk keep) (H : ∀ a b, ∃ v', (vals (evFn C k keep fn C.H0 C.gs.length [vint .i64 (.sym a), vint .i64 (.sym b)])).get = some v' ∧ ∀ ρ, v'.den ρ = (g a b).den ρ) : FnOk C f (Ev.onT (Ev.i2 g)) := by
  refine FnOk.onT gd hn hf fun cs v h => ?_
  unfold Ev.i2 at h
  split at h
  · split at h
    · rename_i a b ha hb
      cases h
      rw [intOf?_eq ha, intOf?_eq hb]
      obtain ⟨v', h3, h4⟩ := H a b
      exact ⟨fun _ _ => rfl, hv a b, k, keep, v', hk, h3, h4⟩
    · cases h
  · cases h
theorem ev26 (p : Int) : vals (evFn (Cb.with spF) 1 (fun _ => none) Tryd.f26 Cb.H0 3 [vint .u8 (.sym p)]) =
  .node (p.tmod 4 == 0) (.leaf (vint .i64 (.lit 1))) (.node (p.tmod 4 == 1) (.leaf (vint .i64 (.lit 8))) (.node (p.tmod 4 == 2) (.leaf (vint .i64 (.lit 64))) (.leaf (vint .i64 (.lit 256))))) := by kernel_rfl
theorem ok26 : FnOk (Cb.with spF) 26 (onT (i1 .u8 isB fun p => vint .i64 (.sym (K.size p)))) := FnOk.i1 goodF gsNodup Tryd.func26 (fun _ _ _ => rfl) 1 keep_none fun p hp => by
  unfold isB at hp
  rw [decide_eq_true_eq] at hp
  show ∃ v', (vals (evFn (Cb.with spF) 1 (fun _ => none) Tryd.f26 Cb.H0 3 [vint .u8 (.sym p)])).get = some v' ∧ _
  rw [ev26, Int.tmod_eq_emod_of_nonneg hp.1]
  simp only [beq_true_iff]
  unfold K.size
  by_cases c0 : p % 4 = 0
  · rw [decide_eq_true c0, if_pos c0]; exact ⟨_, rfl, fun _ => rfl⟩
  rw [decide_eq_false c0, if_neg c0]
  by_cases c1 : p % 4 = 1
  · rw [decide_eq_true c1, if_pos c1]; exact ⟨_, rfl, fun _ => rfl⟩
  rw [decide_eq_false c1, if_neg c1]
  by_cases c2 : p % 4 = 2
  · rw [decide_eq_true c2, if_pos c2]; exact ⟨_, rfl, fun _ => rfl⟩
  rw [decide_eq_false c2, if_neg c2]; exact ⟨_, rfl, fun _ => rfl⟩
def rMk (b : Bool) (x : Int) : Int := bif b then IntKind.i64.wrap (x + 1) else x
theorem rMk_eq (p : Prop) [Decidable p] {x : Int} (h0 : 0 ≤ x) (h1 : x < 10) : rMk (decide p) x = x + (if p then 1 else 0) := by
  unfold rMk
  by_cases h : p
  · rw [decide_eq_true h, if_pos h, cond_true, wi64 (by omega) (by omega)]
  · rw [decide_eq_false h, if_neg h, cond_false]; omega
theorem ev34 (a c : Int) : vals (evFn (Cb.with spF) 1 (fun _ => none) Tryd.f34 Cb.H0 3 [vint .i64 (.sym a), vint .i64 (.sym c)]) =
  .leaf (vint .i64 (.sym (rMk (decide (a ≥ c)) (rMk (decide (a ≥ 22371)) (rMk (decide (a ≥ 14913)) (bif decide (a ≥ 7457) then 1 else 0)))))) := by kernel_rfl
theorem ok34 : FnOk (Cb.with spF) 34 (onT (i2 fun j l => vint .i64 (.sym (K.marks j l)))) := FnOk.i2 goodF gsNodup Tryd.func34 (fun _ _ _ _ => rfl) 1 keep_none fun j l => by
  show ∃ v', (vals (evFn (Cb.with spF) 1 (fun _ => none) Tryd.f34 Cb.H0 3 [vint .i64 (.sym j), vint .i64 (.sym l)])).get = some v' ∧ _
  rw [ev34]
  refine ⟨_, rfl, fun ρ => ?_⟩
  have e0 : (bif decide (j ≥ 7457) then (1 : Int) else 0) = if j ≥ 7457 then 1 else 0 := by
    by_cases h : j ≥ 7457
    · rw [decide_eq_true h, if_pos h]; rfl
    · rw [decide_eq_false h, if_neg h]; rfl
  rw [e0, rMk_eq (j ≥ 14913) (by split <;> omega) (by split <;> omega), rMk_eq (j ≥ 22371) (by split <;> split <;> omega) (by split <;> split <;> omega), rMk_eq (j ≥ l) (by split <;> split <;> split <;> omega) (by split <;> split <;> split <;> omega)]
  rfl
def ctlS (p : Int) (o : Bool) : Int := bif o then bits .or .u8 (bits .or .u8 131 (IntKind.u8.wrap (p.tmod 4 * 8))) 4 else bits .or .u8 131 (IntKind.u8.wrap (p.tmod 4 * 8))
def w1S (l : Int) : Clk := K.write K.zero 16408 (IntKind.u8.wrap l) 0
def w2S (l : Int) : Clk := K.write (w1S l) 16409 (IntKind.u8.wrap (l.fdiv 256)) 0
theorem ev27 (l p : Int) (o : Bool) : vals (evFn (Cb.with spF) 1 (fun _ => none) Tryd.f27 Cb.H0 3 [vint .u16 (.sym l), vint .u8 (.sym p), vbool (.sym o)]) =
  .node (okW K.zero 16408 (IntKind.u8.wrap l) 0) (.node (okW (w1S l) 16409 (IntKind.u8.wrap (l.fdiv 256)) 0) (.node (okW (w2S l) 16410 (ctlS p o) 0) (.leaf (clkV (K.write (w2S l) 16410 (ctlS p o) 0))) .bad) .bad) .bad := by kernel_rfl
theorem ctlS_eq {p : Int} (h0 : 0 ≤ p) (h1 : p < 256) (o : Bool) : ctlS p o = 131 + p % 4 * 8 + (bif o then 4 else 0) := by
  cases o
  · exact by256 (P := fun p => ctlS p false = 131 + p % 4 * 8 + 0) (by decide +kernel) h0 h1
  · exact by256 (P := fun p => ctlS p true = 131 + p % 4 * 8 + 4) (by decide +kernel) h0 h1
theorem ok27 : FnOk (Cb.with spF) 27 (onT (t3 (fun l p _ => decide ((0 ≤ l ∧ l < 65536) ∧ 0 ≤ p ∧ p < 256)) fun l p o => clkV (K.started l p o))) := FnOk.t3 goodF gsNodup Tryd.func27 (fun _ _ _ _ _ => rfl) 1 keep_none fun l p o hc => by
  rw [decide_eq_true_eq] at hc
  obtain ⟨⟨l0, l1⟩, p0, p1⟩ := hc
  show ∃ v', (vals (evFn (Cb.with spF) 1 (fun _ => none) Tryd.f27 Cb.H0 3 [vint .u16 (.sym l), vint .u8 (.sym p), vbool (.sym o)])).get = some v' ∧ _
  have hx : ∀ x, K.valid { K.zero with la := x } = true := fun x => by show K.valid K.zero = true; decide
  have hk : ∀ x, 0 ≤ x → x < 65536 → K.okC { K.zero with la := x } = true := fun x h0 h1 => okC_iff.2 ⟨⟨h0, h1⟩, (okC_iff.1 (show K.okC K.zero = true by decide)).2⟩
  have e0 : IntKind.u8.wrap l = l % 256 := rfl
  have e1 : w1S l = { K.zero with la := l % 256 } := by
    unfold w1S K.write
    rw [if_neg (by decide), if_neg (by decide), if_pos rfl, e0]
    show Clk.mk (0 / 256 * 256 + l % 256) _ _ _ _ _ _ _ _ _ _ _ _ = Clk.mk (l % 256) _ _ _ _ _ _ _ _ _ _ _ _
    rw [show (0 : Int) / 256 * 256 + l % 256 = l % 256 by omega]
  have e2 : w2S l = { K.zero with la := l } := by
    unfold w2S
    rw [e1]
    unfold K.write
    rw [if_neg (by rw [hx]; simp), if_neg (by decide), if_neg (by decide), if_pos rfl, Int.fdiv_eq_ediv_of_nonneg _ (by omega), wu8 (by omega) (by omega)]
    show Clk.mk (l % 256 % 256 + l / 256 * 256) _ _ _ _ _ _ _ _ _ _ _ _ = Clk.mk l _ _ _ _ _ _ _ _ _ _ _ _
    rw [show l % 256 % 256 + l / 256 * 256 = l by omega]
  have hb : (bif o then (4 : Int) else 0) = 0 ∨ (bif o then (4 : Int) else 0) = 4 := by cases o <;> simp
  rw [ev27, e1, e2, ctlS_eq p0 p1, e0, Int.fdiv_eq_ediv_of_nonneg _ (by omega), wu8 (x := l / 256) (by omega) (by omega)]
  have g1 : okW K.zero 16408 (l % 256) 0 = true := by unfold okW isB; rw [decide_eq_true (by omega)]; decide
  have g2 : okW { K.zero with la := l % 256 } 16409 (l / 256) 0 = true := by unfold okW isB; rw [decide_eq_true (by omega), hk _ (by omega) (by omega)]; rfl
  have g3 : okW { K.zero with la := l } 16410 (131 + p % 4 * 8 + (bif o then 4 else 0)) 0 = true := by unfold okW isB; rw [decide_eq_true (by omega), hk _ (by omega) (by omega)]; rfl
  rw [g1, g2, g3]
  refine ⟨_, rfl, fun ρ => ?_⟩
  have e3 : K.write { K.zero with la := l } 16410 (131 + p % 4 * 8 + (bif o then 4 else 0)) 0 = K.started l p o := by
    unfold K.write
    rw [if_neg (by rw [hx]; simp), if_neg (by decide), if_neg (by decide), if_neg (by decide), if_pos rfl, if_pos (by omega)]
    show Clk.mk l l 0 _ ((131 + p % 4 * 8 + (bif o then 4 else 0)) % 32) _ _ _ _ _ _ _ _ = Clk.mk l l 0 _ (3 + p % 4 * 8 + (bif o then 4 else 0)) _ _ _ _ _ _ _ _
    rw [show (131 + p % 4 * 8 + (bif o then (4 : Int) else 0)) % 32 = 3 + p % 4 * 8 + (bif o then 4 else 0) by omega]
    rfl
  rw [e3]
noncomputable def spG : List (Nat × Spec) := (34, onT (i2 fun j l => vint .i64 (.sym (K.marks j l)))) :: (27, onT (t3 (fun l p _ => decide ((0 ≤ l ∧ l < 65536) ∧ 0 ≤ p ∧ p < 256)) fun l p o => clkV (K.started l p o))) :: (26, onT (i1 .u8 isB fun p => vint .i64 (.sym (K.size p)))) :: spF
theorem goodG : Good (Cb.with spG) := ((goodF.cons Tryd.func26 (by kernel_rfl) (by kernel_rfl) ok26).cons Tryd.func27 (by kernel_rfl) (by kernel_rfl) ok27).cons Tryd.func34 (by kernel_rfl) (by kernel_rfl) ok34
end Go.Proofs.YthndmfgmlbdekaaDoor.Ev
