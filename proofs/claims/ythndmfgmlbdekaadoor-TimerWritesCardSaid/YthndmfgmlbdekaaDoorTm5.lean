/- The sequencer over n cycles: its loop, and what stands behind it. -/
import Derived.Test.YthndmfgmlbdekaaDoorTm4
namespace Go.Proofs.YthndmfgmlbdekaaDoor.Ev
open Go Go.RowKit
set_option linter.unusedVariables false
set_option linter.unusedSimpArgs false
set_option linter.constructorNameAsVariable false
/-! The marks that are passed: over a list of the caller's. -/
namespace K
def cnt (z : Int) : List Int → Int
  | [] => 0
  | m :: ms => cnt z ms + (if m ≤ z then 1 else 0)
/-- How many of the marks lie in the places 1 to x, round after round. -/
def passed (x y : Int) (ms : List Int) : Int := x / y * (ms.length : Int) + cnt (x % y) ms
end K
def rowOf (k : IntKind) (ms : List Int) : List (Nat × L) := ms.map fun m => (0, .int k (.sym m))
def marksOf (all : List Int) (o l : Nat) : Option (List Int) := match all with
  | [_, a, b, c, d] => bif Nat.beq o 1 && Nat.beq l 4 then some [a, b, c, d] else none
  | [a, b, c] => bif Nat.beq o 0 && Nat.beq l 3 then some [a, b, c] else none
  | _ => none
def okP (x y : Int) : Bool := decide (0 ≤ x ∧ x < 9223372036854841344 ∧ 1000 ≤ y ∧ y < 65536)
def sliceG : Spec := fun h _ args => match args with
  | [.v (.l (.int k1 x)), .v (.l (.int k2 y)), .v (.l (.slc v (.lit o) (.lit l) (.lit c)))] => bif decide (k1 = .u64) && (decide (k2 = .u64) && (Nat.ble 3 v && Nat.beq c l)) then (match h.get v with
    | some ⟨_, .row xs⟩ => (match asInts (xs.map (·.2)) with
      | some (k, all) => bif decide (k = .u64) then (match marksOf all o l with
        | some ms => gdT (okP x.n y.n) (.leaf (vint .u64 (.sym (K.passed x.n y.n ms))))
        | none => .bad) else .bad
      | none => .bad)
    | _ => .bad) else .bad
  | _ => .bad
theorem rowOf_den (ρ : List Nat) (k : IntKind) : ∀ ms : List Int, denL ρ ((rowOf k ms).map (·.2)) = some (ms.map (.int k ·))
  | [] => rfl
  | m :: ms => by
    have ih := rowOf_den ρ k ms
    simp only [rowOf, List.map_cons] at ih ⊢
    simp only [denL, L.den, I.n, ih]
/-- The caller's list, alone. -/
def Hl (all : List Int) : T Blk := T.set depth H0 3 (some ⟨false, .row (rowOf .u64 all)⟩)
def slcV (o l : Nat) : V := .v (.l (.slc 3 (.lit o) (.lit l) (.lit l)))
def stepP (x y m n : Int) : Int := bif decide (m ≤ x.tmod y) then IntKind.u64.wrap (n + 1) else n
def startP (x y : Int) (l : Int) : Int := IntKind.u64.wrap (IntKind.u64.wrap (x.tdiv y) * l)
theorem ev49a (x y r a b c d : Int) : vals (evFn (Cb.with sp1) 10 (fun _ => none) Tryd.f49 (Hl [r, a, b, c, d]) 4 [vint .u64 (.sym x), vint .u64 (.sym y), slcV 1 4]) =
    .node (y != 0) (.node (y != 0) (.node (y != 0) (.node (y != 0) (.node (y != 0) (.leaf (vint .u64 (.sym (stepP x y d (stepP x y c (stepP x y b (stepP x y a (startP x y 4)))))))) .bad) .bad) .bad) .bad) .bad := by kernel_rfl
theorem ev49b (x y a b c : Int) : vals (evFn (Cb.with sp1) 10 (fun _ => none) Tryd.f49 (Hl [a, b, c]) 4 [vint .u64 (.sym x), vint .u64 (.sym y), slcV 0 3]) =
    .node (y != 0) (.node (y != 0) (.node (y != 0) (.node (y != 0) (.leaf (vint .u64 (.sym (stepP x y c (stepP x y b (stepP x y a (startP x y 3))))))) .bad) .bad) .bad) .bad := by kernel_rfl
theorem stepP_eq {x y m n : Int} (hx : 0 ≤ x) (hn : 0 ≤ n) (hn1 : n < 18446744073709551615) : stepP x y m n = n + (if m ≤ x % y then 1 else 0) := by
  unfold stepP
  rw [Int.tmod_eq_emod_of_nonneg hx, wu64 (by omega) (by omega), cond_ite]
  simp only [decide_eq_true_eq]
  split <;> omega
theorem okP_iff {x y : Int} : okP x y = true ↔ (0 ≤ x ∧ x < 9223372036854841344 ∧ 1000 ≤ y ∧ y < 65536) := by unfold okP; rw [decide_eq_true_eq]
theorem startP_eq {x y l : Int} (h : okP x y = true) (hl : 0 ≤ l ∧ l ≤ 4) : startP x y l = x / y * l ∧ 0 ≤ x / y * l ∧ x / y * l ≤ 40000000000000000 := by
  have h := okP_iff.1 h
  have h1 : 0 ≤ x / y := Int.ediv_nonneg (by omega) (by omega)
  have h2 : x / y < 9223372036854842 := Int.ediv_lt_of_lt_mul (by omega) (by omega)
  have h3 : 0 ≤ x / y * l := Int.mul_nonneg h1 hl.1
  have h4 : x / y * l ≤ x / y * 4 := Int.mul_le_mul_of_nonneg_left hl.2 h1
  refine ⟨?_, h3, by omega⟩
  unfold startP
  rw [Int.tdiv_eq_ediv_of_nonneg (by omega), wu64 h1 (by omega), wu64 h3 (by omega)]
theorem ite01 (p : Prop) [Decidable p] : (0 : Int) ≤ (if p then 1 else 0) ∧ (if p then (1 : Int) else 0) ≤ 1 := by split <;> omega
theorem passed4 {x y a b c d : Int} (h : okP x y = true) : stepP x y d (stepP x y c (stepP x y b (stepP x y a (startP x y 4)))) = K.passed x y [a, b, c, d] := by
  obtain ⟨e0, e1, e2⟩ := startP_eq h (l := 4) (by omega)
  have hx := (okP_iff.1 h).1
  have i1 := ite01 (a ≤ x % y)
  have i2 := ite01 (b ≤ x % y)
  have i3 := ite01 (c ≤ x % y)
  rw [e0, stepP_eq (m := a) hx e1 (by omega), stepP_eq (m := b) hx (by omega) (by omega), stepP_eq (m := c) hx (by omega) (by omega), stepP_eq (m := d) hx (by omega) (by omega)]
  simp only [K.passed, K.cnt, List.length_cons, List.length_nil]
  omega
theorem passed3 {x y a b c : Int} (h : okP x y = true) : stepP x y c (stepP x y b (stepP x y a (startP x y 3))) = K.passed x y [a, b, c] := by
  obtain ⟨e0, e1, e2⟩ := startP_eq h (l := 3) (by omega)
  have hx := (okP_iff.1 h).1
  have i1 := ite01 (a ≤ x % y)
  have i2 := ite01 (b ≤ x % y)
  rw [e0, stepP_eq (m := a) hx e1 (by omega), stepP_eq (m := b) hx (by omega) (by omega), stepP_eq (m := c) hx (by omega) (by omega)]
  simp only [K.passed, K.cnt, List.length_cons, List.length_nil]
  omega
theorem marks_get {x y : Int} {all ms : List Int} {o l : Nat} (hy : okP x y = true) (h : marksOf all o l = some ms) :
    (vals (evFn (Cb.with sp1) 10 (fun _ => none) Tryd.f49 (Hl all) 4 [vint .u64 (.sym x), vint .u64 (.sym y), slcV o l])).get = some (vint .u64 (.sym (K.passed x y ms))) := by
  have hy0 : (y != 0) = true := by have := okP_iff.1 hy; simp; omega
  unfold marksOf at h
  split at h
  · rename_i r a b c d
    cases hb : (Nat.beq o 1 && Nat.beq l 4) with
    | false => rw [hb] at h; cases h
    | true =>
      rw [hb] at h
      cases h
      simp only [Bool.and_eq_true, beq_iff] at hb
      obtain ⟨rfl, rfl⟩ := hb
      rw [ev49a]
      simp only [Tree.get, hy0, cond_true, passed4 hy]
  · rename_i a b c
    cases hb : (Nat.beq o 0 && Nat.beq l 3) with
    | false => rw [hb] at h; cases h
    | true =>
      rw [hb] at h
      cases h
      simp only [Bool.and_eq_true, beq_iff] at hb
      obtain ⟨rfl, rfl⟩ := hb
      rw [ev49b]
      simp only [Tree.get, hy0, cond_true, passed3 hy]
  · cases h
theorem ok49 : FnOk (Cb.with sp1) 49 sliceG := by
  intro w0 W ρ h w args vs v hH G ha hv
  unfold sliceG at hv
  split at hv
  · rename_i k1 x k2 y vd o l c
    cases hg : (decide (k1 = .u64) && (decide (k2 = .u64) && (Nat.ble 3 vd && Nat.beq c l))) with
    | false => rw [hg] at hv; cases hv
    | true =>
      rw [hg] at hv
      simp only [Bool.and_eq_true, decide_eq_true_eq, Nat.ble_eq, beq_iff] at hg
      obtain ⟨rfl, rfl, h3, rfl⟩ := hg
      simp only [cond_true] at hv
      split at hv
      · rename_i wr xs hb
        split at hv
        · rename_i k all hall
          by_cases hk : k = .u64
          · subst hk
            simp only [decide_true, cond_true] at hv
            split at hv
            · rename_i ms hms
              obtain ⟨hok, hv2⟩ := gdT_get hv
              cases hv2
              obtain ⟨g, ys, t, fr, e1, e2, e3, _⟩ := hH.heap vd _ hb
              simp only [Cells.den, asInts_den hall] at e2
              cases e2
              simp only [denVs, V.den, V0.den, L.den, e1, N.n] at ha
              cases ha
              have hgn : g ∉ Cb.gs := by
                intro hgm
                obtain ⟨i, hi⟩ := List.getElem?_of_mem hgm
                have hi3 : i < 3 := (List.getElem?_eq_some_iff.1 hi).1
                have hi' := pre_get hH.gs hi
                have l1 := (List.getElem?_eq_some_iff.1 hi').1
                have := (List.getElem?_inj l1 hH.nodup).1 (hi'.trans e1.symm)
                omega
              have hglt : g < w.heap.size := hH.lt g (List.mem_of_getElem? e1)
              have H : HSim Cb.gs w [] (Cb.gs ++ [g]) (Hl all) w := by
                refine ⟨⟨_, rfl⟩, ?_, ?_, ?_, Fr.refl _ _⟩
                · rw [List.nodup_append]
                  refine ⟨gsNodup, by simp, fun a ha b hb => ?_⟩
                  simp at hb
                  subst hb
                  intro e
                  subst e
                  exact hgn ha
                · intro q hq
                  rcases List.mem_append.1 hq with hq | hq
                  · exact G.2 q hq
                  · simp at hq; subst hq; exact hglt
                · intro v' b' hb'
                  unfold Hl at hb'
                  rw [T.get_put (by omega)] at hb'
                  split at hb'
                  · rename_i e
                    subst e
                    cases hb'
                    exact ⟨g, _, t, fr, rfl, rowOf_den _ _ _, e3, fun h => by cases h⟩
                  · obtain ⟨g', ys', t', fr', k1, k2, k3, k4⟩ := G.1 v' b' hb'
                    exact ⟨g', ys', t', fr', pre_get ⟨_, rfl⟩ k1, cells_pre ⟨_, rfl⟩ k2, k3, fun h => (k4 h).2.elim⟩
              obtain ⟨s', h4⟩ := vals_get (marks_get hok hms)
              exact evFn_sound good1.ok good1.hs good1.hb ⟨G, fun _ _ => by simp⟩ keep_none (f := 49) (ρ := Cb.gs ++ [g]) Tryd.func49 H rfl h4 fun ρ' w' z f1 f2 f3 => ⟨z, f2, rfl, f3.fr.below⟩
            · cases hv
          · simp [hk] at hv; cases hv
        · cases hv
      · cases hv
  · cases hv
noncomputable def sp2 : List (Nat × Spec) := (36, onT (t2 .u64 okn fun c n => clkV (K.count c n))) :: (47, onT (t1 K.okv fun c => clkV (K.one c))) :: (23, onT (t1 K.okC fun c => vbool (.sym (K.valid c)))) :: (49, sliceG) :: sp1
theorem good2 : Good (Cb.with sp2) :=
  (((good1.cons Tryd.func49 (by kernel_rfl) (by kernel_rfl) ok49).cons Tryd.func23 (by kernel_rfl) (by kernel_rfl) ok23).cons Tryd.func47 (by kernel_rfl) (by kernel_rfl) ok47).cons Tryd.func36 (by kernel_rfl) (by kernel_rfl) ok36
end Go.Proofs.YthndmfgmlbdekaaDoor.Ev
