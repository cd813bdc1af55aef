/- What every Write needs: the contracts over the dividers' table alone. -/
import Derived.Test.YthndmfgmlbdekaaDoorTm13
namespace Go.Proofs.YthndmfgmlbdekaaDoor.Ev
open Go Go.RowKit
set_option linter.unusedVariables false
set_option linter.unusedSimpArgs false
set_option linter.constructorNameAsVariable false
def Hw : T Blk := .n (some ⟨false, .row [(0, .int .u64 (.lit 1)), (0, .int .u64 (.lit 8)), (0, .int .u64 (.lit 64)), (0, .int .u64 (.lit 256))]⟩) .e .e
noncomputable def Cw : Ctx := { P := Tryd.prog, ty := tyIn tab, gs := [0], H0 := Hw, spec := fun _ => none, eqs := eqTab }
theorem okCw : Ok Cw := ⟨tyIn_ok (by kernel_rfl), by kernel_rfl, eqOf_ok (by kernel_rfl)⟩
theorem goodW0 : Good (Cw.with []) := Good.nil okCw
theorem gsNodupW : Cw.gs.Nodup := by decide
theorem ev37w (c : Clk) : vals (evFn (Cw.with []) 1 (fun _ => none) Tryd.f37 Cw.H0 1 [clkV c]) =
    .node (decide (0 ≤ bits .and .u8 (c.ct.fdiv 8) 3 ∧ bits .and .u8 (c.ct.fdiv 8) 3 < 4)) (.node (decide (0 + (bits .and .u8 (c.ct.fdiv 8) 3).toNat * 1 < 4)) (.leaf (vint .u64 (.sym ([1, 8, 64, 256].getD (0 + (bits .and .u8 (c.ct.fdiv 8) 3).toNat * 1) 0)))) .bad) .bad := by kernel_rfl
theorem ok37w : FnOk (Cw.with []) 37 (onC (g1 dvV)) := FnOk.g1 goodW0 gsNodupW Tryd.func37 (fun _ _ _ => rfl) 1 fun c => by
  have h := and3 (c.ct.fdiv 8)
  refine ⟨dvV c, ?_, fun _ => rfl⟩
  show (vals (evFn (Cw.with []) 1 (fun _ => none) Tryd.f37 Cw.H0 1 [clkV c])).get = _
  rw [ev37w]
  simp only [Tree.get, decide_eq_true h, cond_true]
  rw [decide_eq_true (by omega), cond_true, Nat.zero_add, Nat.mul_one]
  rfl
theorem ev38w (x : Int) : vals (evFn (Cw.with []) 1 (fun _ => none) Tryd.f38 Cw.H0 1 [vint .u8 (.sym x)]) =
    .node ((IntKind.u8.wrap (x.tdiv 8)).tmod 4 == 0) (.leaf (vint .i64 (.lit 1))) (.node ((IntKind.u8.wrap (x.tdiv 8)).tmod 4 == 1) (.leaf (vint .i64 (.lit 8))) (.node ((IntKind.u8.wrap (x.tdiv 8)).tmod 4 == 2) (.leaf (vint .i64 (.lit 64))) (.leaf (vint .i64 (.lit 256))))) := by kernel_rfl
theorem ok38w : FnOk (Cw.with []) 38 (onT (i1 .u8 isB fun x => vint .i64 (.sym (K.dvn x)))) := FnOk.i1 goodW0 gsNodupW Tryd.func38 (fun _ _ _ => rfl) 1 keep_none fun x hx => by
  unfold isB at hx
  rw [decide_eq_true_eq] at hx
  show ∃ v', (vals (evFn (Cw.with []) 1 (fun _ => none) Tryd.f38 Cw.H0 1 [vint .u8 (.sym x)])).get = some v' ∧ _
  rw [ev38w, Int.tdiv_eq_ediv_of_nonneg hx.1, wu8 (by omega) (by omega), Int.tmod_eq_emod_of_nonneg (by omega)]
  simp only [beq_true_iff]
  unfold K.dvn
  by_cases c0 : x / 8 % 4 = 0
  · rw [decide_eq_true c0, if_pos c0]; exact ⟨_, rfl, fun _ => rfl⟩
  rw [decide_eq_false c0, if_neg c0]
  by_cases c1 : x / 8 % 4 = 1
  · rw [decide_eq_true c1, if_pos c1]; exact ⟨_, rfl, fun _ => rfl⟩
  rw [decide_eq_false c1, if_neg c1]
  by_cases c2 : x / 8 % 4 = 2
  · rw [decide_eq_true c2, if_pos c2]; exact ⟨_, rfl, fun _ => rfl⟩
  rw [decide_eq_false c2, if_neg c2]
  exact ⟨_, rfl, fun _ => rfl⟩
noncomputable def pw1 : List (Nat × Spec) := [(38, onT (i1 .u8 isB fun x => vint .i64 (.sym (K.dvn x)))), (37, onC (g1 dvV))]
theorem goodW1 : Good (Cw.with pw1) := (goodW0.cons Tryd.func37 (by kernel_rfl) (by kernel_rfl) ok37w).cons Tryd.func38 (by kernel_rfl) (by kernel_rfl) ok38w
theorem ev23w (c : Clk) : vals (evFn (Cw.with pw1) 1 (fun _ => none) Tryd.f23 Cw.H0 1 [clkV c]) = .node (rInv c) (.leaf (vbool (.lit false))) (.leaf (vbool (.sym (rTail c)))) := by kernel_rfl
theorem ok23w : FnOk (Cw.with pw1) 23 (onT (t1 K.okC fun c => vbool (.sym (K.valid c)))) := FnOk.t1 goodW1 gsNodupW Tryd.func23 (fun _ _ _ => rfl) 1 keep_none fun c hc => by
  have h := okC_iff.1 hc
  have e := ev23w c
  have hr : rInv c = !decide (c.ct < 32 ∧ c.pr < K.dvn c.ct ∧ c.pl ≤ 37281 ∧ c.wa ≤ 4 ∧ c.be ≤ 63) := by
    unfold rInv
    rw [wu64 (by omega) (by omega), dv_eq (by omega) (by omega)]
    rw [Bool.eq_iff_iff]
    simp only [bif_or, Bool.or_eq_true, decide_eq_true_eq, Bool.not_eq_true', decide_eq_false_iff_not]
    omega
  have ht : rTail c = ((!c.ov || c.fl) && (!c.inh || !c.fr)) := by
    unfold rTail
    cases c.ov <;> cases c.fl <;> cases c.inh <;> cases c.fr <;> rfl
  show ∃ v', (vals (evFn (Cw.with pw1) 1 (fun _ => none) Tryd.f23 Cw.H0 1 [clkV c])).get = some v' ∧ _
  rw [e]
  cases hi : rInv c with
  | true =>
    refine ⟨_, rfl, fun ρ => ?_⟩
    unfold K.valid
    rw [hr] at hi
    simp only [Bool.not_eq_true'] at hi
    rw [hi]; rfl
  | false =>
    refine ⟨_, rfl, fun ρ => ?_⟩
    unfold K.valid
    rw [hr] at hi
    simp only [Bool.not_eq_false'] at hi
    rw [hi, ht]; rfl

theorem ev29w (c : Clk) : vals (evFn (Cw.with pw1) 1 (fun _ => none) Tryd.f29 Cw.H0 1 [clkV c]) = .node (rInvR c) (.leaf (vbool (.lit false))) (.node (isB c.ct) (.node (decide (IntKind.i64.wrap c.pr ≥ K.dvn c.ct)) (.leaf (vbool (.lit false)))
    (.node (bif c.ov then !c.fl else false) (.leaf (vbool (.lit false))) (.leaf (vbool (.sym (bif !c.inh then true else !c.fr)))))) .bad) := by kernel_rfl
theorem ok29w : FnOk (Cw.with pw1) 29 (onT (t1 K.okC fun c => vbool (.sym (K.valid c)))) := FnOk.t1 goodW1 gsNodupW Tryd.func29 (fun _ _ _ => rfl) 1 keep_none fun c hc => by
  have h := okC_iff.1 hc
  show ∃ v', (vals (evFn (Cw.with pw1) 1 (fun _ => none) Tryd.f29 Cw.H0 1 [clkV c])).get = some v' ∧ _
  have hb : isB c.ct = true := by unfold isB; rw [decide_eq_true_eq]; omega
  rw [ev29w, hb, wi64 (by omega) (by omega)]
  have hr : rInvR c = decide (c.ct ≥ 32 ∨ c.pl > 37281 ∨ c.wa > 4 ∨ c.be > 63) := by
    unfold rInvR
    rw [Bool.eq_iff_iff]
    simp only [bif_or, Bool.or_eq_true, decide_eq_true_eq]
  by_cases h1 : c.ct ≥ 32 ∨ c.pl > 37281 ∨ c.wa > 4 ∨ c.be > 63
  · rw [hr, decide_eq_true h1]
    refine ⟨_, rfl, fun ρ => ?_⟩
    have : K.valid c = false := by rw [← Bool.not_eq_true, valid_iff]; omega
    rw [this]; rfl
  rw [hr, decide_eq_false h1]
  by_cases h2 : c.pr ≥ K.dvn c.ct
  · rw [decide_eq_true h2]
    refine ⟨_, rfl, fun ρ => ?_⟩
    have : K.valid c = false := by rw [← Bool.not_eq_true, valid_iff]; omega
    rw [this]; rfl
  rw [decide_eq_false h2]
  have hv : K.valid c = ((!c.ov || c.fl) && (!c.inh || !c.fr)) := by
    unfold K.valid
    rw [decide_eq_true (by omega)]; rfl
  rw [hv]
  cases c.ov <;> cases c.fl <;> cases c.inh <;> cases c.fr <;> exact ⟨_, rfl, fun _ => rfl⟩
noncomputable def pw2 : List (Nat × Spec) := (29, onT (t1 K.okC fun c => vbool (.sym (K.valid c)))) :: (23, onT (t1 K.okC fun c => vbool (.sym (K.valid c)))) :: pw1
theorem goodW2 : Good (Cw.with pw2) := (goodW1.cons Tryd.func23 (by kernel_rfl) (by kernel_rfl) ok23w).cons Tryd.func29 (by kernel_rfl) (by kernel_rfl) ok29w
theorem ev17w (c : Clk) (a v n : Int) : vals (evFn (Cw.with pw2) 1 (fun _ => none) Tryd.f17 Cw.H0 1 [clkV c, vint .u16 (.sym a), vint .u8 (.sym v), vint .i64 (.sym n)]) =
  Tree.node (K.okC c) (Tree.node (!K.valid c) (Tree.leaf (V.v (V0.agg [L.int IntKind.u16 (I.sym c.1), L.int IntKind.u16 (I.sym c.2), L.int IntKind.u16 (I.sym c.3), L.int IntKind.u8 (I.sym c.4), L.int IntKind.u8 (I.sym c.5), L.bool (B.sym c.6), L.bool (B.sym c.7), L.bool (B.sym c.8), L.bool (B.sym c.9), L.bool (B.sym c.10), L.int IntKind.u16 (I.sym c.11), L.int IntKind.u8 (I.sym c.12), L.int IntKind.u8 (I.sym c.13)]))) (Tree.leaf (V.v (V0.agg [L.int IntKind.u16 (I.sym (bif a == 16407 then c.1 else bif a == 16408 then bits BinOp.or IntKind.u16 (bits BinOp.and IntKind.u16 c.1 65280) (IntKind.wrap IntKind.u16 v) else bif a == 16409 then bits BinOp.or IntKind.u16 (bits BinOp.and IntKind.u16 c.1 255) (IntKind.wrap IntKind.u16 (IntKind.wrap IntKind.u16 v * 256)) else c.1)), L.int IntKind.u16 (I.sym (bif a == 16407 then c.2 else bif a == 16408 then c.2 else bif a == 16409 then c.2 else bif a == 16410 then bif bits BinOp.and IntKind.u8 v 128 != 0 then c.1 else c.2 else c.2)), L.int IntKind.u16 (I.sym (bif a == 16407 then c.3 else bif a == 16408 then c.3 else bif a == 16409 then c.3 else bif a == 16410 then 0 else c.3)), L.int IntKind.u8 (I.sym c.4), L.int IntKind.u8 (I.sym (bif a == 16407 then c.5 else bif a == 16408 then c.5 else bif a == 16409 then c.5 else bif a == 16410 then bits BinOp.and IntKind.u8 v 31 else c.5)), L.bool (B.sym (bif a == 16407 then c.6 else bif a == 16408 then c.6 else bif a == 16409 then c.6 else bif a == 16410 then c.6 else bif a == 16411 then false else c.6)), L.bool (B.sym (bif a == 16407 then c.7 else bif a == 16408 then c.7 else bif a == 16409 then c.7 else bif a == 16410 then c.7 else bif a == 16411 then false else c.7)), L.bool (B.sym (bif a == 16407 then bits BinOp.and IntKind.u8 v 128 != 0 else c.8)), L.bool (B.sym (bif a == 16407 then bits BinOp.and IntKind.u8 v 64 != 0 else c.9)), L.bool (B.sym (bif a == 16407 then bif c.10 then !bits BinOp.and IntKind.u8 v 64 != 0 else false else c.10)), L.int IntKind.u16 (I.sym c.11), L.int IntKind.u8 (I.sym (bif a == 16407 then IntKind.wrap IntKind.u8 (3 + IntKind.wrap IntKind.u8 (bits BinOp.and IntKind.i64 n 1)) else c.12)), L.int IntKind.u8 (I.sym c.13)])))) Tree.bad := by kernel_rfl
theorem ev18w (c : Clk) (a v n : Int) : vals (evFn (Cw.with pw2) 1 (fun _ => none) Tryd.f18 Cw.H0 1 [clkV c, vint .u16 (.sym a), vint .u8 (.sym v), vint .i64 (.sym n)]) =
  Tree.node (K.okC c) (Tree.node (!K.valid c) (Tree.leaf (V.v (V0.agg [L.int IntKind.u16 (I.sym c.1), L.int IntKind.u16 (I.sym c.2), L.int IntKind.u16 (I.sym c.3), L.int IntKind.u8 (I.sym c.4), L.int IntKind.u8 (I.sym c.5), L.bool (B.sym c.6), L.bool (B.sym c.7), L.bool (B.sym c.8), L.bool (B.sym c.9), L.bool (B.sym c.10), L.int IntKind.u16 (I.sym c.11), L.int IntKind.u8 (I.sym c.12), L.int IntKind.u8 (I.sym c.13)]))) (Tree.leaf (V.v (V0.agg [L.int IntKind.u16 (I.sym (bif a == 16407 then c.1 else bif a == 16408 then IntKind.wrap IntKind.u16 (IntKind.wrap IntKind.u16 (IntKind.wrap IntKind.u16 (Int.tdiv c.1 256) * 256) + IntKind.wrap IntKind.u16 v) else bif a == 16409 then IntKind.wrap IntKind.u16 (Int.tmod c.1 256 + IntKind.wrap IntKind.u16 (256 * IntKind.wrap IntKind.u16 v)) else c.1)), L.int IntKind.u16 (I.sym (bif a == 16407 then c.2 else bif a == 16408 then c.2 else bif a == 16409 then c.2 else bif a == 16410 then bif decide (v ≥ 128) then c.1 else c.2 else c.2)), L.int IntKind.u16 (I.sym (bif a == 16407 then c.3 else bif a == 16408 then c.3 else bif a == 16409 then c.3 else bif a == 16410 then 0 else c.3)), L.int IntKind.u8 (I.sym c.4), L.int IntKind.u8 (I.sym (bif a == 16407 then c.5 else bif a == 16408 then c.5 else bif a == 16409 then c.5 else bif a == 16410 then Int.tmod v 32 else c.5)), L.bool (B.sym (bif a == 16407 then c.6 else bif a == 16408 then c.6 else bif a == 16409 then c.6 else bif a == 16410 then c.6 else bif a == 16411 then false else c.6)), L.bool (B.sym (bif a == 16407 then c.7 else bif a == 16408 then c.7 else bif a == 16409 then c.7 else bif a == 16410 then c.7 else bif a == 16411 then false else c.7)), L.bool (B.sym (bif a == 16407 then decide (v ≥ 128) else c.8)), L.bool (B.sym (bif a == 16407 then Int.tmod (IntKind.wrap IntKind.u8 (Int.tdiv v 64)) 2 == 1 else c.9)), L.bool (B.sym (bif a == 16407 then bif Int.tmod (IntKind.wrap IntKind.u8 (Int.tdiv v 64)) 2 == 1 then false else c.10 else c.10)), L.int IntKind.u16 (I.sym c.11), L.int IntKind.u8 (I.sym (bif a == 16407 then bif bits BinOp.and IntKind.i64 n 1 == 1 then 4 else 3 else c.12)), L.int IntKind.u8 (I.sym c.13)])))) Tree.bad := by kernel_rfl
theorem ok17w : FnOk (Cw.with pw2) 17 (onT (t4 okW fun c a v n => clkV (K.write c a v n))) := FnOk.t4 goodW2 gsNodupW Tryd.func17 (fun _ _ _ _ _ _ => rfl) 1 keep_none fun c a v n hc => by
  unfold okW at hc
  rw [Bool.and_eq_true] at hc
  obtain ⟨hC, hv⟩ := hc
  unfold isB at hv
  rw [decide_eq_true_eq] at hv
  have h := okC_iff.1 hC
  show ∃ v', (vals (evFn (Cw.with pw2) 1 (fun _ => none) Tryd.f17 Cw.H0 1 [clkV c, vint .u16 (.sym a), vint .u8 (.sym v), vint .i64 (.sym n)])).get = some v' ∧ _
  rw [ev17w, hC]
  unfold K.write
  cases hval : K.valid c with
  | false => exact ⟨_, rfl, fun _ => rfl⟩
  | true =>
    refine ⟨_, rfl, fun ρ => ?_⟩
    rw [if_neg (by simp)]
    rw [b128 hv.1 hv.2, b64 hv.1 hv.2, b31 hv.1 hv.2, bone64, wu16 (x := v) (by omega) (by omega), wu16 (x := v * 256) (by omega) (by omega), blow8 (by omega) (by omega) hv.1 hv.2, bhigh8 (by omega) (by omega) hv.1 hv.2]
    by_cases c1 : a = 16407
    · subst c1
      rw [if_pos rfl]
      have e : IntKind.u8.wrap (3 + IntKind.u8.wrap (n % 2)) = if n % 2 = 1 then 4 else 3 := by
        rw [wu8 (x := n % 2) (by omega) (by omega), wu8 (by omega) (by omega)]
        split <;> omega
      rw [e]
      have e2 : ∀ x y : Bool, (bif x then !y else false) = (x && !y) := by decide
      simp only [e2]
      rfl
    rw [if_neg c1, ne_beq c1]
    by_cases c2 : a = 16408
    · subst c2; rw [if_pos rfl]; rfl
    rw [if_neg c2, ne_beq c2]
    by_cases c3 : a = 16409
    · subst c3; rw [if_pos rfl]; rfl
    rw [if_neg c3, ne_beq c3]
    by_cases c4 : a = 16410
    · subst c4; rw [if_pos rfl]
      simp only [bif_ite]
      rfl
    rw [if_neg c4, ne_beq c4]
    by_cases c5 : a = 16411
    · subst c5; rw [if_pos rfl]; rfl
    rw [if_neg c5, ne_beq c5]
    rfl
theorem ok18w : FnOk (Cw.with pw2) 18 (onT (t4 okW fun c a v n => clkV (K.write c a v n))) := FnOk.t4 goodW2 gsNodupW Tryd.func18 (fun _ _ _ _ _ _ => rfl) 1 keep_none fun c a v n hc => by
  unfold okW at hc
  rw [Bool.and_eq_true] at hc
  obtain ⟨hC, hv⟩ := hc
  unfold isB at hv
  rw [decide_eq_true_eq] at hv
  have h := okC_iff.1 hC
  show ∃ v', (vals (evFn (Cw.with pw2) 1 (fun _ => none) Tryd.f18 Cw.H0 1 [clkV c, vint .u16 (.sym a), vint .u8 (.sym v), vint .i64 (.sym n)])).get = some v' ∧ _
  rw [ev18w, hC]
  unfold K.write
  cases hval : K.valid c with
  | false => exact ⟨_, rfl, fun _ => rfl⟩
  | true =>
    refine ⟨_, rfl, fun ρ => ?_⟩
    rw [if_neg (by simp)]
    rw [bone64, wu16 (x := v) (by omega) (by omega), Int.tdiv_eq_ediv_of_nonneg (a := c.la) (by omega), Int.tmod_eq_emod_of_nonneg (a := c.la) (by omega), Int.tmod_eq_emod_of_nonneg (a := v) (by omega), Int.tdiv_eq_ediv_of_nonneg (a := v) (by omega), wu8 (x := v / 64) (by omega) (by omega), Int.tmod_eq_emod_of_nonneg (a := v / 64) (by omega), wu16 (x := c.la / 256) (by omega) (by omega), wu16 (x := c.la / 256 * 256) (by omega) (by omega), wu16 (x := c.la / 256 * 256 + v) (by omega) (by omega), wu16 (x := 256 * v) (by omega) (by omega), wu16 (x := c.la % 256 + 256 * v) (by omega) (by omega), Int.mul_comm 256 v]
    simp only [beq_true_iff (a := v / 64 % 2), beq_true_iff (a := n % 2)]
    by_cases c1 : a = 16407
    · subst c1
      rw [if_pos rfl]
      have e2 : ∀ x y : Bool, (bif x then false else y) = (y && !x) := by decide
      simp only [e2, bif_ite]
      rfl
    rw [if_neg c1, ne_beq c1]
    by_cases c2 : a = 16408
    · subst c2; rw [if_pos rfl]; rfl
    rw [if_neg c2, ne_beq c2]
    by_cases c3 : a = 16409
    · subst c3; rw [if_pos rfl]; rfl
    rw [if_neg c3, ne_beq c3]
    by_cases c4 : a = 16410
    · subst c4; rw [if_pos rfl]
      simp only [bif_ite]
      rfl
    rw [if_neg c4, ne_beq c4]
    by_cases c5 : a = 16411
    · subst c5; rw [if_pos rfl]; rfl
    rw [if_neg c5, ne_beq c5]
    rfl
noncomputable def pw3 : List (Nat × Spec) := (18, onT (t4 okW fun c a v n => clkV (K.write c a v n))) :: (17, onT (t4 okW fun c a v n => clkV (K.write c a v n))) :: pw2
theorem goodW3 : Good (Cw.with pw3) := (goodW2.cons Tryd.func17 (by kernel_rfl) (by kernel_rfl) ok17w).cons Tryd.func18 (by kernel_rfl) (by kernel_rfl) ok18w
theorem glob_ofW {W : World} (h : laidMetH Tryd.prog [("tandem/timer.dividers", Rows.laid_tandem_timer_dividers)] W) : GOk Cw W := by
  rw [MakeChecks.laidMetH_plain _ _ _ (by kernel_rfl)] at h
  obtain ⟨ps, ⟨u0, t0, cs0, fuel0, p0, q0, hg0, ht0, hv0, hd0, _, _⟩, _⟩ := h
  obtain rfl : 0 = u0 := Option.some.inj ((show Tryd.prog.globalNamed "tandem/timer.dividers" = some 0 by kernel_rfl).symm.trans hg0)
  obtain rfl : 53 = t0 := Option.some.inj ((show (Tryd.prog.globals[0]?).map (·.type) = some 53 by kernel_rfl).symm.trans ht0)
  have e0 := Lib.cells_of_tab (k := .u64) (zs := [1, 8, 64, 256]) Tryd.underlying53 (by kernel_rfl) (by kernel_rfl) (by kernel_rfl) hd0
  obtain rfl : cs0 = #[.int .u64 1, .int .u64 8, .int .u64 64, .int .u64 256] := by apply Array.ext'; rw [e0]; rfl
  obtain ⟨ty0, fr0, b0⟩ := var_heap hg0 hv0
  have s0 := (Array.getElem?_eq_some_iff.1 b0).1
  refine ⟨fun v b hb => ?_, fun g hg => ?_⟩
  · have hb' : Hw.get v = some b := hb
    unfold Hw at hb'
    simp only [T.get_n] at hb'
    by_cases v0 : v = 0
    · subst v0
      rw [if_pos rfl] at hb'
      cases hb'
      exact ⟨0, _, ty0, fr0, rfl, rfl, b0, fun h => by cases h⟩
    · rw [if_neg v0] at hb'
      have hz : ∀ k, (T.e : T Blk).get k = none := T.get_e
      rw [hz, ite_self] at hb'; cases hb'
  · have hg' : g = 0 := by simpa [Cw] using hg
    omega
/-- Clocks alike. -/
def eqW (c d : Clk) : Bool := c.la == d.la && (c.co == d.co && (c.pr == d.pr && (c.ho == d.ho && (c.ct == d.ct && (c.fl == d.fl && (c.ov == d.ov && (c.fi == d.fi && (c.inh == d.inh && (c.fr == d.fr && (c.pl == d.pl && (c.wa == d.wa && (c.be == d.be && true))))))))))))
theorem eqW_self (c : Clk) : eqW c c = true := by unfold eqW; simp
theorem ev3 (c : Clk) (a v n : Int) : vals (evFn (Cw.with pw3) 1 (fun _ => none) Tryd.f3 Cw.H0 1 [clkV c, vint .u16 (.sym a), vint .u8 (.sym v), vint .i64 (.sym n)]) =
  .node (okW c a v n) (.node (okW c a v n) (.leaf (vbool (.sym (eqW (K.write c a v n) (K.write c a v n))))) .bad) .bad := by kernel_rfl
theorem law3 (c : Clk) (a v n : Int) (hc : K.okC c = true) (ha : 0 ≤ a ∧ a < 65536) (hv : 0 ≤ v ∧ v < 256) (hn : -9223372036854775808 ≤ n ∧ n < 9223372036854775808) :
    ∃ v', (vals (evFn (Cw.with pw3) 1 (fun _ => none) Tryd.f3 Cw.H0 1 [clkV c, vint .u16 (.sym a), vint .u8 (.sym v), vint .i64 (.sym n)])).get = some v' ∧ ∀ ρ, v'.den ρ = some (.bool true) := by
  rw [ev3, show okW c a v n = true by unfold okW isB; rw [hc, decide_eq_true hv]; rfl, eqW_self]
  exact ⟨_, rfl, fun _ => rfl⟩
end Go.Proofs.YthndmfgmlbdekaaDoor.Ev
namespace Go.Proofs.YthndmfgmlbdekaaDoor.Pure
open Go Go.RowKit Go.Proofs.YthndmfgmlbdekaaDoor.Ev
set_option linter.unusedVariables false
theorem TimerWrites (a0_0 : Int) (a0_1 : Int) (a0_2 : Int) (a0_3 : Int) (a0_4 : Int) (a0_5 : Bool) (a0_6 : Bool) (a0_7 : Bool) (a0_8 : Bool) (a0_9 : Bool) (a0_10 : Int) (a0_11 : Int) (a0_12 : Int) (a1 : Int) (a2 : Int) (a3 : Int) (w : World) (h0_0 : (Lit.int .u16 a0_0).wf = true) (h0_1 : (Lit.int .u16 a0_1).wf = true) (h0_2 : (Lit.int .u16 a0_2).wf = true) (h0_3 : (Lit.int .u8 a0_3).wf = true) (h0_4 : (Lit.int .u8 a0_4).wf = true) (h0_10 : (Lit.int .u16 a0_10).wf = true) (h0_11 : (Lit.int .u8 a0_11).wf = true) (h0_12 : (Lit.int .u8 a0_12).wf = true) (h1 : (Lit.int .u16 a1).wf = true) (h2 : (Lit.int .u8 a2).wf = true) (h3 : (Lit.int .i64 a3).wf = true) (G : Ev.GOk Ev.Cw w) :
    Calls Tryd.prog 3 #[.agg #[.int .u16 a0_0, .int .u16 a0_1, .int .u16 a0_2, .int .u8 a0_3, .int .u8 a0_4, .bool a0_5, .bool a0_6, .bool a0_7, .bool a0_8, .bool a0_9, .int .u16 a0_10, .int .u8 a0_11, .int .u8 a0_12], .int .u16 a1, .int .u8 a2, .int .i64 a3] w fun e w' => e = .returned (.bool true) ∧ Below w.heap.size w w' := by
  obtain ⟨v, h, hv⟩ := Ev.law3 ⟨a0_0, a0_1, a0_2, a0_3, a0_4, a0_5, a0_6, a0_7, a0_8, a0_9, a0_10, a0_11, a0_12⟩ a1 a2 a3 (okC_of h0_0 h0_1 h0_2 h0_3 h0_4 h0_10 h0_11 h0_12) (of_u16 h1) (of_u8 h2) (of_i64 h3)
  exact calls_of_ev (C := Cw.with pw3) goodW3.ok goodW3.hs goodW3.hb gsNodupW Tryd.func3 keep_none G rfl h hv
end Go.Proofs.YthndmfgmlbdekaaDoor.Pure
