/- '==' of plain structs; contexts that grow function by function; what is checked of a program's tables. -/
import Derived.Test.YthndmfgmlbdekaaDoorEv13
import Derived.Laws.StructEq
namespace Go.Proofs.YthndmfgmlbdekaaDoor.Ev
open Go Go.RowKit
set_option linter.unusedVariables false
set_option linter.unusedSimpArgs false
set_option linter.constructorNameAsVariable false
/-! ### '==' -/
def kindB (P : Program) (t : TypeId) (k : EK) : Bool := match P.underlying t, k with
  | some (.int k'), .int k => decide (k = k')
  | some .bool, .bool => true
  | _, _ => false
def fieldsB (P : Program) : Nat → List Field → List EK → Bool
  | _, [], [] => true
  | o, f :: fs, k :: ks => (f.name != "_") && (Nat.beq f.offset o && (kindB P f.type k && fieldsB P (o + 1) fs ks))
  | _, _, _ => false
def structB (P : Program) (t : TypeId) (ks : List EK) : Bool := match P.underlying t with
  | some (.struct fs) => fieldsB P 0 fs.toList ks && (!P.eqGuardType P.depth t && !P.stoodInHeld t)
  | _ => false
theorem kindB_int {P : Program} {t : TypeId} {k : IntKind} (h : kindB P t (.int k) = true) : P.underlying t = some (.int k) := by
  unfold kindB at h
  split at h
  · rename_i a b hu hk
    cases hk
    simp at h
    rw [hu, ← h]
  · rename_i hk; cases hk
  · cases h
theorem kindB_bool {P : Program} {t : TypeId} (h : kindB P t .bool = true) : P.underlying t = some .bool := by
  unfold kindB at h
  split at h
  · rename_i hk; cases hk
  · assumption
  · cases h
theorem fields_eq {P : Program} {d : Nat} {xs ys : List Value} {w : World} : ∀ {fs : List Field} {ks : List EK} {o : Nat} {as bs : List Value} {r : Bool}, fieldsB P o fs ks = true → eqVs ks as bs = some r →
    (∀ j, xs[o + j]? = as[j]?) → (∀ j, ys[o + j]? = bs[j]?) → (Op.eqFields (d + 1) xs.toArray ys.toArray fs).run P w = .ok r w
  | [], [], o, as, bs, r, _, h, _, _ => by
    cases as <;> cases bs <;> simp only [eqVs] at h <;> cases h
    rfl
  | [], _ :: _, _, _, _, _, h, _, _, _ => by cases h
  | _ :: _, [], _, _, _, _, h, _, _, _ => by cases h
  | f :: fs, k :: ks, o, as, bs, r, h, he, hx, hy => by
    simp only [fieldsB, Bool.and_eq_true] at h
    obtain ⟨h1, h2, h3, h4⟩ := h
    have h1 : f.name ≠ "_" := by simpa using h1
    have h2 := beq_iff.1 h2
    have rest : ∀ {a b : Value} {as bs : List Value}, (∀ j, xs[o + j]? = (a :: as)[j]?) → (∀ j, ys[o + j]? = (b :: bs)[j]?) → ∀ {r : Bool}, eqVs ks as bs = some r → (Op.eqFields (d + 1) xs.toArray ys.toArray fs).run P w = .ok r w := by
      intro a b as bs hx hy r he
      exact fields_eq h4 he (fun j => by have := hx (j + 1); simpa [Nat.add_assoc, Nat.add_comm 1 j] using this) (fun j => by have := hy (j + 1); simpa [Nat.add_assoc, Nat.add_comm 1 j] using this)
    rw [Op.eqFields, if_pos h1]
    cases k with
    | int k =>
      have hu := kindB_int h3
      cases as <;> cases bs <;> (try simp only [eqVs] at he) <;> try (cases he; done)
      rename_i a as b bs
      cases a <;> try (simp only [eqVs] at he; cases he; done)
      cases b <;> simp only [eqVs] at he <;> try (cases he; done)
      rename_i k1 x k2 y
      split at he
      · rename_i hk
        obtain ⟨rfl, rfl⟩ := hk
        split at he
        · rename_i r' hr
          cases he
          have px : (part f.type xs.toArray f.offset).run P w = .ok (.int k2 x) w := by
            have := hx 0; simp at this
            simp [part, isAgg, run_underlying hu, h2, this]
          have py : (part f.type ys.toArray f.offset).run P w = .ok (.int k2 y) w := by
            have := hy 0; simp at this
            simp [part, isAgg, run_underlying hu, h2, this]
          simp only [Sem.run_bind, px, py, Result.andThen_ok, run_equalIn_int w d f.type k2 k2 x y hu, Sem.run_ite, Sem.run_pure, rest hx hy hr]
          cases x == y
          · simp
          · simp
        · cases he
      · cases he
    | bool =>
      have hu := kindB_bool h3
      cases as <;> cases bs <;> (try simp only [eqVs] at he) <;> try (cases he; done)
      rename_i a as b bs
      cases a <;> try (simp only [eqVs] at he; cases he; done)
      cases b <;> simp only [eqVs] at he <;> try (cases he; done)
      rename_i x y
      split at he
      · rename_i r' hr
        cases he
        have px : (part f.type xs.toArray f.offset).run P w = .ok (.bool x) w := by
          have := hx 0; simp at this
          simp [part, isAgg, run_underlying hu, h2, this]
        have py : (part f.type ys.toArray f.offset).run P w = .ok (.bool y) w := by
          have := hy 0; simp at this
          simp [part, isAgg, run_underlying hu, h2, this]
        simp only [Sem.run_bind, px, py, Result.andThen_ok, run_equalIn_bool' w d f.type x y hu, Sem.run_ite, Sem.run_pure, rest hx hy hr]
        cases x <;> cases y <;> simp
      · cases he
theorem EqOk.of {P : Program} {t : TypeId} {ks : List EK} (h : structB P t ks = true) : EqOk P t ks := by
  unfold structB at h
  split at h
  · rename_i fs hu
    simp only [Bool.and_eq_true, Bool.not_eq_true'] at h
    obtain ⟨h1, h2, h3⟩ := h
    refine ⟨h2, fun xs ys b w he => ?_⟩
    have hf : P.fieldsOf t = fs := by simp [Program.fieldsOf, hu]
    show (Op.equalIn (9999 + 1) t (.agg xs.toArray) (.agg ys.toArray)).run P w = _
    rw [run_equalIn_struct (P := P) w 9999 t _ _ (by rw [hf]; exact hu) h3, hf]
    exact fields_eq h1 he (fun j => by simp) (fun j => by simp)
  · cases h

/-! ### Contexts -/
abbrev Spec := T Blk → Nat → List V → Tree V
def spIn : List (Nat × Spec) → Nat → Option Spec
  | [], _ => none
  | (f, F) :: l, g => bif Nat.beq f g then some F else spIn l g
structure Good (C : Ctx) : Prop where
  ok : Ok C
  hs : SpecOk C
  hb : BodyOk C
def Ctx.with (C : Ctx) (l : List (Nat × Spec)) : Ctx := { C with spec := spIn l }
theorem Good.nil {C : Ctx} (h : Ok C) : Good (C.with []) := ⟨⟨h.ty, h.mixed, h.eqs⟩, fun f F h => (by cases h), fun f F h => (by cases h)⟩
theorem spIn_cons {f : Nat} {F : Spec} {l : List (Nat × Spec)} {g : Nat} {G : Spec} (h : spIn ((f, F) :: l) g = some G) : (g = f ∧ G = F) ∨ spIn l g = some G := by
  simp only [spIn] at h
  cases hb : Nat.beq f g with
  | true => rw [hb] at h; cases h; exact .inl ⟨(beq_iff.1 hb).symm, rfl⟩
  | false => rw [hb] at h; exact .inr h
theorem Good.cons {C : Ctx} {l : List (Nat × Spec)} (h : Good (C.with l)) {f : Nat} {F : Spec} {fn : Func} (hf : C.P.funcs[f]? = some fn) (hb : fn.body.isSome = true) (hn : (fn.name != "runtime.NumGoroutine") = true)
    (hF : FnOk (C.with l) f F) : Good (C.with ((f, F) :: l)) :=
  { ok := ⟨h.ok.ty, h.ok.mixed, h.ok.eqs⟩
    hs := fun g G hg => by
      rcases spIn_cons hg with ⟨rfl, rfl⟩ | hg
      · exact hF
      · exact h.hs g G hg
    hb := fun g G hg => by
      rcases spIn_cons hg with ⟨rfl, rfl⟩ | hg
      · exact ⟨fn, hf, hb, by simpa using hn⟩
      · exact h.hb g G hg }
theorem tyIn_ok {P : Program} : ∀ {l : List (Nat × TI)}, l.map (fun p => tiOf P p.1) = l.map (fun p => some p.2) → ∀ t i, tyIn l t = some i → tiOf P t = some i
  | [], _, t, i, h => by cases h
  | (u, j) :: l, hl, t, i, h => by
    simp only [List.map_cons, List.cons.injEq] at hl
    simp only [tyIn] at h
    cases hb : Nat.beq u t with
    | true => rw [hb] at h; cases h; rw [← beq_iff.1 hb]; exact hl.1
    | false => rw [hb] at h; exact tyIn_ok hl.2 t i h
theorem eqOf_ok {P : Program} : ∀ {l : List (TypeId × List EK)}, l.all (fun p => structB P p.1 p.2) = true → ∀ t ks, eqOf l t = some ks → EqOk P t ks
  | [], _, t, i, h => by cases h
  | (u, j) :: l, hl, t, i, h => by
    simp only [List.all_cons, Bool.and_eq_true] at hl
    simp only [eqOf] at h
    cases hb : Nat.beq u t with
    | true => rw [hb] at h; cases h; rw [← beq_iff.1 hb]; exact EqOk.of hl.1
    | false => rw [hb] at h; exact eqOf_ok hl.2 t i h
theorem keep_none : KeepOk fun _ => none := fun _ _ h => by cases h
end Go.Proofs.YthndmfgmlbdekaaDoor.Ev
