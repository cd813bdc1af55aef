/- The evaluator is sound, fifth part: all operations that only read. -/
import Derived.Test.YthndmfgmlbdekaaDoorEv6
namespace Go.Proofs.YthndmfgmlbdekaaDoor.Ev
open Go Go.RowKit
set_option linter.unusedVariables false
set_option linter.unusedSimpArgs false
set_option linter.constructorNameAsVariable false
section
variable {C : Ctx} (ok : Ok C) {A : Nat → Prop} {ρ : List Nat} {s : St} {a : Act} {w : World}
theorem evLen_sound {p v : V} {x : Value} (hp : p.den ρ = some x) (h : (evLen p).get = some v) : ∃ o l c, x = .slice (some o) l c ∧ v.den ρ = some (.int .i64 (l : Int)) := by
  unfold evLen at h
  split at h
  · obtain ⟨g, hg, rfl⟩ := den_slc hp
    cases h
    exact ⟨_, _, _, rfl, by simp only [vint, V.den, V0.den, L.den, N.toI_n]⟩
  · cases h
include ok
theorem evBuiltin_sound {b : Builtin} {ts : Array TypeId} {ps : List V} {xs : List Value} {v : V} (hp : denVs ρ ps = some xs) (h : (evBuiltin C b ts ps).get = some v) (ty : TypeId) (cs : Array Bool) (w : World) :
    ∃ z, v.den ρ = some z ∧ (builtin b ts ty cs xs.toArray).run C.P w = .ok (.value z) w := by
  unfold evBuiltin at h
  split at h
  · rename_i x
    simp only [denVs] at hp
    split at hp
    · rename_i y ys hy hys
      cases hys; cases hp
      split at h
      · rename_i t ht
        split at h
        · rename_i a1 a2 a3 a4 e hty
          obtain ⟨d, hu, hd⟩ := under_of ok hty
          have hd' := tdOf_slice hd.symm
          subst hd'
          obtain ⟨o, l, c, rfl, hv⟩ := evLen_sound hy h
          refine ⟨_, hv, ?_⟩
          simp [builtin, Builtin.len_, ht, run_underlying hu, goInt]
        · cases h
      · cases h
    · cases hp
  · rename_i k x k' y
    cases hp
    cases h
    refine ⟨_, rfl, ?_⟩
    rw [I.map2_n]
    simp [builtin, Builtin.min_, Builtin.min2, least]
  · rename_i k x k' y
    cases hp
    cases h
    refine ⟨_, rfl, ?_⟩
    rw [I.map2_n]
    simp [builtin, Builtin.max_, Builtin.max2, most]
  · cases h
omit ok
theorem evPick_sound {t : B} {x y : Option V} {u v : Value} {r : V} (hx : ∀ z, x = some z → z.den ρ = some u) (hy : ∀ z, y = some z → z.den ρ = some v) (h : (evPick t x y).get = some r) :
    r.den ρ = some (if t.b then u else v) := by
  cases t with
  | lit b =>
    simp only [evPick] at h
    cases b with
    | true => simp only [cond_true] at h; exact hx _ (get_ofO h)
    | false => simp only [cond_false] at h; exact hy _ (get_ofO h)
  | sym b =>
    simp only [evPick] at h
    split at h
    · rename_i x y
      split at h
      · rename_i z hz
        cases h
        rw [mV_den hz, hx _ rfl, hy _ rfl]
        cases b <;> rfl
      · cases b with
        | true => cases h; exact hx _ rfl
        | false => cases h; exact hy _ rfl
    · cases b with
      | true => exact hx _ (get_ofO h)
      | false => exact hy _ (get_ofO h)
theorem evParts_den (hg : C.gs <+: ρ) (he : ESim ρ s.env a) : ∀ {xs : List (Nat × Operand)} {vs : List (Nat × V)}, evParts C s xs = some vs → denP ρ vs = some (xs.map fun p => (p.1, a.eval p.2))
  | [], _, h => by cases h; rfl
  | (i, x) :: xs, vs, h => by
    simp only [evParts] at h
    split at h
    · rename_i v us hv hu
      cases h
      simp only [denP, evO_den hg he hv, evParts_den hg he hu, List.map_cons]
    · cases h
include ok
theorem evPure_sound (hg : C.gs <+: ρ) (he : ESim ρ s.env a) (hH : HeapOk A ρ s.heap w) {o : Oper} {v : V} (h : (evPure C s o.op).get = some v) :
    ∃ y, v.den ρ = some y ∧ (execOp a.eval o).run C.P w = .ok (.value y) w := by
  unfold evPure at h
  split at h
  · rename_i x e
    have h1 := evO_den hg he (get_ofO h)
    exact ⟨_, h1, by simp [execOp, e]⟩
  · rename_i x e
    have h1 := evO_den hg he (get_ofO h)
    exact ⟨_, h1, by simp [execOp, e]⟩
  · rename_i c x y e
    split at h
    · rename_i t hc
      have h1 := evO_den hg he hc
      simp only [V.den, V0.den, L.den, Option.some.injEq] at h1
      have h2 := evPick_sound (fun z hz => evO_den hg he hz) (fun z hz => evO_den hg he hz) h
      exact ⟨_, h2, by simp [execOp, e, ← h1, asBool]⟩
    · cases h
  · rename_i x e
    split at h
    · rename_i pv o hx
      cases h
      have h1 := evO_den hg he hx
      obtain ⟨g, hgg, hv⟩ := den_ptr h1
      exact ⟨_, h1, by simp [execOp, e, hv]⟩
    · cases h
  · rename_i op xt x y yt e
    split at h
    · rename_i p q hx hy
      obtain ⟨z, hz, h1, h2⟩ := evBin_sound ok (evO_den hg he hx) (evO_den hg he hy) h x y w
      exact ⟨z, hz, by simp only [execOp, e, Sem.run_bind, h1, h2, Result.andThen_ok, Sem.run_pure]⟩
    · cases h
  · rename_i op t x e
    split at h
    · rename_i p hx
      obtain ⟨z, hz, h2⟩ := evUn_sound (evO_den hg he hx) h C.P w
      exact ⟨z, hz, by simp only [execOp, e, Sem.run_bind, h2, Result.andThen_ok, Sem.run_pure]⟩
    · cases h
  · rename_i sr d x e
    split at h
    · rename_i k n a1 a2 a3 a4 k' si hx hty hsr
      cases h
      have h1 := evO_den hg he hx
      simp only [V.den, V0.den, L.den, Option.some.injEq] at h1
      obtain ⟨dd, hu, hd⟩ := under_of ok hty
      have hd' := tdOf_int hd.symm
      subst hd'
      refine ⟨_, rfl, ?_⟩
      rw [I.map_n]
      obtain ⟨info, d2, z2, e1, e2, _⟩ := tiOf_ok (ok.ty _ _ hsr)
      simp only [execOp, e, Sem.run_bind, ← h1, convert, run_underlying e2, run_underlying hu, Result.andThen_ok]
      rfl
    · cases h
  · rename_i t x f e
    split at h
    · rename_i pv o d el hx hf
      have h1 := evO_den hg he hx
      obtain ⟨g, hgg, hv⟩ := den_ptr h1
      obtain ⟨fields, fl, hu, hfl, ho, ht⟩ := fieldOf_ok ok hf
      cases hz : sizeT C el with
      | none => simp only [hz] at h; cases h
      | some z =>
        simp only [hz] at h
        cases hz0 : Nat.beq z 0 with
        | true => rw [hz0] at h; cases h
        | false =>
          rw [hz0] at h
          cases h
          have hne : z ≠ 0 := beq_ff.1 hz0
          refine ⟨.pointer (some ⟨g, o.n + d, none⟩), by simp only [V.den, V0.den, L.den, hgg, N.map_n], ?_⟩
          have hs := run_sizeT ok hz w
          rw [← ht] at hs
          simp [execOp, e, Instr.fieldAt, run_underlying hu, hfl, hv, Instr.sureAddr, fieldPlace, hs, hne, ho, add_none]
    · cases h
  · rename_i t x f e
    split at h
    · rename_i xs d el hx hf
      have h1 := evO_den hg he hx
      obtain ⟨ys, hys, hv⟩ := den_agg h1
      obtain ⟨fields, fl, hu, hfl, ho, ht⟩ := fieldOf_ok ok hf
      obtain ⟨y, hy, hrun⟩ := evPart_sound ok hys h w
      rw [← ht, ← ho] at hrun
      exact ⟨y, hy, by simp [execOp, e, Instr.field, run_underlying hu, hfl, hv, asAgg, hrun]⟩
    · cases h
  · rename_i t x i e
    split at h
    · rename_i p q hx hy
      obtain ⟨z, hz, h2⟩ := evIndexAddr_sound ok (evO_den hg he hx) (evO_den hg he hy) h w
      exact ⟨z, hz, by simp only [execOp, e, Sem.run_bind, h2, Result.andThen_ok, Sem.run_pure]⟩
    · cases h
  · rename_i t x i e
    split at h
    · rename_i p q hx hy
      obtain ⟨z, hz, h2⟩ := evIndex_sound ok (evO_den hg he hx) (evO_den hg he hy) h w
      exact ⟨z, hz, by simp only [execOp, e, Sem.run_bind, h2, Result.andThen_ok, Sem.run_pure]⟩
    · cases h
  · rename_i x i e
    split at h
    · rename_i xs hx
      split at h
      · rename_i y hy
        cases h
        have h1 := evO_den hg he hx
        obtain ⟨ys, hys, hv⟩ := den_tup h1
        obtain ⟨z, hz, hzi⟩ := denV0_at hys hy
        exact ⟨z, hz, by simp [execOp, e, hv, Instr.extract, hzi]⟩
      · cases h
    · cases h
  · rename_i t x lo hi mx e
    split at h
    · rename_i p hx
      obtain ⟨z, hz, h2⟩ := evSlice_sound ok (evO_den hg he hx) h a.eval w
      exact ⟨z, hz, by simp only [execOp, e, Sem.run_bind, h2, Result.andThen_ok, Sem.run_pure]⟩
    · cases h
  · rename_i t x e
    split at h
    · rename_i p hx
      obtain ⟨z, hz, h2⟩ := evLoad_sound ok hH (evO_den hg he hx) h
      exact ⟨z, hz, by simp only [execOp, e, Sem.run_bind, h2, Result.andThen_ok, Sem.run_pure]⟩
    · cases h
  · rename_i t ps e
    split at h
    · rename_i qs hq
      obtain ⟨z, hz, h2⟩ := evBuild_sound ok (evParts_den hg he hq) h w
      refine ⟨z, hz, ?_⟩
      have : (ps.toList.map fun p => (p.1, a.eval p.2)).toArray = ps.map fun p => (p.1, a.eval p.2) := by apply Array.ext'; simp
      rw [this] at h2
      simp only [execOp, e, Sem.run_bind, h2, Result.andThen_ok, Sem.run_pure]
    · cases h
  · rename_i b as ts e
    split at h
    · rename_i xs hx
      obtain ⟨z, hz, h2⟩ := evBuiltin_sound ok (evOs_den hg he hx) h o.type (as.map fun | .const _ => true | _ => false) w
      refine ⟨z, hz, ?_⟩
      have : (as.toList.map a.eval).toArray = as.map a.eval := by apply Array.ext'; simp
      rw [this] at h2
      simp only [execOp, e, resolve, pure_bind, invoke]
      exact h2
    · cases h
  · cases h
end
end Go.Proofs.YthndmfgmlbdekaaDoor.Ev
