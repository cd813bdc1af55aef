/- The evaluator is sound, last part: whole functions; how a function's contract for its callers is shown. -/
import Derived.Test.YthndmfgmlbdekaaDoorEv12
namespace Go.Proofs.YthndmfgmlbdekaaDoor.Ev
open Go Go.RowKit
set_option linter.unusedVariables false
set_option linter.unusedSimpArgs false
set_option linter.constructorNameAsVariable false
section
variable {C : Ctx} {w0 : World} {W : List Nat} {n k : Nat} {keep : Nat → Option (List Nat)} {ρ : List Nat}
theorem argEnv_get : ∀ {args : List V} {i : Nat} {e : T (Nat × V)} {d : Nat} {p : Nat × V}, i + args.length ≤ 4000 → (argEnv i args e).get d = some p → (∃ j, d = i + j ∧ args[j]? = some p.2) ∨ e.get d = some p
  | [], i, e, d, p, _, h => .inr h
  | x :: xs, i, e, d, p, hl, h => by
    simp only [List.length_cons] at hl
    rcases argEnv_get (args := xs) (by omega) h with ⟨j, h1, h2⟩ | h1
    · exact .inl ⟨j + 1, by omega, by simpa using h2⟩
    · rw [T.get_put (by omega)] at h1
      split at h1
      · rename_i e'; cases h1; subst e'; exact .inl ⟨0, by omega, by simp⟩
      · exact .inr h1
theorem denVs_at {ρ : List Nat} : ∀ {xs : List V} {ys : List Value}, denVs ρ xs = some ys → ∀ {i : Nat} {x : V}, xs[i]? = some x → ∃ y, x.den ρ = some y ∧ ys[i]? = some y
  | [], _, e, i, x, h => by simp at h
  | x :: xs, ys, e, i, z, h => by
    simp only [denVs] at e
    split at e
    · rename_i y zs hy hz
      cases e
      cases i with
      | zero => simp at h; subst h; exact ⟨y, hy, rfl⟩
      | succ i => simpa using denVs_at hz (i := i) (by simpa using h)
    · cases e
def resSem (tmps : Array Value) (r : ResultVar) : Sem Value := match r with
  | .tmp t => pure (tmps.getD t undef)
  | .cell a t => do loadVar t (← asAddr (tmps.getD a undef))
theorem results_eq (fn : Func) (tmps : Array Value) : results fn tmps = (do let vs ← fn.results.mapM (resSem tmps); pure (if h : vs.size = 1 then vs[0] else .tuple vs)) := rfl
theorem pack_den {xs : List V0} {ys : List Value} (h : denV0 ρ xs = some ys) : (pack xs).den ρ = some (if h : ys.toArray.size = 1 then ys.toArray[0] else .tuple ys.toArray) := by
  match xs, ys, h with
  | [], ys, h => cases h; rfl
  | [x], ys, h =>
    simp only [denV0] at h
    split at h
    · rename_i y zs hy hz
      cases hz
      cases h
      simp only [pack, V.den, hy]
      rfl
    · cases h
  | x :: x' :: xs, ys, h =>
    have h' := h
    simp only [denV0] at h
    split at h
    · rename_i y zs hy hz
      split at hz
      · rename_i y' zs' hy' hz'
        cases hz
        cases h
        simp only [pack, V.den, h']
        rw [dif_neg (by simp)]
      · cases hz
    · cases h
variable (ok : Ok C) (hs : SpecOk C) (hb : BodyOk C) (hB : Base C w0 W)
include ok
theorem evRes_sound {s : St} {a : Act} {w : World} (S : Sim C w0 W n ρ s a w) : ∀ {rs : List ResultVar} {xs : List V0}, (evRes C s rs).get = some xs →
    ∃ ys, denV0 ρ xs = some ys ∧ (rs.mapM (resSem a.tmps)).run C.P w = .ok ys w
  | [], xs, h => by cases h; exact ⟨[], rfl, rfl⟩
  | .tmp t :: rs, xs, h => by
    simp only [evRes] at h
    split at h
    · rename_i st x hx
      obtain ⟨us, h1, h2⟩ := get_bind _ _ _ h
      cases h2
      obtain ⟨ys, k1, k2⟩ := evRes_sound S h1
      obtain ⟨y, e1, e2⟩ := S.e.env _ _ hx
      have e3 : a.tmps.getD t undef = y := by rw [Array.getD_eq_getD_getElem?, e2]; rfl
      simp only [V.den] at e1
      refine ⟨y :: ys, by simp only [denV0, e1, k1], ?_⟩
      simp only [List.mapM_cons, resSem, Sem.run_bind, Sem.run_pure, Result.andThen_ok, k2, e3]
    · cases h
  | .cell p t :: rs, xs, h => by
    simp only [evRes] at h
    split at h
    · rename_i st pv hp
      obtain ⟨v, h1, h2⟩ := get_bind _ _ _ h
      cases v with
      | tup _ => cases h2
      | v x =>
        obtain ⟨us, h3, h4⟩ := get_bind _ _ _ h2
        cases h4
        obtain ⟨ys, k1, k2⟩ := evRes_sound S h3
        obtain ⟨y, e1, e2⟩ := S.e.env _ _ hp
        have e3 : a.tmps.getD p undef = y := by rw [Array.getD_eq_getD_getElem?, e2]; rfl
        obtain ⟨z, hz, hrun⟩ := evLoad_sound ok S.h.heap e1 h1
        simp only [V.den] at hz
        refine ⟨z :: ys, by simp only [denV0, hz, k1], ?_⟩
        have hptr : ∃ ad, y = .pointer (some ad) := by
          unfold evLoad at h1
          split at h1
          · obtain ⟨g, _, he⟩ := den_ptr e1; exact ⟨_, he⟩
          · cases h1
        obtain ⟨ad, rfl⟩ := hptr
        simp only [Instr.loadAt, Instr.sureAddr, pure_bind] at hrun
        simp only [List.mapM_cons, resSem, Sem.run_bind, e3, asAddr, Sem.run_pure, Result.andThen_ok, hrun, k2]
    · cases h
include hs hb hB
theorem evFn_sound (hk : KeepOk keep) {f : FuncId} {fn : Func} (hf : C.P.funcs[f]? = some fn) {h : T Blk} {args : List V} {vs : List Value} {v : V} {s' : St} (H : HSim C.gs w0 W ρ h w0) (ha : denVs ρ args = some vs)
    (hev : (evFn C k keep fn h ρ.length args).get = some (v, s')) {R : Ending → World → Prop} (hR : ∀ ρ' w' x, ρ <+: ρ' → v.den ρ' = some x → HSim C.gs w0 W ρ' s'.heap w' → R (.returned x) w') : Calls C.P f vs.toArray w0 R := by
  unfold evFn at hev
  split at hev
  · rename_i c hc
    cases hg : (Nat.ble args.length fn.ntmps && Nat.ble fn.ntmps 4000) with
    | false => rw [hg] at hev; cases hev
    | true =>
      rw [hg] at hev
      obtain ⟨hg1, hg2⟩ : args.length ≤ fn.ntmps ∧ fn.ntmps ≤ 4000 := by simpa only [Bool.and_eq_true, Nat.ble_eq] using hg
      simp only [cond_true] at hev
      unfold evBody at hev
      obtain ⟨o, h1, h2⟩ := get_bind _ _ _ hev
      have hlen := denVs_len ha
      have S : Sim C w0 W fn.ntmps ρ ⟨argEnv 0 args .e, h, ρ.length, 0⟩ { tmps := vs.toArray ++ Array.replicate (fn.ntmps - vs.toArray.size) undef, defers := [] } w0 := by
        refine ⟨H, ⟨fun d p hp => ?_, rfl⟩, rfl, by simp only [Array.size_append, Array.size_replicate, List.size_toArray]; omega⟩
        rcases argEnv_get (by omega) hp with ⟨j, e1, e2⟩ | e1
        · obtain ⟨y, k1, k2⟩ := denVs_at ha e2
          refine ⟨y, k1, ?_⟩
          have hj : j < vs.length := (List.getElem?_eq_some_iff.1 k2).1
          have : d = j := by omega
          subst this
          rw [Array.getElem?_append_left (by simpa using hj)]
          simpa using k2
        · rw [T.get_e] at e1; cases e1
      refine calls_of_wp hf hc (evC_sound ok hs hb hB hg2 hk c 0 ρ _ _ w0 o _ S h1 fun ρ' a' w' e1 S' => ?_)
      have fin : (evRes C o.2 fn.results.toList).bind (fun xs => Tree.leaf (pack xs, o.2)) = .bad ∨ (∀ xs, (evRes C o.2 fn.results.toList).get = some xs → v = pack xs → s' = o.2 →
          a'.defers = [] ∧ ∃ x, (results fn a'.tmps).run C.P w' = .ok x w' ∧ R (.returned x) w') := .inr fun xs hx hv hs' => by
        obtain ⟨ys, k1, k2⟩ := evRes_sound ok S' hx
        refine ⟨S'.e.defs, _, ?_, hR ρ' w' _ e1 (by rw [hv]; exact pack_den k1) (by rw [hs']; exact S'.h)⟩
        rw [results_eq]
        simp only [Array.mapM_eq_mapM_toList, Sem.run_bind, Sem.run_map, k2, Result.andThen_ok, Sem.run_pure]
      cases hkd : o.1 with
      | ex i => rw [hkd] at h2; cases h2
      | nrm =>
        rw [hkd] at h2
        obtain ⟨xs, k1, k2⟩ := get_bind _ _ _ h2
        cases k2
        rcases fin with fin | fin
        · rw [fin] at h2; cases h2
        · exact fin xs k1 rfl rfl
      | rt =>
        rw [hkd] at h2
        obtain ⟨xs, k1, k2⟩ := get_bind _ _ _ h2
        cases k2
        rcases fin with fin | fin
        · rw [fin] at h2; cases h2
        · exact fin xs k1 rfl rfl
  · cases hev
end

/-! ### A function's contract for its callers -/
theorem vals_get {t : Tree (V × St)} {v : V} (h : (vals t).get = some v) : ∃ s, t.get = some (v, s) := by
  obtain ⟨⟨x, s⟩, h1, h2⟩ := get_bind _ _ _ h
  cases h2
  exact ⟨s, h1⟩
theorem GOk.hsim {C : Ctx} {w : World} (hn : C.gs.Nodup) (G : GOk C w) : HSim C.gs w [] C.gs C.H0 w :=
  ⟨List.prefix_refl _, hn, G.2, G.1.mono (fun _ h => h.elim) (fun _ _ => rfl), Fr.refl _ _⟩
/-- Out of the evaluator's own answer, at arguments that stand for the same values, none of them a place. -/
theorem FnOk.intro {C : Ctx} (ok : Ok C) (hs : SpecOk C) (hb : BodyOk C) (hn : C.gs.Nodup) {f : FuncId} {fn : Func} (hf : C.P.funcs[f]? = some fn) {F : T Blk → Nat → List V → Tree V}
    (H : ∀ h n args v, (F h n args).get = some v → ∃ (args' : List V) (k : Nat) (keep : Nat → Option (List Nat)) (v' : V), KeepOk keep ∧ (∀ ρ vs, denVs ρ args = some vs → denVs C.gs args' = some vs) ∧
      (vals (evFn C k keep fn C.H0 C.gs.length args')).get = some v' ∧ ∀ ρ ρ' x, v'.den ρ' = some x → v.den ρ = some x) : FnOk C f F := by
  intro w0 W ρ h w args vs v hH G ha hv
  obtain ⟨args', k, keep, v', hk, h1, h2, h3⟩ := H h _ args v hv
  obtain ⟨s', h4⟩ := vals_get h2
  exact evFn_sound ok hs hb ⟨G, fun _ _ => by simp⟩ hk hf (GOk.hsim hn G) (h1 _ _ ha) h4 fun ρ' w' x e1 e2 e3 => ⟨x, h3 _ _ _ e2, rfl, e3.fr.below⟩
/-! The same over the caller's own blocks, which it may read. -/
def roB (b : Blk) : Blk := ⟨false, b.cs⟩
def T.map {α β : Type} (f : α → β) : T α → T β
  | .e => .e
  | .n o l r => .n (match o with | some a => some (f a) | none => none) (T.map f l) (T.map f r)
theorem T.get_map {α β : Type} (f : α → β) : ∀ (t : T α) (k : Nat), (T.map f t).get k = (t.get k).map f
  | .e, k => by simp only [T.map, T.get_e]; rfl
  | .n o l r, k => by
    simp only [T.map, T.get_n]
    by_cases h0 : k = 0
    · rw [if_pos h0, if_pos h0]; cases o <;> rfl
    · rw [if_neg h0, if_neg h0]
      by_cases h1 : k % 2 = 1
      · rw [if_pos h1, if_pos h1]; exact T.get_map f l _
      · rw [if_neg h1, if_neg h1]; exact T.get_map f r _
def ro (h : T Blk) : T Blk := T.map roB h
def scL (n : Nat) : L → Bool
  | .ptr v _ => Nat.blt v n
  | .slc v _ _ _ => Nat.blt v n
  | .ifc _ x => scL n x
  | _ => true
def sc0 (n : Nat) : V0 → Bool
  | .l x => scL n x
  | .agg xs => xs.all (scL n)
def scV (n : Nat) : V → Bool
  | .v x => sc0 n x
  | .tup xs => xs.all (sc0 n)
theorem pre_back {ρ ρ' : List Nat} (h : ρ <+: ρ') {v : Nat} (hv : v < ρ.length) : ρ[v]? = ρ'[v]? := by
  obtain ⟨l, rfl⟩ := h
  rw [List.getElem?_append_left hv]
theorem scL_den {ρ ρ' : List Nat} (h : ρ <+: ρ') : ∀ {x : L}, scL ρ.length x = true → x.den ρ = x.den ρ'
  | .int _ _, _ => rfl
  | .bool _, _ => rfl
  | .ptr v o, hs => by simp only [L.den, pre_back h (blt_iff.1 hs)]
  | .slc v o l c, hs => by simp only [L.den, pre_back h (blt_iff.1 hs)]
  | .raw _, _ => rfl
  | .str _, _ => rfl
  | .ifc t x, hs => by simp only [L.den, scL_den h (x := x) hs]
theorem scLs_den {ρ ρ' : List Nat} (h : ρ <+: ρ') : ∀ {xs : List L}, xs.all (scL ρ.length) = true → denL ρ xs = denL ρ' xs
  | [], _ => rfl
  | x :: xs, hs => by
    simp only [List.all_cons, Bool.and_eq_true] at hs
    simp only [denL, scL_den h hs.1, scLs_den h hs.2]
theorem sc0_den {ρ ρ' : List Nat} (h : ρ <+: ρ') {x : V0} (hs : sc0 ρ.length x = true) : x.den ρ = x.den ρ' := by
  cases x with
  | l x => exact scL_den h hs
  | agg xs => simp only [V0.den, scLs_den h (xs := xs) hs]
theorem sc0s_den {ρ ρ' : List Nat} (h : ρ <+: ρ') : ∀ {xs : List V0}, xs.all (sc0 ρ.length) = true → denV0 ρ xs = denV0 ρ' xs
  | [], _ => rfl
  | x :: xs, hs => by
    simp only [List.all_cons, Bool.and_eq_true] at hs
    simp only [denV0, sc0_den h hs.1, sc0s_den h hs.2]
theorem scV_den {ρ ρ' : List Nat} (h : ρ <+: ρ') {x : V} (hs : scV ρ.length x = true) : x.den ρ = x.den ρ' := by
  cases x with
  | v x => exact sc0_den h hs
  | tup xs => simp only [V.den, sc0s_den h (xs := xs) hs]
/-- The function's text gone through at the call, over the caller's blocks. -/
def inl (C : Ctx) (k : Nat) (keep : Nat → Option (List Nat)) (fn : Func) : T Blk → Nat → List V → Tree V := fun h n args =>
  (vals (evFn C k keep fn (ro h) n args)).bind fun v => bif scV n v then .leaf v else .bad
theorem FnOk.inl {C : Ctx} (ok : Ok C) (hs : SpecOk C) (hb : BodyOk C) {f : FuncId} {fn : Func} (hf : C.P.funcs[f]? = some fn) {k : Nat} {keep : Nat → Option (List Nat)} (hk : KeepOk keep) : FnOk C f (inl C k keep fn) := by
  intro w0 W ρ h w args vs v hH G ha hv
  obtain ⟨v', h1, h2⟩ := get_bind _ _ _ hv
  obtain ⟨s', h4⟩ := vals_get h1
  cases hsc : scV ρ.length v' with
  | false => rw [hsc] at h2; cases h2
  | true =>
    rw [hsc] at h2
    cases h2
    have H : HSim C.gs w [] ρ (ro h) w := ⟨hH.gs, hH.nodup, hH.lt, fun i b hb => by
      unfold ro at hb
      rw [T.get_map] at hb
      cases hi : h.get i with
      | none => rw [hi] at hb; cases hb
      | some b0 =>
        rw [hi] at hb
        cases hb
        obtain ⟨g, ys, t, fr, e1, e2, e3, _⟩ := hH.heap i b0 hi
        exact ⟨g, ys, t, fr, e1, e2, e3, fun hw => by cases hw⟩, Fr.refl _ _⟩
    exact evFn_sound ok hs hb ⟨G, fun _ _ => by simp⟩ hk hf H ha h4 fun ρ' w' x e1 e2 e3 => ⟨x, by rw [scV_den e1 hsc]; exact e2, rfl, e3.fr.below⟩
/-- A law's walk: at plain arguments the function answers this. -/
theorem calls_of_ev {C : Ctx} (ok : Ok C) (hs : SpecOk C) (hb : BodyOk C) (hn : C.gs.Nodup) {f : FuncId} {fn : Func} (hf : C.P.funcs[f]? = some fn) {k : Nat} {keep : Nat → Option (List Nat)} (hk : KeepOk keep)
    {args : List V} {vs : List Value} {v : V} {x : Value} {w : World} (G : GOk C w) (ha : denVs C.gs args = some vs) (hev : (vals (evFn C k keep fn C.H0 C.gs.length args)).get = some v) (hv : ∀ ρ, v.den ρ = some x) :
    Calls C.P f vs.toArray w fun e w' => e = .returned x ∧ Below w.heap.size w w' := by
  obtain ⟨s', h4⟩ := vals_get hev
  exact evFn_sound ok hs hb ⟨G, fun _ _ => by simp⟩ hk hf (GOk.hsim hn G) ha h4 fun ρ' w' y e1 e2 e3 => by
    rw [hv] at e2
    cases e2
    exact ⟨rfl, e3.fr.below⟩
end Go.Proofs.YthndmfgmlbdekaaDoor.Ev
