/- The evaluator is sound, sixth part: new blocks, stores, calls. -/
import Derived.Test.YthndmfgmlbdekaaDoorEv7
namespace Go.Proofs.YthndmfgmlbdekaaDoor.Ev
open Go Go.RowKit
set_option linter.unusedVariables false
set_option linter.unusedSimpArgs false
set_option linter.constructorNameAsVariable false
/-- The package's variables hold what they were given. -/
def GOk (C : Ctx) (w : World) : Prop := HeapOk (fun _ => False) C.gs C.H0 w ∧ ∀ g ∈ C.gs, g < w.heap.size
structure Base (C : Ctx) (w0 : World) (W : List Nat) : Prop where
  glob : GOk C w0
  out : ∀ g ∈ C.gs, g ∉ W
/-- A function's contract for its callers: at arguments that are known, the blocks that are known being as they are, it answers so and nothing that was there has changed. -/
def FnOk (C : Ctx) (f : FuncId) (F : T Blk → Nat → List V → Tree V) : Prop := ∀ (w0 : World) (W : List Nat) (ρ : List Nat) (h : T Blk) (w : World) (args : List V) (vs : List Value) (v : V),
  HSim C.gs w0 W ρ h w → GOk C w → denVs ρ args = some vs → (F h ρ.length args).get = some v →
  Calls C.P f vs.toArray w fun e w' => ∃ y, v.den ρ = some y ∧ e = .returned y ∧ Below w.heap.size w w'
def SpecOk (C : Ctx) : Prop := ∀ f F, C.spec f = some F → FnOk C f F
theorem HeapOk.mono {A A' : Nat → Prop} {ρ : List Nat} {h : T Blk} {w w' : World} (H : HeapOk A ρ h w) (hA : ∀ g, A g → A' g) (hw : ∀ g ∈ ρ, w'.heap[g]? = w.heap[g]?) : HeapOk A' ρ h w' := by
  intro v b hb
  obtain ⟨g, ys, t, fr, h1, h2, h3, h4⟩ := H v b hb
  exact ⟨g, ys, t, fr, h1, h2, by rw [hw g (List.mem_of_getElem? h1)]; exact h3, fun hw => ⟨(h4 hw).1, hA _ (h4 hw).2⟩⟩
theorem GOk.of_fr {C : Ctx} {w0 w : World} {W : List Nat} (B : Base C w0 W) (hf : Fr W w0 w) : GOk C w :=
  ⟨B.glob.1.mono (fun _ h => h) (fun g hg => hf.block g (B.glob.2 g hg) (B.out g hg)), fun g hg => Nat.lt_of_lt_of_le (B.glob.2 g hg) hf.size⟩
section
variable {C : Ctx} {w0 : World} {W : List Nat} {n : Nat} {ρ : List Nat} {s : St} {a : Act} {w : World}
theorem HSim.below {h : T Blk} {w' : World} (H : HSim C.gs w0 W ρ h w) (hb : Below w.heap.size w w') : HSim C.gs w0 W ρ h w' :=
  ⟨H.gs, H.nodup, fun g hg => Nat.lt_of_lt_of_le (H.lt g hg) hb.size, H.heap.mono (fun _ h => h) (fun g hg => hb.block g (H.lt g hg)), H.fr.trans (Fr.of_below hb)⟩
theorem HSim.drew {h : T Blk} (H : HSim C.gs w0 W ρ h w) : HSim C.gs w0 W ρ h { w with drawn := w.drawn + 1 } :=
  H.below ⟨rfl, rfl, rfl, Nat.le_refl _, fun _ _ => rfl⟩
theorem stamp_map (l : Nat) : ∀ xs : List L, (stamp l xs).map (·.2) = xs
  | [] => rfl
  | x :: xs => by simp only [stamp, List.map_cons, stamp_map l xs]
theorem cells_pre {ρ' : List Nat} (hp : ρ <+: ρ') {cs : Cells} {ys : List Value} (h : cs.den ρ = some ys) : cs.den ρ' = some ys := by
  cases cs with
  | row xs => simp only [Cells.den] at h ⊢; exact denL_pre hp h
  | ints st k xs => exact h
theorem HSim.new {h : T Blk} {xs : List L} {ys : List Value} (H : HSim C.gs w0 W ρ h w) (hx : denL ρ xs = some ys) (l : Nat) (hn : ρ.length < 4000) (t : TypeId) :
    HSim C.gs w0 W (ρ ++ [w.heap.size]) (T.set depth h ρ.length (some ⟨true, .row (stamp l xs)⟩)) { w with heap := w.heap.push (.cells ys.toArray t (0, 0)) } := by
  have hpre : ρ <+: ρ ++ [w.heap.size] := ⟨_, rfl⟩
  refine ⟨H.gs.trans hpre, ?_, ?_, ?_, ?_⟩
  · rw [List.nodup_append]
    refine ⟨H.nodup, by simp, fun x hx y hy => ?_⟩
    simp at hy
    subst hy
    exact Nat.ne_of_lt (H.lt x hx)
  · intro g hg
    simp only [Array.size_push]
    rcases List.mem_append.1 hg with hg | hg
    · have := H.lt g hg; omega
    · simp at hg; omega
  · intro v b hb
    rw [T.get_put hn] at hb
    split at hb
    · rename_i e
      cases hb
      subst e
      refine ⟨w.heap.size, ys, t, (0, 0), by simp, ?_, by simp, fun _ => ⟨rfl, .inl H.fr.size⟩⟩
      simp only [Cells.den, stamp_map]
      exact denL_pre hpre hx
    · obtain ⟨g, zs, t', fr, h1, h2, h3, h4⟩ := H.heap v b hb
      refine ⟨g, zs, t', fr, pre_get hpre h1, cells_pre hpre h2, ?_, h4⟩
      have := H.lt g (List.mem_of_getElem? h1)
      show (w.heap.push _)[g]? = _
      rw [Array.getElem?_push, if_neg (by omega)]
      exact h3
  · refine H.fr.trans ⟨rfl, rfl, rfl, by simp, fun k hk _ => ?_⟩
    show (w.heap.push _)[k]? = _
    rw [Array.getElem?_push, if_neg (by omega)]
theorem setRow_eq {l : Nat} : ∀ {xs : List (Nat × L)} {o : Nat} {ys : List L} {zs : List (Nat × L)}, setRow l xs o ys = some zs → zs.map (·.2) = pasteL (xs.map (·.2)) o ys ∧ o + ys.length ≤ xs.length
  | xs, 0, [], zs, h => by
    cases xs <;> (simp only [setRow] at h; cases h; simp [pasteL])
  | [], 0, y :: ys, zs, h => by cases h
  | x :: xs, 0, y :: ys, zs, h => by
    simp only [setRow] at h
    split at h
    · rename_i us hu
      cases h
      obtain ⟨e, hl⟩ := setRow_eq hu
      refine ⟨?_, by simp at hl ⊢; omega⟩
      simp only [List.map_cons, e, pasteL, List.take_zero, List.nil_append, List.length_cons, Nat.zero_add, List.cons_append]
      congr 1
    · cases h
  | [], o + 1, ys, zs, h => by cases ys <;> cases h
  | x :: xs, o + 1, ys, zs, h => by
    simp only [setRow] at h
    split at h
    · rename_i us hu
      cases h
      obtain ⟨e, hl⟩ := setRow_eq hu
      refine ⟨?_, by simp at hl ⊢; omega⟩
      simp only [List.map_cons, e, pasteL, List.take_succ_cons, List.cons_append]
      congr 2
      rw [show o + 1 + ys.length = o + ys.length + 1 by omega, List.drop_succ_cons]
    · cases h
theorem leafOk_one {x : L} {y : Value} (h : leafOk x = true) (hd : x.den ρ = some y) : y.oneCell' = true := by
  cases x <;> simp only [L.den] at hd
  · cases hd; rfl
  · cases hd; rfl
  · split at hd <;> cases hd; rfl
  · split at hd <;> cases hd; rfl
  · cases hd
    cases y <;> first | rfl | (simp [leafOk] at h)
  · cases hd; rfl
  · split at hd <;> cases hd; rfl
theorem all_one : ∀ {xs : List L} {ys : List Value}, xs.all leafOk = true → denL ρ xs = some ys → ∀ y ∈ ys, y.oneCell' = true
  | [], _, _, h => by cases h; simp
  | x :: xs, ys, ha, h => by
    simp only [denL] at h
    split at h
    · rename_i y zs hy hz
      cases h
      simp only [List.all_cons, Bool.and_eq_true] at ha
      intro u hu
      rcases List.mem_cons.1 hu with rfl | hu
      · exact leafOk_one ha.1 hy
      · exact all_one ha.2 hz u hu
    · cases h
theorem HSim.store {h : T Blk} (H : HSim C.gs w0 W ρ h w) {v g : Nat} (hn : v < 4000) (hv : ρ[v]? = some g) {t : TypeId} {old : List Value} (hold : w.heap[g]? = some (.cells old.toArray t (0, 0))) (hmay : mayWrite w0 W g)
    {b : Blk} {ys : List Value} (hb : b.cs.den ρ = some ys) : HSim C.gs w0 W ρ (T.set depth h v (some b)) (w.setRow g ys.toArray) := by
  have hvl : v < ρ.length := (List.getElem?_eq_some_iff.1 hv).1
  refine ⟨H.gs, H.nodup, fun k hk => by rw [setRow_size]; exact H.lt k hk, ?_, ⟨H.fr.os, H.fr.tape, H.fr.output, by rw [setRow_size]; exact H.fr.size, fun k hk' hkW => ?_⟩⟩
  · intro v' b' hb'
    rw [T.get_put hn] at hb'
    split at hb'
    · rename_i e
      subst e
      cases hb'
      exact ⟨g, ys, t, (0, 0), hv, hb, setRow_heap w g _ _ t _ hold, fun _ => ⟨rfl, hmay⟩⟩
    · rename_i hne
      obtain ⟨g', zs, t', fr, h1, h2, h3, h4⟩ := H.heap v' b' hb'
      have hg : g' ≠ g := by
        intro e
        subst e
        have l1 := (List.getElem?_eq_some_iff.1 h1).1
        exact hne ((List.getElem?_inj l1 H.nodup).1 (h1.trans hv.symm))
      exact ⟨g', zs, t', fr, h1, h2, by rw [setRow_other w g g' _ hg]; exact h3, h4⟩
  · have hk : k ≠ g := by
      rintro rfl
      rcases hmay with h | h
      · omega
      · exact hkW h
    rw [setRow_other w g k _ hk]
    exact H.fr.block k hk' hkW
theorem Sim.put {dst : Option Tmp} {v : V} {x : Value} (S : Sim C w0 W n ρ s a w) (hx : v.den ρ = some x) (hd : okDst n dst = true) (hn : n ≤ 4000) : Sim C w0 W n ρ (s.put dst v) (a.put dst x) w := by
  cases dst with
  | none => exact S
  | some d =>
    have hdn : d < n := by simpa [okDst, Nat.blt, Nat.ble_eq, Nat.lt_iff_add_one_le] using hd
    have hd4 : d < 4000 := Nat.lt_of_lt_of_le hdn hn
    refine ⟨S.h, ⟨fun j y hy => ?_, S.e.defs⟩, S.len, by simp [Act.put, S.size]⟩
    simp only [St.put] at hy
    rw [T.get_put hd4] at hy
    simp only [Act.put]
    split at hy
    · rename_i e
      cases hy
      subst e
      exact ⟨x, hx, by rw [Array.getElem?_setIfInBounds_self]; simp [S.size, hdn]⟩
    · rename_i hne
      obtain ⟨z, h1, h2⟩ := S.e.env j y hy
      exact ⟨z, h1, by rw [Array.getElem?_setIfInBounds_ne (Ne.symm hne)]; exact h2⟩

/-! ### One operation -/
/-- The operation yields a value and leaves a world, of which R holds. -/
def Runs (P : Program) (o : Oper) (a : Act) (w : World) (R : Value → World → Prop) : Prop := match (execOp a.eval o).run P w with
  | .ok (.value x) w' => R x w'
  | .ok .skip w' => R undef w'
  | .ok (.enter f args) w' => Calls P f args w' fun e w'' => ∃ x, e = .returned x ∧ R x w''
  | _ => False
theorem Runs.wp {P : Program} {o : Oper} {R : Value → World → Prop} {K : Act → World → Prop} {Q : Exit → Act → World → Prop} (h : Runs P o a w R) (hK : ∀ x w', R x w' → K (a.put o.dst x) w') : o.wp P a w K Q := by
  unfold Runs at h
  unfold Oper.wp
  generalize (execOp a.eval o).run P w = r at h
  cases r with
  | ok m w' =>
    cases m <;> simp only at h <;> simp only [Oper.upon]
    · exact hK _ _ h
    · exact hK _ _ h
    · exact h.mono fun e w'' ⟨x, he, hR⟩ => by subst he; exact hK _ _ hR
  | halt x w' => exact h.elim
theorem isCall_of {op : Op} {c : Call} (h : isCall op = some c) : op = .call c ∧ ∃ f, c.callee = .value f := by
  cases op <;> simp only [isCall] at h <;> try cases h
  rename_i c'
  split at h
  · rename_i f hf; cases h; exact ⟨rfl, f, hf⟩
  · cases h
theorem run_callee {o : Oper} {c : Call} (ho : o.op = .call c) {f : Operand} (hf : c.callee = .value f) {g : FuncId} {fn : Func} (hv : a.eval f = .func (.func g) #[] #[])
    (hfn : C.P.funcs[g]? = some fn) (hb : fn.body.isSome = true) (hn : fn.name ≠ "runtime.NumGoroutine") : (execOp a.eval o).run C.P w = .ok (.enter g (c.args.map a.eval)) w := by
  have hb' : fn.body.isNone = false := by cases h : fn.body <;> simp_all
  have hn' : (fn.name == "runtime.NumGoroutine") = false := by simpa using hn
  have hc : (callFunc g (c.args.map a.eval)).run C.P w = .ok (.enter g (c.args.map a.eval)) w := by
    simp only [callFunc, Sem.run_bind, run_program, Result.andThen_ok, hfn, hn', hb', Bool.false_eq_true, if_false, Sem.run_pure]
  simp only [execOp, ho, resolve, hf, hv, Deferred.ofValue, pure_bind, bind_pure_comp, map_pure, invoke, List.append_toArray, Array.append_empty, Array.empty_append, hc]
theorem calleeOf_eq {c : Call} {f f' : Operand} (h : calleeOf c = some f') (hf : c.callee = .value f) : f' = f := by
  obtain ⟨cal, ar, ats⟩ := c
  simp only at hf
  subst hf
  simp only [calleeOf, Option.some.injEq] at h
  exact h.symm
theorem funcOf_den {v : V} {g : FuncId} (h : funcOf v = some g) : v.den ρ = some (.func (.func g) #[] #[]) := by
  unfold funcOf at h
  split at h
  · rename_i g' x y
    cases hx : (x.isEmpty && y.isEmpty) with
    | false => rw [hx] at h; cases h
    | true =>
      rw [hx] at h
      cases h
      simp at hx
      obtain ⟨rfl, rfl⟩ := hx
      rfl
  · cases h
/-- The functions that are called have bodies. -/
def BodyOk (C : Ctx) : Prop := ∀ f F, C.spec f = some F → ∃ fn, C.P.funcs[f]? = some fn ∧ fn.body.isSome = true ∧ fn.name ≠ "runtime.NumGoroutine"
section
variable (ok : Ok C) (hs : SpecOk C) (hb : BodyOk C) (B : Base C w0 W)
include ok hs hb B
theorem evOpQ_sound {o : Oper} {v : V} {s' : St} {h : T Blk} (hg : C.gs <+: ρ) (he : ESim ρ s.env a) (hh : s.heap = h) (hlen : ρ.length = s.next) (hw0 : HSim C.gs w0 W ρ h w) (hq : isQ o.op = true) (hev : (evOp C s o.op).get = some (v, s')) :
    s' = s ∧ ∃ x, v.den ρ = some x ∧ ∀ w, HSim C.gs w0 W ρ h w → o.quietAt C.P a (HSim C.gs w0 W ρ h) w x := by
  subst hh
  unfold evOp at hev
  split at hev
  · rename_i c hc
    obtain ⟨ho, f, hf⟩ := isCall_of hc
    obtain ⟨v', h1, h2⟩ := get_bind _ _ _ hev
    cases h2
    refine ⟨rfl, ?_⟩
    unfold evCall at h1
    split at h1
    · rename_i f' hf'
      have : f' = f := calleeOf_eq hf' hf
      subst this
      split at h1
      · rename_i fv hx
        split at h1
        · rename_i g xs hfo hxs
          split at h1
          · rename_i F hF
            have hv := evO_den hg he hx
            rw [funcOf_den hfo, Option.some.injEq] at hv
            have hvs := evOs_den hg he hxs
            obtain ⟨fn, hfn, hbody, hnm⟩ := hb g F hF
            have hcall : ∀ w, HSim C.gs w0 W ρ s.heap w → Calls C.P g (c.args.map a.eval) w fun e w' => ∃ y, v.den ρ = some y ∧ e = .returned y ∧ Below w.heap.size w w' := fun w H => by
              have := hs g F hF w0 W ρ s.heap w xs _ v H (GOk.of_fr B H.fr) hvs (by rw [hlen]; exact h1)
              have e2 : (c.args.toList.map a.eval).toArray = c.args.map a.eval := by apply Array.ext'; simp
              rwa [e2] at this
            obtain ⟨e, w', fr, ⟨y, hy, _⟩, _⟩ := hcall _ hw0 []
            refine ⟨y, hy, fun w H => ?_⟩
            unfold Oper.quietAt
            rw [run_callee ho hf hv.symm hfn hbody hnm]
            refine ⟨rfl, (hcall w H).mono fun e w' ⟨y', h1, h2, h3⟩ => ?_⟩
            rw [hy] at h1
            cases h1
            exact ⟨h2, H.below h3⟩
          · cases h1
        · cases h1
      · cases h1
    · cases h1
  · rename_i hc
    have key : (evPure C s o.op).bind (fun v => Tree.leaf (v, s)) = evOp C s o.op → (evPure C s o.op).get = some v ∧ s' = s := fun e => by
      have h2 : (evOp C s o.op).get = some (v, s') := by unfold evOp; rw [hc]; exact hev
      rw [← e] at h2
      obtain ⟨v', h3, h4⟩ := get_bind _ _ _ h2
      cases h4
      exact ⟨h3, rfl⟩
    have hpure : (evPure C s o.op).get = some v ∧ s' = s := by
      refine key ?_
      unfold evOp
      rw [hc]
      cases hop : o.op <;> rw [hop] at hq <;> first | rfl | (simp [isQ] at hq)
    obtain ⟨h3, rfl⟩ := hpure
    refine ⟨rfl, ?_⟩
    obtain ⟨x, hx, _⟩ := evPure_sound ok hg he hw0.heap h3
    refine ⟨x, hx, fun w H => ?_⟩
    obtain ⟨y, hy, hr⟩ := evPure_sound ok hg he H.heap h3
    rw [hx] at hy
    cases hy
    unfold Oper.quietAt
    rw [hr]
    exact ⟨rfl, rfl⟩
end
end
end Go.Proofs.YthndmfgmlbdekaaDoor.Ev
