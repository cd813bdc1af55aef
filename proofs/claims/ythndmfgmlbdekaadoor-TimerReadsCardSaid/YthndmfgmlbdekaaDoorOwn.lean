/- Small laws of worlds for walks over structs by value: what a block holds behind stores, and how such a result is handed back; no program is in sight. -/
import Derived.Test.YthndmfgmlbdekaaDoorWMore
namespace Go.Proofs.YthndmfgmlbdekaaDoor.Own
open Go Go.RowKit Go.Proofs.YthndmfgmlbdekaaDoorW.PrintWords Go.Proofs.YthndmfgmlbdekaaDoorW.PrintLast Go.Proofs.YthndmfgmlbdekaaDoorW.PrintMore
set_option linter.unusedVariables false
section
variable {w w1 : World} {g i : Nat} {t : TypeId} {u : Value} {Q : Array Value → Prop}
theorem e_set (h : ∃ cs, w.heap[g]? = some (.cells cs t (0, 0)) ∧ Q (cs.setIfInBounds i u)) : ∃ cs, (w.setCell ⟨g, i, none⟩ u).heap[g]? = some (.cells cs t (0, 0)) ∧ Q cs := by
  obtain ⟨cs, h1, h2⟩ := h; exact ⟨_, blk_set h1 i u, h2⟩
theorem e_far {p : Addr} (hp : g ≠ p.block) (h : ∃ cs, w.heap[g]? = some (.cells cs t (0, 0)) ∧ Q cs) : ∃ cs, (w.setCell p u).heap[g]? = some (.cells cs t (0, 0)) ∧ Q cs := by
  obtain ⟨cs, h1, h2⟩ := h; exact ⟨_, blk_far h1 hp u, h2⟩
theorem e_drewN {n : Nat} (h : ∃ cs, w.heap[g]? = some (.cells cs t (0, 0)) ∧ Q cs) : ∃ cs, (w.drewN n).heap[g]? = some (.cells cs t (0, 0)) ∧ Q cs := h
theorem e_drew (h : ∃ cs, w.heap[g]? = some (.cells cs t (0, 0)) ∧ Q cs) : ∃ cs, w.drew.heap[g]? = some (.cells cs t (0, 0)) ∧ Q cs := h
theorem e_new {cs : Array Value} (hg : g = w.heap.size) (h : Q cs) : ∃ cs', (w.alloc (.cells cs t (0, 0))).heap[g]? = some (.cells cs' t (0, 0)) ∧ Q cs' := by
  subst hg; exact ⟨_, blk_new w _, h⟩
theorem e_alloc {o : Obj} (h : ∃ cs, w.heap[g]? = some (.cells cs t (0, 0)) ∧ Q cs) : ∃ cs, (w.alloc o).heap[g]? = some (.cells cs t (0, 0)) ∧ Q cs := by
  obtain ⟨cs, h1, h2⟩ := h; exact ⟨_, blk_alloc h1 o, h2⟩
theorem e_below (hb : Below w.heap.size w w1) (h : ∃ cs, w.heap[g]? = some (.cells cs t (0, 0)) ∧ Q cs) : ∃ cs, w1.heap[g]? = some (.cells cs t (0, 0)) ∧ Q cs := by
  obtain ⟨cs, h1, h2⟩ := h; exact ⟨_, blk_below h1 hb, h2⟩
end
theorem ret_cell {P : Program} {fn : Func} {R : Ending → World → Prop} {a : Act} {w : World} {p : Tmp} {ty : TypeId} {d : TypeDesc} (n g : Nat) (h : fn.results = #[.cell p ty]) (hd0 : a.defers = []) (hp : a.tmps.getD p undef = .pointer (some ⟨g, 0, none⟩))
    (hu : P.underlying ty = some d) (hd : (match d with | .struct _ | .array _ _ => true | _ => false) = true) (hi : (P.info? ty).map (·.size) = some n)
    (H : ∃ cs, w.heap[g]? = some (.cells cs ty (0, 0)) ∧ cs.size = n ∧ R (.returned (.agg cs)) w) : bodyPost P fn R .ret a w := by
  obtain ⟨cs, hg, hs, hR⟩ := H
  exact bodyPost_ret (results_cell_row h a.tmps w g ty cs (0, 0) d hp hg hu hd (by rw [hs]; exact hi)) hd0 hR
theorem bcell {W w1 : World} (hb : Below W.heap.size W w1) : (∀ b o, b < W.heap.size → w1.cell? ⟨b, o, none⟩ = W.cell? ⟨b, o, none⟩) ∧ (∀ b o, b < W.heap.size → w1.frozen? ⟨b, o, none⟩ = W.frozen? ⟨b, o, none⟩) :=
  ⟨fun b o h => hb.cell (p := ⟨b, o, none⟩) h, fun b o h => hb.frozen (p := ⟨b, o, none⟩) h⟩
end Go.Proofs.YthndmfgmlbdekaaDoor.Own
