/- The evaluator is sound, third part: the operations that only read, one by one. -/
import Derived.Test.YthndmfgmlbdekaaDoorEv4
import Derived.Laws.Small
namespace Go.Proofs.YthndmfgmlbdekaaDoor.Ev
open Go Go.RowKit
set_option linter.unusedVariables false
set_option linter.unusedSimpArgs false
set_option linter.constructorNameAsVariable false
section
variable {C : Ctx} (ok : Ok C) {A : Nat → Prop} {ρ : List Nat} {s : St} {a : Act} {w : World}

theorem den_ptr {v : Nat} {o : N} {x : Value} (h : (V.v (.l (.ptr v o))).den ρ = some x) : ∃ g, ρ[v]? = some g ∧ x = .pointer (some ⟨g, o.n, none⟩) := by
  simp only [V.den, V0.den, L.den] at h
  split at h
  · rename_i b hb; cases h; exact ⟨b, hb, rfl⟩
  · cases h
theorem den_slc {v : Nat} {o l c : N} {x : Value} (h : (V.v (.l (.slc v o l c))).den ρ = some x) : ∃ g, ρ[v]? = some g ∧ x = .slice (some ⟨g, o.n, none⟩) l.n c.n := by
  simp only [V.den, V0.den, L.den] at h
  split at h
  · rename_i b hb; cases h; exact ⟨b, hb, rfl⟩
  · cases h
theorem den_agg {xs : List L} {x : Value} (h : (V.v (.agg xs)).den ρ = some x) : ∃ ys, denL ρ xs = some ys ∧ x = .agg ys.toArray := by
  simp only [V.den, V0.den] at h
  split at h
  · rename_i ys hy; cases h; exact ⟨ys, hy, rfl⟩
  · cases h
theorem den_tup {xs : List V0} {x : Value} (h : (V.tup xs).den ρ = some x) : ∃ ys, denV0 ρ xs = some ys ∧ x = .tuple ys.toArray := by
  simp only [V.den] at h
  split at h
  · rename_i ys hy; cases h; exact ⟨ys, hy, rfl⟩
  · cases h

/-! ### Loads -/
theorem isInts_den {k : IntKind} : ∀ {xs : List L} {ys : List Int}, isInts k xs = some ys → denL ρ xs = some (ys.map (.int k ·))
  | [], _, h => by cases h; rfl
  | x :: xs, ys, h => by
    cases x <;> simp only [isInts] at h <;> try cases h
    rename_i k' x
    by_cases hk : k = k'
    · subst hk
      simp at h
      split at h
      · rename_i zs hz; simp at h; subst h; simp only [denL, L.den, isInts_den hz]; rfl
      · cases h
    · simp [hk] at h
theorem asInts_den {xs : List L} {k : IntKind} {ys : List Int} (h : asInts xs = some (k, ys)) : denL ρ xs = some (ys.map (.int k ·)) := by
  cases xs with
  | nil => cases h
  | cons x xs =>
    cases x <;> simp only [asInts] at h <;> try cases h
    split at h
    · rename_i zs hz; simp at h; obtain ⟨rfl, rfl⟩ := h; simp only [denL, L.den, isInts_den hz]; rfl
    · cases h
theorem getD_some {α : Type} {xs : List α} {i : Nat} {d : α} (h : i < xs.length) : xs[i]? = some (xs.getD i d) := by
  simp [List.getD, List.getElem?_eq_getElem h]
theorem cellsAt_den {cs : Cells} {ys : List Value} (hd : cs.den ρ = some ys) {o : N} {x : L} (h : (cs.at o).get = some x) : ∃ y, x.den ρ = some y ∧ ys[o.n]? = some y := by
  cases cs with
  | row xs =>
    simp only [Cells.den] at hd
    cases o with
    | lit o =>
      simp only [Cells.at] at h
      split at h
      · rename_i z hz
        cases h
        exact denL_at hd (i := o) (by simp [hz])
      · cases h
    | sym o =>
      simp only [Cells.at] at h
      split at h
      · rename_i k zs hz
        have h2 := asInts_den (ρ := ρ) hz
        rw [h2] at hd
        cases hd
        simp only [Tree.get, cond_ite, decide_eq_true_eq] at h
        split at h
        · rename_i hlt
          cases h
          refine ⟨_, rfl, ?_⟩
          simp only [N.n, I.n, List.getElem?_map, getD_some hlt (d := 0)]; rfl
        · cases h
      · cases h
  | ints st k xs =>
    simp only [Cells.den] at hd
    cases hd
    simp only [Cells.at, Tree.get, cond_ite, decide_eq_true_eq] at h
    split at h
    · rename_i hlt
      cases h
      refine ⟨_, rfl, ?_⟩
      simp only [I.n, List.getElem?_map, getD_some hlt (d := 0)]; rfl
    · cases h
theorem takeL_eq : ∀ {n : Nat} {xs : List (Nat × L)} {ys : List L}, takeL n xs = some ys → ys = (xs.map (·.2)).take n ∧ n ≤ xs.length
  | 0, _, _, h => by cases h; simp
  | n + 1, [], _, h => by cases h
  | n + 1, x :: xs, ys, h => by
    simp only [takeL] at h
    split at h
    · rename_i zs hz
      cases h
      obtain ⟨e, hl⟩ := takeL_eq hz
      subst e
      exact ⟨by simp, by simp; omega⟩
    · cases h
theorem heap_cell {g : Nat} {ys : List Value} {t : TypeId} {fr : Nat × Nat} (h : w.heap[g]? = some (.cells ys.toArray t fr)) (o : Nat) : w.cell? ⟨g, o, none⟩ = ys[o]? := by
  simp [World.cell?, h]
theorem add_none (g o j : Nat) : (⟨g, o, none⟩ : Addr).add j = ⟨g, o + j, none⟩ := by
  unfold Addr.add; split <;> simp_all
include ok
theorem evLoad_sound (hH : HeapOk A ρ s.heap w) {t : TypeId} {p : V} {v : V} {x : Value} (hp : p.den ρ = some x) (h : (evLoad C s t p).get = some v) :
    ∃ y, v.den ρ = some y ∧ (Instr.loadAt t x).run C.P w = .ok y w := by
  cases p with
  | tup xs => cases h
  | v p =>
    cases p with
    | agg xs => cases h
    | l p =>
      cases p <;> simp only [evLoad] at h <;> try cases h
      rename_i pv o
      obtain ⟨g, hg, rfl⟩ := den_ptr hp
      split at h
      · rename_i i b hi hb
        obtain ⟨g', ys, t', fr, hg', hd, hh, hw⟩ := hH _ _ hb
        rw [hg] at hg'
        cases hg'
        have hagg := run_isAgg ok hi w
        have hsz := run_size ok hi w
        cases hia : i.agg with
        | true =>
          rw [hia] at h hagg
          simp only [cond_true] at h
          split at h
          · rename_i xs o' hcs
            cases ht : takeL i.size (xs.drop o') with
            | none => simp only [ht] at h; cases h
            | some zs =>
              simp only [ht] at h
              cases h
              obtain ⟨hz, hl⟩ := takeL_eq ht
              rw [hcs] at hd
              simp only [Cells.den] at hd
              have h3 : denL ρ zs = some ((ys.drop o').take i.size) := by
                rw [hz, List.map_drop]; exact denL_take _ (denL_drop _ hd)
              have hlen : ((ys.drop o').take i.size).length = i.size := by
                have h4 := denL_len hd
                simp at h4 hl ⊢
                omega
              refine ⟨.agg ((ys.drop o').take i.size).toArray, by simp only [V.den, V0.den, h3], ?_⟩
              have hc := run_loadCells_list (P := C.P) w ⟨g, o', none⟩ ((ys.drop o').take i.size) (fun j y hj => by
                rw [add_none, heap_cell hh]
                rw [List.getElem?_take] at hj
                split at hj
                · simpa [List.getElem?_drop] using hj
                · cases hj)
              rw [hlen] at hc
              simp only [Instr.loadAt, Instr.sureAddr, pure_bind, loadVar, Sem.run_bind, hagg, Result.andThen_ok, if_true, hsz, N.n, hc, Sem.run_pure]
          · cases h
        | false =>
          rw [hia] at h hagg
          simp only [cond_false] at h
          obtain ⟨z, hz, hv⟩ := get_bind _ _ _ h
          cases hv
          obtain ⟨y, hy, hyo⟩ := cellsAt_den hd hz
          refine ⟨y, by simpa only [V.den, V0.den] using hy, ?_⟩
          have hc : w.cell? ⟨g, o.n, none⟩ = some y := by rw [heap_cell hh]; exact hyo
          simp [Instr.loadAt, Instr.sureAddr, loadVar, hagg, hc]
      · cases h

/-! ### Arithmetic, tests -/
omit ok
theorem guard_int (op : BinOp) (t : TypeId) (X Y : Operand) (k : IntKind) (m : Int) (y : Value) : eqGuard op t X Y (.int k m) y = pure () := eqGuard_at_int op t X Y y k m
theorem shiftBy_run {op : BinOp} {k : IntKind} {f : Int → Int → Int} (h : shiftBy op k = some f) (t : TypeId) (k' : IntKind) (x y : Int) (h0 : 0 ≤ y) (w : World) (P : Program) :
    (binOp op t (.int k x) (.int k' y)).run P w = .ok (.int k (f x y)) w := by
  cases op <;> simp only [shiftBy] at h <;> cases h
  · rw [binOp_shl]; unfold Op.shift; rw [if_neg (by omega)]; rfl
  · rw [binOp_shr]; unfold Op.shift; rw [if_neg (by omega)]; rfl
theorem arith_run {op : BinOp} {k : IntKind} {f : Int → Int → Int} (h : arith op k = some f) (t : TypeId) (x y : Int) (w : World) (P : Program) :
    (binOp op t (.int k x) (.int k y)).run P w = .ok (.int k (f x y)) w := by
  cases op <;> simp only [arith] at h <;> cases h
  · rw [binOp_add]; rfl
  · rw [binOp_sub]; rfl
  · rw [binOp_mul]; rfl
  · rw [binOp_and, intBits_and]; rfl
  · rw [binOp_or, intBits_or]; rfl
  · rw [binOp_xor, intBits_xor]; rfl
  · rw [binOp_andNot, intBits_andNot]; rfl
theorem divide_run {op : BinOp} {k : IntKind} {f : Int → Int → Int} (h : divide op k = some f) (t : TypeId) (x y : Int) (h0 : y ≠ 0) (w : World) (P : Program) :
    (binOp op t (.int k x) (.int k y)).run P w = .ok (.int k (f x y)) w := by
  cases op <;> simp only [divide] at h <;> cases h
  · rw [binOp_quo]; unfold Op.intDiv; rw [if_neg h0]; rfl
  · rw [binOp_rem]; unfold Op.intDiv; rw [if_neg h0]; rfl
theorem compare_run {op : BinOp} {f : Int → Int → Bool} (h : compare op = some f) (t : TypeId) (k : IntKind) (x y : Int) (w : World) (P : Program) :
    (binOp op t (.int k x) (.int k y)).run P w = .ok (.bool (f x y)) w := by
  cases op <;> simp only [compare] at h <;> cases h
  · rw [binOp_eql]; rfl
  · rw [binOp_neq]; rfl
  · rw [binOp_lss]; rfl
  · rw [binOp_leq]; rfl
  · rw [binOp_gtr]; rfl
  · rw [binOp_geq]; rfl
theorem eqLs_vs : ∀ {ks : List EK} {xs ys : List L} {b : Bool} {as bs : List Value}, eqLs ks xs ys = some b → denL ρ xs = some as → denL ρ ys = some bs → eqVs ks as bs = some b := by
  intro ks
  induction ks with
  | nil =>
    intro xs ys b as bs h h1 h2
    cases xs <;> cases ys <;> (try simp only [eqLs] at h) <;> try cases h
    cases h1; cases h2; rfl
  | cons k ks ih =>
    intro xs ys b as bs h h1 h2
    cases k with
    | int k =>
      cases xs <;> cases ys <;> (try simp only [eqLs] at h) <;> try (cases h; done)
      rename_i x xs y ys
      cases x <;> try (simp only [eqLs] at h; cases h; done)
      cases y <;> simp only [eqLs] at h <;> try (cases h; done)
      rename_i k1 x k2 y
      by_cases e1 : k1 = k
      · by_cases e2 : k2 = k
        · subst e1; subst e2
          simp at h
          split at h
          · rename_i r hr
            simp at h
            subst h
            simp only [denL, L.den] at h1 h2
            split at h1
            · rename_i _ us e hu
              cases e; cases h1
              split at h2
              · rename_i _ vs e hv
                cases e; cases h2
                simp [eqVs, ih hr hu hv]
              · cases h2
            · cases h1
          · cases h
        · simp [e2] at h
      · simp [e1] at h
    | bool =>
      cases xs <;> cases ys <;> (try simp only [eqLs] at h) <;> try (cases h; done)
      rename_i x xs y ys
      cases x <;> try (simp only [eqLs] at h; cases h; done)
      cases y <;> simp only [eqLs] at h <;> try (cases h; done)
      rename_i x y
      split at h
      · rename_i r hr
        simp at h
        subst h
        simp only [denL, L.den] at h1 h2
        split at h1
        · rename_i _ us e hu
          cases e; cases h1
          split at h2
          · rename_i _ vs e hv
            cases e; cases h2
            simp [eqVs, ih hr hu hv]
          · cases h2
        · cases h1
      · cases h
theorem isEq_of {op : BinOp} {p : Bool} (h : isEq op = some p) : (op = .eql ∧ p = true) ∨ (op = .neq ∧ p = false) := by
  cases op <;> simp [isEq] at h <;> simp [h]
theorem guard_agg {P : Program} {t : TypeId} (hg : P.eqGuardType P.depth t = false) (op : BinOp) (X Y : Operand) (xs ys : Array Value) (w : World) : (eqGuard op t X Y (.agg xs) (.agg ys)).run P w = .ok () w := by
  cases op <;> first | rfl | (simp [eqGuard, hg])
include ok
theorem evBin_sound {op : BinOp} {t : TypeId} {p q v : V} {x y : Value} (hp : p.den ρ = some x) (hq : q.den ρ = some y) (h : (evBin C op t p q).get = some v) (X Y : Operand) (w : World) :
    ∃ z, v.den ρ = some z ∧ (eqGuard op t X Y x y).run C.P w = .ok () w ∧ (binOp op t x y).run C.P w = .ok z w := by
  unfold evBin at h
  split at h
  · rename_i k x1 k' y1
    cases hp; cases hq
    have hgd : ∀ (w : World), (eqGuard op t X Y (.int k x1.n) (.int k' y1.n)).run C.P w = .ok () w := fun w => by rw [guard_int]; rfl
    split at h
    · rename_i f hf
      obtain ⟨h0, h1⟩ := get_need h
      cases h1
      rw [I.cmp_b] at h0
      have h0' : 0 ≤ y1.n := of_decide_eq_true h0
      exact ⟨_, rfl, hgd w, by rw [I.map2_n]; exact shiftBy_run hf t k' _ _ h0' w _⟩
    · simp only [cond_ite, decide_eq_true_eq] at h
      split at h
      · rename_i hk
        subst hk
        split at h
        · rename_i f hf
          cases h
          exact ⟨_, rfl, hgd w, by rw [I.map2_n]; exact arith_run hf t _ _ w _⟩
        · split at h
          · rename_i f hf
            obtain ⟨h0, h1⟩ := get_need h
            cases h1
            rw [I.cmp_b] at h0
            have h0' : y1.n ≠ 0 := by simpa [I.n] using h0
            exact ⟨_, rfl, hgd w, by rw [I.map2_n]; exact divide_run hf t _ _ h0' w _⟩
          · split at h
            · rename_i f hf
              cases h
              exact ⟨_, rfl, hgd w, by rw [I.cmp_b]; exact compare_run hf t _ _ _ w _⟩
            · cases h
      · cases h
  · rename_i x1 y1
    cases hp; cases hq
    split at h
    · rename_i p a1 a2 a3 a4 he hty
      cases h
      obtain ⟨d, hu, hd⟩ := under_of ok hty
      have hd' := tdOf_bool hd.symm
      subst hd'
      refine ⟨_, rfl, by rw [eqGuard_at_bool]; rfl, ?_⟩
      rw [flip_b, B.eq_b]
      rcases isEq_of he with ⟨rfl, rfl⟩ | ⟨rfl, rfl⟩
      · rw [run_eql_bool w t _ _ hu]; cases B.b x1 == B.b y1 <;> rfl
      · rw [run_neq_bool w t _ _ hu]; cases B.b x1 == B.b y1 <;> rfl
    · cases h
  · rename_i xs ys
    obtain ⟨as, h1, rfl⟩ := den_agg hp
    obtain ⟨bs, h2, rfl⟩ := den_agg hq
    split at h
    · rename_i p ks he hks
      split at h
      · rename_i b hb
        cases h
        obtain ⟨hg, hrun⟩ := ok.eqs _ _ hks
        have hr := hrun _ _ _ w (eqLs_vs hb h1 h2)
        refine ⟨_, rfl, guard_agg hg _ _ _ _ _ w, ?_⟩
        rw [flip_b]
        rcases isEq_of he with ⟨rfl, rfl⟩ | ⟨rfl, rfl⟩
        · simp [binOp, hr, B.b]
        · simp [binOp, hr, B.b]
      · cases h
    · cases h
  · cases h
omit ok
theorem evUn_sound {op : UnOp} {p v : V} {x : Value} (hp : p.den ρ = some x) (h : (evUn op p).get = some v) (P : Program) (w : World) :
    ∃ z, v.den ρ = some z ∧ (Op.unary op x).run P w = .ok z w := by
  unfold evUn at h
  split at h
  · cases hp
    split at h
    · cases h; exact ⟨_, rfl, by rw [B.not_b]; rfl⟩
    · cases h
  · cases hp
    split at h
    · cases h; exact ⟨_, rfl, by rw [I.map_n]; rfl⟩
    · cases h
      refine ⟨_, rfl, ?_⟩
      rw [I.map_n]
      simp only [Op.unary, intBits_xor, Sem.run_pure]
    · cases h
  · cases h
end
end Go.Proofs.YthndmfgmlbdekaaDoor.Ev
