/- The evaluator is sound, fourth part: the rest of the operations that only read, and all of them together. -/
import Derived.Test.YthndmfgmlbdekaaDoorEv5
namespace Go.Proofs.YthndmfgmlbdekaaDoor.Ev
open Go Go.RowKit
set_option linter.unusedVariables false
set_option linter.unusedSimpArgs false
set_option linter.constructorNameAsVariable false
section
variable {C : Ctx} (ok : Ok C) {A : Nat → Prop} {ρ : List Nat} {s : St} {a : Act} {w : World}
include ok
theorem fieldOf_ok {t : TypeId} {f o : Nat} {e : TypeId} (h : fieldOf C t f = some (o, e)) : ∃ fields fl, C.P.underlying t = some (.struct fields) ∧ fields[f]? = some fl ∧ fl.offset = o ∧ fl.type = e := by
  unfold fieldOf at h
  split at h
  · rename_i a1 a2 a3 a4 fs hty
    obtain ⟨d, hu, hd⟩ := under_of ok hty
    obtain ⟨fields, rfl, rfl⟩ := tdOf_struct hd.symm
    rw [List.getElem?_map] at h
    cases hf : fields.toList[f]? with
    | none => simp [hf] at h
    | some fl =>
      simp [hf] at h
      exact ⟨fields, fl, hu, by simpa using hf, h.1, h.2⟩
  · cases h
theorem evPart_sound {t : TypeId} {xs : List L} {ys : List Value} {o : Nat} {v : V} (hd : denL ρ xs = some ys) (h : (evPart C t xs o).get = some v) (w : World) :
    ∃ y, v.den ρ = some y ∧ (part t ys.toArray o).run C.P w = .ok y w := by
  unfold evPart at h
  cases hi : C.ty t with
  | none => simp only [hi] at h; cases h
  | some i =>
    simp only [hi] at h
    have hagg := run_isAgg ok hi w
    have hsz := run_size ok hi w
    cases hia : i.agg with
    | true =>
      simp only [hia, cond_true] at h hagg
      by_cases hle : o + i.size ≤ xs.length
      · have hb : Nat.ble (o + i.size) xs.length = true := by rw [Nat.ble_eq]; exact hle
        rw [hb] at h
        cases h
        have h3 := denL_take i.size (denL_drop o hd)
        refine ⟨.agg ((ys.drop o).take i.size).toArray, by simp only [V.den, V0.den, h3], ?_⟩
        have h4 := denL_len hd
        simp only [part, Sem.run_bind, hagg, Result.andThen_ok, if_true, hsz, Sem.run_pure]
        congr 2
        apply Array.ext'
        simp [List.take_drop, Nat.add_comm]
      · have hb : Nat.ble (o + i.size) xs.length = false := by rw [← Bool.not_eq_true, Nat.ble_eq]; exact hle
        rw [hb] at h
        cases h
    | false =>
      simp only [hia, cond_false] at h hagg
      cases hx : xs[o]? with
      | none => simp only [hx] at h; cases h
      | some x =>
        simp only [hx] at h
        cases h
        obtain ⟨y, hy, hyo⟩ := denL_at hd hx
        refine ⟨y, by simpa only [V.den, V0.den] using hy, ?_⟩
        simp [part, hagg, hyo]
theorem evIndexAddr_sound {t : TypeId} {p q v : V} {x y : Value} (hp : p.den ρ = some x) (hq : q.den ρ = some y) (h : (evIndexAddr C t p q).get = some v) (w : World) :
    ∃ z, v.den ρ = some z ∧ (Instr.indexAt t x y).run C.P w = .ok z w := by
  unfold evIndexAddr at h
  split at h
  · rename_i pv o k i
    cases hq
    obtain ⟨g, hg, rfl⟩ := den_ptr hp
    split at h
    · rename_i a1 a2 a3 a4 n e hty
      obtain ⟨d, hu, hd⟩ := under_of ok hty
      have hd' := tdOf_arr hd.symm
      subst hd'
      split at h
      · rename_i z hz
        simp only [cond_ite, Nat.ble_eq] at h
        split at h
        · rename_i hn
          obtain ⟨h0, h1⟩ := get_need h
          cases h1
          rw [inB_b] at h0
          have h0' := of_decide_eq_true h0
          simp only [N.n] at h0'
          refine ⟨.pointer (some ⟨g, o.n + i.n.toNat * z, none⟩), by simp only [V.den, V0.den, L.den, hg, N.map2_n, I.toN_n], ?_⟩
          simp [Instr.indexAt, asIntOf, run_underlying hu, Instr.sureAddr, h0', run_sizeT ok hz w, add_none]
        · cases h
      · cases h
    · cases h
  · rename_i pv o l c k i
    cases hq
    obtain ⟨g, hg, rfl⟩ := den_slc hp
    split at h
    · rename_i a1 a2 a3 a4 e hty
      obtain ⟨d, hu, hd⟩ := under_of ok hty
      have hd' := tdOf_slice hd.symm
      subst hd'
      split at h
      · rename_i z hz
        obtain ⟨h0, h1⟩ := get_need h
        cases h1
        rw [inB_b] at h0
        have h0' := of_decide_eq_true h0
        refine ⟨.pointer (some ⟨g, o.n + i.n.toNat * z, none⟩), by simp only [V.den, V0.den, L.den, hg, N.map2_n, I.toN_n], ?_⟩
        simp [Instr.indexAt, asIntOf, run_underlying hu, h0', run_sizeT ok hz w, add_none]
      · cases h
    · cases h
  · cases h
theorem evIndex_sound {t : TypeId} {p q v : V} {x y : Value} (hp : p.den ρ = some x) (hq : q.den ρ = some y) (h : (evIndex C t p q).get = some v) (w : World) :
    ∃ z, v.den ρ = some z ∧ (Instr.index t x y).run C.P w = .ok z w := by
  unfold evIndex at h
  split at h
  · rename_i xs k i
    cases hq
    obtain ⟨ys, hys, rfl⟩ := den_agg hp
    split at h
    · rename_i a1 a2 a3 a4 n e hty
      obtain ⟨d, hu, hd⟩ := under_of ok hty
      have hd' := tdOf_arr hd.symm
      subst hd'
      split at h
      · rename_i z hz
        obtain ⟨h0, h1⟩ := get_need h
        rw [inB_b] at h0
        have h0' := of_decide_eq_true h0
        simp only [N.n] at h0'
        cases i with
        | lit j =>
          obtain ⟨y, hy, hrun⟩ := evPart_sound ok hys h1 w
          refine ⟨y, hy, ?_⟩
          simp only [I.n] at h0' ⊢
          simp [Instr.index, asIntOf, run_underlying hu, h0', run_sizeT ok hz w, hrun]
        | sym j =>
          simp only [I.n] at h0' ⊢
          simp only at h1
          split at h1
          · rename_i b1 b2 b3 b4 qk zs hte hints
            simp only [Tree.get, cond_ite, decide_eq_true_eq] at h1
            split at h1
            · rename_i hlt
              cases h1
              have h2 := asInts_den (ρ := ρ) hints
              rw [h2] at hys
              cases hys
              have hagg := run_isAgg ok hte w
              simp only at hagg
              refine ⟨_, rfl, ?_⟩
              have h5 : (zs.map (Value.int qk ·))[j.toNat * z]? = some (.int qk (zs.getD (j.toNat * z) 0)) := by
                rw [List.getElem?_map, getD_some hlt (d := 0)]; rfl
              have h6 : (part e (zs.map (Value.int qk ·)).toArray (j.toNat * z)).run C.P w = .ok (.int qk (zs.getD (j.toNat * z) 0)) w := by
                simp only [part, Sem.run_bind, hagg, Result.andThen_ok, List.getElem?_toArray, h5]; rfl
              simp only [Instr.index, asIntOf, pure_bind, Sem.run_bind, run_underlying hu, Result.andThen_ok, h0', and_self, if_true, run_sizeT ok hz w, h6]
              rfl
            · cases h1
          · cases h1
      · cases h
    · cases h
  · cases h
theorem evSlice_sound {t : TypeId} {p v : V} {x : Value} (hp : p.den ρ = some x) {lo hi mx : Option Operand} (h : (evSlice C t p lo hi mx).get = some v) (e : Operand → Value) (w : World) :
    ∃ z, v.den ρ = some z ∧ (Instr.sliceAt t x (lo.map e) (hi.map e) (mx.map e)).run C.P w = .ok z w := by
  unfold evSlice at h
  split at h
  · rename_i pv o
    obtain ⟨g, hg, rfl⟩ := den_ptr hp
    split at h
    · rename_i a1 a2 a3 a4 n el hty
      obtain ⟨d, hu, hd⟩ := under_of ok hty
      have hd' := tdOf_arr hd.symm
      subst hd'
      cases hz : sizeT C el with
      | none => simp only [hz] at h; cases h
      | some z =>
        simp only [hz] at h
        by_cases hn : 1 ≤ n
        · have hb : Nat.ble 1 n = true := by rw [Nat.ble_eq]; exact hn
          rw [hb] at h
          cases h
          refine ⟨.slice (some ⟨g, o.n, none⟩) n n, by simp only [V.den, V0.den, L.den, hg, N.n], ?_⟩
          have hne : n ≠ 0 := by omega
          simp [Instr.sliceAt, run_underlying hu, Instr.sureAddr, Instr.sliceBounds, hne, run_sizeT ok hz w, Addr.add_zero']
        · have hb : Nat.ble 1 n = false := by rw [← Bool.not_eq_true, Nat.ble_eq]; exact hn
          rw [hb] at h
          cases h
    · cases h
  · cases h

/-! ### Building -/
omit ok
theorem cellsV_den {v : V} {x : Value} {ys : List L} (hv : v.den ρ = some x) (h : cellsV v = some ys) : denL ρ ys = some x.cells.toList := by
  cases v with
  | tup xs => cases h
  | v v =>
    cases v with
    | l y =>
      simp only [cellsV] at h
      cases hl : leafOk y with
      | false => rw [hl] at h; cases h
      | true =>
        rw [hl] at h
        cases h
        simp only [V.den, V0.den] at hv
        simp only [denL, hv]
        cases y <;> simp only [L.den] at hv
        · cases hv; rfl
        · cases hv; rfl
        · split at hv <;> cases hv; rfl
        · split at hv <;> cases hv; rfl
        · cases hv
          cases x <;> first | rfl | (simp [leafOk] at hl)
        · cases hv; rfl
        · split at hv <;> cases hv; rfl
    | agg xs =>
      cases h
      obtain ⟨zs, hz, rfl⟩ := den_agg hv
      simpa [Value.cells] using hz
theorem paste_den {xs ys : List L} {as bs : List Value} (o : Nat) (h1 : denL ρ xs = some as) (h2 : denL ρ ys = some bs) : denL ρ (pasteL xs o ys) = some (as.take o ++ bs ++ as.drop (o + bs.length)) := by
  unfold pasteL
  rw [← denL_len h2]
  exact denL_append (denL_append (denL_take o h1) h2) (denL_drop _ h1)
theorem foldl_paste (o : Nat) : ∀ (bs : List Value) (i : Nat) (as : Array Value), o + i + bs.length ≤ as.size →
    (bs.zipIdx i).foldl (fun cs (p : Value × Nat) => cs.setIfInBounds (o + p.2) p.1) as = (as.toList.take (o + i) ++ bs ++ as.toList.drop (o + i + bs.length)).toArray
  | [], i, as, _ => by simp
  | b :: bs, i, as, h => by
    simp only [List.length_cons] at h
    rw [List.zipIdx_cons, List.foldl_cons, foldl_paste o bs (i + 1) _ (by simp; omega)]
    apply Array.ext'
    simp only [Array.toList_setIfInBounds]
    apply List.ext_getElem?
    intro j
    simp only [List.getElem?_append, List.length_append, List.length_take, List.length_set, List.length_cons, List.getElem?_take, List.getElem?_drop, List.getElem?_set, Array.length_toList, List.getElem?_cons]
    have e1 : min (o + (i + 1)) as.size = o + (i + 1) := by omega
    have e2 : min (o + i) as.size = o + i := by omega
    rw [e1, e2]
    by_cases c1 : j < o + i
    · have a1 : j < o + (i + 1) + bs.length := by omega
      have a2 : j < o + (i + 1) := by omega
      have a3 : o + i ≠ j := by omega
      have a4 : j < o + i + (bs.length + 1) := by omega
      simp [a1, a2, a3, a4, c1]
    · by_cases c2 : j = o + i
      · subst c2
        have a1 : o + i < o + (i + 1) + bs.length := by omega
        have a2 : o + i < o + (i + 1) := by omega
        have a3 : o + i < as.size := by omega
        have a4 : o + i < o + i + (bs.length + 1) := by omega
        simp [a1, a2, a3, a4]
      · have a2 : ¬ j < o + (i + 1) := by omega
        have a3 : o + i ≠ j := by omega
        have a4 : j - (o + i) ≠ 0 := by omega
        have a5 : j - (o + i) - 1 = j - (o + (i + 1)) := by omega
        by_cases c3 : j < o + (i + 1) + bs.length
        · have a6 : j < o + i + (bs.length + 1) := by omega
          simp [c1, a2, a3, a4, a5, c3, a6]
        · have a6 : ¬ j < o + i + (bs.length + 1) := by omega
          have a7 : j - (o + (i + 1) + bs.length) = j - (o + i + (bs.length + 1)) := by omega
          have a8 : o + (i + 1) + bs.length = o + i + (bs.length + 1) := by omega
          have a9 : ¬ (o + i = o + i + (bs.length + 1) + (j - (o + i + (bs.length + 1)))) := by omega
          simp [a6, a8, a9]
def denP (ρ : List Nat) : List (Nat × V) → Option (List (Nat × Value))
  | [] => some []
  | (i, v) :: ps => match v.den ρ, denP ρ ps with | some x, some xs => some ((i, x) :: xs) | _, _ => none
theorem evFill_sound {pl : Nat → Option (Nat × Nat)} : ∀ {ps : List (Nat × V)} {cs : List L} {as : List Value} {zs : List L} {qs : List (Nat × Value)}, denL ρ cs = some as → denP ρ ps = some qs → evFill pl cs ps = some zs →
    ∃ bs, denL ρ zs = some bs ∧ Instr.fill pl as.toArray qs = some bs.toArray
  | [], cs, as, zs, qs, h1, h2, h => by cases h2; cases h; exact ⟨as, h1, rfl⟩
  | (i, v) :: ps, cs, as, zs, qs, h1, h2, h => by
    simp only [denP] at h2
    split at h2
    · rename_i x xs hx hxs
      cases h2
      simp only [evFill] at h
      split at h
      · rename_i o z ys hpl hys
        have hc := cellsV_den hx hys
        cases hb : (Nat.beq ys.length z && Nat.ble (o + ys.length) cs.length) with
        | false => rw [hb] at h; cases h
        | true =>
          rw [hb] at h
          simp only [cond_true] at h
          simp only [Bool.and_eq_true, beq_iff, Nat.ble_eq] at hb
          have l1 := denL_len h1
          have l2 := denL_len hc
          obtain ⟨bs, h3, h4⟩ := evFill_sound (paste_den o h1 hc) hxs h
          refine ⟨bs, h3, ?_⟩
          simp only [Instr.fill, hpl]
          simp only [Array.length_toList] at l2
          rw [if_neg (by simp; omega)]
          rw [← h4]
          congr 1
          have := foldl_paste o x.cells.toList 0 as.toArray (by simp; omega)
          simp only [Nat.add_zero] at this
          rw [← this, ← Array.foldl_toList, Array.toList_zipIdx]
      · cases h
    · cases h2
theorem placesOf_ok (ok : Ok C) : ∀ {fields : List Field} {pl : List (Nat × Nat)}, placesOf C (fields.map fun f => (f.offset, f.type)) = some pl → fields.mapM (fun f => (C.P.info? f.type).map fun i => (f.offset, i.size)) = some pl
  | [], pl, h => by cases h; rfl
  | f :: fs, pl, h => by
    simp only [List.map_cons, placesOf] at h
    split at h
    · rename_i z ps hz hps
      cases h
      unfold sizeT at hz
      split at hz
      · rename_i i hi
        cases hz
        obtain ⟨info, d, zz, e1, e2, e3, e4, _⟩ := tiOf_ok (ok.ty _ i hi)
        simp [List.mapM_cons, e1, placesOf_ok ok hps, e4]
      · cases hz
    · cases h
theorem evBuild_sound (ok : Ok C) {t : TypeId} {ps : List (Nat × V)} {qs : List (Nat × Value)} {v : V} (hq : denP ρ ps = some qs) (h : (evBuild C t ps).get = some v) (w : World) :
    ∃ z, v.den ρ = some z ∧ (Instr.build t qs.toArray).run C.P w = .ok z w := by
  unfold evBuild at h
  split at h
  · rename_i i hi
    obtain ⟨info, d, z, h1, h2, h3, h4, h5, h6, h7, h8⟩ := tiOf_ok (ok.ty t i hi)
    have hz : denL ρ i.zero = some z.cells.toList := by rw [h7]; exact ofLs_den ρ _
    split at h
    · rename_i fs hd
      rw [hd] at h8
      obtain ⟨fields, rfl, rfl⟩ := tdOf_struct h8.symm
      split at h
      · rename_i pl hpl
        split at h
        · rename_i cs hcs
          cases h
          obtain ⟨bs, h9, h10⟩ := evFill_sound hz hq hcs
          refine ⟨.agg bs.toArray, by simp only [V.den, V0.den, h9], ?_⟩
          refine run_build w t _ _ ?_
          have hp := placesOf_ok ok hpl
          have h10' : Instr.fill (fun x => pl[x]?) z.cells qs = some bs.toArray := by simpa using h10
          simp [Program.built, h1, h2, h3, hp, h10']
        · cases h
      · cases h
    · rename_i n e hd
      rw [hd] at h8
      have hd' := tdOf_arr h8.symm
      subst hd'
      split at h
      · rename_i sz hsz
        split at h
        · rename_i cs hcs
          cases h
          obtain ⟨bs, h9, h10⟩ := evFill_sound hz hq hcs
          refine ⟨.agg bs.toArray, by simp only [V.den, V0.den, h9], ?_⟩
          refine run_build w t _ _ ?_
          unfold sizeT at hsz
          split at hsz
          · rename_i ie hie
            cases hsz
            obtain ⟨info', d', z', e1, e2, e3, e4, _⟩ := tiOf_ok (ok.ty _ ie hie)
            have h10' : Instr.fill (fun j => some (j * info'.size, info'.size)) z.cells qs = some bs.toArray := by rw [← e4]; simpa using h10
            simp [Program.built, h1, h2, h3, e1, h10']
          · cases hsz
        · cases h
      · cases h
    · cases h
  · cases h
end
end Go.Proofs.YthndmfgmlbdekaaDoor.Ev
