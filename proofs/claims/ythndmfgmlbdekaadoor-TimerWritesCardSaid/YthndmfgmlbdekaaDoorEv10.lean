/- The evaluator is sound, eighth part: operations with effects, lists of operations in order. -/
import Derived.Test.YthndmfgmlbdekaaDoorEv9
namespace Go.Proofs.YthndmfgmlbdekaaDoor.Ev
open Go Go.RowKit
set_option linter.unusedVariables false
set_option linter.unusedSimpArgs false
set_option linter.constructorNameAsVariable false
theorem blt_iff {a b : Nat} : Nat.blt a b = true ↔ a < b := by simp [Nat.blt, Nat.ble_eq, Nat.lt_iff_add_one_le]
section
variable {C : Ctx} {w0 : World} {W : List Nat} {n : Nat} {ρ : List Nat} {s s' : St} {a : Act} {w : World}
theorem evOp_ext {o : Op} {v : V} (h : (evOp C s o).get = some (v, s')) : ExtS s s' := by
  unfold evOp at h
  split at h
  · obtain ⟨x, h1, h2⟩ := get_bind _ _ _ h
    cases h2
    exact ExtS.refl s
  · split at h
    · split at h
      · exact St.new_ext h
      · cases h
    · split at h
      · split at h
        · exact St.new_ext h
        · cases h
      · cases h
    · split at h
      · obtain ⟨x, h1, h2⟩ := get_bind _ _ _ h
        cases h2
        exact evStore_ext h1
      · cases h
    · obtain ⟨x, h1, h2⟩ := get_bind _ _ _ h
      cases h2
      exact ExtS.refl s
theorem downS_get {l : Nat} : ∀ {t : Tree St} {s : St}, (downS l t).get = some s → ∃ x, t.get = some x ∧ s = x.at l
  | .leaf x, s, h => by cases h; exact ⟨x, rfl, rfl⟩
  | .node true a b, s, h => downS_get (t := a) h
  | .node false a b, s, h => downS_get (t := b) h
  | .bad, s, h => by cases h
theorem ExtS.down {x : St} (h : ExtS s.up x) : ExtS s (x.at s.lvl) :=
  ⟨rfl, fun d p hp hl => h.env d p hp (Nat.lt_succ_of_lt hl), fun v b hb => by
    have := h.heap v b hb
    unfold BExt at *
    split
    · rename_i xs hcs
      rw [hcs] at this
      exact fun i p hp hl => this i p hp (Nat.lt_succ_of_lt hl)
    · rename_i st k xs hcs
      rw [hcs] at this
      exact fun hl => this (Nat.lt_succ_of_lt hl)⟩
theorem joinS_sound {t : Bool} {l r : Tree St} (h : (joinS s.lvl t l r).get = some s') (hl : ∀ x, l.get = some x → ExtS s.up x) (hr : ∀ x, r.get = some x → ExtS s.up x) :
    (∃ x, (bif t then l else r).get = some x ∧ Le s' x) ∧ ExtS s s' := by
  unfold joinS at h
  split at h
  · rename_i x y
    split at h
    · rename_i z hz
      cases h
      obtain ⟨h1, h2⟩ := mSt_sound hz (agree_of (s := s.up) rfl (hl x rfl) (hr y rfl))
      exact ⟨⟨bif t then x else y, by cases t <;> rfl, h1⟩, h2 s rfl (hl x rfl)⟩
    · cases t with
      | true => cases h; exact ⟨⟨x, rfl, Le.at _ _⟩, (hl x rfl).down⟩
      | false => cases h; exact ⟨⟨y, rfl, Le.at _ _⟩, (hr y rfl).down⟩
  · cases h
  · cases t with
    | true =>
      obtain ⟨x, h1, rfl⟩ := downS_get h
      exact ⟨⟨x, h1, Le.at _ _⟩, (hl x h1).down⟩
    | false =>
      obtain ⟨x, h1, rfl⟩ := downS_get h
      exact ⟨⟨x, h1, Le.at _ _⟩, (hr x h1).down⟩
theorem okDst_lt {d : Option Tmp} (hn : n ≤ 4000) (h : okDst n d = true) : ∀ x, d = some x → x < 4000 := by
  rintro x rfl
  exact Nat.lt_of_lt_of_le (blt_iff.1 h) hn
theorem up_ext {x : St} (h : ExtS s.up x) : ExtS s.up x := h
/-- A list of operations stamps what it writes. -/
theorem evOps_ext (hn : n ≤ 4000) {ops : List Oper} : ∀ {l : List Oper} {s s' : St}, (evOps C n ops l s).get = some s' → ExtS s s'
  | [], s, s', h => by cases h; exact ExtS.refl s
  | o :: rest, s, s', h => by
    simp only [evOps] at h
    cases hd : okDst n o.dst with
    | false => rw [hd] at h; cases h
    | true =>
      rw [hd] at h
      simp only [cond_true] at h
      have run1 : ∀ {s1 : St}, ((evOp C s1 o.op).bind fun p => evOps C n ops rest (p.2.put o.dst p.1)).get = some s' → ExtS s1 s' := fun h => by
        obtain ⟨p, h1, h2⟩ := get_bind _ _ _ h
        exact ((evOp_ext h1).trans (ExtS.put (okDst_lt hn hd))).trans (evOps_ext hn h2)
      have skip1 : ∀ {s1 s2 : St}, (evOps C n ops rest (s1.put o.dst (.tup []))).get = some s2 → ExtS s1 s2 := fun h => (ExtS.put (okDst_lt hn hd)).trans (evOps_ext hn h)
      have run2 : ∀ {s1 s2 : St}, ((evOp C s1 o.op).bind fun p => evOps C n ops rest (p.2.put o.dst p.1)).get = some s2 → ExtS s1 s2 := fun h => by
        obtain ⟨p, h1, h2⟩ := get_bind _ _ _ h
        exact ((evOp_ext h1).trans (ExtS.put (okDst_lt hn hd))).trans (evOps_ext hn h2)
      split at h
      · exact run1 h
      · rename_i j want hgu
        split at h
        · rename_i d hdst
          split at h
          · rename_i st b hb
            cases hw : b == want with
            | true => rw [hw] at h; exact run1 h
            | false => rw [hw] at h; exact skip1 h
          · rename_i st b hb
            cases hdn : Nat.blt d n with
            | false => rw [hdn] at h; cases h
            | true =>
              rw [hdn] at h
              have hd4 : ∀ x, some d = some x → x < 4000 := by rintro x ⟨⟩; exact Nat.lt_of_lt_of_le (blt_iff.1 hdn) hn
              refine (joinS_sound h ?_ ?_).2
              · intro x hx
                cases want with
                | true => exact (ExtS.put hd4).trans (run2 hx)
                | false => exact (ExtS.put hd4).trans (skip1 hx)
              · intro x hx
                cases want with
                | true => exact (ExtS.put hd4).trans (skip1 hx)
                | false => exact (ExtS.put hd4).trans (run2 hx)
          · exact skip1 h
          · cases h
        · cases h

theorem Sim.reput {d : Tmp} {v : V} {x : Value} (S : Sim C w0 W n ρ s a w) (hx : v.den ρ = some x) (hd : d < 4000) (ha : a.tmps[d]? = some x) : Sim C w0 W n ρ (s.put (some d) v) a w := by
  refine ⟨S.h, ⟨fun j y hy => ?_, S.e.defs⟩, S.len, S.size⟩
  simp only [St.put] at hy
  rw [T.get_put hd] at hy
  split at hy
  · rename_i e
    cases hy
    subst e
    exact ⟨x, hx, ha⟩
  · exact S.e.env j y hy
theorem Sim.up (S : Sim C w0 W n ρ s a w) : Sim C w0 W n ρ s.up a w := ⟨S.h, S.e, S.len, S.size⟩
theorem dstOf_eq (ops : Array Oper) (j : Nat) : dstOf ops.toList j = (ops[j]?).bind (·.dst) := by
  unfold dstOf
  rw [Array.getElem?_toList]
  cases ops[j]? <;> rfl
def boolOf : Value → Option Bool | .bool b => some b | _ => none
theorem yielded_of {ops : Array Oper} {j : Nat} {d : Tmp} {x : Value} {tmps : Array Value} (h : dstOf ops.toList j = some d) (hx : tmps[d]? = some x) : yielded ops tmps j = boolOf x := by
  unfold yielded
  rw [← dstOf_eq, h]
  simp only [Option.bind_some, hx]
  cases x <;> rfl
section
variable (ok : Ok C) (hs : SpecOk C) (hb : BodyOk C) (hB : Base C w0 W)
include ok hs hb hB
theorem evOp_sound (S : Sim C w0 W n ρ s a w) {o : Oper} {v : V} (h : (evOp C s o.op).get = some (v, s')) :
    Runs C.P o a w fun x w' => ∃ ρ', ρ <+: ρ' ∧ v.den ρ' = some x ∧ Sim C w0 W n ρ' s' a w' := by
  cases hq : isQ o.op with
  | true =>
    obtain ⟨rfl, x, hx, hrun⟩ := evOpQ_sound ok hs hb hB S.h.gs S.e rfl S.len S.h hq h
    have := hrun w S.h
    unfold Oper.quietAt at this
    unfold Runs
    generalize (execOp a.eval o).run C.P w = r at this
    cases r with
    | ok m w' =>
      cases m <;> simp only [Oper.quietUpon] at this
      · obtain ⟨rfl, rfl⟩ := this
        exact ⟨ρ, List.prefix_refl _, hx, S⟩
      · obtain ⟨rfl, rfl⟩ := this
        exact ⟨ρ, List.prefix_refl _, hx, S⟩
      · obtain ⟨rfl, hc⟩ := this
        exact hc.mono fun e w'' ⟨he, hh⟩ => ⟨x, he, ρ, List.prefix_refl _, hx, hh, S.e, S.len, S.size⟩
    | halt x w' => exact this.elim
  | false =>
    have hnew : ∀ {xs : List L} {ys : List Value} {t : TypeId} {v : V} {s' : St}, denL ρ xs = some ys → (s.new xs).get = some (v, s') →
        ∃ ρ', ρ <+: ρ' ∧ v.den ρ' = some (.pointer (some ⟨w.heap.size, 0, none⟩)) ∧ Sim C w0 W n ρ' s' a { w with heap := w.heap.push (.cells ys.toArray t (0, 0)) } := fun {xs ys t v s'} hx hn => by
      unfold St.new at hn
      cases hlt : Nat.blt s.next 4000 with
      | false => rw [hlt] at hn; cases hn
      | true =>
        rw [hlt] at hn
        cases hn
        have hpre : ρ <+: ρ ++ [w.heap.size] := ⟨_, rfl⟩
        refine ⟨ρ ++ [w.heap.size], hpre, ?_, ?_⟩
        · simp only [V.den, V0.den, L.den, ← S.len, List.getElem?_concat_length, N.n]
        · have H := S.h.new hx s.lvl (by rw [S.len]; exact blt_iff.1 hlt) t
          rw [S.len] at H
          refine ⟨H, ⟨fun d x hx => ?_, S.e.defs⟩, by simp [S.len], S.size⟩
          obtain ⟨y, h1, h2⟩ := S.e.env d x hx
          exact ⟨y, V.den_pre hpre h1, h2⟩
    unfold evOp at h
    cases ho : o.op <;> rw [ho] at hq <;> simp only [isQ] at hq <;> try (cases hq; done)
    · rename_i t
      rw [ho] at h
      simp only [isCall] at h
      split at h
      · rename_i i hi
        obtain ⟨z, hz, hd⟩ := run_zero ok hi w
        obtain ⟨ρ', h1, h2, h3⟩ := hnew (t := t) (hd ρ) h
        unfold Runs
        simp only [execOp, ho, Instr.alloc, Sem.run_bind, hz, Result.andThen_ok, newVar, newRow, run_newObj, Sem.run_pure]
        exact ⟨ρ', h1, h2, by simpa using h3⟩
      · cases h
    · rename_i t x
      rw [ho] at h
      simp only [isCall] at h
      split at h
      · rename_i u hu
        split at h
        · rename_i xs hxs
          have hd := cellsV_den (evO_den S.h.gs S.e hu) hxs
          obtain ⟨ρ', h1, h2, h3⟩ := hnew (t := t) hd h
          unfold Runs
          simp only [execOp, ho, Instr.box, Sem.run_bind, Result.andThen_ok, newVar, newRow, run_newObj, Sem.run_pure]
          exact ⟨ρ', h1, h2, by simpa using h3⟩
        · cases h
      · cases h
    · rename_i t p x
      rw [ho] at h
      simp only [isCall] at h
      split at h
      · rename_i pv xv hp hx
        obtain ⟨s1, h1, h2⟩ := get_bind _ _ _ h
        cases h2
        have hpd := evO_den S.h.gs S.e hp
        have hxd := evO_den S.h.gs S.e hx
        unfold evStore at h1
        split at h1
        · rename_i v' o' ys z hc hz
          obtain ⟨g, hg, hpe⟩ := den_ptr hpd
          have hcd := cellsV_den hxd hc
          split at h1
          · rename_i b hbl
            cases hgd : (b.wr && (Nat.blt v' 4000 && (Nat.beq ys.length z && ys.all leafOk))) with
            | false => rw [hgd] at h1; cases h1
            | true =>
              rw [hgd] at h1
              simp only [cond_true] at h1
              simp only [Bool.and_eq_true] at hgd
              obtain ⟨hwr, hv4, hlen, hall⟩ := hgd
              have hlen := beq_iff.1 hlen
              have hv4 := blt_iff.1 hv4
              split at h1
              · rename_i xs hcs
                split at h1
                · rename_i zs hzs
                  cases h1
                  obtain ⟨e1, e2⟩ := setRow_eq hzs
                  obtain ⟨g', old, t', fr, k1, k2, k3, k4⟩ := S.h.heap v' b hbl
                  rw [hg] at k1
                  cases k1
                  obtain ⟨rfl, hmay⟩ := k4 hwr
                  rw [hcs] at k2
                  simp only [Cells.den] at k2
                  have hlo := denL_len k2
                  have hly := denL_len hcd
                  simp only [List.length_map] at hlo
                  simp only [Array.length_toList] at hly
                  have hst := run_storeCells_at (P := C.P) g o' t' (a.eval x).cells.toList 0 old.toArray w k3 (by simp; omega) (all_one hall hcd)
                  simp only [Nat.add_zero] at hst
                  have hnewd : (Cells.row zs).den ρ = some (old.take o' ++ (a.eval x).cells.toList ++ old.drop (o' + (a.eval x).cells.toList.length)) := by
                    simp only [Cells.den, e1]
                    exact paste_den o' k2 hcd
                  have H := S.h.store hv4 hg k3 hmay (b := { b with cs := .row zs }) hnewd
                  unfold Runs
                  have hsz := run_sizeT ok hz w
                  have hne : ¬ ((a.eval x).cells.size ≠ z) := by omega
                  simp only [execOp, ho, Instr.storeAt, hpe, Instr.sureAddr, pure_bind, storeVar, Sem.run_bind, hsz, Result.andThen_ok, if_neg hne, N.n, hst, Sem.run_pure]
                  exact ⟨ρ, List.prefix_refl _, rfl, H, S.e, S.len, S.size⟩
                · cases h1
              · cases h1
          · cases h1
        · cases h1
      · cases h
theorem evOps_sound (hn : n ≤ 4000) {ops : Array Oper} {Q : Exit → Act → World → Prop} : ∀ {l : List Oper} {ρ : List Nat} {s s' : St} {a : Act} {w : World}, Sim C w0 W n ρ s a w → (evOps C n ops.toList l s).get = some s' →
    (∀ ρ' a' w', ρ <+: ρ' → Sim C w0 W n ρ' s' a' w' → Q .normal a' w') → wpList C.P ops Q l a w
  | [], ρ, s, s', a, w, S, h, hQ => by cases h; exact hQ ρ a w (List.prefix_refl _) S
  | o :: rest, ρ, s, s', a, w, S, h, hQ => by
    simp only [evOps] at h
    cases hd : okDst n o.dst with
    | false => rw [hd] at h; cases h
    | true =>
      rw [hd] at h
      simp only [cond_true] at h
      have run1 : ∀ {s1 s2 : St}, Sim C w0 W n ρ s1 a w → ((evOp C s1 o.op).bind fun p => evOps C n ops.toList rest (p.2.put o.dst p.1)).get = some s2 → Le s' s2 →
          o.wp C.P a w (wpList C.P ops Q rest) Q := fun {s1 s2} S1 h hle => by
        obtain ⟨p, h1, h2⟩ := get_bind _ _ _ h
        refine (evOp_sound ok hs hb hB S1 h1).wp fun x w' ⟨ρ', e1, e2, e3⟩ => ?_
        exact evOps_sound hn (e3.put e2 hd hn) h2 fun ρ'' a'' w'' e4 e5 => hQ ρ'' a'' w'' (e1.trans e4) (e5.le hle)
      have skip1 : ∀ {s1 s2 : St}, Sim C w0 W n ρ s1 a w → (evOps C n ops.toList rest (s1.put o.dst (.tup []))).get = some s2 → Le s' s2 → wpList C.P ops Q rest (a.put o.dst undef) w := fun S1 h hle =>
        evOps_sound hn (S1.put (v := .tup []) rfl hd hn) h fun ρ'' a'' w'' e4 e5 => hQ ρ'' a'' w'' e4 (e5.le hle)
      simp only [wpList]
      split at h
      · rename_i hgu
        have hw : Region.wanted o (yielded ops a.tmps) = true := by unfold Region.wanted; rw [hgu]
        rw [if_pos hw]
        exact .inl (run1 S h (Le.refl _))
      · rename_i j want hgu
        split at h
        · rename_i d hdst
          have hwant : ∀ x, a.tmps[d]? = some x → Region.wanted o (yielded ops a.tmps) = (boolOf x == some want) := fun x hx => by
            unfold Region.wanted
            rw [hgu]
            simp only [yielded_of hdst hx]
          split at h
          · rename_i st b hbv
            obtain ⟨x, hx, hax⟩ := S.e.env _ _ hbv
            simp only [V.den, V0.den, L.den, Option.some.injEq] at hx
            subst hx
            have hw := hwant _ hax
            simp only [boolOf, B.b] at hw
            cases hbw : b == want with
            | true =>
              rw [hbw] at h
              have : b = want := by simpa using hbw
              subst this
              rw [if_pos (by rw [hw]; simp)]
              exact .inl (run1 S h (Le.refl _))
            | false =>
              rw [hbw] at h
              have : b ≠ want := by simpa using hbw
              rw [if_neg (by rw [hw]; simp [this])]
              exact skip1 S h (Le.refl _)
          · rename_i st b hbv
            obtain ⟨x, hx, hax⟩ := S.e.env _ _ hbv
            simp only [V.den, V0.den, L.den, Option.some.injEq] at hx
            subst hx
            have hw := hwant _ hax
            simp only [boolOf, B.b] at hw hax
            cases hdn : Nat.blt d n with
            | false => rw [hdn] at h; cases h
            | true =>
              rw [hdn] at h
              simp only [cond_true] at h
              have hd4' : d < 4000 := Nat.lt_of_lt_of_le (blt_iff.1 hdn) hn
              have hd4 : ∀ x, some d = some x → x < 4000 := by rintro x ⟨⟩; exact hd4'
              obtain ⟨⟨x, hx, hle⟩, _⟩ := joinS_sound h (fun x hx => by
                cases want with
                | true => obtain ⟨p, h1, h2⟩ := get_bind _ _ _ hx; exact (((ExtS.put hd4).trans (evOp_ext h1)).trans (ExtS.put (okDst_lt hn hd))).trans (evOps_ext hn h2)
                | false => exact ((ExtS.put hd4).trans (ExtS.put (okDst_lt hn hd))).trans (evOps_ext hn hx)) (fun x hx => by
                cases want with
                | true => exact ((ExtS.put hd4).trans (ExtS.put (okDst_lt hn hd))).trans (evOps_ext hn hx)
                | false => obtain ⟨p, h1, h2⟩ := get_bind _ _ _ hx; exact (((ExtS.put hd4).trans (evOp_ext h1)).trans (ExtS.put (okDst_lt hn hd))).trans (evOps_ext hn h2))
              cases b with
              | true =>
                have S1 := S.up.reput (v := vbool (.lit true)) rfl hd4' hax
                simp only [cond_true] at hx
                cases want with
                | true =>
                  rw [if_pos (by rw [hw]; rfl)]
                  exact .inl (run1 S1 hx hle)
                | false =>
                  rw [if_neg (by rw [hw]; decide)]
                  exact skip1 S1 hx hle
              | false =>
                have S1 := S.up.reput (v := vbool (.lit false)) rfl hd4' hax
                simp only [cond_false] at hx
                cases want with
                | true =>
                  rw [if_neg (by rw [hw]; decide)]
                  exact skip1 S1 hx hle
                | false =>
                  rw [if_pos (by rw [hw]; rfl)]
                  exact .inl (run1 S1 hx hle)
          · rename_i st hbv
            obtain ⟨x, hx, hax⟩ := S.e.env _ _ hbv
            cases hx
            have hw := hwant _ hax
            rw [if_neg (by rw [hw]; simp [boolOf])]
            exact skip1 S h (Le.refl _)
          · cases h
        · cases h
end
end
end Go.Proofs.YthndmfgmlbdekaaDoor.Ev
