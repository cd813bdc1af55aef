/- The evaluator is sound, tenth part: statements, loops, functions. -/
import Derived.Test.YthndmfgmlbdekaaDoorEv11
namespace Go.Proofs.YthndmfgmlbdekaaDoor.Ev
open Go Go.RowKit
set_option linter.unusedVariables false
set_option linter.unusedSimpArgs false
set_option linter.constructorNameAsVariable false
def exitOf : Kd → Exit | .nrm => .normal | .ex i => .exit i | .rt => .ret
theorem seqO_get {f : St → Tree Out} {out : Out} : ∀ {t : Tree Out}, (seqO t f).get = some out → ∃ o, t.get = some o ∧ ((o.1 = .nrm ∧ (f o.2).get = some out) ∨ (o.1 ≠ .nrm ∧ out = o))
  | .leaf (.nrm, s), h => ⟨_, rfl, .inl ⟨rfl, h⟩⟩
  | .leaf (.ex i, s), h => by cases h; exact ⟨_, rfl, .inr ⟨by simp, rfl⟩⟩
  | .leaf (.rt, s), h => by cases h; exact ⟨_, rfl, .inr ⟨by simp, rfl⟩⟩
  | .node true l r, h => seqO_get (t := l) h
  | .node false l r, h => seqO_get (t := r) h
  | .bad, h => by cases h
theorem unblock_get {id : Nat} {out : Out} : ∀ {t : Tree Out}, (unblock id t).get = some out → ∃ o, t.get = some o ∧ out.2 = o.2 ∧ ((o.1 = .ex id ∧ out.1 = .nrm) ∨ (o.1 ≠ .ex id ∧ out.1 = o.1))
  | .leaf (.ex i, s), h => by
    simp only [unblock] at h
    cases hb : Nat.beq i id with
    | true => rw [hb] at h; cases h; have := beq_iff.1 hb; subst this; exact ⟨_, rfl, rfl, .inl ⟨rfl, rfl⟩⟩
    | false => rw [hb] at h; cases h; have := beq_ff.1 hb; exact ⟨_, rfl, rfl, .inr ⟨by simpa using this, rfl⟩⟩
  | .leaf (.nrm, s), h => by cases h; exact ⟨_, rfl, rfl, .inr ⟨by simp, rfl⟩⟩
  | .leaf (.rt, s), h => by cases h; exact ⟨_, rfl, rfl, .inr ⟨by simp, rfl⟩⟩
  | .node true l r, h => unblock_get (t := l) h
  | .node false l r, h => unblock_get (t := r) h
  | .bad, h => by cases h
theorem down_get {l : Nat} : ∀ {t : Tree Out} {o : Out}, (down l t).get = some o → ∃ x, t.get = some x ∧ o = (x.1, x.2.at l)
  | .leaf x, o, h => by cases h; exact ⟨x, rfl, rfl⟩
  | .node true a b, o, h => down_get (t := a) h
  | .node false a b, o, h => down_get (t := b) h
  | .bad, o, h => by cases h
theorem same_eq {a b : Kd} (h : a.same b = true) : a = b := by
  cases a <;> cases b <;> simp [Kd.same] at h <;> simp [h]
theorem join_sound {s : St} {t : Bool} {l r : Tree Out} {o : Out} (h : (join s.lvl t l r).get = some o) (hl : ∀ x, l.get = some x → ExtS s.up x.2) (hr : ∀ x, r.get = some x → ExtS s.up x.2) :
    (∃ x, (bif t then l else r).get = some x ∧ o.1 = x.1 ∧ Le o.2 x.2) ∧ ExtS s o.2 := by
  unfold join at h
  split at h
  · rename_i x y
    have sep : (Tree.node t (.leaf (x.1, x.2.at s.lvl)) (.leaf (y.1, y.2.at s.lvl)) : Tree Out).get = some o → (∃ z, (bif t then Tree.leaf x else Tree.leaf y : Tree Out).get = some z ∧ o.1 = z.1 ∧ Le o.2 z.2) ∧ ExtS s o.2 := fun h => by
      cases t with
      | true => cases h; exact ⟨⟨x, rfl, rfl, Le.at _ _⟩, (hl x rfl).down⟩
      | false => cases h; exact ⟨⟨y, rfl, rfl, Le.at _ _⟩, (hr y rfl).down⟩
    cases hk : x.1.same y.1 with
    | false => rw [hk] at h; exact sep h
    | true =>
      rw [hk] at h
      simp only [cond_true] at h
      split at h
      · rename_i z hz
        cases h
        obtain ⟨h1, h2⟩ := mSt_sound hz (agree_of (s := s.up) rfl (hl x rfl) (hr y rfl))
        refine ⟨⟨bif t then x else y, by cases t <;> rfl, ?_, ?_⟩, h2 s rfl (hl x rfl)⟩
        · cases t with
          | true => rfl
          | false => exact same_eq hk
        · cases t with
          | true => exact h1
          | false => exact h1
      · exact sep h
  · cases h
  · cases t with
    | true =>
      obtain ⟨x, h1, rfl⟩ := down_get h
      exact ⟨⟨x, h1, rfl, Le.at _ _⟩, (hl x h1).down⟩
    | false =>
      obtain ⟨x, h1, rfl⟩ := down_get h
      exact ⟨⟨x, h1, rfl, Le.at _ _⟩, (hr x h1).down⟩
theorem keepEnv_get {l : Nat} {e : T (Nat × V)} : ∀ {ds : List Nat} {d : Nat} {p : Nat × V}, (∀ x ∈ ds, x < 4000) → (keepEnv l e ds).get d = some p → ∃ q, e.get d = some q ∧ p = (l, q.2)
  | [], d, p, _, h => by simp [keepEnv, T.get_e] at h
  | x :: ds, d, p, hd, h => by
    simp only [keepEnv] at h
    split at h
    · rename_i y hy
      rw [T.get_put (hd x (by simp))] at h
      split at h
      · rename_i e'; cases h; subst e'; exact ⟨y, hy, rfl⟩
      · exact keepEnv_get (fun x hx => hd x (by simp [hx])) h
    · exact keepEnv_get (fun x hx => hd x (by simp [hx])) h
/-- The slots that are kept at loops' heads are slots. -/
def KeepOk (keep : Nat → Option (List Nat)) : Prop := ∀ b ds, keep b = some ds → ∀ x ∈ ds, x < 4000
section
variable {C : Ctx} {w0 : World} {W : List Nat} {n k : Nat} {keep : Nat → Option (List Nat)} {ρ : List Nat}
theorem head_le (hk : KeepOk keep) (b : Nat) (s : St) : Le (headSt (keep b) s) s ∧ ExtS s (headSt (keep b) s) := by
  unfold headSt
  split
  · rename_i ds hds
    refine ⟨⟨rfl, fun d x hx => ?_, fun v b h => ⟨b, h, rfl, fun _ => rfl⟩⟩, rfl, fun d p hp hl => ?_, fun v b h => by show BExt _ _ b; rw [show s.heap.get v = some b from h]; exact BExt.refl _ b⟩
    · obtain ⟨q, h1, rfl⟩ := keepEnv_get (hk b ds hds) hx
      exact ⟨q, h1, fun _ => rfl⟩
    · obtain ⟨q, h1, rfl⟩ := keepEnv_get (hk b ds hds) hp
      exact absurd hl (Nat.lt_irrefl _)
  · exact ⟨Le.refl s, ExtS.refl s⟩
theorem evLoop_ext (hk : KeepOk keep) {b : Nat} {f : St → Tree Out} (hf : ∀ s o, (f s).get = some o → ExtS s o.2) : ∀ (j : Nat) (s : St) (o : Out), (evLoop j (headSt (keep b)) f s).get = some o → ExtS s o.2
  | 0, s, o, h => by cases h
  | j + 1, s, o, h => by
    simp only [evLoop] at h
    obtain ⟨o1, h1, h2⟩ := seqO_get h
    have e1 := (head_le hk b s).2.trans (hf _ _ h1)
    rcases h2 with ⟨_, h2⟩ | ⟨_, rfl⟩
    · exact e1.trans (evLoop_ext hk hf j _ _ h2)
    · exact e1
theorem evC_ext (hn : n ≤ 4000) (hk : KeepOk keep) : ∀ (c : Code) (b : Nat) (s : St) (o : Out), (evC C n k keep b c s).get = some o → ExtS s o.2 := by
  intro c
  induction c with
  | skip => intro b s o h; simp only [evC] at h; cases h; exact ExtS.refl s
  | region id ops draw =>
    intro b s o h
    simp only [evC] at h
    cases hd : (!draw || drawOk ops) with
    | false => rw [hd] at h; cases h
    | true =>
      rw [hd] at h
      obtain ⟨s', h1, h2⟩ := get_bind _ _ _ h
      cases h2
      exact evOps_ext hn h1
  | seq x y ihx ihy =>
    intro b s o h
    simp only [evC] at h
    obtain ⟨o1, h1, h2⟩ := seqO_get h
    rcases h2 with ⟨_, h2⟩ | ⟨_, rfl⟩
    · exact (ihx _ _ _ h1).trans (ihy _ _ _ h2)
    · exact ihx _ _ _ h1
  | cond c x y ihx ihy =>
    intro b s o h
    simp only [evC] at h
    split at h
    · rename_i t ht
      cases t with
      | true => exact ihx _ _ _ h
      | false => exact ihy _ _ _ h
    · exact (join_sound h (fun x hx => ihx _ _ _ hx) (fun x hx => ihy _ _ _ hx)).2
    · cases h
  | block id x ih =>
    intro b s o h
    simp only [evC] at h
    obtain ⟨o1, h1, h2, _⟩ := unblock_get h
    rw [h2]
    exact ih _ _ _ h1
  | loop x ih => intro b s o h; simp only [evC] at h; exact evLoop_ext hk (fun s o h => ih b s o h) _ _ _ h
  | exit id => intro b s o h; simp only [evC] at h; cases h; exact ExtS.refl s
  | ret => intro b s o h; simp only [evC] at h; cases h; exact ExtS.refl s
  | label l => intro b s o h; simp only [evC] at h; cases h; exact ExtS.refl s
  | scope x ih => intro b s o h; simp only [evC] at h; cases h
  | goto l => intro b s o h; simp only [evC] at h; cases h
  | refuse y => intro b s o h; simp only [evC] at h; cases h
  | rangeFunc f ps as bd ih1 ih2 => intro b s o h; simp only [evC] at h; cases h
variable (ok : Ok C) (hs : SpecOk C) (hb : BodyOk C) (hB : Base C w0 W)
include ok hs hb hB
/-- What is asked behind a statement that comes to this. -/
def After (C : Ctx) (w0 : World) (W : List Nat) (n : Nat) (ρ : List Nat) (o : Out) (Q : Exit → Act → World → Prop) : Prop :=
  ∀ ρ' a' w', ρ <+: ρ' → Sim C w0 W n ρ' o.2 a' w' → Q (exitOf o.1) a' w'
omit ok hs hb hB in
theorem After.mono {ρ' : List Nat} {o : Out} {Q : Exit → Act → World → Prop} (h : After C w0 W n ρ o Q) (hp : ρ <+: ρ') : After C w0 W n ρ' o Q := fun ρ'' a w h1 h2 => h ρ'' a w (hp.trans h1) h2
omit ok hs hb hB in
theorem loop_sound (hk : KeepOk keep) {b : Nat} {c : Code} {f : St → Tree Out} {Q : Exit → Act → World → Prop}
    (hf : ∀ (ρ : List Nat) (s : St) (a : Act) (w : World) (o : Out) (Q : Exit → Act → World → Prop), Sim C w0 W n ρ s a w → (f s).get = some o → After C w0 W n ρ o Q → c.wp C.P Q a w) :
    ∀ (j : Nat) (ρ : List Nat) (s : St) (a : Act) (w : World) (o : Out), Sim C w0 W n ρ s a w → (evLoop j (headSt (keep b)) f s).get = some o → After C w0 W n ρ o Q →
      ∀ (fr : Frame) (K : List Item) (cs : List Frame), ∃ e a' w', Q e a' w' ∧ Arrives C.P (lone (fr.at a (.code c :: .inLoop c :: K)) cs w) fr K cs e a' w'
  | 0, _, _, _, _, _, _, h, _, _, _, _ => by cases h
  | j + 1, ρ, s, a, w, o, S, h, hQ, fr, K, cs => by
    simp only [evLoop] at h
    obtain ⟨o1, h1, h2⟩ := seqO_get h
    have S1 := Sim.le (head_le hk b s).1 S
    have hwp := hf ρ _ a w o1 (fun e a' w' => e = exitOf o1.1 ∧ ∃ ρ', ρ <+: ρ' ∧ Sim C w0 W n ρ' o1.2 a' w') S1 h1 (fun ρ' a' w' e1 e2 => ⟨rfl, ρ', e1, e2⟩)
    obtain ⟨e, a1, w1, ⟨he, ρ1, e1, S2⟩, harr⟩ := hwp fr (.inLoop c :: K) cs
    subst he
    rcases h2 with ⟨hk1, h2⟩ | ⟨hk1, rfl⟩
    · rw [hk1] at harr
      obtain ⟨e2, a2, w2, hq, harr2⟩ := loop_sound hk hf j ρ1 o1.2 a1 w1 o S2 h2 (hQ.mono e1) fr K cs
      exact ⟨e2, a2, w2, hq, .of_steps (Steps.trans harr (.one step_inLoop)) harr2⟩
    · have hq := hQ ρ1 a1 w1 e1 S2
      cases hkd : o.1 with
      | nrm => exact absurd hkd hk1
      | ex i =>
        rw [hkd] at harr hq
        exact ⟨_, a1, w1, hq, .pass (x := .inLoop c) rfl (fun _ _ => .inl (by simp [exitOf])) harr⟩
      | rt =>
        rw [hkd] at harr hq
        exact ⟨_, a1, w1, hq, .pass (x := .inLoop c) rfl (fun _ _ => .inl (by simp [exitOf])) harr⟩
theorem evC_sound (hn : n ≤ 4000) (hk : KeepOk keep) : ∀ (c : Code) (b : Nat) (ρ : List Nat) (s : St) (a : Act) (w : World) (o : Out) (Q : Exit → Act → World → Prop), Sim C w0 W n ρ s a w →
    (evC C n k keep b c s).get = some o → After C w0 W n ρ o Q → c.wp C.P Q a w := by
  intro c
  induction c with
  | skip => intro b ρ s a w o Q S h hQ; simp only [evC] at h; cases h; exact wp_skip (hQ ρ a w (List.prefix_refl _) S)
  | region id ops draw =>
    intro b ρ s a w o Q S h hQ
    simp only [evC] at h
    cases hd : (!draw || drawOk ops) with
    | false => rw [hd] at h; cases h
    | true =>
      rw [hd] at h
      obtain ⟨s', h1, h2⟩ := get_bind _ _ _ h
      cases h2
      exact region_sound ok hs hb hB hn S hd h1 hQ
  | seq x y ihx ihy =>
    intro b ρ s a w o Q S h hQ
    simp only [evC] at h
    obtain ⟨o1, h1, h2⟩ := seqO_get h
    refine wp_seq (ihx b ρ s a w o1 _ S h1 fun ρ' a' w' e1 e2 => ?_)
    rcases h2 with ⟨hk1, h2⟩ | ⟨hk1, rfl⟩
    · rw [hk1]
      exact ihy b ρ' _ a' w' o Q e2 h2 (hQ.mono e1)
    · have := hQ ρ' a' w' e1 e2
      cases hkd : o.1 with
      | nrm => exact absurd hkd hk1
      | ex i => rw [hkd] at this; exact this
      | rt => rw [hkd] at this; exact this
  | cond c x y ihx ihy =>
    intro b ρ s a w o Q S h hQ
    simp only [evC] at h
    split at h
    · rename_i t ht
      have hc := evO_den S.h.gs S.e ht
      simp only [V.den, V0.den, L.den, Option.some.injEq] at hc
      refine wp_cond hc.symm ?_
      cases t with
      | true => exact ihx b ρ s a w o Q S h hQ
      | false => exact ihy b ρ s a w o Q S h hQ
    · rename_i t ht
      have hc := evO_den S.h.gs S.e ht
      simp only [V.den, V0.den, L.den, Option.some.injEq] at hc
      obtain ⟨⟨z, h1, h2, h3⟩, _⟩ := join_sound h (fun x hx => evC_ext hn hk _ _ _ _ hx) (fun x hx => evC_ext hn hk _ _ _ _ hx)
      refine wp_cond hc.symm ?_
      have hQ' : After C w0 W n ρ z Q := fun ρ' a' w' e1 e2 => by rw [← h2]; exact hQ ρ' a' w' e1 (Sim.le h3 e2)
      cases t with
      | true => exact ihx b ρ s.up a w z Q S.up h1 hQ'
      | false => exact ihy b ρ s.up a w z Q S.up h1 hQ'
    · cases h
  | block id x ih =>
    intro b ρ s a w o Q S h hQ
    simp only [evC] at h
    obtain ⟨o1, h1, h2, h3⟩ := unblock_get h
    refine wp_block (ih id ρ s a w o1 _ S h1 fun ρ' a' w' e1 e2 => ?_)
    have := hQ ρ' a' w' e1 (by rw [h2]; exact e2)
    rcases h3 with ⟨k1, k2⟩ | ⟨k1, k2⟩
    · rw [k1]
      rw [k2] at this
      simp only [exitOf, Exit.inBlock, if_true]
      exact this
    · rw [k2] at this
      cases hkd : o1.1 with
      | nrm => rw [hkd] at this; exact this
      | ex i =>
        rw [hkd] at this k1
        have hne : i ≠ id := fun e => k1 (by rw [e])
        simp only [exitOf, Exit.inBlock, if_neg hne]
        exact this
      | rt => rw [hkd] at this; exact this
  | loop x ih =>
    intro b ρ s a w o Q S h hQ
    simp only [evC] at h
    intro fr K cs
    obtain ⟨e, a', w', hq, harr⟩ := loop_sound (keep := keep) (b := b) (c := x) hk (fun ρ s a w o Q S h hQ => ih b ρ s a w o Q S h hQ) k ρ s a w o S h hQ fr K cs
    exact ⟨e, a', w', hq, .of_steps (.one step_loop) harr⟩
  | exit id => intro b ρ s a w o Q S h hQ; simp only [evC] at h; cases h; exact wp_exit (hQ ρ a w (List.prefix_refl _) S)
  | ret => intro b ρ s a w o Q S h hQ; simp only [evC] at h; cases h; exact wp_ret (hQ ρ a w (List.prefix_refl _) S)
  | label l => intro b ρ s a w o Q S h hQ; simp only [evC] at h; cases h; exact wp_label (hQ ρ a w (List.prefix_refl _) S)
  | scope x ih => intro b ρ s a w o Q S h hQ; simp only [evC] at h; cases h
  | goto l => intro b ρ s a w o Q S h hQ; simp only [evC] at h; cases h
  | refuse y => intro b ρ s a w o Q S h hQ; simp only [evC] at h; cases h
  | rangeFunc f ps as bd ih1 ih2 => intro b ρ s a w o Q S h hQ; simp only [evC] at h; cases h
end
end Go.Proofs.YthndmfgmlbdekaaDoor.Ev
