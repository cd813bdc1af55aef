/- The evaluator is sound, seventh part: what is not stamped anew has not changed; joined states say no more than either. -/
import Derived.Test.YthndmfgmlbdekaaDoorEv8
import Derived.Tactics
namespace Go.Proofs.YthndmfgmlbdekaaDoor.Ev
open Go Go.RowKit
set_option linter.unusedVariables false
set_option linter.unusedSimpArgs false
set_option linter.constructorNameAsVariable false
/-! ### Stamps -/
def BExt (l : Nat) (b0 : Option Blk) (b : Blk) : Prop := match b.cs with
  | .row xs => ∀ (i : Nat) (p : Nat × L), xs[i]? = some p → p.1 < l → ∃ wr xs0, b0 = some ⟨wr, .row xs0⟩ ∧ xs0[i]? = some p
  | .ints st k xs => st < l → ∃ wr, b0 = some ⟨wr, .ints st k xs⟩
structure ExtS (s o : St) : Prop where
  lvl : o.lvl = s.lvl
  env : ∀ d p, o.env.get d = some p → p.1 < s.lvl → s.env.get d = some p
  heap : ∀ v b, o.heap.get v = some b → BExt s.lvl (s.heap.get v) b
theorem BExt.refl (l : Nat) (b : Blk) : BExt l (some b) b := by
  obtain ⟨wr, cs⟩ := b
  cases cs with
  | row xs => exact fun i p h _ => ⟨wr, xs, rfl, h⟩
  | ints st k xs => exact fun _ => ⟨wr, rfl⟩
theorem BExt.trans {l : Nat} {b0 : Option Blk} {b1 : Option Blk} {b : Blk} (h1 : ∀ c, b1 = some c → BExt l b0 c) (h2 : BExt l b1 b) : BExt l b0 b := by
  unfold BExt at *
  split
  · rename_i xs hcs
    rw [hcs] at h2
    intro i p hp hl
    obtain ⟨wr, xs0, e, h3⟩ := h2 i p hp hl
    have := h1 _ e
    simp only at this
    exact this i p h3 hl
  · rename_i st k xs hcs
    rw [hcs] at h2
    intro hl
    obtain ⟨wr, e⟩ := h2 hl
    have := h1 _ e
    simp only at this
    exact this hl
theorem ExtS.refl (s : St) : ExtS s s := ⟨rfl, fun _ _ h _ => h, fun v b h => by rw [h]; exact BExt.refl _ b⟩
theorem ExtS.trans {s o p : St} (h1 : ExtS s o) (h2 : ExtS o p) : ExtS s p :=
  ⟨h2.lvl.trans h1.lvl, fun d q hq hl => h1.env d q (h2.env d q hq (by rw [h1.lvl]; exact hl)) hl, fun v b hb => by
    have := h2.heap v b hb
    rw [h1.lvl] at this
    exact BExt.trans (fun c hc => h1.heap v c hc) this⟩
theorem ExtS.put {s : St} {d : Option Tmp} {v : V} (hd : ∀ x, d = some x → x < 4000) : ExtS s (s.put d v) := by
  cases d with
  | none => exact ExtS.refl s
  | some d =>
    refine ⟨rfl, fun j p hp hl => ?_, fun v b h => by show BExt _ _ b; rw [show s.heap.get v = some b from h]; exact BExt.refl _ b⟩
    simp only [St.put] at hp
    rw [T.get_put (hd d rfl)] at hp
    split at hp
    · cases hp; simp at hl
    · exact hp
theorem stamp_get {l : Nat} : ∀ {xs : List L} {i : Nat} {p : Nat × L}, (stamp l xs)[i]? = some p → p.1 = l
  | [], i, p, h => by simp [stamp] at h
  | x :: xs, 0, p, h => by simp [stamp] at h; rw [← h]
  | x :: xs, i + 1, p, h => stamp_get (xs := xs) (i := i) (by simpa [stamp] using h)
theorem setRow_get {l : Nat} : ∀ {xs : List (Nat × L)} {o : Nat} {ys : List L} {zs : List (Nat × L)}, setRow l xs o ys = some zs → ∀ {i : Nat} {p : Nat × L}, zs[i]? = some p → p.1 = l ∨ xs[i]? = some p
  | xs, 0, [], zs, h, i, p, hp => by cases xs <;> (simp only [setRow] at h; cases h; exact .inr hp)
  | [], 0, y :: ys, zs, h, _, _, _ => by cases h
  | x :: xs, 0, y :: ys, zs, h, i, p, hp => by
    simp only [setRow] at h
    split at h
    · rename_i us hu
      cases h
      cases i with
      | zero => simp at hp; exact .inl (by rw [← hp])
      | succ i => simpa using setRow_get hu (i := i) (by simpa using hp)
    · cases h
  | [], o + 1, ys, zs, h, _, _, _ => by cases ys <;> cases h
  | x :: xs, o + 1, ys, zs, h, i, p, hp => by
    simp only [setRow] at h
    split at h
    · rename_i us hu
      cases h
      cases i with
      | zero => simp at hp ⊢; exact .inr hp
      | succ i => simpa using setRow_get hu (i := i) (by simpa using hp)
    · cases h
section
variable {C : Ctx}
theorem St.new_ext {s : St} {xs : List L} {v : V} {s' : St} (h : (s.new xs).get = some (v, s')) : ExtS s s' := by
  unfold St.new at h
  cases hn : Nat.blt s.next 4000 with
  | false => rw [hn] at h; cases h
  | true =>
    rw [hn] at h
    cases h
    have hn' : s.next < 4000 := by simpa [Nat.blt, Nat.ble_eq, Nat.lt_iff_add_one_le] using hn
    refine ⟨rfl, fun _ _ h _ => h, fun v b hb => ?_⟩
    simp only at hb
    rw [T.get_put hn'] at hb
    split at hb
    · cases hb
      intro i p hp hl
      rw [stamp_get hp] at hl
      exact absurd hl (Nat.lt_irrefl _)
    · rw [hb]; exact BExt.refl _ b
theorem evStore_ext {s : St} {t : TypeId} {p x : V} {s' : St} (h : (evStore C s t p x).get = some s') : ExtS s s' := by
  unfold evStore at h
  split at h
  · rename_i v o ys z hc hz
    split at h
    · rename_i b hb
      cases hg : (b.wr && (Nat.blt v 4000 && (Nat.beq ys.length z && ys.all leafOk))) with
      | false => rw [hg] at h; cases h
      | true =>
        rw [hg] at h
        simp only [cond_true] at h
        split at h
        · rename_i xs hcs
          split at h
          · rename_i zs hzs
            cases h
            refine ⟨rfl, fun _ _ h _ => h, fun v' b' hb' => ?_⟩
            simp only at hb'
            have hv : v < 4000 := by simp [Nat.blt, Nat.lt_iff_add_one_le] at hg; have := hg.2.1; omega
            rw [T.get_put hv] at hb'
            split at hb'
            · rename_i e
              subst e
              cases hb'
              rw [hb]
              intro i q hq hl
              rcases setRow_get hzs hq with h1 | h1
              · omega
              · obtain ⟨wr, cs⟩ := b
                simp only at hcs
                subst hcs
                exact ⟨wr, xs, rfl, h1⟩
            · rw [hb']; exact BExt.refl _ b'
          · cases h
        · cases h
    · cases h
  · cases h
end
/-! ### Joins -/
/-- The first knows no more than the second. -/
structure Le (s' s : St) : Prop where
  next : s'.next = s.next
  env : ∀ d x, s'.env.get d = some x → ∃ y, s.env.get d = some y ∧ ∀ ρ, x.2.den ρ = y.2.den ρ
  heap : ∀ v b', s'.heap.get v = some b' → ∃ b, s.heap.get v = some b ∧ b'.wr = b.wr ∧ ∀ ρ, b'.cs.den ρ = b.cs.den ρ
theorem Le.refl (s : St) : Le s s := ⟨rfl, fun d x h => ⟨x, h, fun _ => rfl⟩, fun v b h => ⟨b, h, rfl, fun _ => rfl⟩⟩
theorem Le.at (s : St) (l : Nat) : Le (s.at l) s := ⟨rfl, fun d x h => ⟨x, h, fun _ => rfl⟩, fun v b h => ⟨b, h, rfl, fun _ => rfl⟩⟩
theorem Sim.le {C : Ctx} {w0 : World} {W : List Nat} {n : Nat} {ρ : List Nat} {s s' : St} {a : Act} {w : World} (h : Le s' s) (S : Sim C w0 W n ρ s a w) : Sim C w0 W n ρ s' a w :=
  ⟨⟨S.h.gs, S.h.nodup, S.h.lt, fun v b' hb' => by
      obtain ⟨b, h1, h2, h3⟩ := h.heap v b' hb'
      obtain ⟨g, ys, t, fr, e1, e2, e3, e4⟩ := S.h.heap v b h1
      exact ⟨g, ys, t, fr, e1, by rw [h3]; exact e2, e3, fun hw => e4 (by rw [← h2]; exact hw)⟩, S.h.fr⟩,
    ⟨fun d x hx => by
      obtain ⟨y, h1, h2⟩ := h.env d x hx
      obtain ⟨z, e1, e2⟩ := S.e.env d y h1
      exact ⟨z, by rw [h2]; exact e1, e2⟩, S.e.defs⟩, S.len.trans h.next.symm, S.size⟩
/-- Where both are of the base, they are alike. -/
def Agree (l : Nat) (x y : St) : Prop := (∀ d p q, x.env.get d = some p → y.env.get d = some q → p.1 ≤ l → q.1 ≤ l → p = q) ∧
  ∀ v b c, x.heap.get v = some b → y.heap.get v = some c → match b.cs, c.cs with
    | .row xs, .row ys => ∀ (i : Nat) (p q : Nat × L), xs[i]? = some p → ys[i]? = some q → p.1 ≤ l → q.1 ≤ l → p = q
    | .ints a k xs, .ints b k' ys => a ≤ l → b ≤ l → k = k' ∧ xs = ys
    | _, _ => True
theorem agree_of {s x y : St} {l : Nat} (hl : s.lvl = l + 1) (hx : ExtS s x) (hy : ExtS s y) : Agree l x y := by
  refine ⟨fun d p q hp hq h1 h2 => ?_, fun v b c hb hc => ?_⟩
  · have e1 := hx.env d p hp (by omega)
    have e2 := hy.env d q hq (by omega)
    rw [e1] at e2
    exact Option.some.inj e2
  · have e1 := hx.heap v b hb
    have e2 := hy.heap v c hc
    obtain ⟨w1, cs1⟩ := b
    obtain ⟨w2, cs2⟩ := c
    cases cs1 <;> cases cs2 <;> simp only
    · rename_i xs ys
      intro i p q hp hq h1 h2
      obtain ⟨_, z1, f1, g1⟩ := e1 i p hp (by omega)
      obtain ⟨_, z2, f2, g2⟩ := e2 i q hq (by omega)
      rw [f1] at f2
      cases f2
      rw [g1] at g2
      exact Option.some.inj g2
    · rename_i a k xs b k' ys
      intro h1 h2
      obtain ⟨_, f1⟩ := e1 (by omega)
      obtain ⟨_, f2⟩ := e2 (by omega)
      rw [f1] at f2
      cases f2
      exact ⟨rfl, rfl⟩
theorem ble_and {a b l : Nat} : (Nat.ble a l && Nat.ble b l) = true ↔ a ≤ l ∧ b ≤ l := by simp only [Bool.and_eq_true, Nat.ble_eq]
theorem mRow_sound {l : Nat} {t : Bool} : ∀ {xs ys zs : List (Nat × L)}, mRow l t xs ys = some zs → (∀ (i : Nat) (p q : Nat × L), xs[i]? = some p → ys[i]? = some q → p.1 ≤ l → q.1 ≤ l → p = q) →
    (∀ ρ, denL ρ (zs.map (·.2)) = bif t then denL ρ (xs.map (·.2)) else denL ρ (ys.map (·.2))) ∧ ∀ (i : Nat) (p : Nat × L), zs[i]? = some p → p.1 = l ∨ (xs[i]? = some p ∧ p.1 ≤ l)
  | [], [], zs, h, _ => by cases h; exact ⟨fun ρ => by cases t <;> rfl, fun i p hp => by simp at hp⟩
  | [], _ :: _, _, h, _ => by cases h
  | _ :: _, [], _, h, _ => by cases h
  | x :: xs, y :: ys, zs, h, ha => by
    simp only [mRow] at h
    split at h
    · rename_i us hu
      obtain ⟨ih1, ih2⟩ := mRow_sound hu (fun i p q hp hq => ha (i + 1) p q (by simpa using hp) (by simpa using hq))
      cases hb : (Nat.ble x.1 l && Nat.ble y.1 l) with
      | true =>
        rw [hb] at h
        cases h
        obtain ⟨h1, h2⟩ := ble_and.1 hb
        have e : x = y := ha 0 x y rfl rfl h1 h2
        subst e
        refine ⟨fun ρ => by simp only [List.map_cons, denL, ih1]; cases t <;> rfl, fun i p hp => ?_⟩
        cases i with
        | zero => simp at hp; subst hp; exact .inr ⟨rfl, h1⟩
        | succ i => simpa using ih2 i p (by simpa using hp)
      | false =>
        rw [hb] at h
        simp only [cond_false] at h
        split at h
        · rename_i z hz
          cases h
          refine ⟨fun ρ => by simp only [List.map_cons, denL, ih1, mL_den (ρ := ρ) hz]; cases t <;> rfl, fun i p hp => ?_⟩
          cases i with
          | zero => simp at hp; subst hp; exact .inl rfl
          | succ i => simpa using ih2 i p (by simpa using hp)
        · cases h
    · cases h
theorem mSt_sound {l : Nat} {t : Bool} {x y s : St} (h : mSt l t x y = some s) (ha : Agree l x y) : Le s (bif t then x else y) ∧ (∀ s0 : St, s0.lvl = l → ExtS s0.up x → ExtS s0 s) := by
  unfold mSt at h
  cases hn : Nat.beq x.next y.next with
  | false => rw [hn] at h; cases h
  | true =>
    rw [hn] at h
    simp only [cond_true] at h
    have hn' := beq_iff.1 hn
    cases hsub : (T.sub x.heap (T.merge (mBlk l t) x.heap y.heap) && T.sub y.heap (T.merge (mBlk l t) x.heap y.heap)) with
    | false => rw [hsub] at h; cases h
    | true =>
      rw [hsub] at h
      cases h
      have henv : ∀ d p, (T.merge (mEnv l t) x.env y.env).get d = some p → ∃ p1 p2, x.env.get d = some p1 ∧ y.env.get d = some p2 ∧ (∀ ρ, p.2.den ρ = bif t then p1.2.den ρ else p2.2.den ρ) ∧ (p.1 = l ∨ (p = p1 ∧ p.1 ≤ l)) := by
        intro d p hp
        obtain ⟨p1, p2, h1, h2, h3⟩ := T.get_merge _ _ _ _ _ hp
        refine ⟨p1, p2, h1, h2, ?_⟩
        unfold mEnv at h3
        cases hb : (Nat.ble p1.1 l && Nat.ble p2.1 l) with
        | true =>
          rw [hb] at h3
          cases h3
          obtain ⟨g1, g2⟩ := ble_and.1 hb
          have e := ha.1 d p p2 h1 h2 g1 g2
          subst e
          exact ⟨fun ρ => by cases t <;> rfl, .inr ⟨rfl, g1⟩⟩
        | false =>
          rw [hb] at h3
          simp only [cond_false] at h3
          split at h3
          · rename_i z hz
            cases h3
            exact ⟨fun ρ => mV_den hz, .inl rfl⟩
          · cases h3
      have hheap : ∀ v b, (T.merge (mBlk l t) x.heap y.heap).get v = some b → ∃ b1 b2, x.heap.get v = some b1 ∧ y.heap.get v = some b2 ∧ b.wr = b1.wr ∧ b.wr = b2.wr ∧
          (∀ ρ, b.cs.den ρ = bif t then b1.cs.den ρ else b2.cs.den ρ) ∧ (match b.cs with
            | .row zs => ∃ xs, b1.cs = .row xs ∧ ∀ (i : Nat) (p : Nat × L), zs[i]? = some p → p.1 = l ∨ (xs[i]? = some p ∧ p.1 ≤ l)
            | .ints st k zs => st = l ∨ b.cs = b1.cs) := by
        intro v b hb
        obtain ⟨b1, b2, h1, h2, h3⟩ := T.get_merge _ _ _ _ _ hb
        refine ⟨b1, b2, h1, h2, ?_⟩
        have hag := ha.2 v b1 b2 h1 h2
        unfold mBlk at h3
        cases hw : b1.wr == b2.wr with
        | false => rw [hw] at h3; cases h3
        | true =>
          rw [hw] at h3
          have hwe : b1.wr = b2.wr := by simpa using hw
          simp only [cond_true] at h3
          split at h3
          · rename_i cs hcs
            cases h3
            refine ⟨rfl, hwe, ?_⟩
            unfold mCells at hcs
            split at hcs
            · rename_i xs ys e1 e2
              split at hcs
              · rename_i zs hzs
                cases hcs
                rw [e1, e2] at hag
                simp only at hag
                obtain ⟨g1, g2⟩ := mRow_sound hzs hag
                refine ⟨fun ρ => ?_, xs, e1, g2⟩
                rw [e1, e2]
                exact g1 ρ
              · cases hcs
            · rename_i a k xs b' k' ys e1 e2
              rw [e1, e2] at hag
              simp only at hag
              cases hb' : (Nat.ble a l && Nat.ble b' l) with
              | true =>
                rw [hb'] at hcs
                cases hcs
                obtain ⟨g1, g2⟩ := ble_and.1 hb'
                obtain ⟨rfl, rfl⟩ := hag g1 g2
                refine ⟨fun ρ => ?_, .inr e1.symm⟩
                rw [e1, e2]
                cases t <;> rfl
              | false =>
                rw [hb'] at hcs
                simp only [cond_false] at hcs
                by_cases hk : k = k'
                · subst hk
                  simp at hcs
                  subst hcs
                  refine ⟨fun ρ => ?_, .inl rfl⟩
                  rw [e1, e2]
                  cases t <;> rfl
                · simp [hk] at hcs
            · cases hcs
          · cases h3
      refine ⟨⟨by cases t <;> simp [hn'], fun d p hp => ?_, fun v b hb => ?_⟩, fun s0 hl hx => ⟨hl.symm, fun d p hp hlt => ?_, fun v b hb => ?_⟩⟩
      · obtain ⟨p1, p2, h1, h2, h3, _⟩ := henv d p hp
        cases t with
        | true => exact ⟨p1, h1, h3⟩
        | false => exact ⟨p2, h2, h3⟩
      · obtain ⟨b1, b2, h1, h2, h3, h4, h5, _⟩ := hheap v b hb
        cases t with
        | true => exact ⟨b1, h1, h3, h5⟩
        | false => exact ⟨b2, h2, h4, h5⟩
      · obtain ⟨p1, p2, h1, h2, h3, h4⟩ := henv d p hp
        rcases h4 with h4 | ⟨rfl, h4⟩
        · omega
        · exact hx.env d p h1 (by show p.1 < s0.lvl + 1; omega)
      · obtain ⟨b1, b2, h1, h2, h3, h4, h5, h6⟩ := hheap v b hb
        have hx' := hx.heap v b1 h1
        obtain ⟨wr, cs⟩ := b
        cases cs with
        | row zs =>
          simp only at h6
          obtain ⟨xs, e1, h6⟩ := h6
          intro i p hp hlt
          rcases h6 i p hp with h7 | ⟨h7, h8⟩
          · omega
          · unfold BExt at hx'
            rw [e1] at hx'
            exact hx' i p h7 (by show p.1 < s0.lvl + 1; omega)
        | ints st k zs =>
          simp only at h6
          intro hlt
          rcases h6 with h7 | h7
          · omega
          · unfold BExt at hx'
            rw [← h7] at hx'
            exact hx' (by show st < s0.lvl + 1; omega)
end Go.Proofs.YthndmfgmlbdekaaDoor.Ev
