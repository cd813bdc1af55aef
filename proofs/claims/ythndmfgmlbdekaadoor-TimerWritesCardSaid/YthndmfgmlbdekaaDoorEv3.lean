/- The evaluator is sound, first part: finite maps, trees, values under more blocks, merged states. No program is in sight. -/
import Derived.Test.YthndmfgmlbdekaaDoorEv2
namespace Go.Proofs.YthndmfgmlbdekaaDoor.Ev
open Go Go.RowKit
set_option linter.unusedSimpArgs false
set_option linter.unusedVariables false
set_option linter.constructorNameAsVariable false

/-! ### Finite maps -/
section
variable {α : Type}
theorem beq_iff {a b : Nat} : Nat.beq a b = true ↔ a = b := by simp
theorem beq_ff {a b : Nat} : Nat.beq a b = false ↔ a ≠ b := by rw [← Bool.not_eq_true, beq_iff]
theorem cond_ite {β : Type} (b : Bool) (x y : β) : cond b x y = if b = true then x else y := by cases b <;> rfl
theorem T.get_e (k : Nat) : (T.e : T α).get k = none := by cases k <;> rfl
theorem T.get_n (o : Option α) (l r : T α) (k : Nat) : (T.n o l r).get k = if k = 0 then o else if k % 2 = 1 then l.get ((k - 1) / 2) else r.get ((k - 1) / 2) := by
  simp only [T.get, cond_ite, beq_iff]
theorem T.get_set : ∀ (f : Nat) (t : T α) (k : Nat) (v : Option α) (j : Nat), k < 2 ^ f - 1 → (T.set f t k v).get j = if j = k then v else t.get j := by
  intro f
  induction f with
  | zero => intro t k v j h; simp at h
  | succ f ih =>
    intro t k v j h
    have h2 : 2 ^ (f + 1) = 2 * 2 ^ f := by rw [Nat.pow_succ]; omega
    rcases Nat.eq_zero_or_pos k with hk | hk
    · subst hk
      cases t with
      | e => simp only [T.set, cond_ite, beq_iff, if_true, T.get_n, T.get_e, ite_self]
      | n o l r => simp only [T.set, cond_ite, beq_iff, if_true, T.get_n]; split <;> simp_all
    · have hb : (k - 1) / 2 < 2 ^ f - 1 := by omega
      have hk0 : k ≠ 0 := by omega
      by_cases h1 : k % 2 = 1
      · cases t with
        | e =>
          simp only [T.set, cond_ite, beq_iff, if_neg hk0, if_pos h1, T.get_n, ih _ _ _ _ hb, T.get_e, ite_self]
          by_cases hj0 : j = 0
          · rw [if_pos hj0, if_neg (by omega)]
          · rw [if_neg hj0]
            by_cases hj1 : j % 2 = 1
            · rw [if_pos hj1]
              by_cases e : j = k
              · subst e; simp
              · rw [if_neg (by omega), if_neg e]
            · rw [if_neg hj1, if_neg (by omega)]
        | n o l r =>
          simp only [T.set, cond_ite, beq_iff, if_neg hk0, if_pos h1, T.get_n, ih _ _ _ _ hb]
          by_cases hj0 : j = 0
          · rw [if_pos hj0, if_neg (by omega), if_pos hj0]
          · rw [if_neg hj0]
            by_cases hj1 : j % 2 = 1
            · rw [if_pos hj1, if_neg hj0, if_pos hj1]
              by_cases e : j = k
              · subst e; simp
              · rw [if_neg (by omega), if_neg e]
            · rw [if_neg hj1, if_neg (by omega), if_neg hj0, if_neg hj1]
      · cases t with
        | e =>
          simp only [T.set, cond_ite, beq_iff, if_neg hk0, if_neg h1, T.get_n, ih _ _ _ _ hb, T.get_e, ite_self]
          by_cases hj0 : j = 0
          · rw [if_pos hj0, if_neg (by omega)]
          · rw [if_neg hj0]
            by_cases hj1 : j % 2 = 1
            · rw [if_pos hj1, if_neg (by omega)]
            · rw [if_neg hj1]
              by_cases e : j = k
              · subst e; simp
              · rw [if_neg (by omega), if_neg e]
        | n o l r =>
          simp only [T.set, cond_ite, beq_iff, if_neg hk0, if_neg h1, T.get_n, ih _ _ _ _ hb]
          by_cases hj0 : j = 0
          · rw [if_pos hj0, if_neg (by omega), if_pos hj0]
          · rw [if_neg hj0]
            by_cases hj1 : j % 2 = 1
            · rw [if_pos hj1, if_neg (by omega), if_neg hj0, if_pos hj1]
            · rw [if_neg hj1, if_neg hj0, if_neg hj1]
              by_cases e : j = k
              · subst e; simp
              · rw [if_neg (by omega), if_neg e]
theorem T.get_put {t : T α} {k : Nat} {v : Option α} {j : Nat} (h : k < 4000) : (T.set depth t k v).get j = if j = k then v else t.get j :=
  T.get_set _ _ _ _ _ (by show k < 2 ^ 13 - 1; omega)
theorem T.get_merge (f : α → α → Option α) : ∀ (t s : T α) (k : Nat) (x : α), (T.merge f t s).get k = some x → ∃ a b, t.get k = some a ∧ s.get k = some b ∧ f a b = some x
  | .e, .e, k, x, h => by simp [T.merge, T.get_e] at h
  | .e, .n _ _ _, k, x, h => by simp [T.merge, T.get_e] at h
  | .n _ _ _, .e, k, x, h => by simp [T.merge, T.get_e] at h
  | .n o l r, .n o' l' r', k, x, h => by
    simp only [T.merge, T.get_n] at h ⊢
    by_cases h0 : k = 0
    · simp only [if_pos h0] at h ⊢
      cases o <;> cases o' <;> simp at h ⊢
      exact h
    · simp only [if_neg h0] at h ⊢
      by_cases h1 : k % 2 = 1
      · simp only [if_pos h1] at h ⊢; exact T.get_merge f l l' _ _ h
      · simp only [if_neg h1] at h ⊢; exact T.get_merge f r r' _ _ h
end

/-! ### Trees -/
theorem get_bind {α β : Type} (f : α → Tree β) : ∀ (t : Tree α) (y : β), (t.bind f).get = some y → ∃ x, t.get = some x ∧ (f x).get = some y
  | .leaf x, y, h => ⟨x, rfl, h⟩
  | .node true l r, y, h => get_bind f l y h
  | .node false l r, y, h => get_bind f r y h
  | .bad, y, h => by cases h
theorem bind_get {α β : Type} {f : α → Tree β} : ∀ {t : Tree α} {x : α} {y : β}, t.get = some x → (f x).get = some y → (t.bind f).get = some y
  | .leaf x, _, y, h, h' => by cases h; exact h'
  | .node true l r, x, y, h, h' => bind_get (t := l) h h'
  | .node false l r, x, y, h, h' => bind_get (t := r) h h'
  | .bad, _, _, h, _ => by cases h
theorem get_need {α : Type} {t : B} {x : Tree α} {y : α} (h : (need t x).get = some y) : t.b = true ∧ x.get = some y := by
  cases t with
  | lit b => cases b <;> simp [need, Tree.get, B.b] at h ⊢; exact h
  | sym b => cases b <;> simp [need, Tree.get, B.b] at h ⊢; exact h
theorem get_ofO {α : Type} {x : Option α} {y : α} (h : (ofO x).get = some y) : x = some y := by
  cases x <;> simp [ofO, Tree.get] at h ⊢; exact h

/-! ### Small numbers -/
theorem I.map_n (f : Int → Int) (x : I) : (x.map f).n = f x.n := by cases x <;> rfl
theorem I.map2_n (f : Int → Int → Int) (x y : I) : (I.map2 f x y).n = f x.n y.n := by cases x <;> cases y <;> rfl
theorem I.cmp_b (f : Int → Int → Bool) (x y : I) : (I.cmp f x y).b = f x.n y.n := by cases x <;> cases y <;> rfl
theorem N.map_n (f : Nat → Nat) (x : N) : (x.map f).n = f x.n := by cases x <;> rfl
theorem N.map2_n (f : Nat → Nat → Nat) (x y : N) : (N.map2 f x y).n = f x.n y.n := by cases x <;> cases y <;> rfl
theorem I.toN_n (x : I) : x.toN.n = x.n.toNat := by cases x <;> rfl
theorem N.toI_n (x : N) : x.toI.n = (x.n : Int) := by cases x <;> rfl
theorem B.not_b (x : B) : x.not.b = !x.b := by cases x <;> rfl
theorem B.eq_b (x y : B) : (B.eq x y).b = (x.b == y.b) := by cases x <;> cases y <;> rfl
theorem flip_b (p : Bool) (x : B) : (flip p x).b = (x.b == p) := by cases p <;> simp [flip, B.not_b]
theorem ltB_b (a b : N) : (ltB a b).b = decide (a.n < b.n) := by
  cases a <;> cases b <;> first | rfl | (show Nat.blt _ _ = decide (_ < _); rw [Bool.eq_iff_iff]; simp [Nat.blt, Nat.ble_eq, Nat.lt_iff_add_one_le, N.n])
theorem inB_b (i : I) (n : N) : (inB i n).b = decide (0 ≤ i.n ∧ i.n < n.n) := by cases i <;> cases n <;> rfl

/-! ### More blocks -/
theorem pre_get {ρ ρ' : List Nat} (h : ρ <+: ρ') {v g : Nat} (hv : ρ[v]? = some g) : ρ'[v]? = some g := by
  obtain ⟨l, rfl⟩ := h
  rw [List.getElem?_append_left (by exact (List.getElem?_eq_some_iff.1 hv).1)]; exact hv
theorem L.den_pre {ρ ρ' : List Nat} (h : ρ <+: ρ') : ∀ {x : L} {y : Value}, x.den ρ = some y → x.den ρ' = some y
  | .int _ _, _, e => e
  | .bool _, _, e => e
  | .ptr v o, y, e => by
    simp only [L.den] at e ⊢
    split at e
    · rename_i b hb; rw [pre_get h hb]; exact e
    · cases e
  | .slc v o l c, y, e => by
    simp only [L.den] at e ⊢
    split at e
    · rename_i b hb; rw [pre_get h hb]; exact e
    · cases e
  | .raw _, _, e => e
  | .str _, _, e => e
  | .ifc t x, y, e => by
    simp only [L.den] at e ⊢
    split at e
    · rename_i z hz; rw [L.den_pre h hz]; exact e
    · cases e
theorem denL_pre {ρ ρ' : List Nat} (h : ρ <+: ρ') : ∀ {xs : List L} {ys : List Value}, denL ρ xs = some ys → denL ρ' xs = some ys
  | [], _, e => e
  | x :: xs, ys, e => by
    simp only [denL] at e ⊢
    split at e
    · rename_i y zs hy hz; rw [L.den_pre h hy, denL_pre h hz]; exact e
    · cases e
theorem V0.den_pre {ρ ρ' : List Nat} (h : ρ <+: ρ') : ∀ {x : V0} {y : Value}, x.den ρ = some y → x.den ρ' = some y
  | .l x, _, e => L.den_pre (x := x) h e
  | .agg xs, y, e => by
    simp only [V0.den] at e ⊢
    split at e
    · rename_i z hz; rw [denL_pre h hz]; exact e
    · cases e
theorem denV0_pre {ρ ρ' : List Nat} (h : ρ <+: ρ') : ∀ {xs : List V0} {ys : List Value}, denV0 ρ xs = some ys → denV0 ρ' xs = some ys
  | [], _, e => e
  | x :: xs, ys, e => by
    simp only [denV0] at e ⊢
    split at e
    · rename_i y zs hy hz; rw [V0.den_pre h hy, denV0_pre h hz]; exact e
    · cases e
theorem V.den_pre {ρ ρ' : List Nat} (h : ρ <+: ρ') : ∀ {x : V} {y : Value}, x.den ρ = some y → x.den ρ' = some y
  | .v x, _, e => V0.den_pre (x := x) h e
  | .tup xs, y, e => by
    simp only [V.den] at e ⊢
    split at e
    · rename_i z hz; rw [denV0_pre h hz]; exact e
    · cases e
theorem denVs_pre {ρ ρ' : List Nat} (h : ρ <+: ρ') : ∀ {xs : List V} {ys : List Value}, denVs ρ xs = some ys → denVs ρ' xs = some ys
  | [], _, e => e
  | x :: xs, ys, e => by
    simp only [denVs] at e ⊢
    split at e
    · rename_i y zs hy hz; rw [V.den_pre h hy, denVs_pre h hz]; exact e
    · cases e
theorem denL_len {ρ : List Nat} : ∀ {xs : List L} {ys : List Value}, denL ρ xs = some ys → ys.length = xs.length
  | [], _, e => by cases e; rfl
  | x :: xs, ys, e => by
    simp only [denL] at e
    split at e
    · rename_i y zs hy hz; cases e; simp [denL_len hz]
    · cases e
theorem denL_at {ρ : List Nat} : ∀ {xs : List L} {ys : List Value}, denL ρ xs = some ys → ∀ {i : Nat} {x : L}, xs[i]? = some x → ∃ y, x.den ρ = some y ∧ ys[i]? = some y
  | [], _, e, i, x, h => by simp at h
  | x :: xs, ys, e, i, z, h => by
    simp only [denL] at e
    split at e
    · rename_i y zs hy hz
      cases e
      cases i with
      | zero => simp at h; subst h; exact ⟨y, hy, rfl⟩
      | succ i => simpa using denL_at hz (i := i) (by simpa using h)
    · cases e
theorem denV0_at {ρ : List Nat} : ∀ {xs : List V0} {ys : List Value}, denV0 ρ xs = some ys → ∀ {i : Nat} {x : V0}, xs[i]? = some x → ∃ y, x.den ρ = some y ∧ ys[i]? = some y
  | [], _, e, i, x, h => by simp at h
  | x :: xs, ys, e, i, z, h => by
    simp only [denV0] at e
    split at e
    · rename_i y zs hy hz
      cases e
      cases i with
      | zero => simp at h; subst h; exact ⟨y, hy, rfl⟩
      | succ i => simpa using denV0_at hz (i := i) (by simpa using h)
    · cases e
theorem denL_append {ρ : List Nat} : ∀ {xs zs : List L} {ys ws : List Value}, denL ρ xs = some ys → denL ρ zs = some ws → denL ρ (xs ++ zs) = some (ys ++ ws)
  | [], _, _, _, e, h => by cases e; exact h
  | x :: xs, zs, ys, ws, e, h => by
    simp only [denL] at e
    split at e
    · rename_i y us hy hz
      cases e
      simp only [List.cons_append, denL, hy, denL_append hz h]
    · cases e
theorem denL_drop {ρ : List Nat} : ∀ {xs : List L} {ys : List Value} (n : Nat), denL ρ xs = some ys → denL ρ (xs.drop n) = some (ys.drop n)
  | xs, ys, 0, e => e
  | [], _, n + 1, e => by cases e; rfl
  | x :: xs, ys, n + 1, e => by
    simp only [denL] at e
    split at e
    · rename_i y us hy hz; cases e; exact denL_drop n hz
    · cases e
theorem denL_take {ρ : List Nat} : ∀ {xs : List L} {ys : List Value} (n : Nat), denL ρ xs = some ys → denL ρ (xs.take n) = some (ys.take n)
  | xs, ys, 0, e => by simp [denL]
  | [], _, n + 1, e => by cases e; rfl
  | x :: xs, ys, n + 1, e => by
    simp only [denL] at e
    split at e
    · rename_i y us hy hz; cases e; simp only [List.take_succ_cons, denL, hy, denL_take n hz]
    · cases e
theorem denVs_len {ρ : List Nat} : ∀ {xs : List V} {ys : List Value}, denVs ρ xs = some ys → ys.length = xs.length
  | [], _, e => by cases e; rfl
  | x :: xs, ys, e => by
    simp only [denVs] at e
    split at e
    · rename_i y zs hy hz; cases e; simp [denVs_len hz]
    · cases e
theorem ofL_den (ρ : List Nat) (v : Value) : (ofL v).den ρ = some v := by cases v <;> rfl
theorem ofLs_den (ρ : List Nat) : ∀ vs : List Value, denL ρ (vs.map ofL) = some vs
  | [] => rfl
  | v :: vs => by simp only [List.map_cons, denL, ofL_den, ofLs_den ρ vs]
theorem ofV_den (ρ : List Nat) (v : Value) : (ofV v).den ρ = some v := by
  cases v with
  | agg cs => simp [ofV, V.den, V0.den, ofLs_den]
  | tuple cs =>
    simp only [ofV]
    split
    · rename_i h; simp at h; subst h; rfl
    · rfl
  | _ => rfl

/-! ### Merged values -/
theorem mI_n (t : Bool) (x y : I) : (mI t x y).n = bif t then x.n else y.n := by
  cases x <;> cases y <;> simp only [mI, I.n]
  rename_i a b
  cases h : a == b
  · simp [I.n]
  · have := eq_of_beq h; subst this; cases t <;> rfl
theorem mB_b (t : Bool) (x y : B) : (mB t x y).b = bif t then x.b else y.b := by
  cases x <;> cases y <;> simp only [mB, B.b]
  rename_i a b
  cases h : a == b
  · simp [B.b]
  · have := eq_of_beq h; subst this; cases t <;> rfl
theorem mN_n (t : Bool) (x y : N) : (mN t x y).n = bif t then x.n else y.n := by
  cases x <;> cases y <;> simp only [mN, N.n]
  rename_i a b
  cases h : Nat.beq a b
  · simp [N.n]
  · have := beq_iff.1 h; subst this; cases t <;> rfl
theorem sameRaw_eq {x y : Value} (h : sameRaw x y = true) : x = y := by
  unfold sameRaw at h
  split at h
  · rfl
  · rfl
  · rfl
  · simp at h; obtain ⟨rfl, rfl⟩ := h; rfl
  · rfl
  · simp at h; obtain ⟨rfl, ⟨rfl, rfl⟩, rfl, rfl⟩ := h; rfl
  · cases h
theorem mL_den {t : Bool} {ρ : List Nat} : ∀ {x y z : L}, mL t x y = some z → z.den ρ = bif t then x.den ρ else y.den ρ := by
  intro x
  induction x with
  | int k a =>
    intro y z h
    cases y <;> simp only [mL] at h <;> try cases h
    rename_i k' b
    by_cases hk : k = k'
    · subst hk; simp at h; subst h; simp only [L.den, mI_n]; cases t <;> rfl
    · simp [hk] at h
  | bool a =>
    intro y z h
    cases y <;> simp only [mL] at h <;> cases h
    simp only [L.den, mB_b]; cases t <;> rfl
  | ptr v o =>
    intro y z h
    cases y <;> simp only [mL] at h <;> try cases h
    rename_i v' o'
    cases hv : Nat.beq v v' <;> rw [hv] at h <;> simp at h
    have := beq_iff.1 hv; subst this; subst h
    simp only [L.den, mN_n]; cases t <;> rfl
  | slc v o l c =>
    intro y z h
    cases y <;> simp only [mL] at h <;> try cases h
    rename_i v' o' l' c'
    cases hv : Nat.beq v v' <;> rw [hv] at h <;> simp at h
    have := beq_iff.1 hv; subst this; subst h
    simp only [L.den, mN_n]; cases t <;> rfl
  | raw a =>
    intro y z h
    cases y <;> simp only [mL] at h <;> try cases h
    rename_i b
    cases hs : sameRaw a b <;> rw [hs] at h <;> simp at h
    have := sameRaw_eq hs; subst this; subst h
    cases t <;> rfl
  | str a =>
    intro y z h
    cases y <;> simp only [mL] at h <;> cases h
    cases t <;> rfl
  | ifc a x ih =>
    intro y z h
    cases y <;> simp only [mL] at h <;> try cases h
    rename_i a' x'
    cases hv : Nat.beq a a' <;> rw [hv] at h <;> simp at h
    have := beq_iff.1 hv; subst this
    cases hm : mL t x x' <;> rw [hm] at h <;> simp at h
    subst h
    simp only [L.den, ih hm]; cases t <;> rfl
theorem mLs_den {t : Bool} {ρ : List Nat} : ∀ {xs ys zs : List L}, mLs t xs ys = some zs → denL ρ zs = bif t then denL ρ xs else denL ρ ys
  | [], [], _, h => by cases h; cases t <;> rfl
  | [], _ :: _, _, h => by cases h
  | _ :: _, [], _, h => by cases h
  | x :: xs, y :: ys, zs, h => by
    simp only [mLs] at h
    split at h
    · rename_i z us hz hu
      cases h
      simp only [denL, mL_den (ρ := ρ) hz, mLs_den (ρ := ρ) hu]; cases t <;> rfl
    · cases h
theorem mV0_den {t : Bool} {ρ : List Nat} {x y z : V0} (h : mV0 t x y = some z) : z.den ρ = bif t then x.den ρ else y.den ρ := by
  cases x <;> cases y <;> simp only [mV0] at h <;> try cases h
  · split at h
    · rename_i z hz; cases h; simp only [V0.den, mL_den (ρ := ρ) hz]
    · cases h
  · split at h
    · rename_i z hz; cases h; simp only [V0.den, mLs_den (ρ := ρ) hz]; cases t <;> rfl
    · cases h
theorem mV0s_den {t : Bool} {ρ : List Nat} : ∀ {xs ys zs : List V0}, mV0s t xs ys = some zs → denV0 ρ zs = bif t then denV0 ρ xs else denV0 ρ ys
  | [], [], _, h => by cases h; cases t <;> rfl
  | [], _ :: _, _, h => by cases h
  | _ :: _, [], _, h => by cases h
  | x :: xs, y :: ys, zs, h => by
    simp only [mV0s] at h
    split at h
    · rename_i z us hz hu
      cases h
      simp only [denV0, mV0_den (ρ := ρ) hz, mV0s_den (ρ := ρ) hu]; cases t <;> rfl
    · cases h
theorem mV_den {t : Bool} {ρ : List Nat} {x y z : V} (h : mV t x y = some z) : z.den ρ = bif t then x.den ρ else y.den ρ := by
  cases x <;> cases y <;> simp only [mV] at h <;> try cases h
  · split at h
    · rename_i z hz; cases h; simp only [V.den, mV0_den (ρ := ρ) hz]
    · cases h
  · split at h
    · rename_i z hz; cases h; simp only [V.den, mV0s_den (ρ := ρ) hz]; cases t <;> rfl
    · cases h
end Go.Proofs.YthndmfgmlbdekaaDoor.Ev
