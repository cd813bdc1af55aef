/- The evaluator is sound, ninth part: regions that draw their order: quiet operations in any order, then the others one behind the other. -/
import Derived.Test.YthndmfgmlbdekaaDoorEv10
import Derived.StillTail
import Derived.Deep.Quiet
namespace Go.Proofs.YthndmfgmlbdekaaDoor.Ev
open Go Go.RowKit
set_option linter.unusedVariables false
set_option linter.unusedSimpArgs false
set_option linter.constructorNameAsVariable false
/-! ### Any order of the quiet ones, then the rest -/
section
variable {P : Program} {ops : Array Oper} {md : Region.Mode} {K : World → Prop}
/-- Whatever comes up is one of the first n, and quiet; when they are through, L. -/
def anyHead (P : Program) (md : Region.Mode) (ops : Array Oper) (K : World → Prop) (n : Nat) (L : Array Bool → Act → Prop) : Nat → Array Bool → Act → Prop
  | 0, listed, a => L listed a
  | f + 1, listed, a => Region.ready md ops listed ≠ [] ∧ ∀ i ∈ Region.ready md ops listed, i < n ∧ qOp P ops K i (anyHead P md ops K n L f (listed.setIfInBounds i true)) a
theorem any_of_head {n g : Nat} {L : Array Bool → Act → Prop} {Q : Exit → Act → World → Prop} (hL : ∀ listed a w, K w → L listed a → wpAny P md ops Q g listed a w) :
    ∀ (f : Nat) (listed : Array Bool) (a : Act) (w : World), K w → anyHead P md ops K n L f listed a → wpAny P md ops Q (f + g) listed a w := by
  intro f
  induction f with
  | zero => intro listed a w hw h; rw [Nat.zero_add]; exact hL _ _ _ hw h
  | succ f ih =>
    intro listed a w hw h
    rw [Nat.succ_add]
    exact ⟨fun e => absurd e h.1, fun i hi => wpOp_of_qOp hw (fun a' w' hw' h' => ih _ a' w' hw' h') (h.2 i hi).2⟩
/-- One that is ready, apart from all that need not wait for it, may be taken first. -/
theorem head_first {n i : Nat} {oi : Oper} {v : Value} {L : Array Bool → Act → Prop} (hi : ops[i]? = some oi) (hsel : ∀ (j : Nat) (o : Oper) cs b, ops[j]? = some o → o.op ≠ .select cs b)
    (hs : Region.sinkB md ops n = true) (hc : Region.chainB md ops n = true) (hn : n < ops.size) (hin : i < n) (hdone : ∀ listed a, L listed a → ∀ j ∈ Region.ready md ops listed, n ≤ j) :
    ∀ (f : Nat) (listed : Array Bool) (a : Act), HeadInv md ops n listed →
      (∀ j oj, ops[j]? = some oj → j ≠ i → listed.getD j true = false → (∀ e ∈ oj.after, Region.binds md e = true → e.on ≠ i) → oi.apart ops oj = true) →
      i ∈ Region.ready md ops listed → YieldsIn P ops K oi v a →
      anyHead P md ops K n L f (listed.setIfInBounds i true) (a.put oi.dst v) → anyHead P md ops K n L (f + 1) listed a := by
  intro f
  induction f with
  | zero =>
    intro listed a inv _ hr hy H
    have hun := (mem_ready.1 hr).1
    refine ⟨fun e => (by rw [e] at hr; cases hr), fun j hj => ?_⟩
    have hjn : j < n := by
      rcases Nat.lt_or_ge j n with h | h
      · exact h
      · exact absurd hj (tail_waits hs hc hn inv _ i rfl hin hun j h)
    refine ⟨hjn, ?_⟩
    by_cases hji : j = i
    · subst hji; exact hy.qOp hi H
    · exact absurd hjn (Nat.not_lt.2 (hdone _ _ H j (ready_mono hj hji)))
  | succ f ih =>
    intro listed a inv hfree hr hy H
    have hun := (mem_ready.1 hr).1
    refine ⟨fun e => (by rw [e] at hr; cases hr), fun j hj => ?_⟩
    have hjn : j < n := by
      rcases Nat.lt_or_ge j n with h | h
      · exact h
      · exact absurd hj (tail_waits hs hc hn inv _ i rfl hin hun j h)
    refine ⟨hjn, ?_⟩
    by_cases hji : j = i
    · subst hji; exact hy.qOp hi H
    · obtain ⟨hjun, oj, hoj, hall⟩ := mem_ready.1 hj
      have hno : ∀ e ∈ oj.after, Region.binds md e = true → e.on ≠ i := fun e he hb heq => by
        have h1 := hall e he hb
        rw [heq, getD_both hun] at h1
        cases h1
      have h2 := qOp_put hoj (hfree j oj hoj hji hjun hno) (fun cs b => hsel i oi cs b hi) (fun cs b => hsel j oj cs b hoj) hy (H.2 j (ready_mono hj hji)).2
      refine qOp_mono (fun a' h3 => ih (listed.setIfInBounds j true) a' (inv.set hj hjn) (fun k ok hk hki hun' hno' => hfree k ok hk hki ?_ hno') (ready_mono hr (Ne.symm hji)) h3.1 ?_) h2
      · by_cases hjk : j = k
        · subst hjk; exact hjun
        · rw [getD_set_ne true hjk] at hun'; exact hun'
      · rw [Array.setIfInBounds_comm _ _ hji]; exact h3.2
theorem head_lex {n g : Nat} {Lq : Act → Prop} (hsel : Region.noSelect ops = true) (hs : Region.sinkB md ops n = true) (hc : Region.chainB md ops n = true) (hn : n < ops.size) :
    ∀ (l : List Oper) (k : Nat) (listed : Array Bool) (a : Act), (∀ j, j < l.length → l[j]? = ops[k + j]?) → k + l.length = n → HeadInv md ops n listed →
    Region.lexHead md ops g l.length k listed = true → wpQuiet P ops K Lq l a → anyHead P md ops K n (fun listed' a' => Region.seqB md ops g n listed' = true ∧ Lq a') l.length listed a := by
  intro l
  induction l with
  | nil =>
    intro k listed a _ hk _ hB h
    simp only [List.length_nil, Nat.add_zero] at hk
    subst hk
    exact ⟨hB, h⟩
  | cons o l ih =>
    intro k listed a hl hk inv hB h
    have h0 : ops[k]? = some o := by simpa using (hl 0 (by simp)).symm
    simp only [List.length_cons, Region.lexHead, Bool.and_eq_true] at hB
    obtain ⟨⟨hr, hf⟩, hB'⟩ := hB
    simp only [List.length_cons] at hk
    have hr' : k ∈ Region.ready md ops listed := by simpa using hr
    have hst : qOp P ops K k (wpQuiet P ops K Lq l) a := by unfold qOp; simp only [h0]; exact h
    obtain ⟨v, hy, hK⟩ := yieldsIn_of_qOp h0 hst
    exact head_first h0 (Region.noSelect_spec hsel) hs hc hn (by omega) (fun listed' a' hL => seqB_ready hL.1) l.length listed a inv (Region.free_spec h0 hf) hr' hy
      (ih (k + 1) _ _ (fun j hj => by have := hl (j + 1) (by simp; omega); simpa [Nat.add_assoc, Nat.add_comm 1 j] using this) (by omega) (inv.set hr' (by omega)) hB' hK)
theorem region_head_tail {id : Nat} {Q : Exit → Act → World → Prop} {a : Act} {w : World} {l : List Oper} (n : Nat) (hm : P.follows .mixedOrders = true) (hB : Region.lexTailB .any l.toArray n = true)
    (hK : K { w with drawn := w.drawn + 1 }) (h : wpQuiet P l.toArray K (fun a' => ∀ w', K w' → wpList P l.toArray Q (l.drop n) a' w') (l.take n) a) : (Code.region id l.toArray true).wp P Q a w := by
  simp only [Region.lexTailB, Bool.and_eq_true, decide_eq_true_eq] at hB
  obtain ⟨⟨⟨⟨hsel, hn⟩, hs⟩, hc⟩, hlex⟩ := hB
  have hn' : n < l.length := by simpa using hn
  have htl : (l.take n).length = n := by simp; omega
  have hdl : (l.drop n).length = l.toArray.size - n := by simp
  have inv0 : HeadInv .any l.toArray n (Array.replicate l.toArray.size false) :=
    ⟨by simp, fun j oj _ hl => (by rw [getD_replicate_false] at hl; cases hl), fun t _ ht => getD_in (by simpa using ht) (getD_replicate_false _ _)⟩
  have H := head_lex (md := .any) (g := l.toArray.size - n) hsel hs hc hn (l.take n) 0 _ a (fun j hj => by
    have hj' : j < n := by rw [htl] at hj; exact hj
    simp [hj']) (by simpa using htl) inv0 (by rw [htl]; exact hlex) h
  refine wp_region_any hm ?_
  have := any_of_head (Q := Q) (g := l.toArray.size - n) (fun listed a' w' hw' hL => by
    have := wpAny_of_seq (md := .any) (Q' := Q) (l.drop n) n listed a' w' (fun j => by simp [List.getElem?_drop]) (by rw [hdl]; exact hL.1) (hL.2 w' hw')
    rwa [hdl] at this) _ _ _ _ hK H
  rw [htl, show n + (l.toArray.size - n) = l.toArray.size by omega] at this
  exact this
end

/-! ### The evaluator's list of operations, its head quiet -/
theorem Le.trans {a b c : St} (h : Le a b) (k : Le b c) : Le a c :=
  ⟨h.next.trans k.next, fun d x hx => by
    obtain ⟨y, h1, h2⟩ := h.env d x hx
    obtain ⟨z, k1, k2⟩ := k.env d y h1
    exact ⟨z, k1, fun ρ => (h2 ρ).trans (k2 ρ)⟩, fun v b hb => by
    obtain ⟨y, h1, h2, h3⟩ := h.heap v b hb
    obtain ⟨z, k1, k2, k3⟩ := k.heap v y h1
    exact ⟨z, k1, h2.trans k2, fun ρ => (h3 ρ).trans (k3 ρ)⟩⟩
section
variable {C : Ctx} {w0 : World} {W : List Nat} {n : Nat} {ρ : List Nat}
theorem ESim.put {s : St} {a : Act} {dst : Option Tmp} {v : V} {x : Value} (S : ESim ρ s.env a) (hz : a.tmps.size = n) (hx : v.den ρ = some x) (hd : okDst n dst = true) (hn : n ≤ 4000) : ESim ρ (s.put dst v).env (a.put dst x) ∧ (a.put dst x).tmps.size = n := by
  cases dst with
  | none => exact ⟨S, hz⟩
  | some d =>
    have hdn : d < n := blt_iff.1 hd
    have hd4 : d < 4000 := Nat.lt_of_lt_of_le hdn hn
    refine ⟨⟨fun j y hy => ?_, S.defs⟩, by simp [Act.put, hz]⟩
    simp only [St.put] at hy
    rw [T.get_put hd4] at hy
    simp only [Act.put]
    split at hy
    · rename_i e
      cases hy
      subst e
      exact ⟨x, hx, by rw [Array.getElem?_setIfInBounds_self]; simp [hz, hdn]⟩
    · rename_i hne
      obtain ⟨z, h1, h2⟩ := S.env j y hy
      exact ⟨z, h1, by rw [Array.getElem?_setIfInBounds_ne (Ne.symm hne)]; exact h2⟩
theorem ESim.reput {s : St} {a : Act} {d : Tmp} {v : V} {x : Value} (S : ESim ρ s.env a) (hx : v.den ρ = some x) (hd : d < 4000) (ha : a.tmps[d]? = some x) : ESim ρ (s.put (some d) v).env a := by
  refine ⟨fun j y hy => ?_, S.defs⟩
  simp only [St.put] at hy
  rw [T.get_put hd] at hy
  split at hy
  · rename_i e
    cases hy
    subst e
    exact ⟨x, hx, ha⟩
  · exact S.env j y hy
theorem put_heap (s : St) (d : Option Tmp) (v : V) : (s.put d v).heap = s.heap ∧ (s.put d v).next = s.next := by cases d <;> exact ⟨rfl, rfl⟩
variable (ok : Ok C) (hs : SpecOk C) (hb : BodyOk C) (hB : Base C w0 W)
include ok hs hb hB
theorem evOpsQ_sound (hn : n ≤ 4000) {ops : Array Oper} {h : T Blk} {w1 : World} (H1 : HSim C.gs w0 W ρ h w1) {nx : Nat} (hnx : ρ.length = nx) {K : Act → Prop} {tl : List Oper} : ∀ {l : List Oper} {s s' : St} {a : Act}, (∀ o ∈ l, isQ o.op = true) → ESim ρ s.env a → a.tmps.size = n → s.heap = h → s.next = nx →
    (evOps C n ops.toList (l ++ tl) s).get = some s' →
    (∀ x a' s2, x.heap = h → x.next = nx → ESim ρ x.env a' → a'.tmps.size = n → (evOps C n ops.toList tl x).get = some s2 → Le s' s2 → K a') → wpQuiet C.P ops (HSim C.gs w0 W ρ h) K l a
  | [], s, s', a, hq, S, hz, hh, hx, hev, hK => hK s a s' hh hx S hz hev (Le.refl _)
  | o :: rest, s, s', a, hq, S, hz, hh, hx, hev, hK => by
    simp only [List.cons_append, evOps] at hev
    cases hd : okDst n o.dst with
    | false => rw [hd] at hev; cases hev
    | true =>
      rw [hd] at hev
      simp only [cond_true] at hev
      have hqo := hq o (by simp)
      have hqr : ∀ o ∈ rest, isQ o.op = true := fun o ho => hq o (by simp [ho])
      have run1 : ∀ {s1 s2 : St}, ESim ρ s1.env a → s1.heap = h → s1.next = nx → ((evOp C s1 o.op).bind fun p => evOps C n ops.toList (rest ++ tl) (p.2.put o.dst p.1)).get = some s2 → Le s' s2 →
          o.quiet C.P a (HSim C.gs w0 W ρ h) (wpQuiet C.P ops (HSim C.gs w0 W ρ h) K rest) := fun {s1 s2} S1 e1 e2 hv hle => by
        obtain ⟨⟨v, s3⟩, h1, h2⟩ := get_bind _ _ _ hv
        obtain ⟨rfl, x, hx', hrun⟩ := evOpQ_sound ok hs hb hB H1.gs S1 e1 (hnx.trans e2.symm) H1 hqo h1
        obtain ⟨S2, z2⟩ := S1.put hz hx' hd hn
        obtain ⟨p1, p2⟩ := put_heap s3 o.dst v
        exact ⟨x, hrun, evOpsQ_sound hn H1 hnx hqr S2 z2 (p1.trans e1) (p2.trans e2) h2 fun y a' s4 f1 f2 f3 f4 f5 f6 => hK y a' s4 f1 f2 f3 f4 f5 (hle.trans f6)⟩
      have skip1 : ∀ {s1 s2 : St}, ESim ρ s1.env a → s1.heap = h → s1.next = nx → (evOps C n ops.toList (rest ++ tl) (s1.put o.dst (.tup []))).get = some s2 → Le s' s2 →
          wpQuiet C.P ops (HSim C.gs w0 W ρ h) K rest (a.put o.dst undef) := fun {s1 s2} S1 e1 e2 hv hle => by
        obtain ⟨S2, z2⟩ := S1.put (v := .tup []) (x := undef) hz rfl hd hn
        obtain ⟨p1, p2⟩ := put_heap s1 o.dst (.tup [])
        exact evOpsQ_sound hn H1 hnx hqr S2 z2 (p1.trans e1) (p2.trans e2) hv fun y a' s4 f1 f2 f3 f4 f5 f6 => hK y a' s4 f1 f2 f3 f4 f5 (hle.trans f6)
      simp only [wpQuiet]
      split at hev
      · rename_i hgu
        have hw : Region.wanted o (yielded ops a.tmps) = true := by unfold Region.wanted; rw [hgu]
        rw [if_pos hw]
        exact run1 S hh hx hev (Le.refl _)
      · rename_i j want hgu
        split at hev
        · rename_i d hdst
          have hwant : ∀ x, a.tmps[d]? = some x → Region.wanted o (yielded ops a.tmps) = (boolOf x == some want) := fun x hx => by
            unfold Region.wanted
            rw [hgu]
            simp only [yielded_of hdst hx]
          split at hev
          · rename_i st b hbv
            obtain ⟨x, hx', hax⟩ := S.env _ _ hbv
            simp only [V.den, V0.den, L.den, Option.some.injEq] at hx'
            subst hx'
            have hw := hwant _ hax
            simp only [boolOf, B.b] at hw
            cases hbw : b == want with
            | true =>
              rw [hbw] at hev
              have : b = want := by simpa using hbw
              subst this
              rw [if_pos (by rw [hw]; simp)]
              exact run1 S hh hx hev (Le.refl _)
            | false =>
              rw [hbw] at hev
              have : b ≠ want := by simpa using hbw
              rw [if_neg (by rw [hw]; simp [this])]
              exact skip1 S hh hx hev (Le.refl _)
          · rename_i st b hbv
            obtain ⟨x, hx', hax⟩ := S.env _ _ hbv
            simp only [V.den, V0.den, L.den, Option.some.injEq] at hx'
            subst hx'
            have hw := hwant _ hax
            simp only [boolOf, B.b] at hw hax
            cases hdn : Nat.blt d n with
            | false => rw [hdn] at hev; cases hev
            | true =>
              rw [hdn] at hev
              simp only [cond_true] at hev
              have hd4' : d < 4000 := Nat.lt_of_lt_of_le (blt_iff.1 hdn) hn
              have hd4 : ∀ x, some d = some x → x < 4000 := by rintro x ⟨⟩; exact hd4'
              obtain ⟨⟨x, hx2, hle⟩, _⟩ := joinS_sound hev (fun x hx => by
                cases want with
                | true => obtain ⟨p, h1, h2⟩ := get_bind _ _ _ hx; exact (((ExtS.put hd4).trans (evOp_ext h1)).trans (ExtS.put (okDst_lt hn hd))).trans (evOps_ext hn h2)
                | false => exact ((ExtS.put hd4).trans (ExtS.put (okDst_lt hn hd))).trans (evOps_ext hn hx)) (fun x hx => by
                cases want with
                | true => exact ((ExtS.put hd4).trans (ExtS.put (okDst_lt hn hd))).trans (evOps_ext hn hx)
                | false => obtain ⟨p, h1, h2⟩ := get_bind _ _ _ hx; exact (((ExtS.put hd4).trans (evOp_ext h1)).trans (ExtS.put (okDst_lt hn hd))).trans (evOps_ext hn h2))
              cases b with
              | true =>
                have S1 : ESim ρ (s.up.put (some d) (vbool (.lit true))).env a := ESim.reput (s := s.up) S rfl hd4' hax
                simp only [cond_true] at hx2
                cases want with
                | true =>
                  rw [if_pos (by rw [hw]; rfl)]
                  exact run1 S1 hh hx hx2 hle
                | false =>
                  rw [if_neg (by rw [hw]; decide)]
                  exact skip1 S1 hh hx hx2 hle
              | false =>
                have S1 : ESim ρ (s.up.put (some d) (vbool (.lit false))).env a := ESim.reput (s := s.up) S rfl hd4' hax
                simp only [cond_false] at hx2
                cases want with
                | true =>
                  rw [if_neg (by rw [hw]; decide)]
                  exact skip1 S1 hh hx hx2 hle
                | false =>
                  rw [if_pos (by rw [hw]; rfl)]
                  exact run1 S1 hh hx hx2 hle
          · rename_i st hbv
            obtain ⟨x, hx', hax⟩ := S.env _ _ hbv
            cases hx'
            have hw := hwant _ hax
            rw [if_neg (by rw [hw]; simp [boolOf])]
            exact skip1 S hh hx hev (Le.refl _)
          · cases hev
        · cases hev
omit ok hs hb hB in
theorem quietHead_spec : ∀ (l : List Oper), (∀ o ∈ l.take (quietHead l), isQ o.op = true)
  | [] => by simp
  | o :: os => by
    simp only [quietHead]
    cases h : isQ o.op with
    | false => simp
    | true =>
      simp only [cond_true, List.take_succ_cons, List.mem_cons]
      rintro x (rfl | hx)
      · exact h
      · exact quietHead_spec os x hx
/-- A region, drawn or not. -/
theorem region_sound (hn : n ≤ 4000) {s s' : St} {a : Act} {w : World} {id : Nat} {ops : Array Oper} {draw : Bool} (S : Sim C w0 W n ρ s a w) (hd : (!draw || drawOk ops) = true) (h : (evOps C n ops.toList ops.toList s).get = some s')
    {Q : Exit → Act → World → Prop} (hQ : ∀ ρ' a' w', ρ <+: ρ' → Sim C w0 W n ρ' s' a' w' → Q .normal a' w') : (Code.region id ops draw).wp C.P Q a w := by
  cases draw with
  | false => exact wp_region_list (evOps_sound ok hs hb hB hn S h hQ)
  | true =>
    simp only [Bool.not_true, Bool.false_or] at hd
    unfold drawOk at hd
    cases hall : ops.toList.all (fun o => isQ o.op) with
    | true =>
      rw [hall] at hd
      simp only [cond_true] at hd
      refine wp_region_quiet (C := HSim C.gs w0 W ρ s.heap) ok.mixed hd S.h.drew ?_
      refine evOpsQ_sound (tl := []) ok hs hb hB hn S.h S.len (fun o ho => List.all_eq_true.1 hall o ho) S.e S.size rfl rfl (by simpa using h) fun x a' s2 e1 e2 e3 e4 e5 e6 w' hw' => ?_
      cases e5
      refine hQ ρ a' w' (List.prefix_refl _) (Sim.le e6 ⟨by rw [e1]; exact hw', e3, S.len.trans e2.symm, e4⟩)
    | false =>
      rw [hall] at hd
      simp only [cond_false] at hd
      have hops : ops = ops.toList.toArray := by simp
      rw [hops] at hd ⊢
      refine region_head_tail (K := HSim C.gs w0 W ρ s.heap) (quietHead ops.toList) ok.mixed (by simpa using hd) S.h.drew ?_
      refine evOpsQ_sound (tl := ops.toList.drop (quietHead ops.toList)) ok hs hb hB hn S.h S.len (quietHead_spec _) S.e S.size rfl rfl (by rw [List.take_append_drop]; simpa using h) fun x a' s2 e1 e2 e3 e4 e5 e6 w' hw' => ?_
      exact evOps_sound ok hs hb hB hn (s := x) ⟨by rw [e1]; exact hw', e3, S.len.trans e2.symm, e4⟩ e5 fun ρ' a'' w'' k1 k2 => hQ ρ' a'' w'' k1 (Sim.le e6 k2)
end
end Go.Proofs.YthndmfgmlbdekaaDoor.Ev
