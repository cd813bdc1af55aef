/- The timer's functions on clocks that may be: valid, one cycle of the sequencer, n of the timer. -/
import Derived.Test.YthndmfgmlbdekaaDoorTm2
import Derived.IntWalk
namespace Go.Proofs.YthndmfgmlbdekaaDoor.Ev
open Go Go.RowKit
set_option linter.unusedVariables false
set_option linter.unusedSimpArgs false
set_option linter.constructorNameAsVariable false
namespace K
/-- The fields are of their kinds. -/
def okC (c : Clk) : Bool := decide ((0 ≤ c.la ∧ c.la < 65536) ∧ (0 ≤ c.co ∧ c.co < 65536) ∧ (0 ≤ c.pr ∧ c.pr < 65536) ∧ (0 ≤ c.ho ∧ c.ho < 256) ∧ (0 ≤ c.ct ∧ c.ct < 256) ∧ (0 ≤ c.pl ∧ c.pl < 65536) ∧ (0 ≤ c.wa ∧ c.wa < 256) ∧ (0 ≤ c.be ∧ c.be < 256))
def dvn (ct : Int) : Int := if ct / 8 % 4 = 0 then 1 else if ct / 8 % 4 = 1 then 8 else if ct / 8 % 4 = 2 then 64 else 256
/-- A clock may be as it is. -/
def valid (c : Clk) : Bool := decide (c.ct < 32 ∧ c.pr < dvn c.ct ∧ c.pl ≤ 37281 ∧ c.wa ≤ 4 ∧ c.be ≤ 63) && ((!c.ov || c.fl) && (!c.inh || !c.fr))
def okv (c : Clk) : Bool := okC c && valid c
/-- The place behind a cycle; the beats when the place is so; the interrupt. -/
def beatAt (fi : Bool) (at_ be : Int) : Int := if at_ = 7457 ∨ at_ = 14913 ∨ at_ = 22371 ∨ at_ = lastB fi then (be + 1) % 64 else be
def frAt (c : Clk) (at_ : Int) : Bool := c.fr || (!c.fi && (!c.inh && decide (29828 ≤ at_ ∧ at_ ≤ 29830)))
def wrapAt (fi : Bool) (at_ : Int) : Int := if at_ < rnd fi then at_ else 0
/-- One cycle of the sequencer. -/
def one (c : Clk) : Clk := { c with
  fr := frAt c (c.pl + 1)
  pl := if c.wa = 1 then 0 else wrapAt c.fi (c.pl + 1)
  wa := if c.wa = 0 then 0 else c.wa - 1
  be := if c.wa = 1 ∧ c.fi = true then (beatAt c.fi (c.pl + 1) c.be + 1) % 64 else beatAt c.fi (c.pl + 1) c.be }
/-- n cycles of the timer. -/
def count (c : Clk) (n : Int) : Clk :=
  if c.ct % 2 = 0 then c else
  if (c.pr + n) / dvn c.ct ≤ c.co then { c with pr := (c.pr + n) % dvn c.ct, co := c.co - (c.pr + n) / dvn c.ct } else
  if c.ct / 4 % 2 = 1 then { c with co := c.la, pr := 0, ct := c.ct - 1, fl := true, ov := c.ov || c.fl } else
  { c with co := c.la - ((c.pr + n) / dvn c.ct - (c.co + 1)) % (c.la + 1), pr := (c.pr + n) % dvn c.ct, fl := true, ov := (c.ov || c.fl) || decide ((c.pr + n) / dvn c.ct - (c.co + 1) ≥ c.la + 1) }
end K
theorem okC_iff {c : Clk} : K.okC c = true ↔ ((0 ≤ c.la ∧ c.la < 65536) ∧ (0 ≤ c.co ∧ c.co < 65536) ∧ (0 ≤ c.pr ∧ c.pr < 65536) ∧ (0 ≤ c.ho ∧ c.ho < 256) ∧ (0 ≤ c.ct ∧ c.ct < 256) ∧ (0 ≤ c.pl ∧ c.pl < 65536) ∧ (0 ≤ c.wa ∧ c.wa < 256) ∧ (0 ≤ c.be ∧ c.be < 256)) := by
  unfold K.okC; rw [decide_eq_true_eq]
theorem valid_iff {c : Clk} : K.valid c = true ↔ (c.ct < 32 ∧ c.pr < K.dvn c.ct ∧ c.pl ≤ 37281 ∧ c.wa ≤ 4 ∧ c.be ≤ 63) ∧ (c.ov = true → c.fl = true) ∧ (c.inh = true → c.fr = false) := by
  unfold K.valid
  simp only [Bool.and_eq_true, decide_eq_true_eq]
  cases c.ov <;> cases c.fl <;> cases c.inh <;> cases c.fr <;> simp
theorem dvn_cases (ct : Int) : K.dvn ct = 1 ∨ K.dvn ct = 8 ∨ K.dvn ct = 64 ∨ K.dvn ct = 256 := by unfold K.dvn; split <;> (try split) <;> (try split) <;> simp
theorem by256 {P : Int → Prop} (h : ∀ n : Nat, n < 256 → P (n : Int)) {x : Int} (h0 : 0 ≤ x) (h1 : x < 256) : P x := by
  obtain ⟨n, rfl⟩ := Int.eq_ofNat_of_zero_le h0
  exact h n (by omega)
theorem and1 {x : Int} (h0 : 0 ≤ x) (h1 : x < 256) : bits .and .u8 x 1 = x % 2 := by256 (P := fun x => bits .and .u8 x 1 = x % 2) (by decide +kernel) h0 h1
theorem and2 {x : Int} (h0 : 0 ≤ x) (h1 : x < 256) : bits .and .u8 x 2 = x / 2 % 2 * 2 := by256 (P := fun x => bits .and .u8 x 2 = x / 2 % 2 * 2) (by decide +kernel) h0 h1
theorem and4 {x : Int} (h0 : 0 ≤ x) (h1 : x < 256) : bits .and .u8 x 4 = x / 4 % 2 * 4 := by256 (P := fun x => bits .and .u8 x 4 = x / 4 % 2 * 4) (by decide +kernel) h0 h1
theorem clear1 {x : Int} (h0 : 0 ≤ x) (h1 : x < 256) : bits .andNot .u8 x 1 = x - x % 2 := by256 (P := fun x => bits .andNot .u8 x 1 = x - x % 2) (by decide +kernel) h0 h1
theorem dv_eq {ct : Int} (h0 : 0 ≤ ct) (h1 : ct < 256) : K.dv ct = K.dvn ct := by256 (P := fun x => K.dv x = K.dvn x) (by decide +kernel) h0 h1
theorem wu8 {x : Int} (h : 0 ≤ x) (h1 : x < 256) : IntKind.u8.wrap x = x := IntWalk.u8_in x ⟨h, by omega⟩
theorem wu16 {x : Int} (h : 0 ≤ x) (h1 : x < 65536) : IntKind.u16.wrap x = x := IntWalk.u16_in x ⟨h, by omega⟩
theorem wu64 {x : Int} (h : 0 ≤ x) (h1 : x < 18446744073709551616) : IntKind.u64.wrap x = x := IntWalk.u64_in x ⟨h, by omega⟩
theorem wi64 {x : Int} (h : -9223372036854775808 ≤ x) (h1 : x < 9223372036854775808) : IntKind.i64.wrap x = x := IntWalk.i64_in x ⟨h, by omega⟩
/-- Guarded contracts. -/
def gdT (t : Bool) (x : Tree V) : Tree V := .node t x .bad
theorem gdT_get {t : Bool} {x : Tree V} {v : V} (h : (gdT t x).get = some v) : t = true ∧ x.get = some v := by
  cases t
  · cases h
  · exact ⟨rfl, h⟩
def onT (G : List V → Tree V) : Spec := fun _ _ args => G (args.map canV)
theorem FnOk.onT {C : Ctx} (g : Good C) (hn : C.gs.Nodup) {f : FuncId} {fn : Func} (hf : C.P.funcs[f]? = some fn) {G : List V → Tree V}
    (H : ∀ cs v, (G cs).get = some v → (∀ ρ ρ', denVs ρ cs = denVs ρ' cs) ∧ (∀ ρ ρ', v.den ρ = v.den ρ') ∧ ∃ k keep v', KeepOk keep ∧ (vals (evFn C k keep fn C.H0 C.gs.length cs)).get = some v' ∧ ∀ ρ, v'.den ρ = v.den ρ) : FnOk C f (onT G) := by
  refine FnOk.intro g.ok g.hs g.hb hn hf fun h n args v hv => ?_
  obtain ⟨h1, h2, k, keep, v', hk, h3, h4⟩ := H _ v hv
  exact ⟨_, k, keep, v', hk, fun ρ vs ha => by rw [h1 C.gs ρ, canVs_den]; exact ha, h3, fun ρ ρ' x hx => by rw [h2 ρ ρ', ← h4]; exact hx⟩
def t1 (t : Clk → Bool) (g : Clk → V) : List V → Tree V
  | [.v (.agg xs)] => match clkL xs with | some c => gdT (t c) (.leaf (g c)) | none => .bad
  | _ => .bad
def t2 (k : IntKind) (t : Clk → Int → Bool) (g : Clk → Int → V) : List V → Tree V
  | [.v (.agg xs), .v (.l y)] => match clkL xs with | some c => (match intOf? k y with | some n => gdT (t c n) (.leaf (g c n)) | none => .bad) | none => .bad
  | _ => .bad
theorem FnOk.t1 {C : Ctx} (gd : Good C) (hn : C.gs.Nodup) {f : FuncId} {fn : Func} (hf : C.P.funcs[f]? = some fn) {t : Clk → Bool} {g : Clk → V} (hv : ∀ c ρ ρ', (g c).den ρ = (g c).den ρ')
    (k : Nat) {keep : Nat → Option (List Nat)} (hk : KeepOk keep) (H : ∀ c, t c = true → ∃ v', (vals (evFn C k keep fn C.H0 C.gs.length [clkV c])).get = some v' ∧ ∀ ρ, v'.den ρ = (g c).den ρ) : FnOk C f (Ev.onT (Ev.t1 t g)) := by
  refine FnOk.onT gd hn hf fun cs v h => ?_
  unfold Ev.t1 at h
  split at h
  · rename_i xs
    split at h
    · rename_i c hc
      obtain ⟨h1, h2⟩ := gdT_get h
      cases h2
      rw [clkL_eq hc]
      obtain ⟨v', h3, h4⟩ := H c h1
      exact ⟨fun _ _ => rfl, hv c, k, keep, v', hk, h3, h4⟩
    · cases h
  · cases h
theorem FnOk.t2 {C : Ctx} (gd : Good C) (hn : C.gs.Nodup) {f : FuncId} {fn : Func} (hf : C.P.funcs[f]? = some fn) {kd : IntKind} {t : Clk → Int → Bool} {g : Clk → Int → V} (hv : ∀ c n ρ ρ', (g c n).den ρ = (g c n).den ρ')
    (k : Nat) {keep : Nat → Option (List Nat)} (hk : KeepOk keep) (H : ∀ c n, t c n = true → ∃ v', (vals (evFn C k keep fn C.H0 C.gs.length [clkV c, vint kd (.sym n)])).get = some v' ∧ ∀ ρ, v'.den ρ = (g c n).den ρ) : FnOk C f (Ev.onT (Ev.t2 kd t g)) := by
  refine FnOk.onT gd hn hf fun cs v h => ?_
  unfold Ev.t2 at h
  split at h
  · rename_i xs y
    split at h
    · rename_i c hc
      split at h
      · rename_i n hn'
        obtain ⟨h1, h2⟩ := gdT_get h
        cases h2
        rw [clkL_eq hc, intOf?_eq hn']
        obtain ⟨v', h3, h4⟩ := H c n h1
        exact ⟨fun _ _ => rfl, hv c n, k, keep, v', hk, h3, h4⟩
      · cases h
    · cases h
  · cases h

/-! ### Valid -/
theorem bif_or (a b : Bool) : (bif a then true else b) = (a || b) := by cases a <;> rfl
def rInv (c : Clk) : Bool := bif decide (c.ct ≥ 32) then true else bif decide (IntKind.u64.wrap c.pr ≥ K.dv c.ct) then true else bif decide (c.pl > 37281) then true else bif decide (c.wa > 4) then true else decide (c.be > 63)
def rTail (c : Clk) : Bool := bif c.ov then bif !!c.fl then bif c.inh then !c.fr else true else false else bif c.inh then !c.fr else true
theorem ev23 (c : Clk) : vals (evFn (Cb.with sp1) 1 (fun _ => none) Tryd.f23 Cb.H0 3 [clkV c]) = .node (rInv c) (.leaf (vbool (.lit false))) (.leaf (vbool (.sym (rTail c)))) := by kernel_rfl
theorem ok23 : FnOk (Cb.with sp1) 23 (onT (t1 K.okC fun c => vbool (.sym (K.valid c)))) := FnOk.t1 good1 gsNodup Tryd.func23 (fun _ _ _ => rfl) 1 keep_none fun c hc => by
  have h := okC_iff.1 hc
  have e := ev23 c
  have hr : rInv c = !decide (c.ct < 32 ∧ c.pr < K.dvn c.ct ∧ c.pl ≤ 37281 ∧ c.wa ≤ 4 ∧ c.be ≤ 63) := by
    unfold rInv
    rw [wu64 (by omega) (by omega), dv_eq (by omega) (by omega)]
    rw [Bool.eq_iff_iff]
    simp only [bif_or, Bool.or_eq_true, decide_eq_true_eq, Bool.not_eq_true', decide_eq_false_iff_not]
    omega
  have ht : rTail c = ((!c.ov || c.fl) && (!c.inh || !c.fr)) := by
    unfold rTail
    cases c.ov <;> cases c.fl <;> cases c.inh <;> cases c.fr <;> rfl
  show ∃ v', (vals (evFn (Cb.with sp1) 1 (fun _ => none) Tryd.f23 Cb.H0 3 [clkV c])).get = some v' ∧ _
  rw [e]
  cases hi : rInv c with
  | true =>
    refine ⟨_, rfl, fun ρ => ?_⟩
    unfold K.valid
    rw [hr] at hi
    simp only [Bool.not_eq_true'] at hi
    rw [hi]; rfl
  | false =>
    refine ⟨_, rfl, fun ρ => ?_⟩
    unfold K.valid
    rw [hr] at hi
    simp only [Bool.not_eq_false'] at hi
    rw [hi, ht]; rfl

/-! ### One cycle of the sequencer -/
def rAt (pl : Int) : Int := IntKind.u64.wrap (IntKind.u16.wrap (pl + 1))
def rBeat (b : Int) : Int := (IntKind.u8.wrap (b + 1)).tmod 64
def rBeats (fi : Bool) (pl b : Int) : Int :=
  let b1 := bif rAt pl == 7457 then rBeat b else b
  let b2 := bif rAt pl == 14913 then rBeat b1 else b1
  let b3 := bif rAt pl == 22371 then rBeat b2 else b2
  bif rAt pl == K.lastB fi then rBeat b3 else b3
def rPl (fi : Bool) (pl : Int) : Int := bif decide (rAt pl ≥ K.rnd fi) then 0 else IntKind.u16.wrap (pl + 1)
def rOne (c : Clk) : Clk := { c with
  fr := bif (bif !c.fi then bif !c.inh then bif decide (rAt c.pl ≥ 29828) then decide (rAt c.pl ≤ 29830) else false else false else false) then true else c.fr
  pl := bif decide (c.wa > 0) then bif IntKind.u8.wrap (c.wa - 1) == 0 then 0 else rPl c.fi c.pl else rPl c.fi c.pl
  wa := bif decide (c.wa > 0) then IntKind.u8.wrap (c.wa - 1) else c.wa
  be := bif decide (c.wa > 0) then bif IntKind.u8.wrap (c.wa - 1) == 0 then bif c.fi then rBeat (rBeats c.fi c.pl c.be) else rBeats c.fi c.pl c.be else rBeats c.fi c.pl c.be else rBeats c.fi c.pl c.be }
theorem ev47 (c : Clk) : vals (evFn (Cb.with sp1) 10 (fun _ => none) Tryd.f47 Cb.H0 3 [clkV c]) = .leaf (clkV (rOne c)) := by kernel_rfl
end Go.Proofs.YthndmfgmlbdekaaDoor.Ev
