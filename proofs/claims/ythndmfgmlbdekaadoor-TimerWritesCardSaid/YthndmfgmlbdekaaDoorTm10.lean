/- The document's own functions on clocks: divider, Valid, the timer's cycle. -/
import Derived.Test.YthndmfgmlbdekaaDoorTm9
namespace Go.Proofs.YthndmfgmlbdekaaDoor.Ev
open Go Go.RowKit
set_option linter.unusedVariables false
set_option linter.unusedSimpArgs false
set_option linter.constructorNameAsVariable false
/-- Of one number. -/
def i1 (k : IntKind) (t : Int → Bool) (g : Int → V) : List V → Tree V
  | [.v (.l y)] => match intOf? k y with | some n => gdT (t n) (.leaf (g n)) | none => .bad
  | _ => .bad
theorem FnOk.i1 {C : Ctx} (gd : Good C) (hn : C.gs.Nodup) {f : FuncId} {fn : Func} (hf : C.P.funcs[f]? = some fn) {kd : IntKind} {t : Int → Bool} {g : Int → V} (hv : ∀ c ρ ρ', (g c).den ρ = (g c).den ρ')
    (k : Nat) {keep : Nat → Option (List Nat)} (hk : KeepOk keep) (H : ∀ c, t c = true → ∃ v', (vals (evFn C k keep fn C.H0 C.gs.length [vint kd (.sym c)])).get = some v' ∧ ∀ ρ, v'.den ρ = (g c).den ρ) : FnOk C f (Ev.onT (Ev.i1 kd t g)) := by
  refine FnOk.onT gd hn hf fun cs v h => ?_
  unfold Ev.i1 at h
  split at h
  · rename_i y
    split at h
    · rename_i n hn'
      obtain ⟨h1, h2⟩ := gdT_get h
      cases h2
      rw [intOf?_eq hn']
      obtain ⟨v', h3, h4⟩ := H n h1
      exact ⟨fun _ _ => rfl, hv n, k, keep, v', hk, h3, h4⟩
    · cases h
  · cases h
def isB (x : Int) : Bool := decide (0 ≤ x ∧ x < 256)
theorem ev38 (x : Int) : vals (evFn (Cb.with []) 1 (fun _ => none) Tryd.f38 Cb.H0 3 [vint .u8 (.sym x)]) =
    .node ((IntKind.u8.wrap (x.tdiv 8)).tmod 4 == 0) (.leaf (vint .i64 (.lit 1))) (.node ((IntKind.u8.wrap (x.tdiv 8)).tmod 4 == 1) (.leaf (vint .i64 (.lit 8))) (.node ((IntKind.u8.wrap (x.tdiv 8)).tmod 4 == 2) (.leaf (vint .i64 (.lit 64))) (.leaf (vint .i64 (.lit 256))))) := by kernel_rfl
theorem ok38 : FnOk (Cb.with []) 38 (onT (i1 .u8 isB fun x => vint .i64 (.sym (K.dvn x)))) := FnOk.i1 good0 gsNodup Tryd.func38 (fun _ _ _ => rfl) 1 keep_none fun x hx => by
  unfold isB at hx
  rw [decide_eq_true_eq] at hx
  show ∃ v', (vals (evFn (Cb.with []) 1 (fun _ => none) Tryd.f38 Cb.H0 3 [vint .u8 (.sym x)])).get = some v' ∧ _
  rw [ev38, Int.tdiv_eq_ediv_of_nonneg hx.1, wu8 (by omega) (by omega), Int.tmod_eq_emod_of_nonneg (by omega)]
  simp only [beq_true_iff]
  unfold K.dvn
  by_cases c0 : x / 8 % 4 = 0
  · rw [decide_eq_true c0, if_pos c0]; exact ⟨_, rfl, fun _ => rfl⟩
  rw [decide_eq_false c0, if_neg c0]
  by_cases c1 : x / 8 % 4 = 1
  · rw [decide_eq_true c1, if_pos c1]; exact ⟨_, rfl, fun _ => rfl⟩
  rw [decide_eq_false c1, if_neg c1]
  by_cases c2 : x / 8 % 4 = 2
  · rw [decide_eq_true c2, if_pos c2]; exact ⟨_, rfl, fun _ => rfl⟩
  rw [decide_eq_false c2, if_neg c2]
  exact ⟨_, rfl, fun _ => rfl⟩
noncomputable def sp6 : List (Nat × Spec) := (42, inl (Cb.with []) 5 (fun _ => none) Tryd.f42) :: (38, onT (i1 .u8 isB fun x => vint .i64 (.sym (K.dvn x)))) :: sp5
theorem good6 : Good (Cb.with sp6) := (good5.cons Tryd.func38 (by kernel_rfl) (by kernel_rfl) ok38).cons Tryd.func42 (by kernel_rfl) (by kernel_rfl) (FnOk.inl good0.ok good0.hs good0.hb Tryd.func42 keep_none)
/-! Valid. -/
def rInvR (c : Clk) : Bool := bif decide (c.ct ≥ 32) then true else bif decide (c.pl > 37281) then true else bif decide (c.wa > 4) then true else decide (c.be > 63)
theorem ev29 (c : Clk) : vals (evFn (Cb.with sp6) 1 (fun _ => none) Tryd.f29 Cb.H0 3 [clkV c]) = .node (rInvR c) (.leaf (vbool (.lit false))) (.node (isB c.ct) (.node (decide (IntKind.i64.wrap c.pr ≥ K.dvn c.ct)) (.leaf (vbool (.lit false)))
    (.node (bif c.ov then !c.fl else false) (.leaf (vbool (.lit false))) (.leaf (vbool (.sym (bif !c.inh then true else !c.fr)))))) .bad) := by kernel_rfl
theorem ok29 : FnOk (Cb.with sp6) 29 (onT (t1 K.okC fun c => vbool (.sym (K.valid c)))) := FnOk.t1 good6 gsNodup Tryd.func29 (fun _ _ _ => rfl) 1 keep_none fun c hc => by
  have h := okC_iff.1 hc
  show ∃ v', (vals (evFn (Cb.with sp6) 1 (fun _ => none) Tryd.f29 Cb.H0 3 [clkV c])).get = some v' ∧ _
  have hb : isB c.ct = true := by unfold isB; rw [decide_eq_true_eq]; omega
  rw [ev29, hb, wi64 (by omega) (by omega)]
  have hr : rInvR c = decide (c.ct ≥ 32 ∨ c.pl > 37281 ∨ c.wa > 4 ∨ c.be > 63) := by
    unfold rInvR
    rw [Bool.eq_iff_iff]
    simp only [bif_or, Bool.or_eq_true, decide_eq_true_eq]
  by_cases h1 : c.ct ≥ 32 ∨ c.pl > 37281 ∨ c.wa > 4 ∨ c.be > 63
  · rw [hr, decide_eq_true h1]
    refine ⟨_, rfl, fun ρ => ?_⟩
    have : K.valid c = false := by rw [← Bool.not_eq_true, valid_iff]; omega
    rw [this]; rfl
  rw [hr, decide_eq_false h1]
  by_cases h2 : c.pr ≥ K.dvn c.ct
  · rw [decide_eq_true h2]
    refine ⟨_, rfl, fun ρ => ?_⟩
    have : K.valid c = false := by rw [← Bool.not_eq_true, valid_iff]; omega
    rw [this]; rfl
  rw [decide_eq_false h2]
  have hv : K.valid c = ((!c.ov || c.fl) && (!c.inh || !c.fr)) := by
    unfold K.valid
    rw [decide_eq_true (by omega)]; rfl
  rw [hv]
  cases c.ov <;> cases c.fl <;> cases c.inh <;> cases c.fr <;> exact ⟨_, rfl, fun _ => rfl⟩
/-! A cycle of the timer. -/
def rP1 (c : Clk) : Int := IntKind.u16.wrap (c.pr + 1)
theorem ev39 (c : Clk) : vals (evFn (Cb.with sp6) 1 (fun _ => none) Tryd.f39 Cb.H0 3 [clkV c]) = .node (c.ct.tmod 2 == 0) (.leaf (clkV c)) (.node (isB c.ct) (.node (decide (IntKind.i64.wrap (rP1 c) < K.dvn c.ct)) (.leaf (clkV { c with pr := rP1 c }))
    (.node (decide (c.co > 0)) (.leaf (litClk { c with co := IntKind.u16.wrap (c.co - 1) } (.sym c.fl) (.lit 0)))
      (.leaf (litClk { c with co := c.la, ct := bif (IntKind.u8.wrap (c.ct.tdiv 4)).tmod 2 == 1 then IntKind.u8.wrap (c.ct - 1) else c.ct, ov := bif c.fl then true else c.ov } (.lit true) (.lit 0))))) .bad) := by kernel_rfl
theorem ok39 : FnOk (Cb.with sp6) 39 (onT (t1 K.okv fun c => clkV (K.count c 1))) := FnOk.t1 good6 gsNodup Tryd.func39 (fun _ _ _ => rfl) 1 keep_none fun c hc => by
  obtain ⟨h1, h2⟩ := okv_iff.1 hc
  have h1 := okC_iff.1 h1
  obtain ⟨h2, _⟩ := valid_iff.1 h2
  show ∃ v', (vals (evFn (Cb.with sp6) 1 (fun _ => none) Tryd.f39 Cb.H0 3 [clkV c])).get = some v' ∧ _
  have hb : isB c.ct = true := by unfold isB; rw [decide_eq_true_eq]; omega
  have hd := dvn_cases c.ct
  have e1 : rP1 c = c.pr + 1 := by unfold rP1; rw [wu16 (by omega) (by omega)]
  rw [ev39, hb, e1, wi64 (by omega) (by omega), Int.tmod_eq_emod_of_nonneg (by omega), Int.tdiv_eq_ediv_of_nonneg (by omega), wu8 (x := c.ct / 4) (by omega) (by omega), Int.tmod_eq_emod_of_nonneg (by omega)]
  simp only [beq_true_iff, bif_or]
  unfold K.count
  by_cases p1 : c.ct % 2 = 0
  · rw [decide_eq_true p1, if_pos p1]; exact ⟨_, rfl, fun _ => rfl⟩
  rw [decide_eq_false p1, if_neg p1]
  by_cases p2 : c.pr + 1 < K.dvn c.ct
  · have e2 : (c.pr + 1) / K.dvn c.ct = 0 := Int.ediv_eq_zero_of_lt (by omega) p2
    have e3 : (c.pr + 1) % K.dvn c.ct = c.pr + 1 := Int.emod_eq_of_lt (by omega) p2
    rw [decide_eq_true p2, e2, e3, if_pos (by omega)]
    exact ⟨_, rfl, fun _ => by rw [Int.sub_zero]⟩
  · have e0 : c.pr + 1 = K.dvn c.ct := by omega
    have e2 : (c.pr + 1) / K.dvn c.ct = 1 := by rw [e0]; exact Int.ediv_self (by omega)
    have e3 : (c.pr + 1) % K.dvn c.ct = 0 := by rw [e0]; exact Int.emod_self
    rw [decide_eq_false p2, e2, e3]
    by_cases p3 : c.co > 0
    · rw [decide_eq_true p3, if_pos (by omega)]
      refine ⟨_, rfl, fun ρ => ?_⟩
      rw [litClk_den, wu16 (by omega) (by omega)]; rfl
    · rw [decide_eq_false p3, if_neg (by omega)]
      refine ⟨_, rfl, fun ρ => ?_⟩
      rw [litClk_den]
      by_cases p4 : c.ct / 4 % 2 = 1
      · rw [if_pos p4, decide_eq_true p4, Bool.or_comm]
        simp only [cond_true]
        rw [wu8 (by omega) (by omega)]; rfl
      · rw [if_neg p4, decide_eq_false p4, Bool.or_comm]
        have e5 : (1 - (c.co + 1)) % (c.la + 1) = 0 := by rw [show (1 : Int) - (c.co + 1) = 0 by omega]; exact Int.zero_emod _
        rw [e5, decide_eq_false (p := (1 : Int) - (c.co + 1) ≥ c.la + 1) (by omega), Bool.or_false, Int.sub_zero]
        rfl
/-! A cycle of the sequencer. -/
def mix (x : Bool) (a b : Clk) : Clk := ⟨bif x then a.la else b.la, bif x then a.co else b.co, bif x then a.pr else b.pr, bif x then a.ho else b.ho, bif x then a.ct else b.ct, bif x then a.fl else b.fl, bif x then a.ov else b.ov, bif x then a.fi else b.fi, bif x then a.inh else b.inh, bif x then a.fr else b.fr, bif x then a.pl else b.pl, bif x then a.wa else b.wa, bif x then a.be else b.be⟩
theorem mix_eq (x : Bool) (a b : Clk) : mix x a b = if x = true then a else b := by cases x <;> rfl
def rBeatC (c : Clk) : Clk := { c with be := rBeat c.be }
def rX (l : Int) (c : Clk) : Bool := bif c.pl == 7457 then true else bif c.pl == 14913 then true else bif c.pl == 22371 then true else c.pl == l
def rFive (c : Clk) : Clk := { mix (rX 37281 c) (rBeatC c) c with pl := bif decide ((mix (rX 37281 c) (rBeatC c) c).pl ≥ 37282) then 0 else (mix (rX 37281 c) (rBeatC c) c).pl }
def rFour (c : Clk) : Clk := { mix (rX 29829 c) (rBeatC c) c with
  fr := bif (bif decide ((mix (rX 29829 c) (rBeatC c) c).pl ≥ 29828) then bif decide ((mix (rX 29829 c) (rBeatC c) c).pl ≤ 29830) then !(mix (rX 29829 c) (rBeatC c) c).inh else false else false) then true else (mix (rX 29829 c) (rBeatC c) c).fr
  pl := bif decide ((mix (rX 29829 c) (rBeatC c) c).pl ≥ 29830) then 0 else (mix (rX 29829 c) (rBeatC c) c).pl }
theorem ev40 (c : Clk) : vals (evFn (Cb.with sp6) 1 (fun _ => none) Tryd.f40 Cb.H0 3 [clkV c]) = .leaf (clkV (rFive c)) := by kernel_rfl
theorem ev41 (c : Clk) : vals (evFn (Cb.with sp6) 1 (fun _ => none) Tryd.f41 Cb.H0 3 [clkV c]) = .leaf (clkV (rFour c)) := by kernel_rfl
namespace K
def four (c : Clk) : Clk := { c with fr := c.fr || (!c.inh && decide (29828 ≤ c.pl ∧ c.pl ≤ 29830)), pl := if c.pl < 29830 then c.pl else 0, be := beatAt false c.pl c.be }
def five (c : Clk) : Clk := { c with pl := if c.pl < 37282 then c.pl else 0, be := beatAt true c.pl c.be }
end K
theorem rBeat_eq' {b : Int} (h0 : 0 ≤ b) (h1 : b < 256) : rBeat b = (b + 1) % 64 := by
  unfold rBeat
  rw [IntKind.wrap_u8, Int.tmod_eq_emod_of_nonneg (by omega)]
  omega
theorem rX_eq (l : Int) (c : Clk) : rX l c = decide (c.pl = 7457 ∨ c.pl = 14913 ∨ c.pl = 22371 ∨ c.pl = l) := by
  unfold rX
  rw [Bool.eq_iff_iff]
  simp only [bif_or, beq_true_iff, Bool.or_eq_true, decide_eq_true_eq]
theorem mixb_eq {l : Int} {fi : Bool} (hl : K.lastB fi = l) {c : Clk} (hc : K.okC c = true) : mix (rX l c) (rBeatC c) c = { c with be := K.beatAt fi c.pl c.be } := by
  have h := okC_iff.1 hc
  rw [mix_eq, rX_eq]
  unfold K.beatAt rBeatC
  rw [hl, rBeat_eq' (by omega) (by omega)]
  simp only [decide_eq_true_eq]
  split <;> rfl
theorem bif_ite {a b : Int} {p : Prop} [Decidable p] : (bif decide p then a else b) = if p then a else b := by rw [cond_ite]; simp only [decide_eq_true_eq]
theorem ok40 : FnOk (Cb.with sp6) 40 (onT (t1 K.okC fun c => clkV (K.five c))) := FnOk.t1 good6 gsNodup Tryd.func40 (fun _ _ _ => rfl) 1 keep_none fun c hc => by
  refine ⟨clkV (rFive c), by show (vals (evFn (Cb.with sp6) 1 (fun _ => none) Tryd.f40 Cb.H0 3 [clkV c])).get = _; rw [ev40]; rfl, fun ρ => ?_⟩
  congr 2
  unfold rFive K.five
  rw [mixb_eq (l := 37281) (fi := true) rfl hc, bif_ite]
  simp only
  congr 1
  split <;> split <;> omega
theorem ok41 : FnOk (Cb.with sp6) 41 (onT (t1 K.okC fun c => clkV (K.four c))) := FnOk.t1 good6 gsNodup Tryd.func41 (fun _ _ _ => rfl) 1 keep_none fun c hc => by
  refine ⟨clkV (rFour c), by show (vals (evFn (Cb.with sp6) 1 (fun _ => none) Tryd.f41 Cb.H0 3 [clkV c])).get = _; rw [ev41]; rfl, fun ρ => ?_⟩
  congr 2
  unfold rFour K.four
  rw [mixb_eq (l := 29829) (fi := false) rfl hc, bif_ite, bif_or]
  simp only
  have e1 : ((bif decide (c.pl ≥ 29828) then bif decide (c.pl ≤ 29830) then !c.inh else false else false) || c.fr) = (c.fr || (!c.inh && decide (29828 ≤ c.pl ∧ c.pl ≤ 29830))) := by
    rw [Bool.decide_and]
    cases c.fr <;> cases c.inh <;> cases h1 : decide (29828 ≤ c.pl) <;> cases h2 : decide (c.pl ≤ 29830) <;> simp_all
  have e2 : (if c.pl ≥ 29830 then 0 else c.pl) = (if c.pl < 29830 then c.pl else 0) := by split <;> split <;> omega
  rw [e1, e2]
noncomputable def sp7 : List (Nat × Spec) := (41, onT (t1 K.okC fun c => clkV (K.four c))) :: (40, onT (t1 K.okC fun c => clkV (K.five c))) :: (39, onT (t1 K.okv fun c => clkV (K.count c 1))) :: (29, onT (t1 K.okC fun c => vbool (.sym (K.valid c)))) :: sp6
theorem good7 : Good (Cb.with sp7) := (((good6.cons Tryd.func29 (by kernel_rfl) (by kernel_rfl) ok29).cons Tryd.func39 (by kernel_rfl) (by kernel_rfl) ok39).cons Tryd.func40 (by kernel_rfl) (by kernel_rfl) ok40).cons Tryd.func41 (by kernel_rfl) (by kernel_rfl) ok41
end Go.Proofs.YthndmfgmlbdekaaDoor.Ev
