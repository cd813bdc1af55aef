/- The law TimerReads: its walk closed with the plain proof, and the table's cell out of the row's condition. -/
import Derived.Test.YthndmfgmlbdekaaDoorXTimerReadsx6
import Derived.Test.YthndmfgmlbdekaaDoorTimerBits
import Derived.Test.YthndmfgmlbdekaaDoorRows
import Derived.Lib.LaidTab
import Derived.LaidMore
import Derived.MakeChecks
namespace Go.Proofs.YthndmfgmlbdekaaDoor.XTimerReads
open Go.RowKit Go.Proofs.YthndmfgmlbdekaaDoor.Ext Go.Proofs.YthndmfgmlbdekaaDoorW.PrintWords Go.Proofs.YthndmfgmlbdekaaDoorW.PrintLast Go.Proofs.YthndmfgmlbdekaaDoorW.PrintMore
set_option linter.unusedVariables false
variable {a0 a1 a2 a3 a4 a10 a11 a12 : Int} {a5 a6 a7 a8 a9 : Bool}
/-- A clock may be as it is. -/
def vd (ctl pre here wait beats : Int) (flag over inh frame : Bool) : Bool :=
  decide (ctl < 32) && (decide (pre < dv ctl) && (decide (here ≤ 37281) && (decide (wait ≤ 4) && (decide (beats ≤ 63) && ((!over || flag) && (!inh || !frame))))))
theorem valid_prog (p0 : 0 ≤ a2) (p1 : a2 < 65536) (c0 : 0 ≤ a4) (c1 : a4 < 256) :
    timer_Valid.f a0 a1 a2 a3 a4 a5 a6 a7 a8 a9 a10 a11 a12 = some (vd a4 a2 a10 a11 a12 a5 a6 a8 a9) := by
  have hd : timer_divider.f a0 a1 a2 a3 a4 a5 a6 a7 a8 a9 a10 a11 a12 = some (dv a4) := by unfold timer_divider.f; rw [if_pos ⟨c0, c1⟩]
  have hw : IntKind.u64.wrap a2 = a2 := by rw [IntKind.wrap_u64]; omega
  unfold timer_Valid.f vd
  rw [hd, hw]
  simp only [Option.bind_some]
  by_cases h1 : a4 ≥ 32
  · rw [if_pos h1, decide_eq_false (by omega : ¬ a4 < 32)]; rfl
  rw [if_neg h1, decide_eq_true (by omega : a4 < 32)]
  by_cases h2 : a2 ≥ dv a4
  · rw [if_pos h2, decide_eq_false (by omega : ¬ a2 < dv a4)]; rfl
  rw [if_neg h2, decide_eq_true (by omega : a2 < dv a4)]
  by_cases h3 : a10 > 37281
  · rw [if_pos h3, decide_eq_false (by omega : ¬ a10 ≤ 37281)]; rfl
  rw [if_neg h3, decide_eq_true (by omega : a10 ≤ 37281)]
  by_cases h4 : a11 > 4
  · rw [if_pos h4, decide_eq_false (by omega : ¬ a11 ≤ 4)]; rfl
  rw [if_neg h4, decide_eq_true (by omega : a11 ≤ 4)]
  by_cases h5 : a12 > 63
  · rw [if_pos h5, decide_eq_false (by omega : ¬ a12 ≤ 63)]; rfl
  rw [if_neg h5, decide_eq_true (by omega : a12 ≤ 63)]
  cases a5 <;> cases a6 <;> cases a8 <;> cases a9 <;> rfl
theorem rdivider (c0 : 0 ≤ a4) (c1 : a4 < 256) : tandemref6_divider.f a4 = some (dv a4) := by
  unfold tandemref6_divider.f dv
  rw [Int.tdiv_eq_ediv_of_nonneg c0, (by omega : a4 / 8 % 256 % 4 = a4 / 8 % 4)]
  repeat (first | rfl | split)
theorem valid_ref (k : Nat) (p0 : 0 ≤ a2) (p1 : a2 < 65536) (c0 : 0 ≤ a4) (c1 : a4 < 256) :
    tandemref6_Valid.f (k + 1) a0 a1 a2 a3 a4 a5 a6 a7 a8 a9 a10 a11 a12 = some (vd a4 a2 a10 a11 a12 a5 a6 a8 a9) := by
  have hw : wrap64 a2 = a2 := by unfold wrap64; omega
  unfold tandemref6_Valid.f vd
  simp only [tandemref6_Valid.j0, ite_true]
  rw [rdivider c0 c1, hw]
  simp only [Option.bind_some]
  by_cases h1 : a4 ≥ 32
  · rw [if_pos h1, decide_eq_false (by omega : ¬ a4 < 32)]; rfl
  rw [if_neg h1, decide_eq_true (by omega : a4 < 32)]
  by_cases h3 : a10 > 37281
  · rw [if_pos h3, decide_eq_false (by omega : ¬ a10 ≤ 37281), Bool.false_and, Bool.and_false]; rfl
  rw [if_neg h3, decide_eq_true (by omega : a10 ≤ 37281)]
  by_cases h4 : a11 > 4
  · rw [if_pos h4, decide_eq_false (by omega : ¬ a11 ≤ 4), Bool.false_and, Bool.and_false, Bool.and_false]; rfl
  rw [if_neg h4, decide_eq_true (by omega : a11 ≤ 4)]
  by_cases h5 : a12 > 63
  · rw [decide_eq_true h5, decide_eq_false (by omega : ¬ a12 ≤ 63), Bool.false_and, Bool.and_false, Bool.and_false, Bool.and_false]; rfl
  rw [decide_eq_false h5, decide_eq_true (by omega : a12 ≤ 63), if_neg (by decide)]
  by_cases h2 : a2 ≥ dv a4
  · rw [if_pos h2, decide_eq_false (by omega : ¬ a2 < dv a4)]; rfl
  rw [if_neg h2, decide_eq_true (by omega : a2 < dv a4)]
  cases a5 <;> cases a6 <;> cases a8 <;> cases a9 <;> rfl
theorem u16w {x : Int} (h0 : 0 ≤ x) (h1 : x < 65536) : IntKind.u16.wrap x = x := by rw [IntKind.wrap_u16]; omega
theorem orm {m : Int} (hm : m = 0 ∨ m = 64 ∨ m = 128 ∨ m = 192) {y : Int} (h0 : 0 ≤ y) (h1 : y < 64) : bits .or .u8 m y = m + y := by
  rcases hm with rfl | rfl | rfl | rfl
  · exact Bits.by256 (P := fun y => y < 64 → bits .or .u8 0 y = 0 + y) (by decide +kernel) h0 (by omega) h1
  · exact Bits.by256 (P := fun y => y < 64 → bits .or .u8 64 y = 64 + y) (by decide +kernel) h0 (by omega) h1
  · exact Bits.by256 (P := fun y => y < 64 → bits .or .u8 128 y = 128 + y) (by decide +kernel) h0 (by omega) h1
  · exact Bits.by256 (P := fun y => y < 64 → bits .or .u8 192 y = 192 + y) (by decide +kernel) h0 (by omega) h1
theorem orf {m : Int} (hm : m = 0 ∨ m = 128) : bits .or .u8 m 64 = m + 64 := by rcases hm with rfl | rfl <;> decide
theorem read_tail (k : Nat) (adr m : Int) (hm : m = 0 ∨ m = 128) (l0 : 0 ≤ a1) (l1 : a1 < 65536) (c0 : 0 ≤ a4) (c1 : a4 < 32) (b0 : 0 ≤ a12) (b1 : a12 < 64) :
    ∃ c, timer_Read.j0 (k + 1) adr m a0 a1 a2 a3 a4 a5 a6 a7 a8 a9 a10 a11 a12 = some c ∧ tandemref6_Read.j0 (k + 3) adr m 0 0 a0 a1 a2 a3 a4 a5 a6 a7 a8 a9 a10 a11 a12 = some c := by
  have hj : tandemref6_Read.j0 (k + 3) adr m 0 0 a0 a1 a2 a3 a4 a5 a6 a7 a8 a9 a10 a11 a12 = tandemref6_Read.j2 (k + 1) adr m (if a9 = true then 64 else 0) (if a6 = true then 64 else 0) a0 a1 a2 a3 a4 a5 a6 a7 a8 a9 a10 a11 a12 := by
    cases a9 <;> cases a6 <;> simp only [tandemref6_Read.j0, tandemref6_Read.j1, Bool.false_eq_true, if_true, if_false]
  rw [hj]
  simp only [timer_Read.j0, tandemref6_Read.j2]
  by_cases h1 : adr = 16405
  · rw [if_pos h1, if_pos h1, orf hm]
    cases a9
    · rw [if_neg (by decide), if_neg (by decide), (by omega : (m + 0) % 256 = m)]; exact ⟨_, rfl, rfl⟩
    · rw [if_pos rfl, if_pos rfl, (by omega : (m + 64) % 256 = m + 64)]; exact ⟨_, rfl, rfl⟩
  rw [if_neg h1, if_neg h1]
  by_cases h2 : adr = 16408
  · rw [if_pos h2, if_pos h2, Int.tdiv_eq_ediv_of_nonneg l0, Int.tmod_eq_emod_of_nonneg l0, u16w (x := a1 / 256) (by omega) (by omega), Int.emod_emod_of_dvd a1 (by decide)]
    exact ⟨_, rfl, rfl⟩
  rw [if_neg h2, if_neg h2]
  by_cases h3 : adr = 16409
  · rw [if_pos h3, if_pos h3]; exact ⟨_, rfl, rfl⟩
  rw [if_neg h3, if_neg h3]
  by_cases h4 : adr = 16410
  · rw [if_pos h4, if_pos h4, orm (by omega) c0 (by omega), (by omega : (a4 + m) % 256 = m + a4)]
    exact ⟨_, rfl, rfl⟩
  rw [if_neg h4, if_neg h4]
  by_cases h5 : adr = 16411
  · rw [if_pos h5, if_pos h5, orf hm, orm (by omega : m = 0 ∨ m = 64 ∨ m = 128 ∨ m = 192) b0 b1, orm (by omega : m + 64 = 0 ∨ m + 64 = 64 ∨ m + 64 = 128 ∨ m + 64 = 192) b0 b1]
    cases a6
    · rw [if_neg (by decide), if_neg (by decide), (by omega : ((m + 0) % 256 + a12) % 256 = m + a12)]; exact ⟨_, rfl, rfl⟩
    · rw [if_pos rfl, if_pos rfl, (by omega : ((m + 64) % 256 + a12) % 256 = m + 64 + a12)]; exact ⟨_, rfl, rfl⟩
  rw [if_neg h5, if_neg h5]
  exact ⟨_, rfl, rfl⟩
theorem vd_true {ctl pre here wait beats : Int} {flag over inh frame : Bool} (h : vd ctl pre here wait beats flag over inh frame = true) : ctl < 32 ∧ beats < 64 := by
  unfold vd at h
  simp only [Bool.and_eq_true, decide_eq_true_eq] at h
  omega
theorem read_same (k : Nat) (adr : Int) (l0 : 0 ≤ a1) (l1 : a1 < 65536) (p0 : 0 ≤ a2) (p1 : a2 < 65536) (c0 : 0 ≤ a4) (c1 : a4 < 256) (b0 : 0 ≤ a12) :
    ∃ c, timer_Read.f (k + 3) a0 a1 a2 a3 a4 a5 a6 a7 a8 a9 a10 a11 a12 adr = some c ∧ tandemref6_Read.f (k + 3) a0 a1 a2 a3 a4 a5 a6 a7 a8 a9 a10 a11 a12 adr = some c := by
  unfold timer_Read.f tandemref6_Read.f
  rw [valid_prog p0 p1 c0 c1, valid_ref (k + 2) p0 p1 c0 c1]
  simp only [Option.bind_some]
  rcases hv : vd a4 a2 a10 a11 a12 a5 a6 a8 a9 with _ | _
  · exact ⟨_, if_neg (by decide), if_neg (by decide)⟩
  · rw [if_pos rfl, if_pos rfl]
    obtain ⟨h1, h2⟩ := vd_true hv
    cases a5
    · rw [if_neg (by decide), if_neg (by decide)]; exact read_tail (k + 2) adr 0 (by omega) l0 l1 c0 h1 b0 h2
    · rw [if_pos rfl, if_pos rfl]; exact read_tail (k + 2) adr 128 (by omega) l0 l1 c0 h1 b0 h2
theorem law_pure (k : Nat) (adr : Int) (l0 : 0 ≤ a1) (l1 : a1 < 65536) (p0 : 0 ≤ a2) (p1 : a2 < 65536) (c0 : 0 ≤ a4) (c1 : a4 < 256) (b0 : 0 ≤ a12) :
    tandemlaw6_TimerReads.f (k + 3) a0 a1 a2 a3 a4 a5 a6 a7 a8 a9 a10 a11 a12 adr = some true := by
  obtain ⟨c, h1, h2⟩ := read_same (a0 := a0) (a3 := a3) (a5 := a5) (a6 := a6) (a7 := a7) (a8 := a8) (a9 := a9) (a10 := a10) (a11 := a11) k adr l0 l1 p0 p1 c0 c1 b0
  unfold tandemlaw6_TimerReads.f
  rw [h1, h2]
  simp only [Option.bind_some, beq_self_eq_true, Bool.and_true, ite_true]
end Go.Proofs.YthndmfgmlbdekaaDoor.XTimerReads
namespace Go.Proofs.YthndmfgmlbdekaaDoor.Pure
open Go Go.RowKit Go.Proofs.YthndmfgmlbdekaaDoorW.PrintWords Go.Proofs.YthndmfgmlbdekaaDoorW.PrintLast Go.Proofs.YthndmfgmlbdekaaDoorW.PrintMore
set_option linter.unusedVariables false
theorem of_u8 {n : Int} (h : (Lit.int .u8 n).wf = true) : 0 ≤ n ∧ n < 256 := by
  simp [Lit.wf, IntKind.min, IntKind.max, IntKind.signed, IntKind.bits] at h
  omega
theorem of_u16 {n : Int} (h : (Lit.int .u16 n).wf = true) : 0 ≤ n ∧ n < 65536 := by
  simp [Lit.wf, IntKind.min, IntKind.max, IntKind.signed, IntKind.bits] at h
  omega
/-- The condition's first table lies in block 0. -/
theorem tab_of {W : World} {rest : List (String × DataW Unit)} (hp : (((("tandem/timer.dividers", Rows.laid_tandem_timer_dividers) :: rest : List (String × DataW Unit))).all fun x => x.2.handleName?.isNone) = true) (h : laidMetH Tryd.prog (("tandem/timer.dividers", Rows.laid_tandem_timer_dividers) :: rest) W) : Aside0 (Ext.Tab W) := by
  rw [MakeChecks.laidMetH_plain _ _ _ hp] at h
  have g : Tryd.prog.globalNamed "tandem/timer.dividers" = some 0 := by kernel_rfl
  obtain ⟨e, hu, he, hc⟩ : ∃ e, Tryd.prog.underlying 53 = some (.array 4 e) ∧ Tryd.prog.underlying e = some (.int .u64) ∧ Tryd.prog.cellsOf e = 1 := ⟨_, Tryd.underlying53, by kernel_rfl, by kernel_rfl⟩
  have t : Lib.TabIs Tryd.prog W "tandem/timer.dividers" .u64 [1, 8, 64, 256] := Lib.tabIs_of_head (n := 4) (e := e) g (by kernel_rfl) hu he hc (by kernel_rfl) h
  unfold Lib.TabIs World.var? at t
  rw [g] at t
  simp only [Option.bind_some] at t
  split at t
  · rename_i cs ty fr hb
    obtain rfl := Option.some.inj t
    exact Aside0.mk ⟨ty, fr, hb⟩
  · cases t
theorem TimerReads (a0_0 : Int) (a0_1 : Int) (a0_2 : Int) (a0_3 : Int) (a0_4 : Int) (a0_5 : Bool) (a0_6 : Bool) (a0_7 : Bool) (a0_8 : Bool) (a0_9 : Bool) (a0_10 : Int) (a0_11 : Int) (a0_12 : Int) (a1 : Int) (w : World) (h0_0 : (Lit.int .u16 a0_0).wf = true) (h0_1 : (Lit.int .u16 a0_1).wf = true) (h0_2 : (Lit.int .u16 a0_2).wf = true) (h0_3 : (Lit.int .u8 a0_3).wf = true) (h0_4 : (Lit.int .u8 a0_4).wf = true) (h0_10 : (Lit.int .u16 a0_10).wf = true) (h0_11 : (Lit.int .u8 a0_11).wf = true) (h0_12 : (Lit.int .u8 a0_12).wf = true) (h1 : (Lit.int .u16 a1).wf = true) (HT : Aside0 (Ext.Tab w)) :
    Calls Tryd.prog 4 #[.agg #[.int .u16 a0_0, .int .u16 a0_1, .int .u16 a0_2, .int .u8 a0_3, .int .u8 a0_4, .bool a0_5, .bool a0_6, .bool a0_7, .bool a0_8, .bool a0_9, .int .u16 a0_10, .int .u8 a0_11, .int .u8 a0_12], .int .u16 a1] w fun e w' => e = .returned (.bool true) ∧ Below w.heap.size w w' :=
  XTimerReads.tandemlaw6_TimerReads.calls 3 a0_0 a0_1 a0_2 a0_3 a0_4 a0_5 a0_6 a0_7 a0_8 a0_9 a0_10 a0_11 a0_12 a1 true w (XTimerReads.law_pure 0 a1 (of_u16 h0_1).1 (of_u16 h0_1).2 (of_u16 h0_2).1 (of_u16 h0_2).2 (of_u8 h0_4).1 (of_u8 h0_4).2 (of_u8 h0_12).1) HT
end Go.Proofs.YthndmfgmlbdekaaDoor.Pure
