/- The row of the law TimerWrites, out of its walk. Every input that can be read as data is meant; no condition. -/
import Derived.Test.YthndmfgmlbdekaaDoorRows
import Derived.Test.YthndmfgmlbdekaaDoorTw
import Derived.WalkKit
import Derived.ProofKit
import Derived.OpenShut
import Derived.ShutString
import Derived.ChangeOld
import Derived.Below
import Derived.SizedLaws
import Derived.Carry
import Derived.LaidMore
import Derived.Stop.Joined
import Derived.SevenTiedAt
import Derived.LaidByTextLater
import Derived.Lib.LaidTab
import Derived.Test.YthndmfgmlbdekaaDoorTie
import Derived.Test.YthndmfgmlbdekaaDoorCards
namespace Go.Proofs.YthndmfgmlbdekaaDoor.timerWrites
open Go.ChangeShapes Go.WideShapes Go.ChangeAt Go.RowKit
set_option linter.unusedVariables false
theorem own : ownKnob Tryd.prog.godebug = none := by kernel_rfl
theorem laidOut : laidOutB Tryd.prog = true := by kernel_rfl
section
variable {H : Type} {enc : TypeId × Value → H} {w : World} {base : Nat} {spare : Nat → Bool} {held : Bool}
theorem cells24 : Tryd.prog.cellsOf 24 = 13 := by kernel_rfl
theorem cells22 : Tryd.prog.cellsOf 22 = 1 := by kernel_rfl
theorem cells5 : Tryd.prog.cellsOf 5 = 1 := by kernel_rfl
theorem cells4 : Tryd.prog.cellsOf 4 = 1 := by kernel_rfl
set_option maxRecDepth 100000 in
theorem read24 {n : Nat} {cs : List Value} {x : DataW H × List MemPlace} (h : DataW.trod enc Tryd.prog w base spare held n 24 cs = some x) :
    ∃ (x0 : Int) (x1 : Int) (x2 : Int) (x3 : Int) (x4 : Int) (x5 : Bool) (x6 : Bool) (x7 : Bool) (x8 : Bool) (x9 : Bool) (x10 : Int) (x11 : Int) (x12 : Int), cs = [.int .u16 x0, .int .u16 x1, .int .u16 x2, .int .u8 x3, .int .u8 x4, .bool x5, .bool x6, .bool x7, .bool x8, .bool x9, .int .u16 x10, .int .u8 x11, .int .u8 x12] ∧ (Lit.int .u16 x0).wf = true ∧ (Lit.int .u16 x1).wf = true ∧ (Lit.int .u16 x2).wf = true ∧ (Lit.int .u8 x3).wf = true ∧ (Lit.int .u8 x4).wf = true ∧ (Lit.int .u16 x10).wf = true ∧ (Lit.int .u8 x11).wf = true ∧ (Lit.int .u8 x12).wf = true := by
  obtain ⟨ys, m, _, _, hl, hys, hg⟩ := DataW.trod_struct Tryd.underlying24 h
  rw [cells24] at hl
  obtain ⟨c0, c1, c2, c3, c4, c5, c6, c7, c8, c9, c10, c11, c12, rfl⟩ : ∃ c0 c1 c2 c3 c4 c5 c6 c7 c8 c9 c10 c11 c12, cs = [c0, c1, c2, c3, c4, c5, c6, c7, c8, c9, c10, c11, c12] := by
    clear hg
    match cs, hl with
    | [c0, c1, c2, c3, c4, c5, c6, c7, c8, c9, c10, c11, c12], _ => exact ⟨c0, c1, c2, c3, c4, c5, c6, c7, c8, c9, c10, c11, c12, rfl⟩
  have hy : ∀ j, j < 13 → ∃ y, ys[j]? = some y := fun j hj => ⟨_, List.getElem?_eq_getElem (by rw [hys]; exact hj)⟩
  obtain ⟨y0, e0⟩ := hy 0 (by decide)
  have h0 : DataW.trod enc Tryd.prog w base spare held m 22 (([c0, c1, c2, c3, c4, c5, c6, c7, c8, c9, c10, c11, c12].drop 0).take (Tryd.prog.cellsOf 22)) = ys[0]? := hg 0 _ rfl
  rw [e0, cells22] at h0
  have g0 : DataW.trod enc Tryd.prog w base spare held m 22 [c0] = some y0 := h0
  obtain ⟨z0, q0, _, u0⟩ := DataW.trod_int Tryd.underlying22 g0
  obtain ⟨y1, e1⟩ := hy 1 (by decide)
  have h1 : DataW.trod enc Tryd.prog w base spare held m 22 (([c0, c1, c2, c3, c4, c5, c6, c7, c8, c9, c10, c11, c12].drop 1).take (Tryd.prog.cellsOf 22)) = ys[1]? := hg 1 _ rfl
  rw [e1, cells22] at h1
  have g1 : DataW.trod enc Tryd.prog w base spare held m 22 [c1] = some y1 := h1
  obtain ⟨z1, q1, _, u1⟩ := DataW.trod_int Tryd.underlying22 g1
  obtain ⟨y2, e2⟩ := hy 2 (by decide)
  have h2 : DataW.trod enc Tryd.prog w base spare held m 22 (([c0, c1, c2, c3, c4, c5, c6, c7, c8, c9, c10, c11, c12].drop 2).take (Tryd.prog.cellsOf 22)) = ys[2]? := hg 2 _ rfl
  rw [e2, cells22] at h2
  have g2 : DataW.trod enc Tryd.prog w base spare held m 22 [c2] = some y2 := h2
  obtain ⟨z2, q2, _, u2⟩ := DataW.trod_int Tryd.underlying22 g2
  obtain ⟨y3, e3⟩ := hy 3 (by decide)
  have h3 : DataW.trod enc Tryd.prog w base spare held m 5 (([c0, c1, c2, c3, c4, c5, c6, c7, c8, c9, c10, c11, c12].drop 3).take (Tryd.prog.cellsOf 5)) = ys[3]? := hg 3 _ rfl
  rw [e3, cells5] at h3
  have g3 : DataW.trod enc Tryd.prog w base spare held m 5 [c3] = some y3 := h3
  obtain ⟨z3, q3, _, u3⟩ := DataW.trod_int Tryd.underlying5 g3
  obtain ⟨y4, e4⟩ := hy 4 (by decide)
  have h4 : DataW.trod enc Tryd.prog w base spare held m 5 (([c0, c1, c2, c3, c4, c5, c6, c7, c8, c9, c10, c11, c12].drop 4).take (Tryd.prog.cellsOf 5)) = ys[4]? := hg 4 _ rfl
  rw [e4, cells5] at h4
  have g4 : DataW.trod enc Tryd.prog w base spare held m 5 [c4] = some y4 := h4
  obtain ⟨z4, q4, _, u4⟩ := DataW.trod_int Tryd.underlying5 g4
  obtain ⟨y5, e5⟩ := hy 5 (by decide)
  have h5 : DataW.trod enc Tryd.prog w base spare held m 4 (([c0, c1, c2, c3, c4, c5, c6, c7, c8, c9, c10, c11, c12].drop 5).take (Tryd.prog.cellsOf 4)) = ys[5]? := hg 5 _ rfl
  rw [e5, cells4] at h5
  have g5 : DataW.trod enc Tryd.prog w base spare held m 4 [c5] = some y5 := h5
  obtain ⟨z5, q5, _⟩ := DataW.trod_bool Tryd.underlying4 g5
  obtain ⟨y6, e6⟩ := hy 6 (by decide)
  have h6 : DataW.trod enc Tryd.prog w base spare held m 4 (([c0, c1, c2, c3, c4, c5, c6, c7, c8, c9, c10, c11, c12].drop 6).take (Tryd.prog.cellsOf 4)) = ys[6]? := hg 6 _ rfl
  rw [e6, cells4] at h6
  have g6 : DataW.trod enc Tryd.prog w base spare held m 4 [c6] = some y6 := h6
  obtain ⟨z6, q6, _⟩ := DataW.trod_bool Tryd.underlying4 g6
  obtain ⟨y7, e7⟩ := hy 7 (by decide)
  have h7 : DataW.trod enc Tryd.prog w base spare held m 4 (([c0, c1, c2, c3, c4, c5, c6, c7, c8, c9, c10, c11, c12].drop 7).take (Tryd.prog.cellsOf 4)) = ys[7]? := hg 7 _ rfl
  rw [e7, cells4] at h7
  have g7 : DataW.trod enc Tryd.prog w base spare held m 4 [c7] = some y7 := h7
  obtain ⟨z7, q7, _⟩ := DataW.trod_bool Tryd.underlying4 g7
  obtain ⟨y8, e8⟩ := hy 8 (by decide)
  have h8 : DataW.trod enc Tryd.prog w base spare held m 4 (([c0, c1, c2, c3, c4, c5, c6, c7, c8, c9, c10, c11, c12].drop 8).take (Tryd.prog.cellsOf 4)) = ys[8]? := hg 8 _ rfl
  rw [e8, cells4] at h8
  have g8 : DataW.trod enc Tryd.prog w base spare held m 4 [c8] = some y8 := h8
  obtain ⟨z8, q8, _⟩ := DataW.trod_bool Tryd.underlying4 g8
  obtain ⟨y9, e9⟩ := hy 9 (by decide)
  have h9 : DataW.trod enc Tryd.prog w base spare held m 4 (([c0, c1, c2, c3, c4, c5, c6, c7, c8, c9, c10, c11, c12].drop 9).take (Tryd.prog.cellsOf 4)) = ys[9]? := hg 9 _ rfl
  rw [e9, cells4] at h9
  have g9 : DataW.trod enc Tryd.prog w base spare held m 4 [c9] = some y9 := h9
  obtain ⟨z9, q9, _⟩ := DataW.trod_bool Tryd.underlying4 g9
  obtain ⟨y10, e10⟩ := hy 10 (by decide)
  have h10 : DataW.trod enc Tryd.prog w base spare held m 22 (([c0, c1, c2, c3, c4, c5, c6, c7, c8, c9, c10, c11, c12].drop 10).take (Tryd.prog.cellsOf 22)) = ys[10]? := hg 10 _ rfl
  rw [e10, cells22] at h10
  have g10 : DataW.trod enc Tryd.prog w base spare held m 22 [c10] = some y10 := h10
  obtain ⟨z10, q10, _, u10⟩ := DataW.trod_int Tryd.underlying22 g10
  obtain ⟨y11, e11⟩ := hy 11 (by decide)
  have h11 : DataW.trod enc Tryd.prog w base spare held m 5 (([c0, c1, c2, c3, c4, c5, c6, c7, c8, c9, c10, c11, c12].drop 11).take (Tryd.prog.cellsOf 5)) = ys[11]? := hg 11 _ rfl
  rw [e11, cells5] at h11
  have g11 : DataW.trod enc Tryd.prog w base spare held m 5 [c11] = some y11 := h11
  obtain ⟨z11, q11, _, u11⟩ := DataW.trod_int Tryd.underlying5 g11
  obtain ⟨y12, e12⟩ := hy 12 (by decide)
  have h12 : DataW.trod enc Tryd.prog w base spare held m 5 (([c0, c1, c2, c3, c4, c5, c6, c7, c8, c9, c10, c11, c12].drop 12).take (Tryd.prog.cellsOf 5)) = ys[12]? := hg 12 _ rfl
  rw [e12, cells5] at h12
  have g12 : DataW.trod enc Tryd.prog w base spare held m 5 [c12] = some y12 := h12
  obtain ⟨z12, q12, _, u12⟩ := DataW.trod_int Tryd.underlying5 g12
  simp only [List.cons.injEq, and_true] at q0 q1 q2 q3 q4 q5 q6 q7 q8 q9 q10 q11 q12
  subst q0; subst q1; subst q2; subst q3; subst q4; subst q5; subst q6; subst q7; subst q8; subst q9; subst q10; subst q11; subst q12
  exact ⟨z0, z1, z2, z3, z4, z5, z6, z7, z8, z9, z10, z11, z12, rfl, u0, u1, u2, u3, u4, u10, u11, u12⟩
end
def laid : List (String × DataW Unit) := [("tandem/timer.dividers", Rows.laid_tandem_timer_dividers)]
theorem door_met (os : Os) (args : Array Value) : laidMetH Tryd.prog laid ((World.doorLaid Tryd.prog 400 os).forCall (fun _ _ => 0) ⟨#[], args, []⟩).memory :=
  laidMetH_of_parts3 (fuel := 8) (laidMet_of_run' 8 (by kernel_rfl) (by kernel_rfl)) (by kernel_rfl) (by kernel_rfl)
set_option maxRecDepth 100000 in
theorem lifted (os : Os) (started : os.Started) (H : Type) (enc : TypeId × Value → H) :
    ReturnsInHanded {} Tryd.checked os 3 .any (fun w args => (Rows.timerWritesSpec.pre enc Tryd.prog Tryd.f3 [] false w args ∧ laidMetH Tryd.prog laid w) ∧ sizedMet enc Tryd.prog Tryd.f3 (OpenSpec.ofChange Rows.timerWritesSpec) false w args) (Rows.timerWritesSpec.post enc Tryd.prog Tryd.f3 false true false false) := by
  refine returnsInHanded_of_change_and (C := Tryd.checked) (X := fun w _ => laidMetH Tryd.prog laid w) (fun _ _ _ hh h => h.of_heap hh) own started (by kernel_rfl) Tryd.func3
    (ChangeSpec.witness_shaped (enc := enc) (C := Tryd.checked) (os := os) (X := fun w _ => laidMetH Tryd.prog laid w) false (World.doorLaid Tryd.prog 400 os) #[.agg #[.int .u16 0, .int .u16 0, .int .u16 0, .int .u8 0, .int .u8 0, .bool false, .bool false, .bool false, .bool false, .bool false, .int .u16 0, .int .u8 0, .int .u8 0], .int .u16 0, .int .u8 0, .int .i64 0] 8 rfl (World.shaped_of_RefB (by kernel_rfl) (by kernel_rfl)) (by kernel_rfl) (by kernel_rfl) (by kernel_rfl) (door_met os _)) ?_
  intro W base args ds gs before hval0 hW _ _ hL hsz0
  have hval : ∀ (j : Nat) t v, Tryd.f3.params[j]? = some t → args[j]? = some v → Value.okWide Tryd.prog W .any base t v := hval0
  have hW' := hW
  obtain ⟨p, q, hA0, hV, rfl, hfz, hnd⟩ := hW
  have hA : DataW.TrodAll enc Tryd.prog W 0 (fun _ => true) true Tryd.f3.params.toList args.toList ds p := hA0
  rw [Tryd.params3] at hA hval
  obtain ⟨v0, vs0, d0, ds0, p0, q0, hargs, rfl, rfl, h0, r0⟩ := trodAll_cons hA
  obtain ⟨v1, vs1, d1, ds1, p1, q1, rfl, rfl, rfl, h1, r1⟩ := trodAll_cons r0
  obtain ⟨v2, vs2, d2, ds2, p2, q2, rfl, rfl, rfl, h2, r2⟩ := trodAll_cons r1
  obtain ⟨v3, vs3, d3, ds3, p3, q3, rfl, rfl, rfl, h3, r3⟩ := trodAll_cons r2
  obtain ⟨rfl, rfl, rfl⟩ := trodAll_nil r3
  obtain rfl : args = #[v0, v1, v2, v3] := by cases args; simp_all
  obtain ⟨rfl, rfl⟩ := trodVars_none hV
  have k0 := h0
  have lt0 : ∀ x ∈ p0, x.block < W.heap.size := by obtain ⟨m, hm⟩ := k0; exact DataW.trod_lt m _ _ _ hm
  obtain ⟨cs0, rfl, sz0⟩ := okWide_struct Tryd.underlying24 (hval 0 24 v0 rfl rfl)
  obtain ⟨m0, t0⟩ := h0
  obtain ⟨a0_0, a0_1, a0_2, a0_3, a0_4, a0_5, a0_6, a0_7, a0_8, a0_9, a0_10, a0_11, a0_12, e0, w0_0, w0_1, w0_2, w0_3, w0_4, w0_10, w0_11, w0_12⟩ := read24 t0
  obtain rfl : cs0 = #[.int .u16 a0_0, .int .u16 a0_1, .int .u16 a0_2, .int .u8 a0_3, .int .u8 a0_4, .bool a0_5, .bool a0_6, .bool a0_7, .bool a0_8, .bool a0_9, .int .u16 a0_10, .int .u8 a0_11, .int .u8 a0_12] := by cases cs0; simpa [Value.cells] using e0
  obtain ⟨a1, rfl, rfl, rfl, w1⟩ := open_int Tryd.underlying22 (hval 1 22 v1 rfl rfl) h1
  obtain ⟨a2, rfl, rfl, rfl, w2⟩ := open_int Tryd.underlying5 (hval 2 5 v2 rfl rfl) h2
  obtain ⟨a3, rfl, rfl, rfl, w3⟩ := open_int Tryd.underlying3 (hval 3 3 v3 rfl rfl) h3
  clear hA0 hval0 hsz0
  refine (Pure.TimerWrites a0_0 a0_1 a0_2 a0_3 a0_4 a0_5 a0_6 a0_7 a0_8 a0_9 a0_10 a0_11 a0_12 a1 a2 a3 W w0_0 w0_1 w0_2 w0_3 w0_4 w0_10 w0_11 w0_12 w1 w2 w3 (Ev.glob_ofW hL)).mono fun e W' ⟨he, bel⟩ => ?_
  subst he
  exact ⟨_, rfl, _, _, _, [], _, [], hW', trodAll_mk1 (shut_bool Tryd.underlying4 _), (trodAll_cons_mk (Below.trod laidOut (by kernel_rfl) (of_decide_eq_true (by kernel_rfl)) k0 bel lt0) (trodAll_cons_mk (shut_int Tryd.underlying22 w1) (trodAll_cons_mk (shut_int Tryd.underlying5 w2) (trodAll_cons_mk (shut_int Tryd.underlying3 w3) trodAll_mk0)))), rfl, bel.frame _, fun h => by cases h⟩
theorem over : Rows.timerWritesRow.holds Tryd.pinned (OpenSpec.ofChange Rows.timerWritesSpec) :=
  OpenClaim.holds_of_wide 3 Tryd.f3 rfl rfl rfl rfl rfl rfl rfl ⟨rfl, rfl, rfl, rfl, rfl⟩ rfl rfl rfl rfl rfl (by kernel_rfl) Tryd.func3 (by kernel_rfl)
    (of_decide_eq_true (by kernel_rfl)) (by unfold Func.isWrapper; first | (rw [if_pos (by decide +kernel)]; kernel_rfl) | (rw [if_neg (by decide +kernel)]; exact ⟨rfl, rfl⟩))
    (fun os started H enc _ => lifted os started H enc)
theorem card_holds : Rows.TimerWritesCardSaid :=
  Claim7.holds_tied_plain_at .later [] [.data] true (true, "35ec18fb3aee945779c81a2fc891d4a2461140bca9546071ae418f2a32167178") false over (fun _ h => by cases h) (by kernel_rfl) (fun _ h => by cases h) timerWrites_row_tie rfl ⟨rfl, rfl⟩ (by kernel_rfl) rfl
    (fun f fn hf hfn => by
      obtain rfl : f = 3 := Option.some.inj ((show Tryd.prog.funcNamed "tandem/tandemlaw6.TimerWrites" = some 3 by kernel_rfl).symm.trans hf) |>.symm
      obtain rfl : fn = Tryd.f3 := (Option.some.inj (Tryd.func3.symm.trans hfn)).symm
      exact ⟨by kernel_rfl, fun j t ht => by
        rw [Tryd.params3] at ht
        rcases j with _ | _ | _ | _ | j
        · obtain rfl : t = 24 := by simpa using ht.symm
          exact (show Tryd.prog.wantsStandIn 24 = false by kernel_rfl)
        · obtain rfl : t = 22 := by simpa using ht.symm
          exact (show Tryd.prog.wantsStandIn 22 = false by kernel_rfl)
        · obtain rfl : t = 5 := by simpa using ht.symm
          exact (show Tryd.prog.wantsStandIn 5 = false by kernel_rfl)
        · obtain rfl : t = 3 := by simpa using ht.symm
          exact (show Tryd.prog.wantsStandIn 3 = false by kernel_rfl)
        · simp at ht⟩)
    (by kernel_rfl)
#print axioms card_holds
end Go.Proofs.YthndmfgmlbdekaaDoor.timerWrites
namespace Go.Proofs.YthndmfgmlbdekaaDoor
theorem timerWrites_holds : Rows.TimerWritesCardSaid := timerWrites.card_holds
end Go.Proofs.YthndmfgmlbdekaaDoor
