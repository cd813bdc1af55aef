/- The row of the law AluAccs, out of its walk. Every input that can be read as data is meant; no condition. -/
import Derived.Test.YtajffjhfecckbaaRows
import Derived.Test.YtajffjhfecckbaaPureAluAccs
import Derived.WalkKit
import Derived.ProofKit
import Derived.OpenShut
import Derived.ShutString
import Derived.ChangeOld
import Derived.Below
import Derived.SizedLaws
import Derived.Carry
namespace Go.Proofs.Ytajffjhfecckbaa.aluAccs
open Go.ChangeShapes Go.WideShapes Go.ChangeAt Go.RowKit
set_option linter.unusedVariables false
theorem own : ownKnob Try.prog.godebug = none := by kernel_rfl
theorem laidOut : laidOutB Try.prog = true := by kernel_rfl
section
variable {H : Type} {enc : TypeId × Value → H} {w : World} {base : Nat} {spare : Nat → Bool} {held : Bool}
theorem cells35 : Try.prog.cellsOf 35 = 6 := by kernel_rfl
theorem cells5 : Try.prog.cellsOf 5 = 1 := by kernel_rfl
theorem read35 {n : Nat} {cs : List Value} {x : DataW H × List MemPlace} (h : DataW.trod enc Try.prog w base spare held n 35 cs = some x) :
    ∃ (x0 : Int) (x1 : Int) (x2 : Int) (x3 : Int) (x4 : Int) (x5 : Int), cs = [.int .u8 x0, .int .u8 x1, .int .u8 x2, .int .u8 x3, .int .u8 x4, .int .u8 x5] ∧ (Lit.int .u8 x0).wf = true ∧ (Lit.int .u8 x1).wf = true ∧ (Lit.int .u8 x2).wf = true ∧ (Lit.int .u8 x3).wf = true ∧ (Lit.int .u8 x4).wf = true ∧ (Lit.int .u8 x5).wf = true := by
  obtain ⟨ys, m, _, _, hl, hys, hg⟩ := DataW.trod_struct Try.underlying35 h
  rw [cells35] at hl
  obtain ⟨c0, c1, c2, c3, c4, c5, rfl⟩ : ∃ c0 c1 c2 c3 c4 c5, cs = [c0, c1, c2, c3, c4, c5] := by
    match cs, hl with
    | [c0, c1, c2, c3, c4, c5], _ => exact ⟨c0, c1, c2, c3, c4, c5, rfl⟩
  have hy : ∀ j, j < 6 → ∃ y, ys[j]? = some y := fun j hj => ⟨_, List.getElem?_eq_getElem (by rw [hys]; exact hj)⟩
  obtain ⟨y0, e0⟩ := hy 0 (by decide)
  have h0 : DataW.trod enc Try.prog w base spare held m 5 (([c0, c1, c2, c3, c4, c5].drop 0).take (Try.prog.cellsOf 5)) = ys[0]? := hg 0 _ rfl
  rw [e0, cells5] at h0
  have g0 : DataW.trod enc Try.prog w base spare held m 5 [c0] = some y0 := h0
  obtain ⟨z0, q0, _, u0⟩ := DataW.trod_int Try.underlying5 g0
  obtain ⟨y1, e1⟩ := hy 1 (by decide)
  have h1 : DataW.trod enc Try.prog w base spare held m 5 (([c0, c1, c2, c3, c4, c5].drop 1).take (Try.prog.cellsOf 5)) = ys[1]? := hg 1 _ rfl
  rw [e1, cells5] at h1
  have g1 : DataW.trod enc Try.prog w base spare held m 5 [c1] = some y1 := h1
  obtain ⟨z1, q1, _, u1⟩ := DataW.trod_int Try.underlying5 g1
  obtain ⟨y2, e2⟩ := hy 2 (by decide)
  have h2 : DataW.trod enc Try.prog w base spare held m 5 (([c0, c1, c2, c3, c4, c5].drop 2).take (Try.prog.cellsOf 5)) = ys[2]? := hg 2 _ rfl
  rw [e2, cells5] at h2
  have g2 : DataW.trod enc Try.prog w base spare held m 5 [c2] = some y2 := h2
  obtain ⟨z2, q2, _, u2⟩ := DataW.trod_int Try.underlying5 g2
  obtain ⟨y3, e3⟩ := hy 3 (by decide)
  have h3 : DataW.trod enc Try.prog w base spare held m 5 (([c0, c1, c2, c3, c4, c5].drop 3).take (Try.prog.cellsOf 5)) = ys[3]? := hg 3 _ rfl
  rw [e3, cells5] at h3
  have g3 : DataW.trod enc Try.prog w base spare held m 5 [c3] = some y3 := h3
  obtain ⟨z3, q3, _, u3⟩ := DataW.trod_int Try.underlying5 g3
  obtain ⟨y4, e4⟩ := hy 4 (by decide)
  have h4 : DataW.trod enc Try.prog w base spare held m 5 (([c0, c1, c2, c3, c4, c5].drop 4).take (Try.prog.cellsOf 5)) = ys[4]? := hg 4 _ rfl
  rw [e4, cells5] at h4
  have g4 : DataW.trod enc Try.prog w base spare held m 5 [c4] = some y4 := h4
  obtain ⟨z4, q4, _, u4⟩ := DataW.trod_int Try.underlying5 g4
  obtain ⟨y5, e5⟩ := hy 5 (by decide)
  have h5 : DataW.trod enc Try.prog w base spare held m 5 (([c0, c1, c2, c3, c4, c5].drop 5).take (Try.prog.cellsOf 5)) = ys[5]? := hg 5 _ rfl
  rw [e5, cells5] at h5
  have g5 : DataW.trod enc Try.prog w base spare held m 5 [c5] = some y5 := h5
  obtain ⟨z5, q5, _, u5⟩ := DataW.trod_int Try.underlying5 g5
  simp only [List.cons.injEq, and_true] at q0 q1 q2 q3 q4 q5
  subst q0; subst q1; subst q2; subst q3; subst q4; subst q5
  exact ⟨z0, z1, z2, z3, z4, z5, rfl, u0, u1, u2, u3, u4, u5⟩
end
set_option maxRecDepth 100000 in
theorem lifted (os : Os) (started : os.Started) (H : Type) (enc : TypeId × Value → H) :
    ReturnsInHanded {} Try.checked os 6 .any (Rows.aluAccsSpec.pre6 enc Try.prog Try.f6 Rows.aluAccsRow.domain false) (Rows.aluAccsSpec.post enc Try.prog Try.f6 false true false false) := by
  refine returnsInHanded_of_change_sized (C := Try.checked) own started (by kernel_rfl) Try.func6
    (ChangeSpec.witness6 (enc := enc) (C := Try.checked) false ⟨#[], #[.int .i64 0, .agg #[.int .u8 0, .int .u8 0, .int .u8 0, .int .u8 0, .int .u8 0, .int .u8 0]], []⟩ 8 (by kernel_rfl) (by kernel_rfl) (by kernel_rfl) (by kernel_rfl)) ?_
  intro W base args ds gs before hval0 hW hcnd hsz0 _
  have hval : ∀ (j : Nat) t v, Try.f6.params[j]? = some t → args[j]? = some v → Value.okWide Try.prog W .any base t v := hval0
  have hW' := hW
  obtain ⟨p, q, hA0, hV, rfl, hfz, hnd⟩ := hW
  have hA : DataW.TrodAll enc Try.prog W 0 (fun _ => true) true Try.f6.params.toList args.toList ds p := hA0
  rw [Try.params6] at hA hval
  obtain ⟨v0, vs0, d0, ds0, p0, q0, hargs, rfl, rfl, h0, r0⟩ := trodAll_cons hA
  obtain ⟨v1, vs1, d1, ds1, p1, q1, rfl, rfl, rfl, h1, r1⟩ := trodAll_cons r0
  obtain ⟨rfl, rfl, rfl⟩ := trodAll_nil r1
  obtain rfl : args = #[v0, v1] := by cases args; simp_all
  obtain ⟨rfl, rfl⟩ := trodVars_none hV
  obtain ⟨a0, rfl, rfl, rfl, w0⟩ := open_int Try.underlying3 (hval 0 3 v0 rfl rfl) h0
  have k1 := h1
  have lt1 : ∀ x ∈ p1, x.block < W.heap.size := by obtain ⟨m, hm⟩ := k1; exact DataW.trod_lt m _ _ _ hm
  obtain ⟨cs1, rfl, sz1⟩ := okWide_struct Try.underlying35 (hval 1 35 v1 rfl rfl)
  obtain ⟨m1, t1⟩ := h1
  obtain ⟨a1_0, a1_1, a1_2, a1_3, a1_4, a1_5, e1, w1_0, w1_1, w1_2, w1_3, w1_4, w1_5⟩ := read35 t1
  obtain rfl : cs1 = #[.int .u8 a1_0, .int .u8 a1_1, .int .u8 a1_2, .int .u8 a1_3, .int .u8 a1_4, .int .u8 a1_5] := by cases cs1; simpa [Value.cells] using e1
  clear hA0 hval0 hsz0
  refine (Pure.AluAccs a0 a1_0 a1_1 a1_2 a1_3 a1_4 a1_5 W w0 w1_0 w1_1 w1_2 w1_3 w1_4 w1_5).mono fun e W' ⟨he, bel⟩ => ?_
  subst he
  exact ⟨_, rfl, _, _, _, [], _, [], hW', trodAll_mk1 (shut_bool Try.underlying4 _), (trodAll_cons_mk (shut_int Try.underlying3 w0) (trodAll_cons_mk (Below.trod laidOut (by kernel_rfl) (of_decide_eq_true (by kernel_rfl)) k1 bel lt1) trodAll_mk0)), rfl, bel.frame _, fun h => by cases h⟩
theorem over : Rows.aluAccsRow.holds Try.pinned (OpenSpec.ofChange Rows.aluAccsSpec) :=
  OpenClaim.holds_of_wide 6 Try.f6 rfl rfl rfl rfl rfl rfl rfl ⟨rfl, rfl, rfl, rfl, rfl⟩ rfl rfl rfl rfl rfl (by kernel_rfl) Try.func6 (by kernel_rfl)
    (of_decide_eq_true (by kernel_rfl)) (by unfold Func.isWrapper; first | (rw [if_pos (by decide +kernel)]; kernel_rfl) | (rw [if_neg (by decide +kernel)]; exact ⟨rfl, rfl⟩))
    (fun os started H enc _ => lifted os started H enc)
theorem proved : Rows.AluAccsSaid := over
#print axioms proved
end Go.Proofs.Ytajffjhfecckbaa.aluAccs
namespace Go.Proofs.Ytajffjhfecckbaa
theorem aluAccs_holds : Rows.AluAccsSaid := aluAccs.proved
end Go.Proofs.Ytajffjhfecckbaa
