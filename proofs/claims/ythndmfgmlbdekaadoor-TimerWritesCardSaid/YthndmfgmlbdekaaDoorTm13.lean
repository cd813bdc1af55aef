/- What the row's condition says of the package's variables; the marks of a value's kind. -/
import Derived.Test.YthndmfgmlbdekaaDoorTm12
import Derived.Test.YthndmfgmlbdekaaDoorRows
import Derived.Lib.LaidTab
import Derived.LaidMore
import Derived.MakeChecks
import Derived.OpenShut
import Derived.ChangeArms
namespace Go.Proofs.YthndmfgmlbdekaaDoor.Ev
open Go Go.RowKit
set_option linter.unusedSimpArgs false
set_option linter.constructorNameAsVariable false
set_option linter.unusedVariables false
theorem var_heap {w : World} {name : String} {g : Nat} {cs : Array Value} (hg : Tryd.prog.globalNamed name = some g) (h : w.var? Tryd.prog name = some cs) : ∃ t fr, w.heap[g]? = some (.cells cs t fr) := by
  unfold World.var? at h
  rw [hg] at h
  simp only [Option.bind_some] at h
  split at h
  · rename_i c ty fr hb
    cases h
    exact ⟨ty, fr, hb⟩
  · cases h
theorem mode_cells {w : World} {base : Nat} {sp : Nat → Bool} {held : Bool} {fuel : Nat} {cs : List Value} {p : List MemPlace} {enc : TypeId × Value → Unit} {r : Int} {zs : List Int}
    (h : DataW.trod enc Tryd.prog w base sp held fuel 55 cs = some (.agg [.lit (.int .u64 r), Lib.tabData .u64 zs], p)) : cs = .int .u64 r :: zs.map (Value.int .u64 ·) := by
  obtain ⟨xs, m, rfl, hx, hl, hxs, hf⟩ := DataW.trod_struct Tryd.underlying55 h
  obtain ⟨e1, _⟩ := Prod.mk.inj hx
  have hl5 : cs.length = 5 := hl.trans (by kernel_rfl)
  have hx2 : xs.length = 2 := hxs
  obtain ⟨a, b, rfl⟩ : ∃ a b, xs = [a, b] := by
    match xs, hx2 with
    | [a, b], _ => exact ⟨a, b, rfl⟩
  simp only [DataW.agg.injEq, List.map_cons, List.map_nil, List.cons.injEq, and_true] at e1
  have f0 := hf 0 _ rfl
  have f1 := hf 1 _ rfl
  have c51 : Tryd.prog.cellsOf 51 = 1 := by kernel_rfl
  have c53 : Tryd.prog.cellsOf 53 = 4 := by kernel_rfl
  obtain ⟨z, hz, hz2, _⟩ := DataW.trod_int (k := .u64) (by kernel_rfl) f0
  have ea : a.1 = DataW.lit (.int .u64 z) := by rw [hz2]
  rw [← e1.1] at ea
  simp only [DataW.lit.injEq, Lit.int.injEq, true_and] at ea
  subst ea
  obtain ⟨b1, b2⟩ := b
  simp only at e1
  have f1' : DataW.trod enc Tryd.prog w base sp held m 53 ((cs.drop 1).take (Tryd.prog.cellsOf 53)) = some (Lib.tabData .u64 zs, b2) := by rw [e1.2]; exact f1
  have ht := Lib.cells_of_tab Tryd.underlying53 (by kernel_rfl) (by kernel_rfl) (by kernel_rfl) f1'
  rw [c53] at ht
  match cs, hl5 with
  | [v0, v1, v2, v3, v4], _ =>
    have hz0 : ([v0, v1, v2, v3, v4].drop 0).take (Tryd.prog.cellsOf 51) = [.int .u64 r] := hz
    rw [c51] at hz0
    simp only [List.drop_zero, List.take_succ_cons, List.take_zero, List.cons.injEq, and_true] at hz0
    simp only [List.drop_succ_cons, List.drop_zero, List.take_succ_cons, List.take_nil] at ht
    rw [hz0, ← ht]
theorem glob_of {W : World} (h : laidMetH Tryd.prog [("tandem/timer.dividers", Rows.laid_tandem_timer_dividers), ("tandem/timer.four", Rows.laid_tandem_timer_four), ("tandem/timer.five", Rows.laid_tandem_timer_five)] W) : GOk Cb W := by
  rw [MakeChecks.laidMetH_plain _ _ _ (by kernel_rfl)] at h
  obtain ⟨ps, ⟨u0, t0, cs0, fuel0, p0, q0, hg0, ht0, hv0, hd0, ⟨u1, t1, cs1, fuel1, p1, q1, hg1, ht1, hv1, hd1, ⟨u2, t2, cs2, fuel2, p2, q2, hg2, ht2, hv2, hd2, _, _⟩, _⟩, _⟩, _⟩ := h
  obtain rfl : 0 = u0 := Option.some.inj ((show Tryd.prog.globalNamed "tandem/timer.dividers" = some 0 by kernel_rfl).symm.trans hg0)
  obtain rfl : 1 = u1 := Option.some.inj ((show Tryd.prog.globalNamed "tandem/timer.four" = some 1 by kernel_rfl).symm.trans hg1)
  obtain rfl : 2 = u2 := Option.some.inj ((show Tryd.prog.globalNamed "tandem/timer.five" = some 2 by kernel_rfl).symm.trans hg2)
  obtain rfl : 53 = t0 := Option.some.inj ((show (Tryd.prog.globals[0]?).map (·.type) = some 53 by kernel_rfl).symm.trans ht0)
  obtain rfl : 55 = t1 := Option.some.inj ((show (Tryd.prog.globals[1]?).map (·.type) = some 55 by kernel_rfl).symm.trans ht1)
  obtain rfl : 55 = t2 := Option.some.inj ((show (Tryd.prog.globals[2]?).map (·.type) = some 55 by kernel_rfl).symm.trans ht2)
  have e0 := Lib.cells_of_tab (k := .u64) (zs := [1, 8, 64, 256]) Tryd.underlying53 (by kernel_rfl) (by kernel_rfl) (by kernel_rfl) hd0
  have e1 := mode_cells (r := 29830) (zs := [7457, 14913, 22371, 29829]) hd1
  have e2 := mode_cells (r := 37282) (zs := [7457, 14913, 22371, 37281]) hd2
  obtain rfl : cs0 = #[.int .u64 1, .int .u64 8, .int .u64 64, .int .u64 256] := by apply Array.ext'; rw [e0]; rfl
  obtain rfl : cs1 = #[.int .u64 29830, .int .u64 7457, .int .u64 14913, .int .u64 22371, .int .u64 29829] := by apply Array.ext'; rw [e1]; rfl
  obtain rfl : cs2 = #[.int .u64 37282, .int .u64 7457, .int .u64 14913, .int .u64 22371, .int .u64 37281] := by apply Array.ext'; rw [e2]; rfl
  obtain ⟨ty0, fr0, b0⟩ := var_heap hg0 hv0
  obtain ⟨ty1, fr1, b1⟩ := var_heap hg1 hv1
  obtain ⟨ty2, fr2, b2⟩ := var_heap hg2 hv2
  have s2 := (Array.getElem?_eq_some_iff.1 b2).1
  refine ⟨fun v b hb => ?_, fun g hg => ?_⟩
  · have hb' : H0.get v = some b := hb
    unfold H0 at hb'
    simp only [T.get_n] at hb'
    by_cases v0 : v = 0
    · subst v0
      rw [if_pos rfl] at hb'
      cases hb'
      exact ⟨0, _, ty0, fr0, rfl, rfl, b0, fun h => by cases h⟩
    rw [if_neg v0] at hb'
    by_cases vo : v % 2 = 1
    · rw [if_pos vo] at hb'
      by_cases v1 : (v - 1) / 2 = 0
      · rw [if_pos v1] at hb'
        have : v = 1 := by omega
        subst this
        cases hb'
        exact ⟨1, _, ty1, fr1, rfl, rfl, b1, fun h => by cases h⟩
      · rw [if_neg v1, ite_self] at hb'; cases hb'
    · rw [if_neg vo] at hb'
      by_cases v1 : (v - 1) / 2 = 0
      · rw [if_pos v1] at hb'
        have : v = 2 := by omega
        subst this
        cases hb'
        exact ⟨2, _, ty2, fr2, rfl, rfl, b2, fun h => by cases h⟩
      · rw [if_neg v1, ite_self] at hb'; cases hb'
  · have hg' : g = 0 ∨ g = 1 ∨ g = 2 := by simpa [Cb] using hg
    omega
theorem of_u8 {n : Int} (h : (Lit.int .u8 n).wf = true) : 0 ≤ n ∧ n < 256 := by
  simp [Lit.wf, IntKind.min, IntKind.max, IntKind.signed, IntKind.bits] at h
  omega
theorem of_u16 {n : Int} (h : (Lit.int .u16 n).wf = true) : 0 ≤ n ∧ n < 65536 := by
  simp [Lit.wf, IntKind.min, IntKind.max, IntKind.signed, IntKind.bits] at h
  omega
theorem of_i64 {n : Int} (h : (Lit.int .i64 n).wf = true) : -9223372036854775808 ≤ n ∧ n < 9223372036854775808 := by
  simp [Lit.wf, IntKind.min, IntKind.max, IntKind.signed, IntKind.bits] at h
  omega
theorem okC_of {la co pr ho ct : Int} {fl ov fi inh fr : Bool} {pl wa be : Int} (h0 : (Lit.int .u16 la).wf = true) (h1 : (Lit.int .u16 co).wf = true) (h2 : (Lit.int .u16 pr).wf = true) (h3 : (Lit.int .u8 ho).wf = true) (h4 : (Lit.int .u8 ct).wf = true)
    (h10 : (Lit.int .u16 pl).wf = true) (h11 : (Lit.int .u8 wa).wf = true) (h12 : (Lit.int .u8 be).wf = true) : K.okC ⟨la, co, pr, ho, ct, fl, ov, fi, inh, fr, pl, wa, be⟩ = true :=
  okC_iff.2 ⟨of_u16 h0, of_u16 h1, of_u16 h2, of_u8 h3, of_u8 h4, of_u16 h10, of_u8 h11, of_u8 h12⟩
end Go.Proofs.YthndmfgmlbdekaaDoor.Ev
