-- Made by this seat's own program wip/tools/xprint.py.
import Derived.Test.YtajffjhfecckbaaXAluPartsx0
import Derived.Test.YtajffjhfecckbaaXAluPartsx1
import Derived.Test.YtajffjhfecckbaaXAluPartsx2
namespace Go.Proofs.Ytajffjhfecckbaa.XAluParts
open Go.RowKit Go.Proofs.YtajffjhfecckbaaW.PrintWords Go.Proofs.YtajffjhfecckbaaW.PrintLast Go.Proofs.YtajffjhfecckbaaW.PrintMore
attribute [local go_sem] max2_int min2_int max_two min_two max_three min_three max_four min_four   -- for this text's walks alone
set_option linter.unusedVariables false
set_option linter.unusedSimpArgs false

/-! ### tandemref3_Arr: function 32 -/
def tandemref3_Arr.f (k : Nat) (a0 : Int) (a1 : Int) (a2 : Int) : Option (Int × Int) := (tandemref3_carry.f a2).bind fun t195 => ((tandemref3_carry.f a2).bind fun t196 => (if (Go.bits .and .u8 a2 8) = 0 then ((tandemref3_Nz.f ((wrap64 ((wrap64 (Int.tdiv (wrap64 (Go.bits .and .u8 a0 a1)) 2)) + (wrap64 (128 * t195)))) % 256) a2).bind fun t197 => ((tandemref3_bit.f k (wrap64 ((wrap64 (Int.tdiv (wrap64 (Go.bits .and .u8 a0 a1)) 2)) + (wrap64 (128 * t195)))) 6).bind fun t198 => ((tandemref3_put.f t197 1 t198).bind fun t199 => ((tandemref3_bit.f k (wrap64 ((wrap64 (Int.tdiv (wrap64 (Go.bits .and .u8 a0 a1)) 2)) + (wrap64 (128 * t195)))) 6).bind fun t200 => ((tandemref3_bit.f k (wrap64 ((wrap64 (Int.tdiv (wrap64 (Go.bits .and .u8 a0 a1)) 2)) + (wrap64 (128 * t195)))) 5).bind fun t201 => ((tandemref3_put.f t199 64 (t200 != t201)).bind fun t202 => (some ((wrap64 ((wrap64 (Int.tdiv (wrap64 (Go.bits .and .u8 a0 a1)) 2)) + (wrap64 (128 * t195)))) % 256, t202)))))))) else ((tandemref3_put.f a2 128 (t196 == 1)).bind fun t203 => ((tandemref3_put.f t203 2 ((wrap64 ((wrap64 (Int.tdiv (wrap64 (Go.bits .and .u8 a0 a1)) 2)) + (wrap64 (128 * t195)))) == 0)).bind fun t204 => ((tandemref3_bit.f k (wrap64 (Go.bits .and .u8 a0 a1)) 6).bind fun t205 => ((tandemref3_bit.f k (wrap64 ((wrap64 (Int.tdiv (wrap64 (Go.bits .and .u8 a0 a1)) 2)) + (wrap64 (128 * t195)))) 6).bind fun t206 => ((tandemref3_put.f t204 64 (t205 != t206)).bind fun t207 => (if (wrap64 ((Int.tmod (wrap64 (Go.bits .and .u8 a0 a1)) 16) + (Int.tmod (wrap64 (Go.bits .and .u8 a0 a1)) 2))) > 5 then (if (wrap64 ((wrap64 (16 * (wrap64 (Int.tdiv (wrap64 (Go.bits .and .u8 a0 a1)) 16)))) + (wrap64 (16 * (Int.tmod (wrap64 (Int.tdiv (wrap64 (Go.bits .and .u8 a0 a1)) 16)) 2))))) > 80 then ((tandemref3_put.f t207 1 true).bind fun t208 => (some ((Int.tmod (wrap64 ((wrap64 ((wrap64 (16 * (wrap64 (Int.tdiv (wrap64 ((wrap64 (Int.tdiv (wrap64 (Go.bits .and .u8 a0 a1)) 2)) + (wrap64 (128 * t195)))) 16)))) + (Int.tmod (wrap64 ((wrap64 ((wrap64 (Int.tdiv (wrap64 (Go.bits .and .u8 a0 a1)) 2)) + (wrap64 (128 * t195)))) + 6)) 16))) + 96)) 256) % 256, t208))) else ((tandemref3_put.f t207 1 false).bind fun t209 => (some ((wrap64 ((wrap64 (16 * (wrap64 (Int.tdiv (wrap64 ((wrap64 (Int.tdiv (wrap64 (Go.bits .and .u8 a0 a1)) 2)) + (wrap64 (128 * t195)))) 16)))) + (Int.tmod (wrap64 ((wrap64 ((wrap64 (Int.tdiv (wrap64 (Go.bits .and .u8 a0 a1)) 2)) + (wrap64 (128 * t195)))) + 6)) 16))) % 256, t209)))) else (if (wrap64 ((wrap64 (16 * (wrap64 (Int.tdiv (wrap64 (Go.bits .and .u8 a0 a1)) 16)))) + (wrap64 (16 * (Int.tmod (wrap64 (Int.tdiv (wrap64 (Go.bits .and .u8 a0 a1)) 16)) 2))))) > 80 then ((tandemref3_put.f t207 1 true).bind fun t210 => (some ((Int.tmod (wrap64 ((wrap64 ((wrap64 (Int.tdiv (wrap64 (Go.bits .and .u8 a0 a1)) 2)) + (wrap64 (128 * t195)))) + 96)) 256) % 256, t210))) else ((tandemref3_put.f t207 1 false).bind fun t211 => (some ((wrap64 ((wrap64 (Int.tdiv (wrap64 (Go.bits .and .u8 a0 a1)) 2)) + (wrap64 (128 * t195)))) % 256, t211))))))))))))
theorem tandemref3_Arr.mono : ∀ a0 a1 a2 k, LeO (tandemref3_Arr.f k a0 a1 a2) (tandemref3_Arr.f (k + 1) a0 a1 a2) := by
  intro a0 a1 a2 k
  unfold tandemref3_Arr.f
  repeat' first
      | (with_reducible exact tandemref3_bit.mono _ _ _)
      | (with_reducible exact LeO.refl _)
      | (with_reducible exact LeO.none _)
      | (with_reducible refine LeO.ite ?_ ?_)
      | (with_reducible refine LeO.bind ?_ (fun _ => ?_))
      | exact tandemref3_bit.mono _ _ _
      | exact LeO.none _
      | refine LeO.ite ?_ ?_
      | refine LeO.bind ?_ (fun _ => ?_)
set_option maxHeartbeats 8000000 in
set_option maxRecDepth 100000 in
theorem tandemref3_Arr.calls (k : Nat) (a0 : Int) (a1 : Int) (a2 : Int) (r1 : Int) (r2 : Int) (w : World) (h : tandemref3_Arr.f k a0 a1 a2 = some (r1, r2)) :
    Calls Try.prog 32 #[.int .u8 a0, .int .u8 a1, .int .u8 a2] w fun e w' => e = .returned (.tuple #[.int .u8 r1, .int .u8 r2]) ∧ Drawn0 w w' := by
  have H : ((tandemref3_carry.f a2).bind fun t195 => ((tandemref3_carry.f a2).bind fun t196 => (if (Go.bits .and .u8 a2 8) = 0 then ((tandemref3_Nz.f ((wrap64 ((wrap64 (Int.tdiv (wrap64 (Go.bits .and .u8 a0 a1)) 2)) + (wrap64 (128 * t195)))) % 256) a2).bind fun t197 => ((tandemref3_bit.f k (wrap64 ((wrap64 (Int.tdiv (wrap64 (Go.bits .and .u8 a0 a1)) 2)) + (wrap64 (128 * t195)))) 6).bind fun t198 => ((tandemref3_put.f t197 1 t198).bind fun t199 => ((tandemref3_bit.f k (wrap64 ((wrap64 (Int.tdiv (wrap64 (Go.bits .and .u8 a0 a1)) 2)) + (wrap64 (128 * t195)))) 6).bind fun t200 => ((tandemref3_bit.f k (wrap64 ((wrap64 (Int.tdiv (wrap64 (Go.bits .and .u8 a0 a1)) 2)) + (wrap64 (128 * t195)))) 5).bind fun t201 => ((tandemref3_put.f t199 64 (t200 != t201)).bind fun t202 => (some ((wrap64 ((wrap64 (Int.tdiv (wrap64 (Go.bits .and .u8 a0 a1)) 2)) + (wrap64 (128 * t195)))) % 256, t202)))))))) else ((tandemref3_put.f a2 128 (t196 == 1)).bind fun t203 => ((tandemref3_put.f t203 2 ((wrap64 ((wrap64 (Int.tdiv (wrap64 (Go.bits .and .u8 a0 a1)) 2)) + (wrap64 (128 * t195)))) == 0)).bind fun t204 => ((tandemref3_bit.f k (wrap64 (Go.bits .and .u8 a0 a1)) 6).bind fun t205 => ((tandemref3_bit.f k (wrap64 ((wrap64 (Int.tdiv (wrap64 (Go.bits .and .u8 a0 a1)) 2)) + (wrap64 (128 * t195)))) 6).bind fun t206 => ((tandemref3_put.f t204 64 (t205 != t206)).bind fun t207 => (if (wrap64 ((Int.tmod (wrap64 (Go.bits .and .u8 a0 a1)) 16) + (Int.tmod (wrap64 (Go.bits .and .u8 a0 a1)) 2))) > 5 then (if (wrap64 ((wrap64 (16 * (wrap64 (Int.tdiv (wrap64 (Go.bits .and .u8 a0 a1)) 16)))) + (wrap64 (16 * (Int.tmod (wrap64 (Int.tdiv (wrap64 (Go.bits .and .u8 a0 a1)) 16)) 2))))) > 80 then ((tandemref3_put.f t207 1 true).bind fun t208 => (some ((Int.tmod (wrap64 ((wrap64 ((wrap64 (16 * (wrap64 (Int.tdiv (wrap64 ((wrap64 (Int.tdiv (wrap64 (Go.bits .and .u8 a0 a1)) 2)) + (wrap64 (128 * t195)))) 16)))) + (Int.tmod (wrap64 ((wrap64 ((wrap64 (Int.tdiv (wrap64 (Go.bits .and .u8 a0 a1)) 2)) + (wrap64 (128 * t195)))) + 6)) 16))) + 96)) 256) % 256, t208))) else ((tandemref3_put.f t207 1 false).bind fun t209 => (some ((wrap64 ((wrap64 (16 * (wrap64 (Int.tdiv (wrap64 ((wrap64 (Int.tdiv (wrap64 (Go.bits .and .u8 a0 a1)) 2)) + (wrap64 (128 * t195)))) 16)))) + (Int.tmod (wrap64 ((wrap64 ((wrap64 (Int.tdiv (wrap64 (Go.bits .and .u8 a0 a1)) 2)) + (wrap64 (128 * t195)))) + 6)) 16))) % 256, t209)))) else (if (wrap64 ((wrap64 (16 * (wrap64 (Int.tdiv (wrap64 (Go.bits .and .u8 a0 a1)) 16)))) + (wrap64 (16 * (Int.tmod (wrap64 (Int.tdiv (wrap64 (Go.bits .and .u8 a0 a1)) 16)) 2))))) > 80 then ((tandemref3_put.f t207 1 true).bind fun t210 => (some ((Int.tmod (wrap64 ((wrap64 ((wrap64 (Int.tdiv (wrap64 (Go.bits .and .u8 a0 a1)) 2)) + (wrap64 (128 * t195)))) + 96)) 256) % 256, t210))) else ((tandemref3_put.f t207 1 false).bind fun t211 => (some ((wrap64 ((wrap64 (Int.tdiv (wrap64 (Go.bits .and .u8 a0 a1)) 2)) + (wrap64 (128 * t195)))) % 256, t211))))))))))))) = some (r1, r2) := h
  clear h
  replace H := Option.bind_eq_some_iff.mp H
  obtain ⟨t195, A40, H⟩ := H
  replace H : ((tandemref3_carry.f a2).bind fun t196 => (if (Go.bits .and .u8 a2 8) = 0 then ((tandemref3_Nz.f ((wrap64 ((wrap64 (Int.tdiv (wrap64 (Go.bits .and .u8 a0 a1)) 2)) + (wrap64 (128 * t195)))) % 256) a2).bind fun t197 => ((tandemref3_bit.f k (wrap64 ((wrap64 (Int.tdiv (wrap64 (Go.bits .and .u8 a0 a1)) 2)) + (wrap64 (128 * t195)))) 6).bind fun t198 => ((tandemref3_put.f t197 1 t198).bind fun t199 => ((tandemref3_bit.f k (wrap64 ((wrap64 (Int.tdiv (wrap64 (Go.bits .and .u8 a0 a1)) 2)) + (wrap64 (128 * t195)))) 6).bind fun t200 => ((tandemref3_bit.f k (wrap64 ((wrap64 (Int.tdiv (wrap64 (Go.bits .and .u8 a0 a1)) 2)) + (wrap64 (128 * t195)))) 5).bind fun t201 => ((tandemref3_put.f t199 64 (t200 != t201)).bind fun t202 => (some ((wrap64 ((wrap64 (Int.tdiv (wrap64 (Go.bits .and .u8 a0 a1)) 2)) + (wrap64 (128 * t195)))) % 256, t202)))))))) else ((tandemref3_put.f a2 128 (t196 == 1)).bind fun t203 => ((tandemref3_put.f t203 2 ((wrap64 ((wrap64 (Int.tdiv (wrap64 (Go.bits .and .u8 a0 a1)) 2)) + (wrap64 (128 * t195)))) == 0)).bind fun t204 => ((tandemref3_bit.f k (wrap64 (Go.bits .and .u8 a0 a1)) 6).bind fun t205 => ((tandemref3_bit.f k (wrap64 ((wrap64 (Int.tdiv (wrap64 (Go.bits .and .u8 a0 a1)) 2)) + (wrap64 (128 * t195)))) 6).bind fun t206 => ((tandemref3_put.f t204 64 (t205 != t206)).bind fun t207 => (if (wrap64 ((Int.tmod (wrap64 (Go.bits .and .u8 a0 a1)) 16) + (Int.tmod (wrap64 (Go.bits .and .u8 a0 a1)) 2))) > 5 then (if (wrap64 ((wrap64 (16 * (wrap64 (Int.tdiv (wrap64 (Go.bits .and .u8 a0 a1)) 16)))) + (wrap64 (16 * (Int.tmod (wrap64 (Int.tdiv (wrap64 (Go.bits .and .u8 a0 a1)) 16)) 2))))) > 80 then ((tandemref3_put.f t207 1 true).bind fun t208 => (some ((Int.tmod (wrap64 ((wrap64 ((wrap64 (16 * (wrap64 (Int.tdiv (wrap64 ((wrap64 (Int.tdiv (wrap64 (Go.bits .and .u8 a0 a1)) 2)) + (wrap64 (128 * t195)))) 16)))) + (Int.tmod (wrap64 ((wrap64 ((wrap64 (Int.tdiv (wrap64 (Go.bits .and .u8 a0 a1)) 2)) + (wrap64 (128 * t195)))) + 6)) 16))) + 96)) 256) % 256, t208))) else ((tandemref3_put.f t207 1 false).bind fun t209 => (some ((wrap64 ((wrap64 (16 * (wrap64 (Int.tdiv (wrap64 ((wrap64 (Int.tdiv (wrap64 (Go.bits .and .u8 a0 a1)) 2)) + (wrap64 (128 * t195)))) 16)))) + (Int.tmod (wrap64 ((wrap64 ((wrap64 (Int.tdiv (wrap64 (Go.bits .and .u8 a0 a1)) 2)) + (wrap64 (128 * t195)))) + 6)) 16))) % 256, t209)))) else (if (wrap64 ((wrap64 (16 * (wrap64 (Int.tdiv (wrap64 (Go.bits .and .u8 a0 a1)) 16)))) + (wrap64 (16 * (Int.tmod (wrap64 (Int.tdiv (wrap64 (Go.bits .and .u8 a0 a1)) 16)) 2))))) > 80 then ((tandemref3_put.f t207 1 true).bind fun t210 => (some ((Int.tmod (wrap64 ((wrap64 ((wrap64 (Int.tdiv (wrap64 (Go.bits .and .u8 a0 a1)) 2)) + (wrap64 (128 * t195)))) + 96)) 256) % 256, t210))) else ((tandemref3_put.f t207 1 false).bind fun t211 => (some ((wrap64 ((wrap64 (Int.tdiv (wrap64 (Go.bits .and .u8 a0 a1)) 2)) + (wrap64 (128 * t195)))) % 256, t211)))))))))))) = some (r1, r2) := H
  have A4 := Aside0.mk A40
  clear A40
  replace H := Option.bind_eq_some_iff.mp H
  obtain ⟨t196, A50, H⟩ := H
  replace H : (if (Go.bits .and .u8 a2 8) = 0 then ((tandemref3_Nz.f ((wrap64 ((wrap64 (Int.tdiv (wrap64 (Go.bits .and .u8 a0 a1)) 2)) + (wrap64 (128 * t195)))) % 256) a2).bind fun t197 => ((tandemref3_bit.f k (wrap64 ((wrap64 (Int.tdiv (wrap64 (Go.bits .and .u8 a0 a1)) 2)) + (wrap64 (128 * t195)))) 6).bind fun t198 => ((tandemref3_put.f t197 1 t198).bind fun t199 => ((tandemref3_bit.f k (wrap64 ((wrap64 (Int.tdiv (wrap64 (Go.bits .and .u8 a0 a1)) 2)) + (wrap64 (128 * t195)))) 6).bind fun t200 => ((tandemref3_bit.f k (wrap64 ((wrap64 (Int.tdiv (wrap64 (Go.bits .and .u8 a0 a1)) 2)) + (wrap64 (128 * t195)))) 5).bind fun t201 => ((tandemref3_put.f t199 64 (t200 != t201)).bind fun t202 => (some ((wrap64 ((wrap64 (Int.tdiv (wrap64 (Go.bits .and .u8 a0 a1)) 2)) + (wrap64 (128 * t195)))) % 256, t202)))))))) else ((tandemref3_put.f a2 128 (t196 == 1)).bind fun t203 => ((tandemref3_put.f t203 2 ((wrap64 ((wrap64 (Int.tdiv (wrap64 (Go.bits .and .u8 a0 a1)) 2)) + (wrap64 (128 * t195)))) == 0)).bind fun t204 => ((tandemref3_bit.f k (wrap64 (Go.bits .and .u8 a0 a1)) 6).bind fun t205 => ((tandemref3_bit.f k (wrap64 ((wrap64 (Int.tdiv (wrap64 (Go.bits .and .u8 a0 a1)) 2)) + (wrap64 (128 * t195)))) 6).bind fun t206 => ((tandemref3_put.f t204 64 (t205 != t206)).bind fun t207 => (if (wrap64 ((Int.tmod (wrap64 (Go.bits .and .u8 a0 a1)) 16) + (Int.tmod (wrap64 (Go.bits .and .u8 a0 a1)) 2))) > 5 then (if (wrap64 ((wrap64 (16 * (wrap64 (Int.tdiv (wrap64 (Go.bits .and .u8 a0 a1)) 16)))) + (wrap64 (16 * (Int.tmod (wrap64 (Int.tdiv (wrap64 (Go.bits .and .u8 a0 a1)) 16)) 2))))) > 80 then ((tandemref3_put.f t207 1 true).bind fun t208 => (some ((Int.tmod (wrap64 ((wrap64 ((wrap64 (16 * (wrap64 (Int.tdiv (wrap64 ((wrap64 (Int.tdiv (wrap64 (Go.bits .and .u8 a0 a1)) 2)) + (wrap64 (128 * t195)))) 16)))) + (Int.tmod (wrap64 ((wrap64 ((wrap64 (Int.tdiv (wrap64 (Go.bits .and .u8 a0 a1)) 2)) + (wrap64 (128 * t195)))) + 6)) 16))) + 96)) 256) % 256, t208))) else ((tandemref3_put.f t207 1 false).bind fun t209 => (some ((wrap64 ((wrap64 (16 * (wrap64 (Int.tdiv (wrap64 ((wrap64 (Int.tdiv (wrap64 (Go.bits .and .u8 a0 a1)) 2)) + (wrap64 (128 * t195)))) 16)))) + (Int.tmod (wrap64 ((wrap64 ((wrap64 (Int.tdiv (wrap64 (Go.bits .and .u8 a0 a1)) 2)) + (wrap64 (128 * t195)))) + 6)) 16))) % 256, t209)))) else (if (wrap64 ((wrap64 (16 * (wrap64 (Int.tdiv (wrap64 (Go.bits .and .u8 a0 a1)) 16)))) + (wrap64 (16 * (Int.tmod (wrap64 (Int.tdiv (wrap64 (Go.bits .and .u8 a0 a1)) 16)) 2))))) > 80 then ((tandemref3_put.f t207 1 true).bind fun t210 => (some ((Int.tmod (wrap64 ((wrap64 ((wrap64 (Int.tdiv (wrap64 (Go.bits .and .u8 a0 a1)) 2)) + (wrap64 (128 * t195)))) + 96)) 256) % 256, t210))) else ((tandemref3_put.f t207 1 false).bind fun t211 => (some ((wrap64 ((wrap64 (Int.tdiv (wrap64 (Go.bits .and .u8 a0 a1)) 2)) + (wrap64 (128 * t195)))) % 256, t211))))))))))) = some (r1, r2) := H
  have A5 := Aside0.mk A50
  clear A50
  by_cases c6 : (Go.bits .and .u8 a2 8) = 0
  · rw [if_pos c6] at H
    have c6b0 : ((Go.bits .and .u8 a2 8) == 0) = true := beq_iff_eq.mpr c6
    have c6b1 : ((Go.bits .and .u8 a2 8) != 0) = false := bne_eq_false_iff_eq.mpr c6
    clear c6
    replace H := Option.bind_eq_some_iff.mp H
    obtain ⟨t197, A70, H⟩ := H
    replace H : ((tandemref3_bit.f k (wrap64 ((wrap64 (Int.tdiv (wrap64 (Go.bits .and .u8 a0 a1)) 2)) + (wrap64 (128 * t195)))) 6).bind fun t198 => ((tandemref3_put.f t197 1 t198).bind fun t199 => ((tandemref3_bit.f k (wrap64 ((wrap64 (Int.tdiv (wrap64 (Go.bits .and .u8 a0 a1)) 2)) + (wrap64 (128 * t195)))) 6).bind fun t200 => ((tandemref3_bit.f k (wrap64 ((wrap64 (Int.tdiv (wrap64 (Go.bits .and .u8 a0 a1)) 2)) + (wrap64 (128 * t195)))) 5).bind fun t201 => ((tandemref3_put.f t199 64 (t200 != t201)).bind fun t202 => (some ((wrap64 ((wrap64 (Int.tdiv (wrap64 (Go.bits .and .u8 a0 a1)) 2)) + (wrap64 (128 * t195)))) % 256, t202))))))) = some (r1, r2) := H
    have A7 := Aside0.mk A70
    clear A70
    replace H := Option.bind_eq_some_iff.mp H
    obtain ⟨t198, A80, H⟩ := H
    replace H : ((tandemref3_put.f t197 1 t198).bind fun t199 => ((tandemref3_bit.f k (wrap64 ((wrap64 (Int.tdiv (wrap64 (Go.bits .and .u8 a0 a1)) 2)) + (wrap64 (128 * t195)))) 6).bind fun t200 => ((tandemref3_bit.f k (wrap64 ((wrap64 (Int.tdiv (wrap64 (Go.bits .and .u8 a0 a1)) 2)) + (wrap64 (128 * t195)))) 5).bind fun t201 => ((tandemref3_put.f t199 64 (t200 != t201)).bind fun t202 => (some ((wrap64 ((wrap64 (Int.tdiv (wrap64 (Go.bits .and .u8 a0 a1)) 2)) + (wrap64 (128 * t195)))) % 256, t202)))))) = some (r1, r2) := H
    have A8 := Aside0.mk A80
    clear A80
    replace H := Option.bind_eq_some_iff.mp H
    obtain ⟨t199, A90, H⟩ := H
    replace H : ((tandemref3_bit.f k (wrap64 ((wrap64 (Int.tdiv (wrap64 (Go.bits .and .u8 a0 a1)) 2)) + (wrap64 (128 * t195)))) 6).bind fun t200 => ((tandemref3_bit.f k (wrap64 ((wrap64 (Int.tdiv (wrap64 (Go.bits .and .u8 a0 a1)) 2)) + (wrap64 (128 * t195)))) 5).bind fun t201 => ((tandemref3_put.f t199 64 (t200 != t201)).bind fun t202 => (some ((wrap64 ((wrap64 (Int.tdiv (wrap64 (Go.bits .and .u8 a0 a1)) 2)) + (wrap64 (128 * t195)))) % 256, t202))))) = some (r1, r2) := H
    have A9 := Aside0.mk A90
    clear A90
    replace H := Option.bind_eq_some_iff.mp H
    obtain ⟨t200, A100, H⟩ := H
    replace H : ((tandemref3_bit.f k (wrap64 ((wrap64 (Int.tdiv (wrap64 (Go.bits .and .u8 a0 a1)) 2)) + (wrap64 (128 * t195)))) 5).bind fun t201 => ((tandemref3_put.f t199 64 (t200 != t201)).bind fun t202 => (some ((wrap64 ((wrap64 (Int.tdiv (wrap64 (Go.bits .and .u8 a0 a1)) 2)) + (wrap64 (128 * t195)))) % 256, t202)))) = some (r1, r2) := H
    have A10 := Aside0.mk A100
    clear A100
    replace H := Option.bind_eq_some_iff.mp H
    obtain ⟨t201, A110, H⟩ := H
    replace H : ((tandemref3_put.f t199 64 (t200 != t201)).bind fun t202 => (some ((wrap64 ((wrap64 (Int.tdiv (wrap64 (Go.bits .and .u8 a0 a1)) 2)) + (wrap64 (128 * t195)))) % 256, t202))) = some (r1, r2) := H
    have A11 := Aside0.mk A110
    clear A110
    replace H := Option.bind_eq_some_iff.mp H
    obtain ⟨t202, A120, H⟩ := H
    replace H : (some ((wrap64 ((wrap64 (Int.tdiv (wrap64 (Go.bits .and .u8 a0 a1)) 2)) + (wrap64 (128 * t195)))) % 256, t202)) = some (r1, r2) := H
    have A12 := Aside0.mk A120
    clear A120
    simp only [Option.some.injEq, Prod.mk.injEq] at H
    obtain ⟨rfl, rfl⟩ := H
    go_enter Try.func32, Try.ntmps32
    go_wp2_with (first | ((with_reducible refine gate_callee (f := 40) rfl ?_); refine goesL_ (some 20) rfl rfl Try.func40 (by kernel_rfl) rfl #[.int .u8 a2] rfl (by (try simp only [List.map_toArray, List.map_cons, List.map_nil]); first | done | rfl | (simp only [List.length_drop, List.length_take]; rfl)) ?_; (with_reducible refine (tandemref3_carry.calls a2 t195 _ A4.out).mono ?_); rintro e w' ⟨rfl, ⟨nd, rfl⟩⟩; refine ⟨_, rfl, ?_⟩) | ((with_reducible refine gate_callee (f := 40) rfl ?_); refine goesL_ (some 24) rfl rfl Try.func40 (by kernel_rfl) rfl #[.int .u8 a2] rfl (by (try simp only [List.map_toArray, List.map_cons, List.map_nil]); first | done | rfl | (simp only [List.length_drop, List.length_take]; rfl)) ?_; (with_reducible refine (tandemref3_carry.calls a2 t196 _ A5.out).mono ?_); rintro e w' ⟨rfl, ⟨nd, rfl⟩⟩; refine ⟨_, rfl, ?_⟩) | ((with_reducible refine gate_callee (f := 26) rfl ?_); refine goesL_ (some 32) rfl rfl Try.func26 (by kernel_rfl) rfl #[.int .u8 ((wrap64 ((wrap64 (Int.tdiv (wrap64 (Go.bits .and .u8 a0 a1)) 2)) + (wrap64 (128 * t195)))) % 256), .int .u8 a2] rfl (by (try simp only [List.map_toArray, List.map_cons, List.map_nil]); first | done | rfl | (simp only [List.length_drop, List.length_take]; rfl)) ?_; (with_reducible refine (tandemref3_Nz.calls ((wrap64 ((wrap64 (Int.tdiv (wrap64 (Go.bits .and .u8 a0 a1)) 2)) + (wrap64 (128 * t195)))) % 256) a2 t197 _ A7.out).mono ?_); rintro e w' ⟨rfl, ⟨nd, rfl⟩⟩; refine ⟨_, rfl, ?_⟩) | ((with_reducible refine gate_callee (f := 42) rfl ?_); refine goesL_ (some 35) rfl rfl Try.func42 (by kernel_rfl) rfl #[.int .i64 (wrap64 ((wrap64 (Int.tdiv (wrap64 (Go.bits .and .u8 a0 a1)) 2)) + (wrap64 (128 * t195)))), .int .i64 6] rfl (by (try simp only [List.map_toArray, List.map_cons, List.map_nil]); first | done | rfl | (simp only [List.length_drop, List.length_take]; rfl)) ?_; (with_reducible refine (tandemref3_bit.calls k (wrap64 ((wrap64 (Int.tdiv (wrap64 (Go.bits .and .u8 a0 a1)) 2)) + (wrap64 (128 * t195)))) 6 t198 _ A8.out).mono ?_); rintro e w' ⟨rfl, ⟨nd, rfl⟩⟩; refine ⟨_, rfl, ?_⟩) | ((with_reducible refine gate_callee (f := 38) rfl ?_); refine goesL_ (some 36) rfl rfl Try.func38 (by kernel_rfl) rfl #[.int .u8 t197, .int .u8 1, .bool t198] rfl (by (try simp only [List.map_toArray, List.map_cons, List.map_nil]); first | done | rfl | (simp only [List.length_drop, List.length_take]; rfl)) ?_; (with_reducible refine (tandemref3_put.calls t197 1 t198 t199 _ A9.out).mono ?_); rintro e w' ⟨rfl, ⟨nd, rfl⟩⟩; refine ⟨_, rfl, ?_⟩) | ((with_reducible refine gate_callee (f := 42) rfl ?_); refine goesL_ (some 41) rfl rfl Try.func42 (by kernel_rfl) rfl #[.int .i64 (wrap64 ((wrap64 (Int.tdiv (wrap64 (Go.bits .and .u8 a0 a1)) 2)) + (wrap64 (128 * t195)))), .int .i64 6] rfl (by (try simp only [List.map_toArray, List.map_cons, List.map_nil]); first | done | rfl | (simp only [List.length_drop, List.length_take]; rfl)) ?_; (with_reducible refine (tandemref3_bit.calls k (wrap64 ((wrap64 (Int.tdiv (wrap64 (Go.bits .and .u8 a0 a1)) 2)) + (wrap64 (128 * t195)))) 6 t200 _ A10.out).mono ?_); rintro e w' ⟨rfl, ⟨nd, rfl⟩⟩; refine ⟨_, rfl, ?_⟩) | ((with_reducible refine gate_callee (f := 42) rfl ?_); refine goesL_ (some 43) rfl rfl Try.func42 (by kernel_rfl) rfl #[.int .i64 (wrap64 ((wrap64 (Int.tdiv (wrap64 (Go.bits .and .u8 a0 a1)) 2)) + (wrap64 (128 * t195)))), .int .i64 5] rfl (by (try simp only [List.map_toArray, List.map_cons, List.map_nil]); first | done | rfl | (simp only [List.length_drop, List.length_take]; rfl)) ?_; (with_reducible refine (tandemref3_bit.calls k (wrap64 ((wrap64 (Int.tdiv (wrap64 (Go.bits .and .u8 a0 a1)) 2)) + (wrap64 (128 * t195)))) 5 t201 _ A11.out).mono ?_); rintro e w' ⟨rfl, ⟨nd, rfl⟩⟩; refine ⟨_, rfl, ?_⟩) | ((with_reducible refine gate_callee (f := 38) rfl ?_); refine goesL_ (some 45) rfl rfl Try.func38 (by kernel_rfl) rfl #[.int .u8 t199, .int .u8 64, .bool (t200 != t201)] rfl (by (try simp only [List.map_toArray, List.map_cons, List.map_nil]); first | done | rfl | (simp only [List.length_drop, List.length_take]; rfl)) ?_; (with_reducible refine (tandemref3_put.calls t199 64 (t200 != t201) t202 _ A12.out).mono ?_); rintro e w' ⟨rfl, ⟨nd, rfl⟩⟩; refine ⟨_, rfl, ?_⟩))
    go_ret2
    exact ⟨by first | rfl | (simp; done) | (simp [*]; done), by repeat (first | exact Drawn0.refl _ | apply Drawn0.step)⟩
  · rw [if_neg c6] at H
    have c6b0 : ((Go.bits .and .u8 a2 8) == 0) = false := beq_eq_false_iff_ne.mpr c6
    have c6b1 : ((Go.bits .and .u8 a2 8) != 0) = true := bne_iff_ne.mpr c6
    replace H := Option.bind_eq_some_iff.mp H
    obtain ⟨t203, A130, H⟩ := H
    replace H : ((tandemref3_put.f t203 2 ((wrap64 ((wrap64 (Int.tdiv (wrap64 (Go.bits .and .u8 a0 a1)) 2)) + (wrap64 (128 * t195)))) == 0)).bind fun t204 => ((tandemref3_bit.f k (wrap64 (Go.bits .and .u8 a0 a1)) 6).bind fun t205 => ((tandemref3_bit.f k (wrap64 ((wrap64 (Int.tdiv (wrap64 (Go.bits .and .u8 a0 a1)) 2)) + (wrap64 (128 * t195)))) 6).bind fun t206 => ((tandemref3_put.f t204 64 (t205 != t206)).bind fun t207 => (if (wrap64 ((Int.tmod (wrap64 (Go.bits .and .u8 a0 a1)) 16) + (Int.tmod (wrap64 (Go.bits .and .u8 a0 a1)) 2))) > 5 then (if (wrap64 ((wrap64 (16 * (wrap64 (Int.tdiv (wrap64 (Go.bits .and .u8 a0 a1)) 16)))) + (wrap64 (16 * (Int.tmod (wrap64 (Int.tdiv (wrap64 (Go.bits .and .u8 a0 a1)) 16)) 2))))) > 80 then ((tandemref3_put.f t207 1 true).bind fun t208 => (some ((Int.tmod (wrap64 ((wrap64 ((wrap64 (16 * (wrap64 (Int.tdiv (wrap64 ((wrap64 (Int.tdiv (wrap64 (Go.bits .and .u8 a0 a1)) 2)) + (wrap64 (128 * t195)))) 16)))) + (Int.tmod (wrap64 ((wrap64 ((wrap64 (Int.tdiv (wrap64 (Go.bits .and .u8 a0 a1)) 2)) + (wrap64 (128 * t195)))) + 6)) 16))) + 96)) 256) % 256, t208))) else ((tandemref3_put.f t207 1 false).bind fun t209 => (some ((wrap64 ((wrap64 (16 * (wrap64 (Int.tdiv (wrap64 ((wrap64 (Int.tdiv (wrap64 (Go.bits .and .u8 a0 a1)) 2)) + (wrap64 (128 * t195)))) 16)))) + (Int.tmod (wrap64 ((wrap64 ((wrap64 (Int.tdiv (wrap64 (Go.bits .and .u8 a0 a1)) 2)) + (wrap64 (128 * t195)))) + 6)) 16))) % 256, t209)))) else (if (wrap64 ((wrap64 (16 * (wrap64 (Int.tdiv (wrap64 (Go.bits .and .u8 a0 a1)) 16)))) + (wrap64 (16 * (Int.tmod (wrap64 (Int.tdiv (wrap64 (Go.bits .and .u8 a0 a1)) 16)) 2))))) > 80 then ((tandemref3_put.f t207 1 true).bind fun t210 => (some ((Int.tmod (wrap64 ((wrap64 ((wrap64 (Int.tdiv (wrap64 (Go.bits .and .u8 a0 a1)) 2)) + (wrap64 (128 * t195)))) + 96)) 256) % 256, t210))) else ((tandemref3_put.f t207 1 false).bind fun t211 => (some ((wrap64 ((wrap64 (Int.tdiv (wrap64 (Go.bits .and .u8 a0 a1)) 2)) + (wrap64 (128 * t195)))) % 256, t211))))))))) = some (r1, r2) := H
    have A13 := Aside0.mk A130
    clear A130
    replace H := Option.bind_eq_some_iff.mp H
    obtain ⟨t204, A140, H⟩ := H
    replace H : ((tandemref3_bit.f k (wrap64 (Go.bits .and .u8 a0 a1)) 6).bind fun t205 => ((tandemref3_bit.f k (wrap64 ((wrap64 (Int.tdiv (wrap64 (Go.bits .and .u8 a0 a1)) 2)) + (wrap64 (128 * t195)))) 6).bind fun t206 => ((tandemref3_put.f t204 64 (t205 != t206)).bind fun t207 => (if (wrap64 ((Int.tmod (wrap64 (Go.bits .and .u8 a0 a1)) 16) + (Int.tmod (wrap64 (Go.bits .and .u8 a0 a1)) 2))) > 5 then (if (wrap64 ((wrap64 (16 * (wrap64 (Int.tdiv (wrap64 (Go.bits .and .u8 a0 a1)) 16)))) + (wrap64 (16 * (Int.tmod (wrap64 (Int.tdiv (wrap64 (Go.bits .and .u8 a0 a1)) 16)) 2))))) > 80 then ((tandemref3_put.f t207 1 true).bind fun t208 => (some ((Int.tmod (wrap64 ((wrap64 ((wrap64 (16 * (wrap64 (Int.tdiv (wrap64 ((wrap64 (Int.tdiv (wrap64 (Go.bits .and .u8 a0 a1)) 2)) + (wrap64 (128 * t195)))) 16)))) + (Int.tmod (wrap64 ((wrap64 ((wrap64 (Int.tdiv (wrap64 (Go.bits .and .u8 a0 a1)) 2)) + (wrap64 (128 * t195)))) + 6)) 16))) + 96)) 256) % 256, t208))) else ((tandemref3_put.f t207 1 false).bind fun t209 => (some ((wrap64 ((wrap64 (16 * (wrap64 (Int.tdiv (wrap64 ((wrap64 (Int.tdiv (wrap64 (Go.bits .and .u8 a0 a1)) 2)) + (wrap64 (128 * t195)))) 16)))) + (Int.tmod (wrap64 ((wrap64 ((wrap64 (Int.tdiv (wrap64 (Go.bits .and .u8 a0 a1)) 2)) + (wrap64 (128 * t195)))) + 6)) 16))) % 256, t209)))) else (if (wrap64 ((wrap64 (16 * (wrap64 (Int.tdiv (wrap64 (Go.bits .and .u8 a0 a1)) 16)))) + (wrap64 (16 * (Int.tmod (wrap64 (Int.tdiv (wrap64 (Go.bits .and .u8 a0 a1)) 16)) 2))))) > 80 then ((tandemref3_put.f t207 1 true).bind fun t210 => (some ((Int.tmod (wrap64 ((wrap64 ((wrap64 (Int.tdiv (wrap64 (Go.bits .and .u8 a0 a1)) 2)) + (wrap64 (128 * t195)))) + 96)) 256) % 256, t210))) else ((tandemref3_put.f t207 1 false).bind fun t211 => (some ((wrap64 ((wrap64 (Int.tdiv (wrap64 (Go.bits .and .u8 a0 a1)) 2)) + (wrap64 (128 * t195)))) % 256, t211)))))))) = some (r1, r2) := H
    have A14 := Aside0.mk A140
    clear A140
    replace H := Option.bind_eq_some_iff.mp H
    obtain ⟨t205, A150, H⟩ := H
    replace H : ((tandemref3_bit.f k (wrap64 ((wrap64 (Int.tdiv (wrap64 (Go.bits .and .u8 a0 a1)) 2)) + (wrap64 (128 * t195)))) 6).bind fun t206 => ((tandemref3_put.f t204 64 (t205 != t206)).bind fun t207 => (if (wrap64 ((Int.tmod (wrap64 (Go.bits .and .u8 a0 a1)) 16) + (Int.tmod (wrap64 (Go.bits .and .u8 a0 a1)) 2))) > 5 then (if (wrap64 ((wrap64 (16 * (wrap64 (Int.tdiv (wrap64 (Go.bits .and .u8 a0 a1)) 16)))) + (wrap64 (16 * (Int.tmod (wrap64 (Int.tdiv (wrap64 (Go.bits .and .u8 a0 a1)) 16)) 2))))) > 80 then ((tandemref3_put.f t207 1 true).bind fun t208 => (some ((Int.tmod (wrap64 ((wrap64 ((wrap64 (16 * (wrap64 (Int.tdiv (wrap64 ((wrap64 (Int.tdiv (wrap64 (Go.bits .and .u8 a0 a1)) 2)) + (wrap64 (128 * t195)))) 16)))) + (Int.tmod (wrap64 ((wrap64 ((wrap64 (Int.tdiv (wrap64 (Go.bits .and .u8 a0 a1)) 2)) + (wrap64 (128 * t195)))) + 6)) 16))) + 96)) 256) % 256, t208))) else ((tandemref3_put.f t207 1 false).bind fun t209 => (some ((wrap64 ((wrap64 (16 * (wrap64 (Int.tdiv (wrap64 ((wrap64 (Int.tdiv (wrap64 (Go.bits .and .u8 a0 a1)) 2)) + (wrap64 (128 * t195)))) 16)))) + (Int.tmod (wrap64 ((wrap64 ((wrap64 (Int.tdiv (wrap64 (Go.bits .and .u8 a0 a1)) 2)) + (wrap64 (128 * t195)))) + 6)) 16))) % 256, t209)))) else (if (wrap64 ((wrap64 (16 * (wrap64 (Int.tdiv (wrap64 (Go.bits .and .u8 a0 a1)) 16)))) + (wrap64 (16 * (Int.tmod (wrap64 (Int.tdiv (wrap64 (Go.bits .and .u8 a0 a1)) 16)) 2))))) > 80 then ((tandemref3_put.f t207 1 true).bind fun t210 => (some ((Int.tmod (wrap64 ((wrap64 ((wrap64 (Int.tdiv (wrap64 (Go.bits .and .u8 a0 a1)) 2)) + (wrap64 (128 * t195)))) + 96)) 256) % 256, t210))) else ((tandemref3_put.f t207 1 false).bind fun t211 => (some ((wrap64 ((wrap64 (Int.tdiv (wrap64 (Go.bits .and .u8 a0 a1)) 2)) + (wrap64 (128 * t195)))) % 256, t211))))))) = some (r1, r2) := H
    have A15 := Aside0.mk A150
    clear A150
    replace H := Option.bind_eq_some_iff.mp H
    obtain ⟨t206, A160, H⟩ := H
    replace H : ((tandemref3_put.f t204 64 (t205 != t206)).bind fun t207 => (if (wrap64 ((Int.tmod (wrap64 (Go.bits .and .u8 a0 a1)) 16) + (Int.tmod (wrap64 (Go.bits .and .u8 a0 a1)) 2))) > 5 then (if (wrap64 ((wrap64 (16 * (wrap64 (Int.tdiv (wrap64 (Go.bits .and .u8 a0 a1)) 16)))) + (wrap64 (16 * (Int.tmod (wrap64 (Int.tdiv (wrap64 (Go.bits .and .u8 a0 a1)) 16)) 2))))) > 80 then ((tandemref3_put.f t207 1 true).bind fun t208 => (some ((Int.tmod (wrap64 ((wrap64 ((wrap64 (16 * (wrap64 (Int.tdiv (wrap64 ((wrap64 (Int.tdiv (wrap64 (Go.bits .and .u8 a0 a1)) 2)) + (wrap64 (128 * t195)))) 16)))) + (Int.tmod (wrap64 ((wrap64 ((wrap64 (Int.tdiv (wrap64 (Go.bits .and .u8 a0 a1)) 2)) + (wrap64 (128 * t195)))) + 6)) 16))) + 96)) 256) % 256, t208))) else ((tandemref3_put.f t207 1 false).bind fun t209 => (some ((wrap64 ((wrap64 (16 * (wrap64 (Int.tdiv (wrap64 ((wrap64 (Int.tdiv (wrap64 (Go.bits .and .u8 a0 a1)) 2)) + (wrap64 (128 * t195)))) 16)))) + (Int.tmod (wrap64 ((wrap64 ((wrap64 (Int.tdiv (wrap64 (Go.bits .and .u8 a0 a1)) 2)) + (wrap64 (128 * t195)))) + 6)) 16))) % 256, t209)))) else (if (wrap64 ((wrap64 (16 * (wrap64 (Int.tdiv (wrap64 (Go.bits .and .u8 a0 a1)) 16)))) + (wrap64 (16 * (Int.tmod (wrap64 (Int.tdiv (wrap64 (Go.bits .and .u8 a0 a1)) 16)) 2))))) > 80 then ((tandemref3_put.f t207 1 true).bind fun t210 => (some ((Int.tmod (wrap64 ((wrap64 ((wrap64 (Int.tdiv (wrap64 (Go.bits .and .u8 a0 a1)) 2)) + (wrap64 (128 * t195)))) + 96)) 256) % 256, t210))) else ((tandemref3_put.f t207 1 false).bind fun t211 => (some ((wrap64 ((wrap64 (Int.tdiv (wrap64 (Go.bits .and .u8 a0 a1)) 2)) + (wrap64 (128 * t195)))) % 256, t211)))))) = some (r1, r2) := H
    have A16 := Aside0.mk A160
    clear A160
    replace H := Option.bind_eq_some_iff.mp H
    obtain ⟨t207, A170, H⟩ := H
    replace H : (if (wrap64 ((Int.tmod (wrap64 (Go.bits .and .u8 a0 a1)) 16) + (Int.tmod (wrap64 (Go.bits .and .u8 a0 a1)) 2))) > 5 then (if (wrap64 ((wrap64 (16 * (wrap64 (Int.tdiv (wrap64 (Go.bits .and .u8 a0 a1)) 16)))) + (wrap64 (16 * (Int.tmod (wrap64 (Int.tdiv (wrap64 (Go.bits .and .u8 a0 a1)) 16)) 2))))) > 80 then ((tandemref3_put.f t207 1 true).bind fun t208 => (some ((Int.tmod (wrap64 ((wrap64 ((wrap64 (16 * (wrap64 (Int.tdiv (wrap64 ((wrap64 (Int.tdiv (wrap64 (Go.bits .and .u8 a0 a1)) 2)) + (wrap64 (128 * t195)))) 16)))) + (Int.tmod (wrap64 ((wrap64 ((wrap64 (Int.tdiv (wrap64 (Go.bits .and .u8 a0 a1)) 2)) + (wrap64 (128 * t195)))) + 6)) 16))) + 96)) 256) % 256, t208))) else ((tandemref3_put.f t207 1 false).bind fun t209 => (some ((wrap64 ((wrap64 (16 * (wrap64 (Int.tdiv (wrap64 ((wrap64 (Int.tdiv (wrap64 (Go.bits .and .u8 a0 a1)) 2)) + (wrap64 (128 * t195)))) 16)))) + (Int.tmod (wrap64 ((wrap64 ((wrap64 (Int.tdiv (wrap64 (Go.bits .and .u8 a0 a1)) 2)) + (wrap64 (128 * t195)))) + 6)) 16))) % 256, t209)))) else (if (wrap64 ((wrap64 (16 * (wrap64 (Int.tdiv (wrap64 (Go.bits .and .u8 a0 a1)) 16)))) + (wrap64 (16 * (Int.tmod (wrap64 (Int.tdiv (wrap64 (Go.bits .and .u8 a0 a1)) 16)) 2))))) > 80 then ((tandemref3_put.f t207 1 true).bind fun t210 => (some ((Int.tmod (wrap64 ((wrap64 ((wrap64 (Int.tdiv (wrap64 (Go.bits .and .u8 a0 a1)) 2)) + (wrap64 (128 * t195)))) + 96)) 256) % 256, t210))) else ((tandemref3_put.f t207 1 false).bind fun t211 => (some ((wrap64 ((wrap64 (Int.tdiv (wrap64 (Go.bits .and .u8 a0 a1)) 2)) + (wrap64 (128 * t195)))) % 256, t211))))) = some (r1, r2) := H
    have A17 := Aside0.mk A170
    clear A170
    by_cases c18 : (wrap64 ((Int.tmod (wrap64 (Go.bits .and .u8 a0 a1)) 16) + (Int.tmod (wrap64 (Go.bits .and .u8 a0 a1)) 2))) > 5
    · rw [if_pos c18] at H
      have c18b0 : decide (5 < (wrap64 ((Int.tmod (wrap64 (Go.bits .and .u8 a0 a1)) 16) + (Int.tmod (wrap64 (Go.bits .and .u8 a0 a1)) 2)))) = true := decide_eq_true c18
      clear c18
      by_cases c19 : (wrap64 ((wrap64 (16 * (wrap64 (Int.tdiv (wrap64 (Go.bits .and .u8 a0 a1)) 16)))) + (wrap64 (16 * (Int.tmod (wrap64 (Int.tdiv (wrap64 (Go.bits .and .u8 a0 a1)) 16)) 2))))) > 80
      · rw [if_pos c19] at H
        have c19b0 : decide (80 < (wrap64 ((wrap64 (16 * (wrap64 (Int.tdiv (wrap64 (Go.bits .and .u8 a0 a1)) 16)))) + (wrap64 (16 * (Int.tmod (wrap64 (Int.tdiv (wrap64 (Go.bits .and .u8 a0 a1)) 16)) 2)))))) = true := decide_eq_true c19
        clear c19
        replace H := Option.bind_eq_some_iff.mp H
        obtain ⟨t208, A200, H⟩ := H
        replace H : (some ((Int.tmod (wrap64 ((wrap64 ((wrap64 (16 * (wrap64 (Int.tdiv (wrap64 ((wrap64 (Int.tdiv (wrap64 (Go.bits .and .u8 a0 a1)) 2)) + (wrap64 (128 * t195)))) 16)))) + (Int.tmod (wrap64 ((wrap64 ((wrap64 (Int.tdiv (wrap64 (Go.bits .and .u8 a0 a1)) 2)) + (wrap64 (128 * t195)))) + 6)) 16))) + 96)) 256) % 256, t208)) = some (r1, r2) := H
        have A20 := Aside0.mk A200
        clear A200
        simp only [Option.some.injEq, Prod.mk.injEq] at H
        obtain ⟨rfl, rfl⟩ := H
        go_enter Try.func32, Try.ntmps32
        go_wp2_with (first | ((with_reducible refine gate_callee (f := 40) rfl ?_); refine goesL_ (some 20) rfl rfl Try.func40 (by kernel_rfl) rfl #[.int .u8 a2] rfl (by (try simp only [List.map_toArray, List.map_cons, List.map_nil]); first | done | rfl | (simp only [List.length_drop, List.length_take]; rfl)) ?_; (with_reducible refine (tandemref3_carry.calls a2 t195 _ A4.out).mono ?_); rintro e w' ⟨rfl, ⟨nd, rfl⟩⟩; refine ⟨_, rfl, ?_⟩) | ((with_reducible refine gate_callee (f := 40) rfl ?_); refine goesL_ (some 24) rfl rfl Try.func40 (by kernel_rfl) rfl #[.int .u8 a2] rfl (by (try simp only [List.map_toArray, List.map_cons, List.map_nil]); first | done | rfl | (simp only [List.length_drop, List.length_take]; rfl)) ?_; (with_reducible refine (tandemref3_carry.calls a2 t196 _ A5.out).mono ?_); rintro e w' ⟨rfl, ⟨nd, rfl⟩⟩; refine ⟨_, rfl, ?_⟩) | ((with_reducible refine gate_callee (f := 38) rfl ?_); refine goesL_ (some 48) rfl rfl Try.func38 (by kernel_rfl) rfl #[.int .u8 a2, .int .u8 128, .bool (t196 == 1)] rfl (by (try simp only [List.map_toArray, List.map_cons, List.map_nil]); first | done | rfl | (simp only [List.length_drop, List.length_take]; rfl)) ?_; (with_reducible refine (tandemref3_put.calls a2 128 (t196 == 1) t203 _ A13.out).mono ?_); rintro e w' ⟨rfl, ⟨nd, rfl⟩⟩; refine ⟨_, rfl, ?_⟩) | ((with_reducible refine gate_callee (f := 38) rfl ?_); refine goesL_ (some 52) rfl rfl Try.func38 (by kernel_rfl) rfl #[.int .u8 t203, .int .u8 2, .bool ((wrap64 ((wrap64 (Int.tdiv (wrap64 (Go.bits .and .u8 a0 a1)) 2)) + (wrap64 (128 * t195)))) == 0)] rfl (by (try simp only [List.map_toArray, List.map_cons, List.map_nil]); first | done | rfl | (simp only [List.length_drop, List.length_take]; rfl)) ?_; (with_reducible refine (tandemref3_put.calls t203 2 ((wrap64 ((wrap64 (Int.tdiv (wrap64 (Go.bits .and .u8 a0 a1)) 2)) + (wrap64 (128 * t195)))) == 0) t204 _ A14.out).mono ?_); rintro e w' ⟨rfl, ⟨nd, rfl⟩⟩; refine ⟨_, rfl, ?_⟩) | ((with_reducible refine gate_callee (f := 42) rfl ?_); refine goesL_ (some 55) rfl rfl Try.func42 (by kernel_rfl) rfl #[.int .i64 (wrap64 (Go.bits .and .u8 a0 a1)), .int .i64 6] rfl (by (try simp only [List.map_toArray, List.map_cons, List.map_nil]); first | done | rfl | (simp only [List.length_drop, List.length_take]; rfl)) ?_; (with_reducible refine (tandemref3_bit.calls k (wrap64 (Go.bits .and .u8 a0 a1)) 6 t205 _ A15.out).mono ?_); rintro e w' ⟨rfl, ⟨nd, rfl⟩⟩; refine ⟨_, rfl, ?_⟩) | ((with_reducible refine gate_callee (f := 42) rfl ?_); refine goesL_ (some 57) rfl rfl Try.func42 (by kernel_rfl) rfl #[.int .i64 (wrap64 ((wrap64 (Int.tdiv (wrap64 (Go.bits .and .u8 a0 a1)) 2)) + (wrap64 (128 * t195)))), .int .i64 6] rfl (by (try simp only [List.map_toArray, List.map_cons, List.map_nil]); first | done | rfl | (simp only [List.length_drop, List.length_take]; rfl)) ?_; (with_reducible refine (tandemref3_bit.calls k (wrap64 ((wrap64 (Int.tdiv (wrap64 (Go.bits .and .u8 a0 a1)) 2)) + (wrap64 (128 * t195)))) 6 t206 _ A16.out).mono ?_); rintro e w' ⟨rfl, ⟨nd, rfl⟩⟩; refine ⟨_, rfl, ?_⟩) | ((with_reducible refine gate_callee (f := 38) rfl ?_); refine goesL_ (some 59) rfl rfl Try.func38 (by kernel_rfl) rfl #[.int .u8 t204, .int .u8 64, .bool (t205 != t206)] rfl (by (try simp only [List.map_toArray, List.map_cons, List.map_nil]); first | done | rfl | (simp only [List.length_drop, List.length_take]; rfl)) ?_; (with_reducible refine (tandemref3_put.calls t204 64 (t205 != t206) t207 _ A17.out).mono ?_); rintro e w' ⟨rfl, ⟨nd, rfl⟩⟩; refine ⟨_, rfl, ?_⟩) | ((with_reducible refine gate_callee (f := 38) rfl ?_); refine goesL_ (some 85) rfl rfl Try.func38 (by kernel_rfl) rfl #[.int .u8 t207, .int .u8 1, .bool true] rfl (by (try simp only [List.map_toArray, List.map_cons, List.map_nil]); first | done | rfl | (simp only [List.length_drop, List.length_take]; rfl)) ?_; (with_reducible refine (tandemref3_put.calls t207 1 true t208 _ A20.out).mono ?_); rintro e w' ⟨rfl, ⟨nd, rfl⟩⟩; refine ⟨_, rfl, ?_⟩))
        go_ret2
        exact ⟨by first | rfl | (simp; done) | (simp [*]; done), by repeat (first | exact Drawn0.refl _ | apply Drawn0.step)⟩
      · rw [if_neg c19] at H
        have c19b0 : decide (80 < (wrap64 ((wrap64 (16 * (wrap64 (Int.tdiv (wrap64 (Go.bits .and .u8 a0 a1)) 16)))) + (wrap64 (16 * (Int.tmod (wrap64 (Int.tdiv (wrap64 (Go.bits .and .u8 a0 a1)) 16)) 2)))))) = false := decide_eq_false c19
        clear c19
        replace H := Option.bind_eq_some_iff.mp H
        obtain ⟨t209, A210, H⟩ := H
        replace H : (some ((wrap64 ((wrap64 (16 * (wrap64 (Int.tdiv (wrap64 ((wrap64 (Int.tdiv (wrap64 (Go.bits .and .u8 a0 a1)) 2)) + (wrap64 (128 * t195)))) 16)))) + (Int.tmod (wrap64 ((wrap64 ((wrap64 (Int.tdiv (wrap64 (Go.bits .and .u8 a0 a1)) 2)) + (wrap64 (128 * t195)))) + 6)) 16))) % 256, t209)) = some (r1, r2) := H
        have A21 := Aside0.mk A210
        clear A210
        simp only [Option.some.injEq, Prod.mk.injEq] at H
        obtain ⟨rfl, rfl⟩ := H
        go_enter Try.func32, Try.ntmps32
        go_wp2_with (first | ((with_reducible refine gate_callee (f := 40) rfl ?_); refine goesL_ (some 20) rfl rfl Try.func40 (by kernel_rfl) rfl #[.int .u8 a2] rfl (by (try simp only [List.map_toArray, List.map_cons, List.map_nil]); first | done | rfl | (simp only [List.length_drop, List.length_take]; rfl)) ?_; (with_reducible refine (tandemref3_carry.calls a2 t195 _ A4.out).mono ?_); rintro e w' ⟨rfl, ⟨nd, rfl⟩⟩; refine ⟨_, rfl, ?_⟩) | ((with_reducible refine gate_callee (f := 40) rfl ?_); refine goesL_ (some 24) rfl rfl Try.func40 (by kernel_rfl) rfl #[.int .u8 a2] rfl (by (try simp only [List.map_toArray, List.map_cons, List.map_nil]); first | done | rfl | (simp only [List.length_drop, List.length_take]; rfl)) ?_; (with_reducible refine (tandemref3_carry.calls a2 t196 _ A5.out).mono ?_); rintro e w' ⟨rfl, ⟨nd, rfl⟩⟩; refine ⟨_, rfl, ?_⟩) | ((with_reducible refine gate_callee (f := 38) rfl ?_); refine goesL_ (some 48) rfl rfl Try.func38 (by kernel_rfl) rfl #[.int .u8 a2, .int .u8 128, .bool (t196 == 1)] rfl (by (try simp only [List.map_toArray, List.map_cons, List.map_nil]); first | done | rfl | (simp only [List.length_drop, List.length_take]; rfl)) ?_; (with_reducible refine (tandemref3_put.calls a2 128 (t196 == 1) t203 _ A13.out).mono ?_); rintro e w' ⟨rfl, ⟨nd, rfl⟩⟩; refine ⟨_, rfl, ?_⟩) | ((with_reducible refine gate_callee (f := 38) rfl ?_); refine goesL_ (some 52) rfl rfl Try.func38 (by kernel_rfl) rfl #[.int .u8 t203, .int .u8 2, .bool ((wrap64 ((wrap64 (Int.tdiv (wrap64 (Go.bits .and .u8 a0 a1)) 2)) + (wrap64 (128 * t195)))) == 0)] rfl (by (try simp only [List.map_toArray, List.map_cons, List.map_nil]); first | done | rfl | (simp only [List.length_drop, List.length_take]; rfl)) ?_; (with_reducible refine (tandemref3_put.calls t203 2 ((wrap64 ((wrap64 (Int.tdiv (wrap64 (Go.bits .and .u8 a0 a1)) 2)) + (wrap64 (128 * t195)))) == 0) t204 _ A14.out).mono ?_); rintro e w' ⟨rfl, ⟨nd, rfl⟩⟩; refine ⟨_, rfl, ?_⟩) | ((with_reducible refine gate_callee (f := 42) rfl ?_); refine goesL_ (some 55) rfl rfl Try.func42 (by kernel_rfl) rfl #[.int .i64 (wrap64 (Go.bits .and .u8 a0 a1)), .int .i64 6] rfl (by (try simp only [List.map_toArray, List.map_cons, List.map_nil]); first | done | rfl | (simp only [List.length_drop, List.length_take]; rfl)) ?_; (with_reducible refine (tandemref3_bit.calls k (wrap64 (Go.bits .and .u8 a0 a1)) 6 t205 _ A15.out).mono ?_); rintro e w' ⟨rfl, ⟨nd, rfl⟩⟩; refine ⟨_, rfl, ?_⟩) | ((with_reducible refine gate_callee (f := 42) rfl ?_); refine goesL_ (some 57) rfl rfl Try.func42 (by kernel_rfl) rfl #[.int .i64 (wrap64 ((wrap64 (Int.tdiv (wrap64 (Go.bits .and .u8 a0 a1)) 2)) + (wrap64 (128 * t195)))), .int .i64 6] rfl (by (try simp only [List.map_toArray, List.map_cons, List.map_nil]); first | done | rfl | (simp only [List.length_drop, List.length_take]; rfl)) ?_; (with_reducible refine (tandemref3_bit.calls k (wrap64 ((wrap64 (Int.tdiv (wrap64 (Go.bits .and .u8 a0 a1)) 2)) + (wrap64 (128 * t195)))) 6 t206 _ A16.out).mono ?_); rintro e w' ⟨rfl, ⟨nd, rfl⟩⟩; refine ⟨_, rfl, ?_⟩) | ((with_reducible refine gate_callee (f := 38) rfl ?_); refine goesL_ (some 59) rfl rfl Try.func38 (by kernel_rfl) rfl #[.int .u8 t204, .int .u8 64, .bool (t205 != t206)] rfl (by (try simp only [List.map_toArray, List.map_cons, List.map_nil]); first | done | rfl | (simp only [List.length_drop, List.length_take]; rfl)) ?_; (with_reducible refine (tandemref3_put.calls t204 64 (t205 != t206) t207 _ A17.out).mono ?_); rintro e w' ⟨rfl, ⟨nd, rfl⟩⟩; refine ⟨_, rfl, ?_⟩) | ((with_reducible refine gate_callee (f := 38) rfl ?_); refine goesL_ (some 85) rfl rfl Try.func38 (by kernel_rfl) rfl #[.int .u8 t207, .int .u8 1, .bool false] rfl (by (try simp only [List.map_toArray, List.map_cons, List.map_nil]); first | done | rfl | (simp only [List.length_drop, List.length_take]; rfl)) ?_; (with_reducible refine (tandemref3_put.calls t207 1 false t209 _ A21.out).mono ?_); rintro e w' ⟨rfl, ⟨nd, rfl⟩⟩; refine ⟨_, rfl, ?_⟩))
        go_ret2
        exact ⟨by first | rfl | (simp; done) | (simp [*]; done), by repeat (first | exact Drawn0.refl _ | apply Drawn0.step)⟩
    · rw [if_neg c18] at H
      have c18b0 : decide (5 < (wrap64 ((Int.tmod (wrap64 (Go.bits .and .u8 a0 a1)) 16) + (Int.tmod (wrap64 (Go.bits .and .u8 a0 a1)) 2)))) = false := decide_eq_false c18
      clear c18
      by_cases c22 : (wrap64 ((wrap64 (16 * (wrap64 (Int.tdiv (wrap64 (Go.bits .and .u8 a0 a1)) 16)))) + (wrap64 (16 * (Int.tmod (wrap64 (Int.tdiv (wrap64 (Go.bits .and .u8 a0 a1)) 16)) 2))))) > 80
      · rw [if_pos c22] at H
        have c22b0 : decide (80 < (wrap64 ((wrap64 (16 * (wrap64 (Int.tdiv (wrap64 (Go.bits .and .u8 a0 a1)) 16)))) + (wrap64 (16 * (Int.tmod (wrap64 (Int.tdiv (wrap64 (Go.bits .and .u8 a0 a1)) 16)) 2)))))) = true := decide_eq_true c22
        clear c22
        replace H := Option.bind_eq_some_iff.mp H
        obtain ⟨t210, A230, H⟩ := H
        replace H : (some ((Int.tmod (wrap64 ((wrap64 ((wrap64 (Int.tdiv (wrap64 (Go.bits .and .u8 a0 a1)) 2)) + (wrap64 (128 * t195)))) + 96)) 256) % 256, t210)) = some (r1, r2) := H
        have A23 := Aside0.mk A230
        clear A230
        simp only [Option.some.injEq, Prod.mk.injEq] at H
        obtain ⟨rfl, rfl⟩ := H
        go_enter Try.func32, Try.ntmps32
        go_wp2_with (first | ((with_reducible refine gate_callee (f := 40) rfl ?_); refine goesL_ (some 20) rfl rfl Try.func40 (by kernel_rfl) rfl #[.int .u8 a2] rfl (by (try simp only [List.map_toArray, List.map_cons, List.map_nil]); first | done | rfl | (simp only [List.length_drop, List.length_take]; rfl)) ?_; (with_reducible refine (tandemref3_carry.calls a2 t195 _ A4.out).mono ?_); rintro e w' ⟨rfl, ⟨nd, rfl⟩⟩; refine ⟨_, rfl, ?_⟩) | ((with_reducible refine gate_callee (f := 40) rfl ?_); refine goesL_ (some 24) rfl rfl Try.func40 (by kernel_rfl) rfl #[.int .u8 a2] rfl (by (try simp only [List.map_toArray, List.map_cons, List.map_nil]); first | done | rfl | (simp only [List.length_drop, List.length_take]; rfl)) ?_; (with_reducible refine (tandemref3_carry.calls a2 t196 _ A5.out).mono ?_); rintro e w' ⟨rfl, ⟨nd, rfl⟩⟩; refine ⟨_, rfl, ?_⟩) | ((with_reducible refine gate_callee (f := 38) rfl ?_); refine goesL_ (some 48) rfl rfl Try.func38 (by kernel_rfl) rfl #[.int .u8 a2, .int .u8 128, .bool (t196 == 1)] rfl (by (try simp only [List.map_toArray, List.map_cons, List.map_nil]); first | done | rfl | (simp only [List.length_drop, List.length_take]; rfl)) ?_; (with_reducible refine (tandemref3_put.calls a2 128 (t196 == 1) t203 _ A13.out).mono ?_); rintro e w' ⟨rfl, ⟨nd, rfl⟩⟩; refine ⟨_, rfl, ?_⟩) | ((with_reducible refine gate_callee (f := 38) rfl ?_); refine goesL_ (some 52) rfl rfl Try.func38 (by kernel_rfl) rfl #[.int .u8 t203, .int .u8 2, .bool ((wrap64 ((wrap64 (Int.tdiv (wrap64 (Go.bits .and .u8 a0 a1)) 2)) + (wrap64 (128 * t195)))) == 0)] rfl (by (try simp only [List.map_toArray, List.map_cons, List.map_nil]); first | done | rfl | (simp only [List.length_drop, List.length_take]; rfl)) ?_; (with_reducible refine (tandemref3_put.calls t203 2 ((wrap64 ((wrap64 (Int.tdiv (wrap64 (Go.bits .and .u8 a0 a1)) 2)) + (wrap64 (128 * t195)))) == 0) t204 _ A14.out).mono ?_); rintro e w' ⟨rfl, ⟨nd, rfl⟩⟩; refine ⟨_, rfl, ?_⟩) | ((with_reducible refine gate_callee (f := 42) rfl ?_); refine goesL_ (some 55) rfl rfl Try.func42 (by kernel_rfl) rfl #[.int .i64 (wrap64 (Go.bits .and .u8 a0 a1)), .int .i64 6] rfl (by (try simp only [List.map_toArray, List.map_cons, List.map_nil]); first | done | rfl | (simp only [List.length_drop, List.length_take]; rfl)) ?_; (with_reducible refine (tandemref3_bit.calls k (wrap64 (Go.bits .and .u8 a0 a1)) 6 t205 _ A15.out).mono ?_); rintro e w' ⟨rfl, ⟨nd, rfl⟩⟩; refine ⟨_, rfl, ?_⟩) | ((with_reducible refine gate_callee (f := 42) rfl ?_); refine goesL_ (some 57) rfl rfl Try.func42 (by kernel_rfl) rfl #[.int .i64 (wrap64 ((wrap64 (Int.tdiv (wrap64 (Go.bits .and .u8 a0 a1)) 2)) + (wrap64 (128 * t195)))), .int .i64 6] rfl (by (try simp only [List.map_toArray, List.map_cons, List.map_nil]); first | done | rfl | (simp only [List.length_drop, List.length_take]; rfl)) ?_; (with_reducible refine (tandemref3_bit.calls k (wrap64 ((wrap64 (Int.tdiv (wrap64 (Go.bits .and .u8 a0 a1)) 2)) + (wrap64 (128 * t195)))) 6 t206 _ A16.out).mono ?_); rintro e w' ⟨rfl, ⟨nd, rfl⟩⟩; refine ⟨_, rfl, ?_⟩) | ((with_reducible refine gate_callee (f := 38) rfl ?_); refine goesL_ (some 59) rfl rfl Try.func38 (by kernel_rfl) rfl #[.int .u8 t204, .int .u8 64, .bool (t205 != t206)] rfl (by (try simp only [List.map_toArray, List.map_cons, List.map_nil]); first | done | rfl | (simp only [List.length_drop, List.length_take]; rfl)) ?_; (with_reducible refine (tandemref3_put.calls t204 64 (t205 != t206) t207 _ A17.out).mono ?_); rintro e w' ⟨rfl, ⟨nd, rfl⟩⟩; refine ⟨_, rfl, ?_⟩) | ((with_reducible refine gate_callee (f := 38) rfl ?_); refine goesL_ (some 85) rfl rfl Try.func38 (by kernel_rfl) rfl #[.int .u8 t207, .int .u8 1, .bool true] rfl (by (try simp only [List.map_toArray, List.map_cons, List.map_nil]); first | done | rfl | (simp only [List.length_drop, List.length_take]; rfl)) ?_; (with_reducible refine (tandemref3_put.calls t207 1 true t210 _ A23.out).mono ?_); rintro e w' ⟨rfl, ⟨nd, rfl⟩⟩; refine ⟨_, rfl, ?_⟩))
        go_ret2
        exact ⟨by first | rfl | (simp; done) | (simp [*]; done), by repeat (first | exact Drawn0.refl _ | apply Drawn0.step)⟩
      · rw [if_neg c22] at H
        have c22b0 : decide (80 < (wrap64 ((wrap64 (16 * (wrap64 (Int.tdiv (wrap64 (Go.bits .and .u8 a0 a1)) 16)))) + (wrap64 (16 * (Int.tmod (wrap64 (Int.tdiv (wrap64 (Go.bits .and .u8 a0 a1)) 16)) 2)))))) = false := decide_eq_false c22
        clear c22
        replace H := Option.bind_eq_some_iff.mp H
        obtain ⟨t211, A240, H⟩ := H
        replace H : (some ((wrap64 ((wrap64 (Int.tdiv (wrap64 (Go.bits .and .u8 a0 a1)) 2)) + (wrap64 (128 * t195)))) % 256, t211)) = some (r1, r2) := H
        have A24 := Aside0.mk A240
        clear A240
        simp only [Option.some.injEq, Prod.mk.injEq] at H
        obtain ⟨rfl, rfl⟩ := H
        go_enter Try.func32, Try.ntmps32
        go_wp2_with (first | ((with_reducible refine gate_callee (f := 40) rfl ?_); refine goesL_ (some 20) rfl rfl Try.func40 (by kernel_rfl) rfl #[.int .u8 a2] rfl (by (try simp only [List.map_toArray, List.map_cons, List.map_nil]); first | done | rfl | (simp only [List.length_drop, List.length_take]; rfl)) ?_; (with_reducible refine (tandemref3_carry.calls a2 t195 _ A4.out).mono ?_); rintro e w' ⟨rfl, ⟨nd, rfl⟩⟩; refine ⟨_, rfl, ?_⟩) | ((with_reducible refine gate_callee (f := 40) rfl ?_); refine goesL_ (some 24) rfl rfl Try.func40 (by kernel_rfl) rfl #[.int .u8 a2] rfl (by (try simp only [List.map_toArray, List.map_cons, List.map_nil]); first | done | rfl | (simp only [List.length_drop, List.length_take]; rfl)) ?_; (with_reducible refine (tandemref3_carry.calls a2 t196 _ A5.out).mono ?_); rintro e w' ⟨rfl, ⟨nd, rfl⟩⟩; refine ⟨_, rfl, ?_⟩) | ((with_reducible refine gate_callee (f := 38) rfl ?_); refine goesL_ (some 48) rfl rfl Try.func38 (by kernel_rfl) rfl #[.int .u8 a2, .int .u8 128, .bool (t196 == 1)] rfl (by (try simp only [List.map_toArray, List.map_cons, List.map_nil]); first | done | rfl | (simp only [List.length_drop, List.length_take]; rfl)) ?_; (with_reducible refine (tandemref3_put.calls a2 128 (t196 == 1) t203 _ A13.out).mono ?_); rintro e w' ⟨rfl, ⟨nd, rfl⟩⟩; refine ⟨_, rfl, ?_⟩) | ((with_reducible refine gate_callee (f := 38) rfl ?_); refine goesL_ (some 52) rfl rfl Try.func38 (by kernel_rfl) rfl #[.int .u8 t203, .int .u8 2, .bool ((wrap64 ((wrap64 (Int.tdiv (wrap64 (Go.bits .and .u8 a0 a1)) 2)) + (wrap64 (128 * t195)))) == 0)] rfl (by (try simp only [List.map_toArray, List.map_cons, List.map_nil]); first | done | rfl | (simp only [List.length_drop, List.length_take]; rfl)) ?_; (with_reducible refine (tandemref3_put.calls t203 2 ((wrap64 ((wrap64 (Int.tdiv (wrap64 (Go.bits .and .u8 a0 a1)) 2)) + (wrap64 (128 * t195)))) == 0) t204 _ A14.out).mono ?_); rintro e w' ⟨rfl, ⟨nd, rfl⟩⟩; refine ⟨_, rfl, ?_⟩) | ((with_reducible refine gate_callee (f := 42) rfl ?_); refine goesL_ (some 55) rfl rfl Try.func42 (by kernel_rfl) rfl #[.int .i64 (wrap64 (Go.bits .and .u8 a0 a1)), .int .i64 6] rfl (by (try simp only [List.map_toArray, List.map_cons, List.map_nil]); first | done | rfl | (simp only [List.length_drop, List.length_take]; rfl)) ?_; (with_reducible refine (tandemref3_bit.calls k (wrap64 (Go.bits .and .u8 a0 a1)) 6 t205 _ A15.out).mono ?_); rintro e w' ⟨rfl, ⟨nd, rfl⟩⟩; refine ⟨_, rfl, ?_⟩) | ((with_reducible refine gate_callee (f := 42) rfl ?_); refine goesL_ (some 57) rfl rfl Try.func42 (by kernel_rfl) rfl #[.int .i64 (wrap64 ((wrap64 (Int.tdiv (wrap64 (Go.bits .and .u8 a0 a1)) 2)) + (wrap64 (128 * t195)))), .int .i64 6] rfl (by (try simp only [List.map_toArray, List.map_cons, List.map_nil]); first | done | rfl | (simp only [List.length_drop, List.length_take]; rfl)) ?_; (with_reducible refine (tandemref3_bit.calls k (wrap64 ((wrap64 (Int.tdiv (wrap64 (Go.bits .and .u8 a0 a1)) 2)) + (wrap64 (128 * t195)))) 6 t206 _ A16.out).mono ?_); rintro e w' ⟨rfl, ⟨nd, rfl⟩⟩; refine ⟨_, rfl, ?_⟩) | ((with_reducible refine gate_callee (f := 38) rfl ?_); refine goesL_ (some 59) rfl rfl Try.func38 (by kernel_rfl) rfl #[.int .u8 t204, .int .u8 64, .bool (t205 != t206)] rfl (by (try simp only [List.map_toArray, List.map_cons, List.map_nil]); first | done | rfl | (simp only [List.length_drop, List.length_take]; rfl)) ?_; (with_reducible refine (tandemref3_put.calls t204 64 (t205 != t206) t207 _ A17.out).mono ?_); rintro e w' ⟨rfl, ⟨nd, rfl⟩⟩; refine ⟨_, rfl, ?_⟩) | ((with_reducible refine gate_callee (f := 38) rfl ?_); refine goesL_ (some 85) rfl rfl Try.func38 (by kernel_rfl) rfl #[.int .u8 t207, .int .u8 1, .bool false] rfl (by (try simp only [List.map_toArray, List.map_cons, List.map_nil]); first | done | rfl | (simp only [List.length_drop, List.length_take]; rfl)) ?_; (with_reducible refine (tandemref3_put.calls t207 1 false t211 _ A24.out).mono ?_); rintro e w' ⟨rfl, ⟨nd, rfl⟩⟩; refine ⟨_, rfl, ?_⟩))
        go_ret2
        exact ⟨by first | rfl | (simp; done) | (simp [*]; done), by repeat (first | exact Drawn0.refl _ | apply Drawn0.step)⟩

/-! ### tandemlaw3_AluParts: function 10 -/
mutual
def tandemlaw3_AluParts.j0 : Nat → Int → Int → Int → Int → Bool → Option (Bool)
  | 0, _, _, _, _, _ => none
  | k + 1, x0, x1, x2, x3, x30 => if x30 = true then (some false) else ((alu_Shift.f x0 x2 x3).bind fun bt216 => ((tandemref3_Shift.f x0 x2 x3).bind fun bt218 => (if bt216.1 = bt218.1 then (tandemlaw3_AluParts.j1 k x1 x2 x3 (bt216.2 != bt218.2)) else (tandemlaw3_AluParts.j1 k x1 x2 x3 true))))
def tandemlaw3_AluParts.j1 : Nat → Int → Int → Int → Bool → Option (Bool)
  | 0, _, _, _, _ => none
  | k + 1, x1, x2, x3, x52 => if x52 = true then (some false) else ((alu_Adc.f k x1 x2 x3).bind fun bt220 => ((tandemref3_Adc.f k x1 x2 x3).bind fun bt222 => (if bt220.1 = bt222.1 then (tandemlaw3_AluParts.j2 k x1 x2 x3 (bt220.2 != bt222.2)) else (tandemlaw3_AluParts.j2 k x1 x2 x3 true))))
def tandemlaw3_AluParts.j2 : Nat → Int → Int → Int → Bool → Option (Bool)
  | 0, _, _, _, _ => none
  | k + 1, x1, x2, x3, x74 => if x74 = true then (some false) else ((alu_Sbc.f x1 x2 x3).bind fun bt224 => ((tandemref3_Sbc.f k x1 x2 x3).bind fun bt226 => (if bt224.1 = bt226.1 then (tandemlaw3_AluParts.j3 k x1 x2 x3 (bt224.2 != bt226.2)) else (tandemlaw3_AluParts.j3 k x1 x2 x3 true))))
def tandemlaw3_AluParts.j3 : Nat → Int → Int → Int → Bool → Option (Bool)
  | 0, _, _, _, _ => none
  | k + 1, x1, x2, x3, x96 => if x96 = true then (some false) else ((alu_Arr.f x1 x2 x3).bind fun bt228 => ((tandemref3_Arr.f k x1 x2 x3).bind fun bt230 => (if bt228.1 = bt230.1 then (some (bt228.2 == bt230.2)) else (some false))))
end
def tandemlaw3_AluParts.f (k : Nat) (a0 : Int) (a1 : Int) (a2 : Int) (a3 : Int) : Option (Bool) := (alu_Nz.f a2 a3).bind fun t212 => ((tandemref3_Nz.f a2 a3).bind fun t213 => (if t212 = t213 then ((alu_Cmp.f a1 a2 a3).bind fun t214 => ((tandemref3_Cmp.f a1 a2 a3).bind fun t215 => (tandemlaw3_AluParts.j0 k a0 a1 a2 a3 (t214 != t215)))) else (tandemlaw3_AluParts.j0 k a0 a1 a2 a3 true)))
theorem tandemlaw3_AluParts.mono_l : ∀ k, (∀ y0 y1 y2 y3 y4, LeO (tandemlaw3_AluParts.j0 k y0 y1 y2 y3 y4) (tandemlaw3_AluParts.j0 (k + 1) y0 y1 y2 y3 y4)) ∧ (∀ y0 y1 y2 y3, LeO (tandemlaw3_AluParts.j1 k y0 y1 y2 y3) (tandemlaw3_AluParts.j1 (k + 1) y0 y1 y2 y3)) ∧ (∀ y0 y1 y2 y3, LeO (tandemlaw3_AluParts.j2 k y0 y1 y2 y3) (tandemlaw3_AluParts.j2 (k + 1) y0 y1 y2 y3)) ∧ (∀ y0 y1 y2 y3, LeO (tandemlaw3_AluParts.j3 k y0 y1 y2 y3) (tandemlaw3_AluParts.j3 (k + 1) y0 y1 y2 y3))
  | 0 => ⟨fun _ _ _ _ _ r h => by simp [tandemlaw3_AluParts.j0] at h, fun _ _ _ _ r h => by simp [tandemlaw3_AluParts.j1] at h, fun _ _ _ _ r h => by simp [tandemlaw3_AluParts.j2] at h, fun _ _ _ _ r h => by simp [tandemlaw3_AluParts.j3] at h⟩
  | k + 1 => by
    obtain ⟨ih0, ih1, ih2, ih3⟩ := tandemlaw3_AluParts.mono_l k
    refine ⟨?_, ?_, ?_, ?_⟩
    · intro y0 y1 y2 y3 y4
      unfold tandemlaw3_AluParts.j0
      repeat' first
      | (with_reducible exact ih0 _ _ _ _ _)
      | (with_reducible exact ih1 _ _ _ _)
      | (with_reducible exact ih2 _ _ _ _)
      | (with_reducible exact ih3 _ _ _ _)
      | (with_reducible exact alu_Adc.mono _ _ _ _)
      | (with_reducible exact tandemref3_Adc.mono _ _ _ _)
      | (with_reducible exact tandemref3_Arr.mono _ _ _ _)
      | (with_reducible exact tandemref3_Sbc.mono _ _ _ _)
      | (with_reducible exact LeO.refl _)
      | (with_reducible exact LeO.none _)
      | (with_reducible refine LeO.ite ?_ ?_)
      | (with_reducible refine LeO.bind ?_ (fun _ => ?_))
      | exact ih0 _ _ _ _ _
      | exact ih1 _ _ _ _
      | exact ih2 _ _ _ _
      | exact ih3 _ _ _ _
      | exact alu_Adc.mono _ _ _ _
      | exact tandemref3_Adc.mono _ _ _ _
      | exact tandemref3_Arr.mono _ _ _ _
      | exact tandemref3_Sbc.mono _ _ _ _
      | exact LeO.none _
      | refine LeO.ite ?_ ?_
      | refine LeO.bind ?_ (fun _ => ?_)
    · intro y0 y1 y2 y3
      unfold tandemlaw3_AluParts.j1
      repeat' first
      | (with_reducible exact ih0 _ _ _ _ _)
      | (with_reducible exact ih1 _ _ _ _)
      | (with_reducible exact ih2 _ _ _ _)
      | (with_reducible exact ih3 _ _ _ _)
      | (with_reducible exact alu_Adc.mono _ _ _ _)
      | (with_reducible exact tandemref3_Adc.mono _ _ _ _)
      | (with_reducible exact tandemref3_Arr.mono _ _ _ _)
      | (with_reducible exact tandemref3_Sbc.mono _ _ _ _)
      | (with_reducible exact LeO.refl _)
      | (with_reducible exact LeO.none _)
      | (with_reducible refine LeO.ite ?_ ?_)
      | (with_reducible refine LeO.bind ?_ (fun _ => ?_))
      | exact ih0 _ _ _ _ _
      | exact ih1 _ _ _ _
      | exact ih2 _ _ _ _
      | exact ih3 _ _ _ _
      | exact alu_Adc.mono _ _ _ _
      | exact tandemref3_Adc.mono _ _ _ _
      | exact tandemref3_Arr.mono _ _ _ _
      | exact tandemref3_Sbc.mono _ _ _ _
      | exact LeO.none _
      | refine LeO.ite ?_ ?_
      | refine LeO.bind ?_ (fun _ => ?_)
    · intro y0 y1 y2 y3
      unfold tandemlaw3_AluParts.j2
      repeat' first
      | (with_reducible exact ih0 _ _ _ _ _)
      | (with_reducible exact ih1 _ _ _ _)
      | (with_reducible exact ih2 _ _ _ _)
      | (with_reducible exact ih3 _ _ _ _)
      | (with_reducible exact alu_Adc.mono _ _ _ _)
      | (with_reducible exact tandemref3_Adc.mono _ _ _ _)
      | (with_reducible exact tandemref3_Arr.mono _ _ _ _)
      | (with_reducible exact tandemref3_Sbc.mono _ _ _ _)
      | (with_reducible exact LeO.refl _)
      | (with_reducible exact LeO.none _)
      | (with_reducible refine LeO.ite ?_ ?_)
      | (with_reducible refine LeO.bind ?_ (fun _ => ?_))
      | exact ih0 _ _ _ _ _
      | exact ih1 _ _ _ _
      | exact ih2 _ _ _ _
      | exact ih3 _ _ _ _
      | exact alu_Adc.mono _ _ _ _
      | exact tandemref3_Adc.mono _ _ _ _
      | exact tandemref3_Arr.mono _ _ _ _
      | exact tandemref3_Sbc.mono _ _ _ _
      | exact LeO.none _
      | refine LeO.ite ?_ ?_
      | refine LeO.bind ?_ (fun _ => ?_)
    · intro y0 y1 y2 y3
      unfold tandemlaw3_AluParts.j3
      repeat' first
      | (with_reducible exact ih0 _ _ _ _ _)
      | (with_reducible exact ih1 _ _ _ _)
      | (with_reducible exact ih2 _ _ _ _)
      | (with_reducible exact ih3 _ _ _ _)
      | (with_reducible exact alu_Adc.mono _ _ _ _)
      | (with_reducible exact tandemref3_Adc.mono _ _ _ _)
      | (with_reducible exact tandemref3_Arr.mono _ _ _ _)
      | (with_reducible exact tandemref3_Sbc.mono _ _ _ _)
      | (with_reducible exact LeO.refl _)
      | (with_reducible exact LeO.none _)
      | (with_reducible refine LeO.ite ?_ ?_)
      | (with_reducible refine LeO.bind ?_ (fun _ => ?_))
      | exact ih0 _ _ _ _ _
      | exact ih1 _ _ _ _
      | exact ih2 _ _ _ _
      | exact ih3 _ _ _ _
      | exact alu_Adc.mono _ _ _ _
      | exact tandemref3_Adc.mono _ _ _ _
      | exact tandemref3_Arr.mono _ _ _ _
      | exact tandemref3_Sbc.mono _ _ _ _
      | exact LeO.none _
      | refine LeO.ite ?_ ?_
      | refine LeO.bind ?_ (fun _ => ?_)
theorem tandemlaw3_AluParts.mono : ∀ a0 a1 a2 a3 k, LeO (tandemlaw3_AluParts.f k a0 a1 a2 a3) (tandemlaw3_AluParts.f (k + 1) a0 a1 a2 a3) := by
  intro a0 a1 a2 a3 k
  obtain ⟨ih0, ih1, ih2, ih3⟩ := tandemlaw3_AluParts.mono_l k
  unfold tandemlaw3_AluParts.f
  repeat' first
      | (with_reducible exact ih0 _ _ _ _ _)
      | (with_reducible exact ih1 _ _ _ _)
      | (with_reducible exact ih2 _ _ _ _)
      | (with_reducible exact ih3 _ _ _ _)
      | (with_reducible exact alu_Adc.mono _ _ _ _)
      | (with_reducible exact tandemref3_Adc.mono _ _ _ _)
      | (with_reducible exact tandemref3_Arr.mono _ _ _ _)
      | (with_reducible exact tandemref3_Sbc.mono _ _ _ _)
      | (with_reducible exact LeO.refl _)
      | (with_reducible exact LeO.none _)
      | (with_reducible refine LeO.ite ?_ ?_)
      | (with_reducible refine LeO.bind ?_ (fun _ => ?_))
      | exact ih0 _ _ _ _ _
      | exact ih1 _ _ _ _
      | exact ih2 _ _ _ _
      | exact ih3 _ _ _ _
      | exact alu_Adc.mono _ _ _ _
      | exact tandemref3_Adc.mono _ _ _ _
      | exact tandemref3_Arr.mono _ _ _ _
      | exact tandemref3_Sbc.mono _ _ _ _
      | exact LeO.none _
      | refine LeO.ite ?_ ?_
      | refine LeO.bind ?_ (fun _ => ?_)
set_option maxHeartbeats 8000000 in
set_option maxRecDepth 100000 in
theorem tandemlaw3_AluParts.calls (k : Nat) (a0 : Int) (a1 : Int) (a2 : Int) (a3 : Int) (r : Bool) (w : World) (h : tandemlaw3_AluParts.f k a0 a1 a2 a3 = some r) :
    Calls Try.prog 10 #[.int .i64 a0, .int .u8 a1, .int .u8 a2, .int .u8 a3] w fun e w' => e = .returned (.bool r) ∧ Drawn0 w w' := by
  have H : ((alu_Nz.f a2 a3).bind fun t212 => ((tandemref3_Nz.f a2 a3).bind fun t213 => (if t212 = t213 then ((alu_Cmp.f a1 a2 a3).bind fun t214 => ((tandemref3_Cmp.f a1 a2 a3).bind fun t215 => (tandemlaw3_AluParts.j0 k a0 a1 a2 a3 (t214 != t215)))) else (tandemlaw3_AluParts.j0 k a0 a1 a2 a3 true)))) = some r := h
  clear h
  have HC5 := Aside0.mk H
  clear H
  go_enter Try.func10, Try.ntmps10
  go_upto_region 1 with (fail)
  go_cut [30] (fun v30 wc => ∃ (kq : Nat) (x30_4 : Bool), v30 = .bool x30_4 ∧ Aside0 (tandemlaw3_AluParts.j0 kq a0 a1 a2 a3 x30_4 = some r) ∧ Aside0 (kq ≤ k) ∧ Drawn0 w wc)
  case first =>
    have H := HC5.out
    clear HC5
    replace H := Option.bind_eq_some_iff.mp H
    obtain ⟨t212, A60, H⟩ := H
    replace H : ((tandemref3_Nz.f a2 a3).bind fun t213 => (if t212 = t213 then ((alu_Cmp.f a1 a2 a3).bind fun t214 => ((tandemref3_Cmp.f a1 a2 a3).bind fun t215 => (tandemlaw3_AluParts.j0 k a0 a1 a2 a3 (t214 != t215)))) else (tandemlaw3_AluParts.j0 k a0 a1 a2 a3 true))) = some r := H
    have A6 := Aside0.mk A60
    clear A60
    replace H := Option.bind_eq_some_iff.mp H
    obtain ⟨t213, A70, H⟩ := H
    replace H : (if t212 = t213 then ((alu_Cmp.f a1 a2 a3).bind fun t214 => ((tandemref3_Cmp.f a1 a2 a3).bind fun t215 => (tandemlaw3_AluParts.j0 k a0 a1 a2 a3 (t214 != t215)))) else (tandemlaw3_AluParts.j0 k a0 a1 a2 a3 true)) = some r := H
    have A7 := Aside0.mk A70
    clear A70
    by_cases c8 : t212 = t213
    · rw [if_pos c8] at H
      have c8b0 : (t212 == t213) = true := beq_iff_eq.mpr c8
      have c8b1 : (t212 != t213) = false := bne_eq_false_iff_eq.mpr c8
      clear c8
      (first | rw [c8b0] | (simp only [i64_w, i32_w]; rw [c8b0]) | skip)
      replace H := Option.bind_eq_some_iff.mp H
      obtain ⟨t214, A90, H⟩ := H
      replace H : ((tandemref3_Cmp.f a1 a2 a3).bind fun t215 => (tandemlaw3_AluParts.j0 k a0 a1 a2 a3 (t214 != t215))) = some r := H
      have A9 := Aside0.mk A90
      clear A90
      replace H := Option.bind_eq_some_iff.mp H
      obtain ⟨t215, A100, H⟩ := H
      replace H : (tandemlaw3_AluParts.j0 k a0 a1 a2 a3 (t214 != t215)) = some r := H
      have A10 := Aside0.mk A100
      clear A100
      have H' := Aside0.mk H
      clear H
      go_wp2_with (first | ((with_reducible refine gate_callee (f := 25) rfl ?_); refine goesL_ (some 15) rfl rfl Try.func25 (by kernel_rfl) rfl #[.int .u8 a2, .int .u8 a3] rfl (by (try simp only [List.map_toArray, List.map_cons, List.map_nil]); first | done | rfl | (simp only [List.length_drop, List.length_take]; rfl)) ?_; (with_reducible refine (alu_Nz.calls a2 a3 t212 _ A6.out).mono ?_); rintro e w' ⟨rfl, ⟨nd, rfl⟩⟩; refine ⟨_, rfl, ?_⟩) | ((with_reducible refine gate_callee (f := 26) rfl ?_); refine goesL_ (some 18) rfl rfl Try.func26 (by kernel_rfl) rfl #[.int .u8 a2, .int .u8 a3] rfl (by (try simp only [List.map_toArray, List.map_cons, List.map_nil]); first | done | rfl | (simp only [List.length_drop, List.length_take]; rfl)) ?_; (with_reducible refine (tandemref3_Nz.calls a2 a3 t213 _ A7.out).mono ?_); rintro e w' ⟨rfl, ⟨nd, rfl⟩⟩; refine ⟨_, rfl, ?_⟩) | (go_at_call 24; (with_reducible refine (alu_Cmp.calls a1 a2 a3 t214 _ A9.out).mono ?_); rintro e w' ⟨rfl, ⟨nd, rfl⟩⟩) | (go_at_call 27; (with_reducible refine (tandemref3_Cmp.calls a1 a2 a3 t215 _ A10.out).mono ?_); rintro e w' ⟨rfl, ⟨nd, rfl⟩⟩))
      go_meet
      case rel => exact ⟨_, ((t214 != t215)), (by first | rfl | (simp; done) | (simp [*]; done)), H', ⟨by first | omega | exact Nat.le_refl _⟩, by repeat (first | exact Drawn0.refl _ | apply Drawn0.step)⟩
    · rw [if_neg c8] at H
      have c8b0 : (t212 == t213) = false := beq_eq_false_iff_ne.mpr c8
      have c8b1 : (t212 != t213) = true := bne_iff_ne.mpr c8
      (first | rw [c8b0] | (simp only [i64_w, i32_w]; rw [c8b0]) | skip)
      have H' := Aside0.mk H
      clear H
      go_wp2_with (first | ((with_reducible refine gate_callee (f := 25) rfl ?_); refine goesL_ (some 15) rfl rfl Try.func25 (by kernel_rfl) rfl #[.int .u8 a2, .int .u8 a3] rfl (by (try simp only [List.map_toArray, List.map_cons, List.map_nil]); first | done | rfl | (simp only [List.length_drop, List.length_take]; rfl)) ?_; (with_reducible refine (alu_Nz.calls a2 a3 t212 _ A6.out).mono ?_); rintro e w' ⟨rfl, ⟨nd, rfl⟩⟩; refine ⟨_, rfl, ?_⟩) | ((with_reducible refine gate_callee (f := 26) rfl ?_); refine goesL_ (some 18) rfl rfl Try.func26 (by kernel_rfl) rfl #[.int .u8 a2, .int .u8 a3] rfl (by (try simp only [List.map_toArray, List.map_cons, List.map_nil]); first | done | rfl | (simp only [List.length_drop, List.length_take]; rfl)) ?_; (with_reducible refine (tandemref3_Nz.calls a2 a3 t213 _ A7.out).mono ?_); rintro e w' ⟨rfl, ⟨nd, rfl⟩⟩; refine ⟨_, rfl, ?_⟩))
      go_meet
      case rel => exact ⟨_, (true), (by first | rfl | (simp; done) | (simp [*]; done)), H', ⟨by first | omega | exact Nat.le_refl _⟩, by repeat (first | exact Drawn0.refl _ | apply Drawn0.step)⟩
  case rest =>
    clear HC5
    try clear c1
    try clear c2
    try clear p2
    try clear c8
    try clear c8b0
    try clear c8b1
    try clear c10
    obtain ⟨kq, x30_4, rfl, HA, HJ4, ⟨mc4, rfl⟩⟩ := hcut
    cases kq with
    | zero => exact absurd HA.out (by simp [tandemlaw3_AluParts.j0])
    | succ kj4 =>
      have H := HA.out
      clear HA
      simp only [tandemlaw3_AluParts.j0] at H
      by_cases c11 : x30_4 = true
      · subst c11
        have H1 : (some false) = some r := by rw [if_pos rfl] at H; exact H
        clear H
        have H := H1
        clear H1
        obtain rfl := Option.some.inj H
        go_wp2
        go_ret
        exact ⟨by first | rfl | (simp; done) | (simp [*]; done), by repeat (first | exact Drawn0.refl _ | apply Drawn0.step)⟩
      · replace c11 := Bool.eq_false_iff.mpr c11
        subst c11
        have H1 : ((alu_Shift.f a0 a2 a3).bind fun bt216 => ((tandemref3_Shift.f a0 a2 a3).bind fun bt218 => (if bt216.1 = bt218.1 then (tandemlaw3_AluParts.j1 kj4 a1 a2 a3 (bt216.2 != bt218.2)) else (tandemlaw3_AluParts.j1 kj4 a1 a2 a3 true)))) = some r := by rw [if_neg (show ¬ (false = true) by decide)] at H; exact H
        clear H
        have H := H1
        clear H1
        replace H := Option.bind_eq_some_iff.mp H
        obtain ⟨⟨t216, t217⟩, A120, H⟩ := H
        replace H : ((tandemref3_Shift.f a0 a2 a3).bind fun bt218 => (if t216 = bt218.1 then (tandemlaw3_AluParts.j1 kj4 a1 a2 a3 (t217 != bt218.2)) else (tandemlaw3_AluParts.j1 kj4 a1 a2 a3 true))) = some r := H
        have A12 := Aside0.mk A120
        clear A120
        replace H := Option.bind_eq_some_iff.mp H
        obtain ⟨⟨t218, t219⟩, A130, H⟩ := H
        replace H : (if t216 = t218 then (tandemlaw3_AluParts.j1 kj4 a1 a2 a3 (t217 != t219)) else (tandemlaw3_AluParts.j1 kj4 a1 a2 a3 true)) = some r := H
        have A13 := Aside0.mk A130
        clear A130
        have HC14 := Aside0.mk H
        clear H
        go_upto_region 5 with (first | ((with_reducible refine gate_callee (f := 14) rfl ?_); refine goesL_ (some 35) rfl rfl Try.func14 (by kernel_rfl) rfl #[.int .i64 a0, .int .u8 a2, .int .u8 a3] rfl (by (try simp only [List.map_toArray, List.map_cons, List.map_nil]); first | done | rfl | (simp only [List.length_drop, List.length_take]; rfl)) ?_; (with_reducible refine (alu_Shift.calls a0 a2 a3 t216 t217 _ A12.out).mono ?_); rintro e w' ⟨rfl, ⟨nd, rfl⟩⟩; refine ⟨_, rfl, ?_⟩) | ((with_reducible refine gate_callee (f := 28) rfl ?_); refine goesL_ (some 42) rfl rfl Try.func28 (by kernel_rfl) rfl #[.int .i64 a0, .int .u8 a2, .int .u8 a3] rfl (by (try simp only [List.map_toArray, List.map_cons, List.map_nil]); first | done | rfl | (simp only [List.length_drop, List.length_take]; rfl)) ?_; (with_reducible refine (tandemref3_Shift.calls a0 a2 a3 t218 t219 _ A13.out).mono ?_); rintro e w' ⟨rfl, ⟨nd, rfl⟩⟩; refine ⟨_, rfl, ?_⟩))
        (try simp only [Act.put, List.setIfInBounds_toArray, List.set_cons_zero, List.set_cons_succ])
        go_cut [52] (fun v52 wc => ∃ (kq : Nat) (x52_13 : Bool), v52 = .bool x52_13 ∧ Aside0 (tandemlaw3_AluParts.j1 kq a1 a2 a3 x52_13 = some r) ∧ Aside0 (kq ≤ kj4) ∧ Drawn0 w wc)
        case first =>
          have H := HC14.out
          clear HC14
          by_cases c15 : t216 = t218
          · rw [if_pos c15] at H
            have c15b0 : (t216 == t218) = true := beq_iff_eq.mpr c15
            have c15b1 : (t216 != t218) = false := bne_eq_false_iff_eq.mpr c15
            clear c15
            (first | rw [c15b0] | (simp only [i64_w, i32_w]; rw [c15b0]) | skip)
            have H' := Aside0.mk H
            clear H
            go_wp2
            go_meet
            case rel => exact ⟨_, ((t217 != t219)), (by first | rfl | (simp; done) | (simp [*]; done)), H', ⟨by have := HJ4.out; first | omega | exact Nat.le_refl _⟩, by repeat (first | exact Drawn0.refl _ | apply Drawn0.step)⟩
          · rw [if_neg c15] at H
            have c15b0 : (t216 == t218) = false := beq_eq_false_iff_ne.mpr c15
            have c15b1 : (t216 != t218) = true := bne_iff_ne.mpr c15
            (first | rw [c15b0] | (simp only [i64_w, i32_w]; rw [c15b0]) | skip)
            have H' := Aside0.mk H
            clear H
            go_wp2
            go_meet
            case rel => exact ⟨_, (true), (by first | rfl | (simp; done) | (simp [*]; done)), H', ⟨by have := HJ4.out; first | omega | exact Nat.le_refl _⟩, by repeat (first | exact Drawn0.refl _ | apply Drawn0.step)⟩
        case rest =>
          clear HC14
          try clear c1
          try clear c2
          try clear p2
          try clear c4
          try clear c8
          try clear c8b0
          try clear c8b1
          try clear c10
          try clear c11
          try clear c14
          try clear c15
          try clear c15b0
          try clear c15b1
          try clear p2
          obtain ⟨kq, x52_13, rfl, HA, HJ13, ⟨mc13, rfl⟩⟩ := hcut
          cases kq with
          | zero => exact absurd HA.out (by simp [tandemlaw3_AluParts.j1])
          | succ kj13 =>
            have H := HA.out
            clear HA
            simp only [tandemlaw3_AluParts.j1] at H
            by_cases c16 : x52_13 = true
            · subst c16
              have H1 : (some false) = some r := by rw [if_pos rfl] at H; exact H
              clear H
              have H := H1
              clear H1
              obtain rfl := Option.some.inj H
              go_wp2
              go_ret
              exact ⟨by first | rfl | (simp; done) | (simp [*]; done), by repeat (first | exact Drawn0.refl _ | apply Drawn0.step)⟩
            · replace c16 := Bool.eq_false_iff.mpr c16
              subst c16
              have H1 : ((alu_Adc.f kj13 a1 a2 a3).bind fun bt220 => ((tandemref3_Adc.f kj13 a1 a2 a3).bind fun bt222 => (if bt220.1 = bt222.1 then (tandemlaw3_AluParts.j2 kj13 a1 a2 a3 (bt220.2 != bt222.2)) else (tandemlaw3_AluParts.j2 kj13 a1 a2 a3 true)))) = some r := by rw [if_neg (show ¬ (false = true) by decide)] at H; exact H
              clear H
              have H := H1
              clear H1
              replace H := Option.bind_eq_some_iff.mp H
              obtain ⟨⟨t220, t221⟩, A170, H⟩ := H
              replace H : ((tandemref3_Adc.f kj13 a1 a2 a3).bind fun bt222 => (if t220 = bt222.1 then (tandemlaw3_AluParts.j2 kj13 a1 a2 a3 (t221 != bt222.2)) else (tandemlaw3_AluParts.j2 kj13 a1 a2 a3 true))) = some r := H
              have A17 := Aside0.mk A170
              clear A170
              replace H := Option.bind_eq_some_iff.mp H
              obtain ⟨⟨t222, t223⟩, A180, H⟩ := H
              replace H : (if t220 = t222 then (tandemlaw3_AluParts.j2 kj13 a1 a2 a3 (t221 != t223)) else (tandemlaw3_AluParts.j2 kj13 a1 a2 a3 true)) = some r := H
              have A18 := Aside0.mk A180
              clear A180
              have HC19 := Aside0.mk H
              clear H
              go_upto_region 9 with (first | ((with_reducible refine gate_callee (f := 22) rfl ?_); refine goesL_ (some 57) rfl rfl Try.func22 (by kernel_rfl) rfl #[.int .u8 a1, .int .u8 a2, .int .u8 a3] rfl (by (try simp only [List.map_toArray, List.map_cons, List.map_nil]); first | done | rfl | (simp only [List.length_drop, List.length_take]; rfl)) ?_; (with_reducible refine (alu_Adc.calls kj13 a1 a2 a3 t220 t221 _ A17.out).mono ?_); rintro e w' ⟨rfl, ⟨nd, rfl⟩⟩; refine ⟨_, rfl, ?_⟩) | ((with_reducible refine gate_callee (f := 29) rfl ?_); refine goesL_ (some 64) rfl rfl Try.func29 (by kernel_rfl) rfl #[.int .u8 a1, .int .u8 a2, .int .u8 a3] rfl (by (try simp only [List.map_toArray, List.map_cons, List.map_nil]); first | done | rfl | (simp only [List.length_drop, List.length_take]; rfl)) ?_; (with_reducible refine (tandemref3_Adc.calls kj13 a1 a2 a3 t222 t223 _ A18.out).mono ?_); rintro e w' ⟨rfl, ⟨nd, rfl⟩⟩; refine ⟨_, rfl, ?_⟩))
              (try simp only [Act.put, List.setIfInBounds_toArray, List.set_cons_zero, List.set_cons_succ])
              go_cut [74] (fun v74 wc => ∃ (kq : Nat) (x74_18 : Bool), v74 = .bool x74_18 ∧ Aside0 (tandemlaw3_AluParts.j2 kq a1 a2 a3 x74_18 = some r) ∧ Aside0 (kq ≤ kj13) ∧ Drawn0 w wc)
              case first =>
                have H := HC19.out
                clear HC19
                by_cases c20 : t220 = t222
                · rw [if_pos c20] at H
                  have c20b0 : (t220 == t222) = true := beq_iff_eq.mpr c20
                  have c20b1 : (t220 != t222) = false := bne_eq_false_iff_eq.mpr c20
                  clear c20
                  (first | rw [c20b0] | (simp only [i64_w, i32_w]; rw [c20b0]) | skip)
                  have H' := Aside0.mk H
                  clear H
                  go_wp2
                  go_meet
                  case rel => exact ⟨_, ((t221 != t223)), (by first | rfl | (simp; done) | (simp [*]; done)), H', ⟨by have := HJ4.out; have := HJ13.out; first | omega | exact Nat.le_refl _⟩, by repeat (first | exact Drawn0.refl _ | apply Drawn0.step)⟩
                · rw [if_neg c20] at H
                  have c20b0 : (t220 == t222) = false := beq_eq_false_iff_ne.mpr c20
                  have c20b1 : (t220 != t222) = true := bne_iff_ne.mpr c20
                  (first | rw [c20b0] | (simp only [i64_w, i32_w]; rw [c20b0]) | skip)
                  have H' := Aside0.mk H
                  clear H
                  go_wp2
                  go_meet
                  case rel => exact ⟨_, (true), (by first | rfl | (simp; done) | (simp [*]; done)), H', ⟨by have := HJ4.out; have := HJ13.out; first | omega | exact Nat.le_refl _⟩, by repeat (first | exact Drawn0.refl _ | apply Drawn0.step)⟩
              case rest =>
                clear HC19
                try clear c1
                try clear c2
                try clear p2
                try clear c4
                try clear c8
                try clear c8b0
                try clear c8b1
                try clear c10
                try clear c11
                try clear c13
                try clear c14
                try clear c15
                try clear c15b0
                try clear c15b1
                try clear c16
                try clear c20
                try clear c20b0
                try clear c20b1
                try clear p2
                obtain ⟨kq, x74_18, rfl, HA, HJ18, ⟨mc18, rfl⟩⟩ := hcut
                cases kq with
                | zero => exact absurd HA.out (by simp [tandemlaw3_AluParts.j2])
                | succ kj18 =>
                  have H := HA.out
                  clear HA
                  simp only [tandemlaw3_AluParts.j2] at H
                  by_cases c21 : x74_18 = true
                  · subst c21
                    have H1 : (some false) = some r := by rw [if_pos rfl] at H; exact H
                    clear H
                    have H := H1
                    clear H1
                    obtain rfl := Option.some.inj H
                    go_wp2
                    go_ret
                    exact ⟨by first | rfl | (simp; done) | (simp [*]; done), by repeat (first | exact Drawn0.refl _ | apply Drawn0.step)⟩
                  · replace c21 := Bool.eq_false_iff.mpr c21
                    subst c21
                    have H1 : ((alu_Sbc.f a1 a2 a3).bind fun bt224 => ((tandemref3_Sbc.f kj18 a1 a2 a3).bind fun bt226 => (if bt224.1 = bt226.1 then (tandemlaw3_AluParts.j3 kj18 a1 a2 a3 (bt224.2 != bt226.2)) else (tandemlaw3_AluParts.j3 kj18 a1 a2 a3 true)))) = some r := by rw [if_neg (show ¬ (false = true) by decide)] at H; exact H
                    clear H
                    have H := H1
                    clear H1
                    replace H := Option.bind_eq_some_iff.mp H
                    obtain ⟨⟨t224, t225⟩, A220, H⟩ := H
                    replace H : ((tandemref3_Sbc.f kj18 a1 a2 a3).bind fun bt226 => (if t224 = bt226.1 then (tandemlaw3_AluParts.j3 kj18 a1 a2 a3 (t225 != bt226.2)) else (tandemlaw3_AluParts.j3 kj18 a1 a2 a3 true))) = some r := H
                    have A22 := Aside0.mk A220
                    clear A220
                    replace H := Option.bind_eq_some_iff.mp H
                    obtain ⟨⟨t226, t227⟩, A230, H⟩ := H
                    replace H : (if t224 = t226 then (tandemlaw3_AluParts.j3 kj18 a1 a2 a3 (t225 != t227)) else (tandemlaw3_AluParts.j3 kj18 a1 a2 a3 true)) = some r := H
                    have A23 := Aside0.mk A230
                    clear A230
                    have HC24 := Aside0.mk H
                    clear H
                    go_upto_region 13 with (first | ((with_reducible refine gate_callee (f := 16) rfl ?_); refine goesL_ (some 79) rfl rfl Try.func16 (by kernel_rfl) rfl #[.int .u8 a1, .int .u8 a2, .int .u8 a3] rfl (by (try simp only [List.map_toArray, List.map_cons, List.map_nil]); first | done | rfl | (simp only [List.length_drop, List.length_take]; rfl)) ?_; (with_reducible refine (alu_Sbc.calls a1 a2 a3 t224 t225 _ A22.out).mono ?_); rintro e w' ⟨rfl, ⟨nd, rfl⟩⟩; refine ⟨_, rfl, ?_⟩) | ((with_reducible refine gate_callee (f := 30) rfl ?_); refine goesL_ (some 86) rfl rfl Try.func30 (by kernel_rfl) rfl #[.int .u8 a1, .int .u8 a2, .int .u8 a3] rfl (by (try simp only [List.map_toArray, List.map_cons, List.map_nil]); first | done | rfl | (simp only [List.length_drop, List.length_take]; rfl)) ?_; (with_reducible refine (tandemref3_Sbc.calls kj18 a1 a2 a3 t226 t227 _ A23.out).mono ?_); rintro e w' ⟨rfl, ⟨nd, rfl⟩⟩; refine ⟨_, rfl, ?_⟩))
                    (try simp only [Act.put, List.setIfInBounds_toArray, List.set_cons_zero, List.set_cons_succ])
                    go_cut [96] (fun v96 wc => ∃ (kq : Nat) (x96_23 : Bool), v96 = .bool x96_23 ∧ Aside0 (tandemlaw3_AluParts.j3 kq a1 a2 a3 x96_23 = some r) ∧ Aside0 (kq ≤ kj18) ∧ Drawn0 w wc)
                    case first =>
                      have H := HC24.out
                      clear HC24
                      by_cases c25 : t224 = t226
                      · rw [if_pos c25] at H
                        have c25b0 : (t224 == t226) = true := beq_iff_eq.mpr c25
                        have c25b1 : (t224 != t226) = false := bne_eq_false_iff_eq.mpr c25
                        clear c25
                        (first | rw [c25b0] | (simp only [i64_w, i32_w]; rw [c25b0]) | skip)
                        have H' := Aside0.mk H
                        clear H
                        go_wp2
                        go_meet
                        case rel => exact ⟨_, ((t225 != t227)), (by first | rfl | (simp; done) | (simp [*]; done)), H', ⟨by have := HJ4.out; have := HJ13.out; have := HJ18.out; first | omega | exact Nat.le_refl _⟩, by repeat (first | exact Drawn0.refl _ | apply Drawn0.step)⟩
                      · rw [if_neg c25] at H
                        have c25b0 : (t224 == t226) = false := beq_eq_false_iff_ne.mpr c25
                        have c25b1 : (t224 != t226) = true := bne_iff_ne.mpr c25
                        (first | rw [c25b0] | (simp only [i64_w, i32_w]; rw [c25b0]) | skip)
                        have H' := Aside0.mk H
                        clear H
                        go_wp2
                        go_meet
                        case rel => exact ⟨_, (true), (by first | rfl | (simp; done) | (simp [*]; done)), H', ⟨by have := HJ4.out; have := HJ13.out; have := HJ18.out; first | omega | exact Nat.le_refl _⟩, by repeat (first | exact Drawn0.refl _ | apply Drawn0.step)⟩
                    case rest =>
                      clear HC24
                      try clear c1
                      try clear c2
                      try clear p2
                      try clear c3
                      try clear c4
                      try clear c8
                      try clear c8b0
                      try clear c8b1
                      try clear c10
                      try clear c11
                      try clear c13
                      try clear c14
                      try clear c15
                      try clear c15b0
                      try clear c15b1
                      try clear c16
                      try clear c18
                      try clear c20
                      try clear c20b0
                      try clear c20b1
                      try clear c21
                      try clear c22
                      try clear c25
                      try clear c25b0
                      try clear c25b1
                      try clear p2
                      obtain ⟨kq, x96_23, rfl, HA, HJ23, ⟨mc23, rfl⟩⟩ := hcut
                      cases kq with
                      | zero => exact absurd HA.out (by simp [tandemlaw3_AluParts.j3])
                      | succ kj23 =>
                        have H := HA.out
                        clear HA
                        simp only [tandemlaw3_AluParts.j3] at H
                        by_cases c26 : x96_23 = true
                        · subst c26
                          have H1 : (some false) = some r := by rw [if_pos rfl] at H; exact H
                          clear H
                          have H := H1
                          clear H1
                          obtain rfl := Option.some.inj H
                          go_wp2
                          go_ret
                          exact ⟨by first | rfl | (simp; done) | (simp [*]; done), by repeat (first | exact Drawn0.refl _ | apply Drawn0.step)⟩
                        · replace c26 := Bool.eq_false_iff.mpr c26
                          subst c26
                          have H1 : ((alu_Arr.f a1 a2 a3).bind fun bt228 => ((tandemref3_Arr.f kj23 a1 a2 a3).bind fun bt230 => (if bt228.1 = bt230.1 then (some (bt228.2 == bt230.2)) else (some false)))) = some r := by rw [if_neg (show ¬ (false = true) by decide)] at H; exact H
                          clear H
                          have H := H1
                          clear H1
                          replace H := Option.bind_eq_some_iff.mp H
                          obtain ⟨⟨t228, t229⟩, A270, H⟩ := H
                          replace H : ((tandemref3_Arr.f kj23 a1 a2 a3).bind fun bt230 => (if t228 = bt230.1 then (some (t229 == bt230.2)) else (some false))) = some r := H
                          have A27 := Aside0.mk A270
                          clear A270
                          replace H := Option.bind_eq_some_iff.mp H
                          obtain ⟨⟨t230, t231⟩, A280, H⟩ := H
                          replace H : (if t228 = t230 then (some (t229 == t231)) else (some false)) = some r := H
                          have A28 := Aside0.mk A280
                          clear A280
                          by_cases c29 : t228 = t230
                          · rw [if_pos c29] at H
                            have c29b0 : (t228 == t230) = true := beq_iff_eq.mpr c29
                            have c29b1 : (t228 != t230) = false := bne_eq_false_iff_eq.mpr c29
                            clear c29
                            obtain rfl := Option.some.inj H
                            go_wp2_with (first | ((with_reducible refine gate_callee (f := 31) rfl ?_); refine goesL_ (some 101) rfl rfl Try.func31 (by kernel_rfl) rfl #[.int .u8 a1, .int .u8 a2, .int .u8 a3] rfl (by (try simp only [List.map_toArray, List.map_cons, List.map_nil]); first | done | rfl | (simp only [List.length_drop, List.length_take]; rfl)) ?_; (with_reducible refine (alu_Arr.calls a1 a2 a3 t228 t229 _ A27.out).mono ?_); rintro e w' ⟨rfl, ⟨nd, rfl⟩⟩; refine ⟨_, rfl, ?_⟩) | ((with_reducible refine gate_callee (f := 32) rfl ?_); refine goesL_ (some 108) rfl rfl Try.func32 (by kernel_rfl) rfl #[.int .u8 a1, .int .u8 a2, .int .u8 a3] rfl (by (try simp only [List.map_toArray, List.map_cons, List.map_nil]); first | done | rfl | (simp only [List.length_drop, List.length_take]; rfl)) ?_; (with_reducible refine (tandemref3_Arr.calls kj23 a1 a2 a3 t230 t231 _ A28.out).mono ?_); rintro e w' ⟨rfl, ⟨nd, rfl⟩⟩; refine ⟨_, rfl, ?_⟩))
                            go_ret
                            exact ⟨by first | rfl | (simp; done) | (simp [*]; done), by repeat (first | exact Drawn0.refl _ | apply Drawn0.step)⟩
                          · rw [if_neg c29] at H
                            have c29b0 : (t228 == t230) = false := beq_eq_false_iff_ne.mpr c29
                            have c29b1 : (t228 != t230) = true := bne_iff_ne.mpr c29
                            obtain rfl := Option.some.inj H
                            go_wp2_with (first | ((with_reducible refine gate_callee (f := 31) rfl ?_); refine goesL_ (some 101) rfl rfl Try.func31 (by kernel_rfl) rfl #[.int .u8 a1, .int .u8 a2, .int .u8 a3] rfl (by (try simp only [List.map_toArray, List.map_cons, List.map_nil]); first | done | rfl | (simp only [List.length_drop, List.length_take]; rfl)) ?_; (with_reducible refine (alu_Arr.calls a1 a2 a3 t228 t229 _ A27.out).mono ?_); rintro e w' ⟨rfl, ⟨nd, rfl⟩⟩; refine ⟨_, rfl, ?_⟩) | ((with_reducible refine gate_callee (f := 32) rfl ?_); refine goesL_ (some 108) rfl rfl Try.func32 (by kernel_rfl) rfl #[.int .u8 a1, .int .u8 a2, .int .u8 a3] rfl (by (try simp only [List.map_toArray, List.map_cons, List.map_nil]); first | done | rfl | (simp only [List.length_drop, List.length_take]; rfl)) ?_; (with_reducible refine (tandemref3_Arr.calls kj23 a1 a2 a3 t230 t231 _ A28.out).mono ?_); rintro e w' ⟨rfl, ⟨nd, rfl⟩⟩; refine ⟨_, rfl, ?_⟩))
                            go_ret
                            exact ⟨by first | rfl | (simp; done) | (simp [*]; done), by repeat (first | exact Drawn0.refl _ | apply Drawn0.step)⟩

/-- THE ONE PURE STATEMENT of tandemlaw3_AluParts: yours. -/
def tandemlaw3_AluParts.Pure : Prop := ∀ (a0 : Int) (a1 : Int) (a2 : Int) (a3 : Int), (Lit.int .i64 a0).wf = true → (Lit.int .u8 a1).wf = true → (Lit.int .u8 a2).wf = true → (Lit.int .u8 a3).wf = true → ∃ k, tandemlaw3_AluParts.f k a0 a1 a2 a3 = some true
theorem tandemlaw3_AluParts.walk (P : tandemlaw3_AluParts.Pure) (a0 : Int) (a1 : Int) (a2 : Int) (a3 : Int) (w : World) (w0 : (Lit.int .i64 a0).wf = true) (w1 : (Lit.int .u8 a1).wf = true) (w2 : (Lit.int .u8 a2).wf = true) (w3 : (Lit.int .u8 a3).wf = true) :
    Calls Try.prog 10 #[.int .i64 a0, .int .u8 a1, .int .u8 a2, .int .u8 a3] w fun e w' => e = .returned (.bool true) ∧ Below w.heap.size w w' := by
  obtain ⟨k, h⟩ := P a0 a1 a2 a3 w0 w1 w2 w3
  refine (tandemlaw3_AluParts.calls k a0 a1 a2 a3 true w h).mono ?_
  rintro e w' ⟨rfl, hd⟩
  exact ⟨rfl, hd.below⟩

end Go.Proofs.Ytajffjhfecckbaa.XAluParts
