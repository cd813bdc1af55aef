-- Made by this seat's own program wip/tools/xprint.py.
import Derived.Test.YtajffjhfecckbaaXAluPartsx0
import Derived.Test.YtajffjhfecckbaaXAluPartsx1
namespace Go.Proofs.Ytajffjhfecckbaa.XAluParts
open Go.RowKit Go.Proofs.YtajffjhfecckbaaW.PrintWords Go.Proofs.YtajffjhfecckbaaW.PrintLast Go.Proofs.YtajffjhfecckbaaW.PrintMore
attribute [local go_sem] max2_int min2_int max_two min_two max_three min_three max_four min_four   -- for this text's walks alone
set_option linter.unusedVariables false
set_option linter.unusedSimpArgs false

/-! ### tandemref3_Adc: function 29 -/
mutual
def tandemref3_Adc.j0 : Nat → Int → Int → Int → Int → Int → Option (Int × Int)
  | 0, _, _, _, _, _ => none
  | k + 1, x0, x1, x2, x8, x10 => (tandemref3_high.f (wrap64 ((wrap64 ((wrap64 (16 * (wrap64 (Int.tdiv (wrap64 (x0)) 16)))) + (wrap64 (16 * (wrap64 (Int.tdiv (wrap64 (x1)) 16)))))) + x10))).bind fun t158 => ((tandemref3_put.f x2 128 t158).bind fun t159 => ((tandemref3_high.f (wrap64 (x0))).bind fun t160 => ((tandemref3_high.f (wrap64 (x1))).bind fun t161 => (if (t160 == t161) = true then ((tandemref3_high.f (wrap64 ((wrap64 ((wrap64 (16 * (wrap64 (Int.tdiv (wrap64 (x0)) 16)))) + (wrap64 (16 * (wrap64 (Int.tdiv (wrap64 (x1)) 16)))))) + x10))).bind fun t162 => ((tandemref3_high.f (wrap64 (x0))).bind fun t163 => ((tandemref3_put.f t159 64 (t162 != t163)).bind fun t164 => (tandemref3_Adc.j1 k t164 x8 (wrap64 ((wrap64 ((wrap64 (16 * (wrap64 (Int.tdiv (wrap64 (x0)) 16)))) + (wrap64 (16 * (wrap64 (Int.tdiv (wrap64 (x1)) 16)))))) + x10)))))) else ((tandemref3_put.f t159 64 false).bind fun t165 => (tandemref3_Adc.j1 k t165 x8 (wrap64 ((wrap64 ((wrap64 (16 * (wrap64 (Int.tdiv (wrap64 (x0)) 16)))) + (wrap64 (16 * (wrap64 (Int.tdiv (wrap64 (x1)) 16)))))) + x10))))))))
def tandemref3_Adc.j1 : Nat → Int → Int → Int → Option (Int × Int)
  | 0, _, _, _ => none
  | k + 1, x2, x8, x11 => (tandemref3_rest.f x8 256).bind fun t166 => ((tandemref3_put.f x2 2 (t166 == 0)).bind fun t167 => (if x11 ≥ 160 then ((tandemref3_put.f t167 1 (decide ((wrap64 (x11 + 96)) ≥ 256))).bind fun t168 => ((tandemref3_rest.f (wrap64 (x11 + 96)) 256).bind fun t169 => (some ((t169) % 256, t168)))) else ((tandemref3_put.f t167 1 (decide (x11 ≥ 256))).bind fun t170 => ((tandemref3_rest.f x11 256).bind fun t171 => (some ((t171) % 256, t170))))))
end
def tandemref3_Adc.f (k : Nat) (a0 : Int) (a1 : Int) (a2 : Int) : Option (Int × Int) := (tandemref3_carry.f a2).bind fun t145 => (if (Go.bits .and .u8 a2 8) = 0 then ((tandemref3_rest.f (wrap64 ((wrap64 ((wrap64 (a0)) + (wrap64 (a1)))) + t145)) 256).bind fun t146 => ((tandemref3_high.f (wrap64 (a0))).bind fun t147 => ((tandemref3_high.f (wrap64 (a1))).bind fun t148 => (if (t147 == t148) = true then ((tandemref3_high.f (wrap64 ((wrap64 ((wrap64 (a0)) + (wrap64 (a1)))) + t145))).bind fun t149 => ((tandemref3_high.f (wrap64 (a0))).bind fun t150 => ((tandemref3_put.f a2 64 (t149 != t150)).bind fun t151 => ((tandemref3_put.f t151 1 (decide ((wrap64 ((wrap64 ((wrap64 (a0)) + (wrap64 (a1)))) + t145)) ≥ 256))).bind fun t152 => ((tandemref3_Nz.f ((t146) % 256) t152).bind fun t153 => (some ((t146) % 256, t153))))))) else ((tandemref3_put.f a2 64 false).bind fun t154 => ((tandemref3_put.f t154 1 (decide ((wrap64 ((wrap64 ((wrap64 (a0)) + (wrap64 (a1)))) + t145)) ≥ 256))).bind fun t155 => ((tandemref3_Nz.f ((t146) % 256) t155).bind fun t156 => (some ((t146) % 256, t156))))))))) else ((tandemref3_carry.f a2).bind fun t157 => (if (wrap64 ((wrap64 ((Int.tmod (wrap64 (a0)) 16) + (Int.tmod (wrap64 (a1)) 16))) + t157)) ≥ 10 then (tandemref3_Adc.j0 k a0 a1 a2 (wrap64 ((wrap64 ((wrap64 (a0)) + (wrap64 (a1)))) + t145)) (wrap64 ((Int.tmod (wrap64 ((wrap64 ((wrap64 ((Int.tmod (wrap64 (a0)) 16) + (Int.tmod (wrap64 (a1)) 16))) + t157)) + 6)) 16) + 16))) else (tandemref3_Adc.j0 k a0 a1 a2 (wrap64 ((wrap64 ((wrap64 (a0)) + (wrap64 (a1)))) + t145)) (wrap64 ((wrap64 ((Int.tmod (wrap64 (a0)) 16) + (Int.tmod (wrap64 (a1)) 16))) + t157))))))
theorem tandemref3_Adc.mono_l : ∀ k, (∀ y0 y1 y2 y3 y4, LeO (tandemref3_Adc.j0 k y0 y1 y2 y3 y4) (tandemref3_Adc.j0 (k + 1) y0 y1 y2 y3 y4)) ∧ (∀ y0 y1 y2, LeO (tandemref3_Adc.j1 k y0 y1 y2) (tandemref3_Adc.j1 (k + 1) y0 y1 y2))
  | 0 => ⟨fun _ _ _ _ _ r h => by simp [tandemref3_Adc.j0] at h, fun _ _ _ r h => by simp [tandemref3_Adc.j1] at h⟩
  | k + 1 => by
    obtain ⟨ih0, ih1⟩ := tandemref3_Adc.mono_l k
    refine ⟨?_, ?_⟩
    · intro y0 y1 y2 y3 y4
      unfold tandemref3_Adc.j0
      repeat' first
      | (with_reducible exact ih0 _ _ _ _ _)
      | (with_reducible exact ih1 _ _ _)
      | (with_reducible exact LeO.refl _)
      | (with_reducible exact LeO.none _)
      | (with_reducible refine LeO.ite ?_ ?_)
      | (with_reducible refine LeO.bind ?_ (fun _ => ?_))
      | exact ih0 _ _ _ _ _
      | exact ih1 _ _ _
      | exact LeO.none _
      | refine LeO.ite ?_ ?_
      | refine LeO.bind ?_ (fun _ => ?_)
    · intro y0 y1 y2
      unfold tandemref3_Adc.j1
      repeat' first
      | (with_reducible exact ih0 _ _ _ _ _)
      | (with_reducible exact ih1 _ _ _)
      | (with_reducible exact LeO.refl _)
      | (with_reducible exact LeO.none _)
      | (with_reducible refine LeO.ite ?_ ?_)
      | (with_reducible refine LeO.bind ?_ (fun _ => ?_))
      | exact ih0 _ _ _ _ _
      | exact ih1 _ _ _
      | exact LeO.none _
      | refine LeO.ite ?_ ?_
      | refine LeO.bind ?_ (fun _ => ?_)
theorem tandemref3_Adc.mono : ∀ a0 a1 a2 k, LeO (tandemref3_Adc.f k a0 a1 a2) (tandemref3_Adc.f (k + 1) a0 a1 a2) := by
  intro a0 a1 a2 k
  obtain ⟨ih0, ih1⟩ := tandemref3_Adc.mono_l k
  unfold tandemref3_Adc.f
  repeat' first
      | (with_reducible exact ih0 _ _ _ _ _)
      | (with_reducible exact ih1 _ _ _)
      | (with_reducible exact LeO.refl _)
      | (with_reducible exact LeO.none _)
      | (with_reducible refine LeO.ite ?_ ?_)
      | (with_reducible refine LeO.bind ?_ (fun _ => ?_))
      | exact ih0 _ _ _ _ _
      | exact ih1 _ _ _
      | exact LeO.none _
      | refine LeO.ite ?_ ?_
      | refine LeO.bind ?_ (fun _ => ?_)
set_option maxHeartbeats 8000000 in
set_option maxRecDepth 100000 in
theorem tandemref3_Adc.calls (k : Nat) (a0 : Int) (a1 : Int) (a2 : Int) (r1 : Int) (r2 : Int) (w : World) (h : tandemref3_Adc.f k a0 a1 a2 = some (r1, r2)) :
    Calls Try.prog 29 #[.int .u8 a0, .int .u8 a1, .int .u8 a2] w fun e w' => e = .returned (.tuple #[.int .u8 r1, .int .u8 r2]) ∧ Drawn0 w w' := by
  have H : ((tandemref3_carry.f a2).bind fun t145 => (if (Go.bits .and .u8 a2 8) = 0 then ((tandemref3_rest.f (wrap64 ((wrap64 ((wrap64 (a0)) + (wrap64 (a1)))) + t145)) 256).bind fun t146 => ((tandemref3_high.f (wrap64 (a0))).bind fun t147 => ((tandemref3_high.f (wrap64 (a1))).bind fun t148 => (if (t147 == t148) = true then ((tandemref3_high.f (wrap64 ((wrap64 ((wrap64 (a0)) + (wrap64 (a1)))) + t145))).bind fun t149 => ((tandemref3_high.f (wrap64 (a0))).bind fun t150 => ((tandemref3_put.f a2 64 (t149 != t150)).bind fun t151 => ((tandemref3_put.f t151 1 (decide ((wrap64 ((wrap64 ((wrap64 (a0)) + (wrap64 (a1)))) + t145)) ≥ 256))).bind fun t152 => ((tandemref3_Nz.f ((t146) % 256) t152).bind fun t153 => (some ((t146) % 256, t153))))))) else ((tandemref3_put.f a2 64 false).bind fun t154 => ((tandemref3_put.f t154 1 (decide ((wrap64 ((wrap64 ((wrap64 (a0)) + (wrap64 (a1)))) + t145)) ≥ 256))).bind fun t155 => ((tandemref3_Nz.f ((t146) % 256) t155).bind fun t156 => (some ((t146) % 256, t156))))))))) else ((tandemref3_carry.f a2).bind fun t157 => (if (wrap64 ((wrap64 ((Int.tmod (wrap64 (a0)) 16) + (Int.tmod (wrap64 (a1)) 16))) + t157)) ≥ 10 then (tandemref3_Adc.j0 k a0 a1 a2 (wrap64 ((wrap64 ((wrap64 (a0)) + (wrap64 (a1)))) + t145)) (wrap64 ((Int.tmod (wrap64 ((wrap64 ((wrap64 ((Int.tmod (wrap64 (a0)) 16) + (Int.tmod (wrap64 (a1)) 16))) + t157)) + 6)) 16) + 16))) else (tandemref3_Adc.j0 k a0 a1 a2 (wrap64 ((wrap64 ((wrap64 (a0)) + (wrap64 (a1)))) + t145)) (wrap64 ((wrap64 ((Int.tmod (wrap64 (a0)) 16) + (Int.tmod (wrap64 (a1)) 16))) + t157))))))) = some (r1, r2) := h
  clear h
  replace H := Option.bind_eq_some_iff.mp H
  obtain ⟨t145, A40, H⟩ := H
  replace H : (if (Go.bits .and .u8 a2 8) = 0 then ((tandemref3_rest.f (wrap64 ((wrap64 ((wrap64 (a0)) + (wrap64 (a1)))) + t145)) 256).bind fun t146 => ((tandemref3_high.f (wrap64 (a0))).bind fun t147 => ((tandemref3_high.f (wrap64 (a1))).bind fun t148 => (if (t147 == t148) = true then ((tandemref3_high.f (wrap64 ((wrap64 ((wrap64 (a0)) + (wrap64 (a1)))) + t145))).bind fun t149 => ((tandemref3_high.f (wrap64 (a0))).bind fun t150 => ((tandemref3_put.f a2 64 (t149 != t150)).bind fun t151 => ((tandemref3_put.f t151 1 (decide ((wrap64 ((wrap64 ((wrap64 (a0)) + (wrap64 (a1)))) + t145)) ≥ 256))).bind fun t152 => ((tandemref3_Nz.f ((t146) % 256) t152).bind fun t153 => (some ((t146) % 256, t153))))))) else ((tandemref3_put.f a2 64 false).bind fun t154 => ((tandemref3_put.f t154 1 (decide ((wrap64 ((wrap64 ((wrap64 (a0)) + (wrap64 (a1)))) + t145)) ≥ 256))).bind fun t155 => ((tandemref3_Nz.f ((t146) % 256) t155).bind fun t156 => (some ((t146) % 256, t156))))))))) else ((tandemref3_carry.f a2).bind fun t157 => (if (wrap64 ((wrap64 ((Int.tmod (wrap64 (a0)) 16) + (Int.tmod (wrap64 (a1)) 16))) + t157)) ≥ 10 then (tandemref3_Adc.j0 k a0 a1 a2 (wrap64 ((wrap64 ((wrap64 (a0)) + (wrap64 (a1)))) + t145)) (wrap64 ((Int.tmod (wrap64 ((wrap64 ((wrap64 ((Int.tmod (wrap64 (a0)) 16) + (Int.tmod (wrap64 (a1)) 16))) + t157)) + 6)) 16) + 16))) else (tandemref3_Adc.j0 k a0 a1 a2 (wrap64 ((wrap64 ((wrap64 (a0)) + (wrap64 (a1)))) + t145)) (wrap64 ((wrap64 ((Int.tmod (wrap64 (a0)) 16) + (Int.tmod (wrap64 (a1)) 16))) + t157)))))) = some (r1, r2) := H
  have A4 := Aside0.mk A40
  clear A40
  by_cases c5 : (Go.bits .and .u8 a2 8) = 0
  · rw [if_pos c5] at H
    have c5b0 : ((Go.bits .and .u8 a2 8) == 0) = true := beq_iff_eq.mpr c5
    have c5b1 : ((Go.bits .and .u8 a2 8) != 0) = false := bne_eq_false_iff_eq.mpr c5
    clear c5
    replace H := Option.bind_eq_some_iff.mp H
    obtain ⟨t146, A60, H⟩ := H
    replace H : ((tandemref3_high.f (wrap64 (a0))).bind fun t147 => ((tandemref3_high.f (wrap64 (a1))).bind fun t148 => (if (t147 == t148) = true then ((tandemref3_high.f (wrap64 ((wrap64 ((wrap64 (a0)) + (wrap64 (a1)))) + t145))).bind fun t149 => ((tandemref3_high.f (wrap64 (a0))).bind fun t150 => ((tandemref3_put.f a2 64 (t149 != t150)).bind fun t151 => ((tandemref3_put.f t151 1 (decide ((wrap64 ((wrap64 ((wrap64 (a0)) + (wrap64 (a1)))) + t145)) ≥ 256))).bind fun t152 => ((tandemref3_Nz.f ((t146) % 256) t152).bind fun t153 => (some ((t146) % 256, t153))))))) else ((tandemref3_put.f a2 64 false).bind fun t154 => ((tandemref3_put.f t154 1 (decide ((wrap64 ((wrap64 ((wrap64 (a0)) + (wrap64 (a1)))) + t145)) ≥ 256))).bind fun t155 => ((tandemref3_Nz.f ((t146) % 256) t155).bind fun t156 => (some ((t146) % 256, t156)))))))) = some (r1, r2) := H
    have A6 := Aside0.mk A60
    clear A60
    replace H := Option.bind_eq_some_iff.mp H
    obtain ⟨t147, A70, H⟩ := H
    replace H : ((tandemref3_high.f (wrap64 (a1))).bind fun t148 => (if (t147 == t148) = true then ((tandemref3_high.f (wrap64 ((wrap64 ((wrap64 (a0)) + (wrap64 (a1)))) + t145))).bind fun t149 => ((tandemref3_high.f (wrap64 (a0))).bind fun t150 => ((tandemref3_put.f a2 64 (t149 != t150)).bind fun t151 => ((tandemref3_put.f t151 1 (decide ((wrap64 ((wrap64 ((wrap64 (a0)) + (wrap64 (a1)))) + t145)) ≥ 256))).bind fun t152 => ((tandemref3_Nz.f ((t146) % 256) t152).bind fun t153 => (some ((t146) % 256, t153))))))) else ((tandemref3_put.f a2 64 false).bind fun t154 => ((tandemref3_put.f t154 1 (decide ((wrap64 ((wrap64 ((wrap64 (a0)) + (wrap64 (a1)))) + t145)) ≥ 256))).bind fun t155 => ((tandemref3_Nz.f ((t146) % 256) t155).bind fun t156 => (some ((t146) % 256, t156))))))) = some (r1, r2) := H
    have A7 := Aside0.mk A70
    clear A70
    replace H := Option.bind_eq_some_iff.mp H
    obtain ⟨t148, A80, H⟩ := H
    replace H : (if (t147 == t148) = true then ((tandemref3_high.f (wrap64 ((wrap64 ((wrap64 (a0)) + (wrap64 (a1)))) + t145))).bind fun t149 => ((tandemref3_high.f (wrap64 (a0))).bind fun t150 => ((tandemref3_put.f a2 64 (t149 != t150)).bind fun t151 => ((tandemref3_put.f t151 1 (decide ((wrap64 ((wrap64 ((wrap64 (a0)) + (wrap64 (a1)))) + t145)) ≥ 256))).bind fun t152 => ((tandemref3_Nz.f ((t146) % 256) t152).bind fun t153 => (some ((t146) % 256, t153))))))) else ((tandemref3_put.f a2 64 false).bind fun t154 => ((tandemref3_put.f t154 1 (decide ((wrap64 ((wrap64 ((wrap64 (a0)) + (wrap64 (a1)))) + t145)) ≥ 256))).bind fun t155 => ((tandemref3_Nz.f ((t146) % 256) t155).bind fun t156 => (some ((t146) % 256, t156)))))) = some (r1, r2) := H
    have A8 := Aside0.mk A80
    clear A80
    by_cases c9 : (t147 == t148) = true
    · rw [if_pos c9] at H
      have c9b0 : (t147 == t148) = true := c9
      (try (have c9b1 : decide (t147 = t148) = true := by simpa using c9))
      (try (have c9b2 : (t147 == t148) = true := by simpa using c9))
      clear c9
      replace H := Option.bind_eq_some_iff.mp H
      obtain ⟨t149, A100, H⟩ := H
      replace H : ((tandemref3_high.f (wrap64 (a0))).bind fun t150 => ((tandemref3_put.f a2 64 (t149 != t150)).bind fun t151 => ((tandemref3_put.f t151 1 (decide ((wrap64 ((wrap64 ((wrap64 (a0)) + (wrap64 (a1)))) + t145)) ≥ 256))).bind fun t152 => ((tandemref3_Nz.f ((t146) % 256) t152).bind fun t153 => (some ((t146) % 256, t153)))))) = some (r1, r2) := H
      have A10 := Aside0.mk A100
      clear A100
      replace H := Option.bind_eq_some_iff.mp H
      obtain ⟨t150, A110, H⟩ := H
      replace H : ((tandemref3_put.f a2 64 (t149 != t150)).bind fun t151 => ((tandemref3_put.f t151 1 (decide ((wrap64 ((wrap64 ((wrap64 (a0)) + (wrap64 (a1)))) + t145)) ≥ 256))).bind fun t152 => ((tandemref3_Nz.f ((t146) % 256) t152).bind fun t153 => (some ((t146) % 256, t153))))) = some (r1, r2) := H
      have A11 := Aside0.mk A110
      clear A110
      replace H := Option.bind_eq_some_iff.mp H
      obtain ⟨t151, A120, H⟩ := H
      replace H : ((tandemref3_put.f t151 1 (decide ((wrap64 ((wrap64 ((wrap64 (a0)) + (wrap64 (a1)))) + t145)) ≥ 256))).bind fun t152 => ((tandemref3_Nz.f ((t146) % 256) t152).bind fun t153 => (some ((t146) % 256, t153)))) = some (r1, r2) := H
      have A12 := Aside0.mk A120
      clear A120
      replace H := Option.bind_eq_some_iff.mp H
      obtain ⟨t152, A130, H⟩ := H
      replace H : ((tandemref3_Nz.f ((t146) % 256) t152).bind fun t153 => (some ((t146) % 256, t153))) = some (r1, r2) := H
      have A13 := Aside0.mk A130
      clear A130
      replace H := Option.bind_eq_some_iff.mp H
      obtain ⟨t153, A140, H⟩ := H
      replace H : (some ((t146) % 256, t153)) = some (r1, r2) := H
      have A14 := Aside0.mk A140
      clear A140
      simp only [Option.some.injEq, Prod.mk.injEq] at H
      obtain ⟨rfl, rfl⟩ := H
      go_enter Try.func29, Try.ntmps29
      go_wp2_with (first | ((with_reducible refine gate_callee (f := 40) rfl ?_); refine goesL_ (some 18) rfl rfl Try.func40 (by kernel_rfl) rfl #[.int .u8 a2] rfl (by (try simp only [List.map_toArray, List.map_cons, List.map_nil]); first | done | rfl | (simp only [List.length_drop, List.length_take]; rfl)) ?_; (with_reducible refine (tandemref3_carry.calls a2 t145 _ A4.out).mono ?_); rintro e w' ⟨rfl, ⟨nd, rfl⟩⟩; refine ⟨_, rfl, ?_⟩) | ((with_reducible refine gate_callee (f := 39) rfl ?_); refine goesL_ (some 24) rfl rfl Try.func39 (by kernel_rfl) rfl #[.int .i64 (wrap64 ((wrap64 ((wrap64 (a0)) + (wrap64 (a1)))) + t145)), .int .i64 256] rfl (by (try simp only [List.map_toArray, List.map_cons, List.map_nil]); first | done | rfl | (simp only [List.length_drop, List.length_take]; rfl)) ?_; (with_reducible refine (tandemref3_rest.calls (wrap64 ((wrap64 ((wrap64 (a0)) + (wrap64 (a1)))) + t145)) 256 t146 _ A6.out).mono ?_); rintro e w' ⟨rfl, ⟨nd, rfl⟩⟩; refine ⟨_, rfl, ?_⟩) | ((with_reducible refine gate_callee (f := 41) rfl ?_); refine goesL_ (some 29) rfl rfl Try.func41 (by kernel_rfl) rfl #[.int .i64 (wrap64 (a0))] rfl (by (try simp only [List.map_toArray, List.map_cons, List.map_nil]); first | done | rfl | (simp only [List.length_drop, List.length_take]; rfl)) ?_; (with_reducible refine (tandemref3_high.calls (wrap64 (a0)) t147 _ A7.out).mono ?_); rintro e w' ⟨rfl, ⟨nd, rfl⟩⟩; refine ⟨_, rfl, ?_⟩) | ((with_reducible refine gate_callee (f := 41) rfl ?_); refine goesL_ (some 32) rfl rfl Try.func41 (by kernel_rfl) rfl #[.int .i64 (wrap64 (a1))] rfl (by (try simp only [List.map_toArray, List.map_cons, List.map_nil]); first | done | rfl | (simp only [List.length_drop, List.length_take]; rfl)) ?_; (with_reducible refine (tandemref3_high.calls (wrap64 (a1)) t148 _ A8.out).mono ?_); rintro e w' ⟨rfl, ⟨nd, rfl⟩⟩; refine ⟨_, rfl, ?_⟩) | (go_at_call 41; (with_reducible refine (tandemref3_high.calls (wrap64 ((wrap64 ((wrap64 (a0)) + (wrap64 (a1)))) + t145)) t149 _ A10.out).mono ?_); rintro e w' ⟨rfl, ⟨nd, rfl⟩⟩) | (go_at_call 41; (with_reducible refine (tandemref3_high.calls (wrap64 (a0)) t150 _ A11.out).mono ?_); rintro e w' ⟨rfl, ⟨nd, rfl⟩⟩) | ((with_reducible refine gate_callee (f := 38) rfl ?_); refine goesL_ (some 42) rfl rfl Try.func38 (by kernel_rfl) rfl #[.int .u8 a2, .int .u8 64, .bool (t149 != t150)] rfl (by (try simp only [List.map_toArray, List.map_cons, List.map_nil]); first | done | rfl | (simp only [List.length_drop, List.length_take]; rfl)) ?_; (with_reducible refine (tandemref3_put.calls a2 64 (t149 != t150) t151 _ A12.out).mono ?_); rintro e w' ⟨rfl, ⟨nd, rfl⟩⟩; refine ⟨_, rfl, ?_⟩) | ((with_reducible refine gate_callee (f := 38) rfl ?_); refine goesL_ (some 46) rfl rfl Try.func38 (by kernel_rfl) rfl #[.int .u8 t151, .int .u8 1, .bool (decide ((wrap64 ((wrap64 ((wrap64 (a0)) + (wrap64 (a1)))) + t145)) ≥ 256))] rfl (by (try simp only [List.map_toArray, List.map_cons, List.map_nil]); first | done | rfl | (simp only [List.length_drop, List.length_take]; rfl)) ?_; (with_reducible refine (tandemref3_put.calls t151 1 (decide ((wrap64 ((wrap64 ((wrap64 (a0)) + (wrap64 (a1)))) + t145)) ≥ 256)) t152 _ A13.out).mono ?_); rintro e w' ⟨rfl, ⟨nd, rfl⟩⟩; refine ⟨_, rfl, ?_⟩) | ((with_reducible refine gate_callee (f := 26) rfl ?_); refine goesL_ (some 50) rfl rfl Try.func26 (by kernel_rfl) rfl #[.int .u8 ((t146) % 256), .int .u8 t152] rfl (by (try simp only [List.map_toArray, List.map_cons, List.map_nil]); first | done | rfl | (simp only [List.length_drop, List.length_take]; rfl)) ?_; (with_reducible refine (tandemref3_Nz.calls ((t146) % 256) t152 t153 _ A14.out).mono ?_); rintro e w' ⟨rfl, ⟨nd, rfl⟩⟩; refine ⟨_, rfl, ?_⟩))
      go_ret2
      exact ⟨by first | rfl | (simp; done) | (simp [*]; done), by repeat (first | exact Drawn0.refl _ | apply Drawn0.step)⟩
    · rw [if_neg c9] at H
      have c9b0 : (t147 == t148) = false := by simpa using c9
      (try (have c9b1 : decide (t147 = t148) = false := by simpa using c9))
      (try (have c9b2 : (t147 == t148) = false := by simpa using c9))
      (try (have c9b3 : ¬ (t147 = t148) := by simpa using c9))
      clear c9
      replace H := Option.bind_eq_some_iff.mp H
      obtain ⟨t154, A150, H⟩ := H
      replace H : ((tandemref3_put.f t154 1 (decide ((wrap64 ((wrap64 ((wrap64 (a0)) + (wrap64 (a1)))) + t145)) ≥ 256))).bind fun t155 => ((tandemref3_Nz.f ((t146) % 256) t155).bind fun t156 => (some ((t146) % 256, t156)))) = some (r1, r2) := H
      have A15 := Aside0.mk A150
      clear A150
      replace H := Option.bind_eq_some_iff.mp H
      obtain ⟨t155, A160, H⟩ := H
      replace H : ((tandemref3_Nz.f ((t146) % 256) t155).bind fun t156 => (some ((t146) % 256, t156))) = some (r1, r2) := H
      have A16 := Aside0.mk A160
      clear A160
      replace H := Option.bind_eq_some_iff.mp H
      obtain ⟨t156, A170, H⟩ := H
      replace H : (some ((t146) % 256, t156)) = some (r1, r2) := H
      have A17 := Aside0.mk A170
      clear A170
      simp only [Option.some.injEq, Prod.mk.injEq] at H
      obtain ⟨rfl, rfl⟩ := H
      go_enter Try.func29, Try.ntmps29
      go_wp2_with (first | ((with_reducible refine gate_callee (f := 40) rfl ?_); refine goesL_ (some 18) rfl rfl Try.func40 (by kernel_rfl) rfl #[.int .u8 a2] rfl (by (try simp only [List.map_toArray, List.map_cons, List.map_nil]); first | done | rfl | (simp only [List.length_drop, List.length_take]; rfl)) ?_; (with_reducible refine (tandemref3_carry.calls a2 t145 _ A4.out).mono ?_); rintro e w' ⟨rfl, ⟨nd, rfl⟩⟩; refine ⟨_, rfl, ?_⟩) | ((with_reducible refine gate_callee (f := 39) rfl ?_); refine goesL_ (some 24) rfl rfl Try.func39 (by kernel_rfl) rfl #[.int .i64 (wrap64 ((wrap64 ((wrap64 (a0)) + (wrap64 (a1)))) + t145)), .int .i64 256] rfl (by (try simp only [List.map_toArray, List.map_cons, List.map_nil]); first | done | rfl | (simp only [List.length_drop, List.length_take]; rfl)) ?_; (with_reducible refine (tandemref3_rest.calls (wrap64 ((wrap64 ((wrap64 (a0)) + (wrap64 (a1)))) + t145)) 256 t146 _ A6.out).mono ?_); rintro e w' ⟨rfl, ⟨nd, rfl⟩⟩; refine ⟨_, rfl, ?_⟩) | ((with_reducible refine gate_callee (f := 41) rfl ?_); refine goesL_ (some 29) rfl rfl Try.func41 (by kernel_rfl) rfl #[.int .i64 (wrap64 (a0))] rfl (by (try simp only [List.map_toArray, List.map_cons, List.map_nil]); first | done | rfl | (simp only [List.length_drop, List.length_take]; rfl)) ?_; (with_reducible refine (tandemref3_high.calls (wrap64 (a0)) t147 _ A7.out).mono ?_); rintro e w' ⟨rfl, ⟨nd, rfl⟩⟩; refine ⟨_, rfl, ?_⟩) | ((with_reducible refine gate_callee (f := 41) rfl ?_); refine goesL_ (some 32) rfl rfl Try.func41 (by kernel_rfl) rfl #[.int .i64 (wrap64 (a1))] rfl (by (try simp only [List.map_toArray, List.map_cons, List.map_nil]); first | done | rfl | (simp only [List.length_drop, List.length_take]; rfl)) ?_; (with_reducible refine (tandemref3_high.calls (wrap64 (a1)) t148 _ A8.out).mono ?_); rintro e w' ⟨rfl, ⟨nd, rfl⟩⟩; refine ⟨_, rfl, ?_⟩) | ((with_reducible refine gate_callee (f := 38) rfl ?_); refine goesL_ (some 42) rfl rfl Try.func38 (by kernel_rfl) rfl #[.int .u8 a2, .int .u8 64, .bool false] rfl (by (try simp only [List.map_toArray, List.map_cons, List.map_nil]); first | done | rfl | (simp only [List.length_drop, List.length_take]; rfl)) ?_; (with_reducible refine (tandemref3_put.calls a2 64 false t154 _ A15.out).mono ?_); rintro e w' ⟨rfl, ⟨nd, rfl⟩⟩; refine ⟨_, rfl, ?_⟩) | ((with_reducible refine gate_callee (f := 38) rfl ?_); refine goesL_ (some 46) rfl rfl Try.func38 (by kernel_rfl) rfl #[.int .u8 t154, .int .u8 1, .bool (decide ((wrap64 ((wrap64 ((wrap64 (a0)) + (wrap64 (a1)))) + t145)) ≥ 256))] rfl (by (try simp only [List.map_toArray, List.map_cons, List.map_nil]); first | done | rfl | (simp only [List.length_drop, List.length_take]; rfl)) ?_; (with_reducible refine (tandemref3_put.calls t154 1 (decide ((wrap64 ((wrap64 ((wrap64 (a0)) + (wrap64 (a1)))) + t145)) ≥ 256)) t155 _ A16.out).mono ?_); rintro e w' ⟨rfl, ⟨nd, rfl⟩⟩; refine ⟨_, rfl, ?_⟩) | ((with_reducible refine gate_callee (f := 26) rfl ?_); refine goesL_ (some 50) rfl rfl Try.func26 (by kernel_rfl) rfl #[.int .u8 ((t146) % 256), .int .u8 t155] rfl (by (try simp only [List.map_toArray, List.map_cons, List.map_nil]); first | done | rfl | (simp only [List.length_drop, List.length_take]; rfl)) ?_; (with_reducible refine (tandemref3_Nz.calls ((t146) % 256) t155 t156 _ A17.out).mono ?_); rintro e w' ⟨rfl, ⟨nd, rfl⟩⟩; refine ⟨_, rfl, ?_⟩))
      go_ret2
      exact ⟨by first | rfl | (simp; done) | (simp [*]; done), by repeat (first | exact Drawn0.refl _ | apply Drawn0.step)⟩
  · rw [if_neg c5] at H
    have c5b0 : ((Go.bits .and .u8 a2 8) == 0) = false := beq_eq_false_iff_ne.mpr c5
    have c5b1 : ((Go.bits .and .u8 a2 8) != 0) = true := bne_iff_ne.mpr c5
    replace H := Option.bind_eq_some_iff.mp H
    obtain ⟨t157, A180, H⟩ := H
    replace H : (if (wrap64 ((wrap64 ((Int.tmod (wrap64 (a0)) 16) + (Int.tmod (wrap64 (a1)) 16))) + t157)) ≥ 10 then (tandemref3_Adc.j0 k a0 a1 a2 (wrap64 ((wrap64 ((wrap64 (a0)) + (wrap64 (a1)))) + t145)) (wrap64 ((Int.tmod (wrap64 ((wrap64 ((wrap64 ((Int.tmod (wrap64 (a0)) 16) + (Int.tmod (wrap64 (a1)) 16))) + t157)) + 6)) 16) + 16))) else (tandemref3_Adc.j0 k a0 a1 a2 (wrap64 ((wrap64 ((wrap64 (a0)) + (wrap64 (a1)))) + t145)) (wrap64 ((wrap64 ((Int.tmod (wrap64 (a0)) 16) + (Int.tmod (wrap64 (a1)) 16))) + t157)))) = some (r1, r2) := H
    have A18 := Aside0.mk A180
    clear A180
    have HC19 := Aside0.mk H
    clear H
    go_enter Try.func29, Try.ntmps29
    go_upto_if 62 with (first | ((with_reducible refine gate_callee (f := 40) rfl ?_); refine goesL_ (some 18) rfl rfl Try.func40 (by kernel_rfl) rfl #[.int .u8 a2] rfl (by (try simp only [List.map_toArray, List.map_cons, List.map_nil]); first | done | rfl | (simp only [List.length_drop, List.length_take]; rfl)) ?_; (with_reducible refine (tandemref3_carry.calls a2 t145 _ A4.out).mono ?_); rintro e w' ⟨rfl, ⟨nd, rfl⟩⟩; refine ⟨_, rfl, ?_⟩) | ((with_reducible refine gate_callee (f := 40) rfl ?_); refine goesL_ (some 59) rfl rfl Try.func40 (by kernel_rfl) rfl #[.int .u8 a2] rfl (by (try simp only [List.map_toArray, List.map_cons, List.map_nil]); first | done | rfl | (simp only [List.length_drop, List.length_take]; rfl)) ?_; (with_reducible refine (tandemref3_carry.calls a2 t157 _ A18.out).mono ?_); rintro e w' ⟨rfl, ⟨nd, rfl⟩⟩; refine ⟨_, rfl, ?_⟩))
    (try simp only [Act.put, List.setIfInBounds_toArray, List.set_cons_zero, List.set_cons_succ])
    go_cut [10] (fun v10 wc => ∃ (kq : Nat) (x10_18 : Int), v10 = .int .i64 x10_18 ∧ Aside0 (tandemref3_Adc.j0 kq a0 a1 a2 (wrap64 ((wrap64 ((wrap64 (a0)) + (wrap64 (a1)))) + t145)) x10_18 = some (r1, r2)) ∧ Aside0 (kq ≤ k) ∧ Drawn0 w wc)
    case first =>
      have H := HC19.out
      clear HC19
      by_cases c20 : (wrap64 ((wrap64 ((Int.tmod (wrap64 (a0)) 16) + (Int.tmod (wrap64 (a1)) 16))) + t157)) ≥ 10
      · rw [if_pos c20] at H
        have c20b0 : decide (10 ≤ (wrap64 ((wrap64 ((Int.tmod (wrap64 (a0)) 16) + (Int.tmod (wrap64 (a1)) 16))) + t157))) = true := decide_eq_true c20
        clear c20
        (first | rw [c20b0] | (simp only [i64_w, i32_w]; rw [c20b0]) | skip)
        have H' := Aside0.mk H
        clear H
        go_wp2
        go_meet
        case rel => exact ⟨_, (wrap64 ((Int.tmod (wrap64 ((wrap64 ((wrap64 ((Int.tmod (wrap64 (a0)) 16) + (Int.tmod (wrap64 (a1)) 16))) + t157)) + 6)) 16) + 16)), (by first | rfl | (simp; done) | (simp [*]; done)), H', ⟨by first | omega | exact Nat.le_refl _⟩, by repeat (first | exact Drawn0.refl _ | apply Drawn0.step)⟩
      · rw [if_neg c20] at H
        have c20b0 : decide (10 ≤ (wrap64 ((wrap64 ((Int.tmod (wrap64 (a0)) 16) + (Int.tmod (wrap64 (a1)) 16))) + t157))) = false := decide_eq_false c20
        clear c20
        (first | rw [c20b0] | (simp only [i64_w, i32_w]; rw [c20b0]) | skip)
        have H' := Aside0.mk H
        clear H
        go_wp2
        go_meet
        case rel => exact ⟨_, (wrap64 ((wrap64 ((Int.tmod (wrap64 (a0)) 16) + (Int.tmod (wrap64 (a1)) 16))) + t157)), (by first | rfl | (simp; done) | (simp [*]; done)), H', ⟨by first | omega | exact Nat.le_refl _⟩, by repeat (first | exact Drawn0.refl _ | apply Drawn0.step)⟩
    case rest =>
      clear HC19
      try clear c2
      try clear p2
      try clear c3
      try clear c4
      try clear c5
      try clear c5b0
      try clear c5b1
      try clear p6
      try clear c9
      try clear c9b0
      try clear c9b1
      try clear c9b2
      try clear c20
      try clear c20b0
      obtain ⟨kq, x10_18, rfl, HA, HJ18, ⟨mc18, rfl⟩⟩ := hcut
      cases kq with
      | zero => exact absurd HA.out (by simp [tandemref3_Adc.j0])
      | succ kj18 =>
        have H := HA.out
        clear HA
        simp only [tandemref3_Adc.j0] at H
        replace H := Option.bind_eq_some_iff.mp H
        obtain ⟨t158, A210, H⟩ := H
        replace H : ((tandemref3_put.f a2 128 t158).bind fun t159 => ((tandemref3_high.f (wrap64 (a0))).bind fun t160 => ((tandemref3_high.f (wrap64 (a1))).bind fun t161 => (if (t160 == t161) = true then ((tandemref3_high.f (wrap64 ((wrap64 ((wrap64 (16 * (wrap64 (Int.tdiv (wrap64 (a0)) 16)))) + (wrap64 (16 * (wrap64 (Int.tdiv (wrap64 (a1)) 16)))))) + x10_18))).bind fun t162 => ((tandemref3_high.f (wrap64 (a0))).bind fun t163 => ((tandemref3_put.f t159 64 (t162 != t163)).bind fun t164 => (tandemref3_Adc.j1 kj18 t164 (wrap64 ((wrap64 ((wrap64 (a0)) + (wrap64 (a1)))) + t145)) (wrap64 ((wrap64 ((wrap64 (16 * (wrap64 (Int.tdiv (wrap64 (a0)) 16)))) + (wrap64 (16 * (wrap64 (Int.tdiv (wrap64 (a1)) 16)))))) + x10_18)))))) else ((tandemref3_put.f t159 64 false).bind fun t165 => (tandemref3_Adc.j1 kj18 t165 (wrap64 ((wrap64 ((wrap64 (a0)) + (wrap64 (a1)))) + t145)) (wrap64 ((wrap64 ((wrap64 (16 * (wrap64 (Int.tdiv (wrap64 (a0)) 16)))) + (wrap64 (16 * (wrap64 (Int.tdiv (wrap64 (a1)) 16)))))) + x10_18)))))))) = some (r1, r2) := H
        have A21 := Aside0.mk A210
        clear A210
        replace H := Option.bind_eq_some_iff.mp H
        obtain ⟨t159, A220, H⟩ := H
        replace H : ((tandemref3_high.f (wrap64 (a0))).bind fun t160 => ((tandemref3_high.f (wrap64 (a1))).bind fun t161 => (if (t160 == t161) = true then ((tandemref3_high.f (wrap64 ((wrap64 ((wrap64 (16 * (wrap64 (Int.tdiv (wrap64 (a0)) 16)))) + (wrap64 (16 * (wrap64 (Int.tdiv (wrap64 (a1)) 16)))))) + x10_18))).bind fun t162 => ((tandemref3_high.f (wrap64 (a0))).bind fun t163 => ((tandemref3_put.f t159 64 (t162 != t163)).bind fun t164 => (tandemref3_Adc.j1 kj18 t164 (wrap64 ((wrap64 ((wrap64 (a0)) + (wrap64 (a1)))) + t145)) (wrap64 ((wrap64 ((wrap64 (16 * (wrap64 (Int.tdiv (wrap64 (a0)) 16)))) + (wrap64 (16 * (wrap64 (Int.tdiv (wrap64 (a1)) 16)))))) + x10_18)))))) else ((tandemref3_put.f t159 64 false).bind fun t165 => (tandemref3_Adc.j1 kj18 t165 (wrap64 ((wrap64 ((wrap64 (a0)) + (wrap64 (a1)))) + t145)) (wrap64 ((wrap64 ((wrap64 (16 * (wrap64 (Int.tdiv (wrap64 (a0)) 16)))) + (wrap64 (16 * (wrap64 (Int.tdiv (wrap64 (a1)) 16)))))) + x10_18))))))) = some (r1, r2) := H
        have A22 := Aside0.mk A220
        clear A220
        have HC23 := Aside0.mk H
        clear H
        go_upto_region 12 with (first | ((with_reducible refine gate_callee (f := 41) rfl ?_); refine goesL_ (some 80) rfl rfl Try.func41 (by kernel_rfl) rfl #[.int .i64 (wrap64 ((wrap64 ((wrap64 (16 * (wrap64 (Int.tdiv (wrap64 (a0)) 16)))) + (wrap64 (16 * (wrap64 (Int.tdiv (wrap64 (a1)) 16)))))) + x10_18))] rfl (by (try simp only [List.map_toArray, List.map_cons, List.map_nil]); first | done | rfl | (simp only [List.length_drop, List.length_take]; rfl)) ?_; (with_reducible refine (tandemref3_high.calls (wrap64 ((wrap64 ((wrap64 (16 * (wrap64 (Int.tdiv (wrap64 (a0)) 16)))) + (wrap64 (16 * (wrap64 (Int.tdiv (wrap64 (a1)) 16)))))) + x10_18)) t158 _ A21.out).mono ?_); rintro e w' ⟨rfl, ⟨nd, rfl⟩⟩; refine ⟨_, rfl, ?_⟩) | ((with_reducible refine gate_callee (f := 38) rfl ?_); refine goesL_ (some 81) rfl rfl Try.func38 (by kernel_rfl) rfl #[.int .u8 a2, .int .u8 128, .bool t158] rfl (by (try simp only [List.map_toArray, List.map_cons, List.map_nil]); first | done | rfl | (simp only [List.length_drop, List.length_take]; rfl)) ?_; (with_reducible refine (tandemref3_put.calls a2 128 t158 t159 _ A22.out).mono ?_); rintro e w' ⟨rfl, ⟨nd, rfl⟩⟩; refine ⟨_, rfl, ?_⟩))
        (try simp only [Act.put, List.setIfInBounds_toArray, List.set_cons_zero, List.set_cons_succ])
        go_cut [2] (fun v2 wc => ∃ (kq : Nat) (x2_22 : Int), v2 = .int .u8 x2_22 ∧ Aside0 (tandemref3_Adc.j1 kq x2_22 (wrap64 ((wrap64 ((wrap64 (a0)) + (wrap64 (a1)))) + t145)) (wrap64 ((wrap64 ((wrap64 (16 * (wrap64 (Int.tdiv (wrap64 (a0)) 16)))) + (wrap64 (16 * (wrap64 (Int.tdiv (wrap64 (a1)) 16)))))) + x10_18)) = some (r1, r2)) ∧ Aside0 (kq ≤ kj18) ∧ Drawn0 w wc)
        case first =>
          have H := HC23.out
          clear HC23
          replace H := Option.bind_eq_some_iff.mp H
          obtain ⟨t160, A240, H⟩ := H
          replace H : ((tandemref3_high.f (wrap64 (a1))).bind fun t161 => (if (t160 == t161) = true then ((tandemref3_high.f (wrap64 ((wrap64 ((wrap64 (16 * (wrap64 (Int.tdiv (wrap64 (a0)) 16)))) + (wrap64 (16 * (wrap64 (Int.tdiv (wrap64 (a1)) 16)))))) + x10_18))).bind fun t162 => ((tandemref3_high.f (wrap64 (a0))).bind fun t163 => ((tandemref3_put.f t159 64 (t162 != t163)).bind fun t164 => (tandemref3_Adc.j1 kj18 t164 (wrap64 ((wrap64 ((wrap64 (a0)) + (wrap64 (a1)))) + t145)) (wrap64 ((wrap64 ((wrap64 (16 * (wrap64 (Int.tdiv (wrap64 (a0)) 16)))) + (wrap64 (16 * (wrap64 (Int.tdiv (wrap64 (a1)) 16)))))) + x10_18)))))) else ((tandemref3_put.f t159 64 false).bind fun t165 => (tandemref3_Adc.j1 kj18 t165 (wrap64 ((wrap64 ((wrap64 (a0)) + (wrap64 (a1)))) + t145)) (wrap64 ((wrap64 ((wrap64 (16 * (wrap64 (Int.tdiv (wrap64 (a0)) 16)))) + (wrap64 (16 * (wrap64 (Int.tdiv (wrap64 (a1)) 16)))))) + x10_18)))))) = some (r1, r2) := H
          have A24 := Aside0.mk A240
          clear A240
          replace H := Option.bind_eq_some_iff.mp H
          obtain ⟨t161, A250, H⟩ := H
          replace H : (if (t160 == t161) = true then ((tandemref3_high.f (wrap64 ((wrap64 ((wrap64 (16 * (wrap64 (Int.tdiv (wrap64 (a0)) 16)))) + (wrap64 (16 * (wrap64 (Int.tdiv (wrap64 (a1)) 16)))))) + x10_18))).bind fun t162 => ((tandemref3_high.f (wrap64 (a0))).bind fun t163 => ((tandemref3_put.f t159 64 (t162 != t163)).bind fun t164 => (tandemref3_Adc.j1 kj18 t164 (wrap64 ((wrap64 ((wrap64 (a0)) + (wrap64 (a1)))) + t145)) (wrap64 ((wrap64 ((wrap64 (16 * (wrap64 (Int.tdiv (wrap64 (a0)) 16)))) + (wrap64 (16 * (wrap64 (Int.tdiv (wrap64 (a1)) 16)))))) + x10_18)))))) else ((tandemref3_put.f t159 64 false).bind fun t165 => (tandemref3_Adc.j1 kj18 t165 (wrap64 ((wrap64 ((wrap64 (a0)) + (wrap64 (a1)))) + t145)) (wrap64 ((wrap64 ((wrap64 (16 * (wrap64 (Int.tdiv (wrap64 (a0)) 16)))) + (wrap64 (16 * (wrap64 (Int.tdiv (wrap64 (a1)) 16)))))) + x10_18))))) = some (r1, r2) := H
          have A25 := Aside0.mk A250
          clear A250
          by_cases c26 : (t160 == t161) = true
          · rw [if_pos c26] at H
            have c26b0 : (t160 == t161) = true := c26
            (try (have c26b1 : decide (t160 = t161) = true := by simpa using c26))
            (try (have c26b2 : (t160 == t161) = true := by simpa using c26))
            clear c26
            (first | rw [c26b0] | (simp only [i64_w, i32_w]; rw [c26b0]) | skip)
            replace H := Option.bind_eq_some_iff.mp H
            obtain ⟨t162, A270, H⟩ := H
            replace H : ((tandemref3_high.f (wrap64 (a0))).bind fun t163 => ((tandemref3_put.f t159 64 (t162 != t163)).bind fun t164 => (tandemref3_Adc.j1 kj18 t164 (wrap64 ((wrap64 ((wrap64 (a0)) + (wrap64 (a1)))) + t145)) (wrap64 ((wrap64 ((wrap64 (16 * (wrap64 (Int.tdiv (wrap64 (a0)) 16)))) + (wrap64 (16 * (wrap64 (Int.tdiv (wrap64 (a1)) 16)))))) + x10_18))))) = some (r1, r2) := H
            have A27 := Aside0.mk A270
            clear A270
            replace H := Option.bind_eq_some_iff.mp H
            obtain ⟨t163, A280, H⟩ := H
            replace H : ((tandemref3_put.f t159 64 (t162 != t163)).bind fun t164 => (tandemref3_Adc.j1 kj18 t164 (wrap64 ((wrap64 ((wrap64 (a0)) + (wrap64 (a1)))) + t145)) (wrap64 ((wrap64 ((wrap64 (16 * (wrap64 (Int.tdiv (wrap64 (a0)) 16)))) + (wrap64 (16 * (wrap64 (Int.tdiv (wrap64 (a1)) 16)))))) + x10_18)))) = some (r1, r2) := H
            have A28 := Aside0.mk A280
            clear A280
            replace H := Option.bind_eq_some_iff.mp H
            obtain ⟨t164, A290, H⟩ := H
            replace H : (tandemref3_Adc.j1 kj18 t164 (wrap64 ((wrap64 ((wrap64 (a0)) + (wrap64 (a1)))) + t145)) (wrap64 ((wrap64 ((wrap64 (16 * (wrap64 (Int.tdiv (wrap64 (a0)) 16)))) + (wrap64 (16 * (wrap64 (Int.tdiv (wrap64 (a1)) 16)))))) + x10_18))) = some (r1, r2) := H
            have A29 := Aside0.mk A290
            clear A290
            have H' := Aside0.mk H
            clear H
            go_wp2_with (first | ((with_reducible refine gate_callee (f := 41) rfl ?_); refine goesL_ (some 85) rfl rfl Try.func41 (by kernel_rfl) rfl #[.int .i64 (wrap64 (a0))] rfl (by (try simp only [List.map_toArray, List.map_cons, List.map_nil]); first | done | rfl | (simp only [List.length_drop, List.length_take]; rfl)) ?_; (with_reducible refine (tandemref3_high.calls (wrap64 (a0)) t160 _ A24.out).mono ?_); rintro e w' ⟨rfl, ⟨nd, rfl⟩⟩; refine ⟨_, rfl, ?_⟩) | ((with_reducible refine gate_callee (f := 41) rfl ?_); refine goesL_ (some 88) rfl rfl Try.func41 (by kernel_rfl) rfl #[.int .i64 (wrap64 (a1))] rfl (by (try simp only [List.map_toArray, List.map_cons, List.map_nil]); first | done | rfl | (simp only [List.length_drop, List.length_take]; rfl)) ?_; (with_reducible refine (tandemref3_high.calls (wrap64 (a1)) t161 _ A25.out).mono ?_); rintro e w' ⟨rfl, ⟨nd, rfl⟩⟩; refine ⟨_, rfl, ?_⟩) | (go_at_call 41; (with_reducible refine (tandemref3_high.calls (wrap64 ((wrap64 ((wrap64 (16 * (wrap64 (Int.tdiv (wrap64 (a0)) 16)))) + (wrap64 (16 * (wrap64 (Int.tdiv (wrap64 (a1)) 16)))))) + x10_18)) t162 _ A27.out).mono ?_); rintro e w' ⟨rfl, ⟨nd, rfl⟩⟩) | (go_at_call 41; (with_reducible refine (tandemref3_high.calls (wrap64 (a0)) t163 _ A28.out).mono ?_); rintro e w' ⟨rfl, ⟨nd, rfl⟩⟩) | ((with_reducible refine gate_callee (f := 38) rfl ?_); refine goesL_ (some 98) rfl rfl Try.func38 (by kernel_rfl) rfl #[.int .u8 t159, .int .u8 64, .bool (t162 != t163)] rfl (by (try simp only [List.map_toArray, List.map_cons, List.map_nil]); first | done | rfl | (simp only [List.length_drop, List.length_take]; rfl)) ?_; (with_reducible refine (tandemref3_put.calls t159 64 (t162 != t163) t164 _ A29.out).mono ?_); rintro e w' ⟨rfl, ⟨nd, rfl⟩⟩; refine ⟨_, rfl, ?_⟩))
            go_meet
            case rel => exact ⟨_, (t164), (by first | rfl | (simp; done) | (simp [*]; done)), H', ⟨by have := HJ18.out; first | omega | exact Nat.le_refl _⟩, by repeat (first | exact Drawn0.refl _ | apply Drawn0.step)⟩
          · rw [if_neg c26] at H
            have c26b0 : (t160 == t161) = false := by simpa using c26
            (try (have c26b1 : decide (t160 = t161) = false := by simpa using c26))
            (try (have c26b2 : (t160 == t161) = false := by simpa using c26))
            (try (have c26b3 : ¬ (t160 = t161) := by simpa using c26))
            clear c26
            (first | rw [c26b0] | (simp only [i64_w, i32_w]; rw [c26b0]) | skip)
            replace H := Option.bind_eq_some_iff.mp H
            obtain ⟨t165, A300, H⟩ := H
            replace H : (tandemref3_Adc.j1 kj18 t165 (wrap64 ((wrap64 ((wrap64 (a0)) + (wrap64 (a1)))) + t145)) (wrap64 ((wrap64 ((wrap64 (16 * (wrap64 (Int.tdiv (wrap64 (a0)) 16)))) + (wrap64 (16 * (wrap64 (Int.tdiv (wrap64 (a1)) 16)))))) + x10_18))) = some (r1, r2) := H
            have A30 := Aside0.mk A300
            clear A300
            have H' := Aside0.mk H
            clear H
            go_wp2_with (first | ((with_reducible refine gate_callee (f := 41) rfl ?_); refine goesL_ (some 85) rfl rfl Try.func41 (by kernel_rfl) rfl #[.int .i64 (wrap64 (a0))] rfl (by (try simp only [List.map_toArray, List.map_cons, List.map_nil]); first | done | rfl | (simp only [List.length_drop, List.length_take]; rfl)) ?_; (with_reducible refine (tandemref3_high.calls (wrap64 (a0)) t160 _ A24.out).mono ?_); rintro e w' ⟨rfl, ⟨nd, rfl⟩⟩; refine ⟨_, rfl, ?_⟩) | ((with_reducible refine gate_callee (f := 41) rfl ?_); refine goesL_ (some 88) rfl rfl Try.func41 (by kernel_rfl) rfl #[.int .i64 (wrap64 (a1))] rfl (by (try simp only [List.map_toArray, List.map_cons, List.map_nil]); first | done | rfl | (simp only [List.length_drop, List.length_take]; rfl)) ?_; (with_reducible refine (tandemref3_high.calls (wrap64 (a1)) t161 _ A25.out).mono ?_); rintro e w' ⟨rfl, ⟨nd, rfl⟩⟩; refine ⟨_, rfl, ?_⟩) | ((with_reducible refine gate_callee (f := 38) rfl ?_); refine goesL_ (some 98) rfl rfl Try.func38 (by kernel_rfl) rfl #[.int .u8 t159, .int .u8 64, .bool false] rfl (by (try simp only [List.map_toArray, List.map_cons, List.map_nil]); first | done | rfl | (simp only [List.length_drop, List.length_take]; rfl)) ?_; (with_reducible refine (tandemref3_put.calls t159 64 false t165 _ A30.out).mono ?_); rintro e w' ⟨rfl, ⟨nd, rfl⟩⟩; refine ⟨_, rfl, ?_⟩))
            go_meet
            case rel => exact ⟨_, (t165), (by first | rfl | (simp; done) | (simp [*]; done)), H', ⟨by have := HJ18.out; first | omega | exact Nat.le_refl _⟩, by repeat (first | exact Drawn0.refl _ | apply Drawn0.step)⟩
        case rest =>
          clear HC23
          try clear c1
          try clear c2
          try clear p2
          try clear c3
          try clear c4
          try clear c5
          try clear c5b0
          try clear c5b1
          try clear p6
          try clear c9
          try clear c9b0
          try clear c9b1
          try clear c9b2
          try clear c18
          try clear c20
          try clear c20b0
          try clear c26
          try clear c26b0
          try clear c26b1
          try clear c26b2
          try clear c29
          try clear p2
          try clear p6
          obtain ⟨kq, x2_22, rfl, HA, HJ22, ⟨mc22, rfl⟩⟩ := hcut
          cases kq with
          | zero => exact absurd HA.out (by simp [tandemref3_Adc.j1])
          | succ kj22 =>
            have H := HA.out
            clear HA
            simp only [tandemref3_Adc.j1] at H
            replace H := Option.bind_eq_some_iff.mp H
            obtain ⟨t166, A310, H⟩ := H
            replace H : ((tandemref3_put.f x2_22 2 (t166 == 0)).bind fun t167 => (if (wrap64 ((wrap64 ((wrap64 (16 * (wrap64 (Int.tdiv (wrap64 (a0)) 16)))) + (wrap64 (16 * (wrap64 (Int.tdiv (wrap64 (a1)) 16)))))) + x10_18)) ≥ 160 then ((tandemref3_put.f t167 1 (decide ((wrap64 ((wrap64 ((wrap64 ((wrap64 (16 * (wrap64 (Int.tdiv (wrap64 (a0)) 16)))) + (wrap64 (16 * (wrap64 (Int.tdiv (wrap64 (a1)) 16)))))) + x10_18)) + 96)) ≥ 256))).bind fun t168 => ((tandemref3_rest.f (wrap64 ((wrap64 ((wrap64 ((wrap64 (16 * (wrap64 (Int.tdiv (wrap64 (a0)) 16)))) + (wrap64 (16 * (wrap64 (Int.tdiv (wrap64 (a1)) 16)))))) + x10_18)) + 96)) 256).bind fun t169 => (some ((t169) % 256, t168)))) else ((tandemref3_put.f t167 1 (decide ((wrap64 ((wrap64 ((wrap64 (16 * (wrap64 (Int.tdiv (wrap64 (a0)) 16)))) + (wrap64 (16 * (wrap64 (Int.tdiv (wrap64 (a1)) 16)))))) + x10_18)) ≥ 256))).bind fun t170 => ((tandemref3_rest.f (wrap64 ((wrap64 ((wrap64 (16 * (wrap64 (Int.tdiv (wrap64 (a0)) 16)))) + (wrap64 (16 * (wrap64 (Int.tdiv (wrap64 (a1)) 16)))))) + x10_18)) 256).bind fun t171 => (some ((t171) % 256, t170)))))) = some (r1, r2) := H
            have A31 := Aside0.mk A310
            clear A310
            replace H := Option.bind_eq_some_iff.mp H
            obtain ⟨t167, A320, H⟩ := H
            replace H : (if (wrap64 ((wrap64 ((wrap64 (16 * (wrap64 (Int.tdiv (wrap64 (a0)) 16)))) + (wrap64 (16 * (wrap64 (Int.tdiv (wrap64 (a1)) 16)))))) + x10_18)) ≥ 160 then ((tandemref3_put.f t167 1 (decide ((wrap64 ((wrap64 ((wrap64 ((wrap64 (16 * (wrap64 (Int.tdiv (wrap64 (a0)) 16)))) + (wrap64 (16 * (wrap64 (Int.tdiv (wrap64 (a1)) 16)))))) + x10_18)) + 96)) ≥ 256))).bind fun t168 => ((tandemref3_rest.f (wrap64 ((wrap64 ((wrap64 ((wrap64 (16 * (wrap64 (Int.tdiv (wrap64 (a0)) 16)))) + (wrap64 (16 * (wrap64 (Int.tdiv (wrap64 (a1)) 16)))))) + x10_18)) + 96)) 256).bind fun t169 => (some ((t169) % 256, t168)))) else ((tandemref3_put.f t167 1 (decide ((wrap64 ((wrap64 ((wrap64 (16 * (wrap64 (Int.tdiv (wrap64 (a0)) 16)))) + (wrap64 (16 * (wrap64 (Int.tdiv (wrap64 (a1)) 16)))))) + x10_18)) ≥ 256))).bind fun t170 => ((tandemref3_rest.f (wrap64 ((wrap64 ((wrap64 (16 * (wrap64 (Int.tdiv (wrap64 (a0)) 16)))) + (wrap64 (16 * (wrap64 (Int.tdiv (wrap64 (a1)) 16)))))) + x10_18)) 256).bind fun t171 => (some ((t171) % 256, t170))))) = some (r1, r2) := H
            have A32 := Aside0.mk A320
            clear A320
            by_cases c33 : (wrap64 ((wrap64 ((wrap64 (16 * (wrap64 (Int.tdiv (wrap64 (a0)) 16)))) + (wrap64 (16 * (wrap64 (Int.tdiv (wrap64 (a1)) 16)))))) + x10_18)) ≥ 160
            · rw [if_pos c33] at H
              have c33b0 : decide (160 ≤ (wrap64 ((wrap64 ((wrap64 (16 * (wrap64 (Int.tdiv (wrap64 (a0)) 16)))) + (wrap64 (16 * (wrap64 (Int.tdiv (wrap64 (a1)) 16)))))) + x10_18))) = true := decide_eq_true c33
              clear c33
              replace H := Option.bind_eq_some_iff.mp H
              obtain ⟨t168, A340, H⟩ := H
              replace H : ((tandemref3_rest.f (wrap64 ((wrap64 ((wrap64 ((wrap64 (16 * (wrap64 (Int.tdiv (wrap64 (a0)) 16)))) + (wrap64 (16 * (wrap64 (Int.tdiv (wrap64 (a1)) 16)))))) + x10_18)) + 96)) 256).bind fun t169 => (some ((t169) % 256, t168))) = some (r1, r2) := H
              have A34 := Aside0.mk A340
              clear A340
              replace H := Option.bind_eq_some_iff.mp H
              obtain ⟨t169, A350, H⟩ := H
              replace H : (some ((t169) % 256, t168)) = some (r1, r2) := H
              have A35 := Aside0.mk A350
              clear A350
              simp only [Option.some.injEq, Prod.mk.injEq] at H
              obtain ⟨rfl, rfl⟩ := H
              go_wp2_with (first | ((with_reducible refine gate_callee (f := 39) rfl ?_); refine goesL_ (some 101) rfl rfl Try.func39 (by kernel_rfl) rfl #[.int .i64 (wrap64 ((wrap64 ((wrap64 (a0)) + (wrap64 (a1)))) + t145)), .int .i64 256] rfl (by (try simp only [List.map_toArray, List.map_cons, List.map_nil]); first | done | rfl | (simp only [List.length_drop, List.length_take]; rfl)) ?_; (with_reducible refine (tandemref3_rest.calls (wrap64 ((wrap64 ((wrap64 (a0)) + (wrap64 (a1)))) + t145)) 256 t166 _ A31.out).mono ?_); rintro e w' ⟨rfl, ⟨nd, rfl⟩⟩; refine ⟨_, rfl, ?_⟩) | ((with_reducible refine gate_callee (f := 38) rfl ?_); refine goesL_ (some 103) rfl rfl Try.func38 (by kernel_rfl) rfl #[.int .u8 x2_22, .int .u8 2, .bool (t166 == 0)] rfl (by (try simp only [List.map_toArray, List.map_cons, List.map_nil]); first | done | rfl | (simp only [List.length_drop, List.length_take]; rfl)) ?_; (with_reducible refine (tandemref3_put.calls x2_22 2 (t166 == 0) t167 _ A32.out).mono ?_); rintro e w' ⟨rfl, ⟨nd, rfl⟩⟩; refine ⟨_, rfl, ?_⟩) | ((with_reducible refine gate_callee (f := 38) rfl ?_); refine goesL_ (some 111) rfl rfl Try.func38 (by kernel_rfl) rfl #[.int .u8 t167, .int .u8 1, .bool (decide ((wrap64 ((wrap64 ((wrap64 ((wrap64 (16 * (wrap64 (Int.tdiv (wrap64 (a0)) 16)))) + (wrap64 (16 * (wrap64 (Int.tdiv (wrap64 (a1)) 16)))))) + x10_18)) + 96)) ≥ 256))] rfl (by (try simp only [List.map_toArray, List.map_cons, List.map_nil]); first | done | rfl | (simp only [List.length_drop, List.length_take]; rfl)) ?_; (with_reducible refine (tandemref3_put.calls t167 1 (decide ((wrap64 ((wrap64 ((wrap64 ((wrap64 (16 * (wrap64 (Int.tdiv (wrap64 (a0)) 16)))) + (wrap64 (16 * (wrap64 (Int.tdiv (wrap64 (a1)) 16)))))) + x10_18)) + 96)) ≥ 256)) t168 _ A34.out).mono ?_); rintro e w' ⟨rfl, ⟨nd, rfl⟩⟩; refine ⟨_, rfl, ?_⟩) | ((with_reducible refine gate_callee (f := 39) rfl ?_); refine goesL_ (some 113) rfl rfl Try.func39 (by kernel_rfl) rfl #[.int .i64 (wrap64 ((wrap64 ((wrap64 ((wrap64 (16 * (wrap64 (Int.tdiv (wrap64 (a0)) 16)))) + (wrap64 (16 * (wrap64 (Int.tdiv (wrap64 (a1)) 16)))))) + x10_18)) + 96)), .int .i64 256] rfl (by (try simp only [List.map_toArray, List.map_cons, List.map_nil]); first | done | rfl | (simp only [List.length_drop, List.length_take]; rfl)) ?_; (with_reducible refine (tandemref3_rest.calls (wrap64 ((wrap64 ((wrap64 ((wrap64 (16 * (wrap64 (Int.tdiv (wrap64 (a0)) 16)))) + (wrap64 (16 * (wrap64 (Int.tdiv (wrap64 (a1)) 16)))))) + x10_18)) + 96)) 256 t169 _ A35.out).mono ?_); rintro e w' ⟨rfl, ⟨nd, rfl⟩⟩; refine ⟨_, rfl, ?_⟩))
              go_ret2
              exact ⟨by first | rfl | (simp; done) | (simp [*]; done), by repeat (first | exact Drawn0.refl _ | apply Drawn0.step)⟩
            · rw [if_neg c33] at H
              have c33b0 : decide (160 ≤ (wrap64 ((wrap64 ((wrap64 (16 * (wrap64 (Int.tdiv (wrap64 (a0)) 16)))) + (wrap64 (16 * (wrap64 (Int.tdiv (wrap64 (a1)) 16)))))) + x10_18))) = false := decide_eq_false c33
              clear c33
              replace H := Option.bind_eq_some_iff.mp H
              obtain ⟨t170, A360, H⟩ := H
              replace H : ((tandemref3_rest.f (wrap64 ((wrap64 ((wrap64 (16 * (wrap64 (Int.tdiv (wrap64 (a0)) 16)))) + (wrap64 (16 * (wrap64 (Int.tdiv (wrap64 (a1)) 16)))))) + x10_18)) 256).bind fun t171 => (some ((t171) % 256, t170))) = some (r1, r2) := H
              have A36 := Aside0.mk A360
              clear A360
              replace H := Option.bind_eq_some_iff.mp H
              obtain ⟨t171, A370, H⟩ := H
              replace H : (some ((t171) % 256, t170)) = some (r1, r2) := H
              have A37 := Aside0.mk A370
              clear A370
              simp only [Option.some.injEq, Prod.mk.injEq] at H
              obtain ⟨rfl, rfl⟩ := H
              go_wp2_with (first | ((with_reducible refine gate_callee (f := 39) rfl ?_); refine goesL_ (some 101) rfl rfl Try.func39 (by kernel_rfl) rfl #[.int .i64 (wrap64 ((wrap64 ((wrap64 (a0)) + (wrap64 (a1)))) + t145)), .int .i64 256] rfl (by (try simp only [List.map_toArray, List.map_cons, List.map_nil]); first | done | rfl | (simp only [List.length_drop, List.length_take]; rfl)) ?_; (with_reducible refine (tandemref3_rest.calls (wrap64 ((wrap64 ((wrap64 (a0)) + (wrap64 (a1)))) + t145)) 256 t166 _ A31.out).mono ?_); rintro e w' ⟨rfl, ⟨nd, rfl⟩⟩; refine ⟨_, rfl, ?_⟩) | ((with_reducible refine gate_callee (f := 38) rfl ?_); refine goesL_ (some 103) rfl rfl Try.func38 (by kernel_rfl) rfl #[.int .u8 x2_22, .int .u8 2, .bool (t166 == 0)] rfl (by (try simp only [List.map_toArray, List.map_cons, List.map_nil]); first | done | rfl | (simp only [List.length_drop, List.length_take]; rfl)) ?_; (with_reducible refine (tandemref3_put.calls x2_22 2 (t166 == 0) t167 _ A32.out).mono ?_); rintro e w' ⟨rfl, ⟨nd, rfl⟩⟩; refine ⟨_, rfl, ?_⟩) | ((with_reducible refine gate_callee (f := 38) rfl ?_); refine goesL_ (some 111) rfl rfl Try.func38 (by kernel_rfl) rfl #[.int .u8 t167, .int .u8 1, .bool (decide ((wrap64 ((wrap64 ((wrap64 (16 * (wrap64 (Int.tdiv (wrap64 (a0)) 16)))) + (wrap64 (16 * (wrap64 (Int.tdiv (wrap64 (a1)) 16)))))) + x10_18)) ≥ 256))] rfl (by (try simp only [List.map_toArray, List.map_cons, List.map_nil]); first | done | rfl | (simp only [List.length_drop, List.length_take]; rfl)) ?_; (with_reducible refine (tandemref3_put.calls t167 1 (decide ((wrap64 ((wrap64 ((wrap64 (16 * (wrap64 (Int.tdiv (wrap64 (a0)) 16)))) + (wrap64 (16 * (wrap64 (Int.tdiv (wrap64 (a1)) 16)))))) + x10_18)) ≥ 256)) t170 _ A36.out).mono ?_); rintro e w' ⟨rfl, ⟨nd, rfl⟩⟩; refine ⟨_, rfl, ?_⟩) | ((with_reducible refine gate_callee (f := 39) rfl ?_); refine goesL_ (some 113) rfl rfl Try.func39 (by kernel_rfl) rfl #[.int .i64 (wrap64 ((wrap64 ((wrap64 (16 * (wrap64 (Int.tdiv (wrap64 (a0)) 16)))) + (wrap64 (16 * (wrap64 (Int.tdiv (wrap64 (a1)) 16)))))) + x10_18)), .int .i64 256] rfl (by (try simp only [List.map_toArray, List.map_cons, List.map_nil]); first | done | rfl | (simp only [List.length_drop, List.length_take]; rfl)) ?_; (with_reducible refine (tandemref3_rest.calls (wrap64 ((wrap64 ((wrap64 (16 * (wrap64 (Int.tdiv (wrap64 (a0)) 16)))) + (wrap64 (16 * (wrap64 (Int.tdiv (wrap64 (a1)) 16)))))) + x10_18)) 256 t171 _ A37.out).mono ?_); rintro e w' ⟨rfl, ⟨nd, rfl⟩⟩; refine ⟨_, rfl, ?_⟩))
              go_ret2
              exact ⟨by first | rfl | (simp; done) | (simp [*]; done), by repeat (first | exact Drawn0.refl _ | apply Drawn0.step)⟩

/-! ### tandemref3_Sbc: function 30 -/
def tandemref3_Sbc.j0 : Nat → Int → Int → Int → Int → Int → Option (Int × Int)
  | 0, _, _, _, _, _ => none
  | k + 1, x0, x1, x2, x8, x10 => (tandemref3_Nz.f x10 x2).bind fun t181 => (if (Go.bits .and .u8 t181 8) = 0 then (some (x10, t181)) else (if (wrap64 ((wrap64 ((wrap64 ((Int.tmod (wrap64 (x0)) 16) - (Int.tmod (wrap64 (x1)) 16))) - 1)) + x8)) < 0 then ((tandemref3_rest.f (wrap64 ((wrap64 ((wrap64 ((wrap64 ((Int.tmod (wrap64 (x0)) 16) - (Int.tmod (wrap64 (x1)) 16))) - 1)) + x8)) - 6)) 16).bind fun t182 => (if (wrap64 ((wrap64 ((wrap64 (16 * (wrap64 (Int.tdiv (wrap64 (x0)) 16)))) - (wrap64 (16 * (wrap64 (Int.tdiv (wrap64 (x1)) 16)))))) + (wrap64 (t182 - 16)))) < 0 then ((tandemref3_rest.f (wrap64 ((wrap64 ((wrap64 ((wrap64 (16 * (wrap64 (Int.tdiv (wrap64 (x0)) 16)))) - (wrap64 (16 * (wrap64 (Int.tdiv (wrap64 (x1)) 16)))))) + (wrap64 (t182 - 16)))) - 96)) 256).bind fun t183 => (some ((t183) % 256, t181))) else ((tandemref3_rest.f (wrap64 ((wrap64 ((wrap64 (16 * (wrap64 (Int.tdiv (wrap64 (x0)) 16)))) - (wrap64 (16 * (wrap64 (Int.tdiv (wrap64 (x1)) 16)))))) + (wrap64 (t182 - 16)))) 256).bind fun t184 => (some ((t184) % 256, t181))))) else (if (wrap64 ((wrap64 ((wrap64 (16 * (wrap64 (Int.tdiv (wrap64 (x0)) 16)))) - (wrap64 (16 * (wrap64 (Int.tdiv (wrap64 (x1)) 16)))))) + (wrap64 ((wrap64 ((wrap64 ((Int.tmod (wrap64 (x0)) 16) - (Int.tmod (wrap64 (x1)) 16))) - 1)) + x8)))) < 0 then ((tandemref3_rest.f (wrap64 ((wrap64 ((wrap64 ((wrap64 (16 * (wrap64 (Int.tdiv (wrap64 (x0)) 16)))) - (wrap64 (16 * (wrap64 (Int.tdiv (wrap64 (x1)) 16)))))) + (wrap64 ((wrap64 ((wrap64 ((Int.tmod (wrap64 (x0)) 16) - (Int.tmod (wrap64 (x1)) 16))) - 1)) + x8)))) - 96)) 256).bind fun t185 => (some ((t185) % 256, t181))) else ((tandemref3_rest.f (wrap64 ((wrap64 ((wrap64 (16 * (wrap64 (Int.tdiv (wrap64 (x0)) 16)))) - (wrap64 (16 * (wrap64 (Int.tdiv (wrap64 (x1)) 16)))))) + (wrap64 ((wrap64 ((wrap64 ((Int.tmod (wrap64 (x0)) 16) - (Int.tmod (wrap64 (x1)) 16))) - 1)) + x8)))) 256).bind fun t186 => (some ((t186) % 256, t181))))))
def tandemref3_Sbc.f (k : Nat) (a0 : Int) (a1 : Int) (a2 : Int) : Option (Int × Int) := (tandemref3_carry.f a2).bind fun t172 => ((tandemref3_rest.f (wrap64 ((wrap64 ((wrap64 ((wrap64 (a0)) - (wrap64 (a1)))) - 1)) + t172)) 256).bind fun t173 => ((tandemref3_put.f a2 1 (decide ((wrap64 ((wrap64 ((wrap64 ((wrap64 (a0)) - (wrap64 (a1)))) - 1)) + t172)) ≥ 0))).bind fun t174 => ((tandemref3_high.f (wrap64 (a0))).bind fun t175 => ((tandemref3_high.f (wrap64 (a1))).bind fun t176 => (if (t175 != t176) = true then ((tandemref3_high.f (wrap64 ((wrap64 ((wrap64 ((wrap64 (a0)) - (wrap64 (a1)))) - 1)) + t172))).bind fun t177 => ((tandemref3_high.f (wrap64 (a0))).bind fun t178 => ((tandemref3_put.f t174 64 (t177 != t178)).bind fun t179 => (tandemref3_Sbc.j0 k a0 a1 t179 t172 ((t173) % 256))))) else ((tandemref3_put.f t174 64 false).bind fun t180 => (tandemref3_Sbc.j0 k a0 a1 t180 t172 ((t173) % 256))))))))
theorem tandemref3_Sbc.mono_l : ∀ k, (∀ y0 y1 y2 y3 y4, LeO (tandemref3_Sbc.j0 k y0 y1 y2 y3 y4) (tandemref3_Sbc.j0 (k + 1) y0 y1 y2 y3 y4))
  | 0 => fun _ _ _ _ _ r h => by simp [tandemref3_Sbc.j0] at h
  | k + 1 => by
    have ih0 := tandemref3_Sbc.mono_l k
    · intro y0 y1 y2 y3 y4
      unfold tandemref3_Sbc.j0
      repeat' first
      | (with_reducible exact ih0 _ _ _ _ _)
      | (with_reducible exact LeO.refl _)
      | (with_reducible exact LeO.none _)
      | (with_reducible refine LeO.ite ?_ ?_)
      | (with_reducible refine LeO.bind ?_ (fun _ => ?_))
      | exact ih0 _ _ _ _ _
      | exact LeO.none _
      | refine LeO.ite ?_ ?_
      | refine LeO.bind ?_ (fun _ => ?_)
theorem tandemref3_Sbc.mono : ∀ a0 a1 a2 k, LeO (tandemref3_Sbc.f k a0 a1 a2) (tandemref3_Sbc.f (k + 1) a0 a1 a2) := by
  intro a0 a1 a2 k
  have ih0 := tandemref3_Sbc.mono_l k
  unfold tandemref3_Sbc.f
  repeat' first
      | (with_reducible exact ih0 _ _ _ _ _)
      | (with_reducible exact LeO.refl _)
      | (with_reducible exact LeO.none _)
      | (with_reducible refine LeO.ite ?_ ?_)
      | (with_reducible refine LeO.bind ?_ (fun _ => ?_))
      | exact ih0 _ _ _ _ _
      | exact LeO.none _
      | refine LeO.ite ?_ ?_
      | refine LeO.bind ?_ (fun _ => ?_)
set_option maxHeartbeats 8000000 in
set_option maxRecDepth 100000 in
theorem tandemref3_Sbc.calls (k : Nat) (a0 : Int) (a1 : Int) (a2 : Int) (r1 : Int) (r2 : Int) (w : World) (h : tandemref3_Sbc.f k a0 a1 a2 = some (r1, r2)) :
    Calls Try.prog 30 #[.int .u8 a0, .int .u8 a1, .int .u8 a2] w fun e w' => e = .returned (.tuple #[.int .u8 r1, .int .u8 r2]) ∧ Drawn0 w w' := by
  have H : ((tandemref3_carry.f a2).bind fun t172 => ((tandemref3_rest.f (wrap64 ((wrap64 ((wrap64 ((wrap64 (a0)) - (wrap64 (a1)))) - 1)) + t172)) 256).bind fun t173 => ((tandemref3_put.f a2 1 (decide ((wrap64 ((wrap64 ((wrap64 ((wrap64 (a0)) - (wrap64 (a1)))) - 1)) + t172)) ≥ 0))).bind fun t174 => ((tandemref3_high.f (wrap64 (a0))).bind fun t175 => ((tandemref3_high.f (wrap64 (a1))).bind fun t176 => (if (t175 != t176) = true then ((tandemref3_high.f (wrap64 ((wrap64 ((wrap64 ((wrap64 (a0)) - (wrap64 (a1)))) - 1)) + t172))).bind fun t177 => ((tandemref3_high.f (wrap64 (a0))).bind fun t178 => ((tandemref3_put.f t174 64 (t177 != t178)).bind fun t179 => (tandemref3_Sbc.j0 k a0 a1 t179 t172 ((t173) % 256))))) else ((tandemref3_put.f t174 64 false).bind fun t180 => (tandemref3_Sbc.j0 k a0 a1 t180 t172 ((t173) % 256))))))))) = some (r1, r2) := h
  clear h
  replace H := Option.bind_eq_some_iff.mp H
  obtain ⟨t172, A40, H⟩ := H
  replace H : ((tandemref3_rest.f (wrap64 ((wrap64 ((wrap64 ((wrap64 (a0)) - (wrap64 (a1)))) - 1)) + t172)) 256).bind fun t173 => ((tandemref3_put.f a2 1 (decide ((wrap64 ((wrap64 ((wrap64 ((wrap64 (a0)) - (wrap64 (a1)))) - 1)) + t172)) ≥ 0))).bind fun t174 => ((tandemref3_high.f (wrap64 (a0))).bind fun t175 => ((tandemref3_high.f (wrap64 (a1))).bind fun t176 => (if (t175 != t176) = true then ((tandemref3_high.f (wrap64 ((wrap64 ((wrap64 ((wrap64 (a0)) - (wrap64 (a1)))) - 1)) + t172))).bind fun t177 => ((tandemref3_high.f (wrap64 (a0))).bind fun t178 => ((tandemref3_put.f t174 64 (t177 != t178)).bind fun t179 => (tandemref3_Sbc.j0 k a0 a1 t179 t172 ((t173) % 256))))) else ((tandemref3_put.f t174 64 false).bind fun t180 => (tandemref3_Sbc.j0 k a0 a1 t180 t172 ((t173) % 256)))))))) = some (r1, r2) := H
  have A4 := Aside0.mk A40
  clear A40
  replace H := Option.bind_eq_some_iff.mp H
  obtain ⟨t173, A50, H⟩ := H
  replace H : ((tandemref3_put.f a2 1 (decide ((wrap64 ((wrap64 ((wrap64 ((wrap64 (a0)) - (wrap64 (a1)))) - 1)) + t172)) ≥ 0))).bind fun t174 => ((tandemref3_high.f (wrap64 (a0))).bind fun t175 => ((tandemref3_high.f (wrap64 (a1))).bind fun t176 => (if (t175 != t176) = true then ((tandemref3_high.f (wrap64 ((wrap64 ((wrap64 ((wrap64 (a0)) - (wrap64 (a1)))) - 1)) + t172))).bind fun t177 => ((tandemref3_high.f (wrap64 (a0))).bind fun t178 => ((tandemref3_put.f t174 64 (t177 != t178)).bind fun t179 => (tandemref3_Sbc.j0 k a0 a1 t179 t172 ((t173) % 256))))) else ((tandemref3_put.f t174 64 false).bind fun t180 => (tandemref3_Sbc.j0 k a0 a1 t180 t172 ((t173) % 256))))))) = some (r1, r2) := H
  have A5 := Aside0.mk A50
  clear A50
  replace H := Option.bind_eq_some_iff.mp H
  obtain ⟨t174, A60, H⟩ := H
  replace H : ((tandemref3_high.f (wrap64 (a0))).bind fun t175 => ((tandemref3_high.f (wrap64 (a1))).bind fun t176 => (if (t175 != t176) = true then ((tandemref3_high.f (wrap64 ((wrap64 ((wrap64 ((wrap64 (a0)) - (wrap64 (a1)))) - 1)) + t172))).bind fun t177 => ((tandemref3_high.f (wrap64 (a0))).bind fun t178 => ((tandemref3_put.f t174 64 (t177 != t178)).bind fun t179 => (tandemref3_Sbc.j0 k a0 a1 t179 t172 ((t173) % 256))))) else ((tandemref3_put.f t174 64 false).bind fun t180 => (tandemref3_Sbc.j0 k a0 a1 t180 t172 ((t173) % 256)))))) = some (r1, r2) := H
  have A6 := Aside0.mk A60
  clear A60
  have HC7 := Aside0.mk H
  clear H
  go_enter Try.func30, Try.ntmps30
  go_upto_region 5 with (first | ((with_reducible refine gate_callee (f := 40) rfl ?_); refine goesL_ (some 14) rfl rfl Try.func40 (by kernel_rfl) rfl #[.int .u8 a2] rfl (by (try simp only [List.map_toArray, List.map_cons, List.map_nil]); first | done | rfl | (simp only [List.length_drop, List.length_take]; rfl)) ?_; (with_reducible refine (tandemref3_carry.calls a2 t172 _ A4.out).mono ?_); rintro e w' ⟨rfl, ⟨nd, rfl⟩⟩; refine ⟨_, rfl, ?_⟩) | ((with_reducible refine gate_callee (f := 39) rfl ?_); refine goesL_ (some 24) rfl rfl Try.func39 (by kernel_rfl) rfl #[.int .i64 (wrap64 ((wrap64 ((wrap64 ((wrap64 (a0)) - (wrap64 (a1)))) - 1)) + t172)), .int .i64 256] rfl (by (try simp only [List.map_toArray, List.map_cons, List.map_nil]); first | done | rfl | (simp only [List.length_drop, List.length_take]; rfl)) ?_; (with_reducible refine (tandemref3_rest.calls (wrap64 ((wrap64 ((wrap64 ((wrap64 (a0)) - (wrap64 (a1)))) - 1)) + t172)) 256 t173 _ A5.out).mono ?_); rintro e w' ⟨rfl, ⟨nd, rfl⟩⟩; refine ⟨_, rfl, ?_⟩) | ((with_reducible refine gate_callee (f := 38) rfl ?_); refine goesL_ (some 29) rfl rfl Try.func38 (by kernel_rfl) rfl #[.int .u8 a2, .int .u8 1, .bool (decide ((wrap64 ((wrap64 ((wrap64 ((wrap64 (a0)) - (wrap64 (a1)))) - 1)) + t172)) ≥ 0))] rfl (by (try simp only [List.map_toArray, List.map_cons, List.map_nil]); first | done | rfl | (simp only [List.length_drop, List.length_take]; rfl)) ?_; (with_reducible refine (tandemref3_put.calls a2 1 (decide ((wrap64 ((wrap64 ((wrap64 ((wrap64 (a0)) - (wrap64 (a1)))) - 1)) + t172)) ≥ 0)) t174 _ A6.out).mono ?_); rintro e w' ⟨rfl, ⟨nd, rfl⟩⟩; refine ⟨_, rfl, ?_⟩))
  (try simp only [Act.put, List.setIfInBounds_toArray, List.set_cons_zero, List.set_cons_succ])
  go_cut [2] (fun v2 wc => ∃ (kq : Nat) (x2_6 : Int), v2 = .int .u8 x2_6 ∧ Aside0 (tandemref3_Sbc.j0 kq a0 a1 x2_6 t172 ((t173) % 256) = some (r1, r2)) ∧ Aside0 (kq ≤ k) ∧ Drawn0 w wc)
  case first =>
    have H := HC7.out
    clear HC7
    replace H := Option.bind_eq_some_iff.mp H
    obtain ⟨t175, A80, H⟩ := H
    replace H : ((tandemref3_high.f (wrap64 (a1))).bind fun t176 => (if (t175 != t176) = true then ((tandemref3_high.f (wrap64 ((wrap64 ((wrap64 ((wrap64 (a0)) - (wrap64 (a1)))) - 1)) + t172))).bind fun t177 => ((tandemref3_high.f (wrap64 (a0))).bind fun t178 => ((tandemref3_put.f t174 64 (t177 != t178)).bind fun t179 => (tandemref3_Sbc.j0 k a0 a1 t179 t172 ((t173) % 256))))) else ((tandemref3_put.f t174 64 false).bind fun t180 => (tandemref3_Sbc.j0 k a0 a1 t180 t172 ((t173) % 256))))) = some (r1, r2) := H
    have A8 := Aside0.mk A80
    clear A80
    replace H := Option.bind_eq_some_iff.mp H
    obtain ⟨t176, A90, H⟩ := H
    replace H : (if (t175 != t176) = true then ((tandemref3_high.f (wrap64 ((wrap64 ((wrap64 ((wrap64 (a0)) - (wrap64 (a1)))) - 1)) + t172))).bind fun t177 => ((tandemref3_high.f (wrap64 (a0))).bind fun t178 => ((tandemref3_put.f t174 64 (t177 != t178)).bind fun t179 => (tandemref3_Sbc.j0 k a0 a1 t179 t172 ((t173) % 256))))) else ((tandemref3_put.f t174 64 false).bind fun t180 => (tandemref3_Sbc.j0 k a0 a1 t180 t172 ((t173) % 256)))) = some (r1, r2) := H
    have A9 := Aside0.mk A90
    clear A90
    by_cases c10 : (t175 != t176) = true
    · rw [if_pos c10] at H
      have c10b0 : (t175 != t176) = true := c10
      (try (have c10b1 : decide (t175 = t176) = false := by simpa using c10))
      (try (have c10b2 : (t175 == t176) = false := by simpa using c10))
      (try (have c10b3 : ¬ (t175 = t176) := by simpa using c10))
      clear c10
      (first | rw [c10b0] | (simp only [i64_w, i32_w]; rw [c10b0]) | skip)
      replace H := Option.bind_eq_some_iff.mp H
      obtain ⟨t177, A110, H⟩ := H
      replace H : ((tandemref3_high.f (wrap64 (a0))).bind fun t178 => ((tandemref3_put.f t174 64 (t177 != t178)).bind fun t179 => (tandemref3_Sbc.j0 k a0 a1 t179 t172 ((t173) % 256)))) = some (r1, r2) := H
      have A11 := Aside0.mk A110
      clear A110
      replace H := Option.bind_eq_some_iff.mp H
      obtain ⟨t178, A120, H⟩ := H
      replace H : ((tandemref3_put.f t174 64 (t177 != t178)).bind fun t179 => (tandemref3_Sbc.j0 k a0 a1 t179 t172 ((t173) % 256))) = some (r1, r2) := H
      have A12 := Aside0.mk A120
      clear A120
      replace H := Option.bind_eq_some_iff.mp H
      obtain ⟨t179, A130, H⟩ := H
      replace H : (tandemref3_Sbc.j0 k a0 a1 t179 t172 ((t173) % 256)) = some (r1, r2) := H
      have A13 := Aside0.mk A130
      clear A130
      have H' := Aside0.mk H
      clear H
      go_wp2_with (first | ((with_reducible refine gate_callee (f := 41) rfl ?_); refine goesL_ (some 33) rfl rfl Try.func41 (by kernel_rfl) rfl #[.int .i64 (wrap64 (a0))] rfl (by (try simp only [List.map_toArray, List.map_cons, List.map_nil]); first | done | rfl | (simp only [List.length_drop, List.length_take]; rfl)) ?_; (with_reducible refine (tandemref3_high.calls (wrap64 (a0)) t175 _ A8.out).mono ?_); rintro e w' ⟨rfl, ⟨nd, rfl⟩⟩; refine ⟨_, rfl, ?_⟩) | ((with_reducible refine gate_callee (f := 41) rfl ?_); refine goesL_ (some 36) rfl rfl Try.func41 (by kernel_rfl) rfl #[.int .i64 (wrap64 (a1))] rfl (by (try simp only [List.map_toArray, List.map_cons, List.map_nil]); first | done | rfl | (simp only [List.length_drop, List.length_take]; rfl)) ?_; (with_reducible refine (tandemref3_high.calls (wrap64 (a1)) t176 _ A9.out).mono ?_); rintro e w' ⟨rfl, ⟨nd, rfl⟩⟩; refine ⟨_, rfl, ?_⟩) | (go_at_call 41; (with_reducible refine (tandemref3_high.calls (wrap64 ((wrap64 ((wrap64 ((wrap64 (a0)) - (wrap64 (a1)))) - 1)) + t172)) t177 _ A11.out).mono ?_); rintro e w' ⟨rfl, ⟨nd, rfl⟩⟩) | (go_at_call 41; (with_reducible refine (tandemref3_high.calls (wrap64 (a0)) t178 _ A12.out).mono ?_); rintro e w' ⟨rfl, ⟨nd, rfl⟩⟩) | ((with_reducible refine gate_callee (f := 38) rfl ?_); refine goesL_ (some 46) rfl rfl Try.func38 (by kernel_rfl) rfl #[.int .u8 t174, .int .u8 64, .bool (t177 != t178)] rfl (by (try simp only [List.map_toArray, List.map_cons, List.map_nil]); first | done | rfl | (simp only [List.length_drop, List.length_take]; rfl)) ?_; (with_reducible refine (tandemref3_put.calls t174 64 (t177 != t178) t179 _ A13.out).mono ?_); rintro e w' ⟨rfl, ⟨nd, rfl⟩⟩; refine ⟨_, rfl, ?_⟩))
      go_meet
      case rel => exact ⟨_, (t179), (by first | rfl | (simp; done) | (simp [*]; done)), H', ⟨by first | omega | exact Nat.le_refl _⟩, by repeat (first | exact Drawn0.refl _ | apply Drawn0.step)⟩
    · rw [if_neg c10] at H
      have c10b0 : (t175 != t176) = false := by simpa using c10
      (try (have c10b1 : decide (t175 = t176) = true := by simpa using c10))
      (try (have c10b2 : (t175 == t176) = true := by simpa using c10))
      clear c10
      (first | rw [c10b0] | (simp only [i64_w, i32_w]; rw [c10b0]) | skip)
      replace H := Option.bind_eq_some_iff.mp H
      obtain ⟨t180, A140, H⟩ := H
      replace H : (tandemref3_Sbc.j0 k a0 a1 t180 t172 ((t173) % 256)) = some (r1, r2) := H
      have A14 := Aside0.mk A140
      clear A140
      have H' := Aside0.mk H
      clear H
      go_wp2_with (first | ((with_reducible refine gate_callee (f := 41) rfl ?_); refine goesL_ (some 33) rfl rfl Try.func41 (by kernel_rfl) rfl #[.int .i64 (wrap64 (a0))] rfl (by (try simp only [List.map_toArray, List.map_cons, List.map_nil]); first | done | rfl | (simp only [List.length_drop, List.length_take]; rfl)) ?_; (with_reducible refine (tandemref3_high.calls (wrap64 (a0)) t175 _ A8.out).mono ?_); rintro e w' ⟨rfl, ⟨nd, rfl⟩⟩; refine ⟨_, rfl, ?_⟩) | ((with_reducible refine gate_callee (f := 41) rfl ?_); refine goesL_ (some 36) rfl rfl Try.func41 (by kernel_rfl) rfl #[.int .i64 (wrap64 (a1))] rfl (by (try simp only [List.map_toArray, List.map_cons, List.map_nil]); first | done | rfl | (simp only [List.length_drop, List.length_take]; rfl)) ?_; (with_reducible refine (tandemref3_high.calls (wrap64 (a1)) t176 _ A9.out).mono ?_); rintro e w' ⟨rfl, ⟨nd, rfl⟩⟩; refine ⟨_, rfl, ?_⟩) | ((with_reducible refine gate_callee (f := 38) rfl ?_); refine goesL_ (some 46) rfl rfl Try.func38 (by kernel_rfl) rfl #[.int .u8 t174, .int .u8 64, .bool false] rfl (by (try simp only [List.map_toArray, List.map_cons, List.map_nil]); first | done | rfl | (simp only [List.length_drop, List.length_take]; rfl)) ?_; (with_reducible refine (tandemref3_put.calls t174 64 false t180 _ A14.out).mono ?_); rintro e w' ⟨rfl, ⟨nd, rfl⟩⟩; refine ⟨_, rfl, ?_⟩))
      go_meet
      case rel => exact ⟨_, (t180), (by first | rfl | (simp; done) | (simp [*]; done)), H', ⟨by first | omega | exact Nat.le_refl _⟩, by repeat (first | exact Drawn0.refl _ | apply Drawn0.step)⟩
  case rest =>
    clear HC7
    try clear c1
    try clear p2
    try clear c3
    try clear c4
    try clear p6
    try clear c10
    try clear c10b0
    try clear c10b1
    try clear c10b2
    obtain ⟨kq, x2_6, rfl, HA, HJ6, ⟨mc6, rfl⟩⟩ := hcut
    cases kq with
    | zero => exact absurd HA.out (by simp [tandemref3_Sbc.j0])
    | succ kj6 =>
      have H := HA.out
      clear HA
      simp only [tandemref3_Sbc.j0] at H
      replace H := Option.bind_eq_some_iff.mp H
      obtain ⟨t181, A150, H⟩ := H
      replace H : (if (Go.bits .and .u8 t181 8) = 0 then (some (((t173) % 256), t181)) else (if (wrap64 ((wrap64 ((wrap64 ((Int.tmod (wrap64 (a0)) 16) - (Int.tmod (wrap64 (a1)) 16))) - 1)) + t172)) < 0 then ((tandemref3_rest.f (wrap64 ((wrap64 ((wrap64 ((wrap64 ((Int.tmod (wrap64 (a0)) 16) - (Int.tmod (wrap64 (a1)) 16))) - 1)) + t172)) - 6)) 16).bind fun t182 => (if (wrap64 ((wrap64 ((wrap64 (16 * (wrap64 (Int.tdiv (wrap64 (a0)) 16)))) - (wrap64 (16 * (wrap64 (Int.tdiv (wrap64 (a1)) 16)))))) + (wrap64 (t182 - 16)))) < 0 then ((tandemref3_rest.f (wrap64 ((wrap64 ((wrap64 ((wrap64 (16 * (wrap64 (Int.tdiv (wrap64 (a0)) 16)))) - (wrap64 (16 * (wrap64 (Int.tdiv (wrap64 (a1)) 16)))))) + (wrap64 (t182 - 16)))) - 96)) 256).bind fun t183 => (some ((t183) % 256, t181))) else ((tandemref3_rest.f (wrap64 ((wrap64 ((wrap64 (16 * (wrap64 (Int.tdiv (wrap64 (a0)) 16)))) - (wrap64 (16 * (wrap64 (Int.tdiv (wrap64 (a1)) 16)))))) + (wrap64 (t182 - 16)))) 256).bind fun t184 => (some ((t184) % 256, t181))))) else (if (wrap64 ((wrap64 ((wrap64 (16 * (wrap64 (Int.tdiv (wrap64 (a0)) 16)))) - (wrap64 (16 * (wrap64 (Int.tdiv (wrap64 (a1)) 16)))))) + (wrap64 ((wrap64 ((wrap64 ((Int.tmod (wrap64 (a0)) 16) - (Int.tmod (wrap64 (a1)) 16))) - 1)) + t172)))) < 0 then ((tandemref3_rest.f (wrap64 ((wrap64 ((wrap64 ((wrap64 (16 * (wrap64 (Int.tdiv (wrap64 (a0)) 16)))) - (wrap64 (16 * (wrap64 (Int.tdiv (wrap64 (a1)) 16)))))) + (wrap64 ((wrap64 ((wrap64 ((Int.tmod (wrap64 (a0)) 16) - (Int.tmod (wrap64 (a1)) 16))) - 1)) + t172)))) - 96)) 256).bind fun t185 => (some ((t185) % 256, t181))) else ((tandemref3_rest.f (wrap64 ((wrap64 ((wrap64 (16 * (wrap64 (Int.tdiv (wrap64 (a0)) 16)))) - (wrap64 (16 * (wrap64 (Int.tdiv (wrap64 (a1)) 16)))))) + (wrap64 ((wrap64 ((wrap64 ((Int.tmod (wrap64 (a0)) 16) - (Int.tmod (wrap64 (a1)) 16))) - 1)) + t172)))) 256).bind fun t186 => (some ((t186) % 256, t181)))))) = some (r1, r2) := H
      have A15 := Aside0.mk A150
      clear A150
      by_cases c16 : (Go.bits .and .u8 t181 8) = 0
      · rw [if_pos c16] at H
        have c16b0 : ((Go.bits .and .u8 t181 8) == 0) = true := beq_iff_eq.mpr c16
        have c16b1 : ((Go.bits .and .u8 t181 8) != 0) = false := bne_eq_false_iff_eq.mpr c16
        clear c16
        simp only [Option.some.injEq, Prod.mk.injEq] at H
        obtain ⟨rfl, rfl⟩ := H
        go_wp2_with (first | ((with_reducible refine gate_callee (f := 26) rfl ?_); refine goesL_ (some 49) rfl rfl Try.func26 (by kernel_rfl) rfl #[.int .u8 ((t173) % 256), .int .u8 x2_6] rfl (by (try simp only [List.map_toArray, List.map_cons, List.map_nil]); first | done | rfl | (simp only [List.length_drop, List.length_take]; rfl)) ?_; (with_reducible refine (tandemref3_Nz.calls ((t173) % 256) x2_6 t181 _ A15.out).mono ?_); rintro e w' ⟨rfl, ⟨nd, rfl⟩⟩; refine ⟨_, rfl, ?_⟩))
        go_ret2
        exact ⟨by first | rfl | (simp; done) | (simp [*]; done), by repeat (first | exact Drawn0.refl _ | apply Drawn0.step)⟩
      · rw [if_neg c16] at H
        have c16b0 : ((Go.bits .and .u8 t181 8) == 0) = false := beq_eq_false_iff_ne.mpr c16
        have c16b1 : ((Go.bits .and .u8 t181 8) != 0) = true := bne_iff_ne.mpr c16
        by_cases c17 : (wrap64 ((wrap64 ((wrap64 ((Int.tmod (wrap64 (a0)) 16) - (Int.tmod (wrap64 (a1)) 16))) - 1)) + t172)) < 0
        · rw [if_pos c17] at H
          have c17b0 : decide ((wrap64 ((wrap64 ((wrap64 ((Int.tmod (wrap64 (a0)) 16) - (Int.tmod (wrap64 (a1)) 16))) - 1)) + t172)) < 0) = true := decide_eq_true c17
          clear c17
          replace H := Option.bind_eq_some_iff.mp H
          obtain ⟨t182, A180, H⟩ := H
          replace H : (if (wrap64 ((wrap64 ((wrap64 (16 * (wrap64 (Int.tdiv (wrap64 (a0)) 16)))) - (wrap64 (16 * (wrap64 (Int.tdiv (wrap64 (a1)) 16)))))) + (wrap64 (t182 - 16)))) < 0 then ((tandemref3_rest.f (wrap64 ((wrap64 ((wrap64 ((wrap64 (16 * (wrap64 (Int.tdiv (wrap64 (a0)) 16)))) - (wrap64 (16 * (wrap64 (Int.tdiv (wrap64 (a1)) 16)))))) + (wrap64 (t182 - 16)))) - 96)) 256).bind fun t183 => (some ((t183) % 256, t181))) else ((tandemref3_rest.f (wrap64 ((wrap64 ((wrap64 (16 * (wrap64 (Int.tdiv (wrap64 (a0)) 16)))) - (wrap64 (16 * (wrap64 (Int.tdiv (wrap64 (a1)) 16)))))) + (wrap64 (t182 - 16)))) 256).bind fun t184 => (some ((t184) % 256, t181)))) = some (r1, r2) := H
          have A18 := Aside0.mk A180
          clear A180
          by_cases c19 : (wrap64 ((wrap64 ((wrap64 (16 * (wrap64 (Int.tdiv (wrap64 (a0)) 16)))) - (wrap64 (16 * (wrap64 (Int.tdiv (wrap64 (a1)) 16)))))) + (wrap64 (t182 - 16)))) < 0
          · rw [if_pos c19] at H
            have c19b0 : decide ((wrap64 ((wrap64 ((wrap64 (16 * (wrap64 (Int.tdiv (wrap64 (a0)) 16)))) - (wrap64 (16 * (wrap64 (Int.tdiv (wrap64 (a1)) 16)))))) + (wrap64 (t182 - 16)))) < 0) = true := decide_eq_true c19
            clear c19
            replace H := Option.bind_eq_some_iff.mp H
            obtain ⟨t183, A200, H⟩ := H
            replace H : (some ((t183) % 256, t181)) = some (r1, r2) := H
            have A20 := Aside0.mk A200
            clear A200
            simp only [Option.some.injEq, Prod.mk.injEq] at H
            obtain ⟨rfl, rfl⟩ := H
            go_wp2_with (first | ((with_reducible refine gate_callee (f := 26) rfl ?_); refine goesL_ (some 49) rfl rfl Try.func26 (by kernel_rfl) rfl #[.int .u8 ((t173) % 256), .int .u8 x2_6] rfl (by (try simp only [List.map_toArray, List.map_cons, List.map_nil]); first | done | rfl | (simp only [List.length_drop, List.length_take]; rfl)) ?_; (with_reducible refine (tandemref3_Nz.calls ((t173) % 256) x2_6 t181 _ A15.out).mono ?_); rintro e w' ⟨rfl, ⟨nd, rfl⟩⟩; refine ⟨_, rfl, ?_⟩) | ((with_reducible refine gate_callee (f := 39) rfl ?_); refine goesL_ (some 69) rfl rfl Try.func39 (by kernel_rfl) rfl #[.int .i64 (wrap64 ((wrap64 ((wrap64 ((wrap64 ((Int.tmod (wrap64 (a0)) 16) - (Int.tmod (wrap64 (a1)) 16))) - 1)) + t172)) - 6)), .int .i64 16] rfl (by (try simp only [List.map_toArray, List.map_cons, List.map_nil]); first | done | rfl | (simp only [List.length_drop, List.length_take]; rfl)) ?_; (with_reducible refine (tandemref3_rest.calls (wrap64 ((wrap64 ((wrap64 ((wrap64 ((Int.tmod (wrap64 (a0)) 16) - (Int.tmod (wrap64 (a1)) 16))) - 1)) + t172)) - 6)) 16 t182 _ A18.out).mono ?_); rintro e w' ⟨rfl, ⟨nd, rfl⟩⟩; refine ⟨_, rfl, ?_⟩) | ((with_reducible refine gate_callee (f := 39) rfl ?_); refine goesL_ (some 87) rfl rfl Try.func39 (by kernel_rfl) rfl #[.int .i64 (wrap64 ((wrap64 ((wrap64 ((wrap64 (16 * (wrap64 (Int.tdiv (wrap64 (a0)) 16)))) - (wrap64 (16 * (wrap64 (Int.tdiv (wrap64 (a1)) 16)))))) + (wrap64 (t182 - 16)))) - 96)), .int .i64 256] rfl (by (try simp only [List.map_toArray, List.map_cons, List.map_nil]); first | done | rfl | (simp only [List.length_drop, List.length_take]; rfl)) ?_; (with_reducible refine (tandemref3_rest.calls (wrap64 ((wrap64 ((wrap64 ((wrap64 (16 * (wrap64 (Int.tdiv (wrap64 (a0)) 16)))) - (wrap64 (16 * (wrap64 (Int.tdiv (wrap64 (a1)) 16)))))) + (wrap64 (t182 - 16)))) - 96)) 256 t183 _ A20.out).mono ?_); rintro e w' ⟨rfl, ⟨nd, rfl⟩⟩; refine ⟨_, rfl, ?_⟩))
            go_ret2
            exact ⟨by first | rfl | (simp; done) | (simp [*]; done), by repeat (first | exact Drawn0.refl _ | apply Drawn0.step)⟩
          · rw [if_neg c19] at H
            have c19b0 : decide ((wrap64 ((wrap64 ((wrap64 (16 * (wrap64 (Int.tdiv (wrap64 (a0)) 16)))) - (wrap64 (16 * (wrap64 (Int.tdiv (wrap64 (a1)) 16)))))) + (wrap64 (t182 - 16)))) < 0) = false := decide_eq_false c19
            clear c19
            replace H := Option.bind_eq_some_iff.mp H
            obtain ⟨t184, A210, H⟩ := H
            replace H : (some ((t184) % 256, t181)) = some (r1, r2) := H
            have A21 := Aside0.mk A210
            clear A210
            simp only [Option.some.injEq, Prod.mk.injEq] at H
            obtain ⟨rfl, rfl⟩ := H
            go_wp2_with (first | ((with_reducible refine gate_callee (f := 26) rfl ?_); refine goesL_ (some 49) rfl rfl Try.func26 (by kernel_rfl) rfl #[.int .u8 ((t173) % 256), .int .u8 x2_6] rfl (by (try simp only [List.map_toArray, List.map_cons, List.map_nil]); first | done | rfl | (simp only [List.length_drop, List.length_take]; rfl)) ?_; (with_reducible refine (tandemref3_Nz.calls ((t173) % 256) x2_6 t181 _ A15.out).mono ?_); rintro e w' ⟨rfl, ⟨nd, rfl⟩⟩; refine ⟨_, rfl, ?_⟩) | ((with_reducible refine gate_callee (f := 39) rfl ?_); refine goesL_ (some 69) rfl rfl Try.func39 (by kernel_rfl) rfl #[.int .i64 (wrap64 ((wrap64 ((wrap64 ((wrap64 ((Int.tmod (wrap64 (a0)) 16) - (Int.tmod (wrap64 (a1)) 16))) - 1)) + t172)) - 6)), .int .i64 16] rfl (by (try simp only [List.map_toArray, List.map_cons, List.map_nil]); first | done | rfl | (simp only [List.length_drop, List.length_take]; rfl)) ?_; (with_reducible refine (tandemref3_rest.calls (wrap64 ((wrap64 ((wrap64 ((wrap64 ((Int.tmod (wrap64 (a0)) 16) - (Int.tmod (wrap64 (a1)) 16))) - 1)) + t172)) - 6)) 16 t182 _ A18.out).mono ?_); rintro e w' ⟨rfl, ⟨nd, rfl⟩⟩; refine ⟨_, rfl, ?_⟩) | ((with_reducible refine gate_callee (f := 39) rfl ?_); refine goesL_ (some 87) rfl rfl Try.func39 (by kernel_rfl) rfl #[.int .i64 (wrap64 ((wrap64 ((wrap64 (16 * (wrap64 (Int.tdiv (wrap64 (a0)) 16)))) - (wrap64 (16 * (wrap64 (Int.tdiv (wrap64 (a1)) 16)))))) + (wrap64 (t182 - 16)))), .int .i64 256] rfl (by (try simp only [List.map_toArray, List.map_cons, List.map_nil]); first | done | rfl | (simp only [List.length_drop, List.length_take]; rfl)) ?_; (with_reducible refine (tandemref3_rest.calls (wrap64 ((wrap64 ((wrap64 (16 * (wrap64 (Int.tdiv (wrap64 (a0)) 16)))) - (wrap64 (16 * (wrap64 (Int.tdiv (wrap64 (a1)) 16)))))) + (wrap64 (t182 - 16)))) 256 t184 _ A21.out).mono ?_); rintro e w' ⟨rfl, ⟨nd, rfl⟩⟩; refine ⟨_, rfl, ?_⟩))
            go_ret2
            exact ⟨by first | rfl | (simp; done) | (simp [*]; done), by repeat (first | exact Drawn0.refl _ | apply Drawn0.step)⟩
        · rw [if_neg c17] at H
          have c17b0 : decide ((wrap64 ((wrap64 ((wrap64 ((Int.tmod (wrap64 (a0)) 16) - (Int.tmod (wrap64 (a1)) 16))) - 1)) + t172)) < 0) = false := decide_eq_false c17
          clear c17
          by_cases c22 : (wrap64 ((wrap64 ((wrap64 (16 * (wrap64 (Int.tdiv (wrap64 (a0)) 16)))) - (wrap64 (16 * (wrap64 (Int.tdiv (wrap64 (a1)) 16)))))) + (wrap64 ((wrap64 ((wrap64 ((Int.tmod (wrap64 (a0)) 16) - (Int.tmod (wrap64 (a1)) 16))) - 1)) + t172)))) < 0
          · rw [if_pos c22] at H
            have c22b0 : decide ((wrap64 ((wrap64 ((wrap64 (16 * (wrap64 (Int.tdiv (wrap64 (a0)) 16)))) - (wrap64 (16 * (wrap64 (Int.tdiv (wrap64 (a1)) 16)))))) + (wrap64 ((wrap64 ((wrap64 ((Int.tmod (wrap64 (a0)) 16) - (Int.tmod (wrap64 (a1)) 16))) - 1)) + t172)))) < 0) = true := decide_eq_true c22
            clear c22
            replace H := Option.bind_eq_some_iff.mp H
            obtain ⟨t185, A230, H⟩ := H
            replace H : (some ((t185) % 256, t181)) = some (r1, r2) := H
            have A23 := Aside0.mk A230
            clear A230
            simp only [Option.some.injEq, Prod.mk.injEq] at H
            obtain ⟨rfl, rfl⟩ := H
            go_wp2_with (first | ((with_reducible refine gate_callee (f := 26) rfl ?_); refine goesL_ (some 49) rfl rfl Try.func26 (by kernel_rfl) rfl #[.int .u8 ((t173) % 256), .int .u8 x2_6] rfl (by (try simp only [List.map_toArray, List.map_cons, List.map_nil]); first | done | rfl | (simp only [List.length_drop, List.length_take]; rfl)) ?_; (with_reducible refine (tandemref3_Nz.calls ((t173) % 256) x2_6 t181 _ A15.out).mono ?_); rintro e w' ⟨rfl, ⟨nd, rfl⟩⟩; refine ⟨_, rfl, ?_⟩) | ((with_reducible refine gate_callee (f := 39) rfl ?_); refine goesL_ (some 87) rfl rfl Try.func39 (by kernel_rfl) rfl #[.int .i64 (wrap64 ((wrap64 ((wrap64 ((wrap64 (16 * (wrap64 (Int.tdiv (wrap64 (a0)) 16)))) - (wrap64 (16 * (wrap64 (Int.tdiv (wrap64 (a1)) 16)))))) + (wrap64 ((wrap64 ((wrap64 ((Int.tmod (wrap64 (a0)) 16) - (Int.tmod (wrap64 (a1)) 16))) - 1)) + t172)))) - 96)), .int .i64 256] rfl (by (try simp only [List.map_toArray, List.map_cons, List.map_nil]); first | done | rfl | (simp only [List.length_drop, List.length_take]; rfl)) ?_; (with_reducible refine (tandemref3_rest.calls (wrap64 ((wrap64 ((wrap64 ((wrap64 (16 * (wrap64 (Int.tdiv (wrap64 (a0)) 16)))) - (wrap64 (16 * (wrap64 (Int.tdiv (wrap64 (a1)) 16)))))) + (wrap64 ((wrap64 ((wrap64 ((Int.tmod (wrap64 (a0)) 16) - (Int.tmod (wrap64 (a1)) 16))) - 1)) + t172)))) - 96)) 256 t185 _ A23.out).mono ?_); rintro e w' ⟨rfl, ⟨nd, rfl⟩⟩; refine ⟨_, rfl, ?_⟩))
            go_ret2
            exact ⟨by first | rfl | (simp; done) | (simp [*]; done), by repeat (first | exact Drawn0.refl _ | apply Drawn0.step)⟩
          · rw [if_neg c22] at H
            have c22b0 : decide ((wrap64 ((wrap64 ((wrap64 (16 * (wrap64 (Int.tdiv (wrap64 (a0)) 16)))) - (wrap64 (16 * (wrap64 (Int.tdiv (wrap64 (a1)) 16)))))) + (wrap64 ((wrap64 ((wrap64 ((Int.tmod (wrap64 (a0)) 16) - (Int.tmod (wrap64 (a1)) 16))) - 1)) + t172)))) < 0) = false := decide_eq_false c22
            clear c22
            replace H := Option.bind_eq_some_iff.mp H
            obtain ⟨t186, A240, H⟩ := H
            replace H : (some ((t186) % 256, t181)) = some (r1, r2) := H
            have A24 := Aside0.mk A240
            clear A240
            simp only [Option.some.injEq, Prod.mk.injEq] at H
            obtain ⟨rfl, rfl⟩ := H
            go_wp2_with (first | ((with_reducible refine gate_callee (f := 26) rfl ?_); refine goesL_ (some 49) rfl rfl Try.func26 (by kernel_rfl) rfl #[.int .u8 ((t173) % 256), .int .u8 x2_6] rfl (by (try simp only [List.map_toArray, List.map_cons, List.map_nil]); first | done | rfl | (simp only [List.length_drop, List.length_take]; rfl)) ?_; (with_reducible refine (tandemref3_Nz.calls ((t173) % 256) x2_6 t181 _ A15.out).mono ?_); rintro e w' ⟨rfl, ⟨nd, rfl⟩⟩; refine ⟨_, rfl, ?_⟩) | ((with_reducible refine gate_callee (f := 39) rfl ?_); refine goesL_ (some 87) rfl rfl Try.func39 (by kernel_rfl) rfl #[.int .i64 (wrap64 ((wrap64 ((wrap64 (16 * (wrap64 (Int.tdiv (wrap64 (a0)) 16)))) - (wrap64 (16 * (wrap64 (Int.tdiv (wrap64 (a1)) 16)))))) + (wrap64 ((wrap64 ((wrap64 ((Int.tmod (wrap64 (a0)) 16) - (Int.tmod (wrap64 (a1)) 16))) - 1)) + t172)))), .int .i64 256] rfl (by (try simp only [List.map_toArray, List.map_cons, List.map_nil]); first | done | rfl | (simp only [List.length_drop, List.length_take]; rfl)) ?_; (with_reducible refine (tandemref3_rest.calls (wrap64 ((wrap64 ((wrap64 (16 * (wrap64 (Int.tdiv (wrap64 (a0)) 16)))) - (wrap64 (16 * (wrap64 (Int.tdiv (wrap64 (a1)) 16)))))) + (wrap64 ((wrap64 ((wrap64 ((Int.tmod (wrap64 (a0)) 16) - (Int.tmod (wrap64 (a1)) 16))) - 1)) + t172)))) 256 t186 _ A24.out).mono ?_); rintro e w' ⟨rfl, ⟨nd, rfl⟩⟩; refine ⟨_, rfl, ?_⟩))
            go_ret2
            exact ⟨by first | rfl | (simp; done) | (simp [*]; done), by repeat (first | exact Drawn0.refl _ | apply Drawn0.step)⟩

/-! ### alu_Arr: function 31 -/
def alu_Arr.f (a0 : Int) (a1 : Int) (a2 : Int) : Option (Int × Int) := (alu_Nz.f (Go.bits .or .u8 ((Go.bits .and .u8 a0 a1) / 2) (((Go.bits .and .u8 a2 1) * 128) % 256)) a2).bind fun t187 => (if (Go.bits .and .u8 a2 8) = 0 then ((alu_put.f t187 1 ((Go.bits .and .u8 (Go.bits .or .u8 ((Go.bits .and .u8 a0 a1) / 2) (((Go.bits .and .u8 a2 1) * 128) % 256)) 64) != 0)).bind fun t188 => ((alu_put.f t188 64 ((Go.bits .and .u8 (Go.bits .xor .u8 (Go.bits .or .u8 ((Go.bits .and .u8 a0 a1) / 2) (((Go.bits .and .u8 a2 1) * 128) % 256)) (((Go.bits .or .u8 ((Go.bits .and .u8 a0 a1) / 2) (((Go.bits .and .u8 a2 1) * 128) % 256)) * 2) % 256)) 64) != 0)).bind fun t189 => (some (Go.bits .or .u8 ((Go.bits .and .u8 a0 a1) / 2) (((Go.bits .and .u8 a2 1) * 128) % 256), t189)))) else ((alu_put.f t187 64 ((Go.bits .and .u8 (Go.bits .xor .u8 (Go.bits .and .u8 a0 a1) (Go.bits .or .u8 ((Go.bits .and .u8 a0 a1) / 2) (((Go.bits .and .u8 a2 1) * 128) % 256))) 64) != 0)).bind fun t190 => (if (wrap64 ((wrap64 (Go.bits .and .u8 (Go.bits .and .u8 a0 a1) 15)) + (wrap64 (Go.bits .and .u8 (Go.bits .and .u8 a0 a1) 1)))) > 5 then (if (wrap64 ((wrap64 (Go.bits .and .u8 (Go.bits .and .u8 a0 a1) 240)) + (wrap64 (Go.bits .and .u8 (Go.bits .and .u8 a0 a1) 16)))) > 80 then ((alu_put.f t190 1 true).bind fun t191 => (some (((Go.bits .or .u8 (Go.bits .and .u8 (Go.bits .or .u8 ((Go.bits .and .u8 a0 a1) / 2) (((Go.bits .and .u8 a2 1) * 128) % 256)) 240) (Go.bits .and .u8 (((Go.bits .or .u8 ((Go.bits .and .u8 a0 a1) / 2) (((Go.bits .and .u8 a2 1) * 128) % 256)) + 6) % 256) 15)) + 96) % 256, t191))) else ((alu_put.f t190 1 false).bind fun t192 => (some (Go.bits .or .u8 (Go.bits .and .u8 (Go.bits .or .u8 ((Go.bits .and .u8 a0 a1) / 2) (((Go.bits .and .u8 a2 1) * 128) % 256)) 240) (Go.bits .and .u8 (((Go.bits .or .u8 ((Go.bits .and .u8 a0 a1) / 2) (((Go.bits .and .u8 a2 1) * 128) % 256)) + 6) % 256) 15), t192)))) else (if (wrap64 ((wrap64 (Go.bits .and .u8 (Go.bits .and .u8 a0 a1) 240)) + (wrap64 (Go.bits .and .u8 (Go.bits .and .u8 a0 a1) 16)))) > 80 then ((alu_put.f t190 1 true).bind fun t193 => (some (((Go.bits .or .u8 ((Go.bits .and .u8 a0 a1) / 2) (((Go.bits .and .u8 a2 1) * 128) % 256)) + 96) % 256, t193))) else ((alu_put.f t190 1 false).bind fun t194 => (some (Go.bits .or .u8 ((Go.bits .and .u8 a0 a1) / 2) (((Go.bits .and .u8 a2 1) * 128) % 256), t194)))))))
set_option maxHeartbeats 8000000 in
set_option maxRecDepth 100000 in
theorem alu_Arr.calls (a0 : Int) (a1 : Int) (a2 : Int) (r1 : Int) (r2 : Int) (w : World) (h : alu_Arr.f a0 a1 a2 = some (r1, r2)) :
    Calls Try.prog 31 #[.int .u8 a0, .int .u8 a1, .int .u8 a2] w fun e w' => e = .returned (.tuple #[.int .u8 r1, .int .u8 r2]) ∧ Drawn0 w w' := by
  have H : ((alu_Nz.f (Go.bits .or .u8 ((Go.bits .and .u8 a0 a1) / 2) (((Go.bits .and .u8 a2 1) * 128) % 256)) a2).bind fun t187 => (if (Go.bits .and .u8 a2 8) = 0 then ((alu_put.f t187 1 ((Go.bits .and .u8 (Go.bits .or .u8 ((Go.bits .and .u8 a0 a1) / 2) (((Go.bits .and .u8 a2 1) * 128) % 256)) 64) != 0)).bind fun t188 => ((alu_put.f t188 64 ((Go.bits .and .u8 (Go.bits .xor .u8 (Go.bits .or .u8 ((Go.bits .and .u8 a0 a1) / 2) (((Go.bits .and .u8 a2 1) * 128) % 256)) (((Go.bits .or .u8 ((Go.bits .and .u8 a0 a1) / 2) (((Go.bits .and .u8 a2 1) * 128) % 256)) * 2) % 256)) 64) != 0)).bind fun t189 => (some (Go.bits .or .u8 ((Go.bits .and .u8 a0 a1) / 2) (((Go.bits .and .u8 a2 1) * 128) % 256), t189)))) else ((alu_put.f t187 64 ((Go.bits .and .u8 (Go.bits .xor .u8 (Go.bits .and .u8 a0 a1) (Go.bits .or .u8 ((Go.bits .and .u8 a0 a1) / 2) (((Go.bits .and .u8 a2 1) * 128) % 256))) 64) != 0)).bind fun t190 => (if (wrap64 ((wrap64 (Go.bits .and .u8 (Go.bits .and .u8 a0 a1) 15)) + (wrap64 (Go.bits .and .u8 (Go.bits .and .u8 a0 a1) 1)))) > 5 then (if (wrap64 ((wrap64 (Go.bits .and .u8 (Go.bits .and .u8 a0 a1) 240)) + (wrap64 (Go.bits .and .u8 (Go.bits .and .u8 a0 a1) 16)))) > 80 then ((alu_put.f t190 1 true).bind fun t191 => (some (((Go.bits .or .u8 (Go.bits .and .u8 (Go.bits .or .u8 ((Go.bits .and .u8 a0 a1) / 2) (((Go.bits .and .u8 a2 1) * 128) % 256)) 240) (Go.bits .and .u8 (((Go.bits .or .u8 ((Go.bits .and .u8 a0 a1) / 2) (((Go.bits .and .u8 a2 1) * 128) % 256)) + 6) % 256) 15)) + 96) % 256, t191))) else ((alu_put.f t190 1 false).bind fun t192 => (some (Go.bits .or .u8 (Go.bits .and .u8 (Go.bits .or .u8 ((Go.bits .and .u8 a0 a1) / 2) (((Go.bits .and .u8 a2 1) * 128) % 256)) 240) (Go.bits .and .u8 (((Go.bits .or .u8 ((Go.bits .and .u8 a0 a1) / 2) (((Go.bits .and .u8 a2 1) * 128) % 256)) + 6) % 256) 15), t192)))) else (if (wrap64 ((wrap64 (Go.bits .and .u8 (Go.bits .and .u8 a0 a1) 240)) + (wrap64 (Go.bits .and .u8 (Go.bits .and .u8 a0 a1) 16)))) > 80 then ((alu_put.f t190 1 true).bind fun t193 => (some (((Go.bits .or .u8 ((Go.bits .and .u8 a0 a1) / 2) (((Go.bits .and .u8 a2 1) * 128) % 256)) + 96) % 256, t193))) else ((alu_put.f t190 1 false).bind fun t194 => (some (Go.bits .or .u8 ((Go.bits .and .u8 a0 a1) / 2) (((Go.bits .and .u8 a2 1) * 128) % 256), t194)))))))) = some (r1, r2) := h
  clear h
  replace H := Option.bind_eq_some_iff.mp H
  obtain ⟨t187, A40, H⟩ := H
  replace H : (if (Go.bits .and .u8 a2 8) = 0 then ((alu_put.f t187 1 ((Go.bits .and .u8 (Go.bits .or .u8 ((Go.bits .and .u8 a0 a1) / 2) (((Go.bits .and .u8 a2 1) * 128) % 256)) 64) != 0)).bind fun t188 => ((alu_put.f t188 64 ((Go.bits .and .u8 (Go.bits .xor .u8 (Go.bits .or .u8 ((Go.bits .and .u8 a0 a1) / 2) (((Go.bits .and .u8 a2 1) * 128) % 256)) (((Go.bits .or .u8 ((Go.bits .and .u8 a0 a1) / 2) (((Go.bits .and .u8 a2 1) * 128) % 256)) * 2) % 256)) 64) != 0)).bind fun t189 => (some (Go.bits .or .u8 ((Go.bits .and .u8 a0 a1) / 2) (((Go.bits .and .u8 a2 1) * 128) % 256), t189)))) else ((alu_put.f t187 64 ((Go.bits .and .u8 (Go.bits .xor .u8 (Go.bits .and .u8 a0 a1) (Go.bits .or .u8 ((Go.bits .and .u8 a0 a1) / 2) (((Go.bits .and .u8 a2 1) * 128) % 256))) 64) != 0)).bind fun t190 => (if (wrap64 ((wrap64 (Go.bits .and .u8 (Go.bits .and .u8 a0 a1) 15)) + (wrap64 (Go.bits .and .u8 (Go.bits .and .u8 a0 a1) 1)))) > 5 then (if (wrap64 ((wrap64 (Go.bits .and .u8 (Go.bits .and .u8 a0 a1) 240)) + (wrap64 (Go.bits .and .u8 (Go.bits .and .u8 a0 a1) 16)))) > 80 then ((alu_put.f t190 1 true).bind fun t191 => (some (((Go.bits .or .u8 (Go.bits .and .u8 (Go.bits .or .u8 ((Go.bits .and .u8 a0 a1) / 2) (((Go.bits .and .u8 a2 1) * 128) % 256)) 240) (Go.bits .and .u8 (((Go.bits .or .u8 ((Go.bits .and .u8 a0 a1) / 2) (((Go.bits .and .u8 a2 1) * 128) % 256)) + 6) % 256) 15)) + 96) % 256, t191))) else ((alu_put.f t190 1 false).bind fun t192 => (some (Go.bits .or .u8 (Go.bits .and .u8 (Go.bits .or .u8 ((Go.bits .and .u8 a0 a1) / 2) (((Go.bits .and .u8 a2 1) * 128) % 256)) 240) (Go.bits .and .u8 (((Go.bits .or .u8 ((Go.bits .and .u8 a0 a1) / 2) (((Go.bits .and .u8 a2 1) * 128) % 256)) + 6) % 256) 15), t192)))) else (if (wrap64 ((wrap64 (Go.bits .and .u8 (Go.bits .and .u8 a0 a1) 240)) + (wrap64 (Go.bits .and .u8 (Go.bits .and .u8 a0 a1) 16)))) > 80 then ((alu_put.f t190 1 true).bind fun t193 => (some (((Go.bits .or .u8 ((Go.bits .and .u8 a0 a1) / 2) (((Go.bits .and .u8 a2 1) * 128) % 256)) + 96) % 256, t193))) else ((alu_put.f t190 1 false).bind fun t194 => (some (Go.bits .or .u8 ((Go.bits .and .u8 a0 a1) / 2) (((Go.bits .and .u8 a2 1) * 128) % 256), t194))))))) = some (r1, r2) := H
  have A4 := Aside0.mk A40
  clear A40
  by_cases c5 : (Go.bits .and .u8 a2 8) = 0
  · rw [if_pos c5] at H
    have c5b0 : ((Go.bits .and .u8 a2 8) == 0) = true := beq_iff_eq.mpr c5
    have c5b1 : ((Go.bits .and .u8 a2 8) != 0) = false := bne_eq_false_iff_eq.mpr c5
    clear c5
    replace H := Option.bind_eq_some_iff.mp H
    obtain ⟨t188, A60, H⟩ := H
    replace H : ((alu_put.f t188 64 ((Go.bits .and .u8 (Go.bits .xor .u8 (Go.bits .or .u8 ((Go.bits .and .u8 a0 a1) / 2) (((Go.bits .and .u8 a2 1) * 128) % 256)) (((Go.bits .or .u8 ((Go.bits .and .u8 a0 a1) / 2) (((Go.bits .and .u8 a2 1) * 128) % 256)) * 2) % 256)) 64) != 0)).bind fun t189 => (some (Go.bits .or .u8 ((Go.bits .and .u8 a0 a1) / 2) (((Go.bits .and .u8 a2 1) * 128) % 256), t189))) = some (r1, r2) := H
    have A6 := Aside0.mk A60
    clear A60
    replace H := Option.bind_eq_some_iff.mp H
    obtain ⟨t189, A70, H⟩ := H
    replace H : (some (Go.bits .or .u8 ((Go.bits .and .u8 a0 a1) / 2) (((Go.bits .and .u8 a2 1) * 128) % 256), t189)) = some (r1, r2) := H
    have A7 := Aside0.mk A70
    clear A70
    simp only [Option.some.injEq, Prod.mk.injEq] at H
    obtain ⟨rfl, rfl⟩ := H
    go_enter Try.func31, Try.ntmps31
    go_wp2_with (first | ((with_reducible refine gate_callee (f := 25) rfl ?_); refine goesL_ (some 24) rfl rfl Try.func25 (by kernel_rfl) rfl #[.int .u8 (Go.bits .or .u8 ((Go.bits .and .u8 a0 a1) / 2) (((Go.bits .and .u8 a2 1) * 128) % 256)), .int .u8 a2] rfl (by (try simp only [List.map_toArray, List.map_cons, List.map_nil]); first | done | rfl | (simp only [List.length_drop, List.length_take]; rfl)) ?_; (with_reducible refine (alu_Nz.calls (Go.bits .or .u8 ((Go.bits .and .u8 a0 a1) / 2) (((Go.bits .and .u8 a2 1) * 128) % 256)) a2 t187 _ A4.out).mono ?_); rintro e w' ⟨rfl, ⟨nd, rfl⟩⟩; refine ⟨_, rfl, ?_⟩) | ((with_reducible refine gate_callee (f := 36) rfl ?_); refine goesL_ (some 32) rfl rfl Try.func36 (by kernel_rfl) rfl #[.int .u8 t187, .int .u8 1, .bool ((Go.bits .and .u8 (Go.bits .or .u8 ((Go.bits .and .u8 a0 a1) / 2) (((Go.bits .and .u8 a2 1) * 128) % 256)) 64) != 0)] rfl (by (try simp only [List.map_toArray, List.map_cons, List.map_nil]); first | done | rfl | (simp only [List.length_drop, List.length_take]; rfl)) ?_; (with_reducible refine (alu_put.calls t187 1 ((Go.bits .and .u8 (Go.bits .or .u8 ((Go.bits .and .u8 a0 a1) / 2) (((Go.bits .and .u8 a2 1) * 128) % 256)) 64) != 0) t188 _ A6.out).mono ?_); rintro e w' ⟨rfl, ⟨nd, rfl⟩⟩; refine ⟨_, rfl, ?_⟩) | ((with_reducible refine gate_callee (f := 36) rfl ?_); refine goesL_ (some 41) rfl rfl Try.func36 (by kernel_rfl) rfl #[.int .u8 t188, .int .u8 64, .bool ((Go.bits .and .u8 (Go.bits .xor .u8 (Go.bits .or .u8 ((Go.bits .and .u8 a0 a1) / 2) (((Go.bits .and .u8 a2 1) * 128) % 256)) (((Go.bits .or .u8 ((Go.bits .and .u8 a0 a1) / 2) (((Go.bits .and .u8 a2 1) * 128) % 256)) * 2) % 256)) 64) != 0)] rfl (by (try simp only [List.map_toArray, List.map_cons, List.map_nil]); first | done | rfl | (simp only [List.length_drop, List.length_take]; rfl)) ?_; (with_reducible refine (alu_put.calls t188 64 ((Go.bits .and .u8 (Go.bits .xor .u8 (Go.bits .or .u8 ((Go.bits .and .u8 a0 a1) / 2) (((Go.bits .and .u8 a2 1) * 128) % 256)) (((Go.bits .or .u8 ((Go.bits .and .u8 a0 a1) / 2) (((Go.bits .and .u8 a2 1) * 128) % 256)) * 2) % 256)) 64) != 0) t189 _ A7.out).mono ?_); rintro e w' ⟨rfl, ⟨nd, rfl⟩⟩; refine ⟨_, rfl, ?_⟩))
    go_ret2
    exact ⟨by first | rfl | (simp; done) | (simp [*]; done) | (simp; simp (disch := omega) only [Go.u8_and15, Int.emod_emod_of_dvd _ (show (16 : Int) ∣ 256 by decide)]), by repeat (first | exact Drawn0.refl _ | apply Drawn0.step)⟩
  · rw [if_neg c5] at H
    have c5b0 : ((Go.bits .and .u8 a2 8) == 0) = false := beq_eq_false_iff_ne.mpr c5
    have c5b1 : ((Go.bits .and .u8 a2 8) != 0) = true := bne_iff_ne.mpr c5
    replace H := Option.bind_eq_some_iff.mp H
    obtain ⟨t190, A80, H⟩ := H
    replace H : (if (wrap64 ((wrap64 (Go.bits .and .u8 (Go.bits .and .u8 a0 a1) 15)) + (wrap64 (Go.bits .and .u8 (Go.bits .and .u8 a0 a1) 1)))) > 5 then (if (wrap64 ((wrap64 (Go.bits .and .u8 (Go.bits .and .u8 a0 a1) 240)) + (wrap64 (Go.bits .and .u8 (Go.bits .and .u8 a0 a1) 16)))) > 80 then ((alu_put.f t190 1 true).bind fun t191 => (some (((Go.bits .or .u8 (Go.bits .and .u8 (Go.bits .or .u8 ((Go.bits .and .u8 a0 a1) / 2) (((Go.bits .and .u8 a2 1) * 128) % 256)) 240) (Go.bits .and .u8 (((Go.bits .or .u8 ((Go.bits .and .u8 a0 a1) / 2) (((Go.bits .and .u8 a2 1) * 128) % 256)) + 6) % 256) 15)) + 96) % 256, t191))) else ((alu_put.f t190 1 false).bind fun t192 => (some (Go.bits .or .u8 (Go.bits .and .u8 (Go.bits .or .u8 ((Go.bits .and .u8 a0 a1) / 2) (((Go.bits .and .u8 a2 1) * 128) % 256)) 240) (Go.bits .and .u8 (((Go.bits .or .u8 ((Go.bits .and .u8 a0 a1) / 2) (((Go.bits .and .u8 a2 1) * 128) % 256)) + 6) % 256) 15), t192)))) else (if (wrap64 ((wrap64 (Go.bits .and .u8 (Go.bits .and .u8 a0 a1) 240)) + (wrap64 (Go.bits .and .u8 (Go.bits .and .u8 a0 a1) 16)))) > 80 then ((alu_put.f t190 1 true).bind fun t193 => (some (((Go.bits .or .u8 ((Go.bits .and .u8 a0 a1) / 2) (((Go.bits .and .u8 a2 1) * 128) % 256)) + 96) % 256, t193))) else ((alu_put.f t190 1 false).bind fun t194 => (some (Go.bits .or .u8 ((Go.bits .and .u8 a0 a1) / 2) (((Go.bits .and .u8 a2 1) * 128) % 256), t194))))) = some (r1, r2) := H
    have A8 := Aside0.mk A80
    clear A80
    by_cases c9 : (wrap64 ((wrap64 (Go.bits .and .u8 (Go.bits .and .u8 a0 a1) 15)) + (wrap64 (Go.bits .and .u8 (Go.bits .and .u8 a0 a1) 1)))) > 5
    · rw [if_pos c9] at H
      have c9b0 : decide (5 < (wrap64 ((wrap64 (Go.bits .and .u8 (Go.bits .and .u8 a0 a1) 15)) + (wrap64 (Go.bits .and .u8 (Go.bits .and .u8 a0 a1) 1))))) = true := decide_eq_true c9
      clear c9
      by_cases c10 : (wrap64 ((wrap64 (Go.bits .and .u8 (Go.bits .and .u8 a0 a1) 240)) + (wrap64 (Go.bits .and .u8 (Go.bits .and .u8 a0 a1) 16)))) > 80
      · rw [if_pos c10] at H
        have c10b0 : decide (80 < (wrap64 ((wrap64 (Go.bits .and .u8 (Go.bits .and .u8 a0 a1) 240)) + (wrap64 (Go.bits .and .u8 (Go.bits .and .u8 a0 a1) 16))))) = true := decide_eq_true c10
        clear c10
        replace H := Option.bind_eq_some_iff.mp H
        obtain ⟨t191, A110, H⟩ := H
        replace H : (some (((Go.bits .or .u8 (Go.bits .and .u8 (Go.bits .or .u8 ((Go.bits .and .u8 a0 a1) / 2) (((Go.bits .and .u8 a2 1) * 128) % 256)) 240) (Go.bits .and .u8 (((Go.bits .or .u8 ((Go.bits .and .u8 a0 a1) / 2) (((Go.bits .and .u8 a2 1) * 128) % 256)) + 6) % 256) 15)) + 96) % 256, t191)) = some (r1, r2) := H
        have A11 := Aside0.mk A110
        clear A110
        simp only [Option.some.injEq, Prod.mk.injEq] at H
        obtain ⟨rfl, rfl⟩ := H
        go_enter Try.func31, Try.ntmps31
        go_wp2_with (first | ((with_reducible refine gate_callee (f := 25) rfl ?_); refine goesL_ (some 24) rfl rfl Try.func25 (by kernel_rfl) rfl #[.int .u8 (Go.bits .or .u8 ((Go.bits .and .u8 a0 a1) / 2) (((Go.bits .and .u8 a2 1) * 128) % 256)), .int .u8 a2] rfl (by (try simp only [List.map_toArray, List.map_cons, List.map_nil]); first | done | rfl | (simp only [List.length_drop, List.length_take]; rfl)) ?_; (with_reducible refine (alu_Nz.calls (Go.bits .or .u8 ((Go.bits .and .u8 a0 a1) / 2) (((Go.bits .and .u8 a2 1) * 128) % 256)) a2 t187 _ A4.out).mono ?_); rintro e w' ⟨rfl, ⟨nd, rfl⟩⟩; refine ⟨_, rfl, ?_⟩) | ((with_reducible refine gate_callee (f := 36) rfl ?_); refine goesL_ (some 48) rfl rfl Try.func36 (by kernel_rfl) rfl #[.int .u8 t187, .int .u8 64, .bool ((Go.bits .and .u8 (Go.bits .xor .u8 (Go.bits .and .u8 a0 a1) (Go.bits .or .u8 ((Go.bits .and .u8 a0 a1) / 2) (((Go.bits .and .u8 a2 1) * 128) % 256))) 64) != 0)] rfl (by (try simp only [List.map_toArray, List.map_cons, List.map_nil]); first | done | rfl | (simp only [List.length_drop, List.length_take]; rfl)) ?_; (with_reducible refine (alu_put.calls t187 64 ((Go.bits .and .u8 (Go.bits .xor .u8 (Go.bits .and .u8 a0 a1) (Go.bits .or .u8 ((Go.bits .and .u8 a0 a1) / 2) (((Go.bits .and .u8 a2 1) * 128) % 256))) 64) != 0) t190 _ A8.out).mono ?_); rintro e w' ⟨rfl, ⟨nd, rfl⟩⟩; refine ⟨_, rfl, ?_⟩) | ((with_reducible refine gate_callee (f := 36) rfl ?_); refine goesL_ (some 78) rfl rfl Try.func36 (by kernel_rfl) rfl #[.int .u8 t190, .int .u8 1, .bool true] rfl (by (try simp only [List.map_toArray, List.map_cons, List.map_nil]); first | done | rfl | (simp only [List.length_drop, List.length_take]; rfl)) ?_; (with_reducible refine (alu_put.calls t190 1 true t191 _ A11.out).mono ?_); rintro e w' ⟨rfl, ⟨nd, rfl⟩⟩; refine ⟨_, rfl, ?_⟩))
        go_ret2
        exact ⟨by first | rfl | (simp; done) | (simp [*]; done) | (simp; simp (disch := omega) only [Go.u8_and15, Int.emod_emod_of_dvd _ (show (16 : Int) ∣ 256 by decide)]), by repeat (first | exact Drawn0.refl _ | apply Drawn0.step)⟩
      · rw [if_neg c10] at H
        have c10b0 : decide (80 < (wrap64 ((wrap64 (Go.bits .and .u8 (Go.bits .and .u8 a0 a1) 240)) + (wrap64 (Go.bits .and .u8 (Go.bits .and .u8 a0 a1) 16))))) = false := decide_eq_false c10
        clear c10
        replace H := Option.bind_eq_some_iff.mp H
        obtain ⟨t192, A120, H⟩ := H
        replace H : (some (Go.bits .or .u8 (Go.bits .and .u8 (Go.bits .or .u8 ((Go.bits .and .u8 a0 a1) / 2) (((Go.bits .and .u8 a2 1) * 128) % 256)) 240) (Go.bits .and .u8 (((Go.bits .or .u8 ((Go.bits .and .u8 a0 a1) / 2) (((Go.bits .and .u8 a2 1) * 128) % 256)) + 6) % 256) 15), t192)) = some (r1, r2) := H
        have A12 := Aside0.mk A120
        clear A120
        simp only [Option.some.injEq, Prod.mk.injEq] at H
        obtain ⟨rfl, rfl⟩ := H
        go_enter Try.func31, Try.ntmps31
        go_wp2_with (first | ((with_reducible refine gate_callee (f := 25) rfl ?_); refine goesL_ (some 24) rfl rfl Try.func25 (by kernel_rfl) rfl #[.int .u8 (Go.bits .or .u8 ((Go.bits .and .u8 a0 a1) / 2) (((Go.bits .and .u8 a2 1) * 128) % 256)), .int .u8 a2] rfl (by (try simp only [List.map_toArray, List.map_cons, List.map_nil]); first | done | rfl | (simp only [List.length_drop, List.length_take]; rfl)) ?_; (with_reducible refine (alu_Nz.calls (Go.bits .or .u8 ((Go.bits .and .u8 a0 a1) / 2) (((Go.bits .and .u8 a2 1) * 128) % 256)) a2 t187 _ A4.out).mono ?_); rintro e w' ⟨rfl, ⟨nd, rfl⟩⟩; refine ⟨_, rfl, ?_⟩) | ((with_reducible refine gate_callee (f := 36) rfl ?_); refine goesL_ (some 48) rfl rfl Try.func36 (by kernel_rfl) rfl #[.int .u8 t187, .int .u8 64, .bool ((Go.bits .and .u8 (Go.bits .xor .u8 (Go.bits .and .u8 a0 a1) (Go.bits .or .u8 ((Go.bits .and .u8 a0 a1) / 2) (((Go.bits .and .u8 a2 1) * 128) % 256))) 64) != 0)] rfl (by (try simp only [List.map_toArray, List.map_cons, List.map_nil]); first | done | rfl | (simp only [List.length_drop, List.length_take]; rfl)) ?_; (with_reducible refine (alu_put.calls t187 64 ((Go.bits .and .u8 (Go.bits .xor .u8 (Go.bits .and .u8 a0 a1) (Go.bits .or .u8 ((Go.bits .and .u8 a0 a1) / 2) (((Go.bits .and .u8 a2 1) * 128) % 256))) 64) != 0) t190 _ A8.out).mono ?_); rintro e w' ⟨rfl, ⟨nd, rfl⟩⟩; refine ⟨_, rfl, ?_⟩) | ((with_reducible refine gate_callee (f := 36) rfl ?_); refine goesL_ (some 78) rfl rfl Try.func36 (by kernel_rfl) rfl #[.int .u8 t190, .int .u8 1, .bool false] rfl (by (try simp only [List.map_toArray, List.map_cons, List.map_nil]); first | done | rfl | (simp only [List.length_drop, List.length_take]; rfl)) ?_; (with_reducible refine (alu_put.calls t190 1 false t192 _ A12.out).mono ?_); rintro e w' ⟨rfl, ⟨nd, rfl⟩⟩; refine ⟨_, rfl, ?_⟩))
        go_ret2
        exact ⟨by first | rfl | (simp; done) | (simp [*]; done) | (simp; simp (disch := omega) only [Go.u8_and15, Int.emod_emod_of_dvd _ (show (16 : Int) ∣ 256 by decide)]), by repeat (first | exact Drawn0.refl _ | apply Drawn0.step)⟩
    · rw [if_neg c9] at H
      have c9b0 : decide (5 < (wrap64 ((wrap64 (Go.bits .and .u8 (Go.bits .and .u8 a0 a1) 15)) + (wrap64 (Go.bits .and .u8 (Go.bits .and .u8 a0 a1) 1))))) = false := decide_eq_false c9
      clear c9
      by_cases c13 : (wrap64 ((wrap64 (Go.bits .and .u8 (Go.bits .and .u8 a0 a1) 240)) + (wrap64 (Go.bits .and .u8 (Go.bits .and .u8 a0 a1) 16)))) > 80
      · rw [if_pos c13] at H
        have c13b0 : decide (80 < (wrap64 ((wrap64 (Go.bits .and .u8 (Go.bits .and .u8 a0 a1) 240)) + (wrap64 (Go.bits .and .u8 (Go.bits .and .u8 a0 a1) 16))))) = true := decide_eq_true c13
        clear c13
        replace H := Option.bind_eq_some_iff.mp H
        obtain ⟨t193, A140, H⟩ := H
        replace H : (some (((Go.bits .or .u8 ((Go.bits .and .u8 a0 a1) / 2) (((Go.bits .and .u8 a2 1) * 128) % 256)) + 96) % 256, t193)) = some (r1, r2) := H
        have A14 := Aside0.mk A140
        clear A140
        simp only [Option.some.injEq, Prod.mk.injEq] at H
        obtain ⟨rfl, rfl⟩ := H
        go_enter Try.func31, Try.ntmps31
        go_wp2_with (first | ((with_reducible refine gate_callee (f := 25) rfl ?_); refine goesL_ (some 24) rfl rfl Try.func25 (by kernel_rfl) rfl #[.int .u8 (Go.bits .or .u8 ((Go.bits .and .u8 a0 a1) / 2) (((Go.bits .and .u8 a2 1) * 128) % 256)), .int .u8 a2] rfl (by (try simp only [List.map_toArray, List.map_cons, List.map_nil]); first | done | rfl | (simp only [List.length_drop, List.length_take]; rfl)) ?_; (with_reducible refine (alu_Nz.calls (Go.bits .or .u8 ((Go.bits .and .u8 a0 a1) / 2) (((Go.bits .and .u8 a2 1) * 128) % 256)) a2 t187 _ A4.out).mono ?_); rintro e w' ⟨rfl, ⟨nd, rfl⟩⟩; refine ⟨_, rfl, ?_⟩) | ((with_reducible refine gate_callee (f := 36) rfl ?_); refine goesL_ (some 48) rfl rfl Try.func36 (by kernel_rfl) rfl #[.int .u8 t187, .int .u8 64, .bool ((Go.bits .and .u8 (Go.bits .xor .u8 (Go.bits .and .u8 a0 a1) (Go.bits .or .u8 ((Go.bits .and .u8 a0 a1) / 2) (((Go.bits .and .u8 a2 1) * 128) % 256))) 64) != 0)] rfl (by (try simp only [List.map_toArray, List.map_cons, List.map_nil]); first | done | rfl | (simp only [List.length_drop, List.length_take]; rfl)) ?_; (with_reducible refine (alu_put.calls t187 64 ((Go.bits .and .u8 (Go.bits .xor .u8 (Go.bits .and .u8 a0 a1) (Go.bits .or .u8 ((Go.bits .and .u8 a0 a1) / 2) (((Go.bits .and .u8 a2 1) * 128) % 256))) 64) != 0) t190 _ A8.out).mono ?_); rintro e w' ⟨rfl, ⟨nd, rfl⟩⟩; refine ⟨_, rfl, ?_⟩) | ((with_reducible refine gate_callee (f := 36) rfl ?_); refine goesL_ (some 78) rfl rfl Try.func36 (by kernel_rfl) rfl #[.int .u8 t190, .int .u8 1, .bool true] rfl (by (try simp only [List.map_toArray, List.map_cons, List.map_nil]); first | done | rfl | (simp only [List.length_drop, List.length_take]; rfl)) ?_; (with_reducible refine (alu_put.calls t190 1 true t193 _ A14.out).mono ?_); rintro e w' ⟨rfl, ⟨nd, rfl⟩⟩; refine ⟨_, rfl, ?_⟩))
        go_ret2
        exact ⟨by first | rfl | (simp; done) | (simp [*]; done) | (simp; simp (disch := omega) only [Go.u8_and15, Int.emod_emod_of_dvd _ (show (16 : Int) ∣ 256 by decide)]), by repeat (first | exact Drawn0.refl _ | apply Drawn0.step)⟩
      · rw [if_neg c13] at H
        have c13b0 : decide (80 < (wrap64 ((wrap64 (Go.bits .and .u8 (Go.bits .and .u8 a0 a1) 240)) + (wrap64 (Go.bits .and .u8 (Go.bits .and .u8 a0 a1) 16))))) = false := decide_eq_false c13
        clear c13
        replace H := Option.bind_eq_some_iff.mp H
        obtain ⟨t194, A150, H⟩ := H
        replace H : (some (Go.bits .or .u8 ((Go.bits .and .u8 a0 a1) / 2) (((Go.bits .and .u8 a2 1) * 128) % 256), t194)) = some (r1, r2) := H
        have A15 := Aside0.mk A150
        clear A150
        simp only [Option.some.injEq, Prod.mk.injEq] at H
        obtain ⟨rfl, rfl⟩ := H
        go_enter Try.func31, Try.ntmps31
        go_wp2_with (first | ((with_reducible refine gate_callee (f := 25) rfl ?_); refine goesL_ (some 24) rfl rfl Try.func25 (by kernel_rfl) rfl #[.int .u8 (Go.bits .or .u8 ((Go.bits .and .u8 a0 a1) / 2) (((Go.bits .and .u8 a2 1) * 128) % 256)), .int .u8 a2] rfl (by (try simp only [List.map_toArray, List.map_cons, List.map_nil]); first | done | rfl | (simp only [List.length_drop, List.length_take]; rfl)) ?_; (with_reducible refine (alu_Nz.calls (Go.bits .or .u8 ((Go.bits .and .u8 a0 a1) / 2) (((Go.bits .and .u8 a2 1) * 128) % 256)) a2 t187 _ A4.out).mono ?_); rintro e w' ⟨rfl, ⟨nd, rfl⟩⟩; refine ⟨_, rfl, ?_⟩) | ((with_reducible refine gate_callee (f := 36) rfl ?_); refine goesL_ (some 48) rfl rfl Try.func36 (by kernel_rfl) rfl #[.int .u8 t187, .int .u8 64, .bool ((Go.bits .and .u8 (Go.bits .xor .u8 (Go.bits .and .u8 a0 a1) (Go.bits .or .u8 ((Go.bits .and .u8 a0 a1) / 2) (((Go.bits .and .u8 a2 1) * 128) % 256))) 64) != 0)] rfl (by (try simp only [List.map_toArray, List.map_cons, List.map_nil]); first | done | rfl | (simp only [List.length_drop, List.length_take]; rfl)) ?_; (with_reducible refine (alu_put.calls t187 64 ((Go.bits .and .u8 (Go.bits .xor .u8 (Go.bits .and .u8 a0 a1) (Go.bits .or .u8 ((Go.bits .and .u8 a0 a1) / 2) (((Go.bits .and .u8 a2 1) * 128) % 256))) 64) != 0) t190 _ A8.out).mono ?_); rintro e w' ⟨rfl, ⟨nd, rfl⟩⟩; refine ⟨_, rfl, ?_⟩) | ((with_reducible refine gate_callee (f := 36) rfl ?_); refine goesL_ (some 78) rfl rfl Try.func36 (by kernel_rfl) rfl #[.int .u8 t190, .int .u8 1, .bool false] rfl (by (try simp only [List.map_toArray, List.map_cons, List.map_nil]); first | done | rfl | (simp only [List.length_drop, List.length_take]; rfl)) ?_; (with_reducible refine (alu_put.calls t190 1 false t194 _ A15.out).mono ?_); rintro e w' ⟨rfl, ⟨nd, rfl⟩⟩; refine ⟨_, rfl, ?_⟩))
        go_ret2
        exact ⟨by first | rfl | (simp; done) | (simp [*]; done) | (simp; simp (disch := omega) only [Go.u8_and15, Int.emod_emod_of_dvd _ (show (16 : Int) ∣ 256 by decide)]), by repeat (first | exact Drawn0.refl _ | apply Drawn0.step)⟩

/-! ### tandemref3_bit: function 42 -/
def tandemref3_bit.l0 : Nat → Int → Int → Int → Option (Bool)
  | 0, _, _, _ => none
  | k + 1, x0, x1, x5 => if x5 < x1 then (tandemref3_bit.l0 k (wrap64 (Int.tdiv x0 2)) x1 (wrap64 (x5 + 1))) else (some ((Int.tmod x0 2) == 1))
def tandemref3_bit.f (k : Nat) (a0 : Int) (a1 : Int) : Option (Bool) := tandemref3_bit.l0 k a0 a1 0
theorem tandemref3_bit.mono_l : ∀ k, (∀ y0 y1 y2, LeO (tandemref3_bit.l0 k y0 y1 y2) (tandemref3_bit.l0 (k + 1) y0 y1 y2))
  | 0 => fun _ _ _ r h => by simp [tandemref3_bit.l0] at h
  | k + 1 => by
    have ih0 := tandemref3_bit.mono_l k
    · intro y0 y1 y2
      unfold tandemref3_bit.l0
      repeat' first
      | (with_reducible exact ih0 _ _ _)
      | (with_reducible exact LeO.refl _)
      | (with_reducible exact LeO.none _)
      | (with_reducible refine LeO.ite ?_ ?_)
      | (with_reducible refine LeO.bind ?_ (fun _ => ?_))
      | exact ih0 _ _ _
      | exact LeO.none _
      | refine LeO.ite ?_ ?_
      | refine LeO.bind ?_ (fun _ => ?_)
theorem tandemref3_bit.mono : ∀ a0 a1 k, LeO (tandemref3_bit.f k a0 a1) (tandemref3_bit.f (k + 1) a0 a1) := by
  intro a0 a1 k
  have ih0 := tandemref3_bit.mono_l k
  unfold tandemref3_bit.f
  repeat' first
      | (with_reducible exact ih0 _ _ _)
      | (with_reducible exact LeO.refl _)
      | (with_reducible exact LeO.none _)
      | (with_reducible refine LeO.ite ?_ ?_)
      | (with_reducible refine LeO.bind ?_ (fun _ => ?_))
      | exact ih0 _ _ _
      | exact LeO.none _
      | refine LeO.ite ?_ ?_
      | refine LeO.bind ?_ (fun _ => ?_)
set_option maxHeartbeats 8000000 in
set_option maxRecDepth 100000 in
theorem tandemref3_bit.calls (k : Nat) (a0 : Int) (a1 : Int) (r : Bool) (w : World) (h : tandemref3_bit.f k a0 a1 = some r) :
    Calls Try.prog 42 #[.int .i64 a0, .int .i64 a1] w fun e w' => e = .returned (.bool r) ∧ Drawn0 w w' := by
  have H : (tandemref3_bit.l0 k a0 a1 0) = some r := h
  clear h
  have H' := Aside0.mk H
  clear H
  go_enter Try.func42, Try.ntmps42
  go_wp2
  go_loopg [0, 5] k (fun kq v0 v5 w' => ∃ (x0_1 : Int) (x5_1 : Int), v0 = .int .i64 x0_1 ∧ v5 = .int .i64 x5_1 ∧ Aside0 (tandemref3_bit.l0 kq x0_1 a1 x5_1 = some r) ∧ Aside0 (kq ≤ k) ∧ Drawn0 w w')
  case atStart => exact ⟨(a0), (0), (by first | rfl | (simp; done) | (simp [*]; done)), (by first | rfl | (simp; done) | (simp [*]; done)), H', ⟨Nat.le_refl _⟩, by repeat (first | exact Drawn0.refl _ | apply Drawn0.step)⟩
  case round =>
    clear H'
    try clear p2
    obtain ⟨x0_1, x5_1, rfl, rfl, HA, HK1, ⟨m1, rfl⟩⟩ := hrel
    cases gk with
    | zero => exact absurd HA.out (by simp [tandemref3_bit.l0])
    | succ k1 =>
      have H := HA.out
      clear HA
      simp only [tandemref3_bit.l0] at H
      by_cases c3 : x5_1 < a1
      · rw [if_pos c3] at H
        have c3b0 : decide (x5_1 < a1) = true := decide_eq_true c3
        clear c3
        have H' := Aside0.mk H
        clear H
        go_wp2
        go_roundg k1
        case measure => have := HK1.out; omega
        case rel => exact ⟨(wrap64 (Int.tdiv x0_1 2)), (wrap64 (x5_1 + 1)), (by first | rfl | (simp; done) | (simp [*]; done)), (by first | rfl | (simp; done) | (simp [*]; done)), H', ⟨by have := HK1.out; omega⟩, by repeat (first | exact Drawn0.refl _ | apply Drawn0.step)⟩
      · rw [if_neg c3] at H
        have c3b0 : decide (x5_1 < a1) = false := decide_eq_false c3
        clear c3
        obtain rfl := Option.some.inj H
        go_wp2
        go_ret
        exact ⟨by first | rfl | (simp; done) | (simp [*]; done), by repeat (first | exact Drawn0.refl _ | apply Drawn0.step)⟩

end Go.Proofs.Ytajffjhfecckbaa.XAluParts
