/- The law's own small functions, taken as they stand. -/
import Derived.Test.YthndmfgmlbdekaaDoorTm16
namespace Go.Proofs.YthndmfgmlbdekaaDoor.Ev
open Go Go.RowKit
set_option linter.unusedVariables false
set_option linter.unusedSimpArgs false
set_option linter.constructorNameAsVariable false
noncomputable def spB : List (Nat × Spec) := (34, inl (Cb.with spA) 1 (fun _ => none) Tryd.f34) :: (26, inl (Cb.with spA) 1 (fun _ => none) Tryd.f26) :: (24, inl (Cb.with spA) 1 (fun _ => none) Tryd.f24) :: spA
theorem goodB : Good (Cb.with spB) :=
  ((goodA.cons Tryd.func24 (by kernel_rfl) (by kernel_rfl) (FnOk.inl goodA.ok goodA.hs goodA.hb Tryd.func24 keep_none)).cons Tryd.func26 (by kernel_rfl) (by kernel_rfl)
    (FnOk.inl goodA.ok goodA.hs goodA.hb Tryd.func26 keep_none)).cons Tryd.func34 (by kernel_rfl) (by kernel_rfl) (FnOk.inl goodA.ok goodA.hs goodA.hb Tryd.func34 keep_none)
noncomputable def spC : List (Nat × Spec) := (27, inl (Cb.with spB) 1 (fun _ => none) Tryd.f27) :: spB
theorem goodC : Good (Cb.with spC) := goodB.cons Tryd.func27 (by kernel_rfl) (by kernel_rfl) (FnOk.inl goodB.ok goodB.hs goodB.hb Tryd.func27 keep_none)
end Go.Proofs.YthndmfgmlbdekaaDoor.Ev
