/- The document's Advance: cycle by cycle. -/
import Derived.Test.YthndmfgmlbdekaaDoorTm19
namespace Go.Proofs.YthndmfgmlbdekaaDoor.Ev
open Go Go.RowKit
set_option linter.unusedVariables false
set_option linter.unusedSimpArgs false
set_option linter.constructorNameAsVariable false
def keepA : Nat → Option (List Nat) | 0 => some [1, 2, 4, 5] | _ => none
theorem keepA_ok : KeepOk keepA := by
  intro b ds h x hx
  unfold keepA at h
  split at h
  · cases h; simp at hx; omega
  · cases h
noncomputable def bodyA : Code := loopOf (blkOf (seqR (seqL (seqR (codeOf Tryd.f22)))))
noncomputable def restA : Code := seqR (seqR (codeOf Tryd.f22))
def stA (c : Clk) (n i : Int) : St :=
  ⟨T.set depth (T.set depth (T.set depth (T.set depth .e 5 (some (0, vint .i64 (.lit i)))) 4 (some (0, .v (.l (.ptr 4 (.lit 0)))))) 2 (some (0, .v (.l (.ptr 3 (.lit 0)))))) 1 (some (0, vint .i64 (.sym n))),
    T.set depth (T.set depth H0 3 (some ⟨true, .row (stamp 0 (clkLs c))⟩)) 4 (some ⟨true, .row (stamp 0 clk00)⟩), 5, 0⟩
noncomputable def tA (k : Nat) (c : Clk) (n i : Int) : Tree Out := evC (Cb.with spE) 14 k keepA 0 bodyA (stA c n i)
noncomputable def sBA (k : Nat) (c : Clk) (n i : Int) : St := outSt (lft (lft (tA k c n i)))
noncomputable def sXA (k : Nat) (c : Clk) (n i : Int) : St := outSt (rgt (tA k c n i))
theorem tA_eq (k : Nat) (c : Clk) (n i : Int) : tA k c n i = .node (decide (i < n)) (.node (K.okC c) (.leaf (.nrm, sBA k c n i)) .bad) (.leaf (.ex 0, sXA k c n i)) := by kernel_rfl
theorem sBA_eq (k : Nat) (c : Clk) (n i : Int) : headSt (keepA 0) (sBA k c n i) = stA (K.adv c 1) n (IntKind.i64.wrap (i + 1)) := by kernel_rfl
noncomputable def endA (o : Out) : Tree (V × St) := match o.1 with
  | .ex _ => .bad
  | _ => (evRes (Cb.with spE) o.2 Tryd.f22.results.toList).bind fun xs => .leaf (pack xs, o.2)
noncomputable def tailA (k : Nat) (c : Clk) (n i : Int) : Tree (V × St) := (evC (Cb.with spE) 14 k keepA 0 restA (sXA k c n i)).bind endA
noncomputable def sAA (k : Nat) (c : Clk) (n : Int) : St := outSt ((evC (Cb.with spE) 14 k keepA 0 (seqL (codeOf Tryd.f22)) ⟨argEnv 0 [clkV c, vint .i64 (.sym n)] .e, H0, 3, 0⟩).bind fun o => evC (Cb.with spE) 14 k keepA 0 (seqL (seqL (seqR (codeOf Tryd.f22)))) o.2)
theorem ev22 (k : Nat) (c : Clk) (n : Int) : evFn (Cb.with spE) k keepA Tryd.f22 Cb.H0 3 [clkV c, vint .i64 (.sym n)] =
    (seqO (unblock 0 (evLoop k (headSt (keepA 0)) (evC (Cb.with spE) 14 k keepA 0 bodyA) (sAA k c n))) (evC (Cb.with spE) 14 k keepA 0 restA)).bind endA := by kernel_rfl
theorem sAA_eq (k : Nat) (c : Clk) (n : Int) : headSt (keepA 0) (sAA k c n) = stA c n 0 := by kernel_rfl
theorem tailA_eq (k : Nat) (c : Clk) (n i : Int) : vals (tailA k c n i) = .leaf (clkV c) := by kernel_rfl
theorem loopA_get (k : Nat) : ∀ (m j : Nat) (c : Clk) (n i : Int) (s : St), K.okC c = true → 0 ≤ i → i + m = (if n < i then i else n) → n < 9223372036854775807 → i < 9223372036854775807 → m < j → headSt (keepA 0) s = stA c n i →
    ∃ i', (evLoop j (headSt (keepA 0)) (evC (Cb.with spE) 14 k keepA 0 bodyA) s).get = some (.ex 0, sXA k (K.adv c m) n i')
  | _, 0, _, _, _, _, _, _, _, _, _, h, _ => by omega
  | 0, j + 1, c, n, i, s, hc, h0, hm, hn, hi, hj, hs => by
    refine ⟨i, ?_⟩
    show (seqO (evC (Cb.with spE) 14 k keepA 0 bodyA (headSt (keepA 0) s)) (evLoop j (headSt (keepA 0)) (evC (Cb.with spE) 14 k keepA 0 bodyA))).get = _
    rw [hs]
    have e := tA_eq k c n i
    have hlt : ¬ i < n := by split at hm <;> omega
    rw [decide_eq_false hlt] at e
    have g : (tA k c n i).get = some (.ex 0, sXA k c n i) := by rw [e]; rfl
    rw [adv_low (show ((0 : Nat) : Int) < 1 by omega)]
    exact seqO_ex g (by simp)
  | m + 1, j + 1, c, n, i, s, hc, h0, hm, hn, hi, hj, hs => by
    show ∃ i', (seqO (evC (Cb.with spE) 14 k keepA 0 bodyA (headSt (keepA 0) s)) (evLoop j (headSt (keepA 0)) (evC (Cb.with spE) 14 k keepA 0 bodyA))).get = _
    rw [hs]
    have e := tA_eq k c n i
    have hlt : i < n := by split at hm <;> omega
    rw [if_neg (by omega)] at hm
    rw [decide_eq_true hlt, hc] at e
    have g : (tA k c n i).get = some (.nrm, sBA k c n i) := by rw [e]; rfl
    obtain ⟨i', h⟩ := loopA_get k m j (K.adv c 1) n (i + 1) (sBA k c n i) (okC_adv hc) (by omega) (by rw [if_neg (by omega)]; omega) hn (by omega) (by omega) (by rw [sBA_eq, wi64 (by omega) (by omega)])
    refine ⟨i', (seqO_of g).trans (h.trans ?_)⟩
    rw [adv_add hc (by omega) (by omega), show (1 : Int) + (m : Int) = ((m + 1 : Nat) : Int) by omega]
def okR (c : Clk) (n : Int) : Bool := K.okC c && decide (n < 70000)
theorem ok22 : FnOk (Cb.with spE) 22 (onT (t2 .i64 okR fun c n => clkV (K.adv c n))) := FnOk.t2 goodE gsNodup Tryd.func22 (fun _ _ _ _ => rfl) 70001 keepA_ok fun c n hc => by
  unfold okR at hc
  rw [Bool.and_eq_true, decide_eq_true_eq] at hc
  obtain ⟨hc, hn⟩ := hc
  refine ⟨clkV (K.adv c n), ?_, fun _ => rfl⟩
  show (vals (evFn (Cb.with spE) 70001 keepA Tryd.f22 Cb.H0 3 [clkV c, vint .i64 (.sym n)])).get = _
  rw [ev22]
  obtain ⟨i', h⟩ := loopA_get 70001 n.toNat 70001 c n 0 (sAA 70001 c n) hc (by omega) (by split <;> omega) (by omega) (by omega) (by omega) (sAA_eq 70001 c n)
  have hu := unblock_of (id := 0) h
  have ht := tailA_eq 70001 (K.adv c n.toNat) n i'
  have ea : K.adv c n.toNat = K.adv c n := by
    by_cases h0 : n < 1
    · rw [adv_low h0, adv_low (by omega)]
    · rw [show ((n.toNat : Nat) : Int) = n by omega]
  rw [ea] at hu ht
  have hg : (vals (tailA 70001 (K.adv c n) n i')).get = some (clkV (K.adv c n)) := by rw [ht]; rfl
  rw [← hg]
  unfold vals tailA
  exact bind_congr (bind_congr (seqO_of hu))
end Go.Proofs.YthndmfgmlbdekaaDoor.Ev
