/- The program's divider, by its table: what the walks lean on; the table's cells are a premise (Tab), which the card's tie pays. -/
import Derived.Test.YthndmfgmlbdekaaDoorOwn
import Derived.Test.YthndmfgmlbdekaaDoorProg
import Derived.Laws.BitsAllLaws
import Derived.Outline
namespace Go.Proofs.YthndmfgmlbdekaaDoor.Ext
open Go Go.RowKit Go.Proofs.YthndmfgmlbdekaaDoorW.PrintWords Go.Proofs.YthndmfgmlbdekaaDoorW.PrintLast Go.Proofs.YthndmfgmlbdekaaDoorW.PrintMore
set_option linter.unusedVariables false
/-- The table of the dividers lies in block 0 as its initialiser laid it. -/
def Tab (w : World) : Prop := ∃ t fr, w.heap[0]? = some (.cells #[.int .u64 1, .int .u64 8, .int .u64 64, .int .u64 256] t fr)
theorem Tab.below {w w1 : World} (h : Tab w) (hb : Below w.heap.size w w1) : Tab w1 := by
  obtain ⟨t, fr, h⟩ := h; exact ⟨t, fr, blk_below h hb⟩
theorem Tab.cell {w : World} (h : Tab w) : 0 < w.heap.size ∧ w.cell? ⟨0, 0, none⟩ = some (.int .u64 1) ∧ w.cell? ⟨0, 1, none⟩ = some (.int .u64 8) ∧ w.cell? ⟨0, 2, none⟩ = some (.int .u64 64) ∧ w.cell? ⟨0, 3, none⟩ = some (.int .u64 256) := by
  obtain ⟨t, fr, h⟩ := h
  exact ⟨blk_lt h, (cell_of_row w 0 0 _ t fr h).trans rfl, (cell_of_row w 0 1 _ t fr h).trans rfl, (cell_of_row w 0 2 _ t fr h).trans rfl, (cell_of_row w 0 3 _ t fr h).trans rfl⟩
def dv (c : Int) : Int := if c / 8 % 4 = 0 then 1 else if c / 8 % 4 = 1 then 8 else if c / 8 % 4 = 2 then 64 else 256
def timer_divider.f (a0_0 a0_1 a0_2 a0_3 a0_4 : Int) (a0_5 a0_6 a0_7 a0_8 a0_9 : Bool) (a0_10 a0_11 a0_12 : Int) : Option Int := if 0 ≤ a0_4 ∧ a0_4 < 256 then some (dv a0_4) else none
theorem mask3 {x : Int} (h0 : 0 ≤ x) (h1 : x < 256) : bits .and .u8 (x / 8) 3 = x / 8 % 4 := by
  have h : ∀ n : Nat, n < 256 → bits .and .u8 ((n : Int) / 8) 3 = (n : Int) / 8 % 4 := by decide +kernel
  obtain ⟨n, rfl⟩ := Int.eq_ofNat_of_zero_le h0
  exact h n (by omega)
set_option maxHeartbeats 1000000 in
theorem timer_divider.calls (a0_0 a0_1 a0_2 a0_3 a0_4 : Int) (a0_5 a0_6 a0_7 a0_8 a0_9 : Bool) (a0_10 a0_11 a0_12 r : Int) (w : World) (h : timer_divider.f a0_0 a0_1 a0_2 a0_3 a0_4 a0_5 a0_6 a0_7 a0_8 a0_9 a0_10 a0_11 a0_12 = some r) (HT : Aside0 (Tab w)) :
    Calls Tryd.prog 37 #[.agg #[.int .u16 a0_0, .int .u16 a0_1, .int .u16 a0_2, .int .u8 a0_3, .int .u8 a0_4, .bool a0_5, .bool a0_6, .bool a0_7, .bool a0_8, .bool a0_9, .int .u16 a0_10, .int .u8 a0_11, .int .u8 a0_12]] w fun e w' => e = .returned (.int .u64 r) ∧ Below w.heap.size w w' := by
  obtain ⟨hz, h0, h1, h2, h3⟩ := HT.out.cell
  clear HT
  unfold timer_divider.f at h
  by_cases hb : 0 ≤ a0_4 ∧ a0_4 < 256
  · rw [if_pos hb] at h
    have hr := Option.some.inj h
    clear h
    have hm := mask3 hb.1 hb.2
    unfold dv at hr
    have hc : a0_4 / 8 % 4 = 0 ∨ a0_4 / 8 % 4 = 1 ∨ a0_4 / 8 % 4 = 2 ∨ a0_4 / 8 % 4 = 3 := by omega
    rcases hc with hc | hc | hc | hc
    all_goals
      rw [hc] at hr hm
      simp at hr
      subst hr
      clear hc hb
      go_enter Tryd.func37, Tryd.ntmps37
      go_wp2
      go_ret
      exact ⟨rfl, (Below.refl _ _).alloc (Nat.le_refl _) _⟩
  · rw [if_neg hb] at h; cases h
end Go.Proofs.YthndmfgmlbdekaaDoor.Ext
