import Derived.Test.YtighbmlnlmbbkaaProg
import Derived.Tactics
import Derived.Tactics2
import Derived.WalkKit
import Derived.WalkSpells
import Derived.StillTactics
import Derived.Laws.Pointers
import Derived.LoopN
import Derived.Handy
import Derived.Deep.RegionHeld3
import Derived.Lib.Small
import Derived.Lib.Walk
import Derived.Sort.Grow
import Derived.Deep.Draws
import Derived.Deep.DrawnRows
import Derived.Shelf.SlSortCmp.WholeK
import Derived.KernelRfl
namespace Go.Proofs
open Go.Sort Go.Lib
/-! ### The walk of the order's closure (kit) -/
theorem KYtighbmlnlmbbkaa.isNaN (x : Int) (w : World) : Calls Try.prog 65 #[.int .i64 x] w fun e w' => e = .returned (.bool false) ∧ w' = w := by
  go_enter Try.func65, Try.ntmps65
  go_wp2
  go_ret
  exact ⟨by simp, rfl⟩
set_option maxHeartbeats 1000000 in
theorem KYtighbmlnlmbbkaa.compare (x y : Int) (w : World) : Calls Try.prog 52 #[.int .i64 x, .int .i64 y] w fun e w' => e = .returned (.int .i64 (Lib.compareInt x y)) ∧ w' = w := by
  go_enter Try.func52, Try.ntmps52
  go_wp2_with (go_at_call 65; refine (KYtighbmlnlmbbkaa.isNaN _ _).mono ?_; rintro e w' ⟨rfl, hw⟩; rw [hw])
  all_goals (go_ret; refine ⟨?_, rfl⟩; unfold Lib.compareInt; (repeat' split) <;> first | rfl | (exfalso; omega))
/-- The first of three that is not 0. -/
def KYtighbmlnlmbbkaa.or3 (a b c : Int) : Int := if a ≠ 0 then a else if b ≠ 0 then b else c
set_option maxHeartbeats 2000000 in
theorem KYtighbmlnlmbbkaa.or (g : Nat) (a b c : Int) (w : World) (h0 : w.cell? ⟨g, 0, none⟩ = some (.int .i64 a)) (h1 : w.cell? ⟨g, 1, none⟩ = some (.int .i64 b)) (h2 : w.cell? ⟨g, 2, none⟩ = some (.int .i64 c)) :
    Calls Try.prog 51 #[.slice (some ⟨g, 0, none⟩) 3 3] w fun e w' => e = .returned (.int .i64 (KYtighbmlnlmbbkaa.or3 a b c)) ∧ w' = w := by
  go_enter Try.func51, Try.ntmps51
  go_wp2
  go_rounds 4
  all_goals try (go_ret; refine ⟨?_, rfl⟩; simp_all [KYtighbmlnlmbbkaa.or3])
theorem KYtighbmlnlmbbkaa.cellNew (W : World) (cs : Array Value) (e : TypeId) (g i : Nat) (v : Value) (hg : g = W.heap.size) (h : cs[i]? = some v) : ((W.alloc (.cells cs e)).drew).cell? ⟨g, i, none⟩ = some v := by
  subst hg
  have hh : ((W.alloc (.cells cs e)).drew).heap = W.heap.push (.cells cs e) := rfl
  simp [World.cell?, hh, h]
/-- What the order of hits says. -/
def KYtighbmlnlmbbkaa.cmpV (a b : Int × Int × Int) : Int := KYtighbmlnlmbbkaa.or3 (Lib.compareInt a.2.2 b.2.2) (Lib.compareInt a.1 b.1) (Lib.compareInt a.2.1 b.2.1)
attribute [local go_sem ↓] Go.wp_at_zero Go.wp_at_succ
set_option maxHeartbeats 4000000 in
theorem KYtighbmlnlmbbkaa.hits (a b : Int × Int × Int) (w : World) :
    Calls Try.prog 50 #[.agg #[.int .i64 a.1, .int .i64 a.2.1, .int .i64 a.2.2], .agg #[.int .i64 b.1, .int .i64 b.2.1, .int .i64 b.2.2]] w fun e w' => e = .returned (.int .i64 (KYtighbmlnlmbbkaa.cmpV a b)) ∧ ∃ q os', w' = grow (w.drewN q) os' := by
  obtain ⟨a0, a1, a2⟩ := a
  obtain ⟨b0, b1, b2⟩ := b
  have hcmp := KYtighbmlnlmbbkaa.compare
  have hor := KYtighbmlnlmbbkaa.or
  unfold KYtighbmlnlmbbkaa.cmpV
  dsimp only
  generalize Lib.compareInt = cf at hcmp ⊢
  go_enter Try.func50, Try.ntmps50
  go_wp2
  go_region_held3 (fun w' => w'.cell? ⟨w.heap.size, 0, none⟩ = some (.int .i64 a0) ∧ w'.cell? ⟨w.heap.size, 1, none⟩ = some (.int .i64 a1) ∧ w'.cell? ⟨w.heap.size, 2, none⟩ = some (.int .i64 a2) ∧
      w'.cell? ⟨w.heap.size + 1, 0, none⟩ = some (.int .i64 b0) ∧ w'.cell? ⟨w.heap.size + 1, 1, none⟩ = some (.int .i64 b1) ∧ w'.cell? ⟨w.heap.size + 1, 2, none⟩ = some (.int .i64 b2)) (go_keep)
    (first
      | (go_at_call 52; refine (hcmp _ _ _).mono ?_; rintro e w' ⟨rfl, rfl⟩)
      | (go_at_call 51; refine (hor _ _ _ _ _ (KYtighbmlnlmbbkaa.cellNew _ _ _ _ _ _ (by simp) rfl) (KYtighbmlnlmbbkaa.cellNew _ _ _ _ _ _ (by simp) rfl) (KYtighbmlnlmbbkaa.cellNew _ _ _ _ _ _ (by simp) rfl)).mono ?_; rintro e w' ⟨rfl, rfl⟩))
  go_wp2
  go_ret
  exact ⟨rfl, 1, _, by rw [alloc_eq_grow, alloc_eq_grow, alloc_eq_grow, grow_grow, grow_grow]; rfl⟩
#print axioms KYtighbmlnlmbbkaa.hits
end Go.Proofs
