import Derived.Test.YtmimchmdikjilaaProg
import Derived.Tactics
import Derived.Tactics2
import Derived.WalkKit
import Derived.WalkSpells
import Derived.StillTactics
import Derived.Laws.Pointers
import Derived.LoopN
import Derived.Handy
import Derived.Deep.RegionHeld3
import Derived.Lib.Small
import Derived.Lib.Walk
import Derived.Sort.Grow
import Derived.Deep.Draws
import Derived.Deep.DrawnRows
import Derived.Shelf.SlSortCmp.WholeK
import Derived.KernelRfl
namespace Go.Proofs
open Go.Sort Go.Lib
/-! ### The walk of the order's closure (kit) -/
theorem KYtmimchmdikjilaa.isNaN (x : Int) (w : World) : Calls Try.prog 68 #[.int .i64 x] w fun e w' => e = .returned (.bool false) ∧ w' = w := by
  go_enter Try.func68, Try.ntmps68
  go_wp2
  go_ret
  exact ⟨by simp, rfl⟩
set_option maxHeartbeats 1000000 in
theorem KYtmimchmdikjilaa.compare (x y : Int) (w : World) : Calls Try.prog 57 #[.int .i64 x, .int .i64 y] w fun e w' => e = .returned (.int .i64 (Lib.compareInt x y)) ∧ w' = w := by
  go_enter Try.func57, Try.ntmps57
  go_wp2_with (go_at_call 68; refine (KYtmimchmdikjilaa.isNaN _ _).mono ?_; rintro e w' ⟨rfl, hw⟩; rw [hw])
  all_goals (go_ret; refine ⟨?_, rfl⟩; unfold Lib.compareInt; (repeat' split) <;> first | rfl | (exfalso; omega))
/-- The first of three that is not 0. -/
def KYtmimchmdikjilaa.or3 (a b c : Int) : Int := if a ≠ 0 then a else if b ≠ 0 then b else c
set_option maxHeartbeats 2000000 in
theorem KYtmimchmdikjilaa.or (g : Nat) (a b c : Int) (w : World) (h0 : w.cell? ⟨g, 0, none⟩ = some (.int .i64 a)) (h1 : w.cell? ⟨g, 1, none⟩ = some (.int .i64 b)) (h2 : w.cell? ⟨g, 2, none⟩ = some (.int .i64 c)) :
    Calls Try.prog 56 #[.slice (some ⟨g, 0, none⟩) 3 3] w fun e w' => e = .returned (.int .i64 (KYtmimchmdikjilaa.or3 a b c)) ∧ w' = w := by
  go_enter Try.func56, Try.ntmps56
  go_wp2
  go_rounds 4
  all_goals try (go_ret; refine ⟨?_, rfl⟩; simp_all [KYtmimchmdikjilaa.or3])
theorem KYtmimchmdikjilaa.cellNew (W : World) (cs : Array Value) (e : TypeId) (g i : Nat) (v : Value) (hg : g = W.heap.size) (h : cs[i]? = some v) : ((W.alloc (.cells cs e)).drew).cell? ⟨g, i, none⟩ = some v := by
  subst hg
  have hh : ((W.alloc (.cells cs e)).drew).heap = W.heap.push (.cells cs e) := rfl
  simp [World.cell?, hh, h]
/-- What the order of hits says. -/
def KYtmimchmdikjilaa.cmpV (a b : Int × Int × Int) : Int := KYtmimchmdikjilaa.or3 (Lib.compareInt a.2.2 b.2.2) (Lib.compareInt a.1 b.1) (Lib.compareInt a.2.1 b.2.1)
attribute [local go_sem ↓] Go.wp_at_zero Go.wp_at_succ
set_option maxHeartbeats 4000000 in
theorem KYtmimchmdikjilaa.hits (a b : Int × Int × Int) (w : World) :
    Calls Try.prog 65 #[.agg #[.int .i64 a.1, .int .i64 a.2.1, .int .i64 a.2.2], .agg #[.int .i64 b.1, .int .i64 b.2.1, .int .i64 b.2.2]] w fun e w' => e = .returned (.int .i64 (KYtmimchmdikjilaa.cmpV a b)) ∧ ∃ q os', w' = grow (w.drewN q) os' := by
  obtain ⟨a0, a1, a2⟩ := a
  obtain ⟨b0, b1, b2⟩ := b
  have hcmp := KYtmimchmdikjilaa.compare
  have hor := KYtmimchmdikjilaa.or
  unfold KYtmimchmdikjilaa.cmpV
  dsimp only
  generalize Lib.compareInt = cf at hcmp ⊢
  go_enter Try.func65, Try.ntmps65
  go_wp2
  go_region_held3 (fun w' => w'.cell? ⟨w.heap.size, 0, none⟩ = some (.int .i64 a0) ∧ w'.cell? ⟨w.heap.size, 1, none⟩ = some (.int .i64 a1) ∧ w'.cell? ⟨w.heap.size, 2, none⟩ = some (.int .i64 a2) ∧
      w'.cell? ⟨w.heap.size + 1, 0, none⟩ = some (.int .i64 b0) ∧ w'.cell? ⟨w.heap.size + 1, 1, none⟩ = some (.int .i64 b1) ∧ w'.cell? ⟨w.heap.size + 1, 2, none⟩ = some (.int .i64 b2)) (go_keep)
    (first
      | (go_at_call 57; refine (hcmp _ _ _).mono ?_; rintro e w' ⟨rfl, rfl⟩)
      | (go_at_call 56; refine (hor _ _ _ _ _ (KYtmimchmdikjilaa.cellNew _ _ _ _ _ _ (by simp) rfl) (KYtmimchmdikjilaa.cellNew _ _ _ _ _ _ (by simp) rfl) (KYtmimchmdikjilaa.cellNew _ _ _ _ _ _ (by simp) rfl)).mono ?_; rintro e w' ⟨rfl, rfl⟩))
  go_wp2
  go_ret
  exact ⟨rfl, 1, _, by rw [alloc_eq_grow, alloc_eq_grow, alloc_eq_grow, grow_grow, grow_grow]; rfl⟩
#print axioms KYtmimchmdikjilaa.hits
end Go.Proofs
