import Derived.Test.YtdeleoaeegmhlaaMUp
import Derived.Tactics
import Derived.Tactics2
import Derived.WalkKit
import Derived.WalkSpells
import Derived.StillTactics
import Derived.Laws.Pointers
import Derived.LoopN
import Derived.Handy
import Derived.Lib.Small
import Derived.Lib.Walk
import Derived.Sort.Grow
import Derived.Deep.Draws
import Derived.Shelf.SlSortCmp.Kit1
import Derived.KernelRfl
namespace Go.AM
set_option linter.unusedVariables false
open Go.RowKit Go.MapKept
theorem lookup_run {C : Ctx} {Ψ : Pr} {t : TypeId} {w : World} {gm cl : Nat} {ms : Array MapEntry} {mm : List (Int × Int)} {n : Int} (him : intMap C t = some (3)) (hz : C.zero 3 = some (.d (.int .i64) (0 : Int))) (hh : w.heap[gm]? = some (.map ms cl)) (hmr : mapR Ψ (.int .i64) mm ms.toList) :
    (Instr.lookup t (.map (some gm)) (.int .i64 n) false).run C.P w = .ok (.int .i64 ((mget mm n).getD 0)) w := by
  obtain ⟨kt, hu, hku⟩ := intMap_spec him
  obtain ⟨ti, zv, hti, htz, hzz⟩ := zero_spec hz
  have hzv : zv = .int .i64 0 := by
    have := ofV_rel (Ψ := fun _ => none) (β := []) zv
    rw [← hzz] at this
    exact (rv_int.1 this).1
  subst hzv
  rcases findNow_d (e := .int .i64) n mm ms.toList 0 hmr with ⟨h1, h2, h3⟩ | ⟨j, y, u, h1, h2, h3, h4, h5, h6⟩
  · rw [h1]
    simp [Instr.lookup, run_underlying hu, MapKept.run_getObj_map hh, run_checkKey hku (k := .int .i64 n) rfl, run_findKey hku h2, zeroValue, typeInfo, hti, htz, Result.andThen]
  · rw [h1]
    have hv : u.val = .int .i64 y := ((rv_int (Ψ := Ψ) (β := ([] : List Value))).1 h5).1
    simp [Instr.lookup, run_underlying hu, MapKept.run_getObj_map hh, run_checkKey hku (k := .int .i64 n) rfl, run_findKey hku h2, Result.andThen, hv]
end Go.AM
namespace Go.Proofs
open Go.Sort Go.Lib
/-! ### The walk of Route's order (kit) -/
theorem KYtdeleoaeegmhlaa.isNaN (x : Int) (w : World) : Calls Try.prog 77 #[.int .i64 x] w fun e w' => e = .returned (.bool false) ∧ w' = w := by
  go_enter Try.func77, Try.ntmps77
  go_wp2
  go_ret
  exact ⟨by simp, rfl⟩
set_option maxHeartbeats 1000000 in
theorem KYtdeleoaeegmhlaa.compare (x y : Int) (w : World) : Calls Try.prog 56 #[.int .i64 x, .int .i64 y] w fun e w' => e = .returned (.int .i64 (Lib.compareInt x y)) ∧ w' = w := by
  go_enter Try.func56, Try.ntmps56
  go_wp2_with (go_at_call 77; refine (KYtdeleoaeegmhlaa.isNaN _ _).mono ?_; rintro e w' ⟨rfl, hw⟩; rw [hw])
  all_goals (go_ret; refine ⟨?_, rfl⟩; unfold Lib.compareInt; (repeat' split) <;> first | rfl | (exfalso; omega))
/-- The first of two that is not 0. -/
def KYtdeleoaeegmhlaa.or2 (a b : Int) : Int := if a ≠ 0 then a else b
set_option maxHeartbeats 2000000 in
theorem KYtdeleoaeegmhlaa.or (g : Nat) (a b : Int) (w : World) (h0 : w.cell? ⟨g, 0, none⟩ = some (.int .i64 a)) (h1 : w.cell? ⟨g, 1, none⟩ = some (.int .i64 b)) :
    Calls Try.prog 55 #[.slice (some ⟨g, 0, none⟩) 2 2] w fun e w' => e = .returned (.int .i64 (KYtdeleoaeegmhlaa.or2 a b)) ∧ w' = w := by
  go_enter Try.func55, Try.ntmps55
  go_wp2
  go_rounds 3
  all_goals try (go_ret; refine ⟨?_, rfl⟩; simp_all [KYtdeleoaeegmhlaa.or2])
theorem KYtdeleoaeegmhlaa.cellNew (W : World) (cs : Array Value) (e : TypeId) (g i : Nat) (v : Value) (hg : g = W.heap.size) (h : cs[i]? = some v) : (W.alloc (.cells cs e)).cell? ⟨g, i, none⟩ = some v := by
  subst hg
  have hh : (W.alloc (.cells cs e)).heap = W.heap.push (.cells cs e) := rfl
  simp [World.cell?, hh, h]
/-- What the order of places says. -/
def KYtdeleoaeegmhlaa.cmpV (key : Int → Int) (a b : Int) : Int := KYtdeleoaeegmhlaa.or2 (Lib.compareInt (key a) (key b)) (Lib.compareInt a b)
set_option maxHeartbeats 4000000 in
theorem KYtdeleoaeegmhlaa.route (key : Int → Int) (a b : Int) (gc gm : Nat) (w : World) (hc : w.cell? ⟨gc, 0, none⟩ = some (.map (some gm)))
    (hl : ∀ n, (Instr.lookup 82 (.map (some gm)) (.int .i64 n) false).run Try.prog w = .ok (.int .i64 (key n)) w) :
    Calls Try.prog 54 #[.int .i64 a, .int .i64 b, .pointer (some ⟨gc, 0, none⟩)] w fun e w' => e = .returned (.int .i64 (KYtdeleoaeegmhlaa.cmpV key a b)) ∧ ∃ q os', w' = grow (w.drewN q) os' := by
  have hcmp := KYtdeleoaeegmhlaa.compare
  have hor := KYtdeleoaeegmhlaa.or
  unfold KYtdeleoaeegmhlaa.cmpV
  generalize Lib.compareInt = cf at hcmp ⊢
  go_enter Try.func54, Try.ntmps54
  go_wp2_with (first
    | (go_at_call 56; refine (hcmp _ _ _).mono ?_; rintro e w' ⟨rfl, hw⟩; rw [hw])
    | (go_at_call 55; refine (hor _ _ _ _ (KYtdeleoaeegmhlaa.cellNew _ _ _ _ _ _ (by simp) rfl) (KYtdeleoaeegmhlaa.cellNew _ _ _ _ _ _ (by simp) rfl)).mono ?_; rintro e w' ⟨rfl, hw⟩; rw [hw]))
  go_ret
  exact ⟨rfl, 0, _, by rw [alloc_eq_grow]; rfl⟩
end Go.Proofs
