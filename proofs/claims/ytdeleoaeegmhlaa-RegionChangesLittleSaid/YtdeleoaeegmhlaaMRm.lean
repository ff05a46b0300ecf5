import Derived.Test.YtdeleoaeegmhlaaMRb
import Derived.Test.YtdeleoaeegmhlaaMRk
import Derived.Test.YtdeleoaeegmhlaaMSl
import Derived.Shelf.SlSortCmp.NoneTotal
namespace Go.AM
set_option linter.unusedVariables false
open Go.Proofs Go.Sort Go.Shelf Go.Lib Go.PL
/-! ### A sort of numbers by what a map says: from the kit's -/
theorem rdLI (Ψ : Pr) : ∀ (xs : List Int) (vs : List Value), rdL (reads Ψ (.int .i64)) xs vs ↔ vs = xs.map (Value.int .i64) ∧ ∀ x ∈ xs, IntKind.i64.has x
  | [], vs => by simp [rdL]
  | x :: xs, vs => by
    simp only [rdL, List.map_cons, List.mem_cons, forall_eq_or_imp]
    constructor
    · rintro ⟨c, vs', rfl, ⟨rfl, h1⟩, h2⟩
      obtain ⟨rfl, hxs⟩ := (rdLI Ψ xs vs').1 h2
      exact ⟨rfl, h1, hxs⟩
    · rintro ⟨rfl, hx, hxs⟩
      exact ⟨_, _, rfl, ⟨rfl, hx⟩, (rdLI Ψ xs _).2 ⟨rfl, hxs⟩⟩
theorem holds_ints {w : World} {g : Nat} {cur : Array Value} {e : TypeId} {xs : List Int} (hb : w.heap[g]? = some (.cells cur e (0, 0))) (ht : cur.toList.take xs.length = xs.map (Value.int .i64)) : Holds (Value.int .i64) w g 0 xs.toArray := by
  intro j hj
  refine ⟨?_, by simp [World.frozen?, hb]⟩
  have hj : j < xs.length := by simpa using hj
  have h1 : (cur.toList.take xs.length)[j]? = (xs.map (Value.int .i64))[j]? := by rw [ht]
  rw [List.getElem?_take_of_lt hj, List.getElem?_map, List.getElem?_eq_getElem hj] at h1
  simp only [World.cell?, hb, Nat.zero_add]
  simp only [Option.isSome_none, Bool.false_eq_true, if_false]
  rw [← Array.getElem?_toList, h1]
  simp [hj]
theorem heap_sorted1 {w : World} {g n : Nat} {os : Array Obj} {cur : Array Value} {e : TypeId} {fr : Nat × Nat} (d : Array Int) (hb : w.heap[g]? = some (.cells cur e fr)) :
    (sortWorld (Value.int .i64) w g 0 n d os).heap[g]? = some (.cells (putCells (Value.int .i64) 0 d cur) e fr) := by
  have hg : g < w.heap.size := (Array.getElem?_eq_some_iff.1 hb).1
  unfold sortWorld
  rw [heap_grow_old _ _ (by simpa using hg)]
  simp [putRow, mapBlock, Sort.ahead, Array.getElem?_modify, hb, onCells]
theorem heap_other1 {w : World} {g n k : Nat} {os : Array Obj} (d : Array Int) (hne : k ≠ g) (hk : k < w.heap.size) : (sortWorld (Value.int .i64) w g 0 n d os).heap[k]? = w.heap[k]? := by
  unfold sortWorld
  rw [heap_grow_old _ _ (by simpa using hk)]
  simp [putRow, mapBlock, Sort.ahead, Array.getElem?_modify, Ne.symm hne]
theorem grownBy_sorted1 {w : World} {g n : Nat} {os : Array Obj} (d : Array Int) : w.grownBy (sortWorld (Value.int .i64) w g 0 n d os) (some g) := by
  refine ⟨rfl, rfl, rfl, by simp [sortWorld], fun k hk hne => ?_⟩
  have : k ≠ g := fun e => hne (by rw [e])
  exact heap_other1 d this hk
theorem take_put1 (xs : List Int) (cur : Array Value) (h : xs.length ≤ cur.size) : (putCells (Value.int .i64) 0 xs.toArray cur).toList.take xs.length = xs.map (Value.int .i64) := by
  apply List.ext_getElem?
  intro j
  by_cases hj : j < xs.length
  · rw [List.getElem?_take_of_lt hj, Array.getElem?_toList, List.getElem?_map, List.getElem?_eq_getElem hj]
    simp [putCells, hj, show j < cur.size by omega]
  · rw [List.getElem?_take_eq_none (by omega), List.getElem?_eq_none (by simp; omega)]
end Go.AM
namespace Go.Proofs.Ytdeleoaeegmhlaa
open Go.AM Go.PL Go.Sort Go.Shelf
set_option linter.unusedVariables false
theorem cmpI_eq (a b : Int) : Lib.compareInt a b = sgnI a b := by
  unfold Lib.compareInt sgnI
  (repeat' split) <;> first | rfl | omega
theorem cmpV_eq (mm : List (Int × Int)) (a b : Int) : KYtdeleoaeegmhlaa.cmpV (PL.keyOf mm) a b = cmpK mm a b := by
  unfold KYtdeleoaeegmhlaa.cmpV KYtdeleoaeegmhlaa.or2 cmpK
  rw [cmpI_eq, cmpI_eq]
theorem ltK_iff {mm : List (Int × Int)} {a b : Int} : ltOf (cmpK mm) a b = true ↔ PL.keyOf mm a < PL.keyOf mm b ∨ (PL.keyOf mm a = PL.keyOf mm b ∧ a < b) := by
  unfold ltOf cmpK sgnI
  simp only [decide_eq_true_eq]
  (repeat' split) <;> omega
theorem swoK (mm : List (Int × Int)) : SWO (ltOf (cmpK mm)) where
  irrefl x := by
    cases h : ltOf (cmpK mm) x x
    · rfl
    · have := ltK_iff.1 h; omega
  trans x y z h1 h2 := by
    have h1 := ltK_iff.1 h1
    have h2 := ltK_iff.1 h2
    exact ltK_iff.2 (by omega)
  ntrans x y z h1 h2 := by
    cases h : ltOf (cmpK mm) x z
    · rfl
    · have h1 : ¬ _ := fun q => Bool.noConfusion (h1.symm.trans (ltK_iff.2 q))
      have h2 : ¬ _ := fun q => Bool.noConfusion (h2.symm.trans (ltK_iff.2 q))
      have := ltK_iff.1 h
      omega
theorem totK (mm : List (Int × Int)) (x y : Int) (h1 : ltOf (cmpK mm) x y = false) (h2 : ltOf (cmpK mm) y x = false) : x = y := by
  have h1 : ¬ _ := fun q => Bool.noConfusion (h1.symm.trans (ltK_iff.2 q))
  have h2 : ¬ _ := fun q => Bool.noConfusion (h2.symm.trans (ltK_iff.2 q))
  omega
theorem merge_sortK (mm : List (Int × Int)) (xs : List Int) : xs.mergeSort (fun x y => !(ltOf (cmpK mm)) y x) = sortK mm xs := by
  have hle : ∀ x y, (!(ltOf (cmpK mm)) y x) = leK mm x y := fun x y => by
    apply Bool.eq_iff_iff.2
    rw [leK_iff, Bool.not_eq_true', ← Bool.not_eq_true, ltK_iff]
    omega
  have e : (fun x y => !(ltOf (cmpK mm)) y x) = fun x y => leK mm x y := funext fun x => funext fun y => hle x y
  rw [e]
  refine sorted_uniq mm ((List.mergeSort_perm _ _).trans (sortK_perm mm xs).symm) ?_ (sortK_sorted mm xs)
  exact List.pairwise_mergeSort (le := fun x y => leK mm x y) (fun a b c h1 h2 => leK_trans h1 h2) (fun a b => by
    simp only [Bool.or_eq_true]
    exact leK_total mm a b) xs
theorem zeroI : Ctx.zero (mkctx bs [] [] hintP0) 3 = some (.d (.int .i64) (0 : Int)) := by kernel_rfl
theorem mapI : intMap (mkctx bs [] [] hintP0) 82 = some 3 := by kernel_rfl
theorem satM_sort : SatM bs.P 53 sortKSp := by
  intro B Ψ w xs mm v gc gm cl ec ms hb hn hc hm hmr hne
  have eg : ∀ args w, (callFunc 54 args).run bs.P w = .ok (.enter 54 args) w := enters_of Try.func54 (by kernel_rfl) rfl
  rcases hb with ⟨ad, hβ, rfl⟩ | ⟨gb, cap, cur, hβ, hcap, hB, hh, hle, hmax, hsz, hrd⟩
  · have hv : v = .slice ad 0 0 := by simpa using hβ
    subst hv
    refine (AnyF.slices_SortFunc_none (P := bs.P) { Try.sortInts with } ad 0 _ w).mono ?_
    rintro e' w' ⟨rfl, rfl⟩
    exact ⟨rfl, .inl ⟨rfl, rfl⟩⟩
  · dsimp only [sortKSp] at hβ hh hle hmax hsz hrd
    have hv : v = .slice (some ⟨gb, 0, none⟩) xs.length cap := by simpa using hβ
    subst hv
    obtain ⟨hcells, hok⟩ := (rdLI Ψ _ _).1 hrd
    have e1 : (Ty.int IntKind.i64).cells = 1 := rfl
    rw [e1, Nat.mul_one] at hcells hsz
    have hHo := holds_ints hh hcells
    have hlt : gb < w.heap.size := (Array.getElem?_eq_some_iff.1 hh).1
    have hgb : gc ≠ gb := fun e => hne gb ⟨_, _, hcap, hβ⟩ e.symm
    have hgcl : gc < w.heap.size := (Array.getElem?_eq_some_iff.1 hc).1
    have hgml : gm < w.heap.size := (Array.getElem?_eq_some_iff.1 hm).1
    have hgmb : gm ≠ gb := fun e => by rw [e, hh] at hm; cases hm
    have hcmp : CmpLays1 bs.P 54 #[.pointer (some ⟨gc, 0, none⟩)] (Value.int .i64) (cmpK mm) gb 0 xs.toArray.size w := by
      intro m os dk hdk x y
      have hc' : (sortWorld (Value.int .i64) w gb 0 m dk os).heap[gc]? = some (.cells #[.map (some gm)] ec (0, 0)) := (heap_other1 dk hgb hgcl).trans hc
      have hm' : (sortWorld (Value.int .i64) w gb 0 m dk os).heap[gm]? = some (.map ms cl) := (heap_other1 dk hgmb hgml).trans hm
      have := KYtdeleoaeegmhlaa.route (PL.keyOf mm) x y gc gm (sortWorld (Value.int .i64) w gb 0 m dk os) (by simp [World.cell?, hc']) (fun n => lookup_run (C := mkctx bs [] [] hintP0) mapI zeroI hm' hmr)
      rw [cmpV_eq] at this
      exact this
    have := Any.slices_SortFunc_total (P := bs.P) Try.sortInts (Value.int .i64) (fun _ => rfl) (cmpK mm) (swoK mm) 54 #[.pointer (some ⟨gc, 0, none⟩)] gb 0 cap xs.toArray w eg hcmp hHo hlt (by
      simp only [List.size_toArray]; omega) (totK mm)
    refine this.mono ?_
    rintro e' w' ⟨rfl, n, os, rfl⟩
    rw [show xs.toArray.toList = xs from rfl, merge_sortK]
    refine ⟨rfl, .inr ⟨gb, ⟨_, _, hcap, hβ⟩, grownBy_sorted1 _, ?_⟩⟩
    have hlen : (sortK mm xs).length = xs.length := (sortK_perm mm xs).length_eq
    have hmem : ∀ y ∈ sortK mm xs, IntKind.i64.has y := fun y hy => hok y ((sortK_perm mm xs).mem_iff.1 hy)
    refine .inr ⟨gb, cap, _, ?_, hcap, hB, heap_sorted1 _ hh, ?_, hmax, ?_, ?_⟩
    · show ([Value.slice (some ⟨gb, 0, none⟩) xs.length cap] : List Value)[0]? = some (.slice (some ⟨gb, 0, none⟩) (sortK mm xs).length cap)
      rw [hlen]
      rfl
    · show (sortK mm xs).length ≤ cap
      omega
    · rw [e1, Nat.mul_one]
      simpa [putCells] using hsz
    · refine (rdLI Ψ _ _).2 ⟨?_, hmem⟩
      show ((putCells (Value.int .i64) 0 (sortK mm xs).toArray cur).toList.take ((sortK mm xs).length * 1)) = _
      rw [Nat.mul_one]
      exact take_put1 _ _ (by omega)
end Go.Proofs.Ytdeleoaeegmhlaa
