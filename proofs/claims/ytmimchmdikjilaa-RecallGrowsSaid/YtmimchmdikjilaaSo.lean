import Derived.Test.YtmimchmdikjilaaAmq
import Derived.Shelf.SlSortCmp.NoneTotal
namespace Go.AM
set_option linter.unusedVariables false
open Go.Proofs Go.Sort Go.Shelf Go.Lib
/-! ### A sort's contract, from the kit's -/
theorem flatK_list {α : Type} [Inhabited α] (enc : α → List Value) (k : Nat) (hk : ∀ x, (enc x).length = k) : ∀ (l : List α), (flatK enc k l.toArray).toList = l.flatMap enc
  | [] => by simp [flatK]
  | x :: l => by
    have ih := flatK_list enc k hk l
    apply List.ext_getElem?
    intro i
    have hi0 := congrArg (fun z => z[i - k]?) ih
    simp only [flatK, Array.toList_map, Array.toList_range, List.getElem?_map] at hi0 ⊢
    simp only [List.size_toArray, List.length_cons, List.flatMap_cons] at hi0 ⊢
    rcases Nat.lt_or_ge i k with h | h
    · rw [List.getElem?_append_left (by rw [hk]; exact h), List.getElem?_range (by
        have : k ≤ (l.length + 1) * k := Nat.le_mul_of_pos_left k (by omega)
        omega)]
      simp only [Option.map_some, Nat.div_eq_of_lt h, Nat.mod_eq_of_lt h]
      have hx : (enc x)[i]? = some ((enc x)[i]'(by rw [hk]; exact h)) := List.getElem?_eq_getElem _
      rw [hx]
      simp [hk, h]
    · rw [List.getElem?_append_right (by rw [hk]; exact h), hk, ← hi0]
      have hkp : (l.length + 1) * k = l.length * k + k := by rw [Nat.add_mul, Nat.one_mul]
      by_cases hlt : i - k < l.length * k
      · rw [List.getElem?_range (by omega), List.getElem?_range (by omega)]
        have hk0 : 0 < k := by
          rcases Nat.eq_zero_or_pos k with e | e
          · subst e; simp at hlt
          · exact e
        have e1 : i / k = (i - k) / k + 1 := by rw [← Nat.sub_add_cancel h, Nat.add_div_right _ hk0]; simp
        have e2 : i % k = (i - k) % k := by rw [Nat.mod_eq_sub_mod h]
        simp [e1, e2]
      · rw [List.getElem?_eq_none (by simp; omega), List.getElem?_eq_none (by simp; omega)]
        rfl
theorem take_putId (F cur : Array Value) (h : F.size ≤ cur.size) : (putCells id 0 F cur).toList.take F.size = F.toList := by
  apply List.ext_getElem?
  intro j
  by_cases hj : j < F.size
  · rw [List.getElem?_take_of_lt hj, Array.getElem?_toList]
    simp [putCells, hj, show j < cur.size by omega]
  · rw [List.getElem?_take_eq_none (by omega), List.getElem?_eq_none (by simp; omega)]
theorem rdL_enc {α : Type} {R : α → List Value → Prop} {enc : α → List Value} {ok : α → Prop} (h : ∀ x vs, R x vs ↔ vs = enc x ∧ ok x) : ∀ (xs : List α) (vs : List Value), rdL R xs vs ↔ vs = xs.flatMap enc ∧ ∀ x ∈ xs, ok x
  | [], vs => by simp [rdL]
  | x :: xs, vs => by
    simp only [rdL, List.flatMap_cons, List.mem_cons, forall_eq_or_imp]
    constructor
    · rintro ⟨c, vs', rfl, h1, h2⟩
      obtain ⟨rfl, hx⟩ := (h x c).1 h1
      obtain ⟨rfl, hxs⟩ := (rdL_enc h xs vs').1 h2
      exact ⟨rfl, hx, hxs⟩
    · rintro ⟨rfl, hx, hxs⟩
      exact ⟨_, _, rfl, (h x _).2 ⟨rfl, hx⟩, (rdL_enc h xs _).2 ⟨rfl, hxs⟩⟩
theorem holds_id {w : World} {g : Nat} {cur : Array Value} {e : TypeId} {F : Array Value} (hb : w.heap[g]? = some (.cells cur e (0, 0))) (ht : cur.toList.take F.size = F.toList) : Holds id w g 0 F := by
  intro j hj
  refine ⟨?_, by simp [World.frozen?, hb]⟩
  have h1 : (cur.toList.take F.size)[j]? = F.toList[j]? := by rw [ht]
  rw [List.getElem?_take_of_lt hj] at h1
  simp only [World.cell?, hb, Nat.zero_add]
  simp only [Option.isSome_none, Bool.false_eq_true, if_false]
  rw [← Array.getElem?_toList, h1]
  simp [hj]
theorem heap_sortedK {w : World} {g n : Nat} {os : Array Obj} {cur : Array Value} {e : TypeId} {fr : Nat × Nat} (d : Array Value) (hb : w.heap[g]? = some (.cells cur e fr)) :
    (grow (putRow id (Sort.ahead w n) g 0 d) os).heap[g]? = some (.cells (putCells id 0 d cur) e fr) := by
  have hg : g < w.heap.size := (Array.getElem?_eq_some_iff.1 hb).1
  rw [heap_grow_old _ _ (by simpa using hg)]
  simp [putRow, mapBlock, Sort.ahead, Array.getElem?_modify, hb, onCells]
theorem grownBy_sortedK {w : World} {g n : Nat} {os : Array Obj} (d : Array Value) : w.grownBy (grow (putRow id (Sort.ahead w n) g 0 d) os) (some g) := by
  refine ⟨rfl, rfl, rfl, by simp, fun k hk hne => ?_⟩
  rw [heap_grow_old _ _ (by simpa using hk)]
  have : g ≠ k := fun e => hne (by rw [e])
  simp [putRow, mapBlock, Sort.ahead, Array.getElem?_modify, this]
/-- THE SORT OF A SLICE OF FLAT DATA by a total order: core's 'mergeSort'. -/
theorem satS_of {P : Program} {ρ : Ren} (L : SlLaysF0.n6 P ρ) (tid : TypeId) (e : Ty) [Inhabited e.den] (enc : e.den → List Value) (ok : e.den → Prop) (hre : ∀ Ψ x vs, reads Ψ e x vs ↔ vs = enc x ∧ ok x) (k : Nat) (hk : ∀ x, (enc x).length = k) (hce : e.cells = k)
    (h1 : ∀ x, ∀ v ∈ enc x, v.oneCell' = true) (aE : ∀ w, (isAgg (ρ.t 24)).run P w = .ok true w) (zE : ∀ w, (Go.sizeOf (ρ.t 24)).run P w = .ok k w) (cf : e.den → e.den → Int) (hO : SWO (ltOf cf)) (hT : ∀ x y, (ltOf cf) x y = false → (ltOf cf) y x = false → x = y)
    (g : Nat) (eg : ∀ args w, (callFunc g args).run P w = .ok (.enter g args) w)
    (hcmp : ∀ x y W, Calls P g #[.agg (enc x).toArray, .agg (enc y).toArray] W fun e w' => e = .returned (.int .i64 (cf x y)) ∧ ∃ q os', w' = grow (W.drewN q) os') :
    SatS P (ρ.f 6) ⟨tid, e, g, fun xs => xs.mergeSort fun x y => !(ltOf cf) y x⟩ := by
  intro B Ψ w xs v hb hn
  rcases hb with ⟨ad, hβ, rfl⟩ | ⟨gb, cap, cur, hβ, hcap, hB, hh, hle, hmax, hsz, hrd⟩
  · have hv : v = .slice ad 0 0 := by simpa using hβ
    subst hv
    refine (AnyF.slices_SortFunc_none L ad 0 (fnV g) w).mono ?_
    rintro e' w' ⟨rfl, rfl⟩
    exact ⟨rfl, .inl ⟨rfl, List.mergeSort_nil⟩⟩
  · dsimp only at hβ hh hle hmax hsz hrd
    have hv : v = .slice (some ⟨gb, 0, none⟩) xs.length cap := by simpa using hβ
    subst hv
    obtain ⟨hcells, hok⟩ := (rdL_enc (hre Ψ) _ _).1 hrd
    rw [hce] at hcells hsz
    have hF := flatK_list enc k hk xs
    have hFs : (flatK enc k xs.toArray).size = xs.length * k := by simp
    have hHo : HoldsK enc k w gb 0 xs.toArray := holds_id hh (by rw [hFs, hF]; exact hcells)
    have hlt : gb < w.heap.size := (Array.getElem?_eq_some_iff.1 hh).1
    have hc : CmpLays P g #[] enc k cf gb 0 xs.toArray.size w := fun m os dk hdk x y => hcmp x y _
    have := AnyQ.slices_SortFunc_total L k aE zE enc hk h1 cf hO g #[] gb 0 cap xs.toArray w eg hc hHo hlt (by
      simp only [List.size_toArray]; omega) hT
    refine this.mono ?_
    rintro e' w' ⟨rfl, n, os, rfl⟩
    refine ⟨rfl, .inr ⟨gb, ⟨_, _, hcap, hβ⟩, grownBy_sortedK _, ?_⟩⟩
    dsimp only
    generalize hys : (xs.mergeSort fun x y => !(ltOf cf) y x) = ys
    have hlen : ys.length = xs.length := by rw [← hys, List.length_mergeSort]
    have hmem : ∀ y ∈ ys, ok y := fun y hy => hok y (by rw [← hys] at hy; exact List.mem_mergeSort.1 hy)
    have hF' := flatK_list enc k hk ys
    have hFs' : (flatK enc k ys.toArray).size = ys.length * k := by simp
    have hss : xs.length * k ≤ cap * k := Nat.mul_le_mul_right k hle
    refine .inr ⟨gb, cap, _, by rw [hlen]; exact hβ, hcap, hB, heap_sortedK _ hh, by omega, hmax, by rw [hce]; simp [putCells, hsz], ?_⟩
    refine (rdL_enc (hre Ψ) _ _).2 ⟨?_, hmem⟩
    rw [hce, ← hFs', take_putId _ _ (by rw [hFs', hlen, hsz]; exact hss), hF']
end Go.AM
