import Derived.Test.YtighbmlnlmbbkaaWd
--@drop
namespace Go.PL
open Go.AM

def listI {α : Type} (one : α → List Int) (l : List α) (x : List Int × Int) : Prop := 0 ≤ x.2 ∧ x.2 ≤ l.length ∧ encList one l = x.1 ++ (l.drop x.2.toNat).flatMap one
theorem listI_zero {α : Type} (one : α → List Int) (l : List α) : listI one l (encI l.length, 0) := ⟨Int.le_refl _, by simp, by simp [encList]⟩
theorem listI_step {α : Type} {one : α → List Int} {l : List α} {x : List Int × Int} (d : α) (h : listI one l x) (hc : x.2 < l.length) :
    listI one l (x.1 ++ one (l.getD x.2.toNat d), x.2 + 1) ∧ x.1.length + (one (l.getD x.2.toNat d)).length ≤ (encList one l).length := by
  obtain ⟨h0, h1, h2⟩ := h
  rw [drop_step l d h0 hc, List.flatMap_cons] at h2
  refine ⟨⟨by dsimp only; omega, by dsimp only; omega, by rw [h2, List.append_assoc]⟩, ?_⟩
  rw [h2]
  simp only [List.length_append]
  omega
theorem listI_end {α : Type} {one : α → List Int} {l : List α} {x : List Int × Int} (h : listI one l x) (hc : ¬ x.2 < l.length) : x.1 = encList one l := by
  obtain ⟨h0, h1, h2⟩ := h
  rw [drop_end l hc] at h2
  simpa using h2.symm

theorem encI_len (n : Int) : 1 ≤ (encI n).length ∧ (encI n).length ≤ 10 := digits_len 9 (zz n)
theorem flat_len {α : Type} {one : α → List Int} {k : Nat} : ∀ (l : List α), (∀ x ∈ l, (one x).length ≤ k) → (l.flatMap one).length ≤ k * l.length
  | [], _ => by simp
  | x :: l, h => by
    have h1 := flat_len l (fun y hy => h y (by simp [hy]))
    have h2 := h x (by simp)
    simp only [List.flatMap_cons, List.length_append, List.length_cons]
    rw [Nat.mul_add]
    omega

/-- Two lists, place for place. -/
def sameI {α : Type} (a b : List α) (i : Int) : Prop := 0 ≤ i ∧ i ≤ a.length ∧ (a = b ↔ a.drop i.toNat = b.drop i.toNat)
theorem sameI_step {α : Type} {a b : List α} (hl : a.length = b.length) {i : Int} (d : α) (h : sameI a b i) (hc : i < a.length) (he : a.getD i.toNat d = b.getD i.toNat d) : sameI a b (i + 1) := by
  obtain ⟨h0, h1, h2⟩ := h
  rw [drop_step a d h0 hc, drop_step b d h0 (by omega), he, List.cons.injEq] at h2
  exact ⟨by omega, by omega, by simpa using h2⟩
theorem sameI_ne {α : Type} {a b : List α} {i : Int} (d : α) (he : ¬ a.getD i.toNat d = b.getD i.toNat d) : ¬ a = b := fun e => he (by rw [e])
theorem sameI_end {α : Type} {a b : List α} (hl : a.length = b.length) {i : Int} (h : sameI a b i) (hc : ¬ i < a.length) : a = b := by
  obtain ⟨h0, h1, h2⟩ := h
  rw [drop_end a hc, drop_end b (by omega)] at h2
  exact h2.2 rfl
end Go.PL
namespace Go.Proofs.Ytighbmlnlmbbkaa
open Go.AM Go.PL
set_option linter.unusedVariables false

theorem satX0 : AllSat bs.P [(63, intG.data), (64, intG.data)] := ⟨sat_int.toData, sat_rInt.toData, trivial⟩
theorem satX0G : AllSatG bs.P [(63, intG), (64, intG)] := ⟨sat_int, sat_rInt, trivial⟩
theorem ssX0 : SpecSound X0 := mkctx_sound satX0 satX0G
theorem ints_room {l : List Int} (h : small2 l) : (encList encI l).length ≤ 10000000 := by
  unfold small2 at h
  have h1 := flat_len (one := encI) (k := 10) l (fun x _ => (encI_len x).2)
  have h2 := encI_len (l.length : Int)
  unfold encList
  rw [List.length_append]
  omega

theorem sat_ints : Sat Try.prog 48 intsSp := by
  refine fnwp_sat (C := X0) ssX0 5 48 intsSp fun (l : List Int) hk hp => ?_
  rw [ints_nf]
  have hr := ints_room hp
  have hp : l.length ≤ 100000 := hp
  simp only [decide_eq_true_eq, decide_eq_false_iff_not, i64_iff]
  refine ⟨trivial, listI encI l, fun x => ((l.length : Int) - x.2).toNat, listI_zero _ _, fun x hI => ⟨fun hc => ?_, fun hc => listI_end hI hc⟩⟩
  obtain ⟨h1, h2⟩ := listI_step 0 hI hc
  have h0 := hI.1
  exact ⟨⟨h0, hc⟩, trivial, roomU bytesU (by omega), by omega, h1, by dsimp only; omega⟩
theorem sat_rInts : Sat Try.prog 49 intsSp := by
  refine fnwp_sat (C := X0) ssX0 5 49 intsSp fun (l : List Int) hk hp => ?_
  rw [rInts_nf]
  have hr := ints_room hp
  have hp : l.length ≤ 100000 := hp
  simp only [decide_eq_true_eq, decide_eq_false_iff_not, i64_iff]
  refine ⟨trivial, listI encI l, fun x => ((l.length : Int) - x.2).toNat, listI_zero _ _, fun x hI => ⟨fun hc => ?_, fun hc => listI_end hI hc⟩⟩
  obtain ⟨h1, h2⟩ := listI_step 0 hI hc
  have h0 := hI.1
  exact ⟨⟨h0, hc⟩, trivial, roomU bytesU (by omega), by omega, h1, by dsimp only; omega⟩

theorem digests_room {l : List (List Int)} (h : small2 l) (h16 : ∀ x ∈ l, x.length = 16) : (encList (fun x : List Int => x) l).length ≤ 10000000 := by
  unfold small2 at h
  have h1 := flat_len (one := fun x : List Int => x) (k := 16) l (fun x hx => by rw [h16 x hx]; omega)
  have h2 := encI_len (l.length : Int)
  unfold encList
  rw [List.length_append]
  omega
end Go.Proofs.Ytighbmlnlmbbkaa
