import Derived.Test.YtgneefndofeoaaaWd
--@drop
namespace Go.PL
open Go.AM

def listI {α : Type} (one : α → List Int) (l : List α) (x : List Int × Int) : Prop := 0 ≤ x.2 ∧ x.2 ≤ l.length ∧ encList one l = x.1 ++ (l.drop x.2.toNat).flatMap one
theorem listI_zero {α : Type} (one : α → List Int) (l : List α) : listI one l (encI l.length, 0) := ⟨Int.le_refl _, by simp, by simp [encList]⟩
theorem listI_step {α : Type} {one : α → List Int} {l : List α} {x : List Int × Int} (d : α) (h : listI one l x) (hc : x.2 < l.length) :
    listI one l (x.1 ++ one (l.getD x.2.toNat d), x.2 + 1) ∧ x.1.length + (one (l.getD x.2.toNat d)).length ≤ (encList one l).length := by
  obtain ⟨h0, h1, h2⟩ := h
  rw [drop_step l d h0 hc, List.flatMap_cons] at h2
  refine ⟨⟨by dsimp only; omega, by dsimp only; omega, by rw [h2, List.append_assoc]⟩, ?_⟩
  rw [h2]
  simp only [List.length_append]
  omega
theorem listI_end {α : Type} {one : α → List Int} {l : List α} {x : List Int × Int} (h : listI one l x) (hc : ¬ x.2 < l.length) : x.1 = encList one l := by
  obtain ⟨h0, h1, h2⟩ := h
  rw [drop_end l hc] at h2
  simpa using h2.symm

theorem encI_len (n : Int) : 1 ≤ (encI n).length ∧ (encI n).length ≤ 10 := digits_len 9 (zz n)
theorem flat_len {α : Type} {one : α → List Int} {k : Nat} : ∀ (l : List α), (∀ x ∈ l, (one x).length ≤ k) → (l.flatMap one).length ≤ k * l.length
  | [], _ => by simp
  | x :: l, h => by
    have h1 := flat_len l (fun y hy => h y (by simp [hy]))
    have h2 := h x (by simp)
    simp only [List.flatMap_cons, List.length_append, List.length_cons]
    rw [Nat.mul_add]
    omega

/-- Two lists, place for place. -/
def sameI {α : Type} (a b : List α) (i : Int) : Prop := 0 ≤ i ∧ i ≤ a.length ∧ (a = b ↔ a.drop i.toNat = b.drop i.toNat)
theorem sameI_step {α : Type} {a b : List α} (hl : a.length = b.length) {i : Int} (d : α) (h : sameI a b i) (hc : i < a.length) (he : a.getD i.toNat d = b.getD i.toNat d) : sameI a b (i + 1) := by
  obtain ⟨h0, h1, h2⟩ := h
  rw [drop_step a d h0 hc, drop_step b d h0 (by omega), he, List.cons.injEq] at h2
  exact ⟨by omega, by omega, by simpa using h2⟩
theorem sameI_ne {α : Type} {a b : List α} {i : Int} (d : α) (he : ¬ a.getD i.toNat d = b.getD i.toNat d) : ¬ a = b := fun e => he (by rw [e])
theorem sameI_end {α : Type} {a b : List α} (hl : a.length = b.length) {i : Int} (h : sameI a b i) (hc : ¬ i < a.length) : a = b := by
  obtain ⟨h0, h1, h2⟩ := h
  rw [drop_end a hc, drop_end b (by omega)] at h2
  exact h2.2 rfl
end Go.PL
namespace Go.Proofs.Ytgneefndofeoaaa
open Go.AM Go.PL
set_option linter.unusedVariables false

theorem satX0 : AllSat bs.P [(14, intG.data), (15, intG.data)] := ⟨sat_int.toData, sat_rInt.toData, trivial⟩
theorem satX0G : AllSatG bs.P [(14, intG), (15, intG)] := ⟨sat_int, sat_rInt, trivial⟩
theorem ssX0 : SpecSound X0 := mkctx_sound satX0 satX0G
theorem sat_bytes : SatG Try.prog 16 bytesG := by
  refine fnwpG_sat (C := X0) ssX0 5 16 bytesG fun (s : List Int) hk hp => Eq.mpr (bytes_nf s) ?_
  refine ⟨trivial, ?_, rfl⟩
  have hl : s.length ≤ 100000 := hp
  have := encI_len (s.length : Int)
  exact roomU bytesU (by omega)
theorem sat_rBytes : SatG Try.prog 17 bytesG := by
  refine fnwpG_sat (C := X0) ssX0 5 17 bytesG fun (s : List Int) hk hp => Eq.mpr (rBytes_nf s) ?_
  refine ⟨trivial, ?_, rfl⟩
  have hl : s.length ≤ 100000 := hp
  have := encI_len (s.length : Int)
  exact roomU bytesU (by omega)

theorem sat_digest : Sat Try.prog 41 digestSp := by
  refine fnwp_sat (C := X0) ssX0 5 41 digestSp fun (x : List Int) hk hp => Eq.mpr (digest_nf x) ?_
  have hp : x.length = 16 := hp
  exact fun b hb => ⟨fun h => (hb h).symm, fun _ => ⟨roomU bytesU (by omega), rfl⟩⟩

theorem ints_room {l : List Int} (h : small2 l) : (encList encI l).length ≤ 10000000 := by
  unfold small2 at h
  have h1 := flat_len (one := encI) (k := 10) l (fun x _ => (encI_len x).2)
  have h2 := encI_len (l.length : Int)
  unfold encList
  rw [List.length_append]
  omega

theorem sat_ints : Sat Try.prog 18 intsSp := by
  refine fnwp_sat (C := X0) ssX0 5 18 intsSp fun (l : List Int) hk hp => Eq.mpr (ints_nf l) ?_
  have hr := ints_room hp
  have hp : l.length ≤ 100000 := hp
  simp only [decide_eq_true_eq, decide_eq_false_iff_not, i64_iff]
  refine ⟨trivial, listI encI l, fun x => ((l.length : Int) - x.2).toNat, listI_zero _ _, fun x hI => ⟨fun hc => ?_, fun hc => listI_end hI hc⟩⟩
  obtain ⟨h1, h2⟩ := listI_step 0 hI hc
  have h0 := hI.1
  exact ⟨⟨h0, hc⟩, trivial, roomU bytesU (by omega), by omega, h1, by dsimp only; omega⟩
theorem sat_rInts : Sat Try.prog 19 intsSp := by
  refine fnwp_sat (C := X0) ssX0 5 19 intsSp fun (l : List Int) hk hp => Eq.mpr (rInts_nf l) ?_
  have hr := ints_room hp
  have hp : l.length ≤ 100000 := hp
  simp only [decide_eq_true_eq, decide_eq_false_iff_not, i64_iff]
  refine ⟨trivial, listI encI l, fun x => ((l.length : Int) - x.2).toNat, listI_zero _ _, fun x hI => ⟨fun hc => ?_, fun hc => listI_end hI hc⟩⟩
  obtain ⟨h1, h2⟩ := listI_step 0 hI hc
  have h0 := hI.1
  exact ⟨⟨h0, hc⟩, trivial, roomU bytesU (by omega), by omega, h1, by dsimp only; omega⟩

theorem digests_room {l : List (List Int)} (h : small2 l) (h16 : ∀ x ∈ l, x.length = 16) : (encList (fun x : List Int => x) l).length ≤ 10000000 := by
  unfold small2 at h
  have h1 := flat_len (one := fun x : List Int => x) (k := 16) l (fun x hx => by rw [h16 x hx]; omega)
  have h2 := encI_len (l.length : Int)
  unfold encList
  rw [List.length_append]
  omega
theorem sat_rDigests : Sat Try.prog 23 digestsSp := by
  refine fnwp_sat (C := X0) ssX0 5 23 digestsSp fun (l : List (List Int)) hk hp => Eq.mpr (rDigests_nf l) ?_
  have h16 : ∀ x ∈ l, x.length = 16 := fun x hx => (hk.2 x hx).1
  have hr := digests_room hp h16
  have hp : l.length ≤ 100000 := hp
  simp only [decide_eq_true_eq, decide_eq_false_iff_not, i64_iff]
  refine ⟨trivial, listI (fun x : List Int => x) l, fun x => ((l.length : Int) - x.2).toNat, listI_zero _ _, fun x hI => ⟨fun hc => ?_, fun hc => listI_end hI hc⟩⟩
  obtain ⟨h1, h2⟩ := listI_step (List.replicate 16 0) hI hc
  have h0 := hI.1
  exact ⟨⟨h0, hc⟩, roomU bytesU (by omega), by omega, h1, by dsimp only; omega⟩

theorem sat_same : Sat Try.prog 13 sameSp :=
  fnwp_sat (C := X0) ssX0 5 13 sameSp fun (⟨a, b⟩ : List Int × List Int) _ _ => Eq.mpr (same_nf a b) rfl

theorem sat_sameInts : Sat Try.prog 30 sameIntsSp := by
  refine fnwp_sat (C := X0) ssX0 5 30 sameIntsSp fun (⟨a, b⟩ : List Int × List Int) hk _ => Eq.mpr (sameInts_nf a b) ?_
  have hlen : a.length ≤ maxLen := hk.1.1
  unfold maxLen at hlen
  simp only [Bool.not_eq_true', Bool.not_eq_false', decide_eq_true_eq, decide_eq_false_iff_not, i64_iff]
  refine ⟨fun h => ?_, fun h => ⟨sameI a b, fun i => ((a.length : Int) - i).toNat, ⟨by omega, by omega, by simp⟩, fun i hI => ⟨fun hc => ⟨⟨hI.1, hc⟩, ⟨hI.1, by omega⟩, fun he => ?_, fun he => ⟨by have := hI.1; omega, sameI_step (by omega) 0 hI hc he, by have := hI.1; dsimp only; omega⟩⟩, fun hc => ?_⟩⟩⟩
  · rw [eq_comm, decide_eq_false_iff_not]
    intro e; rw [e] at h; exact h rfl
  · rw [eq_comm, decide_eq_false_iff_not]; exact sameI_ne 0 he
  · rw [eq_comm, decide_eq_true_eq]; exact sameI_end (by omega) hI hc
theorem sat_sameTexts : Sat Try.prog 33 sameTextsSp := by
  refine fnwp_sat (C := X0) ssX0 5 33 sameTextsSp fun (⟨a, b⟩ : List (List Int) × List (List Int)) hk _ => Eq.mpr (sameTexts_nf a b) ?_
  have hlen : a.length ≤ maxLen := hk.1.1
  unfold maxLen at hlen
  simp only [Bool.not_eq_true', Bool.not_eq_false', decide_eq_true_eq, decide_eq_false_iff_not, i64_iff]
  refine ⟨fun h => ?_, fun h => ⟨sameI a b, fun i => ((a.length : Int) - i).toNat, ⟨by omega, by omega, by simp⟩, fun i hI => ⟨fun hc => ⟨⟨hI.1, hc⟩, ⟨hI.1, by omega⟩, fun he => ?_, fun he => ⟨by have := hI.1; omega, sameI_step (by omega) [] hI hc he, by have := hI.1; dsimp only; omega⟩⟩, fun hc => ?_⟩⟩⟩
  · rw [eq_comm, decide_eq_false_iff_not]
    intro e; rw [e] at h; exact h rfl
  · rw [eq_comm, decide_eq_false_iff_not]; exact sameI_ne [] he
  · rw [eq_comm, decide_eq_true_eq]; exact sameI_end (by omega) hI hc
theorem sat_sameDigests : Sat Try.prog 36 sameDigestsSp := by
  refine fnwp_sat (C := X0) ssX0 5 36 sameDigestsSp fun (⟨a, b⟩ : List (List Int) × List (List Int)) hk _ => Eq.mpr (sameDigests_nf a b) ?_
  have hlen : a.length ≤ maxLen := hk.1.1
  unfold maxLen at hlen
  simp only [Bool.not_eq_true', Bool.not_eq_false', decide_eq_true_eq, decide_eq_false_iff_not, i64_iff]
  refine ⟨fun h => ?_, fun h => ⟨sameI a b, fun i => ((a.length : Int) - i).toNat, ⟨by omega, by omega, by simp⟩, fun i hI => ⟨fun hc => ⟨⟨hI.1, hc⟩, ⟨hI.1, by omega⟩, fun he => ?_, fun he => ⟨by have := hI.1; omega, sameI_step (by omega) (List.replicate 16 0) hI hc he, by have := hI.1; dsimp only; omega⟩⟩, fun hc => ?_⟩⟩⟩
  · rw [eq_comm, decide_eq_false_iff_not]
    intro e; rw [e] at h; exact h rfl
  · rw [eq_comm, decide_eq_false_iff_not]; exact sameI_ne (List.replicate 16 0) he
  · rw [eq_comm, decide_eq_true_eq]; exact sameI_end (by omega) hI hc
end Go.Proofs.Ytgneefndofeoaaa
