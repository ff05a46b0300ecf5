import Derived.Test.YtgneefndofeoaaaWj
namespace Go.PL
open Go.AM
/-- Bytes and elements in all. -/
def fewN (l : List (List Int)) : Int := (l.length : Int) + (l.map List.length).sum
def fewP (l : List (List Int)) : Prop := fewN l ≤ 4611686018427387904
def fewI (l : List (List Int)) (x : Int × Int) : Prop := 0 ≤ x.2 ∧ x.2 ≤ l.length ∧ 0 ≤ x.1 ∧ x.1 + ((l.drop x.2.toNat).map List.length).sum = fewN l
theorem fewI_step {l : List (List Int)} {x : Int × Int} (h : fewI l x) (hc : x.2 < l.length) : fewI l (x.1 + (l.getD x.2.toNat []).length, x.2 + 1) ∧ x.1 + (l.getD x.2.toNat []).length ≤ fewN l := by
  obtain ⟨h0, h1, h2, h3⟩ := h
  rw [drop_step l [] h0 hc, List.map_cons, List.sum_cons] at h3
  exact ⟨⟨by dsimp only; omega, by dsimp only; omega, by dsimp only; omega, by dsimp only; omega⟩, by omega⟩
theorem fewI_end {l : List (List Int)} {x : Int × Int} (h : fewI l x) (hc : ¬ x.2 < l.length) : x.1 = fewN l := by
  obtain ⟨h0, h1, h2, h3⟩ := h
  rw [drop_end l hc] at h3
  simpa using h3
theorem few_mem : ∀ {l : List (List Int)} {s : List Int}, s ∈ l → s.length ≤ (l.map List.length).sum
  | t :: l, s, h => by
    rw [List.map_cons, List.sum_cons]
    rcases List.mem_cons.1 h with rfl | h
    · omega
    · have := few_mem h; omega
theorem getD_mem' {α : Type} (l : List α) (d : α) {i : Int} (h0 : 0 ≤ i) (h : i < l.length) : l.getD i.toNat d ∈ l := by
  rw [List.getD, List.getElem?_eq_getElem (by omega)]
  exact List.getElem_mem (by omega)
end Go.PL
namespace Go.Proofs.Ytgneefndofeoaaa
open Go.AM Go.PL
set_option linter.unusedVariables false

def fewSp2 : FSpec := ⟨[.arr .str], [.bool], fun l => fewP (l : List (List Int)), fun l => decide (fewN (l : List (List Int)) ≤ 2000)⟩
noncomputable def X4 : Ctx := mkctx bs [(14, intG.data), (15, intG.data), (16, bytesG.data), (17, bytesG.data),
  (41, digestSp)]
  [(14, intG), (15, intG), (16, bytesG), (17, bytesG)] hintX
theorem ssX4 : SpecSound X4 := mkctx_sound ⟨sat_int.toData, sat_rInt.toData, sat_bytes.toData, sat_rBytes.toData, sat_digest, trivial⟩ ⟨sat_int, sat_rInt, sat_bytes, sat_rBytes, trivial⟩
theorem strings_nf (l : List (List Int)) : fnwp X4 5 20 stringsSp l = (True ∧ ∃ (I : List Int × Int → Prop), ∃ (μ : List Int × Int → Nat), I (encI (↑l.length : Int), (0 : Int)) ∧ ∀
  (x : List Int × Int), I x → (decide (x.snd < (↑l.length : Int)) = true → ((0 : Int) ≤ x.snd ∧ x.snd < (↑l.length : Int)) ∧ (l.getD x.snd.toNat []).length ≤ (100000 : Nat) ∧ roomP
  X4 (5 : Nat) (x.fst.length + (encBytes (l.getD x.snd.toNat [])).length) ∧ isI64 (x.snd + (1 : Int)) ∧ I (x.fst ++ encBytes (l.getD x.snd.toNat []), x.snd + (1 : Int)) ∧ μ (x.fst
  ++ encBytes (l.getD x.snd.toNat []), x.snd + (1 : Int)) < μ x) ∧ (decide (x.snd < (↑l.length : Int)) = false → x.fst = encList encBytes l)) := by kernel_rfl
theorem rStrings_nf (l : List (List Int)) : fnwp X4 5 21 stringsSp l = (True ∧ ∃ (I : List Int × Int → Prop), ∃ (μ : List Int × Int → Nat), I (encI (↑l.length : Int), (0 : Int)) ∧
  ∀ (x : List Int × Int), I x → (decide (x.snd < (↑l.length : Int)) = true → ((0 : Int) ≤ x.snd ∧ x.snd < (↑l.length : Int)) ∧ (l.getD x.snd.toNat []).length ≤ (100000 : Nat) ∧
  roomP X4 (5 : Nat) (x.fst.length + (encBytes (l.getD x.snd.toNat [])).length) ∧ isI64 (x.snd + (1 : Int)) ∧ I (x.fst ++ encBytes (l.getD x.snd.toNat []), x.snd + (1 : Int)) ∧ μ
  (x.fst ++ encBytes (l.getD x.snd.toNat []), x.snd + (1 : Int)) < μ x) ∧ (decide (x.snd < (↑l.length : Int)) = false → x.fst = encList encBytes l)) := by kernel_rfl
theorem digests4_nf (l : List (List Int)) : fnwp X4 5 22 digestsSp l = (True ∧ ∃ (I : List Int × Int → Prop), ∃ (μ : List Int × Int → Nat), I (encI (↑l.length : Int), (0 : Int)) ∧
  ∀ (x : List Int × Int), I x → (decide (x.snd < (↑l.length : Int)) = true → ((0 : Int) ≤ x.snd ∧ x.snd < (↑l.length : Int)) ∧ [(l.getD x.snd.toNat (List.replicate (16 : Nat) (0 :
  Int))).getD (0 : Nat) (0 : Int), (l.getD x.snd.toNat (List.replicate (16 : Nat) (0 : Int))).getD (1 : Nat) (0 : Int), (l.getD x.snd.toNat (List.replicate (16 : Nat) (0 :
  Int))).getD (2 : Nat) (0 : Int), (l.getD x.snd.toNat (List.replicate (16 : Nat) (0 : Int))).getD (3 : Nat) (0 : Int), (l.getD x.snd.toNat (List.replicate (16 : Nat) (0 :
  Int))).getD (4 : Nat) (0 : Int), (l.getD x.snd.toNat (List.replicate (16 : Nat) (0 : Int))).getD (5 : Nat) (0 : Int), (l.getD x.snd.toNat (List.replicate (16 : Nat) (0 :
  Int))).getD (6 : Nat) (0 : Int), (l.getD x.snd.toNat (List.replicate (16 : Nat) (0 : Int))).getD (7 : Nat) (0 : Int), (l.getD x.snd.toNat (List.replicate (16 : Nat) (0 :
  Int))).getD (8 : Nat) (0 : Int), (l.getD x.snd.toNat (List.replicate (16 : Nat) (0 : Int))).getD (9 : Nat) (0 : Int), (l.getD x.snd.toNat (List.replicate (16 : Nat) (0 :
  Int))).getD (10 : Nat) (0 : Int), (l.getD x.snd.toNat (List.replicate (16 : Nat) (0 : Int))).getD (11 : Nat) (0 : Int), (l.getD x.snd.toNat (List.replicate (16 : Nat) (0 :
  Int))).getD (12 : Nat) (0 : Int), (l.getD x.snd.toNat (List.replicate (16 : Nat) (0 : Int))).getD (13 : Nat) (0 : Int), (l.getD x.snd.toNat (List.replicate (16 : Nat) (0 :
  Int))).getD (14 : Nat) (0 : Int), (l.getD x.snd.toNat (List.replicate (16 : Nat) (0 : Int))).getD (15 : Nat) (0 : Int)].length = (16 : Nat) ∧ roomP X4 (5 : Nat) (x.fst.length +
  [(l.getD x.snd.toNat (List.replicate (16 : Nat) (0 : Int))).getD (0 : Nat) (0 : Int), (l.getD x.snd.toNat (List.replicate (16 : Nat) (0 : Int))).getD (1 : Nat) (0 : Int), (l.getD
  x.snd.toNat (List.replicate (16 : Nat) (0 : Int))).getD (2 : Nat) (0 : Int), (l.getD x.snd.toNat (List.replicate (16 : Nat) (0 : Int))).getD (3 : Nat) (0 : Int), (l.getD
  x.snd.toNat (List.replicate (16 : Nat) (0 : Int))).getD (4 : Nat) (0 : Int), (l.getD x.snd.toNat (List.replicate (16 : Nat) (0 : Int))).getD (5 : Nat) (0 : Int), (l.getD
  x.snd.toNat (List.replicate (16 : Nat) (0 : Int))).getD (6 : Nat) (0 : Int), (l.getD x.snd.toNat (List.replicate (16 : Nat) (0 : Int))).getD (7 : Nat) (0 : Int), (l.getD
  x.snd.toNat (List.replicate (16 : Nat) (0 : Int))).getD (8 : Nat) (0 : Int), (l.getD x.snd.toNat (List.replicate (16 : Nat) (0 : Int))).getD (9 : Nat) (0 : Int), (l.getD
  x.snd.toNat (List.replicate (16 : Nat) (0 : Int))).getD (10 : Nat) (0 : Int), (l.getD x.snd.toNat (List.replicate (16 : Nat) (0 : Int))).getD (11 : Nat) (0 : Int), (l.getD
  x.snd.toNat (List.replicate (16 : Nat) (0 : Int))).getD (12 : Nat) (0 : Int), (l.getD x.snd.toNat (List.replicate (16 : Nat) (0 : Int))).getD (13 : Nat) (0 : Int), (l.getD
  x.snd.toNat (List.replicate (16 : Nat) (0 : Int))).getD (14 : Nat) (0 : Int), (l.getD x.snd.toNat (List.replicate (16 : Nat) (0 : Int))).getD (15 : Nat) (0 : Int)].length) ∧
  isI64 (x.snd + (1 : Int)) ∧ I (x.fst ++ [(l.getD x.snd.toNat (List.replicate (16 : Nat) (0 : Int))).getD (0 : Nat) (0 : Int), (l.getD x.snd.toNat (List.replicate (16 : Nat) (0 :
  Int))).getD (1 : Nat) (0 : Int), (l.getD x.snd.toNat (List.replicate (16 : Nat) (0 : Int))).getD (2 : Nat) (0 : Int), (l.getD x.snd.toNat (List.replicate (16 : Nat) (0 :
  Int))).getD (3 : Nat) (0 : Int), (l.getD x.snd.toNat (List.replicate (16 : Nat) (0 : Int))).getD (4 : Nat) (0 : Int), (l.getD x.snd.toNat (List.replicate (16 : Nat) (0 :
  Int))).getD (5 : Nat) (0 : Int), (l.getD x.snd.toNat (List.replicate (16 : Nat) (0 : Int))).getD (6 : Nat) (0 : Int), (l.getD x.snd.toNat (List.replicate (16 : Nat) (0 :
  Int))).getD (7 : Nat) (0 : Int), (l.getD x.snd.toNat (List.replicate (16 : Nat) (0 : Int))).getD (8 : Nat) (0 : Int), (l.getD x.snd.toNat (List.replicate (16 : Nat) (0 :
  Int))).getD (9 : Nat) (0 : Int), (l.getD x.snd.toNat (List.replicate (16 : Nat) (0 : Int))).getD (10 : Nat) (0 : Int), (l.getD x.snd.toNat (List.replicate (16 : Nat) (0 :
  Int))).getD (11 : Nat) (0 : Int), (l.getD x.snd.toNat (List.replicate (16 : Nat) (0 : Int))).getD (12 : Nat) (0 : Int), (l.getD x.snd.toNat (List.replicate (16 : Nat) (0 :
  Int))).getD (13 : Nat) (0 : Int), (l.getD x.snd.toNat (List.replicate (16 : Nat) (0 : Int))).getD (14 : Nat) (0 : Int), (l.getD x.snd.toNat (List.replicate (16 : Nat) (0 :
  Int))).getD (15 : Nat) (0 : Int)], x.snd + (1 : Int)) ∧ μ (x.fst ++ [(l.getD x.snd.toNat (List.replicate (16 : Nat) (0 : Int))).getD (0 : Nat) (0 : Int), (l.getD x.snd.toNat
  (List.replicate (16 : Nat) (0 : Int))).getD (1 : Nat) (0 : Int), (l.getD x.snd.toNat (List.replicate (16 : Nat) (0 : Int))).getD (2 : Nat) (0 : Int), (l.getD x.snd.toNat
  (List.replicate (16 : Nat) (0 : Int))).getD (3 : Nat) (0 : Int), (l.getD x.snd.toNat (List.replicate (16 : Nat) (0 : Int))).getD (4 : Nat) (0 : Int), (l.getD x.snd.toNat
  (List.replicate (16 : Nat) (0 : Int))).getD (5 : Nat) (0 : Int), (l.getD x.snd.toNat (List.replicate (16 : Nat) (0 : Int))).getD (6 : Nat) (0 : Int), (l.getD x.snd.toNat
  (List.replicate (16 : Nat) (0 : Int))).getD (7 : Nat) (0 : Int), (l.getD x.snd.toNat (List.replicate (16 : Nat) (0 : Int))).getD (8 : Nat) (0 : Int), (l.getD x.snd.toNat
  (List.replicate (16 : Nat) (0 : Int))).getD (9 : Nat) (0 : Int), (l.getD x.snd.toNat (List.replicate (16 : Nat) (0 : Int))).getD (10 : Nat) (0 : Int), (l.getD x.snd.toNat
  (List.replicate (16 : Nat) (0 : Int))).getD (11 : Nat) (0 : Int), (l.getD x.snd.toNat (List.replicate (16 : Nat) (0 : Int))).getD (12 : Nat) (0 : Int), (l.getD x.snd.toNat
  (List.replicate (16 : Nat) (0 : Int))).getD (13 : Nat) (0 : Int), (l.getD x.snd.toNat (List.replicate (16 : Nat) (0 : Int))).getD (14 : Nat) (0 : Int), (l.getD x.snd.toNat
  (List.replicate (16 : Nat) (0 : Int))).getD (15 : Nat) (0 : Int)], x.snd + (1 : Int)) < μ x) ∧ (decide (x.snd < (↑l.length : Int)) = false → x.fst = encList (fun (x : List Int)
  => x) l)) := by kernel_rfl
theorem few2_nf (l : List (List Int)) : fnwp X4 5 11 fewSp2 l = (∃ (I : Int × Int → Prop), ∃ (μ : Int × Int → Nat), I ((↑l.length : Int), (0 : Int)) ∧ ∀ (x : Int × Int), I x →
  (decide (x.snd < (↑l.length : Int)) = true → ((0 : Int) ≤ x.snd ∧ x.snd < (↑l.length : Int)) ∧ isI64 (x.fst + (↑(l.getD x.snd.toNat []).length : Int)) ∧ isI64 (x.snd + (1 : Int))
  ∧ I (x.fst + (↑(l.getD x.snd.toNat []).length : Int), x.snd + (1 : Int)) ∧ μ (x.fst + (↑(l.getD x.snd.toNat []).length : Int), x.snd + (1 : Int)) < μ x) ∧ (decide (x.snd <
  (↑l.length : Int)) = false → decide (x.fst ≤ (2000 : Int)) = decide (fewN l ≤ (2000 : Int)))) := by kernel_rfl

theorem strings_room {l : List (List Int)} (h : (∀ s ∈ l, s.length ≤ 100000) ∧ small2 l) : (encList encBytes l).length ≤ 100000000000 := by
  have h2 := h.2
  unfold small2 at h2
  have h1 := flat_len (one := encBytes) (k := 100010) l (fun x hx => by
    have := encI_len (x.length : Int)
    have := h.1 x hx
    unfold encBytes; rw [List.length_append]; omega)
  have h3 := encI_len (l.length : Int)
  unfold encList
  rw [List.length_append]
  omega
theorem sat_strings : Sat Try.prog 20 stringsSp := by
  refine fnwp_sat (C := X4) ssX4 5 20 stringsSp fun (l : List (List Int)) hk hp => Eq.mpr (strings_nf l) ?_
  have hr := strings_room hp
  have hl : l.length ≤ 100000 := hp.2
  simp only [decide_eq_true_eq, decide_eq_false_iff_not, i64_iff]
  refine ⟨trivial, listI encBytes l, fun x => ((l.length : Int) - x.2).toNat, listI_zero _ _, fun x hI => ⟨fun hc => ?_, fun hc => listI_end hI hc⟩⟩
  obtain ⟨h1, h2⟩ := listI_step [] hI hc
  have h0 := hI.1
  exact ⟨⟨h0, hc⟩, hp.1 _ (getD_mem' l [] h0 hc), roomU bytesU (by omega), by omega, h1, by dsimp only; omega⟩
theorem sat_rStrings : Sat Try.prog 21 stringsSp := by
  refine fnwp_sat (C := X4) ssX4 5 21 stringsSp fun (l : List (List Int)) hk hp => Eq.mpr (rStrings_nf l) ?_
  have hr := strings_room hp
  have hl : l.length ≤ 100000 := hp.2
  simp only [decide_eq_true_eq, decide_eq_false_iff_not, i64_iff]
  refine ⟨trivial, listI encBytes l, fun x => ((l.length : Int) - x.2).toNat, listI_zero _ _, fun x hI => ⟨fun hc => ?_, fun hc => listI_end hI hc⟩⟩
  obtain ⟨h1, h2⟩ := listI_step [] hI hc
  have h0 := hI.1
  exact ⟨⟨h0, hc⟩, hp.1 _ (getD_mem' l [] h0 hc), roomU bytesU (by omega), by omega, h1, by dsimp only; omega⟩
set_option maxHeartbeats 4000000 in
theorem sat_digests : Sat Try.prog 22 digestsSp := by
  refine fnwp_sat (C := X4) ssX4 5 22 digestsSp fun (l : List (List Int)) hk hp => Eq.mpr (digests4_nf l) ?_
  have h16 : ∀ x ∈ l, x.length = 16 := fun x hx => (hk.2 x hx).1
  have hr := digests_room hp h16
  have hp : l.length ≤ 100000 := hp
  refine ⟨trivial, listI (fun x : List Int => x) l, fun x => ((l.length : Int) - x.2).toNat, listI_zero _ _, fun x hI => ⟨fun hc => ?_, fun hc => listI_end hI (of_decide_eq_false hc)⟩⟩
  have hc : x.2 < l.length := of_decide_eq_true hc
  obtain ⟨h1, h2⟩ := listI_step (List.replicate 16 0) hI hc
  have h0 := hI.1
  have hx := h16 _ (getD_mem' l (List.replicate 16 0) h0 hc)
  rw [sixteen _ hx]
  exact ⟨⟨h0, hc⟩, hx, roomU bytesU (by omega), by unfold isI64; omega, h1, by dsimp only; omega⟩
set_option maxHeartbeats 4000000 in
theorem sat_few : Sat Try.prog 11 fewSp2 := by
  refine fnwp_sat (C := X4) ssX4 5 11 fewSp2 fun (l : List (List Int)) hk hp => Eq.mpr (few2_nf l) ?_
  have hp' : fewP l := hp
  unfold fewP at hp'
  have hl : l.length ≤ 2 ^ 63 - 1 := hk.1
  clear hp hk
  refine ⟨fewI l, fun x => ((l.length : Int) - x.2).toNat, ⟨by dsimp only; omega, by dsimp only; omega, by dsimp only; omega, by simp [fewN]⟩, fun x hI => ⟨fun hc => ?_, fun hc => ?_⟩⟩
  · have hc := of_decide_eq_true hc
    obtain ⟨h1, h2⟩ := fewI_step hI hc
    have h0 := hI.1
    have h3 := hI.2.2.1
    generalize fewN l = N at *
    exact ⟨⟨h0, hc⟩, by unfold isI64; omega, by unfold isI64; omega, h1, by dsimp only; omega⟩
  · rw [fewI_end hI (of_decide_eq_false hc)]
end Go.Proofs.Ytgneefndofeoaaa
