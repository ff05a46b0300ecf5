import Derived.Test.YtmimchmdikjilaaHj
--@drop
namespace Go.Proofs.Ytmimchmdikjilaa
open Go.AM Go.PL
set_option linter.unusedVariables false
theorem ssR00 : SpecSound R00 := mkctx_sound satH3 trivial
theorem sat_rRight : Sat bs.P 50 rightHSp := by
  refine sat_nf (C := R00) ssR00 rRight_nf fun (a : Hit) hk _ => ?_
  unfold rightH
  refine ⟨fun h => ⟨fun h2 => ⟨fun h3 => ⟨fun h4 => ⟨fun h5 => ?_, fun h5 => ?_⟩, fun h4 => ?_⟩, fun h3 => ?_⟩, fun h2 => ?_⟩, fun h => ?_⟩ <;> simp [*]
theorem ltH_dec (a b : Hit) : ltH a b = decide (a.2.2.1 < b.2.2.1 ∨ (a.2.2.1 = b.2.2.1 ∧ (a.1 < b.1 ∨ (a.1 = b.1 ∧ a.2.1 < b.2.1)))) := by
  apply bool_is
  rw [ltH_eq, decide_eq_true_eq]
theorem sat_rLess : Sat bs.P 51 lessHSp := by
  refine sat_nf (C := R00) ssR00 (fun x => rLess_nf x.1 x.2) fun (⟨a, b⟩ : Hit × Hit) hk _ => ?_
  try dsimp only
  rw [ltH_dec]
  refine ⟨fun h => ?_, fun h => ⟨fun h' => ?_, fun h' => ?_⟩⟩
  · have h := ndt h
    exact decide_eq_decide.2 (by omega)
  · have h := ndf h; have h' := ndt h'
    exact decide_eq_decide.2 (by omega)
  · have h := ndf h; have h' := ndf h'
    exact decide_eq_decide.2 (by omega)
theorem sat_rHas : Sat bs.P 52 hasHSp := by
  refine sat_nf (C := R00) ssR00 (fun x => rHas_nf x.1 x.2) fun (⟨l, id⟩ : List Hit × Int) hk _ => ?_
  try dsimp only
  have hm : l.length ≤ 9223372036854775807 := hk.1.1
  simp only [show (((0 : Int), (0 : Int), (0 : Int), ()) : Hit) = hit0 from rfl]
  refine ⟨fun x => 0 ≤ x ∧ x ≤ l.length ∧ ∀ j, j < x.toNat → (l.getD j hit0).1 ≠ id, fun x => (l.length - x).toNat, ⟨by omega, by omega, by simp⟩, ?_⟩
  rintro i ⟨h0, h1, h2⟩
  dsimp only
  refine ⟨fun hlt => ?_, fun hlt => ?_⟩
  · have hlt := dt hlt
    refine ⟨⟨h0, hlt⟩, fun he => ?_, fun he => ⟨i64_lt h0 hlt hm, ⟨by omega, by omega, fun j hj => ?_⟩, by omega⟩⟩
    · exact ((hasH_iff _ _).2 ⟨_, getD_mem l hit0 (show i.toNat < l.length by omega), dt he⟩).symm
    · by_cases e : j = i.toNat
      · rw [e]; exact df he
      · exact h2 j (by omega)
  · have hlt := df hlt
    refine ((hasH_no _ _).2 fun h hh => ?_).symm
    obtain ⟨j, hj, rfl⟩ := List.getElem_of_mem hh
    have := h2 j (by omega)
    rwa [getE l hj] at this
theorem sat_rK : Sat bs.P 49 kHSp := by
  refine sat_nf (C := R00) ssR00 rK_nf fun (k : Int) hk _ => ?_
  unfold kH
  exact ⟨fun h => by rw [h]; rfl, fun h => by rw [h]; rfl⟩
theorem satHR0 : AllSat bs.P tHR0 := ⟨sat_rRight, sat_rLess, sat_rHas, sat_rK, satH3⟩
theorem ssR0 : SpecSound R0 := mkctx_sound satHR0 trivial
theorem sat_rSame : Sat bs.P 27 sameHSp := by
  refine sat_nf (C := R0) ssR0 (fun x => rSame_nf x.1 x.2) fun (⟨a, b⟩ : List Hit × List Hit) hk _ => ?_
  try dsimp only
  have hm : a.length ≤ 9223372036854775807 := hk.1.1
  simp only [show (((0 : Int), (0 : Int), (0 : Int), ()) : Hit) = hit0 from rfl, hit_eqs]
  refine ⟨fun h => ?_, fun h => ?_⟩
  · have h := ndt h
    unfold sameH
    rw [decide_eq_false fun e => h (by rw [e])]
  · have h := ndf h
    refine ⟨fun x => 0 ≤ x ∧ x ≤ a.length ∧ ∀ i, i < x.toNat → a.getD i hit0 = b.getD i hit0, fun x => (a.length - x).toNat, ⟨by omega, by omega, by simp⟩, ?_⟩
    rintro i ⟨h0, h1, h2⟩
    dsimp only
    refine ⟨fun hlt => ?_, fun hlt => ?_⟩
    · have hlt := dt hlt
      refine ⟨⟨h0, hlt⟩, ⟨h0, by omega⟩, fun hn => ?_, fun hn => ⟨i64_lt h0 hlt hm, ⟨by omega, by omega, fun j hj => ?_⟩, by omega⟩⟩
      · have hn := ndt hn
        unfold sameH
        rw [decide_eq_false fun e => hn (by rw [e])]
      · have hn := ndf hn
        by_cases e : j = i.toNat
        · rw [e]; exact hn
        · exact h2 j (by omega)
    · have hlt := df hlt
      unfold sameH
      rw [decide_eq_true (listL_ext hit0 (by omega) fun j hj => h2 j (by omega))]
theorem sat_rValidH : Sat bs.P 30 validHSp := by
  refine sat_nf (C := R0) ssR0 (fun x => rValid_nf x.1 x.2) fun (⟨l, k⟩ : List Hit × Int) hk _ => ?_
  try dsimp only
  have hm : l.length ≤ 9223372036854775807 := hk.1.1
  simp only [show (((0 : Int), (0 : Int), (0 : Int), ()) : Hit) = hit0 from rfl, List.drop_zero, Nat.sub_zero]
  refine ⟨trivial, fun h => ?_, fun h => ⟨fun h2 => ?_, fun h2 => ?_⟩⟩
  · have h := nt h
    unfold kH at h
    unfold validH
    rw [← Bool.and_assoc, h]; rfl
  · unfold validH; rw [decide_eq_false (show ¬ (l.length : Int) ≤ k by have := dt h2; omega)]; simp
  · have h := nf h
    unfold kH at h
    have hk1 : 1 ≤ k ∧ k ≤ 64 := by simpa using h
    have h2 := df h2
    refine ⟨fun x => 0 ≤ x ∧ x ≤ l.length ∧ ∀ i, i < x.toNat → stepV l i = true, fun x => (l.length - x).toNat, ⟨by omega, by omega, by simp⟩, ?_⟩
    rintro i ⟨h0, h1, hs⟩
    dsimp only
    have hnext : i < l.length → stepV l i.toNat = true → isI64 (i + 1) ∧ (0 ≤ i + 1 ∧ i + 1 ≤ l.length ∧ (∀ j, j < (i + 1).toNat → stepV l j = true)) ∧ (l.length - (i + 1)).toNat < (l.length - i).toNat := fun hlt hst => by
      refine ⟨i64_lt h0 hlt hm, ⟨by omega, by omega, fun j hj => ?_⟩, by omega⟩
      by_cases e : j = i.toNat
      · subst e; exact hst
      · exact hs j (by omega)
    refine ⟨fun hlt => ?_, fun hlt => ?_⟩
    · have hlt := dt hlt
      have hin : i.toNat < l.length := by omega
      refine ⟨⟨h0, hlt⟩, trivial, fun hr => ?_, fun hr => ⟨fun hp => ⟨i64s (by omega) (by omega), ⟨by have := dt hp; omega, by omega⟩, ⟨h0, hlt⟩, trivial, fun hl => ?_, fun hl => ⟨⟨by omega, by omega, by omega⟩, ⟨h0, hlt⟩, trivial, fun hh => ?_, fun hh => ?_⟩⟩, fun hp => ⟨⟨by omega, by omega, by omega⟩, ⟨h0, hlt⟩, trivial, fun hh => ?_, fun hh => ?_⟩⟩⟩
      · exact validH_no hin (by unfold stepV; rw [nt hr]; rfl)
      · have hp := dt hp
        refine validH_no hin (by
          unfold stepV
          rw [decide_eq_false (by omega), show i.toNat - 1 = (i - 1).toNat by omega, nt hl]; simp)
      · exact validH_no hin (by unfold stepV; rw [hh]; simp)
      · have hp := dt hp
        exact hnext hlt (by unfold stepV; rw [nf hr, hh, show i.toNat - 1 = (i - 1).toNat by omega, nf hl]; simp)
      · exact validH_no hin (by unfold stepV; rw [hh]; simp)
      · have hp := df hp
        exact hnext hlt (by unfold stepV; rw [nf hr, hh, decide_eq_true (show i.toNat = 0 by omega)]; simp)
    · have hlt := df hlt
      have hu : upto l.length (fun i => stepV l i) = true := upto_iff.2 fun j hj => hs j (by omega)
      unfold stepV at hu
      unfold validH
      rw [hu, decide_eq_true hk1.1, decide_eq_true hk1.2, decide_eq_true (show (l.length : Int) ≤ k by omega)]
      rfl
theorem sat_rPlace : Sat bs.P 81 placeHSp := by
  refine sat_nf (C := R0) ssR0 (fun x => rPlace_nf x.1 x.2) fun (⟨l, out⟩ : List Hit × List Hit) hk _ => ?_
  try dsimp only
  have hm : l.length ≤ 9223372036854775807 := hk.1.1
  simp only [show (((0 : Int), (0 : Int), (0 : Int), ()) : Hit) = hit0 from rfl]
  refine ⟨fun x => 0 ≤ x.1 ∧ x.1 ≤ l.length ∧ x.2 = placeN l out x.1.toNat, fun x => (l.length - x.1).toNat, ⟨by omega, by omega, rfl⟩, ?_⟩
  rintro ⟨i, b⟩ ⟨h0, h1, h2⟩
  dsimp only at h0 h1 h2 ⊢
  refine ⟨fun hlt => ?_, fun hlt => ?_⟩
  · have hlt := dt hlt
    have hst := placeN_succ l out i.toNat
    rw [show i.toNat + 1 = (i + 1).toNat by omega, ← h2] at hst
    have hb : b < 0 ∨ (0 ≤ b ∧ b < l.length) := by
      rcases placeN_spec l out i.toNat (by omega) with ⟨h3, _⟩ | ⟨j, h3, h4, _⟩ <;> rw [← h2] at h3 <;> omega
    have hyes : hasH out (l.getD i.toNat hit0).1 = false → (b < 0 ∨ ltH (l.getD i.toNat hit0) (l.getD b.toNat hit0) = true) → isI64 (i + 1) ∧ (0 ≤ i + 1 ∧ i + 1 ≤ l.length ∧ i = placeN l out (i + 1).toNat) ∧ (l.length - (i + 1)).toNat < (l.length - i).toNat := fun ha hbb => by
      rw [if_pos ⟨ha, hbb⟩] at hst
      exact ⟨i64_lt h0 hlt hm, ⟨by omega, by omega, by omega⟩, by omega⟩
    have hno : ¬ (hasH out (l.getD i.toNat hit0).1 = false ∧ (b < 0 ∨ ltH (l.getD i.toNat hit0) (l.getD b.toNat hit0) = true)) → isI64 (i + 1) ∧ (0 ≤ i + 1 ∧ i + 1 ≤ l.length ∧ b = placeN l out (i + 1).toNat) ∧ (l.length - (i + 1)).toNat < (l.length - i).toNat := fun ha => by
      rw [if_neg ha] at hst
      exact ⟨i64_lt h0 hlt hm, ⟨by omega, by omega, hst.symm⟩, by omega⟩
    refine ⟨⟨h0, hlt⟩, trivial, fun ha => ⟨fun hb' => hyes (nt ha) (.inl (dt hb')), fun hb' => ⟨⟨h0, hlt⟩, by have := df hb'; omega, trivial, fun hl => hyes (nt ha) (.inr hl), fun hl => hno fun hh => ?_⟩⟩, fun ha => hno fun hh => ?_⟩
    · have := hh.2.resolve_left (df hb')
      rw [hl] at this
      cases this
    · rw [nf ha] at hh
      cases hh.1
  · have hlt := df hlt
    rw [h2, show i.toNat = l.length by omega]
    rfl
theorem satHR1 : AllSat bs.P tHR1 := ⟨sat_rPlace, sat_rSame, satHR0⟩
theorem ofG_more {l : List Hit} : ∀ {n : Nat} {out : List Hit}, placeH l out < 0 → ofG l n out = out
  | 0, _, _ => rfl
  | n + 1, out, h => by unfold ofG; rw [if_pos h]
theorem sat_rOf : Sat bs.P 63 ofHSp := by
  refine sat_nf (C := R1) (mkctx_sound satHR1 trivial) (fun x => rOf_nf x.1 x.2) fun (⟨l, k⟩ : List Hit × Int) hk hp => ?_
  obtain ⟨hl, hk0⟩ : l.length ≤ 100000 ∧ 0 ≤ k := hp
  try dsimp only
  simp only [show (((0 : Int), (0 : Int), (0 : Int), ()) : Hit) = hit0 from rfl]
  refine ⟨fun x => x.length ≤ 100000 ∧ (∀ h ∈ x, h ∈ l) ∧ (x.map Prod.fst).Nodup ∧ (x.length : Int) ≤ k ∧ ofG l (k - x.length).toNat x = ofH l k, fun x => (k - x.length).toNat, ⟨by simp, by simp, List.nodup_nil, by simp; omega, by simp [ofH]⟩, ?_⟩
  rintro out ⟨h1, h2, h3, h4, h5⟩
  dsimp only
  refine ⟨fun hlt => ⟨trivial, fun hp => ?_, fun hp => ?_⟩, fun hlt => ?_⟩
  · rw [← h5, ofG_more (dt hp)]
  · have hlt := dt hlt
    have hp := df hp
    rcases placeN_spec l out l.length (Nat.le_refl _) with ⟨h6, _⟩ | ⟨i, h6, h7, h8, _⟩
    · exact absurd (show placeH l out < 0 by unfold placeH; omega) hp
    · have h6 : placeH l out = i := h6
      rw [h6]
      simp only [Int.toNat_natCast]
      have hmem : ∀ h ∈ out ++ [l.getD i hit0], h ∈ l := fun h hh => by
        rcases List.mem_append.1 hh with h9 | h9
        · exact h2 h h9
        · have h9 : h = l.getD i hit0 := by simpa using h9
          rw [h9]
          exact getD_mem l hit0 h7
      have hnd : ((out ++ [l.getD i hit0]).map Prod.fst).Nodup := by
        rw [List.map_append, List.nodup_append]
        refine ⟨h3, by simp, fun a ha b hb e => ?_⟩
        have hb : b = (l.getD i hit0).1 := by simpa using hb
        obtain ⟨t, ht, rfl⟩ := List.mem_map.1 ha
        exact (hasH_no _ _).1 h8 t ht (e.trans hb)
      have hlen : (out ++ [l.getD i hit0]).length ≤ l.length := by
        exact nodup_len (nodup_of_fst hnd) hmem
      have hl1 : (out ++ [l.getD i hit0]).length = out.length + 1 := by simp
      refine ⟨⟨by omega, by omega⟩, roomH rfl (by simp; omega), ⟨by omega, hmem, hnd, by omega, ?_⟩, by rw [hl1]; omega⟩
      rw [← h5, hl1, show (k - (out.length : Int)).toNat = (k - ((out.length + 1 : Nat) : Int)).toNat + 1 by omega]
      conv => rhs; unfold ofG
      rw [if_neg (by omega), h6, Int.toNat_natCast]
  · have hlt := df hlt
    rw [← h5, show (k - (out.length : Int)).toNat = 0 by omega]
    rfl
theorem satHR2 : AllSat bs.P ((63, ofHSp) :: tHR1) := ⟨sat_rOf, satHR1⟩
theorem sat_rMerge : Sat bs.P 42 mergeHSp := by
  refine sat_nf (C := R2) (mkctx_sound satHR2 trivial) (fun x => rMerge_nf x.1 x.2.1 x.2.2) fun (⟨a, b, k⟩ : List Hit × List Hit × Int) hk hp => ?_
  obtain ⟨hp1, hp2⟩ : a.length + b.length ≤ 1000 ∧ 0 ≤ k := hp
  try dsimp only
  exact ⟨roomH rfl (by omega), roomH rfl (by omega), ⟨by simp; omega, hp2⟩, rfl⟩
end Go.Proofs.Ytmimchmdikjilaa
