import Derived.Test.YtpnfcgkocfjeiaaVb
--@drop
namespace Go.PL
open Go.AM
theorem decMany_err4 {α : Type} {one : List Int → Dec α} (h1 : ∀ b e, one b = .err e → e = 10 ∨ e = 11) : ∀ (n : Nat) (a : Int) (b : List Int) (e : Int), decMany one n a b = .err e → e = 10 ∨ e = 11
  | 0, a, b, e, h => by unfold decMany at h; cases h
  | n + 1, a, b, e, h => by
    unfold decMany at h
    split at h
    · rename_i e' h2; cases h; exact h1 _ _ h2
    · split at h
      · rename_i e' h2; cases h; exact decMany_err4 h1 n _ _ _ h2
      · cases h
theorem decInts_err {b : List Int} {e : Int} (h : decList 1 decI b = .err e) : e = 10 ∨ e = 11 := by
  unfold decList at h
  split at h
  · rename_i e' h2; cases h; exact decLen_err h2
  · exact decMany_err4 (fun _ _ => decI_err) _ _ _ _ h
/-- The mean's columns, so far. -/
theorem getD_memI {α : Type} (l : List α) (d : α) {i : Int} (h0 : 0 ≤ i) (h : i < l.length) : l.getD i.toNat d ∈ l := by
  rw [List.getD, List.getElem?_eq_getElem (by omega)]
  exact List.getElem_mem (by omega)
theorem csum_zero (i : Nat) : csum [] i = 0 := rfl
theorem take_all {α : Type} (l : List α) {k : Int} (h : ¬ k < (l.length : Int)) : l.take k.toNat = l := List.take_of_length_le (by omega)
theorem getD_replicate0 (n i : Nat) : (List.replicate n (0 : Int)).getD i 0 = 0 := by
  rw [List.getD_eq_getElem?_getD, List.getElem?_replicate]
  split <;> rfl
theorem range_snoc (f : Nat → Int) {k : Int} (h : 0 ≤ k) : (List.range (k + 1).toNat).map f = (List.range k.toNat).map f ++ [f k.toNat] := by
  rw [show (k + 1).toNat = k.toNat + 1 by omega, List.range_succ, List.map_append]
  rfl
end Go.PL
namespace Go.Proofs.Ytpnfcgkocfjeiaa
open Go.AM Go.PL
set_option linter.unusedVariables false

theorem has_errno {n : Int} (h : IntKind.i64.has n) : isI64 n := has_i64.1 h
theorem valid_step {v : List Int} {x : Bool × Int} {r : Bool} (h0 : 0 ≤ x.2) (hc : x.2 < v.length) (h2 : v.all (coordOk 1000) = (x.1 && (v.drop x.2.toNat).all (coordOk 1000))) (hr : r = (x.1 && coordOk 1000 (v.getD x.2.toNat 0))) :
    v.all (coordOk 1000) = (r && (v.drop (x.2 + 1).toNat).all (coordOk 1000)) := by
  rw [h2, hr, drop_step v 0 h0 hc, List.all_cons, Bool.and_assoc]
theorem valid_lp (v : List Int) (hlen : v.length ≤ 9223372036854775807) : ∃ (I : Bool × Int → Prop), ∃ (μ : Bool × Int → Nat), I (true, (0 : Int)) ∧ ∀ (x : Bool × Int), I x → (decide (x.snd <
  (↑v.length : Int)) = true → ((0 : Int) ≤ x.snd ∧ x.snd < (↑v.length : Int)) ∧ (x.fst = true → (decide ((-1000 : Int) ≤ v.getD x.snd.toNat (0 : Int)) = true → isI64 (x.snd + (1 :
  Int)) ∧ I (decide (v.getD x.snd.toNat (0 : Int) ≤ (1000 : Int)), x.snd + (1 : Int)) ∧ μ (decide (v.getD x.snd.toNat (0 : Int) ≤ (1000 : Int)), x.snd + (1 : Int)) < μ x) ∧ (decide
  ((-1000 : Int) ≤ v.getD x.snd.toNat (0 : Int)) = false → isI64 (x.snd + (1 : Int)) ∧ I (false, x.snd + (1 : Int)) ∧ μ (false, x.snd + (1 : Int)) < μ x)) ∧ (x.fst = false → isI64
  (x.snd + (1 : Int)) ∧ I (false, x.snd + (1 : Int)) ∧ μ (false, x.snd + (1 : Int)) < μ x)) ∧ (decide (x.snd < (↑v.length : Int)) = false → (x.fst = true → (decide ((1 : Int) ≤
  (↑v.length : Int)) = true → decide ((↑v.length : Int) ≤ (32 : Int)) = vecOk v) ∧ (decide ((1 : Int) ≤ (↑v.length : Int)) = false → false = vecOk v)) ∧ (x.fst = false → false =
  vecOk v)) := by
  refine ⟨fun x => 0 ≤ x.2 ∧ x.2 ≤ v.length ∧ v.all (coordOk 1000) = (x.1 && (v.drop x.2.toNat).all (coordOk 1000)), fun x => ((v.length : Int) - x.2).toNat, ⟨by simp, by simp, by simp⟩, fun x ⟨h0, h1, h2⟩ => ⟨fun hc => ?_, fun hc => ?_⟩⟩
  · have hc := of_decide_eq_true hc
    have h3 : isI64 (x.2 + 1) := i64_iff.2 (by omega)
    refine ⟨⟨h0, hc⟩, fun hx => ⟨fun g => ⟨h3, ⟨by dsimp only; omega, by dsimp only; omega, ?_⟩, by dsimp only; omega⟩, fun g => ⟨h3, ⟨by dsimp only; omega, by dsimp only; omega, ?_⟩, by dsimp only; omega⟩⟩, fun hx => ⟨h3, ⟨by dsimp only; omega, by dsimp only; omega, ?_⟩, by dsimp only; omega⟩⟩
    · exact valid_step h0 hc h2 (by rw [hx]; unfold coordOk; rw [g]; simp)
    · exact valid_step h0 hc h2 (by unfold coordOk; rw [g]; simp)
    · exact valid_step h0 hc h2 (by rw [hx]; rfl)
  · have hc := of_decide_eq_false hc
    rw [drop_end v hc] at h2
    simp only [List.all_nil, Bool.and_true] at h2
    unfold vecOk vecB
    rw [h2]
    refine ⟨fun hx => ⟨fun g => ?_, fun g => ?_⟩, fun hx => by rw [hx]; rfl⟩
    · have g := of_decide_eq_true g
      rw [hx, Bool.true_and, decide_eq_true (show 1 ≤ v.length by omega), Bool.true_and, decide_eq_decide]
      omega
    · have g := of_decide_eq_false g
      rw [hx, Bool.true_and, decide_eq_false (show ¬ 1 ≤ v.length by omega)]; rfl
theorem sat_valid : Sat Try.prog 12 validSp := sat_nf ssV0 (C := V0) valid_nf fun v hk _ => valid_lp v (len_i64 hk.1)
theorem sat_cmp1 : Sat Try.prog 39 cmp1Sp := by
  refine fnwp_sat (C := V0) ssV0 5 39 cmp1Sp fun (⟨a, b⟩ : Int × Int) hk _ => Eq.mpr (cmp1_nf a b) ?_
  refine ⟨fun h => by simp at h, fun _ => ⟨fun h => by simp at h, fun _ => ⟨fun h => ?_, fun h => ⟨fun h' => ?_, fun h' => ?_⟩⟩⟩⟩ <;> unfold sgnS
  · rw [if_pos (of_decide_eq_true h)]
  · rw [if_neg (of_decide_eq_false h), if_pos (of_decide_eq_true h')]
  · rw [if_neg (of_decide_eq_false h), if_neg (of_decide_eq_false h')]
theorem sat_clone : SatG Try.prog 41 cloneG := by
  refine fnwpG_sat (C := V0) ssV0 5 41 cloneG fun (v : List Int) hk hp => Eq.mpr (clone_nf v) ?_
  have hp : v.length ≤ 1000000 := hp
  exact fun b hb => ⟨fun h => (hb h).symm, fun _ => ⟨room8 bytesI8 (by omega), rfl⟩⟩
theorem sat_norm : Sat Try.prog 27 normSp := by
  refine fnwp_sat (C := V0) ssV0 5 27 normSp fun (⟨m, v⟩ : Int × List Int) hk hp => Eq.mpr (norm_nf m v) ?_
  obtain ⟨hm1, hm2, hl, hx⟩ : 1 ≤ m ∧ m ≤ 3 ∧ small 64 8000 v := hp
  have step := fun {x : Int × Int} (hI : normI m v x) (hc : x.2 < v.length) => normI_step hI hx hl hc
  refine ⟨fun hm => ?_, fun hn => ⟨fun hm => ?_, fun hn2 => ⟨fun hm => ?_, fun hn3 => absurd hm2 (by omega)⟩⟩⟩ <;>
    refine ⟨normI m v, fun x => ((v.length : Int) - x.2).toNat, normI_zero m v, fun x hI => ⟨fun hc => ?_, fun hc => normI_end hI (of_decide_eq_false hc)⟩⟩ <;>
    have hc := of_decide_eq_true hc <;> have h0 := hI.1 <;> obtain ⟨g1, g2, g3, g4, g5, g6, g7⟩ := step hI hc
  · have e : normStep m x.1 (v.getD x.2.toNat 0) = x.1 + max (v.getD x.2.toNat 0) (0 - v.getD x.2.toNat 0) := by unfold normStep sizeS; rw [if_pos hm]; omega
    rw [e] at g1 g2 g3
    exact ⟨⟨h0, hc⟩, isI64_small (by omega) (by omega), isI64_small (by omega) (by omega), isI64_small (by omega) (by omega), g1, by dsimp only; omega⟩
  · have e : normStep m x.1 (v.getD x.2.toNat 0) = x.1 + v.getD x.2.toNat 0 * v.getD x.2.toNat 0 := by unfold normStep; rw [if_neg hn, if_pos hm]
    rw [e] at g1 g2 g3
    exact ⟨⟨h0, hc⟩, isI64_small (by omega) (by omega), isI64_small (by omega) (by omega), isI64_small (by omega) (by omega), g1, by dsimp only; omega⟩
  · have e : normStep m x.1 (v.getD x.2.toNat 0) = max (max x.1 (v.getD x.2.toNat 0)) (0 - v.getD x.2.toNat 0) := by unfold normStep sizeS; rw [if_neg hn, if_neg hn2]; omega
    rw [e] at g1 g2 g3
    exact ⟨⟨h0, hc⟩, isI64_small (by omega) (by omega), isI64_small (by omega) (by omega), g1, by dsimp only; omega⟩
/-- All the same, every row's mean. -/
theorem meanDone {l : List (List Int)} {o : List Int} (hn : o.length = (l.getD 0 []).length) (h : ∀ i, i < (l.getD 0 []).length → o.getD i 0 = csum l i / (l.length : Int)) : o = meanS l :=
  ext_getD (by rw [hn, meanS_length]) fun i hi => by rw [h i (by omega), meanS_getD l (by omega)]
set_option maxHeartbeats 1000000 in
theorem sat_mean : Sat Try.prog 30 meanSp := by
  refine fnwp_sat (C := V0) ssV0 5 30 meanSp fun (l : List (List Int)) hk hp => Eq.mpr (mean_nf l) ?_
  obtain ⟨h1, h2, h3, h4⟩ : rows l := hp
  have hcb := fun k i => csum_bound (l.take k) i (fun v hv => (h4 v (List.mem_of_mem_take hv)).2)
  generalize hn : (l.getD 0 []).length = n at *
  refine ⟨by omega, ⟨by omega, by omega, room8 bytesI8 (by omega)⟩, fun x => 0 ≤ x.2 ∧ x.2 ≤ l.length ∧ x.1.length = n ∧ ∀ i, i < n → x.1.getD i 0 = csum (l.take x.2.toNat) i, fun x => ((l.length : Int) - x.2).toNat,
    ⟨by dsimp only; omega, by dsimp only; omega, by simp, fun i _ => by rw [getD_replicate0]; rfl⟩, fun x ⟨g0, g1, g2, g3⟩ => ⟨fun hc => ?_, fun hc => ?_⟩⟩
  · have hc := of_decide_eq_true hc
    have hrow := h4 _ (getD_memI l [] g0 hc)
    generalize hr : l.getD x.2.toNat [] = row at *
    refine ⟨⟨g0, hc⟩, fun y => 0 ≤ y.2 ∧ y.2 ≤ n ∧ y.1.length = n ∧ ∀ i, i < n → y.1.getD i 0 = csum (l.take x.2.toNat) i + if (i : Int) < y.2 then row.getD i 0 else 0, fun y => ((n : Int) - y.2).toNat,
      ⟨by dsimp only; omega, by dsimp only; omega, g2, fun i hi => by rw [g3 i hi, if_neg (by dsimp only; omega)]; omega⟩, fun y ⟨k0, k1, k2, k3⟩ => ⟨fun hd => ?_, fun hd => ?_⟩⟩
    · have hd := of_decide_eq_true hd
      rw [hrow.1] at hd
      have hb := hcb x.2.toNat y.2.toNat
      have hlt : (l.take x.2.toNat).length ≤ 100 := by rw [List.length_take]; omega
      have hrb : -4000 ≤ row.getD y.2.toNat 0 ∧ row.getD y.2.toNat 0 ≤ 4000 := hrow.2 _ (Go.PL.getD_mem row 0 (by omega))
      have hy := k3 y.2.toNat (by omega)
      rw [if_neg (by omega)] at hy
      refine ⟨⟨k0, by rw [hrow.1]; omega⟩, ⟨k0, by omega⟩, isI64_small (by omega) (by omega), ⟨k0, by omega⟩, isI64_small (by omega) (by omega), ⟨by dsimp only; omega, by dsimp only; omega, by simpa using k2, fun i hi => ?_⟩, by dsimp only; omega⟩
      dsimp only
      by_cases hiy : i = y.2.toNat
      · subst hiy
        rw [getD_set_self _ (by omega), hy, if_pos (by omega)]; omega
      · rw [Go.PL.getD_set_ne _ hiy, k3 i hi]
        by_cases hlt : (i : Int) < y.2
        · rw [if_pos hlt, if_pos (by omega)]
        · rw [if_neg hlt, if_neg (by omega)]
    · have hd := of_decide_eq_false hd
      rw [hrow.1] at hd
      refine ⟨isI64_small (by omega) (by omega), ⟨by dsimp only; omega, by dsimp only; omega, k2, fun i hi => ?_⟩, by dsimp only; omega⟩
      dsimp only
      rw [k3 i hi, if_pos (by omega), csum_take l i g0 hc, hr]
  · have hc := of_decide_eq_false hc
    have hN : 0 < (l.length : Int) := by omega
    have g3' : ∀ i, i < n → x.1.getD i 0 = csum l i := fun i hi => by rw [g3 i hi, take_all l hc]
    have hcb' := fun i => csum_bound l i (fun v hv => (h4 v hv).2)
    refine ⟨fun y => 0 ≤ y.2.2 ∧ y.2.2 ≤ n ∧ y.1 = y.2.1 ∧ y.2.1.length = n ∧ ∀ i, i < n → y.2.1.getD i 0 = if (i : Int) < y.2.2 then csum l i / (l.length : Int) else csum l i, fun y => ((n : Int) - y.2.2).toNat,
      ⟨by dsimp only; omega, by dsimp only; omega, rfl, g2, fun i hi => by rw [g3' i hi, if_neg (by dsimp only; omega)]⟩, fun ⟨y1, y, j⟩ ⟨k0, k1, ke, k2, k3⟩ => ⟨fun hd => ?_, fun hd => ?_⟩⟩
    · dsimp only at k0 k1 ke k2 k3 hd ⊢
      subst ke
      have hd := of_decide_eq_true hd
      rw [g2] at hd
      have hy := k3 j.toNat (by omega)
      rw [if_neg (by omega)] at hy
      have hb := hcb' j.toNat
      rw [hy]
      have hf := floor_eq (a := csum l j.toNat) hN
      have hset : ∀ (z : Int), z = csum l j.toNat / (l.length : Int) → ∀ w : List Int, w.length = n → (∀ i, i ≠ j.toNat → w.getD i 0 = y1.getD i 0) → w.getD j.toNat 0 = z → ∀ i, i < n → w.getD i 0 = if (i : Int) < j + 1 then csum l i / (l.length : Int) else csum l i := by
        intro z hz w hw hwo hwj i hi
        by_cases hij : i = j.toNat
        · subst hij; rw [hwj, hz, if_pos (by omega)]
        · rw [hwo i hij, k3 i hi]
          by_cases hlt : (i : Int) < j
          · rw [if_pos hlt, if_pos (by omega)]
          · rw [if_neg hlt, if_neg (by omega)]
      have htd : -1000000 ≤ (csum l j.toNat).tdiv (l.length : Int) ∧ (csum l j.toNat).tdiv (l.length : Int) ≤ 1000000 := by
        have e1 : ((csum l j.toNat).tdiv (l.length : Int)).natAbs ≤ (csum l j.toNat).natAbs := by
          rw [Int.natAbs_tdiv]; exact Nat.div_le_self _ _
        omega
      refine ⟨⟨k0, by omega⟩, ⟨by omega, isI64_small (by omega) (by omega)⟩, ⟨k0, by omega⟩, by omega, fun hm => ?_, fun hm => ?_⟩
      · have hm := of_decide_eq_true hm
        rw [getD_set_self _ (by omega)]
        refine ⟨⟨k0, by simp; omega⟩, isI64_small (by omega) (by omega), ⟨k0, by simp; omega⟩, isI64_small (by omega) (by omega), ⟨by omega, by omega, rfl, by simpa using k2, ?_⟩, by omega⟩
        exact hset _ (hf.1 hm) _ (by simpa using k2) (fun i hij => by rw [Go.PL.getD_set_ne _ hij, Go.PL.getD_set_ne _ hij]) (getD_set_self _ (by simp; omega))
      · have hm := of_decide_eq_false hm
        refine ⟨isI64_small (by omega) (by omega), ⟨by omega, by omega, rfl, by simpa using k2, ?_⟩, by omega⟩
        exact hset _ (hf.2 hm) _ (by simpa using k2) (fun i hij => Go.PL.getD_set_ne _ hij) (getD_set_self _ (by omega))
    · dsimp only at k0 k1 ke k2 k3 hd ⊢
      have hd := of_decide_eq_false hd
      rw [g2] at hd
      exact meanDone (by omega) fun i hi => by rw [k3 i (by omega), if_pos (by omega)]
theorem ssV1 : SpecSound V1 := mkctx_sound ⟨sat_size, sat_rValid, sat_rSub,
  sat_rFloor,
  sat_rCompare,
  sat_valid,
  sat_rGetInts,
  sat_getInts,
  sat_ints,
  sat_rInts,
  sat_cmp1,
  trivial⟩
  ⟨sat_clone, trivial⟩
end Go.Proofs.Ytpnfcgkocfjeiaa
