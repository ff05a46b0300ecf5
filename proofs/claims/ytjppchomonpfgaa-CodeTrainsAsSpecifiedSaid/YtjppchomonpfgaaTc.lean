import Derived.Test.YtjppchomonpfgaaTb
--@drop
namespace Go.PL
open Go.AM
theorem csum_zero (i : Nat) : csum [] i = 0 := rfl
theorem take_all {α : Type} (l : List α) {k : Int} (h : ¬ k < (l.length : Int)) : l.take k.toNat = l := List.take_of_length_le (by omega)
theorem getD_replicate0 (n i : Nat) : (List.replicate n (0 : Int)).getD i 0 = 0 := by
  rw [List.getD_eq_getElem?_getD, List.getElem?_replicate]
  split <;> rfl
theorem range_snoc (f : Nat → Int) {k : Int} (h : 0 ≤ k) : (List.range (k + 1).toNat).map f = (List.range k.toNat).map f ++ [f k.toNat] := by
  rw [show (k + 1).toNat = k.toNat + 1 by omega, List.range_succ, List.map_append]
  rfl
end Go.PL
namespace Go.Proofs.Ytjppchomonpfgaa
open Go.AM Go.PL
set_option linter.unusedVariables false

theorem has_errno {n : Int} (h : IntKind.i64.has n) : isI64 n := has_i64.1 h
theorem valid_step {v : List Int} {x : Bool × Int} {r : Bool} (h0 : 0 ≤ x.2) (hc : x.2 < v.length) (h2 : v.all (coordOk 1000) = (x.1 && (v.drop x.2.toNat).all (coordOk 1000))) (hr : r = (x.1 && coordOk 1000 (v.getD x.2.toNat 0))) :
    v.all (coordOk 1000) = (r && (v.drop (x.2 + 1).toNat).all (coordOk 1000)) := by
  rw [h2, hr, drop_step v 0 h0 hc, List.all_cons, Bool.and_assoc]
theorem valid_lp (v : List Int) (hlen : v.length ≤ 9223372036854775807) : ∃ (I : Bool × Int → Prop), ∃ (μ : Bool × Int → Nat), I (true, (0 : Int)) ∧ ∀ (x : Bool × Int), I x → (decide (x.snd <
  (↑v.length : Int)) = true → ((0 : Int) ≤ x.snd ∧ x.snd < (↑v.length : Int)) ∧ (x.fst = true → (decide ((-1000 : Int) ≤ v.getD x.snd.toNat (0 : Int)) = true → isI64 (x.snd + (1 :
  Int)) ∧ I (decide (v.getD x.snd.toNat (0 : Int) ≤ (1000 : Int)), x.snd + (1 : Int)) ∧ μ (decide (v.getD x.snd.toNat (0 : Int) ≤ (1000 : Int)), x.snd + (1 : Int)) < μ x) ∧ (decide
  ((-1000 : Int) ≤ v.getD x.snd.toNat (0 : Int)) = false → isI64 (x.snd + (1 : Int)) ∧ I (false, x.snd + (1 : Int)) ∧ μ (false, x.snd + (1 : Int)) < μ x)) ∧ (x.fst = false → isI64
  (x.snd + (1 : Int)) ∧ I (false, x.snd + (1 : Int)) ∧ μ (false, x.snd + (1 : Int)) < μ x)) ∧ (decide (x.snd < (↑v.length : Int)) = false → (x.fst = true → (decide ((1 : Int) ≤
  (↑v.length : Int)) = true → decide ((↑v.length : Int) ≤ (32 : Int)) = vecOk v) ∧ (decide ((1 : Int) ≤ (↑v.length : Int)) = false → false = vecOk v)) ∧ (x.fst = false → false =
  vecOk v)) := by
  refine ⟨fun x => 0 ≤ x.2 ∧ x.2 ≤ v.length ∧ v.all (coordOk 1000) = (x.1 && (v.drop x.2.toNat).all (coordOk 1000)), fun x => ((v.length : Int) - x.2).toNat, ⟨by simp, by simp, by simp⟩, fun x ⟨h0, h1, h2⟩ => ⟨fun hc => ?_, fun hc => ?_⟩⟩
  · have hc := of_decide_eq_true hc
    have h3 : isI64 (x.2 + 1) := i64_iff.2 (by omega)
    refine ⟨⟨h0, hc⟩, fun hx => ⟨fun g => ⟨h3, ⟨by dsimp only; omega, by dsimp only; omega, ?_⟩, by dsimp only; omega⟩, fun g => ⟨h3, ⟨by dsimp only; omega, by dsimp only; omega, ?_⟩, by dsimp only; omega⟩⟩, fun hx => ⟨h3, ⟨by dsimp only; omega, by dsimp only; omega, ?_⟩, by dsimp only; omega⟩⟩
    · exact valid_step h0 hc h2 (by rw [hx]; unfold coordOk; rw [g]; simp)
    · exact valid_step h0 hc h2 (by unfold coordOk; rw [g]; simp)
    · exact valid_step h0 hc h2 (by rw [hx]; rfl)
  · have hc := of_decide_eq_false hc
    rw [drop_end v hc] at h2
    simp only [List.all_nil, Bool.and_true] at h2
    unfold vecOk vecB
    rw [h2]
    refine ⟨fun hx => ⟨fun g => ?_, fun g => ?_⟩, fun hx => by rw [hx]; rfl⟩
    · have g := of_decide_eq_true g
      rw [hx, Bool.true_and, decide_eq_true (show 1 ≤ v.length by omega), Bool.true_and, decide_eq_decide]
      omega
    · have g := of_decide_eq_false g
      rw [hx, Bool.true_and, decide_eq_false (show ¬ 1 ≤ v.length by omega)]; rfl
theorem sat_valid : Sat Try.prog 41 validSp := sat_nf ssV0 (C := V0) valid_nf fun v hk _ => valid_lp v (len_i64 hk.1)
theorem sat_clone : SatG Try.prog 60 cloneG := by
  refine fnwpG_sat (C := V0) ssV0 5 60 cloneG fun (v : List Int) hk hp => ?_
  rw [clone_nf]
  have hp : v.length ≤ 1000000 := hp
  exact fun b hb => ⟨fun h => (hb h).symm, fun _ => ⟨room8 bytesI8 (by omega), rfl⟩⟩
theorem sat_norm : Sat Try.prog 71 normSp := by
  refine sat_nf (C := V0) ssV0 (fun x => norm_nf x.1 x.2) fun (⟨m, v⟩ : Int × List Int) hk hp => ?_
  try dsimp only
  obtain ⟨hm1, hm2, hl, hx⟩ : 1 ≤ m ∧ m ≤ 3 ∧ small 64 8000 v := hp
  have step := fun {x : Int × Int} (hI : normI m v x) (hc : x.2 < v.length) => normI_step hI hx hl hc
  refine ⟨fun hm => ?_, fun hn => ⟨fun hm => ?_, fun hn2 => ⟨fun hm => ?_, fun hn3 => absurd hm2 (by omega)⟩⟩⟩ <;>
    refine ⟨normI m v, fun x => ((v.length : Int) - x.2).toNat, normI_zero m v, fun x hI => ⟨fun hc => ?_, fun hc => normI_end hI (of_decide_eq_false hc)⟩⟩ <;>
    have hc := of_decide_eq_true hc <;> have h0 := hI.1 <;> obtain ⟨g1, g2, g3, g4, g5, g6, g7⟩ := step hI hc
  · have e : normStep m x.1 (v.getD x.2.toNat 0) = x.1 + max (v.getD x.2.toNat 0) (0 - v.getD x.2.toNat 0) := by unfold normStep sizeS; rw [if_pos hm]; omega
    rw [e] at g1 g2 g3
    exact ⟨⟨h0, hc⟩, isI64_small (by omega) (by omega), isI64_small (by omega) (by omega), isI64_small (by omega) (by omega), g1, by dsimp only; omega⟩
  · have e : normStep m x.1 (v.getD x.2.toNat 0) = x.1 + v.getD x.2.toNat 0 * v.getD x.2.toNat 0 := by unfold normStep; rw [if_neg hn, if_pos hm]
    rw [e] at g1 g2 g3
    exact ⟨⟨h0, hc⟩, isI64_small (by omega) (by omega), isI64_small (by omega) (by omega), isI64_small (by omega) (by omega), g1, by dsimp only; omega⟩
  · have e : normStep m x.1 (v.getD x.2.toNat 0) = max (max x.1 (v.getD x.2.toNat 0)) (0 - v.getD x.2.toNat 0) := by unfold normStep sizeS; rw [if_neg hn, if_neg hn2]; omega
    rw [e] at g1 g2 g3
    exact ⟨⟨h0, hc⟩, isI64_small (by omega) (by omega), isI64_small (by omega) (by omega), g1, by dsimp only; omega⟩
/-- All the same, every row's mean. -/
theorem meanDone {l : List (List Int)} {o : List Int} (hn : o.length = (l.getD 0 []).length) (h : ∀ i, i < (l.getD 0 []).length → o.getD i 0 = csum l i / (l.length : Int)) : o = meanS l :=
  ext_getD (by rw [hn, meanS_length]) fun i hi => by rw [h i (by omega), meanS_getD l (by omega)]
theorem ssV1 : SpecSound V1 := mkctx_sound ⟨sat_size, sat_rValid, sat_rSub,
  sat_rCompare,
  sat_valid,
  trivial⟩
  ⟨sat_clone, trivial⟩
end Go.Proofs.Ytjppchomonpfgaa
