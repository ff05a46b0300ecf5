import Derived.Test.YtjppchomonpfgaaTc
--@drop
namespace Go.PL
theorem nd_t {p : Prop} [Decidable p] (h : (!decide p) = true) : ¬ p := fun e => by rw [decide_eq_true e] at h; cases h
theorem nd_f {p : Prop} [Decidable p] (h : (!decide p) = false) : p := by
  by_cases e : p
  · exact e
  · rw [decide_eq_false e] at h; cases h
end Go.PL
namespace Go.Proofs.Ytjppchomonpfgaa
open Go.AM Go.PL
set_option linter.unusedVariables false

theorem lex_ok (a b : List Int) (hla : a.length ≤ 9223372036854775807) : ∃ (I : Int → Prop), ∃ (μ : Int → Nat), I (0 : Int) ∧ ∀ (x : Int), I x → (decide (x < (↑a.length : Int)) = true → ((0 : Int) ≤ x ∧ x < (↑a.length : Int)) ∧
    (decide ((↑b.length : Int) ≤ x) = true → (1 : Int) = lexS a b) ∧ (decide ((↑b.length : Int) ≤ x) = false → ((0 : Int) ≤ x ∧ x < (↑b.length : Int)) ∧ True ∧
    ((!decide (sgnS (a.getD x.toNat (0 : Int)) (b.getD x.toNat (0 : Int)) = (0 : Int))) = true → sgnS (a.getD x.toNat (0 : Int)) (b.getD x.toNat (0 : Int)) = lexS a b) ∧
    ((!decide (sgnS (a.getD x.toNat (0 : Int)) (b.getD x.toNat (0 : Int)) = (0 : Int))) = false → isI64 (x + (1 : Int)) ∧ I (x + (1 : Int)) ∧ μ (x + (1 : Int)) < μ x))) ∧
    (decide (x < (↑a.length : Int)) = false → (decide ((↑a.length : Int) < (↑b.length : Int)) = true → (-1 : Int) = lexS a b) ∧ (decide ((↑a.length : Int) < (↑b.length : Int)) = false → (0 : Int) = lexS a b)) := by
  refine ⟨fun i => 0 ≤ i ∧ i ≤ a.length ∧ i ≤ b.length ∧ lexS a b = lexS (a.drop i.toNat) (b.drop i.toNat), fun i => ((a.length : Int) - i).toNat, ⟨by omega, by omega, by omega, by simp⟩, fun i ⟨h0, h1, h1b, h2⟩ => ⟨fun hc => ?_, fun hc => ?_⟩⟩
  · have hc := of_decide_eq_true hc
    rw [drop_step a 0 h0 hc] at h2
    refine ⟨⟨h0, hc⟩, fun g => ?_, fun g => ?_⟩
    · have g := of_decide_eq_true g
      rw [drop_end b (by omega), lexS] at h2
      exact h2.symm
    · have g := of_decide_eq_false g
      rw [drop_step b 0 h0 (by omega), lexS_cons] at h2
      refine ⟨⟨h0, by omega⟩, trivial, fun q => ?_, fun q => ?_⟩
      · rw [if_neg (by simpa using q)] at h2
        exact h2.symm
      · rw [if_pos (by simpa using q)] at h2
        exact ⟨i64_iff.2 (by omega), ⟨by omega, by omega, by omega, h2⟩, by dsimp only; omega⟩
  · have hc := of_decide_eq_false hc
    rw [drop_end a hc] at h2
    refine ⟨fun g => ?_, fun g => ?_⟩
    · have g := of_decide_eq_true g
      rw [drop_step b 0 h0 (by omega), lexS] at h2
      exact h2.symm
    · have g := of_decide_eq_false g
      rw [drop_end b (by omega), lexS] at h2
      exact h2.symm
theorem sat_rNorm : Sat Try.prog 56 normSp := by
  refine sat_nf (C := V1) ssV1 (fun x => rNorm_nf x.1 x.2) fun (⟨m, v⟩ : Int × List Int) hk hp => ?_
  obtain ⟨hm1, hm2, hl, hx⟩ : 1 ≤ m ∧ m ≤ 3 ∧ small 64 8000 v := hp
  dsimp only
  refine ⟨normI m v, fun x => ((v.length : Int) - x.2).toNat, normI_zero m v, fun x hI => ⟨fun hc => ?_, fun hc => normI_end hI (of_decide_eq_false hc)⟩⟩
  have hc := of_decide_eq_true hc
  have h0 := hI.1
  obtain ⟨g1, g2, g3, g4, g5, g6, g7⟩ := normI_step hI hx hl hc
  refine ⟨fun hm => ?_, fun hn => ⟨fun hm => ?_, fun hn2 => ?_⟩⟩
  · have hm := of_decide_eq_true hm
    have e : normStep m x.1 (v.getD x.2.toNat 0) = x.1 + sizeS (v.getD x.2.toNat 0) := by unfold normStep; rw [if_pos hm]
    rw [e] at g1 g2 g3
    exact ⟨⟨h0, hc⟩, by omega, isI64_small (by omega) (by omega), isI64_small (by omega) (by omega), g1, by dsimp only; omega⟩
  · have hn := of_decide_eq_false hn
    have hm := of_decide_eq_true hm
    have e : normStep m x.1 (v.getD x.2.toNat 0) = x.1 + v.getD x.2.toNat 0 * v.getD x.2.toNat 0 := by unfold normStep; rw [if_neg hn, if_pos hm]
    rw [e] at g1 g2 g3
    exact ⟨⟨h0, hc⟩, ⟨h0, hc⟩, isI64_small (by omega) (by omega), isI64_small (by omega) (by omega), isI64_small (by omega) (by omega), g1, by dsimp only; omega⟩
  · have hn := of_decide_eq_false hn
    have hn2 := of_decide_eq_false hn2
    have e : normStep m x.1 (v.getD x.2.toNat 0) = max x.1 (sizeS (v.getD x.2.toNat 0)) := by unfold normStep; rw [if_neg hn, if_neg hn2]
    rw [e] at g1 g2 g3
    exact ⟨⟨h0, hc⟩, by omega, isI64_small (by omega) (by omega), g1, by dsimp only; omega⟩
theorem sub_ok {a b : List Int} (h : small 64 4000 a ∧ small 64 4000 b ∧ a.length = b.length) : small 64 8000 (subS a b) :=
  ⟨by rw [subS_length h.2.2]; exact h.1.1, subS_small (c := 4000) (d := 4000) h.1.2 h.2.1.2⟩
theorem sat_sub : Sat Try.prog 72 subSp := by
  refine sat_nf (C := V1) ssV1 (fun x => sub_nf x.1 x.2) fun (⟨a, b⟩ : List Int × List Int) hk hp => ?_
  obtain ⟨ha, hb, hl⟩ : small 64 4000 a ∧ small 64 4000 b ∧ a.length = b.length := hp
  have hal := ha.1
  dsimp only
  refine ⟨by omega, fun x => 0 ≤ x.2 ∧ x.2 ≤ a.length ∧ x.1.length = a.length ∧ ∀ i, i < a.length → x.1.getD i 0 = if (i : Int) < x.2 then a.getD i 0 - b.getD i 0 else a.getD i 0, fun x => ((a.length : Int) - x.2).toNat,
    ⟨by dsimp only; omega, by dsimp only; omega, rfl, fun i hi => by rw [if_neg (by dsimp only; omega)]⟩, fun ⟨o, j⟩ ⟨h0, h1, h2, h3⟩ => ⟨fun hc => ?_, fun hc => ?_⟩⟩
  · dsimp only at h0 h1 h2 h3 hc ⊢
    have hc := of_decide_eq_true hc
    have e := h3 j.toNat (by omega)
    rw [if_neg (by omega)] at e
    have m1 := getD_small ha (by omega) j.toNat
    have m2 := getD_small hb (by omega) j.toNat
    rw [e]
    refine ⟨⟨h0, by omega⟩, ⟨h0, by omega⟩, isI64_small (by omega) (by omega), ⟨h0, by omega⟩, isI64_small (by omega) (by omega), ⟨by omega, by omega, by simpa using h2, fun i hi => ?_⟩, by omega⟩
    by_cases hij : i = j.toNat
    · subst hij
      rw [getD_set_self _ (by omega), if_pos (by omega)]
    · rw [Go.PL.getD_set_ne _ hij, h3 i hi]
      by_cases hlt : (i : Int) < j
      · rw [if_pos hlt, if_pos (by omega)]
      · rw [if_neg hlt, if_neg (by omega)]
  · dsimp only at h0 h1 h2 h3 hc ⊢
    have hc := of_decide_eq_false hc
    exact ext_getD (by rw [subS_length hl, h2]) fun i hi => by rw [h3 i (by omega), if_pos (by omega), subS_getD hl (by omega)]
theorem alike_ok {a b : List Int} : alikeB a b = (decide ((a.length : Int) = (b.length : Int)) && (vecOk a && vecOk b)) := by
  unfold alikeB
  have : decide (a.length = b.length) = decide ((a.length : Int) = (b.length : Int)) := by rw [decide_eq_decide]; omega
  rw [this]
  cases decide ((a.length : Int) = (b.length : Int)) <;> cases vecOk a <;> cases vecOk b <;> rfl
theorem sat_rAlike : Sat Try.prog 58 alikeSp := by
  refine sat_nf (C := V1) ssV1 (fun x => rAlike_nf x.1 x.2) fun (⟨a, b⟩ : List Int × List Int) hk hp => ?_
  dsimp only
  rw [alike_ok]
  refine ⟨trivial, fun h => ⟨trivial, fun h' => ?_, fun h' => ?_⟩, fun h => ?_⟩
  · rw [h, h']; simp
  · rw [h, h']; simp
  · rw [h]; simp
theorem sat_alike : Sat Try.prog 74 alikeSp := by
  refine sat_nf (C := V1) ssV1 (fun x => alike_nf x.1 x.2) fun (⟨a, b⟩ : List Int × List Int) hk hp => ?_
  dsimp only
  rw [alike_ok]
  refine ⟨fun h => ⟨trivial, fun h' => ⟨trivial, ?_⟩, fun h' => ?_⟩, fun h => ?_⟩
  · rw [h, h']; simp
  · rw [h, h']; simp
  · rw [h]; simp
theorem sat_rSame : Sat Try.prog 17 same4Sp := by
  refine sat_nf (C := V1) ssV1 (fun x => rSame_nf x.1 x.2) fun ⟨a, b⟩ hk hp => ⟨trivial, ?_⟩
  rw [decide_eq_decide]
  exact cmpS_eq0
theorem ssV2 : SpecSound V2 := mkctx_sound ⟨sat_rSub, sat_rNorm,
  sat_rAlike,
  sat_sub, sat_norm,
  trivial⟩ trivial
theorem sat_rKey : Sat Try.prog 29 keySp :=
  sat_nf (C := V2) ssV2 (fun x => rKey_nf x.1 x.2.1 x.2.2) fun ⟨m, a, b⟩ hk hp => ⟨hp.2.2, ⟨hp.1, hp.2.1, sub_ok hp.2.2⟩, rfl⟩
theorem sat_key : Sat Try.prog 55 keySp :=
  sat_nf (C := V2) ssV2 (fun x => key_nf x.1 x.2.1 x.2.2) fun ⟨m, a, b⟩ hk hp => ⟨hp.2.2, ⟨hp.1, hp.2.1, sub_ok hp.2.2⟩, rfl⟩
theorem sat_rAll : Sat Try.prog 30 allSp := by
  refine sat_nf (C := V2) ssV2 (fun x => rAll_nf x.1 x.2) fun (⟨l, n⟩ : List (List Int) × Int) hk _ => ?_
  have hl : l.length ≤ 9223372036854775807 := len_i64 hk.1.1
  dsimp only
  refine ⟨fun i => 0 ≤ i ∧ i ≤ l.length ∧ l.all (alikeB (l.getD 0 [])) = (l.drop i.toNat).all (alikeB (l.getD 0 [])), fun i => ((l.length : Int) - i).toNat, ⟨by omega, by omega, by simp⟩, fun i ⟨h0, h1, h2⟩ => ⟨fun hc => ?_, fun hc => ?_⟩⟩
  · have hc := of_decide_eq_true hc
    rw [drop_step l [] h0 hc, List.all_cons] at h2
    refine ⟨⟨by omega, by omega⟩, ⟨h0, hc⟩, trivial, fun g => ?_, fun g => ⟨i64_iff.2 (by omega), ⟨by omega, by omega, ?_⟩, by dsimp only; omega⟩⟩
    · have g : alikeB (l.getD 0 []) (l.getD i.toNat []) = false := by simpa using g
      unfold allB
      rw [h2, g]; rfl
    · have g : alikeB (l.getD 0 []) (l.getD i.toNat []) = true := by simpa using g
      rw [h2, g]; rfl
  · have hc := of_decide_eq_false hc
    rw [drop_end l hc, List.all_nil] at h2
    unfold allB
    rw [h2]
    exact ⟨fun g => by rw [g]; rfl, fun g => by rw [g]; rfl⟩
end Go.Proofs.Ytjppchomonpfgaa
