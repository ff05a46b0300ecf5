import Derived.Test.YtighbmlnlmbbkaaHr
namespace Go.Proofs.Ytighbmlnlmbbkaa
open Go.AM Go.PL
set_option linter.unusedVariables false
theorem l4_nf (l : List Hit) (k : Int) : fnwp HL1 6 6 (lawSp [HL, I]) (l, k) = ((decide ((40 : Int) < (↑l.length : Int)) = true → True ∧ true = true) ∧ (decide ((40 : Int) <
  (↑l.length : Int)) = false → True ∧ ((!allRightH l) = true → True ∧ true = true) ∧ ((!allRightH l) = false → True ∧ ((!kH k) = true → True ∧ true = true) ∧ ((!kH k) = false →
  (l.length ≤ (1000 : Nat) ∧ (0 : Int) ≤ k) ∧ True ∧ ((!validH (ofH l k) k) = true → false = true) ∧ ((!validH (ofH l k) k) = false → ∃ (I : Int × Int → Prop), ∃ (μ : Int × Int →
  Nat), I ((0 : Int), (0 : Int)) ∧ ∀ (x : Int × Int), I x → (decide (x.fst < (↑(ofH l k).length : Int)) = true → ((0 : Int) ≤ x.fst ∧ x.fst < (↑(ofH l k).length : Int)) ∧ ∃ (I_1 :
  Int × Int × Int × Int × Int → Prop), ∃ (μ_1 : Int × Int × Int × Int × Int → Nat), I_1 ((0 : Int), x.snd, ((ofH l k).getD x.fst.toNat ((0 : Int), (0 : Int), (0 : Int), ())).fst,
  ((ofH l k).getD x.fst.toNat ((0 : Int), (0 : Int), (0 : Int), ())).snd.fst, ((ofH l k).getD x.fst.toNat ((0 : Int), (0 : Int), (0 : Int), ())).snd.snd.fst) ∧ ∀ (x_1 : Int × Int ×
  Int × Int × Int), I_1 x_1 → (decide (x_1.fst < (↑l.length : Int)) = true → ((0 : Int) ≤ x_1.fst ∧ x_1.fst < (↑l.length : Int)) ∧ ((decide ((l.getD x_1.fst.toNat ((0 : Int), (0 :
  Int), (0 : Int), ())).fst = x_1.snd.snd.fst) && (decide ((l.getD x_1.fst.toNat ((0 : Int), (0 : Int), (0 : Int), ())).snd.fst = x_1.snd.snd.snd.fst) && (decide ((l.getD
  x_1.fst.toNat ((0 : Int), (0 : Int), (0 : Int), ())).snd.snd.fst = x_1.snd.snd.snd.snd) && true))) = true → isI64 (x_1.snd.fst + (1 : Int)) ∧ isI64 (x.fst + (1 : Int)) ∧ I (x.fst
  + (1 : Int), x_1.snd.fst + (1 : Int)) ∧ μ (x.fst + (1 : Int), x_1.snd.fst + (1 : Int)) < μ x) ∧ ((decide ((l.getD x_1.fst.toNat ((0 : Int), (0 : Int), (0 : Int), ())).fst =
  x_1.snd.snd.fst) && (decide ((l.getD x_1.fst.toNat ((0 : Int), (0 : Int), (0 : Int), ())).snd.fst = x_1.snd.snd.snd.fst) && (decide ((l.getD x_1.fst.toNat ((0 : Int), (0 : Int),
  (0 : Int), ())).snd.snd.fst = x_1.snd.snd.snd.snd) && true))) = false → isI64 (x_1.fst + (1 : Int)) ∧ I_1 (x_1.fst + (1 : Int), x_1.snd.fst, x_1.snd.snd.fst, x_1.snd.snd.snd.fst,
  x_1.snd.snd.snd.snd) ∧ μ_1 (x_1.fst + (1 : Int), x_1.snd.fst, x_1.snd.snd.fst, x_1.snd.snd.snd.fst, x_1.snd.snd.snd.snd) < μ_1 x_1)) ∧ (decide (x_1.fst < (↑l.length : Int)) =
  false → isI64 (x.fst + (1 : Int)) ∧ I (x.fst + (1 : Int), x_1.snd.fst) ∧ μ (x.fst + (1 : Int), x_1.snd.fst) < μ x)) ∧ (decide (x.fst < (↑(ofH l k).length : Int)) = false → ∃ (I :
  Int → Prop), ∃ (μ : Int → Nat), I (0 : Int) ∧ ∀ (x_1 : Int), I x_1 → (decide (x_1 < (↑l.length : Int)) = true → ((0 : Int) ≤ x_1 ∧ x_1 < (↑l.length : Int)) ∧ ∃ (I_1 : Int × Bool
  × Int × Int × Int → Prop), ∃ (μ_1 : Int × Bool × Int × Int × Int → Nat), I_1 ((0 : Int), false, (l.getD x_1.toNat ((0 : Int), (0 : Int), (0 : Int), ())).fst, (l.getD x_1.toNat
  ((0 : Int), (0 : Int), (0 : Int), ())).snd.fst, (l.getD x_1.toNat ((0 : Int), (0 : Int), (0 : Int), ())).snd.snd.fst) ∧ ∀ (x : Int × Bool × Int × Int × Int), I_1 x → (decide
  (x.fst < (↑(ofH l k).length : Int)) = true → ((0 : Int) ≤ x.fst ∧ x.fst < (↑(ofH l k).length : Int)) ∧ (x.snd.fst = true → (decide (((ofH l k).getD x.fst.toNat ((0 : Int), (0 :
  Int), (0 : Int), ())).fst = x.snd.snd.fst) = true → True ∧ (ltH (x.snd.snd.fst, x.snd.snd.snd.fst, x.snd.snd.snd.snd, ()) (((ofH l k).getD x.fst.toNat ((0 : Int), (0 : Int), (0 :
  Int), ())).fst, ((ofH l k).getD x.fst.toNat ((0 : Int), (0 : Int), (0 : Int), ())).snd.fst, ((ofH l k).getD x.fst.toNat ((0 : Int), (0 : Int), (0 : Int), ())).snd.snd.fst, ()) =
  true → false = true) ∧ (ltH (x.snd.snd.fst, x.snd.snd.snd.fst, x.snd.snd.snd.snd, ()) (((ofH l k).getD x.fst.toNat ((0 : Int), (0 : Int), (0 : Int), ())).fst, ((ofH l k).getD
  x.fst.toNat ((0 : Int), (0 : Int), (0 : Int), ())).snd.fst, ((ofH l k).getD x.fst.toNat ((0 : Int), (0 : Int), (0 : Int), ())).snd.snd.fst, ()) = false → isI64 (x.fst + (1 :
  Int)) ∧ I_1 (x.fst + (1 : Int), true, x.snd.snd.fst, x.snd.snd.snd.fst, x.snd.snd.snd.snd) ∧ μ_1 (x.fst + (1 : Int), true, x.snd.snd.fst, x.snd.snd.snd.fst, x.snd.snd.snd.snd) <
  μ_1 x)) ∧ (decide (((ofH l k).getD x.fst.toNat ((0 : Int), (0 : Int), (0 : Int), ())).fst = x.snd.snd.fst) = false → isI64 (x.fst + (1 : Int)) ∧ I_1 (x.fst + (1 : Int), true,
  x.snd.snd.fst, x.snd.snd.snd.fst, x.snd.snd.snd.snd) ∧ μ_1 (x.fst + (1 : Int), true, x.snd.snd.fst, x.snd.snd.snd.fst, x.snd.snd.snd.snd) < μ_1 x)) ∧ (x.snd.fst = false → (decide
  (((ofH l k).getD x.fst.toNat ((0 : Int), (0 : Int), (0 : Int), ())).fst = x.snd.snd.fst) = true → True ∧ (ltH (x.snd.snd.fst, x.snd.snd.snd.fst, x.snd.snd.snd.snd, ()) (((ofH l
  k).getD x.fst.toNat ((0 : Int), (0 : Int), (0 : Int), ())).fst, ((ofH l k).getD x.fst.toNat ((0 : Int), (0 : Int), (0 : Int), ())).snd.fst, ((ofH l k).getD x.fst.toNat ((0 :
  Int), (0 : Int), (0 : Int), ())).snd.snd.fst, ()) = true → false = true) ∧ (ltH (x.snd.snd.fst, x.snd.snd.snd.fst, x.snd.snd.snd.snd, ()) (((ofH l k).getD x.fst.toNat ((0 : Int),
  (0 : Int), (0 : Int), ())).fst, ((ofH l k).getD x.fst.toNat ((0 : Int), (0 : Int), (0 : Int), ())).snd.fst, ((ofH l k).getD x.fst.toNat ((0 : Int), (0 : Int), (0 : Int),
  ())).snd.snd.fst, ()) = false → isI64 (x.fst + (1 : Int)) ∧ I_1 (x.fst + (1 : Int), decide (((ofH l k).getD x.fst.toNat ((0 : Int), (0 : Int), (0 : Int), ())).fst =
  x.snd.snd.fst), x.snd.snd.fst, x.snd.snd.snd.fst, x.snd.snd.snd.snd) ∧ μ_1 (x.fst + (1 : Int), decide (((ofH l k).getD x.fst.toNat ((0 : Int), (0 : Int), (0 : Int), ())).fst =
  x.snd.snd.fst), x.snd.snd.fst, x.snd.snd.snd.fst, x.snd.snd.snd.snd) < μ_1 x)) ∧ (decide (((ofH l k).getD x.fst.toNat ((0 : Int), (0 : Int), (0 : Int), ())).fst = x.snd.snd.fst)
  = false → isI64 (x.fst + (1 : Int)) ∧ I_1 (x.fst + (1 : Int), decide (((ofH l k).getD x.fst.toNat ((0 : Int), (0 : Int), (0 : Int), ())).fst = x.snd.snd.fst), x.snd.snd.fst,
  x.snd.snd.snd.fst, x.snd.snd.snd.snd) ∧ μ_1 (x.fst + (1 : Int), decide (((ofH l k).getD x.fst.toNat ((0 : Int), (0 : Int), (0 : Int), ())).fst = x.snd.snd.fst), x.snd.snd.fst,
  x.snd.snd.snd.fst, x.snd.snd.snd.snd) < μ_1 x))) ∧ (decide (x.fst < (↑(ofH l k).length : Int)) = false → ((!x.snd.fst) = true → ((!decide ((↑(ofH l k).length : Int) = k)) = true
  → false = true) ∧ ((!decide ((↑(ofH l k).length : Int) = k)) = false → isI64 ((↑(ofH l k).length : Int) - (1 : Int)) ∧ ((0 : Int) ≤ (↑(ofH l k).length : Int) - (1 : Int) ∧ (↑(ofH
  l k).length : Int) - (1 : Int) < (↑(ofH l k).length : Int)) ∧ True ∧ (ltH (x.snd.snd.fst, x.snd.snd.snd.fst, x.snd.snd.snd.snd, ()) ((ofH l k).getD ((↑(ofH l k).length : Int) -
  (1 : Int)).toNat ((0 : Int), (0 : Int), (0 : Int), ())) = true → false = true) ∧ (ltH (x.snd.snd.fst, x.snd.snd.snd.fst, x.snd.snd.snd.snd, ()) ((ofH l k).getD ((↑(ofH l
  k).length : Int) - (1 : Int)).toNat ((0 : Int), (0 : Int), (0 : Int), ())) = false → isI64 (x_1 + (1 : Int)) ∧ I (x_1 + (1 : Int)) ∧ μ (x_1 + (1 : Int)) < μ x_1))) ∧
  ((!x.snd.fst) = false → isI64 (x_1 + (1 : Int)) ∧ I (x_1 + (1 : Int)) ∧ μ (x_1 + (1 : Int)) < μ x_1))) ∧ (decide (x_1 < (↑l.length : Int)) = false → True ∧ true = true ∧ decide
  (x.snd = (↑(ofH l k).length : Int)) = true))))))) := by kernel_rfl
theorem sat_L4 : Sat bs.P 6 (lawSp [HL, I]) := by
  refine sat_nf (C := HL1) ssHL1 (fun x => l4_nf x.1 x.2) fun (⟨l, k⟩ : List Hit × Int) hk _ => ?_
  try dsimp only
  simp only [hitEta, show (((0 : Int), (0 : Int), (0 : Int), ()) : Hit) = hit0 from rfl]
  refine ⟨fun _ => ⟨trivial, by trivial⟩, fun hl => ⟨trivial, fun _ => ⟨trivial, by trivial⟩, fun ha => ⟨trivial, fun _ => ⟨trivial, by trivial⟩, fun hkk => ?_⟩⟩⟩
  have hl := df hl
  have ha := allRight_iff (nf ha)
  obtain ⟨k1, k2⟩ := kH_iff (nf hkk)
  have hT := isOf_ofH l k
  have vT := hT.valid k1 k2 ha
  have hv := valid_of vT
  generalize ofH l k = T at hT vT hv ⊢
  have hTl := isOf_len hT
  refine ⟨⟨by omega, by omega⟩, trivial, fun h => (by rw [hv] at h; cases h), fun _ => ?_⟩
  refine ⟨fun x => 0 ≤ x.1 ∧ x.1 ≤ T.length ∧ x.2 = x.1, fun x => (T.length - x.1).toNat, ⟨by omega, by omega, rfl⟩, ?_⟩
  rintro ⟨i, n⟩ ⟨h0, h1, h2⟩
  dsimp only at h0 h1 h2 ⊢
  subst h2
  refine ⟨fun hlt => ?_, fun hlt => ?_⟩
  · have hlt := dt hlt
    have hmem : T.getD n.toNat hit0 ∈ l := (hT.rep _ (PL.getD_mem T hit0 (show n.toNat < T.length by omega))).1
    generalize T.getD n.toNat hit0 = t at hmem ⊢
    refine ⟨⟨h0, hlt⟩, fun x => 0 ≤ x.1 ∧ x.1 ≤ l.length ∧ x.2.1 = n ∧ x.2.2.1 = t.1 ∧ x.2.2.2.1 = t.2.1 ∧ x.2.2.2.2 = t.2.2.1 ∧ ∀ j, j < x.1.toNat → l.getD j hit0 ≠ t, fun x => (l.length - x.1).toNat, ⟨by omega, by omega, rfl, rfl, rfl, rfl, by simp⟩, ?_⟩
    rintro ⟨j, m, c1, c2, c3⟩ ⟨h3, h4, h5, h6, h7, h8, h9⟩
    dsimp only at h3 h4 h5 h6 h7 h8 h9 ⊢
    subst h5
    subst h6
    subst h7
    subst h8
    simp only [hit_eqs]
    refine ⟨fun hj => ?_, fun hj => ?_⟩
    · have hj := dt hj
      refine ⟨⟨h3, hj⟩, fun he => ⟨i64s (by omega) (by omega), i64s (by omega) (by omega), ⟨by omega, by omega, (by trivial)⟩, by omega⟩, fun he => ⟨i64s (by omega) (by omega), ⟨by omega, by omega, (by trivial), (by trivial), (by trivial), (by trivial), fun q hq => ?_⟩, by omega⟩⟩
      by_cases e : q = j.toNat
      · rw [e]; exact df he
      · exact h9 q (by omega)
    · have hj := df hj
      exfalso
      obtain ⟨q, hq, e⟩ := List.getElem_of_mem hmem
      exact h9 q (by omega) (by rw [getE l hq]; exact e)
  · have hlt := df hlt
    refine ⟨fun x => 0 ≤ x ∧ x ≤ l.length, fun x => (l.length - x).toNat, ⟨by omega, by omega⟩, ?_⟩
    rintro i ⟨h3, h4⟩
    dsimp only
    refine ⟨fun hi => ?_, fun hi => ⟨trivial, by trivial, decide_eq_true (by omega)⟩⟩
    have hi := dt hi
    have hmem := PL.getD_mem l hit0 (show i.toNat < l.length by omega)
    generalize l.getD i.toNat hit0 = h at hmem ⊢
    have hnext : isI64 (i + 1) ∧ (0 ≤ i + 1 ∧ i + 1 ≤ l.length) ∧ (l.length - (i + 1)).toNat < (l.length - i).toNat := ⟨i64s (by omega) (by omega), ⟨by omega, by omega⟩, by omega⟩
    refine ⟨⟨h3, hi⟩, fun x => 0 ≤ x.1 ∧ x.1 ≤ T.length ∧ x.2.1 = hasH (T.take x.1.toNat) h.1 ∧ x.2.2.1 = h.1 ∧ x.2.2.2.1 = h.2.1 ∧ x.2.2.2.2 = h.2.2.1, fun x => (T.length - x.1).toNat, ⟨by omega, by omega, rfl, rfl, rfl, rfl⟩, ?_⟩
    rintro ⟨j, f, c1, c2, c3⟩ ⟨h5, h6, h7, h8, h9, h10⟩
    dsimp only at h5 h6 h7 h8 h9 h10 ⊢
    subst h8
    subst h9
    subst h10
    simp only [hitEta]
    refine ⟨fun hj => ?_, fun hj => ?_⟩
    · have hj := dt hj
      have hst := hasH_step T h5 hj h.1
      have htm := PL.getD_mem T hit0 (show j.toNat < T.length by omega)
      have hrep := (hT.rep _ htm).2 h hmem
      generalize T.getD j.toNat hit0 = t at hst htm hrep ⊢
      have h64 : isI64 (j + 1) := i64s (by omega) (by omega)
      have hμ : (T.length - (j + 1)).toNat < (T.length - j).toNat := by omega
      refine ⟨⟨h5, hj⟩, fun hf => ⟨fun he => ⟨trivial, fun hb => ?_, fun _ => ⟨h64, ⟨by omega, by omega, ?_, (by trivial), (by trivial), (by trivial)⟩, hμ⟩⟩, fun he => ⟨h64, ⟨by omega, by omega, ?_, (by trivial), (by trivial), (by trivial)⟩, hμ⟩⟩,
        fun hf => ⟨fun he => ⟨trivial, fun hb => ?_, fun _ => ⟨h64, ⟨by omega, by omega, ?_, (by trivial), (by trivial), (by trivial)⟩, hμ⟩⟩, fun he => ⟨h64, ⟨by omega, by omega, ?_, (by trivial), (by trivial), (by trivial)⟩, hμ⟩⟩⟩
      · rw [hrep (dt he).symm] at hb; cases hb
      · rw [hst, ← h7, hf, Bool.or_true]
      · rw [hst, ← h7, hf, Bool.or_true]
      · rw [hrep (dt he).symm] at hb; cases hb
      · rw [hst, ← h7, hf, Bool.or_false]
      · rw [hst, ← h7, hf, Bool.or_false]
    · have hj := df hj
      rw [List.take_of_length_le (by omega)] at h7
      refine ⟨fun hf => ?_, fun _ => hnext⟩
      rw [h7] at hf
      have hno := (hasH_no _ _).1 (nt hf)
      rcases hT.all h hmem with ⟨t, h11, h12⟩ | ⟨h11, h12⟩
      · exact absurd h12 (hno t h11)
      · refine ⟨fun he => absurd (show (T.length : Int) = k by omega) (ndt he), fun _ => ⟨i64s (by omega) (by omega), ⟨by omega, by omega⟩, trivial, fun hb => ?_, fun _ => hnext⟩⟩
        have := h12 _ (PL.getD_mem T hit0 (show ((T.length : Int) - 1).toNat < T.length by omega))
        rw [ltAs this] at hb
        cases hb
end Go.Proofs.Ytighbmlnlmbbkaa
