import Derived.Test.YtdeleoaeegmhlaaMFi
namespace Go.Proofs.Ytdeleoaeegmhlaa
open Go.AM Go.PL
set_option linter.unusedVariables false
attribute [local irreducible] fnwp fnwpG fnwpI fnwpH
theorem sat_joinF (n : Nat) : Sat Try.prog 20 (joinFSp n) := by
  refine sat_nf (C := FJc n) (mkctxH_sound ⟨sat_areasP n, trivial⟩ trivial trivial ⟨sat_joinW n, trivial⟩) (fun x => join_nf n x.1 x.2) fun (x : Dv × Int) hk hp => ?_
  obtain ⟨d, p⟩ := x
  obtain ⟨g, hpl⟩ : GoodN n d ∧ p ≤ 1000000 := hp
  have ed : ((d.fst, d.snd.fst, d.snd.snd.fst, ()) : Dv) = d := rfl
  dsimp only
  simp only [eta, ed]
  obtain ⟨v1, v2⟩ : (-9223372036854775808 : Int) ≤ d.2.1 ∧ d.2.1 ≤ 9223372036854775807 := hk.1.2.1
  have hw := good_preW g
  have hpre := g.pre
  have z : decide ((1073741824 : Int) ≤ 0) = false := decide_eq_false (by omega)
  have i0 : isI64 (0 + 1) := i64s (by omega) (by omega)
  by_cases c0 : p < 0
  · have e0 := decide_eq_true c0
    have hr : joinRes n d p = (d, 5) := by unfold joinRes; rw [if_pos (.inl c0)]
    simp only [e0, hr, Bool.true_eq_false, false_implies, true_implies, and_self]
  have e0 := decide_eq_false c0
  have ip : isI64 (p + 1) := i64s (by omega) (by omega)
  by_cases c1 : ((areasN n d).length : Int) ≤ p + 1
  · have e1 := decide_eq_true c1
    have hr : joinRes n d p = (d, 5) := by unfold joinRes; rw [if_pos (.inr c1)]
    simp only [e0, e1, hr, ip, hpre, Bool.true_eq_false, Bool.false_eq_true, false_implies, true_implies, and_self]
  have e1 := decide_eq_false c1
  have n1 : ¬ (p < 0 ∨ ((areasN n d).length : Int) ≤ p + 1) := by omega
  cases hf : foundT n p d.2.2.1 0
  · have hr : joinRes n d p = (d, 4) := by unfold joinRes; rw [if_neg n1, if_pos hf]
    simp only [e0, e1, z, hr, ip, i0, hw, hpre, Bool.or_false, Bool.not_false, Bool.true_eq_false, Bool.false_eq_true, false_implies, true_implies, and_self]
  by_cases c2 : (1073741824 : Int) ≤ d.2.1
  · have e2 := decide_eq_true c2
    have hr : joinRes n d p = (d, 2) := by unfold joinRes; rw [if_neg n1, if_neg (by rw [hf]; simp), if_pos c2]
    simp only [e0, e1, e2, z, hr, ip, i0, hw, hpre, Bool.or_true, Bool.not_true, Bool.true_eq_false, Bool.false_eq_true, false_implies, true_implies, and_self]
  · have e2 := decide_eq_false c2
    have hr : joinRes n d p = ((d.1, d.2.1 + 1, joinT n p d.2.2.1 0, ()), 0) := by unfold joinRes; rw [if_neg n1, if_neg (by rw [hf]; simp), if_neg c2]
    have iv : isI64 (d.2.1 + 1) := by unfold isI64; omega
    simp only [e0, e1, e2, z, hr, ip, i0, iv, hw, hpre, Bool.or_true, Bool.not_true, Bool.true_eq_false, Bool.false_eq_true, false_implies, true_implies, and_self]
theorem ssFQ1 (h : Sat Try.prog 47 cmpSp) : SpecSound FQ1 := mkctx_sound ⟨h, sat_same6, trivial⟩ trivial
theorem lexS_eq0 : ∀ {a b : List Int}, lexS a b = 0 ↔ a = b
  | [], [] => by simp [lexS]
  | [], _ :: _ => by simp [lexS]
  | _ :: _, [] => by simp [lexS]
  | x :: a, y :: b => by
    have ih := lexS_eq0 (a := a) (b := b)
    unfold lexS
    rw [List.cons.injEq]
    split
    · constructor
      · intro h; omega
      · rintro ⟨h, _⟩; omega
    · split
      · constructor
        · intro h; omega
        · rintro ⟨h, _⟩; omega
      · rw [ih]
        constructor
        · intro h; exact ⟨by omega, h⟩
        · exact fun h => h.2
theorem cmpS_eq0 {a b : List Int} : cmpS a b = 0 ↔ a = b := by
  unfold cmpS
  split
  · constructor
    · intro h; omega
    · intro h; subst h; omega
  · split
    · constructor
      · intro h; omega
      · intro h; subst h; omega
    · exact lexS_eq0
theorem sat_rCmp : Sat Try.prog 47 cmpSp := by
  refine sat_nf (C := FQ0) (mkctx_sound trivial trivial) (fun x => rCmp_nf x.1 x.2) fun (x : List Int × List Int) hk hp => ?_
  obtain ⟨a, b⟩ := x
  have hla : a.length ≤ maxLen := hk.1.1
  have em : maxLen = 9223372036854775807 := rfl
  dsimp only
  refine ⟨fun h => by have := dt h; unfold cmpS; rw [if_pos (by omega)], fun h => ⟨fun h' => by have := df h; have := dt h'; unfold cmpS; rw [if_neg (by omega), if_pos (by omega)], fun h' => ?_⟩⟩
  have h := df h
  have h' := df h'
  have e : cmpS a b = lexS a b := by unfold cmpS; rw [if_neg (by omega), if_neg (by omega)]
  rw [e]
  refine ⟨fun i => 0 ≤ i ∧ i ≤ a.length ∧ lexS a b = lexS (a.drop i.toNat) (b.drop i.toNat), fun i => ((a.length : Int) - i).toNat, ⟨by omega, by omega, by simp⟩, fun i ⟨h0, h1, h2⟩ => ⟨fun hc => ?_, fun hc => ?_⟩⟩
  · have hc := dt hc
    rw [drop_step a 0 h0 hc, drop_step b 0 h0 (by omega), lexS] at h2
    refine ⟨⟨h0, hc⟩, ⟨h0, by omega⟩, fun g => by rw [h2, if_pos (dt g)], fun g => ⟨⟨h0, hc⟩, ⟨h0, by omega⟩, fun g' => by rw [h2, if_neg (df g), if_pos (dt g')], fun g' => ⟨i64_lt h0 hc (by omega), ⟨by omega, by omega, by rw [h2, if_neg (df g), if_neg (df g')]⟩, by dsimp only; omega⟩⟩⟩
  · have hc := df hc
    rw [drop_end a hc, drop_end b (by omega), lexS] at h2
    exact h2.symm
theorem sat_rSam : Sat Try.prog 19 same4Sp :=
  sat_nf (C := FQ1) (ssFQ1 sat_rCmp) (fun x => rSam_nf x.1 x.2) fun (x : List Int × List Int) hk hp => ⟨trivial, decide_eq_decide.2 cmpS_eq0⟩
theorem sat_same43 : Sat Try.prog 51 same6Sp :=
  sat_nf (C := FQ1) (ssFQ1 sat_rCmp) (fun x => rSame43_nf x.1 x.2) fun (x : List Int × List Int) hk hp => ⟨trivial, rfl⟩
theorem sat_sameT : ∀ n, Sat Try.prog 21 (sameTSp n)
  | 0 => fun Ψ w x args hprom hrel hp => hp.2.elim
  | n + 1 => by
    have h : Sat Try.prog 21 (sameT1Sp n) := sat_nf (C := FS n) (mkctx_sound ⟨sat_sameT n, sat_same43, trivial⟩ trivial) (fun x => sameT_nf n x.1 x.2) fun (x : Sp × Sp) hk hp => by
      obtain ⟨a, b⟩ := x
      obtain ⟨e, hd⟩ : a = b ∧ deepN (n + 1) a := hp
      subst e
      have hx : okd ST a := hk.1
      have hl : a.subs.length ≤ maxLen := by
        cases a with
        | node v l => exact hx.1.2.2
      have em : maxLen = 9223372036854775807 := rfl
      dsimp only
      refine ⟨fun h => absurd rfl (ndt h), fun _ => ⟨fun h => absurd rfl (ndt h), fun _ => ⟨trivial, fun h => absurd rfl (ndt h), fun _ => ⟨fun h => absurd rfl (ndt h), fun _ => ?_⟩⟩⟩⟩
      refine ⟨fun i => 0 ≤ i, fun i => ((a.subs.length : Int) - i).toNat, Int.le_refl _, fun i h0 => ⟨fun c => ?_, fun _ => rfl⟩⟩
      have c := dt c
      have h0 : 0 ≤ i := h0
      exact ⟨⟨h0, c⟩, ⟨h0, c⟩, ⟨rfl, hd _ (getD_mem _ _ (by omega))⟩, fun h => (by cases h), fun _ => ⟨i64_lt h0 c (by omega), (by omega : (0 : Int) ≤ i + 1), by dsimp only; omega⟩⟩
    exact h
end Go.Proofs.Ytdeleoaeegmhlaa
