import Derived.Test.YtdeleoaeegmhlaaGreatMEb
namespace Go.Proofs.YtdeleoaeegmhlaaGreat
open Go.AM Go.PL
set_option linter.unusedVariables false
attribute [local irreducible] fnwp fnwpG fnwpI
theorem ssQ0 : SpecSound Q0 := mkctx_sound trivial trivial
theorem sat_rCmp : Sat Tryz.prog 29 cmpSp := by
  refine sat_nf (C := Q0) ssQ0 (fun x => rCmp_nf x.1 x.2) fun (x : List Int × List Int) hk hp => ?_
  obtain ⟨a, b⟩ := x
  have hla : a.length ≤ maxLen := hk.1.1
  have em : maxLen = 9223372036854775807 := rfl
  dsimp only
  refine ⟨fun h => by have := dt h; unfold cmpS; rw [if_pos (by omega)], fun h => ⟨fun h' => by have := df h; have := dt h'; unfold cmpS; rw [if_neg (by omega), if_pos (by omega)], fun h' => ?_⟩⟩
  have h := df h
  have h' := df h'
  have e : cmpS a b = lexS a b := by unfold cmpS; rw [if_neg (by omega), if_neg (by omega)]
  rw [e]
  refine ⟨fun i => 0 ≤ i ∧ i ≤ a.length ∧ lexS a b = lexS (a.drop i.toNat) (b.drop i.toNat), fun i => ((a.length : Int) - i).toNat, ⟨by omega, by omega, by simp⟩, fun i ⟨h0, h1, h2⟩ => ⟨fun hc => ?_, fun hc => ?_⟩⟩
  · have hc := dt hc
    rw [drop_step a 0 h0 hc, drop_step b 0 h0 (by omega), lexS] at h2
    refine ⟨⟨h0, hc⟩, ⟨h0, by omega⟩, fun g => by rw [h2, if_pos (dt g)], fun g => ⟨⟨h0, hc⟩, ⟨h0, by omega⟩, fun g' => by rw [h2, if_neg (df g), if_pos (dt g')], fun g' => ⟨i64_lt h0 hc (by omega), ⟨by omega, by omega, by rw [h2, if_neg (df g), if_neg (df g')]⟩, by dsimp only; omega⟩⟩⟩
  · have hc := df hc
    rw [drop_end a hc, drop_end b (by omega), lexS] at h2
    exact h2.symm
theorem sat_rMet : Sat Tryz.prog 7 isMSp := by
  refine sat_nf (C := Q0) ssQ0 rMet_nf fun (m : Int) hk hp => ?_
  unfold isM
  exact ⟨fun h => by rw [h]; rfl, fun h => by rw [h]; rfl⟩
theorem sat_rInL : Sat Tryz.prog 41 rHasSp := by
  refine sat_nf (C := Q0) ssQ0 (fun x => rInL_nf x.1 x.2) fun (x : List Int × Int) hk hp => ?_
  obtain ⟨l, n⟩ := x
  have hl : l.length ≤ maxLen := hk.1.1
  have em : maxLen = 9223372036854775807 := rfl
  dsimp only
  refine ⟨fun i => 0 ≤ i ∧ i ≤ l.length ∧ ∀ j : Nat, (j : Int) < i → l.getD j 0 ≠ n, fun i => ((l.length : Int) - i).toNat, ⟨by omega, by omega, fun j hj => by omega⟩, fun i ⟨h0, h1, h2⟩ => ⟨fun hc => ?_, fun hc => ?_⟩⟩
  · have hc := dt hc
    exact ⟨⟨h0, hc⟩, fun g => (inL_iff.2 ⟨i.toNat, by omega, dt g⟩).symm, fun g => ⟨i64_lt h0 hc (by omega), ⟨by omega, by omega, upd_all h0 h2 (df g)⟩, by dsimp only; omega⟩⟩
  · have hc := df hc
    exact is_no fun h => by
      obtain ⟨j, hj, e⟩ := inL_iff.1 h
      exact h2 j (by omega) e
theorem sat_areasG : ∀ n, SatG Tryz.prog 55 (areasG n)
  | 0 => fun Ψ w x args hprom hrel hp => hp.1.elim
  | n + 1 => by
    have ss : SpecSound (QA n) := mkctx_sound ⟨sat_low, sat_high, trivial⟩ ⟨sat_areasG n, trivial⟩
    have h : SatG Tryz.prog 55 (areas1G n) := fnwpG_sat ss 6 _ _ fun (x : Sp × Box) hk hp => by
      obtain ⟨x, b⟩ := x
      obtain ⟨hv, he, hl⟩ : validT (n + 1) x b ∧ evenB b ∧ (regsN (n + 1) x b).length ≤ 1000 := hp
      refine (rAreas1_nf n x b).mpr ?_
      have e0 : (Rose.subs x).getD 0 (Rose.node (((0 : Int), (0 : Int), ()), [], ()) []) = subOf x 0 := rfl
      have e1 : (Rose.subs x).getD 1 (Rose.node (((0 : Int), (0 : Int), ()), [], ()) []) = subOf x 1 := rfl
      have e2 : (Rose.val x).fst.fst = axisOf x := rfl
      have e3 : (Rose.val x).fst.snd.fst = atOf x := rfl
      have e4 : (Rose.val x).snd.fst = offs x := rfl
      rw [e0, e1, e2, e3, e4]
      rcases validT_cases hv with ⟨h0, ha⟩ | ⟨h0, hc, v0, v1, ha, hn⟩
      · exact ⟨fun _ => ha.symm, fun c => absurd (df c) (by omega)⟩
      · refine ⟨fun c => absurd (dt c) (by omega), fun _ => ⟨⟨by omega, by omega⟩, ⟨he, hc⟩, ⟨v0, even_low he, by omega⟩, ⟨by omega, by omega⟩, ⟨he, hc⟩, ⟨v1, even_high he, by omega⟩, roomA bytesA ?_, ha.symm⟩⟩
        unfold areasL
        rw [List.length_map, List.length_map]
        omega
    exact h
theorem preR_reg {n : Nat} {d : Dv} (h : preR n d) : 1 ≤ d.1 ∧ d.1 ≤ 1000 ∧ validT n d.2.2.1 (wholeB d.1) ∧ (regsN n d.2.2.1 (wholeB d.1)).length ≤ 1000 := ⟨h.1.1, h.1.2.1, h.2, h.1.2.2.2.1⟩
theorem ssQB (n : Nat) (h : Sat Tryz.prog 55 (areasG n).data) : SpecSound (QB n) := mkctx_sound ⟨h, sat_rWhole, sat_rCmp, sat_same6, sat_sameB, trivial⟩ trivial
theorem sat_rAreas (n : Nat) : Sat Tryz.prog 27 (rAreasSp n) := by
  refine sat_nf (C := QB n) (ssQB n (sat_areasG n).toData) (fun d => rAreas_nf n d) fun (d : Dv) hk hp => ?_
  obtain ⟨h1, h2, h3, h4⟩ := preR_reg hp
  exact ⟨⟨h1, h2⟩, ⟨h3, even_whole h2, h4⟩, rfl⟩
theorem sat_rSam : Sat Tryz.prog 11 same4Sp :=
  sat_nf (C := QB 0) (ssQB 0 (sat_areasG 0).toData) (fun x => rSam_nf x.1 x.2) fun (x : List Int × List Int) hk hp => ⟨trivial, decide_eq_decide.2 cmpS_eq0⟩
theorem sat_same43 : Sat Tryz.prog 36 same6Sp :=
  sat_nf (C := QB 0) (ssQB 0 (sat_areasG 0).toData) (fun x => rSame43_nf x.1 x.2) fun (x : List Int × List Int) hk hp => ⟨trivial, rfl⟩
abbrev dMv : Mv := (([], [], ()), [], 0, ())
theorem sat_sameM : Sat Tryz.prog 14 sameMSp := by
  refine sat_nf (C := QS) (mkctx_sound ⟨sat_same43, sat_sameB, trivial⟩ trivial) (fun x => rSameM_nf x.1 x.2) fun (x : List Mv × List Mv) hk hp => ?_
  obtain ⟨a, b⟩ := x
  have hla : a.length ≤ maxLen := hk.1.1
  have em : maxLen = 9223372036854775807 := rfl
  dsimp only
  have no : ∀ (i : Nat), a.getD i dMv ≠ b.getD i dMv → false = decide (a = b) := fun i h => is_no fun e => h (by rw [dt e])
  refine ⟨fun h => is_no fun e => ndt h (by rw [dt e]), fun h => ?_⟩
  have h := ndf h
  refine ⟨fun i => 0 ≤ i ∧ i ≤ a.length ∧ ∀ j : Nat, (j : Int) < i → a.getD j dMv = b.getD j dMv, fun i => ((a.length : Int) - i).toNat, ⟨by omega, by omega, fun j hj => by omega⟩, fun i ⟨h0, h1, h2⟩ => ⟨fun hc => ?_, fun hc => ?_⟩⟩
  · have hc := dt hc
    have no := no i.toNat
    revert no
    refine fun no => ⟨⟨h0, hc⟩, ⟨h0, by omega⟩, fun g => no fun e => ndt g (by rw [e]), fun g => ⟨⟨h0, hc⟩, ⟨h0, by omega⟩, trivial, fun g1 => no fun e => ndt g1 (by rw [e]), fun g1 => ⟨⟨h0, hc⟩, ⟨h0, by omega⟩, trivial, fun g2 => no fun e => ndt g2 (by rw [e]), fun g2 => ⟨i64_lt h0 hc (by omega), ⟨by omega, by omega, upd_all h0 h2 ?_⟩, by dsimp only; omega⟩⟩⟩⟩
    exact Prod.ext (ndf g2) (Prod.ext (ndf g1) (Prod.ext (ndf g) rfl))
  · have hc := df hc
    have : a = b := listL_ext dMv (by omega) fun i hi => h2 i (by omega)
    exact (decide_eq_true this).symm
theorem ssQC (n : Nat) : SpecSound (QC n) := mkctx_sound ⟨sat_rAreas n, sat_rHas, sat_rNear, sat_rMeet, sat_rInL, trivial⟩ trivial
theorem areas_le {n : Nat} {d : Dv} (hp : preA n d) : (areasN n d).length ≤ 1000 := by
  have h : okA n d := hp.2.2.2
  have := h.1
  unfold areasN
  rw [List.length_map]
  exact this
theorem sat_rHome (n : Nat) : Sat Tryz.prog 10 (rHomeSp n) := by
  refine sat_nf (C := QC n) (ssQC n) (fun x => rHome_nf n x.1 x.2) fun (x : Dv × List Int) hk hp => ?_
  obtain ⟨d, v⟩ := x
  have hp : preR n d := hp
  dsimp only
  have hl := areas_le hp.1
  refine ⟨hp, fun x => 0 ≤ x ∧ x ≤ (areasN n d).length ∧ ∀ j : Nat, (j : Int) < x → bhas ((areasN n d).getD j dAr).1 v = false, fun x => (((areasN n d).length : Int) - x).toNat, ⟨by omega, by omega, fun j hj => by omega⟩, fun x ⟨h0, h1, h2⟩ => ⟨fun c => ?_, fun c => ?_⟩⟩
  · have c := dt c
    refine ⟨⟨h0, c⟩, trivial, fun g => ?_, fun g => ⟨i64s (by omega) (by omega), ⟨by omega, by omega, upd_all h0 h2 g⟩, by dsimp only; omega⟩⟩
    have := homeL_at (l := areasN n d) (i := x.toNat) (by omega) g fun j hj => h2 j (by omega)
    show x = homeL (areasN n d) v
    omega
  · have c := df c
    exact (homeL_none fun j hj => h2 j (by omega)).symm
theorem sat_rRoute (n : Nat) : Sat Tryz.prog 13 (rRouteSp n) := by
  refine sat_nf (C := QC n) (ssQC n) (fun x => rRoute_nf n x.1 x.2.1 x.2.2.1 x.2.2.2) fun (x : Dv × Int × List Int × Int) hk hp => ?_
  obtain ⟨d, m, v, w⟩ := x
  obtain ⟨hp, hs⟩ : preR n d ∧ smallK (areasN n d) m v := hp
  dsimp only
  have hl := areas_le hp.1
  have hb : (QC n).P.bytesOf 3 = 8 := bytesI
  refine ⟨hp, fun s => 0 ≤ s.2.2 ∧ s.2.2 ≤ (areasN n d).length ∧ s.1.length ≤ s.2.2.toNat ∧ Sorted (areasN n d) m v w s.2.2.toNat s.1 s.2.1, fun s => (((areasN n d).length : Int) - s.2.2).toNat, ⟨by dsimp only; omega, by dsimp only; omega, Nat.le_refl _, Sorted.zero ..⟩, fun s hI => ?_⟩
  obtain ⟨o, ks, i⟩ := s
  obtain ⟨h0, h1, h3, h2⟩ := hI
  dsimp only at h0 h1 h2 h3 ⊢
  have ei : ((i.toNat : Nat) : Int) = i := by omega
  have e1 : (i + 1).toNat = i.toNat + 1 := by omega
  refine ⟨fun c => ?_, fun c => ?_⟩
  · have c := dt c
    have hs := hs i.toNat (by omega)
    have ek : (nearS m ((areasN n d).getD i.toNat dAr).1 v).1 = kOf (areasN n d) m v (i.toNat : Nat) := rfl
    have ea : (areasN n d).getD i.toNat (([], [], ()), [], ()) = (areasN n d).getD i.toNat dAr := rfl
    rw [ea, ek]
    have hno := h2.no
    have hins := h2.ins (a := 0)
    have hkl : ks.length = o.length := by rw [h2.keys, List.length_map]
    have hlt := h2.lt
    refine ⟨⟨h0, c⟩, trivial, fun g => ⟨i64s (by omega) (by omega), ⟨by omega, by omega, by omega, by rw [e1]; exact hno (by rw [ek]; exact dt g)⟩, by omega⟩, fun g => ?_⟩
    have g := df g
    refine ⟨roomI hb (by simp only [List.length_cons, List.length_nil]; omega), roomI hb (by simp only [List.length_cons, List.length_nil]; omega), ?_⟩
    refine ⟨fun t => 0 ≤ t.2.2 ∧ t.2.2 ≤ o.length ∧ (∃ x y, t.1 = o.take t.2.2.toNat ++ x :: o.drop t.2.2.toNat ∧ t.2.1 = ks.take t.2.2.toNat ++ y :: ks.drop t.2.2.toNat) ∧ ∀ j : Nat, t.2.2.toNat ≤ j → j < o.length → kOf (areasN n d) m v (i.toNat : Nat) < ks.getD j 0, fun t => t.2.2.toNat,
      ⟨by dsimp only; omega, by dsimp only; omega, ⟨i, kOf (areasN n d) m v (i.toNat : Nat), by dsimp only; rw [Int.toNat_natCast]; exact insert_first o i, by dsimp only; rw [Int.toNat_natCast, ← hkl]; exact insert_first ks _⟩, fun j hj hj' => by dsimp only at hj; omega⟩, fun t hJ => ?_⟩
    obtain ⟨o1, k1, a⟩ := t
    obtain ⟨a0, a1, ⟨x, y, eo, eks⟩, ahi⟩ := hJ
    dsimp only at a0 a1 eo eks ahi ⊢
    have lo : o1.length = o.length + 1 := by rw [eo]; exact insert_len o x (by omega)
    have lk : k1.length = o.length + 1 := by rw [eks, ← hkl]; exact insert_len ks y (by omega)
    have fin : (a = 0 ∨ ¬ kOf (areasN n d) m v (i.toNat : Nat) < ks.getD (a.toNat - 1) 0) → ((0 : Int) ≤ a ∧ a < (o1.length : Int)) ∧ ((0 : Int) ≤ a ∧ a < (k1.length : Int)) ∧ isI64 (i + 1) ∧
        (0 ≤ i + 1 ∧ i + 1 ≤ (areasN n d).length ∧ (o1.set a.toNat i).length ≤ (i + 1).toNat ∧ Sorted (areasN n d) m v w (i + 1).toNat (o1.set a.toNat i) (k1.set a.toNat (kOf (areasN n d) m v (i.toNat : Nat)))) ∧
        (((areasN n d).length : Int) - (i + 1)).toNat < (((areasN n d).length : Int) - i).toNat := fun hlo => by
      refine ⟨⟨a0, by omega⟩, ⟨a0, by omega⟩, i64s (by omega) (by omega), ⟨by omega, by omega, by rw [List.length_set]; omega, ?_⟩, by omega⟩
      rw [eo, eks, insert_end o x i (by omega), insert_end ks y _ (by omega), e1]
      have := h2.ins (a := a.toNat) hs (by rw [ek]; exact g) (by omega) (hlo.imp (fun e => by omega) id) ahi
      rw [ei] at this
      exact this
    refine ⟨fun q => ?_, fun q => fin (.inl (by have := df q; omega))⟩
    have q := dt q
    have st := insert_step o x 0 (a := a.toNat) (by omega) (by omega)
    have sk := insert_step ks y 0 (a := a.toNat) (by omega) (by omega)
    have ea1 : (a - 1).toNat = a.toNat - 1 := by omega
    rw [← eo] at st
    rw [← eks] at sk
    rw [ea1, sk.2]
    refine ⟨i64s (by omega) (by omega), ⟨by omega, by omega⟩, fun p => ?_, fun p => fin (.inr (df p))⟩
    have p := dt p
    rw [← sk.2, st.1, sk.1]
    refine ⟨i64s (by omega) (by omega), ⟨by omega, by omega⟩, ⟨by omega, by omega⟩, i64s (by omega) (by omega), ⟨by omega, by omega⟩, ⟨by omega, by omega⟩, i64s (by omega) (by omega), ⟨by omega, by omega, ⟨_, _, rfl, rfl⟩, fun j hj hj' => ?_⟩, by omega⟩
    rcases Nat.lt_or_ge j a.toNat with h' | h'
    · have : j = a.toNat - 1 := by omega
      rw [this]; exact p
    · exact ahi j h' hj'
  · have c := df c
    have hi : i.toNat = (areasN n d).length := by omega
    rw [hi] at h2
    exact h2.route
end Go.Proofs.YtdeleoaeegmhlaaGreat
