import Derived.Test.YtdnofflnfchcbaaXf
namespace Go.Proofs.Ytdnofflnfchcbaa
open Go.AM Go.PL
set_option linter.unusedVariables false
theorem ssB2 : SpecSound B2 := mkctx_sound ⟨sat_valid, sat_rValid, sat_zip, sat_isVec, sat_rVec, sat_isM, sat_least, sat_great, sat_wid, sat_nr, sat_fr, sat_idx, sat_max, sat_same6, sat_rKey, trivial⟩ trivial
theorem ssB2G : SpecSound B2G := mkctx_sound ⟨sat_valid, sat_rValid, sat_zip, sat_isVec, sat_rVec, sat_isM, sat_least, sat_great, sat_wid, sat_nr, sat_fr, sat_idx, sat_max, sat_same6, sat_rKey, trivial⟩ ⟨satG_cln, trivial⟩
theorem alike_ok (a b : Box) : (True ∧ (bval a = true → True ∧ (bval b = true → decide ((↑a.fst.length : Int) = (↑b.fst.length : Int)) = balike a b) ∧
  (bval b = false → false = balike a b)) ∧ (bval a = false → false = balike a b)) :=
  ⟨trivial, fun h1 => ⟨trivial, fun h2 => dec_is ⟨fun h => balike_iff.2 ⟨h1, h2, by omega⟩, fun h => by have := (balike_iff.1 h).2.2; omega⟩, fun h2 => is_no fun h => by rw [(balike_iff.1 h).2.1] at h2; cases h2⟩,
    fun h1 => is_no fun h => by rw [(balike_iff.1 h).1] at h1; cases h1⟩
theorem sat_alike : Sat Try.prog 44 alikSp := sat_nf (C := B2) ssB2 (fun x => alike_nf x.1 x.2) fun x hk hp => alike_ok x.1 x.2
theorem sat_rAlike : Sat Try.prog 53 alikSp := sat_nf (C := B2) ssB2 (fun x => rAlike_nf x.1 x.2) fun x hk hp => alike_ok x.1 x.2
theorem sat_has : Sat Try.prog 22 bhasSp := by
  refine sat_nf (C := B2) ssB2 (fun x => has_nf x.1 x.2) fun (⟨b, v⟩ : Box × List Int) hk hp => ?_
  dsimp only
  refine ⟨trivial, fun c => is_no fun h => ?_, fun c1 => ⟨fun c => is_no fun h => ?_, fun c2 => ⟨fun x => 0 ≤ x ∧ x ≤ v.length ∧ ∀ j : Nat, (j : Int) < x → b.1.getD j 0 ≤ v.getD j 0 ∧ v.getD j 0 ≤ b.2.1.getD j 0, fun x => ((v.length : Int) - x).toNat,
    ⟨by omega, by omega, fun j hj => by omega⟩, fun x ⟨h0, h1, h2⟩ => ⟨fun c => ?_, fun c => ?_⟩⟩⟩⟩
  · have := nt c; rw [(bhas_iff.1 h).1] at this; cases this
  · have := (bhas_iff.1 h).2.1; exact ndt c (by omega)
  · have c1 := bval_len (nf c1)
    have c2 := ndf c2
    have c := dt c
    refine ⟨⟨h0, c⟩, ⟨h0, by omega⟩, fun g => is_no fun h => ?_, fun g => ⟨⟨h0, by omega⟩, fun g' => is_no fun h => ?_, fun g' => ⟨i64s (by omega) (by omega), ⟨by omega, by omega, upd_all h0 h2 ⟨by have := df g; omega, by have := df g'; omega⟩⟩, by dsimp only; omega⟩⟩⟩
    · have := (bhas_iff.1 h).2.2 x.toNat (by omega)
      have := dt g
      omega
    · have := (bhas_iff.1 h).2.2 x.toNat (by omega)
      have := dt g'
      omega
  · have c1 := nf c1
    have c2 := ndf c2
    have c := df c
    exact (bhas_iff.2 ⟨c1, by omega, fun i hi => h2 i (by omega)⟩).symm
theorem sat_rHas : Sat Try.prog 23 bhasSp := by
  refine sat_nf (C := B2) ssB2 (fun x => rHas_nf x.1 x.2) fun (⟨b, v⟩ : Box × List Int) hk hp => ?_
  dsimp only
  refine ⟨trivial, fun c => is_no fun h => ?_, fun c1 => ⟨fun c => is_no fun h => ?_, fun c2 => ⟨fun x => 0 ≤ x ∧ x ≤ v.length ∧ ∀ j : Nat, (j : Int) < x → b.1.getD j 0 ≤ v.getD j 0 ∧ v.getD j 0 ≤ b.2.1.getD j 0, fun x => ((v.length : Int) - x).toNat,
    ⟨by omega, by omega, fun j hj => by omega⟩, fun x ⟨h0, h1, h2⟩ => ⟨fun c => ?_, fun c => ?_⟩⟩⟩⟩
  · have := nt c; rw [(bhas_iff.1 h).1] at this; cases this
  · have := (bhas_iff.1 h).2.1; exact ndt c (by omega)
  · have c1 := bval_len (nf c1)
    have c2 := ndf c2
    have c := dt c
    refine ⟨⟨h0, c⟩, ⟨h0, by omega⟩, fun g => is_no fun h => ?_, fun g => ⟨⟨h0, c⟩, ⟨h0, by omega⟩, fun g' => is_no fun h => ?_, fun g' => ⟨i64s (by omega) (by omega), ⟨by omega, by omega, upd_all h0 h2 ⟨by have := df g; omega, by have := df g'; omega⟩⟩, by dsimp only; omega⟩⟩⟩
    · have := (bhas_iff.1 h).2.2 x.toNat (by omega)
      have := dt g
      omega
    · have := (bhas_iff.1 h).2.2 x.toNat (by omega)
      have := dt g'
      omega
  · have c1 := nf c1
    have c2 := ndf c2
    have c := df c
    exact (bhas_iff.2 ⟨c1, by omega, fun i hi => h2 i (by omega)⟩).symm
theorem sat_ask : Sat Try.prog 52 askSp := by
  refine sat_nf (C := B2) ssB2 (fun x => ask_nf x.1 x.2.1 x.2.2) fun (⟨m, b, v⟩ : Int × Box × List Int) hk hp => ?_
  dsimp only
  refine ⟨trivial, fun h1 => ⟨trivial, fun h2 => ⟨trivial, fun h3 => dec_is ⟨fun h => basked_iff.2 ⟨h1, h2, h3, by omega⟩, fun h => by have := (basked_iff.1 h).2.2.2; omega⟩, fun h3 => is_no fun h => ?_⟩, fun h2 => is_no fun h => ?_⟩, fun h1 => is_no fun h => ?_⟩
  · rw [(basked_iff.1 h).2.2.1] at h3; cases h3
  · rw [(basked_iff.1 h).2.1] at h2; cases h2
  · rw [(basked_iff.1 h).1] at h1; cases h1
theorem sat_rNearest : Sat Try.prog 30 rNearestSp := by
  refine sat_nf (C := B2) ssB2 (fun x => rNearest_nf x.1 x.2) fun (⟨b, v⟩ : Box × List Int) hk hp => ?_
  obtain ⟨hb, hl⟩ : bval b = true ∧ v.length = b.1.length := hp
  have hl' := bval_len hb
  dsimp only
  exact zip_lp (X := fun i => 0 ≤ i ∧ i < b.1.length) (Y := fun i => 0 ≤ i ∧ i < b.2.1.length) (g := fun i => min (max (v.getD i.toNat 0) (b.1.getD i.toNat 0)) (b.2.1.getD i.toNat 0)) bytesI (by omega) (fun i h0 h1 => ⟨rfl, ⟨h0, by omega⟩, ⟨h0, by omega⟩⟩) rfl
theorem sat_rFarthest : Sat Try.prog 31 rFarthestSp := by
  refine sat_nf (C := B2) ssB2 (fun x => rFarthest_nf x.1 x.2) fun (⟨b, v⟩ : Box × List Int) hk hp => ?_
  obtain ⟨hb, hv, hl⟩ : bval b = true ∧ bvec v = true ∧ v.length = b.1.length := hp
  have hl' := bval_len hb
  dsimp only
  refine ⟨fun x => 0 ≤ x.2 ∧ x.2 ≤ v.length ∧ x.1 = tab x.2.toNat (fun i => if at_ v i - at_ b.1 i < at_ b.2.1 i - at_ v i then at_ b.2.1 i else at_ b.1 i), fun x => ((v.length : Int) - x.2).toNat, ⟨by simp, by simp, by simp [tab_zero]⟩, fun ⟨o, i⟩ ⟨h0, h1, h2⟩ => ?_⟩
  dsimp only at h0 h1 h2 ⊢
  refine ⟨fun c => ?_, fun c => by rw [h2, end_toNat h1 (df c)]; rfl⟩
  have c := dt c
  have k1 := bval_at hb i.toNat
  have k2 := bvec_at hv i.toNat
  have hol : o.length = i.toNat := by rw [h2, tab_length]
  have ht := tab_succ i.toNat (fun i => if at_ v i - at_ b.1 i < at_ b.2.1 i - at_ v i then at_ b.2.1 i else at_ b.1 i)
  rw [← succ_toNat h0, ← h2] at ht
  have hi : isI64 (i + 1) := i64s (by omega) (by omega)
  have hr : ∀ z : Int, roomP B2 3 (o.length + [z].length) := fun z => roomI bytesI (by rw [hol]; simp; omega)
  refine ⟨⟨h0, by omega⟩, ⟨h0, by omega⟩, ⟨h0, c⟩, i64s (by omega) (by omega), ⟨h0, c⟩, ⟨h0, by omega⟩, i64s (by omega) (by omega), fun g => ?_, fun g => ?_⟩
  · rw [if_pos (show at_ v i.toNat - at_ b.1 i.toNat < at_ b.2.1 i.toNat - at_ v i.toNat from dt g)] at ht
    exact ⟨⟨h0, by omega⟩, hr _, hi, ⟨by omega, by omega, ht.symm⟩, by omega⟩
  · rw [if_neg (show ¬ at_ v i.toNat - at_ b.1 i.toNat < at_ b.2.1 i.toNat - at_ v i.toNat from df g)] at ht
    exact ⟨hr _, hi, ⟨by omega, by omega, ht.symm⟩, by omega⟩
theorem sat_cut : Sat Try.prog 14 cutSp := by
  refine sat_nf (C := B2G) ssB2G (fun x => cut_nf x.1 x.2.1 x.2.2) fun (⟨b, x, y⟩ : Box × Int × Int) hk hp => ?_
  dsimp only
  refine ⟨trivial, fun c => cutS_no fun h => ?_, fun c1 => ⟨fun c => cutS_no fun h => ?_, fun c2 => ⟨fun c => cutS_no fun h => ?_, fun c3 => ?_⟩⟩⟩
  · have := nt c; rw [(cutOk_iff.1 h).1] at this; cases this
  · have := (cutOk_iff.1 h).2.1; have := dt c; omega
  · have := (cutOk_iff.1 h).2.2.1; have := dt c; omega
  · have c1 := nf c1
    have l := bval_len c1
    have c2 := df c2
    have c3 := df c3
    have k := bval_at c1 x.toNat
    refine ⟨⟨by omega, by omega⟩, fun c => cutS_no fun h => ?_, fun c4 => ⟨⟨by omega, by omega⟩, fun c => cutS_no fun h => ?_, fun c5 => ?_⟩⟩
    · have := (cutOk_iff.1 h).2.2.2.1; have := dt c; omega
    · have := (cutOk_iff.1 h).2.2.2.2; have := dt c; omega
    · have c4 := df c4
      have c5 := df c5
      have e := cutS_yes (b := b) (x := x) (y := y) (cutOk_iff.2 ⟨c1, by omega, by omega, by omega, by omega⟩)
      exact ⟨by omega, by omega, by omega, by omega, i64s (by omega) (by omega), ⟨by omega, by omega⟩, ⟨by omega, by omega⟩, ⟨e, e⟩, e⟩
theorem sat_rCut : Sat Try.prog 19 rCutSp := by
  refine sat_nf (C := B2) ssB2 (fun x => rCut_nf x.1 x.2.1 x.2.2) fun (⟨b, x, y⟩ : Box × Int × Int) hk hp => ?_
  dsimp only
  have no : (cutOk b x y = true → False) → ((([], [], ()), ([], [], ()), (1 : Int), ()) : Box × Box × Int × Unit) = ((cutS b x y).fst, (cutS b x y).snd.fst, (cutS b x y).snd.snd, ()) := fun h => by rw [← cutS_no h]
  refine ⟨trivial, fun c => no fun h => ?_, fun c1 => ⟨fun c => no fun h => ?_, fun c2 => ⟨fun c => no fun h => ?_, fun c3 => ?_⟩⟩⟩
  · have := nt c; rw [(cutOk_iff.1 h).1] at this; cases this
  · have := (cutOk_iff.1 h).2.1; have := dt c; omega
  · have := (cutOk_iff.1 h).2.2.1; have := dt c; omega
  · have c1 := nf c1
    have l := bval_len c1
    have c2 := df c2
    have c3 := df c3
    have k := bval_at c1 x.toNat
    refine ⟨⟨by omega, by omega⟩, fun c => no fun h => ?_, fun c4 => ⟨⟨by omega, by omega⟩, fun c => no fun h => ?_, fun c5 => ?_⟩⟩
    · have := (cutOk_iff.1 h).2.2.2.1; have := dt c; omega
    · have := (cutOk_iff.1 h).2.2.2.2; have := dt c; omega
    · have c4 := df c4
      have c5 := df c5
      have e := cutS_yes (b := b) (x := x) (y := y) (cutOk_iff.2 ⟨c1, by omega, by omega, by omega, by omega⟩)
      exact ⟨roomI bytesI (by omega), roomI bytesI (by omega), ⟨by omega, by omega⟩, i64s (by omega) (by omega), ⟨by omega, by omega⟩, roomI bytesI (by omega), roomI bytesI (by omega), by rw [← e]⟩
theorem zipW {a b : List Int} {i : Nat} (h : i < a.length) : (zipS a b 49).getD i 0 = a.getD i 0 - b.getD i 0 := by
  unfold zipS
  rw [tab_getD _ h]
  rfl
theorem sat_split : Sat Try.prog 15 splitSp := by
  refine sat_nf (C := B2) ssB2 split_nf fun (b : Box) hk hp => ?_
  refine ⟨trivial, fun c => splitS_no fun h => (by have := nt c; rw [h] at this; cases this), fun c1 => ?_⟩
  have c1 := nf c1
  obtain ⟨b1, b2, b3, b4⟩ := bval_iff.1 c1
  have l := bval_len c1
  have hzl : (zipS b.2.1 b.1 49).length = b.2.1.length := tab_length _ _
  obtain ⟨x1, x2⟩ := index_amax (l := zipS b.2.1 b.1 49) (n := b.1.length) (w := widthF b) (by omega) (by omega) (fun i hi => zipW (by omega))
  have a1 := (amax_spec (widthF b) b.1.length (by omega)).1
  have ys := splitS_yes c1
  have k := bval_at c1 (amax b.1.length (widthF b))
  have hw : widthF b (amax b.1.length (widthF b)) = b.2.1.getD (amax b.1.length (widthF b)) 0 - b.1.getD (amax b.1.length (widthF b)) 0 := rfl
  generalize zipS b.2.1 b.1 49 = z at *
  rw [x1, Int.toNat_natCast, x2]
  generalize amax b.1.length (widthF b) = q at *
  generalize widthF b q = wd at *
  refine ⟨⟨bvec_sm b2, bvec_sm b1, by omega, .inr (.inr rfl)⟩, by omega, trivial, ⟨by omega, by omega⟩, fun g => ?_, fun g => ?_⟩
  · rw [ys, if_pos (dt g)]
  · have g := df g
    have e : wd.tdiv 2 = wd / 2 := Int.tdiv_eq_ediv_of_nonneg (by omega)
    rw [e]
    exact ⟨⟨by omega, by omega⟩, ⟨by omega, by omega⟩, ⟨by decide, i64s (by omega) (by omega)⟩, i64s (by omega) (by omega), by rw [ys, if_neg g]⟩
theorem sat_rSplit : Sat Try.prog 20 rSplitSp := by
  refine sat_nf (C := B2) ssB2 rSplit_nf fun (b : Box) hk hp => ?_
  refine ⟨trivial, fun c => (by rw [← splitS_no fun h => (by have := nt c; rw [h] at this; cases this)]), fun c1 => ?_⟩
  have c1 := nf c1
  have l := bval_len c1
  have ys := splitS_yes c1
  refine ⟨fun x => 0 ≤ x.2 ∧ x.2 ≤ b.1.length ∧ x.1 = (amax x.2.toNat (widthF b) : Int), fun x => ((b.1.length : Int) - x.2).toNat, ⟨by simp, by simp, rfl⟩, fun ⟨a, i⟩ ⟨h0, h1, h2⟩ => ?_⟩
  dsimp only at h0 h1 h2 ⊢
  have al := amax_le (widthF b) i.toNat
  have ht : a.toNat = amax i.toNat (widthF b) := by omega
  have k1 := bval_at c1 a.toNat
  refine ⟨fun c => ?_, fun c => ?_⟩
  · have c := dt c
    have k2 := bval_at c1 i.toNat
    have hs := amax_succ i.toNat (widthF b)
    rw [← succ_toNat h0, ← ht] at hs
    have hi : isI64 (i + 1) := i64s (by omega) (by omega)
    refine ⟨⟨h0, by omega⟩, ⟨h0, by omega⟩, i64s (by omega) (by omega), ⟨by omega, by omega⟩, ⟨by omega, by omega⟩, i64s (by omega) (by omega), fun g => ?_, fun g => ?_⟩
    · have g := dt g
      rw [if_pos (show widthF b a.toNat < widthF b i.toNat from g)] at hs
      exact ⟨hi, ⟨by omega, by omega, by rw [hs]; omega⟩, by omega⟩
    · have g := df g
      rw [if_neg (show ¬ widthF b a.toNat < widthF b i.toNat from g)] at hs
      exact ⟨hi, ⟨by omega, by omega, by rw [hs]; omega⟩, by omega⟩
  · have c := df c
    have hn : i.toNat = b.1.length := by omega
    have a1 := (amax_spec (widthF b) b.1.length (by omega)).1
    rw [hn] at ht
    rw [← ht] at ys a1
    have hw : widthF b a.toNat = b.2.1.getD a.toNat 0 - b.1.getD a.toNat 0 := rfl
    refine ⟨⟨by omega, by omega⟩, ⟨by omega, by omega⟩, fun g => ?_, fun g => ⟨⟨by omega, by omega⟩, ?_⟩⟩
    · have g := dt g
      rw [ys, if_pos (by omega)]
    · have g := df g
      rw [if_neg (by omega)] at ys
      generalize b.1.getD a.toNat 0 = lo at *
      generalize b.2.1.getD a.toNat 0 = hi at *
      generalize widthF b a.toNat = wd at *
      refine ⟨fun x => lo ≤ x ∧ 2 * x ≤ lo + hi, fun x => (hi - x).toNat, ⟨by omega, by omega⟩, fun x ⟨g0, g1⟩ => ?_⟩
      refine ⟨i64s (by omega) (by omega), i64s (by omega) (by omega), ⟨by omega, by omega⟩, ⟨by omega, by omega⟩, i64s (by omega) (by omega), fun q => ?_, fun q => ?_⟩
      · have q := dt q
        exact ⟨i64s (by omega) (by omega), ⟨by omega, by omega⟩, by dsimp only; omega⟩
      · have q := df q
        have e1 : (a.toNat : Int) = a := by omega
        have e2 : lo + wd / 2 = x := by omega
        rw [ys, e1, e2]
end Go.Proofs.Ytdnofflnfchcbaa
