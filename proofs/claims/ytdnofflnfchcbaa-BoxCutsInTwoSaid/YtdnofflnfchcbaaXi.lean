import Derived.Test.YtdnofflnfchcbaaXh
namespace Go.Proofs.Ytdnofflnfchcbaa
open Go.AM Go.PL
set_option linter.unusedVariables false
theorem ssB3 : SpecSound B3 := mkctx_sound ⟨sat_alike, sat_rAlike, sat_has, sat_rHas, sat_ask, sat_rNearest, sat_rFarthest, sat_rOf, satG_cln.toData, sat_valid, sat_rValid, sat_zip, sat_isVec, sat_rVec, sat_isM, sat_least, sat_great, sat_wid, sat_nr, sat_fr, sat_idx, sat_max, sat_same6, sat_rKey, trivial⟩ trivial
theorem sat_near : Sat Try.prog 11 nearSp := by
  refine sat_nf (C := B3) ssB3 (fun x => near_nf x.1 x.2.1 x.2.2) fun (⟨m, b, v⟩ : Int × Box × List Int) hk hp => ?_
  dsimp only
  refine ⟨trivial, fun c => nearS_no fun h => ?_, fun c1 => ⟨trivial, fun c => nearS_no fun h => ?_, fun c2 => ⟨fun c => nearS_no fun h => ?_, fun c3 => ?_⟩⟩⟩
  · have := nt c; rw [(basked_iff.1 h).2.1] at this; cases this
  · have := nt c; rw [(basked_iff.1 h).2.2.1] at this; cases this
  · have := (basked_iff.1 h).2.2.2; exact ndt c (by omega)
  have hb := nf c1
  have hv := nf c2
  have hl := ndf c3
  have l := bval_len hb
  have hf := near_le hb hv
  have hn : v.length ≤ 64 := by omega
  have ys : ∀ m, isM m = true → nearS m b v = (sumK m v.length (nearF b v), 0) := fun m hm => nearS_yes (basked_iff.2 ⟨hm, hb, hv, by omega⟩)
  refine ⟨fun e => ?_, fun e1 => ⟨fun e => ?_, fun e2 => ⟨fun e => ?_, fun e3 => nearS_no fun h => ?_⟩⟩⟩
  · have e := dt e
    subst e
    refine ⟨fun x => 0 ≤ x.1 ∧ x.1 ≤ v.length ∧ x.2 = sumK 1 x.1.toNat (nearF b v), fun x => ((v.length : Int) - x.1).toNat, ⟨by simp, by simp, rfl⟩, fun ⟨i, s⟩ ⟨h0, h1, h2⟩ => ?_⟩
    dsimp only at h0 h1 h2 ⊢
    refine ⟨fun c => ?_, fun c => by rw [h2, end_toNat h1 (df c), ys _ rfl]⟩
    have c := dt c
    have k := keyI_step (m := 1) (f := nearF b v) hf hn h0 h1 h2 c (d := max 0 (max (b.1.getD i.toNat 0 - v.getD i.toNat 0) (v.getD i.toNat 0 - b.2.1.getD i.toNat 0))) (rfl)
    have k1 := bval_at hb i.toNat
    have k2 := bvec_at hv i.toNat
    exact ⟨⟨h0, c⟩, ⟨h0, by omega⟩, ⟨h0, by omega⟩, ⟨i64s (by omega) (by omega), i64s (by omega) (by omega)⟩, (k.1 rfl).1, k.2.2.2, ⟨by omega, by omega, (k.1 rfl).2⟩, by omega⟩
  · have e := dt e
    subst e
    refine ⟨fun x => 0 ≤ x.1 ∧ x.1 ≤ v.length ∧ x.2 = sumK 2 x.1.toNat (nearF b v), fun x => ((v.length : Int) - x.1).toNat, ⟨by simp, by simp, rfl⟩, fun ⟨i, s⟩ ⟨h0, h1, h2⟩ => ?_⟩
    dsimp only at h0 h1 h2 ⊢
    refine ⟨fun c => ?_, fun c => by rw [h2, end_toNat h1 (df c), ys _ rfl]⟩
    have c := dt c
    have k := keyI_step (m := 2) (f := nearF b v) hf hn h0 h1 h2 c (d := max 0 (max (b.1.getD i.toNat 0 - v.getD i.toNat 0) (v.getD i.toNat 0 - b.2.1.getD i.toNat 0))) (rfl)
    have k1 := bval_at hb i.toNat
    have k2 := bvec_at hv i.toNat
    exact ⟨⟨h0, c⟩, ⟨h0, by omega⟩, ⟨h0, by omega⟩, ⟨i64s (by omega) (by omega), i64s (by omega) (by omega)⟩, (k.2.1 rfl).1, (k.2.1 rfl).2.1, k.2.2.2, ⟨by omega, by omega, (k.2.1 rfl).2.2⟩, by omega⟩
  · have e := dt e
    subst e
    refine ⟨fun x => 0 ≤ x.1 ∧ x.1 ≤ v.length ∧ x.2 = sumK 3 x.1.toNat (nearF b v), fun x => ((v.length : Int) - x.1).toNat, ⟨by simp, by simp, rfl⟩, fun ⟨i, s⟩ ⟨h0, h1, h2⟩ => ?_⟩
    dsimp only at h0 h1 h2 ⊢
    refine ⟨fun c => ?_, fun c => by rw [h2, end_toNat h1 (df c), ys _ rfl]⟩
    have c := dt c
    have k := keyI_step (m := 3) (f := nearF b v) hf hn h0 h1 h2 c (d := max 0 (max (b.1.getD i.toNat 0 - v.getD i.toNat 0) (v.getD i.toNat 0 - b.2.1.getD i.toNat 0))) (rfl)
    have k1 := bval_at hb i.toNat
    have k2 := bvec_at hv i.toNat
    exact ⟨⟨h0, c⟩, ⟨h0, by omega⟩, ⟨h0, by omega⟩, ⟨i64s (by omega) (by omega), i64s (by omega) (by omega)⟩, k.2.2.2, ⟨by omega, by omega, k.2.2.1 rfl⟩, by omega⟩
  · have := isM_iff.1 (basked_iff.1 h).1
    have := df e1
    have := df e2
    have := df e3
    omega
theorem sat_far : Sat Try.prog 12 farSp := by
  refine sat_nf (C := B3) ssB3 (fun x => far_nf x.1 x.2.1 x.2.2) fun (⟨m, b, v⟩ : Int × Box × List Int) hk hp => ?_
  dsimp only
  refine ⟨trivial, fun c => farS_no fun h => ?_, fun c1 => ⟨trivial, fun c => farS_no fun h => ?_, fun c2 => ⟨fun c => farS_no fun h => ?_, fun c3 => ?_⟩⟩⟩
  · have := nt c; rw [(basked_iff.1 h).2.1] at this; cases this
  · have := nt c; rw [(basked_iff.1 h).2.2.1] at this; cases this
  · have := (basked_iff.1 h).2.2.2; exact ndt c (by omega)
  have hb := nf c1
  have hv := nf c2
  have hl := ndf c3
  have l := bval_len hb
  have hf := far_le hb hv
  have hn : v.length ≤ 64 := by omega
  have ys : ∀ m, isM m = true → farS m b v = (sumK m v.length (farF b v), 0) := fun m hm => farS_yes (basked_iff.2 ⟨hm, hb, hv, by omega⟩)
  refine ⟨fun e => ?_, fun e1 => ⟨fun e => ?_, fun e2 => ⟨fun e => ?_, fun e3 => farS_no fun h => ?_⟩⟩⟩
  · have e := dt e
    subst e
    refine ⟨fun x => 0 ≤ x.1 ∧ x.1 ≤ v.length ∧ x.2 = sumK 1 x.1.toNat (farF b v), fun x => ((v.length : Int) - x.1).toNat, ⟨by simp, by simp, rfl⟩, fun ⟨i, s⟩ ⟨h0, h1, h2⟩ => ?_⟩
    dsimp only at h0 h1 h2 ⊢
    refine ⟨fun c => ?_, fun c => by rw [h2, end_toNat h1 (df c), ys _ rfl]⟩
    have c := dt c
    have k := keyI_step (m := 1) (f := farF b v) hf hn h0 h1 h2 c (d := max (b.2.1.getD i.toNat 0 - v.getD i.toNat 0) (v.getD i.toNat 0 - b.1.getD i.toNat 0)) (rfl)
    have k1 := bval_at hb i.toNat
    have k2 := bvec_at hv i.toNat
    exact ⟨⟨h0, c⟩, ⟨h0, by omega⟩, ⟨h0, by omega⟩, ⟨i64s (by omega) (by omega), i64s (by omega) (by omega)⟩, (k.1 rfl).1, k.2.2.2, ⟨by omega, by omega, (k.1 rfl).2⟩, by omega⟩
  · have e := dt e
    subst e
    refine ⟨fun x => 0 ≤ x.1 ∧ x.1 ≤ v.length ∧ x.2 = sumK 2 x.1.toNat (farF b v), fun x => ((v.length : Int) - x.1).toNat, ⟨by simp, by simp, rfl⟩, fun ⟨i, s⟩ ⟨h0, h1, h2⟩ => ?_⟩
    dsimp only at h0 h1 h2 ⊢
    refine ⟨fun c => ?_, fun c => by rw [h2, end_toNat h1 (df c), ys _ rfl]⟩
    have c := dt c
    have k := keyI_step (m := 2) (f := farF b v) hf hn h0 h1 h2 c (d := max (b.2.1.getD i.toNat 0 - v.getD i.toNat 0) (v.getD i.toNat 0 - b.1.getD i.toNat 0)) (rfl)
    have k1 := bval_at hb i.toNat
    have k2 := bvec_at hv i.toNat
    exact ⟨⟨h0, c⟩, ⟨h0, by omega⟩, ⟨h0, by omega⟩, ⟨i64s (by omega) (by omega), i64s (by omega) (by omega)⟩, (k.2.1 rfl).1, (k.2.1 rfl).2.1, k.2.2.2, ⟨by omega, by omega, (k.2.1 rfl).2.2⟩, by omega⟩
  · have e := dt e
    subst e
    refine ⟨fun x => 0 ≤ x.1 ∧ x.1 ≤ v.length ∧ x.2 = sumK 3 x.1.toNat (farF b v), fun x => ((v.length : Int) - x.1).toNat, ⟨by simp, by simp, rfl⟩, fun ⟨i, s⟩ ⟨h0, h1, h2⟩ => ?_⟩
    dsimp only at h0 h1 h2 ⊢
    refine ⟨fun c => ?_, fun c => by rw [h2, end_toNat h1 (df c), ys _ rfl]⟩
    have c := dt c
    have k := keyI_step (m := 3) (f := farF b v) hf hn h0 h1 h2 c (d := max (b.2.1.getD i.toNat 0 - v.getD i.toNat 0) (v.getD i.toNat 0 - b.1.getD i.toNat 0)) (rfl)
    have k1 := bval_at hb i.toNat
    have k2 := bvec_at hv i.toNat
    exact ⟨⟨h0, c⟩, ⟨h0, by omega⟩, ⟨h0, by omega⟩, ⟨i64s (by omega) (by omega), i64s (by omega) (by omega)⟩, k.2.2.2, ⟨by omega, by omega, k.2.2.1 rfl⟩, by omega⟩
  · have := isM_iff.1 (basked_iff.1 h).1
    have := df e1
    have := df e2
    have := df e3
    omega
theorem sat_apart : Sat Try.prog 13 apartSp := by
  refine sat_nf (C := B3) ssB3 (fun x => apart_nf x.1 x.2.1 x.2.2) fun (⟨m, a, b⟩ : Int × Box × Box) hk hp => ?_
  dsimp only
  refine ⟨trivial, fun c => apartS_no fun h => (by have := nt c; rw [h.2] at this; cases this), fun c1 => ?_⟩
  have hab := nf c1
  obtain ⟨ha, hb, hl⟩ := balike_iff.1 hab
  have l := bval_len ha
  have l' := bval_len hb
  have hf := apart_le ha hb
  have hn : a.1.length ≤ 64 := by omega
  have ys : ∀ m, isM m = true → apartS m a b = (sumK m a.1.length (apartF a b), 0) := fun m hm => apartS_yes hm hab
  refine ⟨fun e => ?_, fun e1 => ⟨fun e => ?_, fun e2 => ⟨fun e => ?_, fun e3 => apartS_no fun h => ?_⟩⟩⟩
  · have e := dt e
    subst e
    refine ⟨fun x => 0 ≤ x.1 ∧ x.1 ≤ a.1.length ∧ x.2 = sumK 1 x.1.toNat (apartF a b), fun x => ((a.1.length : Int) - x.1).toNat, ⟨by simp, by simp, rfl⟩, fun ⟨i, s⟩ ⟨h0, h1, h2⟩ => ?_⟩
    dsimp only at h0 h1 h2 ⊢
    refine ⟨fun c => ?_, fun c => by rw [h2, end_toNat h1 (df c), ys _ rfl]⟩
    have c := dt c
    have k := keyI_step (m := 1) (f := apartF a b) hf hn h0 h1 h2 c (d := max (max 0 (a.1.getD i.toNat 0 - b.2.1.getD i.toNat 0)) (b.1.getD i.toNat 0 - a.2.1.getD i.toNat 0)) (by unfold apartF at_; omega)
    have k1 := bval_at ha i.toNat
    have k2 := bval_at hb i.toNat
    exact ⟨⟨h0, c⟩, ⟨h0, by omega⟩, i64s (by omega) (by omega), ⟨h0, by omega⟩, ⟨h0, by omega⟩, i64s (by omega) (by omega), (k.1 rfl).1, k.2.2.2, ⟨by omega, by omega, (k.1 rfl).2⟩, by omega⟩
  · have e := dt e
    subst e
    refine ⟨fun x => 0 ≤ x.1 ∧ x.1 ≤ a.1.length ∧ x.2 = sumK 2 x.1.toNat (apartF a b), fun x => ((a.1.length : Int) - x.1).toNat, ⟨by simp, by simp, rfl⟩, fun ⟨i, s⟩ ⟨h0, h1, h2⟩ => ?_⟩
    dsimp only at h0 h1 h2 ⊢
    refine ⟨fun c => ?_, fun c => by rw [h2, end_toNat h1 (df c), ys _ rfl]⟩
    have c := dt c
    have k := keyI_step (m := 2) (f := apartF a b) hf hn h0 h1 h2 c (d := max (max 0 (a.1.getD i.toNat 0 - b.2.1.getD i.toNat 0)) (b.1.getD i.toNat 0 - a.2.1.getD i.toNat 0)) (by unfold apartF at_; omega)
    have k1 := bval_at ha i.toNat
    have k2 := bval_at hb i.toNat
    exact ⟨⟨h0, c⟩, ⟨h0, by omega⟩, i64s (by omega) (by omega), ⟨h0, by omega⟩, ⟨h0, by omega⟩, i64s (by omega) (by omega), (k.2.1 rfl).1, (k.2.1 rfl).2.1, k.2.2.2, ⟨by omega, by omega, (k.2.1 rfl).2.2⟩, by omega⟩
  · have e := dt e
    subst e
    refine ⟨fun x => 0 ≤ x.1 ∧ x.1 ≤ a.1.length ∧ x.2 = sumK 3 x.1.toNat (apartF a b), fun x => ((a.1.length : Int) - x.1).toNat, ⟨by simp, by simp, rfl⟩, fun ⟨i, s⟩ ⟨h0, h1, h2⟩ => ?_⟩
    dsimp only at h0 h1 h2 ⊢
    refine ⟨fun c => ?_, fun c => by rw [h2, end_toNat h1 (df c), ys _ rfl]⟩
    have c := dt c
    have k := keyI_step (m := 3) (f := apartF a b) hf hn h0 h1 h2 c (d := max (max 0 (a.1.getD i.toNat 0 - b.2.1.getD i.toNat 0)) (b.1.getD i.toNat 0 - a.2.1.getD i.toNat 0)) (by unfold apartF at_; omega)
    have k1 := bval_at ha i.toNat
    have k2 := bval_at hb i.toNat
    exact ⟨⟨h0, c⟩, ⟨h0, by omega⟩, i64s (by omega) (by omega), ⟨h0, by omega⟩, ⟨h0, by omega⟩, i64s (by omega) (by omega), k.2.2.2, ⟨by omega, by omega, k.2.2.1 rfl⟩, by omega⟩
  · have := isM_iff.1 h.1
    have := df e1
    have := df e2
    have := df e3
    omega
theorem sat_rNear : Sat Try.prog 16 rNearSp := by
  refine sat_nf (C := B3) ssB3 (fun x => rNear_nf x.1 x.2.1 x.2.2) fun (⟨m, b, v⟩ : Int × Box × List Int) hk hp => ?_
  dsimp only
  refine ⟨trivial, fun c => ?_, fun c => ?_⟩
  · rw [← nearS_no fun h => by have := nt c; rw [h] at this; cases this]
  · have hq := nf c
    obtain ⟨hm, hb, hv, hl⟩ := basked_iff.1 hq
    have hle : (nearestS b v).length = v.length := tab_length _ _
    refine ⟨⟨hb, hl⟩, ⟨hm, nearest_sm hb hv, bvec_sm hv, by omega⟩, ?_⟩
    rw [nearS_yes hq, hle, sumK_ext fun i hi => key_near hb i hi]
theorem sat_rFar : Sat Try.prog 17 rFarSp := by
  refine sat_nf (C := B3) ssB3 (fun x => rFar_nf x.1 x.2.1 x.2.2) fun (⟨m, b, v⟩ : Int × Box × List Int) hk hp => ?_
  dsimp only
  refine ⟨trivial, fun c => ?_, fun c => ?_⟩
  · rw [← farS_no fun h => by have := nt c; rw [h] at this; cases this]
  · have hq := nf c
    obtain ⟨hm, hb, hv, hl⟩ := basked_iff.1 hq
    have hle : (farthestS b v).length = v.length := tab_length _ _
    refine ⟨⟨hb, hv, hl⟩, ⟨hm, farthest_sm hb hv, bvec_sm hv, by omega⟩, ?_⟩
    rw [farS_yes hq, hle, sumK_ext fun i hi => key_far hb i hi]
theorem sat_rApart : Sat Try.prog 18 rApartSp := by
  refine sat_nf (C := B3) ssB3 (fun x => rApart_nf x.1 x.2.1 x.2.2) fun (⟨m, a, b⟩ : Int × Box × Box) hk hp => ?_
  dsimp only
  refine ⟨trivial, fun c => ?_, fun c1 => ⟨trivial, fun c => ?_, fun c2 => ?_⟩⟩
  · rw [← apartS_no fun h => by have := nt c; rw [h.1] at this; cases this]
  · rw [← apartS_no fun h => by have := nt c; rw [h.2] at this; cases this]
  · have hm := nf c1
    have hab := nf c2
    obtain ⟨ha, hb, hl⟩ := balike_iff.1 hab
    have la := bval_len ha
    have lb := bval_len hb
    refine ⟨fun x => 0 ≤ x.2.2 ∧ x.2.2 ≤ a.1.length ∧ x.1 = tab x.2.2.toNat (apartF a b) ∧ x.2.1 = tab x.2.2.toNat (fun _ => 0), fun x => ((a.1.length : Int) - x.2.2).toNat, ⟨by simp, by simp, rfl, rfl⟩, fun ⟨X, Y, i⟩ ⟨h0, h1, h2, h3⟩ => ?_⟩
    dsimp only at h0 h1 h2 h3 ⊢
    have l1 : X.length = i.toNat := by rw [h2, tab_length]
    have l2 : Y.length = i.toNat := by rw [h3, tab_length]
    refine ⟨fun c => ?_, fun c => ?_⟩
    · have c := dt c
      have k1 := bval_at ha i.toNat
      have k2 := bval_at hb i.toNat
      exact ⟨⟨h0, c⟩, ⟨h0, by omega⟩, i64s (by omega) (by omega), ⟨h0, by omega⟩, ⟨h0, by omega⟩, i64s (by omega) (by omega), roomI bytesI (by rw [l1]; simp; omega), roomI bytesI (by rw [l2]; omega), i64s (by omega) (by omega),
        ⟨by omega, by omega, by rw [succ_toNat h0, tab_succ, ← h2]; rfl, by rw [succ_toNat h0, tab_succ, ← h3]⟩, by omega⟩
    · have c := df c
      have e := end_toNat h1 c
      rw [h2, h3, e]
      have hsm : sm (tab a.1.length fun _ => 0) := tab_sm (by omega) fun i => by omega
      refine ⟨⟨hm, apart_sm (by omega) ha hb, hsm, by rw [tab_length, tab_length]; omega⟩, ?_⟩
      rw [apartS_yes hm hab, tab_length, sumK_ext fun i hi => key_apart a.1.length ha hb i hi]
theorem sat_of : Sat Try.prog 34 ofSp := by
  refine sat_nf (C := B3) ssB3 of_nf fun (l : List (List Int)) hk hp => ?_
  refine ⟨fun c => ofS_no fun h => by have := (ofOk_iff.1 h).1; have := dt c; omega, fun c0 => ?_⟩
  have c0 := df c0
  refine ⟨fun x => 0 ≤ x ∧ x ≤ l.length ∧ ∀ j : Nat, (j : Int) < x → bvec (l.getD j []) = true ∧ (l.getD j []).length = (l.getD 0 []).length, fun x => ((l.length : Int) - x).toNat, ⟨by omega, by omega, fun j hj => by omega⟩, fun x ⟨h0, h1, h2⟩ => ⟨fun c => ?_, fun c => ⟨fun e => (by cases e), fun _ => ?_⟩⟩⟩
  · have c := dt c
    refine ⟨⟨h0, c⟩, trivial, fun g => ⟨fun _ => ofS_no fun h => ?_, fun e => absurd h0 (df e)⟩, fun g => ⟨⟨by omega, by omega⟩, fun g' => ⟨fun _ => ofS_no fun h => ?_, fun e => absurd h0 (df e)⟩, fun g' => ⟨i64_lt h0 c hk.1, ⟨by omega, by omega, upd_all h0 h2 ⟨nf g, by have := ndf g'; omega⟩⟩, by dsimp only; omega⟩⟩⟩
    · have := nt g; rw [((ofOk_iff.1 h).2 x.toNat (by omega)).1] at this; cases this
    · have := ((ofOk_iff.1 h).2 x.toNat (by omega)).2; exact ndt g' (by omega)
  · have c := df c
    have hok := ofOk_iff.2 ⟨show 1 ≤ l.length by omega, fun i hi => h2 i (by omega)⟩
    have ys := ofS_yes hok
    have hn := bvec_len ((ofOk_iff.1 hok).2 0 (by omega)).1
    have hrow := (ofOk_iff.1 hok).2
    rw [tl_eq]
    have hdl : (List.drop 1 l).length = l.length - 1 := by simp
    obtain ⟨r1, r2⟩ := row_tab l
    refine ⟨⟨by omega, by omega⟩, by omega, ⟨by omega, by omega⟩, by omega, ⟨by omega, by omega⟩,
      fun x => 0 ≤ x.1 ∧ x.1 ≤ (l.length : Int) - 1 ∧ x.2.1 = tab (l.getD 0 []).length (mnK l (x.1.toNat + 1)) ∧ x.2.2 = tab (l.getD 0 []).length (mxK l (x.1.toNat + 1)), fun x => ((l.length : Int) - x.1).toNat, ⟨by simp, by dsimp only; omega, r1, r2⟩, fun ⟨i, A, B⟩ ⟨i0, i1, i2, i3⟩ => ⟨fun q => ?_, fun q => ?_⟩⟩
    · dsimp only at i0 i1 i2 i3 q ⊢
      have q := dt q
      rw [tl_getD]
      obtain ⟨g1, g2⟩ := hrow (i.toNat + 1) (by omega)
      have hA : sm A := by rw [i2]; exact tab_sm (by omega) fun j => by have := mnK_bd hok (i.toNat + 1) j; omega
      have hB : sm B := by rw [i3]; exact tab_sm (by omega) fun j => by have := mxK_bd hok (i.toNat + 1) j; omega
      have lA : A.length = (l.getD 0 []).length := by rw [i2, tab_length]
      have lB : B.length = (l.getD 0 []).length := by rw [i3, tab_length]
      refine ⟨⟨i0, q⟩, ⟨hA, bvec_sm g1, by omega, .inl rfl⟩, ⟨hB, bvec_sm g1, by omega, .inr (.inl rfl)⟩, i64_lt (n := l.length) i0 (by omega) hk.1, ⟨by omega, by omega, ?_, ?_⟩, by omega⟩
      · refine (show zipS A (l.getD (i.toNat + 1) []) _ = tab A.length fun j => min (A.getD j 0) ((l.getD (i.toNat + 1) []).getD j 0) from rfl).trans (tab_ext lA fun j hj => ?_)
        rw [succ_toNat i0, mnK_succ l (i.toNat + 1), i2, tab_getD _ (by omega)]
      · refine (show zipS B (l.getD (i.toNat + 1) []) _ = tab B.length fun j => max (B.getD j 0) ((l.getD (i.toNat + 1) []).getD j 0) from rfl).trans (tab_ext lB fun j hj => ?_)
        rw [succ_toNat i0, mxK_succ l (i.toNat + 1), i3, tab_getD _ (by omega)]
    · dsimp only at i0 i1 i2 i3 q ⊢
      have q := df q
      rw [show i.toNat + 1 = l.length by omega] at i2 i3
      rw [ys, i2, i3]
theorem sat_join : Sat Try.prog 35 joinSp := by
  refine sat_nf (C := B3) ssB3 (fun x => join_nf x.1 x.2) fun (⟨a, b⟩ : Box × Box) hk hp => ?_
  dsimp only
  refine ⟨trivial, fun c => joinS_no fun h => (by have := nt c; rw [h] at this; cases this), fun c => ?_⟩
  have c := nf c
  obtain ⟨ha, hb, hl⟩ := balike_iff.1 c
  obtain ⟨a1, a2, a3, _⟩ := bval_iff.1 ha
  obtain ⟨b1, b2, b3, _⟩ := bval_iff.1 hb
  refine ⟨⟨bvec_sm a1, bvec_sm b1, by omega, .inl rfl⟩, ⟨bvec_sm a2, bvec_sm b2, by omega, .inr (.inl rfl)⟩, ?_⟩
  rw [joinS_yes c]
  rfl
theorem sat_rJoin : Sat Try.prog 37 rJoinSp := by
  refine sat_nf (C := B3) ssB3 (fun x => rJoin_nf x.1 x.2) fun (⟨a, b⟩ : Box × Box) hk hp => ?_
  dsimp only
  refine ⟨trivial, fun c => ?_, fun c => ⟨trivial, ?_⟩⟩
  · have c := nt c
    rw [← joinS_no fun h => (by rw [h] at c; cases c), c]
  · have c := nf c
    rw [(of4 c).1, (of4 c).2, joinS_yes c, c]
theorem sat_meet : Sat Try.prog 29 meetSp := by
  refine sat_nf (C := B3) ssB3 (fun x => meet_nf x.1 x.2) fun (⟨a, b⟩ : Box × Box) hk hp => ?_
  dsimp only
  refine ⟨trivial, fun c => meetS_no fun h => (by have := nt c; rw [h] at this; cases this), fun c => ?_⟩
  have c := nf c
  obtain ⟨ha, hb, hl⟩ := balike_iff.1 c
  obtain ⟨a1, a2, a3, _⟩ := bval_iff.1 ha
  obtain ⟨b1, b2, b3, _⟩ := bval_iff.1 hb
  refine ⟨⟨bvec_sm a1, bvec_sm b1, by omega, .inr (.inl rfl)⟩, ⟨bvec_sm a2, bvec_sm b2, by omega, .inl rfl⟩, trivial, fun g => meetS_none c (nt g), fun g => ?_⟩
  rw [meetS_yes c (nf g)]
  rfl
theorem sat_rMeet : Sat Try.prog 38 rMeetSp := by
  refine sat_nf (C := B3) ssB3 (fun x => rMeet_nf x.1 x.2) fun (⟨a, b⟩ : Box × Box) hk hp => ?_
  dsimp only
  refine ⟨trivial, fun c => (by rw [← meetS_no fun h => (by have := nt c; rw [h] at this; cases this)]), fun c => ?_⟩
  have c := nf c
  obtain ⟨ha, hb, hl⟩ := balike_iff.1 c
  have la := bval_len ha
  have lb := bval_len hb
  refine ⟨fun x => 0 ≤ x.2.2 ∧ x.2.2 ≤ a.1.length ∧ x.1 = tab x.2.2.toNat (fun i => max (at_ a.1 i) (at_ b.1 i)) ∧ x.2.1 = tab x.2.2.toNat (fun i => min (at_ a.2.1 i) (at_ b.2.1 i)) ∧ ∀ j : Nat, (j : Int) < x.2.2 → max (a.1.getD j 0) (b.1.getD j 0) ≤ min (a.2.1.getD j 0) (b.2.1.getD j 0),
    fun x => ((a.1.length : Int) - x.2.2).toNat, ⟨by simp, by simp, rfl, rfl, fun j hj => by dsimp only at hj; omega⟩, fun ⟨X, Y, i⟩ ⟨h0, h1, h2, h3, h4⟩ => ?_⟩
  dsimp only at h0 h1 h2 h3 h4 ⊢
  have l1 : X.length = i.toNat := by rw [h2, tab_length]
  have l2 : Y.length = i.toNat := by rw [h3, tab_length]
  refine ⟨fun d => ?_, fun d => ?_⟩
  · have d := dt d
    refine ⟨⟨h0, d⟩, ⟨h0, by omega⟩, ⟨h0, by omega⟩, ⟨h0, by omega⟩, fun g => ?_, fun g => ?_⟩
    · have g := dt g
      rw [← meetS_none c (eq_no fun h => by have := (meetB_val c).1 h i.toNat (by omega); omega)]
    · have g := df g
      exact ⟨roomI bytesI (by rw [l1]; simp; omega), roomI bytesI (by rw [l2]; simp; omega), i64s (by omega) (by omega),
        ⟨by omega, by omega, by rw [succ_toNat h0, tab_succ, ← h2]; rfl, by rw [succ_toNat h0, tab_succ, ← h3]; rfl, upd_all h0 h4 (by omega)⟩, by omega⟩
  · have d := df d
    have e := end_toNat h1 d
    rw [e] at h2 h3
    rw [meetS_yes c ((meetB_val c).2 fun j hj => h4 j (by omega)), h2, h3]
    unfold meetB
    rw [la.2.2]
theorem sat_ins : Sat Try.prog 32 binsSp := by
  refine sat_nf (C := B3) ssB3 (fun x => ins_nf x.1 x.2) fun (⟨a, b⟩ : Box × Box) hk hp => ?_
  dsimp only
  refine ⟨trivial, fun h1 => ⟨trivial, fun h2 => ⟨trivial, ?_⟩, fun h2 => ?_⟩, fun h1 => ?_⟩
  · unfold binside; rw [h1, h2]; rfl
  · unfold binside; rw [h1, h2]; rfl
  · unfold binside; rw [h1]; rfl
theorem sat_rIns : Sat Try.prog 40 binsSp := by
  refine sat_nf (C := B3) ssB3 (fun x => rIns_nf x.1 x.2) fun (⟨a, b⟩ : Box × Box) hk hp => ?_
  dsimp only
  refine ⟨trivial, fun h1 => ⟨trivial, fun h0 => ⟨trivial, fun h2 => ⟨trivial, ?_⟩, fun h2 => ?_⟩, fun h0 => is_no fun h => ?_⟩, fun h1 => ?_⟩
  · unfold binside; rw [h1, h2]; rfl
  · unfold binside; rw [h1, h2]; rfl
  · rw [(bhas_iff.1 (binside_iff.1 h).2.1).1] at h0; cases h0
  · unfold binside; rw [h1]; rfl
theorem sat_sameB : Sat Try.prog 21 sameBSp := by
  refine sat_nf (C := B3) ssB3 (fun x => sameB_nf x.1 x.2) fun (⟨a, b⟩ : Box × Box) hk hp => ?_
  dsimp only
  refine ⟨trivial, fun h1 => ⟨trivial, ?_⟩, fun h1 => is_no fun h => df h1 (by rw [dt h])⟩
  rw [decide_eq_decide]
  exact ⟨fun h => Prod.ext (dt h1) (Prod.ext h rfl), fun h => by rw [h]⟩
theorem sat_few : Sat Try.prog 9 fewSp := by
  refine sat_nf (C := B3) ssB3 few_nf fun (a : Box) hk hp => ?_
  refine ⟨fun h1 => dec_is ⟨fun h => fewB_iff.2 ⟨by have := dt h1; omega, by omega⟩, fun h => by have := (fewB_iff.1 h).2; omega⟩, fun h1 => is_no fun h => df h1 (by have := (fewB_iff.1 h).1; omega)⟩
end Go.Proofs.Ytdnofflnfchcbaa
