import Derived.Test.YtdeleoaeegmhlaaMX3
--@drop
namespace Go.Proofs.Ytdeleoaeegmhlaa
open Go.AM Go.PL
set_option linter.unusedVariables false
theorem ssB3 : SpecSound B3 := mkctx_sound ⟨sat_balike, sat_has, satG_cln.toData, sat_bvalid, sat_zip, sat_isVec, sat_least, sat_great, sat_nr, sat_idx, sat_same6, trivial⟩ trivial
theorem sat_near : Sat Try.prog 52 nearSp := by
  refine sat_nf (C := B3) ssB3 (fun x => near_nf x.1 x.2.1 x.2.2) fun (⟨m, b, v⟩ : Int × Box × List Int) hk hp => ?_
  dsimp only
  refine ⟨trivial, fun c => nearS_no fun h => ?_, fun c1 => ⟨trivial, fun c => nearS_no fun h => ?_, fun c2 => ⟨fun c => nearS_no fun h => ?_, fun c3 => ?_⟩⟩⟩
  · have := nt c; rw [(basked_iff.1 h).2.1] at this; cases this
  · have := nt c; rw [(basked_iff.1 h).2.2.1] at this; cases this
  · have := (basked_iff.1 h).2.2.2; exact ndt c (by omega)
  have hb := nf c1
  have hv := nf c2
  have hl := ndf c3
  have l := bval_len hb
  have hf := near_le hb hv
  have hn : v.length ≤ 64 := by omega
  have ys : ∀ m, isM m = true → nearS m b v = (sumK m v.length (nearF b v), 0) := fun m hm => nearS_yes (basked_iff.2 ⟨hm, hb, hv, by omega⟩)
  refine ⟨fun e => ?_, fun e1 => ⟨fun e => ?_, fun e2 => ⟨fun e => ?_, fun e3 => nearS_no fun h => ?_⟩⟩⟩
  · have e := dt e
    subst e
    refine ⟨fun x => 0 ≤ x.1 ∧ x.1 ≤ v.length ∧ x.2 = sumK 1 x.1.toNat (nearF b v), fun x => ((v.length : Int) - x.1).toNat, ⟨by simp, by simp, rfl⟩, fun ⟨i, s⟩ ⟨h0, h1, h2⟩ => ?_⟩
    dsimp only at h0 h1 h2 ⊢
    refine ⟨fun c => ?_, fun c => by rw [h2, end_toNat h1 (df c), ys _ rfl]⟩
    have c := dt c
    have k := keyI_step (m := 1) (f := nearF b v) hf hn h0 h1 h2 c (d := max 0 (max (b.1.getD i.toNat 0 - v.getD i.toNat 0) (v.getD i.toNat 0 - b.2.1.getD i.toNat 0))) (rfl)
    have k1 := bval_at hb i.toNat
    have k2 := bvec_at hv i.toNat
    exact ⟨⟨h0, c⟩, ⟨h0, by omega⟩, ⟨h0, by omega⟩, ⟨i64s (by omega) (by omega), i64s (by omega) (by omega)⟩, (k.1 rfl).1, k.2.2.2, ⟨by omega, by omega, (k.1 rfl).2⟩, by omega⟩
  · have e := dt e
    subst e
    refine ⟨fun x => 0 ≤ x.1 ∧ x.1 ≤ v.length ∧ x.2 = sumK 2 x.1.toNat (nearF b v), fun x => ((v.length : Int) - x.1).toNat, ⟨by simp, by simp, rfl⟩, fun ⟨i, s⟩ ⟨h0, h1, h2⟩ => ?_⟩
    dsimp only at h0 h1 h2 ⊢
    refine ⟨fun c => ?_, fun c => by rw [h2, end_toNat h1 (df c), ys _ rfl]⟩
    have c := dt c
    have k := keyI_step (m := 2) (f := nearF b v) hf hn h0 h1 h2 c (d := max 0 (max (b.1.getD i.toNat 0 - v.getD i.toNat 0) (v.getD i.toNat 0 - b.2.1.getD i.toNat 0))) (rfl)
    have k1 := bval_at hb i.toNat
    have k2 := bvec_at hv i.toNat
    exact ⟨⟨h0, c⟩, ⟨h0, by omega⟩, ⟨h0, by omega⟩, ⟨i64s (by omega) (by omega), i64s (by omega) (by omega)⟩, (k.2.1 rfl).1, (k.2.1 rfl).2.1, k.2.2.2, ⟨by omega, by omega, (k.2.1 rfl).2.2⟩, by omega⟩
  · have e := dt e
    subst e
    refine ⟨fun x => 0 ≤ x.1 ∧ x.1 ≤ v.length ∧ x.2 = sumK 3 x.1.toNat (nearF b v), fun x => ((v.length : Int) - x.1).toNat, ⟨by simp, by simp, rfl⟩, fun ⟨i, s⟩ ⟨h0, h1, h2⟩ => ?_⟩
    dsimp only at h0 h1 h2 ⊢
    refine ⟨fun c => ?_, fun c => by rw [h2, end_toNat h1 (df c), ys _ rfl]⟩
    have c := dt c
    have k := keyI_step (m := 3) (f := nearF b v) hf hn h0 h1 h2 c (d := max 0 (max (b.1.getD i.toNat 0 - v.getD i.toNat 0) (v.getD i.toNat 0 - b.2.1.getD i.toNat 0))) (rfl)
    have k1 := bval_at hb i.toNat
    have k2 := bvec_at hv i.toNat
    exact ⟨⟨h0, c⟩, ⟨h0, by omega⟩, ⟨h0, by omega⟩, ⟨i64s (by omega) (by omega), i64s (by omega) (by omega)⟩, k.2.2.2, ⟨by omega, by omega, k.2.2.1 rfl⟩, by omega⟩
  · have := isM_iff.1 (basked_iff.1 h).1
    have := df e1
    have := df e2
    have := df e3
    omega
theorem sat_meet : Sat Try.prog 14 meetSp := by
  refine sat_nf (C := B3) ssB3 (fun x => meet_nf x.1 x.2) fun (⟨a, b⟩ : Box × Box) hk hp => ?_
  dsimp only
  refine ⟨trivial, fun c => meetS_no fun h => (by have := nt c; rw [h] at this; cases this), fun c => ?_⟩
  have c := nf c
  obtain ⟨ha, hb, hl⟩ := balike_iff.1 c
  obtain ⟨a1, a2, a3, _⟩ := bval_iff.1 ha
  obtain ⟨b1, b2, b3, _⟩ := bval_iff.1 hb
  refine ⟨⟨bvec_sm a1, bvec_sm b1, by omega, .inr rfl⟩, ⟨bvec_sm a2, bvec_sm b2, by omega, .inl rfl⟩, trivial, fun g => meetS_none c (nt g), fun g => ?_⟩
  rw [meetS_yes c (nf g)]
  rfl
theorem sat_sameB : Sat Try.prog 18 sameBSp := by
  refine sat_nf (C := B3) ssB3 (fun x => sameB_nf x.1 x.2) fun (⟨a, b⟩ : Box × Box) hk hp => ?_
  dsimp only
  refine ⟨trivial, fun h1 => ⟨trivial, ?_⟩, fun h1 => is_no fun h => df h1 (by rw [dt h])⟩
  rw [decide_eq_decide]
  exact ⟨fun h => Prod.ext (dt h1) (Prod.ext h rfl), fun h => by rw [h]⟩
end Go.Proofs.Ytdeleoaeegmhlaa
