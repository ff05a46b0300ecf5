import Derived.Test.YtjppchomonpfgaaCh
namespace Go.Proofs.Ytjppchomonpfgaa
open Go.AM Go.PL
set_option linter.unusedVariables false
theorem sat_tbl : Sat Try.prog 26 tblSp := by
  refine sat_nf (C := DT _ _) (ssDT _ _) (fun x => tbl3_nf x.1 x.2.1 x.2.2) fun (⟨b, m, v⟩ : Book × Int × List Int) hk hp => ?_
  have hr : rightB b m v v = true := hp
  obtain ⟨l8, l2⟩ := right_len hr
  dsimp only
  refine ⟨fun x => 0 ≤ x.1 ∧ x.1 ≤ b.2.1.length ∧ x.2 = tabL x.1.toNat (rowS b m v), fun x => ((b.2.1.length : Int) - x.1).toNat, ⟨by simp, by simp, rfl⟩, fun ⟨k, o⟩ ⟨h0, h1, h2⟩ => ?_⟩
  dsimp only at h0 h1 h2 ⊢
  refine ⟨fun g => ?_, fun g => by rw [h2, end_toNat h1 (df g)]; rfl⟩
  have g := dt g
  obtain ⟨r1, r2, r3, r4, r5, r6⟩ := right_at hr (show k.toNat < b.2.1.length by omega)
  have ol : o.length = k.toNat := by rw [h2, tabL_length]
  have hi : isI64 (k + 1) := i64s (by omega) (by omega)
  have e1 := end_gt r1 (show k.toNat < b.2.1.length by omega)
  have e2 := cut_mono r1 k.toNat (by omega)
  refine ⟨⟨h0, g⟩, hi, fun l => ?_, fun l => ?_⟩
  · have e := end_in (d := b.1) h0 (dt l)
    refine ⟨hi, ⟨by omega, dt l⟩, ⟨h0, by omega⟩, ?_⟩
    refine ⟨fun y => y.2.2.1 = o ∧ y.2.2.2.1 = k ∧ y.2.2.2.2.1 = b.2.1.getD k.toNat 0 ∧ y.2.2.2.2.2 = endN b.2.1 b.1 k.toNat ∧ 0 ≤ y.2.1 ∧ y.2.1 ≤ (b.2.2.1.getD k.toNat []).length ∧ y.1 = tab y.2.1.toNat (fun i => keyS m ((b.2.2.1.getD k.toNat []).getD i []) (partS b.2.1 b.1 k.toNat v)), fun y => (((b.2.2.1.getD k.toNat []).length : Int) - y.2.1).toNat,
      ⟨rfl, rfl, rfl, e, by simp, by simp, rfl⟩, fun ⟨row, i, o', k', f, t⟩ ⟨y1, y2, y3, y4, i1, i2, i3⟩ => ?_⟩
    dsimp only at y1 y2 y3 y4 i1 i2 i3 ⊢
    subst y1 y2 y3 y4
    have rl : row.length = i.toNat := by rw [i3, tab_length]
    refine ⟨fun q => ?_, fun q => ?_⟩
    · have q := dt q
      have pe : List.take ((endN b.2.1 b.1 k'.toNat).toNat - (b.2.1.getD k'.toNat 0).toNat) (List.drop (b.2.1.getD k'.toNat 0).toNat v) = partS b.2.1 b.1 k'.toNat v := rfl
      rw [pe]
      obtain ⟨s1, s2, s3⟩ := alike_sm (r6 i.toNat (by omega)) (c := 4000) (by omega)
      exact ⟨⟨i1, q⟩, ⟨by omega, by omega, by omega⟩, ⟨r3.1, r3.2, s1, s2, s3⟩, room8 bytesI8 (by rw [rl]; simp; omega), i64s (by omega) (by omega), ⟨rfl, rfl, rfl, rfl, by omega, by omega, by rw [succ_toNat i1, tab_succ, ← i3]⟩, by omega⟩
    · have q := df q
      rw [end_toNat i2 q] at i3
      exact ⟨room24 bytesL24 (by rw [ol]; simp; omega), hi, ⟨by omega, by omega, by rw [succ_toNat h0, tabL_succ, ← h2, i3]; rfl⟩, by omega⟩
  · have e := end_last (d := b.1) h0 (df l)
    refine ⟨⟨h0, by omega⟩, ?_⟩
    refine ⟨fun y => y.2.2.1 = o ∧ y.2.2.2.1 = k ∧ y.2.2.2.2.1 = b.2.1.getD k.toNat 0 ∧ y.2.2.2.2.2 = endN b.2.1 b.1 k.toNat ∧ 0 ≤ y.2.1 ∧ y.2.1 ≤ (b.2.2.1.getD k.toNat []).length ∧ y.1 = tab y.2.1.toNat (fun i => keyS m ((b.2.2.1.getD k.toNat []).getD i []) (partS b.2.1 b.1 k.toNat v)), fun y => (((b.2.2.1.getD k.toNat []).length : Int) - y.2.1).toNat,
      ⟨rfl, rfl, rfl, e, by simp, by simp, rfl⟩, fun ⟨row, i, o', k', f, t⟩ ⟨y1, y2, y3, y4, i1, i2, i3⟩ => ?_⟩
    dsimp only at y1 y2 y3 y4 i1 i2 i3 ⊢
    subst y1 y2 y3 y4
    have rl : row.length = i.toNat := by rw [i3, tab_length]
    refine ⟨fun q => ?_, fun q => ?_⟩
    · have q := dt q
      have pe : List.take ((endN b.2.1 b.1 k'.toNat).toNat - (b.2.1.getD k'.toNat 0).toNat) (List.drop (b.2.1.getD k'.toNat 0).toNat v) = partS b.2.1 b.1 k'.toNat v := rfl
      rw [pe]
      obtain ⟨s1, s2, s3⟩ := alike_sm (r6 i.toNat (by omega)) (c := 4000) (by omega)
      exact ⟨⟨i1, q⟩, ⟨by omega, by omega, by omega⟩, ⟨r3.1, r3.2, s1, s2, s3⟩, room8 bytesI8 (by rw [rl]; simp; omega), i64s (by omega) (by omega), ⟨rfl, rfl, rfl, rfl, by omega, by omega, by rw [succ_toNat i1, tab_succ, ← i3]⟩, by omega⟩
    · have q := df q
      rw [end_toNat i2 q] at i3
      exact ⟨room24 bytesL24 (by rw [ol]; simp; omega), hi, ⟨by omega, by omega, by rw [succ_toNat h0, tabL_succ, ← h2, i3]; rfl⟩, by omega⟩
theorem sat_res : Sat Try.prog 20 resSp := by
  refine sat_nf (C := D1 [.cell 2 0 I]) (ssD1 _) (fun x => res_nf x.1 x.2.1 x.2.2) fun (⟨b, m, v⟩ : Book × Int × List Int) hk hp => ?_
  have hr : rightB b m v v = true := hp
  have hm := (rightB_iff.1 hr).2.1
  obtain ⟨l8, l2⟩ := right_len hr
  have fb : ∀ i : Int, 0 ≤ i → i < b.2.1.length → 0 ≤ foldJ m i.toNat (fun k => leastS m (b.2.2.1.getD k []) (partS b.2.1 b.1 k v)) ∧ foldJ m i.toNat (fun k => leastS m (b.2.2.1.getD k []) (partS b.2.1 b.1 k v)) ≤ 8 * 134217728 := fun i h0 hi => by
    have h1 := foldJ_nonneg (m := m) (n := i.toNat) (f := fun k => leastS m (b.2.2.1.getD k []) (partS b.2.1 b.1 k v)) fun k hk => (least_bd hr (by omega)).1
    have h2 := foldJ_le (m := m) (n := i.toNat) (f := fun k => leastS m (b.2.2.1.getD k []) (partS b.2.1 b.1 k v)) (c := 134217728) (by omega) fun k hk => least_bd hr (by omega)
    exact ⟨h1, by omega⟩
  dsimp only
  repeat' (first | refine And.intro (fun _ => ?_) (fun _ => ?_) | apply And.intro)
  all_goals first
    | (exfalso; omega)
    | (refine ⟨fun x => 0 ≤ x.1 ∧ x.1 ≤ b.2.1.length ∧ x.2 = foldJ m x.1.toNat (fun k => leastS m (b.2.2.1.getD k []) (partS b.2.1 b.1 k v)), fun x => ((b.2.1.length : Int) - x.1).toNat, ⟨by simp, by simp, rfl⟩, fun ⟨k, o⟩ ⟨h0, h1, h2⟩ => ?_⟩
       dsimp only at h0 h1 h2 ⊢
       refine ⟨fun g => ?_, fun g => by rw [h2, end_toNat h1 (df g)]; rfl⟩
       have g := dt g
       obtain ⟨r1, r2, r3, r4, r5, r6⟩ := right_at hr (show k.toNat < b.2.1.length by omega)
       have e1 := end_gt r1 (show k.toNat < b.2.1.length by omega)
       have e2 := cut_mono r1 k.toNat (by omega)
       have hi : isI64 (k + 1) := i64s (by omega) (by omega)
       have hf := fb k h0 g
       have hl := least_bd hr (show k.toNat < b.2.1.length by omega)
       rw [← h2] at hf
       have hs := foldJ_succ m k.toNat (fun k => leastS m (b.2.2.1.getD k []) (partS b.2.1 b.1 k v))
       rw [← h2, ← succ_toNat h0] at hs
       unfold joinK at hs
       refine ⟨⟨h0, g⟩, hi, fun l => ?_, fun l => ?_⟩
       · have e := end_in (d := b.1) h0 (dt l)
         rw [part_in (d := b.1) h0 (dt l)]
         first
           | exact ⟨hi, ⟨by omega, dt l⟩, ⟨h0, by omega⟩, ⟨by omega, by omega, by omega⟩, ⟨r3, ⟨r5.1, by omega⟩, r6⟩, i64s (by omega) (by omega), hi, ⟨by omega, by omega, by rw [hs, if_neg (by omega)]⟩, by omega⟩
           | exact ⟨hi, ⟨by omega, dt l⟩, ⟨h0, by omega⟩, ⟨by omega, by omega, by omega⟩, ⟨r3, ⟨r5.1, by omega⟩, r6⟩, hi, ⟨by omega, by omega, by rw [hs, if_pos (by omega)]⟩, by omega⟩
       · have e := end_last (d := b.1) h0 (df l)
         rw [part_last h0 (df l)]
         first
           | exact ⟨⟨h0, by omega⟩, ⟨by omega, by omega, by omega⟩, ⟨r3, ⟨r5.1, by omega⟩, r6⟩, i64s (by omega) (by omega), hi, ⟨by omega, by omega, by rw [hs, if_neg (by omega)]⟩, by omega⟩
           | exact ⟨⟨h0, by omega⟩, ⟨by omega, by omega, by omega⟩, ⟨r3, ⟨r5.1, by omega⟩, r6⟩, hi, ⟨by omega, by omega, by rw [hs, if_pos (by omega)]⟩, by omega⟩)
end Go.Proofs.Ytjppchomonpfgaa
