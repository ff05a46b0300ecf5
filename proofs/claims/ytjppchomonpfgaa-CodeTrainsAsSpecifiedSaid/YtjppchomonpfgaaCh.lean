import Derived.Test.YtjppchomonpfgaaCf
import Derived.Test.YtjppchomonpfgaaCg
namespace Go.PL
open Go.AM
set_option linter.unusedVariables false
theorem end_in {cuts : List Int} {d x : Int} (h0 : 0 ≤ x) (h : x + 1 < cuts.length) : cuts.getD (x + 1).toNat 0 = endN cuts d x.toNat := by
  unfold endN
  rw [if_pos (by omega), succ_toNat h0]
theorem end_last {cuts : List Int} {d x : Int} (h0 : 0 ≤ x) (h : ¬ x + 1 < cuts.length) : d = endN cuts d x.toNat := by
  unfold endN
  rw [if_neg (by omega)]
theorem part_in {cuts : List Int} {d x : Int} (h0 : 0 ≤ x) (h : x + 1 < cuts.length) (v : List Int) : List.take ((cuts.getD (x + 1).toNat 0).toNat - (cuts.getD x.toNat 0).toNat) (List.drop (cuts.getD x.toNat 0).toNat v) = partS cuts d x.toNat v := by
  rw [end_in (d := d) h0 h]
  rfl
theorem part_last {cuts : List Int} {d x : Int} (h0 : 0 ≤ x) (h : ¬ x + 1 < cuts.length) (v : List Int) : List.take (d.toNat - (cuts.getD x.toNat 0).toNat) (List.drop (cuts.getD x.toNat 0).toNat v) = partS cuts d x.toNat v := by
  unfold partS
  rw [← end_last h0 h]
end Go.PL
namespace Go.Proofs.Ytjppchomonpfgaa
open Go.AM Go.PL
set_option linter.unusedVariables false
theorem least_bd {b : Book} {m : Int} {v q : List Int} (h : rightB b m v q = true) {k : Nat} (hk : k < b.2.1.length) : 0 ≤ leastS m (b.2.2.1.getD k []) (partS b.2.1 b.1 k v) ∧ leastS m (b.2.2.1.getD k []) (partS b.2.1 b.1 k v) ≤ 134217728 := by
  obtain ⟨r1, r2, r3, r4, r5, r6⟩ := right_at h hk
  have := key_bound m (r6 _ (bestS_spec (m := m) (v := partS b.2.1 b.1 k v) r5.1).1)
  unfold leastS
  exact ⟨this.1, by omega⟩
theorem bytesL24 : Try.prog.bytesOf 22 = 24 := by kernel_rfl
theorem room24 {C : Ctx} {t : TypeId} {n : Nat} (hb : C.P.bytesOf t = 24) (h : n ≤ 1000000) : roomP C t n := by
  unfold roomP
  rw [hb]
  omega
theorem sat_chk : Sat Try.prog 12 chkSp := by
  refine sat_nf (C := D1 []) (ssD1 []) chk_nf fun (b : Book) hk hp => ?_
  refine ⟨trivial, fun c => chk_no fun h => ?_, fun c1 => ⟨fun c => chk_no fun h => ?_, fun c2 => ?_⟩⟩
  · have := nt c; rw [(bookB_iff.1 h).1] at this; cases this
  · have := (bookB_iff.1 h).2.1; exact ndt c (by omega)
  have c1 := nf c1
  have c2 := ndf c2
  have hl8 := (cutB_iff.1 c1).2.1
  have hd := (cutB_iff.1 c1).1
  refine ⟨fun x => 0 ≤ x ∧ x ≤ b.2.1.length ∧ ∀ k : Nat, (k : Int) < x → wordsB b.2.1 b.1 k (b.2.2.1.getD k []) = true, fun x => ((b.2.1.length : Int) - x).toNat, ⟨by omega, by omega, fun j hj => by omega⟩, fun x ⟨h0, h1, h2⟩ => ⟨fun g => ?_, fun g => (chk_yes (bookB_iff.2 ⟨c1, by omega, fun k hk => h2 k (by have := df g; omega)⟩)).symm⟩⟩
  have g := dt g
  have e1 := end_gt c1 (show x.toNat < b.2.1.length by omega)
  have e2 := cut_mono c1 x.toNat (by omega)
  have hw1 : (b.2.2.1.getD x.toNat []).length < 1 → 80 = checkS b := fun q => chk_no fun h => by have := (wordsB_iff.1 ((bookB_iff.1 h).2.2 x.toNat (by omega))).1; omega
  have hw2 : 256 < (b.2.2.1.getD x.toNat []).length → 80 = checkS b := fun q => chk_no fun h => by have := (wordsB_iff.1 ((bookB_iff.1 h).2.2 x.toNat (by omega))).1; omega
  have hi : isI64 (x + 1) := i64s (by omega) (by omega)
  refine ⟨⟨h0, g⟩, hi, fun l => ?_, fun l => ?_⟩
  · have e := end_in (d := b.1) h0 (dt l)
    refine ⟨hi, ⟨by omega, dt l⟩, ⟨h0, by omega⟩, fun q => hw1 (by have := dt q; omega), fun q1 => ⟨fun q => hw2 (by have := dt q; omega), fun q2 => ?_⟩⟩
    have q1 := df q1
    have q2 := df q2
    refine ⟨fun y => y.2.1 = x ∧ y.2.2.1 = b.2.1.getD x.toNat 0 ∧ y.2.2.2 = endN b.2.1 b.1 x.toNat ∧ 0 ≤ y.1 ∧ y.1 ≤ (b.2.2.1.getD x.toNat []).length ∧ ∀ i : Nat, (i : Int) < y.1 → wordB b.2.1 b.1 x.toNat ((b.2.2.1.getD x.toNat []).getD i []) = true, fun y => (((b.2.2.1.getD x.toNat []).length : Int) - y.1).toNat,
      ⟨rfl, rfl, e, by simp, by simp, fun j hj => by dsimp only at hj; omega⟩, fun ⟨y, k, f, t⟩ ⟨y1, y2, y3, y4, y5, y6⟩ => ?_⟩
    dsimp only at y1 y2 y3 y4 y5 y6 ⊢
    subst y1 y2 y3
    refine ⟨fun r => ?_, fun r => ⟨fun r => (by cases r), fun _ => ⟨hi, ⟨by omega, by omega, upd_all h0 h2 (wordsB_iff.2 ⟨⟨by omega, by omega⟩, fun i hi => y6 i (by have := df r; omega)⟩)⟩, by omega⟩⟩⟩
    have r := dt r
    refine ⟨⟨y4, r⟩, i64s (by omega) (by omega), fun s => ⟨fun _ => chk_no fun h => ?_, fun n => absurd y4 (df n)⟩, fun s => ⟨trivial, fun s' => ⟨fun _ => chk_no fun h => ?_, fun n => absurd y4 (df n)⟩, fun s' => ⟨i64s (by omega) (by omega), ⟨rfl, rfl, rfl, by omega, by omega, upd_all y4 y6 (wordB_iff.2 ⟨nf s', ndf s⟩)⟩, by omega⟩⟩⟩
    · exact ndt s (wordB_iff.1 ((wordsB_iff.1 ((bookB_iff.1 h).2.2 k.toNat (by omega))).2 y.toNat (by omega))).2
    · have := (wordB_iff.1 ((wordsB_iff.1 ((bookB_iff.1 h).2.2 k.toNat (by omega))).2 y.toNat (by omega))).1
      have s := nt s'
      rw [this] at s; cases s
  · have e := end_last (d := b.1) h0 (df l)
    refine ⟨⟨h0, by omega⟩, fun q => hw1 (by have := dt q; omega), fun q1 => ⟨fun q => hw2 (by have := dt q; omega), fun q2 => ?_⟩⟩
    have q1 := df q1
    have q2 := df q2
    refine ⟨fun y => y.2.1 = x ∧ y.2.2.1 = b.2.1.getD x.toNat 0 ∧ y.2.2.2 = endN b.2.1 b.1 x.toNat ∧ 0 ≤ y.1 ∧ y.1 ≤ (b.2.2.1.getD x.toNat []).length ∧ ∀ i : Nat, (i : Int) < y.1 → wordB b.2.1 b.1 x.toNat ((b.2.2.1.getD x.toNat []).getD i []) = true, fun y => (((b.2.2.1.getD x.toNat []).length : Int) - y.1).toNat,
      ⟨rfl, rfl, e, by simp, by simp, fun j hj => by dsimp only at hj; omega⟩, fun ⟨y, k, f, t⟩ ⟨y1, y2, y3, y4, y5, y6⟩ => ?_⟩
    dsimp only at y1 y2 y3 y4 y5 y6 ⊢
    subst y1 y2 y3
    refine ⟨fun r => ?_, fun r => ⟨fun r => (by cases r), fun _ => ⟨hi, ⟨by omega, by omega, upd_all h0 h2 (wordsB_iff.2 ⟨⟨by omega, by omega⟩, fun i hi => y6 i (by have := df r; omega)⟩)⟩, by omega⟩⟩⟩
    have r := dt r
    refine ⟨⟨y4, r⟩, i64s (by omega) (by omega), fun s => ⟨fun _ => chk_no fun h => ?_, fun n => absurd y4 (df n)⟩, fun s => ⟨trivial, fun s' => ⟨fun _ => chk_no fun h => ?_, fun n => absurd y4 (df n)⟩, fun s' => ⟨i64s (by omega) (by omega), ⟨rfl, rfl, rfl, by omega, by omega, upd_all y4 y6 (wordB_iff.2 ⟨nf s', ndf s⟩)⟩, by omega⟩⟩⟩
    · exact ndt s (wordB_iff.1 ((wordsB_iff.1 ((bookB_iff.1 h).2.2 k.toNat (by omega))).2 y.toNat (by omega))).2
    · have := (wordB_iff.1 ((wordsB_iff.1 ((bookB_iff.1 h).2.2 k.toNat (by omega))).2 y.toNat (by omega))).1
      have s := nt s'
      rw [this] at s; cases s
theorem sat_enc : Sat Try.prog 18 encSp := by
  refine sat_nf (C := D1 [.gcell 0 0 3 I]) (ssD1 _) (fun x => enc_nf x.1 x.2.1 x.2.2) fun (⟨b, m, v⟩ : Book × Int × List Int) hk hp => ?_
  have hr : rightB b m v v = true := hp
  obtain ⟨l8, l2⟩ := right_len hr
  dsimp only
  refine ⟨fun x => 0 ≤ x.1 ∧ x.1 ≤ b.2.1.length ∧ x.2 = tab x.1.toNat (fun k => (bestS m (b.2.2.1.getD k []) (partS b.2.1 b.1 k v) : Int)), fun x => ((b.2.1.length : Int) - x.1).toNat, ⟨by simp, by simp, rfl⟩, fun ⟨k, o⟩ ⟨h0, h1, h2⟩ => ?_⟩
  dsimp only at h0 h1 h2 ⊢
  refine ⟨fun g => ?_, fun g => by rw [h2, end_toNat h1 (df g)]; rfl⟩
  have g := dt g
  obtain ⟨r1, r2, r3, r4, r5, r6⟩ := right_at hr (show k.toNat < b.2.1.length by omega)
  have ol : o.length = k.toNat := by rw [h2, tab_length]
  have e1 := end_gt r1 (show k.toNat < b.2.1.length by omega)
  have e2 := cut_mono r1 k.toNat (by omega)
  have hi : isI64 (k + 1) := i64s (by omega) (by omega)
  refine ⟨⟨h0, g⟩, hi, fun l => ?_, fun l => ?_⟩
  · have e := end_in (d := b.1) h0 (dt l)
    rw [part_in (d := b.1) h0 (dt l)]
    exact ⟨hi, ⟨by omega, dt l⟩, ⟨h0, by omega⟩, ⟨by omega, by omega, by omega⟩, ⟨r3, ⟨r5.1, by omega⟩, r6⟩, room8 bytesI8 (by rw [ol]; simp; omega), hi, ⟨by omega, by omega, by rw [succ_toNat h0, tab_succ, ← h2]⟩, by omega⟩
  · have e := end_last (d := b.1) h0 (df l)
    rw [part_last h0 (df l)]
    exact ⟨⟨h0, by omega⟩, ⟨by omega, by omega, by omega⟩, ⟨r3, ⟨r5.1, by omega⟩, r6⟩, room8 bytesI8 (by rw [ol]; simp; omega), hi, ⟨by omega, by omega, by rw [succ_toNat h0, tab_succ, ← h2]⟩, by omega⟩
theorem sat_rTbl : Sat Try.prog 22 tblSp := by
  refine sat_nf (C := D2 []) (ssD2 []) (fun x => rTbl_nf x.1 x.2.1 x.2.2) fun (⟨b, m, v⟩ : Book × Int × List Int) hk hp => ?_
  have hr : rightB b m v v = true := hp
  obtain ⟨l8, l2⟩ := right_len hr
  dsimp only
  refine ⟨fun x => 0 ≤ x.2 ∧ x.2 ≤ b.2.1.length ∧ x.1 = tabL x.2.toNat (rowS b m v), fun x => ((b.2.1.length : Int) - x.2).toNat, ⟨by simp, by simp, rfl⟩, fun ⟨o, k⟩ ⟨h0, h1, h2⟩ => ?_⟩
  dsimp only at h0 h1 h2 ⊢
  refine ⟨fun g => ?_, fun g => by rw [h2, end_toNat h1 (df g)]; rfl⟩
  have g := dt g
  obtain ⟨r1, r2, r3, r4, r5, r6⟩ := right_at hr (show k.toNat < b.2.1.length by omega)
  have ol : o.length = k.toNat := by rw [h2, tabL_length]
  have hi : isI64 (k + 1) := i64s (by omega) (by omega)
  refine ⟨fun y => y.1 = o ∧ 0 ≤ y.2.2 ∧ y.2.2 ≤ (b.2.2.1.getD k.toNat []).length ∧ y.2.1 = tab y.2.2.toNat (fun i => keyS m ((b.2.2.1.getD k.toNat []).getD i []) (partS b.2.1 b.1 k.toNat v)), fun y => (((b.2.2.1.getD k.toNat []).length : Int) - y.2.2).toNat, ⟨rfl, by simp, by simp, rfl⟩, fun ⟨o', row, i⟩ ⟨i0, i1, i2, i3⟩ => ?_⟩
  dsimp only at i0 i1 i2 i3 ⊢
  subst i0
  have rl : row.length = i.toNat := by rw [i3, tab_length]
  refine ⟨⟨h0, by omega⟩, fun q => ?_, fun q => ?_⟩
  · have q := dt q
    obtain ⟨s1, s2, s3⟩ := alike_sm (r6 i.toNat (by omega)) (c := 4000) (by omega)
    exact ⟨⟨h0, by omega⟩, ⟨i1, q⟩, ⟨h0, dt g, r1, r4⟩, ⟨r3.1, r3.2, s1, s2, s3⟩, room8 bytesI8 (by rw [rl]; simp; omega), i64s (by omega) (by omega), ⟨rfl, by omega, by omega, by rw [succ_toNat i1, tab_succ, ← i3]⟩, by omega⟩
  · have q := df q
    rw [end_toNat i2 q] at i3
    exact ⟨room24 bytesL24 (by rw [ol]; simp; omega), hi, ⟨by omega, by omega, by rw [succ_toNat h0, tabL_succ, ← h2, i3]; rfl⟩, by omega⟩
end Go.Proofs.Ytjppchomonpfgaa
