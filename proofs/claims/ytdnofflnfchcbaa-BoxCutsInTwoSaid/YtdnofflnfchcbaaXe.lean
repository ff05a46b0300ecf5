import Derived.Test.YtdnofflnfchcbaaXd
namespace Go.Proofs.Ytdnofflnfchcbaa
open Go.AM Go.PL
set_option linter.unusedVariables false
theorem ssB0 : SpecSound B0 := mkctx_sound trivial trivial
theorem bytesI : Try.prog.bytesOf 3 = 8 := by kernel_rfl
theorem roomI {C : Ctx} {n : Nat} (hb : C.P.bytesOf 3 = 8) (h : n ≤ 1000000) : roomP C 3 n := by
  unfold roomP
  rw [hb]
  omega

theorem sat_isVec : Sat Try.prog 55 bvecSp := by
  refine sat_nf (C := B0) ssB0 isVec_nf fun (v : List Int) hk hp => ?_
  refine ⟨fun c1 => ⟨fun c2 => ⟨fun x => 0 ≤ x ∧ x ≤ v.length ∧ ∀ j : Nat, (j : Int) < x → -1000 ≤ v.getD j 0 ∧ v.getD j 0 ≤ 1000, fun x => ((v.length : Int) - x).toNat, ⟨by omega, by omega, fun j hj => by omega⟩,
    fun x ⟨h0, h1, h2⟩ => ⟨fun c => ?_, fun c => ?_⟩⟩, fun c2 => ?_⟩, fun c1 => ?_⟩
  · have c := dt c
    refine ⟨⟨h0, c⟩, fun g => ?_, fun g => ⟨fun g' => ?_, fun g' => ⟨i64_lt h0 c hk.1, ⟨by omega, by omega, upd_all h0 h2 ?_⟩, by dsimp only; omega⟩⟩⟩
    · have g := dt g
      rw [decide_eq_true h0]
      exact is_no fun hb => by have := bvec_at hb x.toNat; omega
    · have g := dt g'
      rw [decide_eq_true h0]
      exact is_no fun hb => by have := bvec_at hb x.toNat; omega
    · have g := df g
      have g' := df g'
      omega
  · have c := df c
    exact (bvec_iff.2 ⟨fun i hi => h2 i (by omega), by have := dt c1; omega, by have := dt c2; omega⟩).symm
  · have c2 := df c2
    exact is_no fun hb => by have := bvec_len hb; omega
  · have c1 := df c1
    exact is_no fun hb => by have := bvec_len hb; omega
theorem sat_rVec : Sat Try.prog 25 bvecSp := by
  refine sat_nf (C := B0) ssB0 rVec_nf fun (v : List Int) hk hp => ?_
  refine ⟨fun x => 0 ≤ x ∧ x ≤ v.length ∧ ∀ j : Nat, (j : Int) < x → -1000 ≤ v.getD j 0 ∧ v.getD j 0 ≤ 1000, fun x => ((v.length : Int) - x).toNat, ⟨by omega, by omega, fun j hj => by omega⟩,
    fun x ⟨h0, h1, h2⟩ => ⟨fun c => ?_, fun c => ⟨fun c1 => ?_, fun c1 => ?_⟩⟩⟩
  · have c := dt c
    refine ⟨⟨h0, c⟩, fun g => ?_, fun g => ⟨⟨h0, c⟩, fun g' => ?_, fun g' => ⟨i64_lt h0 c hk.1, ⟨by omega, by omega, upd_all h0 h2 ?_⟩, by dsimp only; omega⟩⟩⟩
    · have g := dt g
      exact is_no fun hb => by have := bvec_at hb x.toNat; omega
    · have g := dt g'
      exact is_no fun hb => by have := bvec_at hb x.toNat; omega
    · have g := df g
      have g' := df g'
      omega
  · have c := df c
    have c1 := dt c1
    exact dec_is ⟨fun h => bvec_iff.2 ⟨fun i hi => h2 i (by omega), by omega, by omega⟩, fun hb => by have := bvec_len hb; omega⟩
  · have c1 := df c1
    exact is_no fun hb => by have := bvec_len hb; omega
theorem sat_isM : Sat Try.prog 26 isMSp := by
  refine sat_nf (C := B0) ssB0 isM_nf fun (v : Int) hk hp => ⟨fun c => ?_, fun c => ?_⟩
  · have c := dt c
    exact dec_is ⟨fun h => isM_iff.2 ⟨c, h⟩, fun h => (isM_iff.1 h).2⟩
  · exact is_no fun h => df c (isM_iff.1 h).1
theorem sat_least : Sat Try.prog 58 minSp := sat_nf (C := B0) ssB0 (fun x => least_nf x.1 x.2) fun _ _ _ => rfl
theorem sat_great : Sat Try.prog 57 maxSp := sat_nf (C := B0) ssB0 (fun x => great_nf x.1 x.2) fun _ _ _ => rfl
theorem sat_wid : Sat Try.prog 49 widSp := sat_nf (C := B0) ssB0 (fun x => wid_nf x.1 x.2) fun _ _ hp => ⟨hp, rfl⟩
theorem sat_nr : Sat Try.prog 42 nrSp := sat_nf (C := B0) ssB0 (fun x => nr_nf x.1 x.2.1 x.2.2) fun _ _ hp => ⟨hp.1, hp.2, by omega⟩
theorem sat_fr : Sat Try.prog 43 frSp := sat_nf (C := B0) ssB0 (fun x => fr_nf x.1 x.2.1 x.2.2) fun _ _ hp => ⟨hp.1, hp.2, rfl⟩
theorem sat_idx : Sat Try.prog 50 idxSp := by
  refine sat_nf (C := B0) ssB0 (fun x => idx_nf x.1 x.2) fun (⟨v, x⟩ : List Int × Int) hk hp => ?_
  dsimp only
  refine ⟨fun i => 0 ≤ i ∧ i ≤ v.length ∧ ∀ j : Nat, (j : Int) < i → v.getD j 0 ≠ x, fun i => ((v.length : Int) - i).toNat, ⟨by omega, by omega, fun j hj => by omega⟩, fun i ⟨h0, h1, h2⟩ => ⟨fun c => ?_, fun c => ?_⟩⟩
  · have c := dt c
    refine ⟨⟨h0, c⟩, fun g => (indexS_at h0 c (dt g).symm h2).symm, fun g => ⟨i64_lt h0 c hk.1.1, ⟨by omega, by omega, upd_all h0 h2 fun e => df g e.symm⟩, by dsimp only; omega⟩⟩
  · exact (indexS_none fun j hj => h2 j (by have := df c; omega)).symm
theorem sat_max : Sat Try.prog 51 mxSp := by
  refine sat_nf (C := B0) ssB0 max_nf fun (v : List Int) hk (hp : 1 ≤ v.length) => ?_
  refine ⟨fun c => by have := dt c; omega, fun c => ⟨⟨by omega, by omega⟩, fun x => 1 ≤ x.2 ∧ x.2 ≤ v.length ∧ x.1 = mxN v x.2.toNat, fun x => ((v.length : Int) - x.2).toNat, ⟨by dsimp only; omega, by dsimp only; omega, ?_⟩, fun x ⟨h0, h1, h2⟩ => ⟨fun c => ?_, fun c => ?_⟩⟩⟩
  · show v.getD 0 0 = mxN v 1
    rw [mxN_succ]
    show v.getD 0 0 = max (v.getD 0 0) _
    omega
  · have c := dt c
    refine ⟨⟨by omega, c⟩, i64_lt (by omega) c hk.1, ⟨by dsimp only; omega, by dsimp only; omega, ?_⟩, by dsimp only; omega⟩
    show max x.1 _ = _
    rw [succ_toNat (by omega), mxN_succ, h2]
  · rw [h2, end_toNat h1 (df c)]
    rfl
theorem sat_same6 : Sat Try.prog 54 same6Sp := by
  refine sat_nf (C := B0) ssB0 (fun x => same6_nf x.1 x.2) fun (⟨a, b⟩ : List Int × List Int) hk hp => ?_
  dsimp only
  refine ⟨fun c => is_no fun h => ndt c (by rw [of_decide_eq_true h]), fun c => ⟨fun i => 0 ≤ i ∧ i ≤ a.length ∧ ∀ j : Nat, (j : Int) < i → a.getD j 0 = b.getD j 0, fun i => ((a.length : Int) - i).toNat, ⟨by omega, by omega, fun j hj => by omega⟩, fun i ⟨h0, h1, h2⟩ => ⟨fun c' => ?_, fun c' => ?_⟩⟩⟩
  · have c := ndf c
    have c' := dt c'
    exact ⟨⟨h0, c'⟩, ⟨h0, by omega⟩, fun g => is_no fun h => ndt g (by rw [of_decide_eq_true h]), fun g => ⟨i64_lt h0 c' hk.1.1, ⟨by omega, by omega, upd_all h0 h2 (ndf g)⟩, by dsimp only; omega⟩⟩
  · have c := ndf c
    have c' := df c'
    exact (decide_eq_true (list_ext (by omega) fun i hi => h2 i (by omega))).symm
theorem sat_rKey : Sat Try.prog 28 rKeySp := by
  refine sat_nf (C := B0) ssB0 (fun x => rKey_nf x.1 x.2.1 x.2.2) fun (⟨m, a, b⟩ : Int × List Int × List Int) hk hp => ?_
  obtain ⟨hm, ha, hb, hl⟩ : isM m = true ∧ sm a ∧ sm b ∧ a.length ≤ b.length := hp
  have hm := isM_iff.1 hm
  have hal := ha.1
  dsimp only
  refine ⟨fun x => 0 ≤ x.2 ∧ x.2 ≤ a.length ∧ x.1 = sumK m x.2.toNat (keyF a b), fun x => ((a.length : Int) - x.2).toNat, ⟨by simp, by simp, by simp [sumK_zero]⟩, fun ⟨s, i⟩ ⟨h0, h1, h2⟩ => ?_⟩
  dsimp only at h0 h1 h2 ⊢
  refine ⟨fun c => ?_, fun c => by rw [h2, end_toNat h1 (df c)]⟩
  have c := dt c
  have ka := sm_at ha i.toNat
  have kb := sm_at hb i.toNat
  have hs := sumK_succ m i.toNat (keyF a b)
  have hbd := sumK_bound m i.toNat (keyF a b) fun j _ => by
    have := sm_at ha j
    have := sm_at hb j
    unfold keyF at_
    omega
  rw [← succ_toNat h0, ← h2] at hs
  rw [← h2] at hbd
  have hd : keyF a b i.toNat = max (a.getD i.toNat 0 - b.getD i.toNat 0) (b.getD i.toNat 0 - a.getD i.toNat 0) := rfl
  rw [hd] at hs
  have hq := sq_le (d := max (a.getD i.toNat 0 - b.getD i.toNat 0) (b.getD i.toNat 0 - a.getD i.toNat 0)) (by omega) (by omega)
  have hdb : 0 ≤ max (a.getD i.toNat 0 - b.getD i.toNat 0) (b.getD i.toNat 0 - a.getD i.toNat 0) ∧ max (a.getD i.toNat 0 - b.getD i.toNat 0) (b.getD i.toNat 0 - a.getD i.toNat 0) ≤ 8000 := by omega
  have hd1 : isI64 (a.getD i.toNat 0 - b.getD i.toNat 0) := i64s (by omega) (by omega)
  have hd2 : isI64 (b.getD i.toNat 0 - a.getD i.toNat 0) := i64s (by omega) (by omega)
  generalize max (a.getD i.toNat 0 - b.getD i.toNat 0) (b.getD i.toNat 0 - a.getD i.toNat 0) = d at *
  have hi1 : isI64 (i + 1) := i64s (by omega) (by omega)
  refine ⟨⟨h0, c⟩, ⟨h0, by omega⟩, hd1, ⟨h0, by omega⟩, ⟨h0, c⟩, hd2, fun e => ?_, fun e => ?_⟩
  · have e := dt e
    subst e
    have hs : sumK 1 (i + 1).toNat (keyF a b) = s + d := hs
    refine ⟨i64s (by omega) (by omega), fun e' => absurd (dt e') (by decide), fun _ => ⟨fun e' => absurd (dt e') (by decide), fun _ => ⟨hi1, ⟨by omega, by omega, hs.symm⟩, by omega⟩⟩⟩
  · have e := df e
    refine ⟨fun e' => ?_, fun e' => ?_⟩
    · have e' := dt e'
      subst e'
      have hs : sumK 2 (i + 1).toNat (keyF a b) = s + d * d := hs
      refine ⟨i64s (by omega) (by omega), i64s (by omega) (by omega), fun e' => absurd (dt e') (by decide), fun _ => ⟨hi1, ⟨by omega, by omega, hs.symm⟩, by omega⟩⟩
    · have e' := df e'
      have hm3 : m = 3 := by omega
      subst hm3
      have hs : sumK 3 (i + 1).toNat (keyF a b) = max s d := hs
      exact ⟨fun _ => ⟨hi1, ⟨by omega, by omega, hs.symm⟩, by omega⟩, fun e' => absurd (df e') (by decide)⟩
theorem satG_cln : SatG Try.prog 47 clnG := by
  refine fnwpG_sat (C := B0) ssB0 6 _ _ fun (v : List Int) hk (hp : v.length ≤ 1000000) => ?_
  rw [cln_nf]
  exact fun b h => ⟨fun hb => (h hb).symm, fun _ => ⟨roomI bytesI (by omega), rfl⟩⟩
theorem ssB1 : SpecSound B1 := mkctx_sound ⟨sat_isVec, sat_rVec, sat_isM, sat_least, sat_great, sat_wid, sat_nr, sat_fr, sat_idx, sat_max, sat_same6, sat_rKey, trivial⟩ trivial
theorem sat_valid : Sat Try.prog 24 bvalSp := by
  refine sat_nf (C := B1) ssB1 valid_nf fun (b : Box) hk hp => ?_
  refine ⟨trivial, fun c => is_no fun h => ?_, fun c1 => ⟨trivial, fun c => is_no fun h => ?_, fun c2 => ⟨fun c => is_no fun h => ?_, fun c3 => ⟨fun x => 0 ≤ x ∧ x ≤ b.1.length ∧ ∀ j : Nat, (j : Int) < x → b.1.getD j 0 ≤ b.2.1.getD j 0, fun x => ((b.1.length : Int) - x).toNat,
    ⟨by omega, by omega, fun j hj => by omega⟩, fun x ⟨h0, h1, h2⟩ => ⟨fun c => ?_, fun c => ?_⟩⟩⟩⟩⟩
  · have := nt c; rw [(bval_iff.1 h).1] at this; cases this
  · have := nt c; rw [(bval_iff.1 h).2.1] at this; cases this
  · have := (bval_iff.1 h).2.2.1; exact ndt c (by omega)
  · have c3 := ndf c3
    have c := dt c
    refine ⟨⟨h0, by omega⟩, ⟨h0, by omega⟩, fun g => is_no fun h => ?_, fun g => ⟨i64_lt (n := b.1.length) h0 (by omega) hk.1.1, ⟨by omega, by omega, upd_all h0 h2 (by have := df g; omega)⟩, by dsimp only; omega⟩⟩
    have := bval_at h x.toNat
    have := dt g
    omega
  · have c3 := ndf c3
    have c := df c
    exact (bval_iff.2 ⟨nf c1, nf c2, by omega, fun i hi => h2 i (by omega)⟩).symm
theorem sat_rValid : Sat Try.prog 39 bvalSp := by
  refine sat_nf (C := B1) ssB1 rValid_nf fun (b : Box) hk hp => ?_
  refine ⟨trivial, fun c => is_no fun h => ?_, fun c1 => ⟨trivial, fun c => is_no fun h => ?_, fun c2 => ⟨fun c => is_no fun h => ?_, fun c3 => ⟨fun x => 0 ≤ x ∧ x ≤ b.1.length ∧ ∀ j : Nat, (j : Int) < x → b.1.getD j 0 ≤ b.2.1.getD j 0, fun x => ((b.1.length : Int) - x).toNat,
    ⟨by omega, by omega, fun j hj => by omega⟩, fun x ⟨h0, h1, h2⟩ => ⟨fun c => ?_, fun c => ?_⟩⟩⟩⟩⟩
  · have := nt c; rw [(bval_iff.1 h).1] at this; cases this
  · have := nt c; rw [(bval_iff.1 h).2.1] at this; cases this
  · have := (bval_iff.1 h).2.2.1; exact ndt c (by omega)
  · have c3 := ndf c3
    have c := dt c
    refine ⟨⟨h0, by omega⟩, ⟨h0, by omega⟩, fun g => is_no fun h => ?_, fun g => ⟨i64_lt (n := b.1.length) h0 (by omega) hk.1.1, ⟨by omega, by omega, upd_all h0 h2 (by have := df g; omega)⟩, by dsimp only; omega⟩⟩
    have := bval_at h x.toNat
    have := dt g
    omega
  · have c3 := ndf c3
    have c := df c
    exact (bval_iff.2 ⟨nf c1, nf c2, by omega, fun i hi => h2 i (by omega)⟩).symm
theorem zip_lp {C : Ctx} (hb : C.P.bytesOf 3 = 8) {a : List Int} {f : Nat → Int} {g : Int → Int} {R : List Int} {X Y : Int → Prop} (ha : a.length ≤ 64) (hg : ∀ i : Int, 0 ≤ i → i < a.length → g i = f i.toNat ∧ X i ∧ Y i) (hR : R = tab a.length f) :
    ∃ (I : List Int × Int → Prop), ∃ (μ : List Int × Int → Nat), I ([], (0 : Int)) ∧ ∀ (x : List Int × Int), I x →
      (decide (x.snd < (↑a.length : Int)) = true → ((0 : Int) ≤ x.snd ∧ x.snd < (↑a.length : Int)) ∧ X x.snd ∧ Y x.snd ∧ roomP C 3 (x.fst.length + [g x.snd].length) ∧ isI64 (x.snd + (1 : Int)) ∧ I (x.fst ++ [g x.snd], x.snd + (1 : Int)) ∧ μ (x.fst ++ [g x.snd], x.snd + (1 : Int)) < μ x) ∧ (decide (x.snd <
      (↑a.length : Int)) = false → x.fst = R) := by
  refine ⟨fun x => 0 ≤ x.2 ∧ x.2 ≤ a.length ∧ x.1 = tab x.2.toNat f, fun x => ((a.length : Int) - x.2).toNat, ⟨by simp, by simp, by simp [tab_zero]⟩, fun ⟨o, i⟩ ⟨h0, h1, h2⟩ => ?_⟩
  dsimp only at h0 h1 h2 ⊢
  refine ⟨fun c => ?_, fun c => by rw [h2, end_toNat h1 (df c), hR]⟩
  have c := dt c
  obtain ⟨g1, g2, g3⟩ := hg i h0 c
  have hol : o.length = i.toNat := by rw [h2, tab_length]
  exact ⟨⟨h0, c⟩, g2, g3, roomI hb (by rw [hol]; simp; omega), i64s (by omega) (by omega), ⟨by omega, by omega, by rw [succ_toNat h0, tab_succ, ← h2, g1]⟩, by omega⟩
def zipP (i : List Int × List Int) : Prop := sm i.1 ∧ sm i.2 ∧ i.1.length ≤ i.2.length
theorem zipL_ok : ∀ i, zipP i → fnwp B1 6 48 zipSp (i.1, i.2, 58) := by
  intro i ⟨ha, hb, hl⟩
  rw [zipL_nf]
  exact zip_lp (X := fun j => 0 ≤ j ∧ j < i.2.length) (Y := fun _ => True) (g := fun j => min (i.1.getD j.toNat 0) (i.2.getD j.toNat 0)) bytesI ha.1 (fun j h0 h1 => ⟨rfl, ⟨h0, by omega⟩, trivial⟩) rfl
theorem zipG_ok : ∀ i, zipP i → fnwp B1 6 48 zipSp (i.1, i.2, 57) := by
  intro i ⟨ha, hb, hl⟩
  rw [zipG_nf]
  exact zip_lp (X := fun j => 0 ≤ j ∧ j < i.2.length) (Y := fun _ => True) (g := fun j => max (i.1.getD j.toNat 0) (i.2.getD j.toNat 0)) bytesI ha.1 (fun j h0 h1 => ⟨rfl, ⟨h0, by omega⟩, trivial⟩) rfl
theorem zipW_ok : ∀ i, zipP i → fnwp B1 6 48 zipSp (i.1, i.2, 49) := by
  intro i ⟨ha, hb, hl⟩
  rw [zipW_nf]
  exact zip_lp (X := fun j => 0 ≤ j ∧ j < i.2.length) (Y := fun j => isI64 (i.1.getD j.toNat 0 - i.2.getD j.toNat 0)) (g := fun j => i.1.getD j.toNat 0 - i.2.getD j.toNat 0) bytesI ha.1 (fun j h0 h1 => ⟨rfl, ⟨h0, by omega⟩, by
      have := sm_at ha j.toNat
      have := sm_at hb j.toNat
      exact i64s (by omega) (by omega)⟩) rfl
theorem sat_three {C : Ctx} (hsp : SpecSound C) {n : Nat} {f : FuncId} {sp : FSpec} {ι : Type} {g1 g2 g3 : ι → dens sp.ps} {p : ι → Prop} (hc : ∀ x, sp.pre x → ∃ i, p i ∧ (x = g1 i ∨ x = g2 i ∨ x = g3 i))
    (h1 : ∀ i, p i → fnwp C n f sp (g1 i)) (h2 : ∀ i, p i → fnwp C n f sp (g2 i)) (h3 : ∀ i, p i → fnwp C n f sp (g3 i)) : Sat C.P f sp :=
  fnwp_sat hsp n f sp fun x _ hp => by
    obtain ⟨i, hi, h | h | h⟩ := hc x hp <;> rw [h]
    · exact h1 i hi
    · exact h2 i hi
    · exact h3 i hi
theorem zip_cov (x : dens zipSp.ps) (hp : zipSp.pre x) : ∃ i : List Int × List Int, zipP i ∧ (x = (i.1, i.2, (58 : FuncId)) ∨ x = (i.1, i.2, (57 : FuncId)) ∨ x = (i.1, i.2, (49 : FuncId))) :=
  ⟨(x.1, x.2.1), ⟨hp.1, hp.2.1, hp.2.2.1⟩, hp.2.2.2.imp (fun e => Prod.ext rfl (Prod.ext rfl e)) (Or.imp (fun e => Prod.ext rfl (Prod.ext rfl e)) (fun e => Prod.ext rfl (Prod.ext rfl e)))⟩
theorem sat_zip : Sat Try.prog 48 zipSp :=
  sat_three (C := B1) ssB1 zip_cov zipL_ok zipG_ok zipW_ok
end Go.Proofs.Ytdnofflnfchcbaa
