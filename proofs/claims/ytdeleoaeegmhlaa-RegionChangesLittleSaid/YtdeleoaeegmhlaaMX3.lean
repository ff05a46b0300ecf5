import Derived.Test.YtdeleoaeegmhlaaMX2
--@drop
namespace Go.Proofs.Ytdeleoaeegmhlaa
open Go.AM Go.PL
set_option linter.unusedVariables false
attribute [local irreducible] fnwp fnwpG
theorem ssB0 : SpecSound B0 := mkctx_sound trivial trivial
theorem bytesI : Try.prog.bytesOf 3 = 8 := by kernel_rfl
theorem bytesB1 : B1.P.bytesOf 3 = 8 := by kernel_rfl
theorem roomI {C : Ctx} {n : Nat} (hb : C.P.bytesOf 3 = 8) (h : n ≤ 1000000) : roomP C 3 n := by
  unfold roomP
  rw [hb]
  omega

theorem sat_isVec : Sat Try.prog 67 bvecSp := by
  refine sat_nf (C := B0) ssB0 isVec_nf fun (v : List Int) hk hp => ?_
  refine ⟨fun c1 => ⟨fun c2 => ⟨fun x => 0 ≤ x ∧ x ≤ v.length ∧ ∀ j : Nat, (j : Int) < x → -1000 ≤ v.getD j 0 ∧ v.getD j 0 ≤ 1000, fun x => ((v.length : Int) - x).toNat, ⟨by omega, by omega, fun j hj => by omega⟩,
    fun x ⟨h0, h1, h2⟩ => ⟨fun c => ?_, fun c => ?_⟩⟩, fun c2 => ?_⟩, fun c1 => ?_⟩
  · have c := dt c
    refine ⟨⟨h0, c⟩, fun g => ?_, fun g => ⟨fun g' => ?_, fun g' => ⟨i64_lt h0 c hk.1, ⟨by omega, by omega, upd_all h0 h2 ?_⟩, by dsimp only; omega⟩⟩⟩
    · have g := dt g
      rw [decide_eq_true h0]
      exact is_no fun hb => by have := bvec_at hb x.toNat; omega
    · have g := dt g'
      rw [decide_eq_true h0]
      exact is_no fun hb => by have := bvec_at hb x.toNat; omega
    · have g := df g
      have g' := df g'
      omega
  · have c := df c
    exact (bvec_iff.2 ⟨fun i hi => h2 i (by omega), by have := dt c1; omega, by have := dt c2; omega⟩).symm
  · have c2 := df c2
    exact is_no fun hb => by have := bvec_len hb; omega
  · have c1 := df c1
    exact is_no fun hb => by have := bvec_len hb; omega
theorem sat_least : Sat Try.prog 40 minSp := sat_nf (C := B0) ssB0 (fun x => least_nf x.1 x.2) fun _ _ _ => rfl
theorem sat_great : Sat Try.prog 39 maxSp := sat_nf (C := B0) ssB0 (fun x => great_nf x.1 x.2) fun _ _ _ => rfl
theorem sat_nr : Sat Try.prog 74 nrSp := sat_nf (C := B0) ssB0 (fun x => nr_nf x.1 x.2.1 x.2.2) fun _ _ hp => ⟨hp.1, hp.2, by omega⟩
theorem sat_idx : Sat Try.prog 69 idxSp := by
  refine sat_nf (C := B0) ssB0 (fun x => idx_nf x.1 x.2) fun (⟨v, x⟩ : List Int × Int) hk hp => ?_
  dsimp only
  refine ⟨fun i => 0 ≤ i ∧ i ≤ v.length ∧ ∀ j : Nat, (j : Int) < i → v.getD j 0 ≠ x, fun i => ((v.length : Int) - i).toNat, ⟨by omega, by omega, fun j hj => by omega⟩, fun i ⟨h0, h1, h2⟩ => ⟨fun c => ?_, fun c => ?_⟩⟩
  · have c := dt c
    refine ⟨⟨h0, c⟩, fun g => (indexS_at h0 c (dt g).symm h2).symm, fun g => ⟨i64_lt h0 c hk.1.1, ⟨by omega, by omega, upd_all h0 h2 fun e => df g e.symm⟩, by dsimp only; omega⟩⟩
  · exact (indexS_none fun j hj => h2 j (by have := df c; omega)).symm
theorem sat_same6 : Sat Try.prog 46 same6Sp := by
  refine sat_nf (C := B0) ssB0 (fun x => same6_nf x.1 x.2) fun (⟨a, b⟩ : List Int × List Int) hk hp => ?_
  dsimp only
  refine ⟨fun c => is_no fun h => ndt c (by rw [of_decide_eq_true h]), fun c => ⟨fun i => 0 ≤ i ∧ i ≤ a.length ∧ ∀ j : Nat, (j : Int) < i → a.getD j 0 = b.getD j 0, fun i => ((a.length : Int) - i).toNat, ⟨by omega, by omega, fun j hj => by omega⟩, fun i ⟨h0, h1, h2⟩ => ⟨fun c' => ?_, fun c' => ?_⟩⟩⟩
  · have c := ndf c
    have c' := dt c'
    exact ⟨⟨h0, c'⟩, ⟨h0, by omega⟩, fun g => is_no fun h => ndt g (by rw [of_decide_eq_true h]), fun g => ⟨i64_lt h0 c' hk.1.1, ⟨by omega, by omega, upd_all h0 h2 (ndf g)⟩, by dsimp only; omega⟩⟩
  · have c := ndf c
    have c' := df c'
    exact (decide_eq_true (list_ext (by omega) fun i hi => h2 i (by omega))).symm
theorem satG_cln : SatG Try.prog 33 clnG := by
  refine fnwpG_sat (C := B0) ssB0 6 _ _ fun (v : List Int) hk (hp : v.length ≤ 1000000) => ?_
  rw [cln_nf]
  exact fun b h => ⟨fun hb => (h hb).symm, fun _ => ⟨roomI bytesI (by omega), rfl⟩⟩
theorem ssB1 : SpecSound B1 := mkctx_sound ⟨sat_isVec, sat_least, sat_great, sat_nr, sat_idx, sat_same6, trivial⟩ trivial
theorem sat_bvalid : Sat Try.prog 34 bvalSp := by
  refine sat_nf (C := B1) ssB1 bvalid_nf fun (b : Box) hk hp => ?_
  refine ⟨trivial, fun c => is_no fun h => ?_, fun c1 => ⟨trivial, fun c => is_no fun h => ?_, fun c2 => ⟨fun c => is_no fun h => ?_, fun c3 => ⟨fun x => 0 ≤ x ∧ x ≤ b.1.length ∧ ∀ j : Nat, (j : Int) < x → b.1.getD j 0 ≤ b.2.1.getD j 0, fun x => ((b.1.length : Int) - x).toNat,
    ⟨by omega, by omega, fun j hj => by omega⟩, fun x ⟨h0, h1, h2⟩ => ⟨fun c => ?_, fun c => ?_⟩⟩⟩⟩⟩
  · have := nt c; rw [(bval_iff.1 h).1] at this; cases this
  · have := nt c; rw [(bval_iff.1 h).2.1] at this; cases this
  · have := (bval_iff.1 h).2.2.1; exact ndt c (by omega)
  · have c3 := ndf c3
    have c := dt c
    refine ⟨⟨h0, by omega⟩, ⟨h0, by omega⟩, fun g => is_no fun h => ?_, fun g => ⟨i64_lt (n := b.1.length) h0 (by omega) hk.1.1, ⟨by omega, by omega, upd_all h0 h2 (by have := df g; omega)⟩, by dsimp only; omega⟩⟩
    have := bval_at h x.toNat
    have := dt g
    omega
  · have c3 := ndf c3
    have c := df c
    exact (bval_iff.2 ⟨nf c1, nf c2, by omega, fun i hi => h2 i (by omega)⟩).symm
theorem zip_lp {C : Ctx} (hb : C.P.bytesOf 3 = 8) {a : List Int} {f : Nat → Int} {g : Int → Int} {R : List Int} {X Y : Int → Prop} (ha : a.length ≤ 64) (hg : ∀ i : Int, 0 ≤ i → i < a.length → g i = f i.toNat ∧ X i ∧ Y i) (hR : R = tab a.length f) :
    ∃ (I : List Int × Int → Prop), ∃ (μ : List Int × Int → Nat), I ([], (0 : Int)) ∧ ∀ (x : List Int × Int), I x →
      (decide (x.snd < (↑a.length : Int)) = true → ((0 : Int) ≤ x.snd ∧ x.snd < (↑a.length : Int)) ∧ X x.snd ∧ Y x.snd ∧ roomP C 3 (x.fst.length + [g x.snd].length) ∧ isI64 (x.snd + (1 : Int)) ∧ I (x.fst ++ [g x.snd], x.snd + (1 : Int)) ∧ μ (x.fst ++ [g x.snd], x.snd + (1 : Int)) < μ x) ∧ (decide (x.snd <
      (↑a.length : Int)) = false → x.fst = R) := by
  refine ⟨fun x => 0 ≤ x.2 ∧ x.2 ≤ a.length ∧ x.1 = tab x.2.toNat f, fun x => ((a.length : Int) - x.2).toNat, ⟨by simp, by simp, by simp [tab_zero]⟩, fun ⟨o, i⟩ ⟨h0, h1, h2⟩ => ?_⟩
  dsimp only at h0 h1 h2 ⊢
  refine ⟨fun c => ?_, fun c => by rw [h2, end_toNat h1 (df c), hR]⟩
  have c := dt c
  obtain ⟨g1, g2, g3⟩ := hg i h0 c
  have hol : o.length = i.toNat := by rw [h2, tab_length]
  exact ⟨⟨h0, c⟩, g2, g3, roomI hb (by rw [hol]; simp; omega), i64s (by omega) (by omega), ⟨by omega, by omega, by rw [succ_toNat h0, tab_succ, ← h2, g1]⟩, by omega⟩
def zipP (i : List Int × List Int) : Prop := sm i.1 ∧ sm i.2 ∧ i.1.length ≤ i.2.length
theorem zipL_ok : ∀ i, zipP i → fnwp B1 6 38 zipSp (i.1, i.2, (40 : FuncId)) := by
  intro i ⟨ha, hb, hl⟩
  rw [zipL_nf]
  exact zip_lp (C := B1) (f := fun j => min (i.1.getD j 0) (i.2.getD j 0)) (X := fun j => 0 ≤ j ∧ j < i.2.length) (Y := fun _ => True) (g := fun j => min (i.1.getD j.toNat 0) (i.2.getD j.toNat 0)) bytesB1 ha.1 (fun j h0 h1 => ⟨rfl, ⟨h0, by omega⟩, trivial⟩) rfl
theorem zipG_ok : ∀ i, zipP i → fnwp B1 6 38 zipSp (i.1, i.2, (39 : FuncId)) := by
  intro i ⟨ha, hb, hl⟩
  rw [zipG_nf]
  exact zip_lp (C := B1) (f := fun j => max (i.1.getD j 0) (i.2.getD j 0)) (X := fun j => 0 ≤ j ∧ j < i.2.length) (Y := fun _ => True) (g := fun j => max (i.1.getD j.toNat 0) (i.2.getD j.toNat 0)) bytesB1 ha.1 (fun j h0 h1 => ⟨rfl, ⟨h0, by omega⟩, trivial⟩) rfl
theorem sat_two {C : Ctx} (hsp : SpecSound C) {n : Nat} {f : FuncId} {sp : FSpec} {ι : Type} {g1 g2 : ι → dens sp.ps} {p : ι → Prop} (hc : ∀ x, sp.pre x → ∃ i, p i ∧ (x = g1 i ∨ x = g2 i))
    (h1 : ∀ i, p i → fnwp C n f sp (g1 i)) (h2 : ∀ i, p i → fnwp C n f sp (g2 i)) : Sat C.P f sp :=
  fnwp_sat hsp n f sp fun x _ hp => by
    obtain ⟨i, hi, h | h⟩ := hc x hp <;> rw [h]
    · exact h1 i hi
    · exact h2 i hi
theorem zip_cov (x : dens zipSp.ps) (hp : zipSp.pre x) : ∃ i : List Int × List Int, zipP i ∧ (x = (i.1, i.2, (40 : FuncId)) ∨ x = (i.1, i.2, (39 : FuncId))) :=
  ⟨(x.1, x.2.1), ⟨hp.1, hp.2.1, hp.2.2.1⟩, hp.2.2.2.imp (fun e => Prod.ext rfl (Prod.ext rfl e)) (fun e => Prod.ext rfl (Prod.ext rfl e))⟩
theorem sat_zip : Sat Try.prog 38 zipSp :=
  sat_two (C := B1) ssB1 zip_cov zipL_ok zipG_ok
end Go.Proofs.Ytdeleoaeegmhlaa
--@drop
namespace Go.PL
open Go.AM
set_option linter.unusedVariables false

theorem nearS_no {m : Int} {b : Box} {v : List Int} (h : basked m b v = true → False) : ((0 : Int), (1 : Int)) = nearS m b v := by
  unfold nearS; rw [if_neg h]
theorem nearS_yes {m : Int} {b : Box} {v : List Int} (h : basked m b v = true) : nearS m b v = (sumK m v.length (nearF b v), 0) := by
  unfold nearS; rw [if_pos h]
theorem farS_no {m : Int} {b : Box} {v : List Int} (h : basked m b v = true → False) : ((0 : Int), (1 : Int)) = farS m b v := by
  unfold farS; rw [if_neg h]
theorem farS_yes {m : Int} {b : Box} {v : List Int} (h : basked m b v = true) : farS m b v = (sumK m v.length (farF b v), 0) := by
  unfold farS; rw [if_pos h]
theorem apartS_no {m : Int} {a b : Box} (h : (isM m = true ∧ balike a b = true) → False) : ((0 : Int), (1 : Int)) = apartS m a b := by
  unfold apartS; rw [if_neg (by simpa using h)]
theorem apartS_yes {m : Int} {a b : Box} (h : isM m = true) (h' : balike a b = true) : apartS m a b = (sumK m a.1.length (apartF a b), 0) := by
  unfold apartS; rw [if_pos (by rw [h, h']; rfl)]
theorem near_le {b : Box} {v : List Int} (hb : bval b = true) (hv : bvec v = true) (j : Nat) : 0 ≤ nearF b v j ∧ nearF b v j ≤ 8000 := by
  have := bval_at hb j
  have := bvec_at hv j
  unfold nearF at_
  omega
theorem far_le {b : Box} {v : List Int} (hb : bval b = true) (hv : bvec v = true) (j : Nat) : 0 ≤ farF b v j ∧ farF b v j ≤ 8000 := by
  have := bval_at hb j
  have := bvec_at hv j
  unfold farF at_
  omega
theorem apart_le {a b : Box} (ha : bval a = true) (hb : bval b = true) (j : Nat) : 0 ≤ apartF a b j ∧ apartF a b j ≤ 8000 := by
  have := bval_at ha j
  have := bval_at hb j
  unfold apartF at_
  omega
theorem keyI_step {m : Int} {n : Nat} {f : Nat → Int} {s i d : Int} (hf : ∀ j, 0 ≤ f j ∧ f j ≤ 8000) (hn : n ≤ 64) (h0 : 0 ≤ i) (h1 : i ≤ n) (h2 : s = sumK m i.toNat f) (c : i < n) (hd : d = f i.toNat) :
    (m = 1 → isI64 (s + d) ∧ s + d = sumK m (i + 1).toNat f) ∧ (m = 2 → isI64 (d * d) ∧ isI64 (s + d * d) ∧ s + d * d = sumK m (i + 1).toNat f) ∧ (m = 3 → max s d = sumK m (i + 1).toNat f) ∧ isI64 (i + 1) := by
  have hs := sumK_succ m i.toNat f
  have hb := sumK_bound m i.toNat f fun j _ => hf j
  have hfi := hf i.toNat
  rw [← succ_toNat h0, ← h2, ← hd] at hs
  rw [← h2] at hb
  rw [← hd] at hfi
  have hq := sq_le hfi.1 hfi.2
  refine ⟨fun e => ?_, fun e => ?_, fun e => ?_, i64s (by omega) (by omega)⟩
  · subst e; exact ⟨i64s (by omega) (by omega), hs.symm⟩
  · subst e; exact ⟨i64s (by omega) (by omega), i64s (by omega) (by omega), hs.symm⟩
  · subst e; exact hs.symm

theorem cutOk_iff {b : Box} {x y : Int} : cutOk b x y = true ↔ bval b = true ∧ 0 ≤ x ∧ x < b.1.length ∧ b.1.getD x.toNat 0 ≤ y ∧ y < b.2.1.getD x.toNat 0 := by
  unfold cutOk at_
  simp only [Bool.and_eq_true, decide_eq_true_eq]
theorem cutS_no {b : Box} {x y : Int} (h : cutOk b x y = true → False) : ((([], [], ()), ([], [], ()), (1 : Int)) : Box × Box × Int) = cutS b x y := by
  unfold cutS; rw [if_neg h]; rfl
theorem cutS_yes {b : Box} {x y : Int} (h : cutOk b x y = true) : (((b.1, b.2.1.set x.toNat y, ()), (b.1.set x.toNat (y + 1), b.2.1, ()), (0 : Int)) : Box × Box × Int) = cutS b x y := by
  unfold cutS; rw [if_pos h]

/-- The place of the greatest number. -/
theorem index_amax {l : List Int} {n : Nat} {w : Nat → Int} (hn : 1 ≤ n) (hl : l.length = n) (h : ∀ i, i < n → l.getD i 0 = w i) : indexS (maxS l) l = (amax n w : Int) ∧ l.getD (amax n w) 0 = w (amax n w) := by
  obtain ⟨a1, a2, a3⟩ := amax_spec w n hn
  have hm : maxS l = w (amax n w) := by
    obtain ⟨m1, m2, m3⟩ := mxN_spec l l.length
    rw [maxS_eq]
    have g1 := m2 (amax n w) (by omega)
    rw [h _ a1] at g1
    rcases m3 with m3 | ⟨i, hi, m3⟩
    · have := a2 0 (by omega); rw [← h 0 (by omega)] at this; omega
    · have := a2 i (by omega); rw [← h i (by omega)] at this; omega
  refine ⟨indexS_at (by omega) (by omega) ?_ (fun j hj => ?_), h _ a1⟩
  · rw [hm, Int.toNat_natCast, h _ a1]
  · rw [hm, h j (by omega)]
    have := a3 j (by omega)
    omega
theorem splitS_no {b : Box} (h : bval b = true → False) : ((0 : Int), (0 : Int), (1 : Int)) = splitS b := by
  unfold splitS; rw [if_neg h]
theorem splitS_yes {b : Box} (h : bval b = true) : splitS b = if widthF b (amax b.1.length (widthF b)) = 0 then ((0 : Int), (0 : Int), (4 : Int)) else ((amax b.1.length (widthF b) : Int), b.1.getD (amax b.1.length (widthF b)) 0 + widthF b (amax b.1.length (widthF b)) / 2, 0) := by
  unfold splitS; rw [if_pos h]; rfl

theorem mnK_succ (l : List (List Int)) (m k : Nat) : mnK l (m + 1) k = min (mnK l m k) ((l.getD m []).getD k 0) := by
  unfold mnK
  rw [List.range_succ, List.foldl_append]
  rfl
theorem mxK_succ (l : List (List Int)) (m k : Nat) : mxK l (m + 1) k = max (mxK l m k) ((l.getD m []).getD k 0) := by
  unfold mxK
  rw [List.range_succ, List.foldl_append]
  rfl
theorem mnK_zero (l : List (List Int)) (k : Nat) : mnK l 0 k = (l.getD 0 []).getD k 0 := rfl
theorem mxK_zero (l : List (List Int)) (k : Nat) : mxK l 0 k = (l.getD 0 []).getD k 0 := rfl
theorem ofOk_iff {l : List (List Int)} : ofOk l = true ↔ 1 ≤ l.length ∧ ∀ i, i < l.length → bvec (l.getD i []) = true ∧ (l.getD i []).length = (l.getD 0 []).length := by
  unfold ofOk row
  simp only [Bool.and_eq_true, upto_iff, decide_eq_true_eq]
theorem mnK_at (l : List (List Int)) (k : Nat) : ∀ m, (mnK l m k ≤ (l.getD 0 []).getD k 0) ∧ (∀ i, i < m → mnK l m k ≤ (l.getD i []).getD k 0) ∧ (mnK l m k = (l.getD 0 []).getD k 0 ∨ ∃ i, i < m ∧ mnK l m k = (l.getD i []).getD k 0)
  | 0 => ⟨Int.le_refl _, fun i hi => by omega, .inl rfl⟩
  | m + 1 => by
    obtain ⟨h1, h2, h3⟩ := mnK_at l k m
    rw [mnK_succ]
    refine ⟨by omega, fun i hi => ?_, ?_⟩
    · rcases Nat.lt_or_ge i m with h' | h'
      · have := h2 i h'; omega
      · rw [show i = m by omega]; omega
    · by_cases hc : mnK l m k ≤ (l.getD m []).getD k 0
      · rw [Int.min_eq_left hc]
        exact h3.imp id fun ⟨i, hi, h⟩ => ⟨i, by omega, h⟩
      · rw [Int.min_eq_right (by omega)]
        exact .inr ⟨m, by omega, rfl⟩
theorem mxK_at (l : List (List Int)) (k : Nat) : ∀ m, ((l.getD 0 []).getD k 0 ≤ mxK l m k) ∧ (∀ i, i < m → (l.getD i []).getD k 0 ≤ mxK l m k) ∧ (mxK l m k = (l.getD 0 []).getD k 0 ∨ ∃ i, i < m ∧ mxK l m k = (l.getD i []).getD k 0)
  | 0 => ⟨Int.le_refl _, fun i hi => by omega, .inl rfl⟩
  | m + 1 => by
    obtain ⟨h1, h2, h3⟩ := mxK_at l k m
    rw [mxK_succ]
    refine ⟨by omega, fun i hi => ?_, ?_⟩
    · rcases Nat.lt_or_ge i m with h' | h'
      · have := h2 i h'; omega
      · rw [show i = m by omega]; omega
    · by_cases hc : (l.getD m []).getD k 0 ≤ mxK l m k
      · rw [Int.max_eq_left hc]
        exact h3.imp id fun ⟨i, hi, h⟩ => ⟨i, by omega, h⟩
      · rw [Int.max_eq_right (by omega)]
        exact .inr ⟨m, by omega, rfl⟩
theorem ofOk_at {l : List (List Int)} (h : ofOk l = true) (i k : Nat) : -1000 ≤ (l.getD i []).getD k 0 ∧ (l.getD i []).getD k 0 ≤ 1000 := by
  rcases Nat.lt_or_ge i l.length with h' | h'
  · exact bvec_at ((ofOk_iff.1 h).2 i h').1 k
  · have e : l.getD i [] = [] := by rw [List.getD_eq_getElem?_getD, List.getElem?_eq_none h']; rfl
    rw [e]
    simp
theorem mnK_bd {l : List (List Int)} (h : ofOk l = true) (m k : Nat) : -1000 ≤ mnK l m k ∧ mnK l m k ≤ 1000 := by
  obtain ⟨_, _, h3⟩ := mnK_at l k m
  rcases h3 with h3 | ⟨i, _, h3⟩ <;> rw [h3] <;> exact ofOk_at h _ _
theorem mxK_bd {l : List (List Int)} (h : ofOk l = true) (m k : Nat) : -1000 ≤ mxK l m k ∧ mxK l m k ≤ 1000 := by
  obtain ⟨_, _, h3⟩ := mxK_at l k m
  rcases h3 with h3 | ⟨i, _, h3⟩ <;> rw [h3] <;> exact ofOk_at h _ _
theorem ofS_no {l : List (List Int)} (h : ofOk l = true → False) : ((([], [], ()), (1 : Int)) : Box × Int) = ofS l := by
  unfold ofS; rw [if_neg h]; rfl
theorem ofS_yes {l : List (List Int)} (h : ofOk l = true) : ofS l = ((tab (l.getD 0 []).length (mnK l l.length), tab (l.getD 0 []).length (mxK l l.length), ()), 0) := by
  unfold ofS; rw [if_pos h]; rfl
theorem tab_sm {n : Nat} {f : Nat → Int} (hn : n ≤ 64) (hf : ∀ i, -4000 ≤ f i ∧ f i ≤ 4000) : sm (tab n f) :=
  ⟨by rw [tab_length]; exact hn, fun i => by
    unfold at_
    rcases Nat.lt_or_ge i n with h | h
    · rw [tab_getD _ h]; exact hf i
    · rw [getD_out (by rw [tab_length]; exact h)]; omega⟩

theorem joinS_no {a b : Box} (h : balike a b = true → False) : ((([], [], ()), (1 : Int)) : Box × Int) = joinS a b := by
  unfold joinS; rw [if_neg h]; rfl
theorem joinS_yes {a b : Box} (h : balike a b = true) : joinS a b = (joinB a b, 0) := by
  unfold joinS; rw [if_pos h]
theorem meetS_no {a b : Box} (h : balike a b = true → False) : ((([], [], ()), false, (1 : Int)) : Box × Bool × Int) = meetS a b := by
  unfold meetS; rw [if_neg h]; rfl
theorem meetS_none {a b : Box} (h : balike a b = true) (h' : bval (meetB a b) = false) : ((([], [], ()), false, (0 : Int)) : Box × Bool × Int) = meetS a b := by
  unfold meetS; rw [if_pos h, if_neg (by rw [h']; simp)]; rfl
theorem meetS_yes {a b : Box} (h : balike a b = true) (h' : bval (meetB a b) = true) : meetS a b = (meetB a b, true, 0) := by
  unfold meetS; rw [if_pos h, if_pos h']
theorem meetB_val {a b : Box} (h : balike a b = true) : bval (meetB a b) = true ↔ ∀ i, i < a.1.length → max (a.1.getD i 0) (b.1.getD i 0) ≤ min (a.2.1.getD i 0) (b.2.1.getD i 0) := by
  obtain ⟨ha, hb, hl⟩ := balike_iff.1 h
  obtain ⟨l1, l2, l3⟩ := bval_len ha
  obtain ⟨k1, k2, k3⟩ := bval_len hb
  have e1 : (meetB a b).1 = tab a.1.length fun i => max (a.1.getD i 0) (b.1.getD i 0) := rfl
  have e2 : (meetB a b).2.1 = tab a.2.1.length fun i => min (a.2.1.getD i 0) (b.2.1.getD i 0) := rfl
  rw [bval_iff, bvec_iff, bvec_iff, e1, e2, tab_length, tab_length]
  constructor
  · rintro ⟨_, _, _, h4⟩ i hi
    have := h4 i hi
    rwa [tab_getD _ hi, tab_getD _ (by omega)] at this
  · intro h4
    refine ⟨⟨fun i hi => ?_, by omega, by omega⟩, ⟨fun i hi => ?_, by omega, by omega⟩, by omega, fun i hi => ?_⟩
    · rw [tab_getD _ hi]
      have := bval_at ha i; have := bval_at hb i; omega
    · rw [tab_getD _ hi]
      have := bval_at ha i; have := bval_at hb i; omega
    · rw [tab_getD _ hi, tab_getD _ (by omega)]
      exact h4 i hi
end Go.PL
--@drop
namespace Go.Proofs.Ytdeleoaeegmhlaa
open Go.AM Go.PL
set_option linter.unusedVariables false
theorem ssB2 : SpecSound B2 := mkctx_sound ⟨sat_bvalid, sat_zip, sat_isVec, sat_least, sat_great, sat_nr, sat_idx, sat_same6, trivial⟩ trivial
theorem ssB2G : SpecSound B2G := mkctx_sound ⟨sat_bvalid, sat_zip, sat_isVec, sat_least, sat_great, sat_nr, sat_idx, sat_same6, trivial⟩ ⟨satG_cln, trivial⟩
theorem balike_ok (a b : Box) : (True ∧ (bval a = true → True ∧ (bval b = true → decide ((↑a.fst.length : Int) = (↑b.fst.length : Int)) = balike a b) ∧
  (bval b = false → false = balike a b)) ∧ (bval a = false → false = balike a b)) :=
  ⟨trivial, fun h1 => ⟨trivial, fun h2 => dec_is ⟨fun h => balike_iff.2 ⟨h1, h2, by omega⟩, fun h => by have := (balike_iff.1 h).2.2; omega⟩, fun h2 => is_no fun h => by rw [(balike_iff.1 h).2.1] at h2; cases h2⟩,
    fun h1 => is_no fun h => by rw [(balike_iff.1 h).1] at h1; cases h1⟩
theorem sat_balike : Sat Try.prog 37 alikSp := sat_nf (C := B2) ssB2 (fun x => balike_nf x.1 x.2) fun x hk hp => balike_ok x.1 x.2
theorem sat_has : Sat Try.prog 12 bhasSp := by
  refine sat_nf (C := B2) ssB2 (fun x => has_nf x.1 x.2) fun (⟨b, v⟩ : Box × List Int) hk hp => ?_
  dsimp only
  refine ⟨trivial, fun c => is_no fun h => ?_, fun c1 => ⟨fun c => is_no fun h => ?_, fun c2 => ⟨fun x => 0 ≤ x ∧ x ≤ v.length ∧ ∀ j : Nat, (j : Int) < x → b.1.getD j 0 ≤ v.getD j 0 ∧ v.getD j 0 ≤ b.2.1.getD j 0, fun x => ((v.length : Int) - x).toNat,
    ⟨by omega, by omega, fun j hj => by omega⟩, fun x ⟨h0, h1, h2⟩ => ⟨fun c => ?_, fun c => ?_⟩⟩⟩⟩
  · have := nt c; rw [(bhas_iff.1 h).1] at this; cases this
  · have := (bhas_iff.1 h).2.1; exact ndt c (by omega)
  · have c1 := bval_len (nf c1)
    have c2 := ndf c2
    have c := dt c
    refine ⟨⟨h0, c⟩, ⟨h0, by omega⟩, fun g => is_no fun h => ?_, fun g => ⟨⟨h0, by omega⟩, fun g' => is_no fun h => ?_, fun g' => ⟨i64s (by omega) (by omega), ⟨by omega, by omega, upd_all h0 h2 ⟨by have := df g; omega, by have := df g'; omega⟩⟩, by dsimp only; omega⟩⟩⟩
    · have := (bhas_iff.1 h).2.2 x.toNat (by omega)
      have := dt g
      omega
    · have := (bhas_iff.1 h).2.2 x.toNat (by omega)
      have := dt g'
      omega
  · have c1 := nf c1
    have c2 := ndf c2
    have c := df c
    exact (bhas_iff.2 ⟨c1, by omega, fun i hi => h2 i (by omega)⟩).symm
end Go.Proofs.Ytdeleoaeegmhlaa
--@drop
namespace Go.PL
open Go.AM
set_option linter.unusedVariables false
theorem rOf_no {l : List (List Int)} (h : ofOk l = true → False) : ((([], [], ()), false, (1 : Int), ()) : Box × Bool × Int × Unit) = ((ofS l).fst, ofOk l, (ofS l).snd, ()) := by
  rw [← ofS_no h, ← is_no h]
theorem tl_eq (l : List (List Int)) : List.take (l.length - 1) (List.drop 1 l) = List.drop 1 l := List.take_of_length_le (by simp)
theorem tl_getD (l : List (List Int)) (i : Nat) : (List.drop 1 l).getD i [] = l.getD (i + 1) [] := by
  rw [List.getD_eq_getElem?_getD, List.getD_eq_getElem?_getD, List.getElem?_drop, Nat.add_comm]
theorem row_tab (l : List (List Int)) : l.getD 0 [] = tab (l.getD 0 []).length (mnK l 1) ∧ l.getD 0 [] = tab (l.getD 0 []).length (mxK l 1) :=
  ⟨list_ext (tab_length _ _).symm fun i hi => by rw [tab_getD _ hi, mnK_succ, mnK_zero]; omega, list_ext (tab_length _ _).symm fun i hi => by rw [tab_getD _ hi, mxK_succ, mxK_zero]; omega⟩
theorem of4 {a b : Box} (h : balike a b = true) : ofOk [a.1, a.2.1, b.1, b.2.1] = true ∧ ofS [a.1, a.2.1, b.1, b.2.1] = (joinB a b, 0) := by
  obtain ⟨ha, hb, hl⟩ := balike_iff.1 h
  have la := bval_len ha
  have lb := bval_len hb
  have hok : ofOk [a.1, a.2.1, b.1, b.2.1] = true := by
    rw [ofOk_iff]
    refine ⟨by simp, fun i hi => ?_⟩
    match i, hi with
    | 0, _ => exact ⟨(bval_iff.1 ha).1, rfl⟩
    | 1, _ => exact ⟨(bval_iff.1 ha).2.1, la.2.2⟩
    | 2, _ => exact ⟨(bval_iff.1 hb).1, hl.symm⟩
    | 3, _ => exact ⟨(bval_iff.1 hb).2.1, by show b.2.1.length = a.1.length; omega⟩
  refine ⟨hok, ?_⟩
  rw [ofS_yes hok]
  have e1 : tab a.1.length (mnK [a.1, a.2.1, b.1, b.2.1] 4) = tab a.1.length fun i => min (at_ a.1 i) (at_ b.1 i) := tab_ext rfl fun i hi => by
    rw [mnK_succ, mnK_succ, mnK_succ, mnK_succ, mnK_zero]
    show min (min (min (min (a.1.getD i 0) (a.1.getD i 0)) (a.2.1.getD i 0)) (b.1.getD i 0)) (b.2.1.getD i 0) = min (a.1.getD i 0) (b.1.getD i 0)
    have := bval_at ha i
    have := bval_at hb i
    omega
  have e2 : tab a.1.length (mxK [a.1, a.2.1, b.1, b.2.1] 4) = tab a.2.1.length fun i => max (at_ a.2.1 i) (at_ b.2.1 i) := tab_ext la.2.2.symm fun i hi => by
    rw [mxK_succ, mxK_succ, mxK_succ, mxK_succ, mxK_zero]
    show max (max (max (max (a.1.getD i 0) (a.1.getD i 0)) (a.2.1.getD i 0)) (b.1.getD i 0)) (b.2.1.getD i 0) = max (a.2.1.getD i 0) (b.2.1.getD i 0)
    have := bval_at ha i
    have := bval_at hb i
    omega
  show ((tab a.1.length (mnK [a.1, a.2.1, b.1, b.2.1] 4), tab a.1.length (mxK [a.1, a.2.1, b.1, b.2.1] 4), ()), (0 : Int)) = (joinB a b, 0)
  rw [e1, e2]
  rfl
theorem key_near {b : Box} {v : List Int} (hb : bval b = true) (i : Nat) (hi : i < v.length) : keyF (nearestS b v) v i = nearF b v i := by
  have e : at_ (nearestS b v) i = min (max (at_ v i) (at_ b.1 i)) (at_ b.2.1 i) := tab_getD _ hi
  unfold keyF
  rw [e]
  have := bval_at hb i
  unfold nearF at_
  omega
theorem key_far {b : Box} {v : List Int} (hb : bval b = true) (i : Nat) (hi : i < v.length) : keyF (farthestS b v) v i = farF b v i := by
  have e : at_ (farthestS b v) i = if at_ v i - at_ b.1 i < at_ b.2.1 i - at_ v i then at_ b.2.1 i else at_ b.1 i := tab_getD _ hi
  unfold keyF
  rw [e]
  have := bval_at hb i
  unfold farF at_
  split <;> omega
theorem key_apart {a b : Box} (n : Nat) (ha : bval a = true) (hb : bval b = true) (i : Nat) (hi : i < n) : keyF (tab n (apartF a b)) (tab n fun _ => 0) i = apartF a b i := by
  have e : at_ (tab n (apartF a b)) i = apartF a b i := tab_getD _ hi
  have e' : at_ (tab n fun _ => 0) i = 0 := tab_getD _ hi
  unfold keyF
  rw [e, e']
  have := apart_le ha hb i
  omega
theorem nearest_sm {b : Box} {v : List Int} (hb : bval b = true) (hv : bvec v = true) : sm (nearestS b v) :=
  tab_sm (by have := bvec_len hv; omega) fun i => by have := bval_at hb i; have := bvec_at hv i; unfold at_; omega
theorem farthest_sm {b : Box} {v : List Int} (hb : bval b = true) (hv : bvec v = true) : sm (farthestS b v) :=
  tab_sm (by have := bvec_len hv; omega) fun i => by have := bval_at hb i; have := bvec_at hv i; unfold at_; split <;> omega
theorem apart_sm {a b : Box} {n : Nat} (hn : n ≤ 64) (ha : bval a = true) (hb : bval b = true) : sm (tab n (apartF a b)) :=
  tab_sm hn fun i => by have := bval_at ha i; have := bval_at hb i; unfold apartF at_; omega
theorem fewB_iff {b : Box} : fewB b = true ↔ b.1.length ≤ 40 ∧ b.2.1.length ≤ 40 := by
  unfold fewB
  simp only [Bool.and_eq_true, decide_eq_true_eq]
theorem shortB_iff {l : List (List Int)} : shortB l = true ↔ (∀ i, i < l.length → (l.getD i []).length ≤ 40) ∧ l.length ≤ 20 := by
  unfold shortB row
  simp only [Bool.and_eq_true, upto_iff, decide_eq_true_eq]
end Go.PL
namespace Go.Proofs.Ytdeleoaeegmhlaa
open Go.AM Go.PL
set_option linter.unusedVariables false
end Go.Proofs.Ytdeleoaeegmhlaa
