import Derived.Test.YtjppchomonpfgaaDa
namespace Go.PL
open Go.AM
set_option linter.unusedVariables false
theorem alikeL_iff {l : List (List Int)} : alikeL l = true ↔ 1 ≤ l.length ∧ ∀ k, k < l.length → alikeB (l.getD 0 []) (l.getD k []) = true := by
  unfold alikeL
  simp only [Bool.and_eq_true, decide_eq_true_eq, upto_iff]
theorem pt_len {f t : Int} {v : List Int} (h0 : 0 ≤ f) (h1 : f < t) (h2 : t ≤ v.length) : ((ptS f t v).length : Int) = t - f := by
  unfold ptS
  rw [List.length_take, List.length_drop]
  omega
theorem pt_vec {f t : Int} {v : List Int} (h0 : 0 ≤ f) (h1 : f < t) (h2 : t ≤ v.length) (hv : vecOk v = true) : vecOk (ptS f t v) = true := by
  obtain ⟨v1, v2, v3⟩ := vecB_iff.1 hv
  have := pt_len h0 h1 h2
  exact vecB_iff.2 ⟨fun x hx => v1 x (List.mem_of_mem_drop (List.mem_of_mem_take hx)), by omega, by omega⟩
theorem pt_alike {l : List (List Int)} (h : alikeL l = true) {f t : Int} (h0 : 0 ≤ f) (h1 : f < t) (h2 : t ≤ (l.getD 0 []).length) {i j : Nat} (hi : i < l.length) (hj : j < l.length) : alikeB (ptS f t (l.getD i [])) (ptS f t (l.getD j [])) = true := by
  obtain ⟨a1, a2⟩ := alikeL_iff.1 h
  obtain ⟨b1, b2, b3⟩ := alike_iff.1 (a2 i hi)
  obtain ⟨c1, c2, c3⟩ := alike_iff.1 (a2 j hj)
  have e1 := pt_len (v := l.getD i []) h0 h1 (by omega)
  have e2 := pt_len (v := l.getD j []) h0 h1 (by omega)
  exact alike_iff.2 ⟨pt_vec h0 h1 (by omega) b2, pt_vec h0 h1 (by omega) c2, by omega⟩
theorem far_nil (l : List (List Int)) (f t : Int) (k : Nat) : farS l f t [] k = 134217729 := rfl
theorem far_app (l : List (List Int)) (f t : Int) (ws : List (List Int)) (w : List Int) (k : Nat) : farS l f t (ws ++ [w]) k = min (farS l f t ws k) (keyS 2 w (ptS f t (l.getD k []))) := by
  unfold farS
  rw [List.foldl_append]
  rfl
theorem train_stop {l : List (List Int)} {f t : Int} {n : Nat} (h : farS l f t (trainS l f t n) (nextS l f t (trainS l f t n)) = 0) : ∀ m, trainS l f t (n + m) = trainS l f t n
  | 0 => rfl
  | m + 1 => by
    show stepS l f t (trainS l f t (n + m)) = _
    rw [train_stop h m]
    unfold stepS
    rw [if_pos h]
theorem train_go {l : List (List Int)} {f t : Int} {n : Nat} (h : ¬ farS l f t (trainS l f t n) (nextS l f t (trainS l f t n)) = 0) : trainS l f t (n + 1) = trainS l f t n ++ [ptS f t (l.getD (nextS l f t (trainS l f t n)) [])] := by
  show stepS l f t (trainS l f t n) = _
  unfold stepS
  rw [if_neg h]
theorem setL_getD {l : List Int} {i : Nat} (h : i < l.length) (x : Int) (j : Nat) : (l.set i x).getD j 0 = if j = i then x else l.getD j 0 := by
  rw [List.getD_eq_getElem?_getD, List.getElem?_set]
  by_cases e : j = i
  · subst e
    rw [if_pos rfl, if_pos h, if_pos rfl]
    rfl
  · rw [if_neg (fun e' => e e'.symm), if_neg e, List.getD_eq_getElem?_getD]
end Go.PL
namespace Go.Proofs.Ytjppchomonpfgaa
open Go.AM Go.PL
set_option linter.unusedVariables false
theorem sat_alk : Sat Try.prog 59 alkSp := by
  refine sat_nf (C := E0) ssE0 alk_nf fun (l : List (List Int)) hk hp => ?_
  have hl : l.length ≤ 9223372036854775807 := hk.1
  refine ⟨fun x => 0 ≤ x ∧ x ≤ l.length ∧ ∀ k : Nat, (k : Int) < x → alikeB (l.getD 0 []) (l.getD k []) = true, fun x => ((l.length : Int) - x).toNat, ⟨by omega, by omega, fun j hj => by omega⟩, fun x ⟨h0, h1, h2⟩ => ⟨fun g => ?_, fun g => ?_⟩⟩
  · have g := dt g
    refine ⟨⟨h0, g⟩, ⟨by omega, by omega⟩, trivial, fun c => is_no fun h => ?_, fun c => ⟨i64_lt h0 g hl, ⟨by omega, by omega, upd_all h0 h2 (nf c)⟩, by dsimp only; omega⟩⟩
    have := nt c
    rw [(alikeL_iff.1 h).2 x.toNat (by omega)] at this
    cases this
  · have g := df g
    exact dec_is ⟨fun h => alikeL_iff.2 ⟨by omega, fun k hk => h2 k (by omega)⟩, fun h => by have := (alikeL_iff.1 h).1; omega⟩
theorem sat_trn : Sat Try.prog 61 trnSp := by
  refine sat_nf (C := E0) ssE0 (fun x => trn_nf x.1 x.2.1 x.2.2) fun (⟨l, ⟨pk, f, t, u⟩, w⟩ : List (List Int) × (Int × Int × Int × Unit) × Int) hk hp => ?_
  obtain ⟨ha, hl, ⟨f0, f1, f2⟩, w1, w2⟩ : trnP l f t w := hp
  have hl1 := (alikeL_iff.1 ha).1
  have hlen : ∀ k, k < l.length → t ≤ (l.getD k []).length := fun k hk => by
    have := (alike_iff.1 ((alikeL_iff.1 ha).2 k hk)).2.2
    omega
  have hpl : ∀ k, k < l.length → (ptS f t (l.getD k [])).length ≤ 32 := fun k hk => (vecB_iff.1 (alike_iff.1 (pt_alike ha f0 f1 f2 hk hk)).1).2.2
  dsimp only
  refine ⟨⟨by omega, by omega, room8 bytesI8 (by omega)⟩, ?_⟩
  refine ⟨fun x => 0 ≤ x.1 ∧ x.1 ≤ l.length ∧ x.2.length = l.length ∧ ∀ j : Nat, (j : Int) < x.1 → x.2.getD j 0 = 134217729, fun x => ((l.length : Int) - x.1).toNat, ⟨by simp, by simp, by simp, fun j hj => by dsimp only at hj; omega⟩, fun ⟨i, far⟩ ⟨h0, h1, h2, h3⟩ => ⟨fun g => ?_, fun g => ?_⟩⟩
  · dsimp only at h0 h1 h2 h3 g ⊢
    have g := dt g
    rw [List.length_replicate] at g
    refine ⟨⟨h0, by omega⟩, i64s (by omega) (by omega), ⟨by omega, by omega, by rw [List.length_set]; exact h2, fun j hj => ?_⟩, by omega⟩
    rw [setL_getD (by omega)]
    split
    · rfl
    · exact h3 j (by omega)
  dsimp only at h0 h1 h2 h3 g ⊢
  have g := df g
  rw [List.length_replicate] at g
  have hfar : far = tab l.length (farS l f t []) := list_ext (by rw [tab_length, h2]) fun j hj => by rw [tab_getD _ (by omega), far_nil, h3 j (by omega)]
  refine ⟨fun x => x.1 = trainS l f t x.1.length ∧ (x.1.length : Int) ≤ w ∧ x.2 = tab l.length (farS l f t x.1), fun x => (w - x.1.length).toNat, ⟨rfl, by simp; omega, hfar⟩, fun ⟨out, far⟩ ⟨o1, o2, o3⟩ => ⟨fun g => ?_, fun g => ?_⟩⟩
  · dsimp only at o1 o2 o3 g ⊢
    have g := dt g
    have fl : far.length = l.length := by rw [o3, tab_length]
    have fg : ∀ k, k < l.length → far.getD k 0 = farS l f t out k := fun k hk => by rw [o3, tab_getD _ hk]
    refine ⟨fun y => y.1 = out ∧ y.2.2.1 = far ∧ 0 ≤ y.2.2.2.2 ∧ y.2.2.2.2 ≤ l.length ∧ y.2.2.2.1 = (amax y.2.2.2.2.toNat (farS l f t out) : Int), fun y => ((l.length : Int) - y.2.2.2.2).toNat, ⟨rfl, rfl, by simp, by simp, rfl⟩, fun ⟨out', fr', far', best, i⟩ ⟨y1, y2, y3, y4, y5⟩ => ?_⟩
    dsimp only at y1 y2 y3 y4 y5 ⊢
    subst y1 y2
    have hbl : amax i.toNat (farS l f t out') < l.length := amax_lt _ hl1 (by omega)
    have hbt : best.toNat = amax i.toNat (farS l f t out') := by omega
    refine ⟨fun q => ?_, fun q => ?_⟩
    · have q := dt q
      have hs := amax_succ i.toNat (farS l f t out')
      rw [← succ_toNat y3, ← hbt] at hs
      have hi : isI64 (i + 1) := i64s (by omega) (by omega)
      rw [fg _ (show best.toNat < l.length by omega), fg _ (show i.toNat < l.length by omega)]
      refine ⟨⟨y3, q⟩, ⟨by omega, by omega⟩, fun r => ⟨hi, ⟨rfl, rfl, by omega, by omega, ?_⟩, by omega⟩, fun r => ⟨hi, ⟨rfl, rfl, by omega, by omega, ?_⟩, by omega⟩⟩
      · rw [hs, if_pos (dt r)]
        omega
      · rw [hs, if_neg (df r)]
        omega
    · have q := df q
      rw [end_toNat y4 (by omega)] at hbt y5
      have hbn : best.toNat = nextS l f t out' := hbt
      have hnl : nextS l f t out' < l.length := amax_lt _ hl1 (Nat.le_refl _)
      rw [fg _ (show best.toNat < l.length by omega)]
      refine ⟨⟨by omega, by omega⟩, fun r => ?_, fun r => ?_⟩
      · have r := dt r
        rw [hbn] at r
        have e := train_stop (l := l) (f := f) (t := t) (n := out'.length) (by rw [← o1]; exact r) (w.toNat - out'.length)
        rw [show out'.length + (w.toNat - out'.length) = w.toNat by omega, ← o1] at e
        exact e.symm
      · have r := df r
        rw [hbn] at r
        have e := train_go (l := l) (f := f) (t := t) (n := out'.length) (by rw [← o1]; exact r)
        rw [← o1] at e
        have hpe : List.take (t.toNat - f.toNat) (List.drop f.toNat (l.getD best.toNat [])) = ptS f t (l.getD (nextS l f t out') []) := by rw [hbn]; rfl
        rw [hpe]
        have hpb := hpl _ hnl
        have hbk := hlen _ hnl
        rw [hbn]
        have hwl : (out' ++ [ptS f t (l.getD (nextS l f t out') [])]).length = out'.length + 1 := by simp
        refine ⟨⟨by omega, by omega⟩, ⟨f0, by omega, hbk⟩, by omega, room24 bytesL24 (by rw [List.length_singleton]; omega), ?_⟩
        refine ⟨fun z => z.1 = out' ++ [ptS f t (l.getD (nextS l f t out') [])] ∧ 0 ≤ z.2.2 ∧ z.2.2 ≤ l.length ∧ z.2.1.length = l.length ∧ ∀ j, j < l.length → z.2.1.getD j 0 = if (j : Int) < z.2.2 then farS l f t (out' ++ [ptS f t (l.getD (nextS l f t out') [])]) j else farS l f t out' j, fun z => ((l.length : Int) - z.2.2).toNat,
          ⟨rfl, by simp, by simp, fl, fun j hj => by dsimp only; rw [if_neg (by omega)]; exact fg j hj⟩, fun ⟨o2', fr, j⟩ ⟨z1, z2, z3, z4, z5⟩ => ⟨fun s => ?_, fun s => ?_⟩⟩
        · dsimp only at z1 z2 z3 z4 z5 s ⊢
          have s' := dt s
          subst z1
          obtain ⟨s1, s2, s3⟩ := alike_sm (pt_alike ha f0 f1 f2 hnl (show j.toNat < l.length by omega)) (c := 4000) (by omega)
          have hv := z5 j.toNat (by omega)
          rw [if_neg (by omega)] at hv
          refine ⟨⟨z2, s'⟩, ⟨z2, by omega⟩, ⟨f0, by omega, hlen _ (by omega)⟩, ⟨by omega, by omega, s1, s2, s3⟩, ⟨z2, by omega⟩, i64s (by omega) (by omega), ⟨rfl, by omega, by omega, by rw [List.length_set]; exact z4, fun k hk => ?_⟩, by omega⟩
          rw [setL_getD (by omega), hv]
          by_cases ek : k = j.toNat
          · subst ek
            rw [if_pos rfl, if_pos (by omega), far_app]
            rfl
          · rw [if_neg ek, z5 k hk]
            by_cases e2 : (k : Int) < j
            · rw [if_pos e2, if_pos (by omega)]
            · rw [if_neg e2, if_neg (by omega)]
        · dsimp only at z1 z2 z3 z4 z5 s ⊢
          have s := df s
          subst z1
          refine ⟨⟨?_, by rw [hwl]; omega, list_ext (by rw [tab_length, z4]) fun k hk => ?_⟩, by rw [hwl]; omega⟩
          · rw [hwl, e]
          · rw [tab_getD _ (by omega), z5 k (by omega), if_pos (by omega)]
  · dsimp only at o1 o2 o3 g ⊢
    have g := df g
    rw [show w.toNat = out.length by omega]
    exact o1
theorem res_bd {b : Book} {m : Int} {v : List Int} (h : rightB b m v v = true) : 0 ≤ residS b m v ∧ residS b m v ≤ 8 * 134217728 := by
  obtain ⟨l8, l2⟩ := right_len h
  have h1 := foldJ_nonneg (m := m) (n := b.2.1.length) (f := fun k => leastS m (b.2.2.1.getD k []) (partS b.2.1 b.1 k v)) fun k hk => (least_bd h hk).1
  have h2 := foldJ_le (m := m) (n := b.2.1.length) (f := fun k => leastS m (b.2.2.1.getD k []) (partS b.2.1 b.1 k v)) (c := 134217728) (by omega) fun k hk => least_bd h hk
  unfold residS
  exact ⟨h1, by omega⟩
theorem worst_step {b : Book} {m : Int} {l : List (List Int)} {x : Int} (h0 : 0 ≤ x) : foldJ 3 (x + 1).toNat (fun k => residS b m (l.getD k [])) = max (foldJ 3 x.toNat fun k => residS b m (l.getD k [])) (residS b m (l.getD x.toNat [])) := by
  rw [succ_toNat h0, foldJ_succ]
  unfold joinK
  rw [if_pos rfl]
theorem sat_worst : Sat Try.prog 35 worstSp := by
  refine sat_nf (C := E2) ssE2 (fun x => worst_nf x.1 x.2.1 x.2.2) fun (⟨b, m, l⟩ : Book × Int × List (List Int)) hk hp => ?_
  have hr : ∀ k, k < l.length → rightB b m (l.getD k []) (l.getD k []) = true := hp
  have hl : l.length ≤ 9223372036854775807 := hk.2.2.1
  dsimp only
  refine ⟨fun x => 0 ≤ x.2 ∧ x.2 ≤ l.length ∧ x.1 = foldJ 3 x.2.toNat fun k => residS b m (l.getD k []), fun x => ((l.length : Int) - x.2).toNat, ⟨by simp, by simp, rfl⟩, fun ⟨o, i⟩ ⟨h0, h1, h2⟩ => ⟨fun g => ?_, fun g => ?_⟩⟩
  · dsimp only at h0 h1 h2 g ⊢
    have g := dt g
    exact ⟨⟨h0, g⟩, hr _ (by omega), i64_lt h0 g hl, ⟨by omega, by omega, by rw [worst_step h0, h2]⟩, by omega⟩
  · dsimp only at h0 h1 h2 g ⊢
    rw [h2, end_toNat h1 (df g)]
    rfl
theorem sat_rWorst : Sat Try.prog 36 worstSp := by
  refine sat_nf (C := E2) ssE2 (fun x => rWorst_nf x.1 x.2.1 x.2.2) fun (⟨b, m, l⟩ : Book × Int × List (List Int)) hk hp => ?_
  have hr : ∀ k, k < l.length → rightB b m (l.getD k []) (l.getD k []) = true := hp
  have hl : l.length ≤ 9223372036854775807 := hk.2.2.1
  dsimp only
  refine ⟨fun x => 0 ≤ x.2 ∧ x.2 ≤ l.length ∧ x.1 = foldJ 3 x.2.toNat fun k => residS b m (l.getD k []), fun x => ((l.length : Int) - x.2).toNat, ⟨by simp, by simp, rfl⟩, fun ⟨o, i⟩ ⟨h0, h1, h2⟩ => ⟨fun g => ?_, fun g => ?_⟩⟩
  · dsimp only at h0 h1 h2 g ⊢
    have g := dt g
    have hs := worst_step (b := b) (m := m) (l := l) h0
    rw [← h2] at hs
    refine ⟨⟨h0, g⟩, hr _ (by omega), fun r => ⟨i64_lt h0 g hl, ⟨by omega, by omega, ?_⟩, by omega⟩, fun r => ⟨i64_lt h0 g hl, ⟨by omega, by omega, ?_⟩, by omega⟩⟩
    · have r := dt r
      rw [hs]
      omega
    · have r := df r
      rw [hs]
      omega
  · dsimp only at h0 h1 h2 g ⊢
    rw [h2, end_toNat h1 (df g)]
    rfl
theorem ssE1 : SpecSound E1 := mkctx_sound ⟨sat_alk, sat_trn, sat_clone.toData, sat_cut, sat_rCut, sat_end, sat_ofp, sat_near, sat_rows, satD0⟩ trivial
end Go.Proofs.Ytjppchomonpfgaa
