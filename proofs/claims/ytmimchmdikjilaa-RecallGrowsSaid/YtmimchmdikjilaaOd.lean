import Derived.Test.YtmimchmdikjilaaOc
namespace Go.Proofs.Ytmimchmdikjilaa
open Go.AM Go.PL
set_option linter.unusedVariables false
/-! ### What is filled in -/
theorem free_ex (hits : List Hit) (id : Int) : ∃ n, n < hits.length + 1 ∧ hasH hits (id + (n : Int)) = false := by
  by_cases h : ∃ n, n < hits.length + 1 ∧ hasH hits (id + (n : Int)) = false
  · exact h
  · exfalso
    have hall : ∀ n, n < hits.length + 1 → hasH hits (id + (n : Int)) = true := fun n hn => by
      cases hc : hasH hits (id + (n : Int))
      · exact absurd ⟨n, hn, hc⟩ h
      · rfl
    have hnd : ((List.range (hits.length + 1)).map fun (n : Nat) => id + (n : Int)).Nodup := by
      rw [List.Nodup, List.pairwise_map]
      exact List.nodup_range.imp fun {a b} hab e => hab (by omega)
    have := nodup_len (U := hits.map Prod.fst) hnd fun x hx => by
      obtain ⟨n, hn, rfl⟩ := List.mem_map.1 hx
      obtain ⟨h, hm, e⟩ := (hasH_iff _ _).1 (hall n (List.mem_range.1 hn))
      exact List.mem_map.2 ⟨h, hm, e⟩
    simp only [List.length_map, List.length_range] at this
    omega
theorem free_no (hits : List Hit) (id : Int) : hasH hits (freeAt hits id) = false := by
  obtain ⟨n, h1, h2⟩ := free_ex hits id
  have := fidx_is (p := fun n : Nat => !hasH hits (id + (n : Int))) (fidx_lt ⟨n, h1, by rw [h2]; rfl⟩)
  unfold freeAt
  simpa using this
theorem free_le (hits : List Hit) (id : Int) : id ≤ freeAt hits id ∧ freeAt hits id ≤ id + hits.length := by
  obtain ⟨n, h1, h2⟩ := free_ex hits id
  have := fidx_lt (p := fun n : Nat => !hasH hits (id + (n : Int))) ⟨n, h1, by rw [h2]; rfl⟩
  unfold freeAt
  omega
theorem free_used (hits : List Hit) (id : Int) {j : Int} (h0 : id ≤ j) (h1 : j < freeAt hits id) : hasH hits j = true := by
  unfold freeAt at h1
  have := fidx_no (n := hits.length + 1) (p := fun n : Nat => !hasH hits (id + (n : Int))) (i := (j - id).toNat) (by omega)
  rw [show id + (((j - id).toNat : Nat) : Int) = j by omega] at this
  simpa using this
theorem fillN_len (hits : List Hit) (keys : List Int) (x : Rst) (s : Int × List Hit) : ∀ n, (fillN hits keys x n s).2.length = s.2.length + n ∧ s.1 ≤ (fillN hits keys x n s).1 ∧ (fillN hits keys x n s).1 ≤ s.1 + n * (hits.length + 1)
  | 0 => ⟨rfl, Int.le_refl _, by simp [fillN]⟩
  | n + 1 => by
    obtain ⟨h1, h2, h3⟩ := fillN_len hits keys x s n
    unfold fillN fillOne
    have := free_le hits (fillN hits keys x n s).1
    refine ⟨by simp only [List.length_append, List.length_cons, List.length_nil]; omega, by show s.1 ≤ freeAt _ _ + 1; omega, ?_⟩
    show freeAt _ _ + 1 ≤ _
    have e : ((n + 1 : Nat) : Int) * ((hits.length : Int) + 1) = (n : Int) * ((hits.length : Int) + 1) + ((hits.length : Int) + 1) := by
      rw [Int.natCast_add, Int.add_mul]; simp
    omega
theorem fillL_append (hits : List Hit) (keys : List Int) (a b : List Rst) (s : Int × List Hit) : fillL hits keys (a ++ b) s = fillL hits keys b (fillL hits keys a s) := by
  unfold fillL
  rw [List.foldl_append]
theorem fillL_step (hits : List Hit) (keys : List Int) (l : List Rst) (s : Int × List Hit) {i : Int} (h0 : 0 ≤ i) (h1 : i < l.length) :
    fillL hits keys (l.take (i + 1).toNat) s = fillN hits keys (l.getD i.toNat rest0) (min (l.getD i.toNat rest0).2.1 70).toNat (fillL hits keys (l.take i.toNat) s) := by
  rw [take_step l rest0 h0 h1, fillL_append]
  rfl
theorem u16_key {keys : List Int} (hk : okd UL keys) {j : Nat} (hj : j < keys.length) : 0 ≤ keys.getD j 0 ∧ keys.getD j 0 ≤ 65535 := by
  have h : IntKind.u16.has (keys.getD j 0) := hk.2 _ (PL.getD_mem keys 0 hj)
  unfold IntKind.has at h
  exact h
theorem sat_fill : Sat bs.P 26 fillSp := by
  refine sat_nf (C := Q1) ssQ1 (fun x => fill_nf x.1 x.2.1 x.2.2) fun (⟨p, id, keys⟩ : Piece × Int × List Int) hk hp => ?_
  obtain ⟨hs, ⟨hid0, hid1⟩, hb⟩ : smallP p ∧ (0 ≤ id ∧ id ≤ 1000000) ∧ boundsL p.2.1 := hp
  have hkey : okd UL keys := hk.2.2
  obtain ⟨hits, l, u⟩ := p
  have hh : hits.length ≤ 1000 := hs.1
  have hl : l.length ≤ 1000 := hs.2.1
  have hb : boundsL l := hb
  have hkl : keys.length ≤ 9223372036854775807 := hkey.1
  try dsimp only
  simp only [show (((0 : Int), (0 : Int), ()) : Rst) = rest0 from rfl]
  refine ⟨fun x => 0 ≤ x.1 ∧ x.1 ≤ l.length ∧ (x.2.1, x.2.2) = fillL hits keys (l.take x.1.toNat) (id, []) ∧ x.2.2.length ≤ 70 * x.1.toNat ∧ id ≤ x.2.1 ∧ x.2.1 ≤ id + 70070 * x.1, fun x => (l.length - x.1).toNat, ⟨by omega, by omega, rfl, by simp, Int.le_refl _, by show id ≤ id + 70070 * 0; omega⟩, ?_⟩
  rintro ⟨i, d, out⟩ ⟨h0, h1, h2, h3, h4, h5⟩
  dsimp only at h0 h1 h2 h3 h4 h5 ⊢
  refine ⟨fun hlt => ⟨⟨h0, dt hlt⟩, ?_⟩, fun hlt => ?_⟩
  rotate_left
  · have hlt := df hlt
    unfold fillP
    show out = (fillL hits keys l (id, [])).2
    rw [List.take_of_length_le (by omega)] at h2
    rw [← h2]
  have hlt := dt hlt
  have hx := hb _ (PL.getD_mem l rest0 (show i.toNat < l.length by omega))
  generalize hX : l.getD i.toNat rest0 = X at hx ⊢
  have hstep := fillL_step hits keys l (id, []) h0 hlt
  rw [hX, ← h2] at hstep
  have hfin : ∀ n : Int, 0 ≤ n → n ≤ 70 → (n : Int) = max 0 (min X.2.1 70) → ∀ d' out', (d', out') = fillN hits keys X n.toNat (d, out) → isI64 (i + 1) ∧ (0 ≤ i + 1 ∧ i + 1 ≤ l.length ∧ (d', out') = fillL hits keys (l.take (i + 1).toNat) (id, []) ∧ out'.length ≤ 70 * (i + 1).toNat ∧ id ≤ d' ∧ d' ≤ id + 70070 * (i + 1)) ∧ (l.length - (i + 1)).toNat < (l.length - i).toNat := fun n hn0 hn7 hn d' out' he => by
    obtain ⟨a1, a2, a3⟩ := fillN_len hits keys X (d, out) n.toNat
    rw [← he] at a1 a2 a3
    dsimp only at a1 a2 a3
    have a4 : ((n.toNat : Nat) : Int) * ((hits.length : Int) + 1) ≤ 70 * 1001 := Int.le_trans (Int.mul_le_mul_of_nonneg_right (show ((n.toNat : Nat) : Int) ≤ 70 by omega) (by omega)) (by omega)
    refine ⟨i64s (by omega) (by omega), ⟨by omega, by omega, ?_, by omega, by omega, by omega⟩, by omega⟩
    rw [hstep, he]
    congr 1
    omega
  refine ⟨fun x => 0 ≤ x.1 ∧ x.1 ≤ 70 ∧ x.1 ≤ max 0 X.2.1 ∧ (x.2.1, x.2.2.1) = fillN hits keys X x.1.toNat (d, out) ∧ x.2.2.2 = (X.1, X.2.1), fun x => (70 - x.1).toNat, ⟨by omega, by omega, by omega, rfl, rfl⟩, ?_⟩
  rintro ⟨n, d1, out1, b, c⟩ ⟨g0, g1, g2, g3, g4⟩
  dsimp only at g0 g1 g2 g3 g4 ⊢
  obtain ⟨rfl, rfl⟩ : b = X.1 ∧ c = X.2.1 := by simpa using g4
  refine ⟨fun hc => ⟨fun hc7 => ?_, fun hc7 => ?_⟩, fun hc => ?_⟩
  rotate_left
  · have hc := dt hc; have hc7 := df hc7
    exact hfin n g0 g1 (by omega) d1 out1 g3
  · have hc := df hc
    exact hfin n g0 g1 (by omega) d1 out1 g3
  have hc := dt hc; have hc7 := dt hc7
  obtain ⟨a1, a2, a3⟩ := fillN_len hits keys X (d, out) n.toNat
  rw [← g3] at a1 a2 a3
  dsimp only at a1 a2 a3
  have a4 : ((n.toNat : Nat) : Int) * ((hits.length : Int) + 1) ≤ 70 * 1001 := Int.le_trans (Int.mul_le_mul_of_nonneg_right (show ((n.toNat : Nat) : Int) ≤ 70 by omega) (by omega)) (by omega)
  have hF := free_le hits d1
  refine ⟨fun x => d1 ≤ x.1 ∧ x.1 ≤ freeAt hits d1 ∧ x.2 = (out1, X.1, X.2.1), fun x => (freeAt hits d1 - x.1).toNat, ⟨by omega, by omega, rfl⟩, ?_⟩
  rintro ⟨d2, out2, b2, c2⟩ ⟨f0, f1, f2⟩
  dsimp only at f0 f1 f2 ⊢
  obtain ⟨rfl, rfl, rfl⟩ : out2 = out1 ∧ b2 = X.1 ∧ c2 = X.2.1 := by simpa using f2
  refine ⟨trivial, fun hu => ?_, fun hu => ?_⟩
  · have hne : d2 ≠ freeAt hits d1 := fun e => by rw [e, free_no] at hu; cases hu
    exact ⟨i64s (by omega) (by omega), ⟨by omega, by omega, rfl⟩, by omega⟩
  have hd2 : d2 = freeAt hits d1 := by
    rcases Int.lt_or_le d2 (freeAt hits d1) with h | h
    · rw [free_used hits d1 f0 h] at hu; cases hu
    · omega
  have hroom : ∀ k : Int, roomP Q1 37 (out2.length + [((d2, 1, k, ()) : Hit)].length) := fun k => roomH rfl (by simp only [List.length_cons, List.length_nil]; omega)
  have hrest : ∀ k : Int, k = keyF keys out2.length X.1 → roomP Q1 37 (out2.length + [((d2, 1, k, ()) : Hit)].length) ∧ isI64 (d2 + 1) ∧ isI64 (n + 1) ∧
      (0 ≤ n + 1 ∧ n + 1 ≤ 70 ∧ n + 1 ≤ max 0 X.2.1 ∧ (d2 + 1, out2 ++ [((d2, 1, k, ()) : Hit)]) = fillN hits keys X (n + 1).toNat (d, out) ∧ (X.1, X.2.1) = (X.1, X.2.1)) ∧ (70 - (n + 1)).toNat < (70 - n).toNat := fun k hke => by
    refine ⟨hroom k, i64s (by omega) (by omega), i64s (by omega) (by omega), ⟨by omega, by omega, by omega, ?_, rfl⟩, by omega⟩
    rw [show (n + 1).toNat = n.toNat + 1 by omega]
    unfold fillN
    rw [← g3]
    unfold fillOne
    rw [hd2, hke]
  refine ⟨fun hkc => ?_, fun hkc => ?_⟩
  · have hkc := dt hkc
    have hm1 : 0 ≤ (out2.length : Int).tmod keys.length := Int.tmod_nonneg _ (by omega)
    have hm2 : (out2.length : Int).tmod keys.length < keys.length := Int.tmod_lt_of_pos _ hkc
    have hmod : ((out2.length : Int).tmod keys.length).toNat = out2.length % keys.length := by
      rw [Int.tmod_eq_emod_of_nonneg (by omega), ← Int.natCast_emod, Int.toNat_natCast]
    have hu16 := u16_key hkey (j := out2.length % keys.length) (Nat.mod_lt _ (by omega))
    rw [hmod, wrap_i64 (i64s (by omega) (by omega)), Int.tmod_eq_emod_of_nonneg hu16.1]
    have hx : keys.getD (out2.length % keys.length) 0 % 20 < 20 := Int.emod_lt_of_pos _ (by omega)
    have hx0 : 0 ≤ keys.getD (out2.length % keys.length) 0 % 20 := Int.emod_nonneg _ (by omega)
    exact ⟨by omega, ⟨hm1, hm2⟩, by omega, i64s (by omega) (by omega), hrest _ (by unfold keyF; rw [if_neg (by omega)])⟩
  · have hkc := df hkc
    exact hrest _ (by unfold keyF; rw [if_pos (by omega)])
/-! how many parts must be opened -/
theorem smallP_drop {p : Piece} (h : smallP p) (n : Nat) : smallP (dropP p n) := ⟨h.1, smallL_drop h.2 n⟩
theorem orderP_drop {p : Piece} (h : orderP p) (n : Nat) : orderP (dropP p n) := ⟨h.1, h.2.sublist (List.drop_sublist _ _)⟩
theorem satQ2 : AllSat bs.P tQ2 := ⟨sat_sure, sat_rSure, satQ1⟩
theorem ssQ2 : SpecSound Q2 := mkctx_sound satQ2 trivial
theorem need_yes {p : Piece} {k want : Int} {i : Int} (h0 : 0 ≤ i) (h1 : i < p.2.1.length) (hno : ∀ j, j < i.toNat → ¬ want ≤ sureP (dropP p j) k) (h : want ≤ sureP (dropP p i.toNat) k) : i = needP p k want := by
  unfold needP
  rw [fidx_eq (i := i.toNat) (by omega) (decide_eq_true h) fun j hj => decide_eq_false (hno j hj)]
  omega
theorem need_no {p : Piece} {k want : Int} (hno : ∀ j, j < p.2.1.length → ¬ want ≤ sureP (dropP p j) k) : (p.2.1.length : Int) = needP p k want := by
  unfold needP
  rw [fidx_end fun j hj => decide_eq_false (hno j hj)]
theorem sat_need : Sat bs.P 19 needPSp := by
  refine sat_nf (C := Q2) ssQ2 (fun x => need_nf x.1 x.2.1 x.2.2) fun (⟨p, k, want⟩ : Piece × Int × Int) hk hp => ?_
  obtain ⟨hp, ho⟩ : smallP p ∧ orderP p := hp
  have hm := hp.2.1
  try dsimp only
  simp only [dropE]
  refine ⟨fun x => 0 ≤ x ∧ x ≤ p.2.1.length ∧ ∀ j, j < x.toNat → ¬ want ≤ sureP (dropP p j) k, fun x => (p.2.1.length - x).toNat, ⟨by omega, by omega, by simp⟩, ?_⟩
  rintro i ⟨h0, h1, h2⟩
  dsimp only
  refine ⟨fun hlt => ?_, fun hlt => need_no fun j hj => h2 j (by have := df hlt; omega)⟩
  have hlt := dt hlt
  refine ⟨⟨h0, h1⟩, ⟨smallP_drop hp _, orderP_drop ho _⟩, fun hc => need_yes h0 hlt h2 (dt hc), fun hc => ⟨i64s (by omega) (by omega), ⟨by omega, by omega, fun j hj => ?_⟩, by omega⟩⟩
  by_cases e : j = i.toNat
  · rw [e]; exact df hc
  · exact h2 j (by omega)
theorem sat_rNeed : Sat bs.P 20 needPSp := by
  refine sat_nf (C := Q2) ssQ2 (fun x => rNeed_nf x.1 x.2.1 x.2.2) fun (⟨p, k, want⟩ : Piece × Int × Int) hk hp => ?_
  obtain ⟨hp, ho⟩ : smallP p ∧ orderP p := hp
  have hm := hp.2.1
  try dsimp only
  simp only [dropE]
  refine ⟨fun x => 0 ≤ x ∧ x ≤ p.2.1.length ∧ ∀ j, j < x.toNat → ¬ want ≤ sureP (dropP p j) k, fun x => (p.2.1.length - x).toNat, ⟨by omega, by omega, by simp⟩, ?_⟩
  rintro i ⟨h0, h1, h2⟩
  dsimp only
  refine ⟨fun hlt => ?_, fun hlt => need_no fun j hj => h2 j (by have := df hlt; omega)⟩
  have hlt := dt hlt
  refine ⟨⟨h0, h1⟩, ⟨smallP_drop hp _, orderP_drop ho _⟩, fun hc => need_yes h0 hlt h2 (dt hc), fun hc => ⟨i64s (by omega) (by omega), ⟨by omega, by omega, fun j hj => ?_⟩, by omega⟩⟩
  by_cases e : j = i.toNat
  · rw [e]; exact df hc
  · exact h2 j (by omega)
end Go.Proofs.Ytmimchmdikjilaa
