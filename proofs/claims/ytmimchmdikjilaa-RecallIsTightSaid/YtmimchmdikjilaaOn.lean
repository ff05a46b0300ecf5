import Derived.Test.YtmimchmdikjilaaOm
namespace Go.Proofs.Ytmimchmdikjilaa
open Go.AM Go.PL
set_option linter.unusedVariables false
/-! ### It is tight: plain law -/
theorem free_at {hits : List Hit} (h : ∀ x ∈ hits, 10000 < (x : Hit).1) {d : Int} (hd : d ≤ 10000) : freeAt hits d = d := by
  have h1 := free_le hits d
  rcases Int.lt_or_le d (freeAt hits d) with h2 | h2
  · obtain ⟨x, hx, e⟩ := (hasH_iff _ _).1 (free_used hits d (Int.le_refl _) h2)
    have := h x hx
    omega
  · omega
theorem fillN_at {hits : List Hit} (h : ∀ x ∈ hits, 10000 < (x : Hit).1) (keys : List Int) (x : Rst) (s : Int × List Hit) : ∀ n : Nat, s.1 + n ≤ 10001 → (fillN hits keys x n s).1 = s.1 + n
  | 0, _ => by simp [fillN]
  | n + 1, hn => by
    have ih := fillN_at h keys x s n (by omega)
    show freeAt hits (fillN hits keys x n s).1 + 1 = _
    rw [ih, free_at h (by omega)]
    omega
theorem fillL_at {hits : List Hit} (h : ∀ x ∈ hits, 10000 < (x : Hit).1) (keys : List Int) : ∀ (l : List Rst) (s : Int × List Hit), s.1 + 70 * l.length ≤ 10001 → (fillL hits keys l s).1 ≤ s.1 + 70 * l.length
  | [], s, _ => by simp [fillL]
  | x :: l, s, hn => by
    rw [List.length_cons] at hn
    have e : fillL hits keys (x :: l) s = fillL hits keys l (fillN hits keys x (min x.2.1 70).toNat s) := rfl
    have h1 := fillN_at h keys x s (min x.2.1 70).toNat (by omega)
    have := fillL_at h keys l (fillN hits keys x (min x.2.1 70).toNat s) (by omega)
    rw [e, List.length_cons]
    omega
section
variable {p : Piece} {k : Int} {new T : List Hit}
theorem tight_lt {h x : Hit} (hk : x.2.2.1 ≤ h.2.2.1) (hid : x.1 < h.1) : ltH x h = true := by
  rw [ltH_eq]
  omega
theorem tight_out (hV : VP p k) (hF : Filled p 1 [] new) (hid : ∀ x ∈ new, ∀ h ∈ p.1, (x : Hit).1 < (h : Hit).1) (hT : IsOf (p.1 ++ new) k.toNat T) {i : Nat} (hi : i < p.1.length) (hs : sureAt p k i = false) : p.1.getD i hit0 ∉ T := by
  intro hm
  have hmp := PL.getD_mem p.1 hit0 hi
  have hs : ¬ ((i : Int) + 1 + underR p.2.1 (p.1.getD i hit0).2.2.1 ≤ k) := fun q => by rw [sureAt_iff.2 q] at hs; cases hs
  have hk1 := hV.v.k1
  have hk2 := hV.v.k2
  have hlt : ∀ x ∈ p.1.take i ++ new.filter (fun h => decide (h.2.2.1 ≤ (p.1.getD i hit0).2.2.1)), x ∈ p.1 ++ new ∧ ltH x (p.1.getD i hit0) = true := fun x hx => by
    rcases List.mem_append.1 hx with h1 | h1
    · refine ⟨List.mem_append_left _ (List.mem_of_mem_take h1), ?_⟩
      obtain ⟨j, hj, rfl⟩ := List.getElem_of_mem h1
      rw [List.length_take] at hj
      rw [List.getElem_take, getE _ hi]
      exact List.pairwise_iff_getElem.1 hV.v.sorted j i (by omega) hi (by omega)
    · obtain ⟨h2, h3⟩ := List.mem_filter.1 h1
      exact ⟨List.mem_append_right _ h2, tight_lt (dt h3) (hid x h2 _ hmp)⟩
  have hnd : (p.1.getD i hit0 :: (p.1.take i ++ new.filter (fun h => decide (h.2.2.1 ≤ (p.1.getD i hit0).2.2.1)))).Nodup := by
    refine List.nodup_cons.2 ⟨fun h => ?_, List.nodup_append.2 ⟨(sorted_nodup hV.v.sorted).sublist (List.take_sublist _ _), (new_nodup hF).sublist List.filter_sublist, fun a ha b hb e => ?_⟩⟩
    · have := (hlt _ h).2
      rw [ltIrr] at this; cases this
    · subst e
      exact (hasH_no _ _).1 (hF.ids a (List.mem_filter.1 hb).1) a (List.mem_of_mem_take ha) rfl
  have := nodup_len (U := T) hnd fun x hx => by
    rcases List.mem_cons.1 hx with e | h1
    · rw [e]; exact hm
    · obtain ⟨h2, h3⟩ := hlt x h1
      rcases hT.all x h2 with ⟨t, ht, e⟩ | ⟨_, h4⟩
      · rwa [← uniq_all hV hF (hT.rep t ht).1 h2 e]
      · have := h4 _ hm
        rw [ltAs h3] at this; cases this
  have hl := hT.len
  rw [List.length_cons, List.length_append, List.length_take] at this
  have hc := hF.cntE rfl (p.1.getD i hit0).2.2.1
  unfold cntK at hc
  omega
theorem tight_same (hV : VP p k) (hF : Filled p 1 [] new) (hid : ∀ x ∈ new, ∀ h ∈ p.1, (x : Hit).1 < (h : Hit).1) (hT : IsOf (p.1 ++ new) k.toNat T) (he : exactP p k = false) : T ≠ p.1 := by
  intro e
  have hk1 := hV.v.k1
  have hl := hV.v.len
  have hno : ∀ x ∈ new, p.1.length = k.toNat ∧ ∀ t ∈ p.1, ltH t x = true := fun x hx => by
    rcases hT.all x (List.mem_append_right _ hx) with ⟨t, ht, e2⟩ | h
    · rw [e] at ht
      exact absurd e2 ((hasH_no _ _).1 (hF.ids x hx) t ht)
    · rw [e] at h; exact h
  unfold exactP at he
  split at he
  · rename_i hlt
    have he := df he
    obtain ⟨x, hx, _⟩ := hF.one rfl _ (PL.getD_mem p.2.1 rest0 (show 0 < p.2.1.length by omega))
    have := (hno x hx).1
    omega
  · rename_i hge
    have he := df he
    have hm := PL.getD_mem p.1 hit0 (show p.1.length - 1 < p.1.length by omega)
    have hkey := (hV.v.key _ hm).2
    by_cases h0 : p.2.1.length = 0
    · unfold leastP at he
      rw [if_pos h0] at he
      omega
    · unfold leastP at he
      rw [if_neg h0] at he
      obtain ⟨x, hx, e2⟩ := hF.one rfl _ (PL.getD_mem p.2.1 rest0 (show 0 < p.2.1.length by omega))
      have h1 := (hno x hx).2 _ hm
      rw [ltAs (tight_lt (by omega) (hid x hx _ hm))] at h1
      cases h1
end
theorem l3_nf (p : Piece) (k : Int) : fnwp G1 6 5 (lawSp [PC, I]) (p, k) = (True ∧ ((!fewP p) = true → True ∧ true = true) ∧ ((!fewP p) = false → True ∧ ((!validP p k) = true →
  True ∧ true = true) ∧ ((!validP p k) = false → ∃ (I : Int → Prop), ∃ (μ : Int → Nat), I (0 : Int) ∧ ∀ (x : Int), I x → (decide (x < (↑p.fst.length : Int)) = true → ((0 : Int) ≤ x
  ∧ x < (↑p.fst.length : Int)) ∧ (decide ((p.fst.getD x.toNat ((0 : Int), (0 : Int), (0 : Int), ())).fst ≤ (10000 : Int)) = true → True ∧ true = true) ∧ (decide ((p.fst.getD
  x.toNat ((0 : Int), (0 : Int), (0 : Int), ())).fst ≤ (10000 : Int)) = false → isI64 (x + (1 : Int)) ∧ I (x + (1 : Int)) ∧ μ (x + (1 : Int)) < μ x)) ∧ (decide (x < (↑p.fst.length
  : Int)) = false → roomP G1 (37 : Nat) p.fst.length ∧ (smallP p ∧ ((0 : Int) ≤ (1 : Int) ∧ (1 : Int) ≤ (1000000 : Int)) ∧ boundsL p.snd.fst) ∧ roomP G1 (37 : Nat) (p.fst.length +
  (fillP p (1 : Int) []).length) ∧ ((p.fst ++ fillP p (1 : Int) []).length ≤ (100000 : Nat) ∧ (0 : Int) ≤ k) ∧ ∃ (I : Int → Prop), ∃ (μ : Int → Nat), I (0 : Int) ∧ ∀ (x : Int), I x
  → (decide (x < (↑p.fst.length : Int)) = true → ((0 : Int) ≤ x ∧ x < (↑p.fst.length : Int)) ∧ (smallP p ∧ orderP p) ∧ (decide (sureP p k ≤ x) = true → True ∧ (amongH ((p.fst.getD
  x.toNat ((0 : Int), (0 : Int), (0 : Int), ())).fst, (p.fst.getD x.toNat ((0 : Int), (0 : Int), (0 : Int), ())).snd.fst, (p.fst.getD x.toNat ((0 : Int), (0 : Int), (0 : Int),
  ())).snd.snd.fst, ()) (ofH (p.fst ++ fillP p (1 : Int) []) k) = true → false = true) ∧ (amongH ((p.fst.getD x.toNat ((0 : Int), (0 : Int), (0 : Int), ())).fst, (p.fst.getD
  x.toNat ((0 : Int), (0 : Int), (0 : Int), ())).snd.fst, (p.fst.getD x.toNat ((0 : Int), (0 : Int), (0 : Int), ())).snd.snd.fst, ()) (ofH (p.fst ++ fillP p (1 : Int) []) k) =
  false → isI64 (x + (1 : Int)) ∧ I (x + (1 : Int)) ∧ μ (x + (1 : Int)) < μ x)) ∧ (decide (sureP p k ≤ x) = false → isI64 (x + (1 : Int)) ∧ I (x + (1 : Int)) ∧ μ (x + (1 : Int)) <
  μ x)) ∧ (decide (x < (↑p.fst.length : Int)) = false → True ∧ (true = true → (1 : Int) ≤ k ∧ (exactP p k = true → true = true) ∧ (exactP p k = false → True ∧ (!decide (ofH (p.fst
  ++ fillP p (1 : Int) []) k = p.fst)) = true)) ∧ (true = false → false = true)))))) := by kernel_rfl
theorem sat_L3 : Sat bs.P 5 (lawSp [PC, I]) := by
  refine sat_nf (C := G1) ssG1 (fun x => l3_nf x.1 x.2) fun (⟨p, k⟩ : Piece × Int) hk _ => ?_
  try dsimp only
  simp only [hitEta, show (((0 : Int), (0 : Int), (0 : Int), ()) : Hit) = hit0 from rfl]
  refine ⟨trivial, fun _ => ⟨trivial, trivial⟩, fun hf => ⟨trivial, fun _ => ⟨trivial, trivial⟩, fun hv => ?_⟩⟩
  have hV := vp_of (nf hv)
  have hFe := few_of (nf hf)
  have hs := hV.small (by omega)
  have ho := hV.order
  have hb := hV.bounds
  have hk1 := hV.v.k1
  refine ⟨fun x => 0 ≤ x ∧ x ≤ p.1.length ∧ ∀ j, j < x.toNat → 10000 < (p.1.getD j hit0).1, fun x => (p.1.length - x).toNat, ⟨by omega, by omega, by simp⟩, ?_⟩
  rintro i ⟨h0, h1, h2⟩
  dsimp only
  refine ⟨fun hlt => ⟨⟨h0, dt hlt⟩, fun _ => ⟨trivial, trivial⟩, fun hc => ⟨i64s (by have := dt hlt; omega) (by have := dt hlt; omega), ⟨by omega, by have := dt hlt; omega, fun j hj => ?_⟩, by have := dt hlt; omega⟩⟩, fun hlt => ?_⟩
  · by_cases e : j = i.toNat
    · rw [e]; have := df hc; omega
    · exact h2 j (by omega)
  have hlt := df hlt
  have hids : ∀ h ∈ p.1, 10000 < (h : Hit).1 := fun h hh => by
    obtain ⟨j, hj, rfl⟩ := List.getElem_of_mem hh
    have := h2 j (by omega)
    rwa [getE _ hj] at this
  have hF := filled hV 1 []
  have hlen := fillP_len hV 1 [] hFe.2
  have hat := fillL_at hids [] p.2.1 (1, []) (by show (1 : Int) + 70 * p.2.1.length ≤ 10001; omega)
  have hid : ∀ x ∈ fillP p 1 [], ∀ h ∈ p.1, (x : Hit).1 < (h : Hit).1 := fun x hx h hh => by
    have a1 := hF.hi x hx
    have a2 := hids h hh
    have a3 : (1 : Int) + 70 * (p.2.1.length : Int) ≤ 10000 := by omega
    have a4 : ((1, []) : Int × List Hit).1 = 1 := rfl
    omega
  generalize fillP p 1 [] = new at hF hlen hid ⊢
  have r1 : roomP G1 37 p.1.length := roomH rfl (by omega)
  have r2 : roomP G1 37 (p.1.length + new.length) := roomH rfl (by omega)
  have w4 : (p.1 ++ new).length ≤ 100000 := by rw [List.length_append]; omega
  have hT := isOf_ofH (p.1 ++ new) k
  generalize ofH (p.1 ++ new) k = T at hT ⊢
  refine ⟨r1, ⟨hs, ⟨by omega, by omega⟩, hb⟩, r2, ⟨w4, by omega⟩, fun x => 0 ≤ x ∧ x ≤ p.1.length, fun x => (p.1.length - x).toNat, ⟨by omega, by omega⟩, ?_⟩
  rintro j ⟨g0, g1⟩
  dsimp only
  refine ⟨fun hj => ?_, fun hj => ⟨trivial, fun _ => ⟨hk1, fun _ => trivial, fun he => ⟨trivial, ?_⟩⟩, fun h => by simp at h⟩⟩
  · have hj := dt hj
    have hstep : isI64 (j + 1) ∧ (0 ≤ j + 1 ∧ j + 1 ≤ p.1.length) ∧ (p.1.length - (j + 1)).toNat < (p.1.length - j).toNat := ⟨i64s (by omega) (by omega), ⟨by omega, by omega⟩, by omega⟩
    refine ⟨⟨g0, hj⟩, ⟨hs, ho⟩, fun hc => ⟨trivial, fun ha => ?_, fun _ => hstep⟩, fun _ => hstep⟩
    have hno : sureAt p k j.toNat = false := eq_no fun q => by
      have := (sure_lt hs ho (show j.toNat < p.1.length by omega)).2 q
      have := dt hc
      omega
    unfold amongH at ha
    exact absurd (dt ha) (tight_out hV hF hid hT (by omega) hno)
  · rw [decide_eq_false (tight_same hV hF hid hT he)]
    rfl
end Go.Proofs.Ytmimchmdikjilaa
