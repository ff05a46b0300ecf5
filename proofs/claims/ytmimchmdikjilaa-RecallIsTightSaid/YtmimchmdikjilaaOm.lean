import Derived.Test.YtmimchmdikjilaaOm0
import Derived.Test.YtmimchmdikjilaaOl
namespace Go.Proofs.Ytmimchmdikjilaa
open Go.AM Go.PL
set_option linter.unusedVariables false
/-! ### The truth: plain law -/
section
variable {p : Piece} {k id : Int} {keys : List Int} {new T : List Hit}
theorem uniq_all (hV : VP p k) (hF : Filled p id keys new) {x y : Hit} (hx : x ∈ p.1 ++ new) (hy : y ∈ p.1 ++ new) (e : x.1 = y.1) : x = y := by
  rcases List.mem_append.1 hx with h1 | h1 <;> rcases List.mem_append.1 hy with h2 | h2
  · exact hV.v.one h1 h2 e
  · exact absurd e ((hasH_no _ _).1 (hF.ids y h2) x h1)
  · exact absurd e.symm ((hasH_no _ _).1 (hF.ids x h1) y h2)
  · obtain ⟨i, hi, rfl⟩ := List.getElem_of_mem h1
    obtain ⟨j, hj, rfl⟩ := List.getElem_of_mem h2
    have hp := List.pairwise_iff_getElem.1 hF.asc
    rcases Nat.lt_trichotomy i j with h3 | h3 | h3
    · have := hp i j hi hj h3; omega
    · subst h3; rfl
    · have := hp j i hj hi h3; omega
theorem new_nodup (hF : Filled p id keys new) : new.Nodup := hF.asc.imp fun {a b} h e => by rw [e] at h; omega
theorem lt_before (hV : VP p k) {i : Nat} (hi : i < p.1.length) {t : Hit} (ht : t ∈ p.1) (h : ltH t (p.1.getD i hit0) = true) : t ∈ p.1.take i := by
  obtain ⟨j, hj, rfl⟩ := List.getElem_of_mem ht
  have hji : j < i := by
    rcases Nat.lt_or_ge j i with h1 | h1
    · exact h1
    · exfalso
      rw [getE _ hi] at h
      rcases Nat.lt_or_ge i j with h2 | h2
      · have := List.pairwise_iff_getElem.1 hV.v.sorted i j hi hj h2
        rw [ltAs this] at h; cases h
      · have : i = j := by omega
        subst this
        rw [ltIrr] at h; cases h
  rw [List.mem_iff_getElem]
  exact ⟨j, by rw [List.length_take]; omega, by rw [List.getElem_take]⟩
theorem sure_in (hV : VP p k) (hF : Filled p id keys new) (hT : IsOf (p.1 ++ new) k.toNat T) {i : Nat} (hi : i < p.1.length) (hs : sureAt p k i = true) : p.1.getD i hit0 ∈ T := by
  have hm := PL.getD_mem p.1 hit0 hi
  rcases hT.all _ (List.mem_append_left _ hm) with ⟨t, ht, e⟩ | ⟨hl, hlt⟩
  · have := uniq_all hV hF (hT.rep t ht).1 (List.mem_append_left _ hm) e
    rwa [← this]
  · exfalso
    have hs := sureAt_iff.1 hs
    have hk := hV.v.k1
    have := nodup_len (U := p.1.take i ++ new.filter fun h => decide (h.2.2.1 ≤ (p.1.getD i hit0).2.2.1)) (sorted_nodup hT.sorted) fun t ht => by
      have h1 := hlt t ht
      rcases List.mem_append.1 (hT.rep t ht).1 with h2 | h2
      · exact List.mem_append_left _ (lt_before hV hi h2 h1)
      · exact List.mem_append_right _ (List.mem_filter.2 ⟨h2, decide_eq_true (key_le' h1)⟩)
    have hc := hF.cnt (p.1.getD i hit0).2.2.1
    unfold cntK at hc
    rw [List.length_append, List.length_take] at this
    omega
theorem common_sure (hV : VP p k) (hs : smallP p) (hF : Filled p id keys new) (hT : IsOf (p.1 ++ new) k.toNat T) : sureP p k ≤ commonH p.1 T := by
  have h1 := sureP_le p k
  have hall : ∀ x ∈ p.1.take (sureP p k).toNat, hasH T x.1 = true := fun x hx => by
    obtain ⟨j, hj, rfl⟩ := List.getElem_of_mem hx
    rw [List.length_take] at hj
    rw [List.getElem_take]
    have := sure_in hV hF hT (i := j) (by omega) ((sure_lt hs hV.order (by omega)).1 (by omega))
    rw [getE _ (by omega)] at this
    exact (hasH_iff _ _).2 ⟨_, this, rfl⟩
  unfold commonH
  have h2 : (p.1.take (sureP p k).toNat).length ≤ (p.1.filter fun x => hasH T x.1).length := by
    have h3 : (p.1.take (sureP p k).toNat).filter (fun x => hasH T x.1) = p.1.take (sureP p k).toNat := List.filter_eq_self.2 hall
    rw [← h3]
    exact ((List.take_sublist _ p.1).filter _).length_le
  rw [List.length_take] at h2
  omega
theorem last_key (hV : VP p k) {t : Hit} (ht : t ∈ p.1) : t.2.2.1 ≤ (p.1.getD (p.1.length - 1) hit0).2.2.1 := by
  obtain ⟨i, hi, rfl⟩ := List.getElem_of_mem ht
  have := key_mono hV.order (show i ≤ p.1.length - 1 by omega) (show p.1.length - 1 < p.1.length by omega)
  rwa [getE p.1 hi] at this
theorem least_le (hV : VP p k) {x : Rst} (hx : x ∈ p.2.1) : leastP p ≤ x.1 := by
  obtain ⟨j, hj, rfl⟩ := List.getElem_of_mem hx
  unfold leastP
  rw [if_neg (by omega), getR _ (by omega)]
  rcases Nat.eq_zero_or_pos j with h | h
  · subst h; exact Int.le_refl _
  · have := (ltR_no _ _).1 (List.pairwise_iff_getElem.1 hV.asc 0 j (by omega) hj h)
    omega
theorem exact_same (hV : VP p k) (hF : Filled p id keys new) (hT : IsOf (p.1 ++ new) k.toNat T) (he : exactP p k = true) : T = p.1 := by
  have hl := hV.v.len
  have hk := hV.v.k1
  refine hT.unique ⟨hV.v.sorted, fun t ht => ⟨List.mem_append_left _ ht, fun x hx e => ?_⟩, by omega, fun x hx => ?_⟩
  · rw [uniq_all hV hF hx (List.mem_append_left _ ht) e]; exact ltIrr t
  · rcases List.mem_append.1 hx with h1 | h1
    · exact .inl ⟨x, h1, rfl⟩
    · obtain ⟨y, hy, hyx⟩ := hF.key x h1
      unfold exactP at he
      split at he
      · have he := dt he
        have : p.2.1 = [] := List.eq_nil_of_length_eq_zero he
        rw [this] at hy; simp at hy
      · have he := dt he
        refine .inr ⟨by omega, fun t ht => ?_⟩
        have h2 := last_key hV ht
        have h3 := least_le hV hy
        rw [ltH_eq]
        exact .inl (by omega)
end
theorem wrap_id {id : Int} (h : IntKind.u16.has id) : IntKind.i64.wrap id = id ∧ 0 ≤ id ∧ id ≤ 65535 := by
  unfold IntKind.has at h
  have h : 0 ≤ id ∧ id ≤ 65535 := h
  exact ⟨wrap_i64 (i64s (by omega) (by omega)), h⟩
theorem sat_L6 : Sat bs.P 8 (lawSp [PC, I, UL, U16]) := by
  refine sat_nf (C := G1) ssG1 (fun x => l6_nf x.1 x.2.1 x.2.2.1 x.2.2.2) fun (⟨p, k, keys, id⟩ : Piece × Int × List Int × Int) hk _ => ?_
  obtain ⟨hw, hi0, hi1⟩ := wrap_id (show IntKind.u16.has id from hk.2.2.2)
  try dsimp only
  rw [hw]
  simp only [hitEta, show (((0 : Int), (0 : Int), (0 : Int), ()) : Hit) = hit0 from rfl]
  refine ⟨trivial, fun _ => ⟨trivial, trivial⟩, fun hf => ⟨trivial, fun _ => ⟨trivial, trivial⟩, fun hv => ?_⟩⟩
  have hV := vp_of (nf hv)
  have hFe := few_of (nf hf)
  have hs := hV.small (by omega)
  have ho := hV.order
  have hb := hV.bounds
  have hk1 := hV.v.k1
  have hF := filled hV (1 + id) keys
  have hlen := fillP_len hV (1 + id) keys hFe.2
  generalize fillP p (1 + id) keys = new at hF hlen ⊢
  have r1 : roomP G1 37 p.1.length := roomH rfl (by omega)
  have r2 : roomP G1 37 (p.1.length + new.length) := roomH rfl (by omega)
  have w1 : isI64 (1 + id) := i64s (by omega) (by omega)
  have w2 : 0 ≤ 1 + id := by omega
  have w3 : 1 + id ≤ 1000000 := by omega
  have w4 : (p.1 ++ new).length ≤ 100000 := by rw [List.length_append]; omega
  have w5 : 0 ≤ k := by omega
  simp only [r1, r2, w1, w2, w3, w4, w5, hs, ho, hb, true_and, and_self]
  have hT := isOf_ofH (p.1 ++ new) k
  generalize ofH (p.1 ++ new) k = T at hT ⊢
  refine ⟨fun x => 0 ≤ x ∧ x ≤ p.1.length, fun x => (p.1.length - x).toNat, ⟨by omega, by omega⟩, ?_⟩
  rintro i ⟨h0, h1⟩
  dsimp only
  refine ⟨fun hlt => ?_, fun hlt => ⟨fun _ => ⟨by omega, fun hc => ⟨hk1, fun _ => trivial, fun he => decide_eq_true (exact_same hV hF hT (nf he))⟩, fun hc => absurd (common_sure hV hs hF hT) (df hc)⟩, fun h => by simp at h⟩⟩
  have hlt := dt hlt
  have hstep : isI64 (i + 1) ∧ (0 ≤ i + 1 ∧ i + 1 ≤ p.1.length) ∧ (p.1.length - (i + 1)).toNat < (p.1.length - i).toNat := ⟨i64s (by omega) (by omega), ⟨by omega, by omega⟩, by omega⟩
  refine ⟨⟨h0, hlt⟩, fun hc => ⟨fun ha => ?_, fun _ => hstep⟩, fun _ => hstep⟩
  have := sure_in hV hF hT (i := i.toNat) (by omega) ((sure_lt hs ho (by omega)).1 (by have := dt hc; omega))
  have ha := nt ha
  unfold amongH at ha
  exact absurd this (df ha)
end Go.Proofs.Ytmimchmdikjilaa
