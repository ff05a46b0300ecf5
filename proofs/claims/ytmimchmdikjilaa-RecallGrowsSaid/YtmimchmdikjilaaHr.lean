import Derived.Test.YtmimchmdikjilaaHk
namespace Go.Proofs.Ytmimchmdikjilaa
open Go.AM Go.PL
set_option linter.unusedVariables false
/-! ### Plain facts for the laws -/
theorem same_self (a : List Hit) : sameH a a = true := decide_eq_true rfl
theorem same_eq {a b : List Hit} (h : sameH a b = true) : a = b := of_decide_eq_true h
theorem same_of {a b : List Hit} (h : a = b) : sameH a b = true := decide_eq_true h
theorem same_no {a b : List Hit} (h : sameH a b = false) : a ≠ b := of_decide_eq_false h
theorem chain_pair {l : List Hit} (h : ∀ i, 0 < i → i < l.length → ltH (l.getD (i - 1) hit0) (l.getD i hit0) = true) : l.Pairwise (fun a b => ltH a b = true) := by
  rw [List.pairwise_iff_getElem]
  intro i j hi hj hij
  have key : ∀ d, ∀ j (hj : j < l.length), j = i + 1 + d → ltH l[i] l[j] = true := by
    intro d
    induction d with
    | zero =>
      intro j hj e
      have := h j (by omega) hj
      rw [getE l hj, getE l (by omega)] at this
      have e2 : j - 1 = i := by omega
      simpa only [e2] using this
    | succ d ih =>
      intro j hj e
      have h1 := ih (j - 1) (by omega) (by omega)
      have h2 := h j (by omega) hj
      rw [getE l hj, getE l (by omega)] at h2
      exact ltTr h1 h2
  exact key (j - i - 1) j hj (by omega)
structure IsV (l : List Hit) (k : Int) : Prop where
  k1 : 1 ≤ k
  k2 : k ≤ 64
  len : (l.length : Int) ≤ k
  right : ∀ h ∈ l, rightH h = true
  sorted : l.Pairwise (fun a b => ltH a b = true)
  ids : (l.map Prod.fst).Nodup
theorem isV_of {l : List Hit} {k : Int} (h : validH l k = true) : IsV l k := by
  unfold validH at h
  simp only [Bool.and_eq_true, decide_eq_true_eq] at h
  obtain ⟨⟨h1, h2, h3⟩, h4⟩ := h
  have h4 := upto_iff.1 h4
  have hs : ∀ i, i < l.length → stepV l i = true := h4
  refine ⟨h1, h2, h3, fun x hx => ?_, chain_pair fun i h0 hi => ?_, ?_⟩
  · obtain ⟨i, hi, rfl⟩ := List.getElem_of_mem hx
    have := hs i hi
    unfold stepV at this
    rw [getE l hi] at this
    simp only [Bool.and_eq_true] at this
    exact this.1
  · have := hs i hi
    unfold stepV at this
    simp only [Bool.and_eq_true, Bool.or_eq_true, decide_eq_true_eq] at this
    exact this.2.1.resolve_left (by omega)
  · rw [List.Nodup, List.pairwise_map, List.pairwise_iff_getElem]
    intro i j hi hj hij e
    have := hs j hj
    unfold stepV at this
    simp only [Bool.and_eq_true, Bool.not_eq_true'] at this
    rw [getE l hj] at this
    refine (hasH_no _ _).1 this.2.2 l[i] ?_ e
    rw [List.mem_iff_getElem]
    exact ⟨i, by rw [List.length_take]; omega, by rw [List.getElem_take]⟩
theorem valid_of {l : List Hit} {k : Int} (h : IsV l k) : validH l k = true := by
  unfold validH
  rw [decide_eq_true h.k1, decide_eq_true h.k2, decide_eq_true h.len]
  simp only [Bool.and_self, Bool.true_and]
  refine upto_iff.2 fun i hi => ?_
  have hn := h.ids
  rw [List.Nodup, List.pairwise_map, List.pairwise_iff_getElem] at hn
  have hp := List.pairwise_iff_getElem.1 h.sorted
  rw [h.right _ (PL.getD_mem l hit0 hi), Bool.true_and, Bool.and_eq_true, Bool.or_eq_true, decide_eq_true_eq, Bool.not_eq_true']
  refine ⟨?_, (hasH_no _ _).2 fun x hx e => ?_⟩
  · by_cases h0 : i = 0
    · exact .inl h0
    · refine .inr ?_
      rw [getE l hi, getE l (by omega)]
      exact hp (i - 1) i (by omega) hi (by omega)
  · obtain ⟨j, hj, rfl⟩ := List.getElem_of_mem hx
    rw [List.getElem_take, getE l hi] at e
    rw [List.length_take] at hj
    exact hn j i (by omega) hi (by omega) e
theorem IsV.one {l : List Hit} {k : Int} (h : IsV l k) {x y : Hit} (hx : x ∈ l) (hy : y ∈ l) (e : x.1 = y.1) : x = y := by
  obtain ⟨i, hi, rfl⟩ := List.getElem_of_mem hx
  obtain ⟨j, hj, rfl⟩ := List.getElem_of_mem hy
  have hn := h.ids
  rw [List.Nodup, List.pairwise_map, List.pairwise_iff_getElem] at hn
  rcases Nat.lt_trichotomy i j with h1 | h1 | h1
  · exact absurd e (hn i j hi hj h1)
  · subst h1; rfl
  · exact absurd e.symm (hn j i hj hi h1)
theorem IsV.key {l : List Hit} {k : Int} (h : IsV l k) : ∀ x ∈ l, 0 ≤ (x : Hit).2.2.1 ∧ x.2.2.1 ≤ 134217728 := fun x hx => by
  have := h.right x hx
  unfold rightH at this
  simp only [Bool.and_eq_true, decide_eq_true_eq] at this
  exact this.2.2
theorem IsV.isOf {l m : List Hit} {k : Int} (h : IsV l k) (hm : ∀ x, x ∈ m ↔ x ∈ l) : IsOf m k.toNat l :=
  ⟨h.sorted, fun t ht => ⟨(hm t).2 ht, fun x hx e => by rw [h.one ((hm x).1 hx) ht e]; exact ltIrr t⟩, by have := h.len; omega, fun x hx => .inl ⟨x, (hm x).1 hx, rfl⟩⟩
theorem IsOf.perm {l m : List Hit} {k : Nat} {T : List Hit} (h : IsOf l k T) (hm : ∀ x, x ∈ l ↔ x ∈ m) : IsOf m k T :=
  ⟨h.sorted, fun t ht => ⟨(hm t).1 (h.rep t ht).1, fun x hx => (h.rep t ht).2 x ((hm x).2 hx)⟩, h.len, fun x hx => h.all x ((hm x).2 hx)⟩
theorem IsOf.one {l : List Hit} {k : Nat} {T : List Hit} (h : IsOf l k T) {x y : Hit} (hx : x ∈ T) (hy : y ∈ T) (e : x.1 = y.1) : x = y :=
  ltTot ((h.rep y hy).2 x (h.rep x hx).1 e) ((h.rep x hx).2 y (h.rep y hy).1 e.symm)
theorem ids_of {T : List Hit} (hs : T.Pairwise (fun a b => ltH a b = true)) (h : ∀ x ∈ T, ∀ y ∈ T, x.1 = y.1 → x = y) : (T.map Prod.fst).Nodup := by
  rw [List.Nodup, List.pairwise_map]
  have := hs.and (List.pairwise_of_forall_mem_list (r := fun a b => a ∈ T ∧ b ∈ T) fun a ha b hb => ⟨ha, hb⟩)
  exact this.imp fun {a b} ⟨h1, h2, h3⟩ e => by
    rw [h a h2 b h3 e, ltIrr] at h1
    cases h1
theorem IsOf.valid {l : List Hit} {k : Int} {T : List Hit} (h : IsOf l k.toNat T) (h1 : 1 ≤ k) (h2 : k ≤ 64) (hr : ∀ x ∈ l, rightH x = true) : IsV T k :=
  ⟨h1, h2, by have := h.len; omega, fun x hx => hr x (h.rep x hx).1, h.sorted, ids_of h.sorted fun x hx y hy e => h.one hx hy e⟩
theorem valid_ofH {l : List Hit} {k : Int} (h1 : 1 ≤ k) (h2 : k ≤ 64) (hr : ∀ x ∈ l, rightH x = true) : IsV (ofH l k) k := (isOf_ofH l k).valid h1 h2 hr
theorem ofH_congr {l m : List Hit} (k : Int) (hm : ∀ x, x ∈ l ↔ x ∈ m) : ofH l k = ofH m k := ofH_is ((isOf_ofH l k).perm hm)
theorem ofH_valid {l m : List Hit} {k : Int} (h : IsV l k) (hm : ∀ x, x ∈ m ↔ x ∈ l) : ofH m k = l := (ofH_is (h.isOf hm)).symm
theorem allRight_iff {l : List Hit} (h : allRightH l = true) : ∀ x ∈ l, rightH x = true := fun x hx => by
  obtain ⟨i, hi, rfl⟩ := List.getElem_of_mem hx
  have := upto_iff.1 h i hi
  rwa [getE l hi] at this
theorem kH_iff {k : Int} (h : kH k = true) : 1 ≤ k ∧ k ≤ 64 := by
  unfold kH at h
  simpa using h
theorem isOf_len {l : List Hit} {k : Nat} {T : List Hit} (h : IsOf l k T) : T.length ≤ l.length := nodup_len (sorted_nodup h.sorted) fun x hx => (h.rep x hx).1
theorem common_sym {a b : List Hit} {k : Int} (ha : IsV a k) (hb : IsV b k) : commonH a b = commonH b a := by
  have key : ∀ {a b : List Hit}, IsV a k → IsV b k → (a.filter fun x => hasH b x.1).length ≤ (b.filter fun x => hasH a x.1).length := by
    intro a b ha hb
    have hn : ((a.filter fun x => hasH b x.1).map Prod.fst).Nodup := ha.ids.sublist ((List.filter_sublist).map _)
    have := nodup_len (U := (b.filter fun x => hasH a x.1).map Prod.fst) hn fun id hid => by
      obtain ⟨x, hx, rfl⟩ := List.mem_map.1 hid
      obtain ⟨hx1, hx2⟩ := List.mem_filter.1 hx
      obtain ⟨y, hy, e⟩ := (hasH_iff _ _).1 hx2
      exact List.mem_map.2 ⟨y, List.mem_filter.2 ⟨hy, (hasH_iff _ _).2 ⟨x, hx1, e.symm⟩⟩, e⟩
    simpa using this
  have h1 := key ha hb
  have h2 := key hb ha
  unfold commonH
  omega
theorem common_two (a b : List Hit) : ∀ (T : List Hit), (∀ t ∈ T, t ∈ a ∨ t ∈ b) → (T.length : Int) ≤ commonH T a + commonH T b
  | [], _ => by simp [commonH]
  | t :: T, h => by
    have ih := common_two a b T fun x hx => h x (List.mem_cons_of_mem _ hx)
    unfold commonH at *
    rw [List.filter_cons, List.filter_cons]
    have ht : hasH a t.1 = true ∨ hasH b t.1 = true := (h t List.mem_cons_self).imp (fun hm => (hasH_iff _ _).2 ⟨t, hm, rfl⟩) (fun hm => (hasH_iff _ _).2 ⟨t, hm, rfl⟩)
    rw [List.length_cons]
    split <;> split <;> (try simp only [List.length_cons]) <;> first | omega | (rename_i h1 h2; rcases ht with h3 | h3 <;> simp [h3] at h1 h2)
end Go.Proofs.Ytmimchmdikjilaa
