import Derived.Test.YtmimchmdikjilaaHb
namespace Go.Proofs.Ytmimchmdikjilaa
open Go.AM Go.PL Go.Sort
set_option linter.unusedVariables false
/-! ### The least hits: plain facts -/
theorem ltIrr (x : Hit) : ltH x x = false := swoH.irrefl x
theorem ltTr {x y z : Hit} (h : ltH x y = true) (h' : ltH y z = true) : ltH x z = true := swoH.trans x y z h h'
theorem ltN {x y z : Hit} (h : ltH x y = false) (h' : ltH y z = false) : ltH x z = false := swoH.ntrans x y z h h'
theorem ltTot {x y : Hit} (h : ltH x y = false) (h' : ltH y x = false) : x = y := totH x y h h'
theorem ltAs {x y : Hit} (h : ltH x y = true) : ltH y x = false := by
  cases h' : ltH y x
  · rfl
  · have := ltTr h h'
    rw [ltIrr] at this
    cases this
theorem ltL {x y z : Hit} (h : ltH x y = true) (h' : ltH z y = false) : ltH x z = true := by
  cases h2 : ltH x z
  · rw [ltN h2 h'] at h; cases h
  · rfl
theorem ltR {x y z : Hit} (h : ltH y x = false) (h' : ltH y z = true) : ltH x z = true := by
  cases h2 : ltH x z
  · rw [ltN h h2] at h'; cases h'
  · rfl
theorem getE (l : List Hit) {i : Nat} (h : i < l.length) : l.getD i hit0 = l[i] := by simp [h]
theorem hasH_iff (l : List Hit) (id : Int) : hasH l id = true ↔ ∃ h ∈ l, h.1 = id := by
  unfold hasH
  constructor
  · intro h
    by_cases hx : ∃ h ∈ l, h.1 = id
    · exact hx
    · exfalso
      have hu : upto l.length (fun i => !decide ((l.getD i hit0).1 = id)) = true := upto_iff.2 fun i hi => by
        simp only [Bool.not_eq_true', decide_eq_false_iff_not]
        exact fun e => hx ⟨_, getD_mem l hit0 hi, e⟩
      rw [hu] at h
      cases h
  · rintro ⟨h, hm, rfl⟩
    cases hu : upto l.length (fun i => !decide ((l.getD i hit0).1 = h.1))
    · rfl
    · obtain ⟨i, hi, rfl⟩ := List.getElem_of_mem hm
      have := upto_iff.1 hu i hi
      rw [getE l hi] at this
      simp at this
theorem hasH_no (l : List Hit) (id : Int) : hasH l id = false ↔ ∀ h ∈ l, h.1 ≠ id := by
  constructor
  · intro h x hx e
    have := (hasH_iff l id).2 ⟨x, hx, e⟩
    rw [h] at this
    cases this
  · intro h
    cases hh : hasH l id
    · rfl
    · obtain ⟨x, hx, e⟩ := (hasH_iff l id).1 hh
      exact absurd e (h x hx)
/-- The list of the k least hits. -/
structure IsOf (l : List Hit) (k : Nat) (T : List Hit) : Prop where
  sorted : T.Pairwise (fun a b => ltH a b = true)
  rep : ∀ t ∈ T, t ∈ l ∧ ∀ h ∈ l, h.1 = t.1 → ltH h t = false
  len : T.length ≤ k
  all : ∀ h ∈ l, (∃ t ∈ T, t.1 = h.1) ∨ (T.length = k ∧ ∀ t ∈ T, ltH t h = true)
theorem sorted_eq : ∀ {T T' : List Hit}, T.Pairwise (fun a b => ltH a b = true) → T'.Pairwise (fun a b => ltH a b = true) → (∀ x, x ∈ T ↔ x ∈ T') → T = T'
  | [], [], _, _, _ => rfl
  | [], b :: T', _, _, h => by have := (h b).2 (by simp); simp at this
  | a :: T, [], _, _, h => by have := (h a).1 (by simp); simp at this
  | a :: T, b :: T', hT, hT', h => by
    rw [List.pairwise_cons] at hT hT'
    have hab : a = b := by
      rcases List.mem_cons.1 ((h a).1 (by simp)) with e | e
      · exact e
      · rcases List.mem_cons.1 ((h b).2 (by simp)) with e' | e'
        · exact e'.symm
        · have h1 := hT'.1 a e
          have h2 := hT.1 b e'
          rw [ltAs h1] at h2
          cases h2
    subst hab
    have ih := sorted_eq hT.2 hT'.2 fun x => by
      constructor
      · intro hx
        rcases List.mem_cons.1 ((h x).1 (by simp [hx])) with e | e
        · subst e
          have := hT.1 x hx
          rw [ltIrr] at this
          cases this
        · exact e
      · intro hx
        rcases List.mem_cons.1 ((h x).2 (by simp [hx])) with e | e
        · subst e
          have := hT'.1 x hx
          rw [ltIrr] at this
          cases this
        · exact e
    rw [ih]
theorem nodup_len {α : Type} [DecidableEq α] : ∀ {T U : List α}, T.Nodup → (∀ x ∈ T, x ∈ U) → T.length ≤ U.length
  | [], U, _, _ => by simp
  | a :: T, U, hT, h => by
    rw [List.nodup_cons] at hT
    have ha : a ∈ U := h a (by simp)
    have ih := nodup_len (U := U.erase a) hT.2 fun x hx => (List.mem_erase_of_ne (fun e => hT.1 (by rw [← e]; exact hx))).2 (h x (by simp [hx]))
    rw [List.length_erase_of_mem ha] at ih
    have := List.length_pos_of_mem ha
    simp
    omega
theorem sorted_nodup {T : List Hit} (h : T.Pairwise (fun a b => ltH a b = true)) : T.Nodup :=
  h.imp fun {a b} hab e => by rw [e, ltIrr] at hab; cases hab
theorem IsOf.sub {l : List Hit} {k : Nat} {T T' : List Hit} (h : IsOf l k T) (h' : IsOf l k T') {t : Hit} (ht : t ∈ T) : t ∈ T' := by
  have hr := h.rep t ht
  rcases h'.all t hr.1 with ⟨t', h1, h2⟩ | ⟨h1, h2⟩
  · have hr' := h'.rep t' h1
    have e := ltTot (hr'.2 t hr.1 h2.symm) (hr.2 t' hr'.1 h2)
    rwa [e]
  · exfalso
    have hn : t ∉ T' := fun hm => by have := h2 t hm; rw [ltIrr] at this; cases this
    have hsub : ∀ x ∈ T', x ∈ T := fun x hx => by
      have hrx := h'.rep x hx
      rcases h.all x hrx.1 with ⟨s, h3, h4⟩ | ⟨h3, h4⟩
      · have hrs := h.rep s h3
        have e := ltTot (hrs.2 x hrx.1 h4.symm) (hrx.2 s hrs.1 h4)
        rwa [e]
      · have a1 := h4 t ht
        rw [ltAs (h2 x hx)] at a1
        cases a1
    have := nodup_len (T := t :: T') (U := T) (List.nodup_cons.2 ⟨hn, sorted_nodup h'.sorted⟩) fun x hx => by
      rcases List.mem_cons.1 hx with e | e
      · subst e; exact ht
      · exact hsub x e
    have h5 := h.len
    simp only [List.length_cons] at this
    omega
theorem IsOf.unique {l : List Hit} {k : Nat} {T T' : List Hit} (h : IsOf l k T) (h' : IsOf l k T') : T = T' :=
  sorted_eq h.sorted h'.sorted fun x => ⟨fun hx => h.sub h' hx, fun hx => h'.sub h hx⟩
/-! the sorted one -/
theorem sortH_perm (V : List Hit) : (sortH V).Perm V := List.mergeSort_perm _ _
theorem sortH_sorted {V : List Hit} (hn : V.Nodup) : (sortH V).Pairwise (fun a b => ltH a b = true) := by
  have h1 : (sortH V).Pairwise (fun a b => (!(ltH b a)) = true) := List.pairwise_mergeSort (fun a b c hab hbc => by
      have hab : ltH b a = false := by simpa using hab
      have hbc : ltH c b = false := by simpa using hbc
      have := ltN hbc hab
      simpa using this) (fun a b => by
      cases h : ltH b a
      · simp
      · simp [ltAs h]) _
  have h2 : (sortH V).Nodup := (sortH_perm V).nodup_iff.2 hn
  exact (h1.and h2).imp fun {a b} ⟨hab, hne⟩ => by
    have hab : ltH b a = false := by simpa using hab
    cases h : ltH a b
    · exact absurd (ltTot h hab) hne
    · rfl
theorem nodup_of_fst {V : List Hit} (h : (V.map Prod.fst).Nodup) : V.Nodup := by
  rw [List.Nodup, List.pairwise_map] at h
  exact h.imp fun {a b} hab e => hab (by rw [e])
theorem isOf_sort {l V : List Hit} (k : Nat) (hn : (V.map Prod.fst).Nodup) (hr : ∀ v ∈ V, v ∈ l ∧ ∀ h ∈ l, h.1 = v.1 → ltH h v = false) (ha : ∀ h ∈ l, ∃ v ∈ V, v.1 = h.1) : IsOf l k ((sortH V).take k) := by
  have hs := sortH_sorted (nodup_of_fst hn)
  have hm : ∀ x, x ∈ sortH V ↔ x ∈ V := fun x => (sortH_perm V).mem_iff
  refine ⟨hs.sublist (List.take_sublist _ _), fun t ht => hr t ((hm t).1 (List.mem_of_mem_take ht)), by simp; omega, fun h hh => ?_⟩
  obtain ⟨v, hv, hvh⟩ := ha h hh
  have hvS := (hm v).2 hv
  rw [← List.take_append_drop k (sortH V)] at hvS hs
  rcases List.mem_append.1 hvS with h1 | h1
  · exact .inl ⟨v, h1, hvh⟩
  · refine .inr ⟨?_, fun t ht => ?_⟩
    · have := List.length_pos_of_mem h1
      simp at this ⊢
      omega
    · have h2 := (List.pairwise_append.1 hs).2.2 t ht v h1
      exact ltL h2 ((hr v hv).2 h hh hvh.symm)
/-! the one that takes the least again and again -/
theorem placeN_succ (l out : List Hit) (n : Nat) : placeN l out (n + 1) = if hasH out (l.getD n hit0).1 = false ∧ (placeN l out n < 0 ∨ ltH (l.getD n hit0) (l.getD (placeN l out n).toNat hit0) = true) then (n : Int) else placeN l out n := by
  unfold placeN
  rw [List.range_succ, List.foldl_append]
  rfl
theorem placeN_spec (l out : List Hit) : ∀ n, n ≤ l.length → (placeN l out n = -1 ∧ ∀ i, i < n → hasH out (l.getD i hit0).1 = true) ∨
    (∃ i : Nat, placeN l out n = (i : Int) ∧ i < n ∧ hasH out (l.getD i hit0).1 = false ∧ ∀ j, j < n → hasH out (l.getD j hit0).1 = false → ltH (l.getD j hit0) (l.getD i hit0) = false)
  | 0, _ => .inl ⟨rfl, by omega⟩
  | n + 1, hn => by
    rw [placeN_succ]
    split
    · rename_i hc
      refine .inr ⟨n, rfl, by omega, hc.1, fun j hj hh => ?_⟩
      by_cases e : j = n
      · subst e; exact ltIrr _
      · rcases placeN_spec l out n (by omega) with ⟨h1, h2⟩ | ⟨i, h1, h2, h3, h4⟩
        · have := h2 j (by omega); rw [hh] at this; cases this
        · rw [h1] at hc
          have := hc.2.resolve_left (by omega)
          simp only [Int.toNat_natCast] at this
          exact ltN (h4 j (by omega) hh) (ltAs this)
    · rename_i hc
      rcases placeN_spec l out n (by omega) with ⟨h1, h2⟩ | ⟨i, h1, h2, h3, h4⟩
      · refine .inl ⟨h1, fun i hi => ?_⟩
        by_cases e : i = n
        · subst e
          cases hh : hasH out (l.getD i hit0).1
          · exact absurd ⟨hh, .inl (by omega)⟩ hc
          · rfl
        · exact h2 i (by omega)
      · refine .inr ⟨i, h1, by omega, h3, fun j hj hh => ?_⟩
        by_cases e : j = n
        · subst e
          cases hl : ltH (l.getD j hit0) (l.getD i hit0)
          · rfl
          · exact absurd ⟨hh, .inr (by rw [h1]; simpa using hl)⟩ hc
        · exact h4 j (by omega) hh
theorem isOf_ofG {l : List Hit} {k : Nat} : ∀ (n : Nat) (out : List Hit), out.Pairwise (fun a b => ltH a b = true) → (∀ t ∈ out, t ∈ l ∧ ∀ h ∈ l, h.1 = t.1 → ltH h t = false) → (∀ h ∈ l, (∃ t ∈ out, t.1 = h.1) ∨ ∀ t ∈ out, ltH t h = true) → out.length + n = k →
    IsOf l k (ofG l n out)
  | 0, out, hs, hr, ha, hl => ⟨hs, hr, by simp [ofG]; omega, fun h hh => (ha h hh).imp id fun h' => ⟨by simp [ofG]; omega, h'⟩⟩
  | n + 1, out, hs, hr, ha, hl => by
    unfold ofG
    rcases placeN_spec l out l.length (Nat.le_refl _) with ⟨h1, h2⟩ | ⟨i, h1, h2, h3, h4⟩
    · have h1 : placeH l out = -1 := h1
      rw [if_pos (by omega)]
      refine ⟨hs, hr, by omega, fun h hh => ?_⟩
      obtain ⟨i, hi, rfl⟩ := List.getElem_of_mem hh
      have := h2 i hi
      rw [getE l hi] at this
      exact .inl ((hasH_iff _ _).1 this)
    · have h1 : placeH l out = i := h1
      rw [if_neg (by omega), h1, Int.toNat_natCast]
      generalize he : l.getD i hit0 = e at *
      have hel : e ∈ l := by rw [← he]; exact getD_mem l hit0 h2
      have hmin : ∀ h ∈ l, (∀ t ∈ out, t.1 ≠ h.1) → ltH h e = false := fun h hh hn => by
        obtain ⟨j, hj, rfl⟩ := List.getElem_of_mem hh
        have := h4 j hj
        rw [getE l hj] at this
        exact this ((hasH_no _ _).2 hn)
      have hne := (hasH_no _ _).1 h3
      refine isOf_ofG n (out ++ [e]) ?_ (fun t ht => ?_) (fun h hh => ?_) (by simp; omega)
      · rw [List.pairwise_append]
        refine ⟨hs, by simp, fun t ht x hx => ?_⟩
        have hx : x = e := by simpa using hx
        subst hx
        rcases ha x hel with ⟨t', h5, h6⟩ | h5
        · exact absurd h6 (hne t' h5)
        · exact h5 t ht
      · rcases List.mem_append.1 ht with h5 | h5
        · exact hr t h5
        · have h5 : t = e := by simpa using h5
          subst h5
          exact ⟨hel, fun h hh e1 => hmin h hh fun t' ht' e2 => hne t' ht' (e2.trans e1)⟩
      · by_cases hin : ∃ t ∈ out, t.1 = h.1
        · obtain ⟨t, h5, h6⟩ := hin
          exact .inl ⟨t, by simp [h5], h6⟩
        · by_cases hee : e.1 = h.1
          · exact .inl ⟨e, by simp, hee⟩
          · refine .inr fun t ht => ?_
            rcases List.mem_append.1 ht with h5 | h5
            · exact ((ha h hh).resolve_left hin) t h5
            · have h5 : t = e := by simpa using h5
              subst h5
              have hm := hmin h hh fun t' ht' e2 => hin ⟨t', ht', e2⟩
              cases h7 : ltH t h
              · exact absurd (congrArg Prod.fst (ltTot h7 hm)) hee
              · rfl
theorem isOf_ofH (l : List Hit) (k : Int) : IsOf l k.toNat (ofH l k) :=
  isOf_ofG k.toNat [] List.Pairwise.nil (by simp) (by simp) (by simp)
theorem ofH_is {l T : List Hit} {k : Int} (h : IsOf l k.toNat T) : T = ofH l k := h.unique (isOf_ofH l k)
end Go.Proofs.Ytmimchmdikjilaa
