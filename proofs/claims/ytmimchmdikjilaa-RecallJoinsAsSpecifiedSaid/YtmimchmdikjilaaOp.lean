import Derived.Test.YtmimchmdikjilaaOp0
namespace Go.Proofs.Ytmimchmdikjilaa
open Go.AM Go.PL
set_option linter.unusedVariables false
/-! ### Joining: plain law -/
theorem ofH_full {a b U T : List Hit} {k : Nat} (hT : IsOf a k T) (hU : IsOf (T ++ b) k U) (hl : T.length = k) {u : Hit} (hu : u ∈ U) (h : ∀ s ∈ T, ltH s u = true) : False := by
  have hids := ids_of hT.sorted fun x hx y hy e => hT.one hx hy e
  have hn : (u.1 :: T.map Prod.fst).Nodup := List.nodup_cons.2 ⟨fun hm => by
    obtain ⟨s, hs, e⟩ := List.mem_map.1 hm
    have := (hU.rep u hu).2 s (List.mem_append_left _ hs) e
    rw [h s hs] at this
    exact Bool.noConfusion this, hids⟩
  have := nodup_len (U := U.map Prod.fst) hn fun id hid => by
    rcases List.mem_cons.1 hid with e | e
    · rw [e]; exact List.mem_map.2 ⟨u, hu, rfl⟩
    · obtain ⟨s, hs, rfl⟩ := List.mem_map.1 e
      rcases hU.all s (List.mem_append_left _ hs) with ⟨t, h1, h2⟩ | ⟨_, h2⟩
      · exact List.mem_map.2 ⟨t, h1, h2⟩
      · have := h2 u hu
        rw [ltAs (h s hs)] at this
        cases this
  have h5 := hU.len
  simp only [List.length_cons, List.length_map] at this
  omega

theorem putR_under (l : List Rst) (x : Rst) (K : Int) : underR (putR l x) K = underR [x] K + underR l K := by
  induction l with
  | nil => simp [putR, underR]
  | cons y l ih =>
    unfold putR
    split
    · exact underR_append [x] (y :: l) K
    · have e1 := underR_append [y] (putR l x) K
      have e2 := underR_append [y] l K
      simp only [List.singleton_append] at e1 e2
      omega
theorem foldR_under (l : List Rst) (K : Int) : ∀ s : List Rst, underR (l.foldl putR s) K = underR s K + underR l K := by
  induction l with
  | nil => intro s; simp [underR]
  | cons x l ih =>
    intro s
    have e2 := underR_append [x] l K
    simp only [List.singleton_append] at e2
    rw [List.foldl_cons, ih, putR_under]
    omega
theorem sortR_under (l : List Rst) (K : Int) : underR (sortR l) K = underR l K := by
  have := foldR_under l K []
  have e : underR [] K = 0 := rfl
  unfold sortR
  omega
def joinOf (a b : Piece) (k : Int) : Piece := (ofH (a.1 ++ b.1) k, sortR (a.2.1 ++ b.2.1), ())
section
variable {a b : Piece} {k : Int}
theorem right_app (ha : VP a k) (hb : VP b k) : ∀ x ∈ a.1 ++ b.1, rightH x = true := fun x hx => by
  rcases List.mem_append.1 hx with h | h
  · exact ha.v.right x h
  · exact hb.v.right x h
theorem join_vp (ha : VP a k) (hb : VP b k) : VP (joinOf a b k) k :=
  ⟨valid_ofH ha.v.k1 ha.v.k2 (right_app ha hb), fun x hx => by
    rcases List.mem_append.1 ((sortR_perm _).mem_iff.1 hx) with h | h
    · exact ha.ok x h
    · exact hb.ok x h, sortR_asc _⟩
theorem join_fold (ha : VP a k) : b.2.1.foldl putR a.2.1 = sortR (a.2.1 ++ b.2.1) := sortR_is (foldR_asc _ ha.asc) (foldR_perm _ _)
theorem join_swap : joinOf b a k = joinOf a b k := by
  unfold joinOf
  rw [ofH_congr (l := b.1 ++ a.1) (m := a.1 ++ b.1) k fun x => by simp [or_comm], sortR_is (sortR_asc (b.2.1 ++ a.2.1)) ((sortR_perm _).trans List.perm_append_comm)]
/-- Where a part is left, its hits are as many as may be, and so are those of both. -/
theorem join_key (ha : VP a k) (hb : VP b k) (he : exactP a k = true) {x : Rst} (hx : x ∈ a.2.1) : (a.1.length : Int) = k ∧ ∀ t ∈ ofH (a.1 ++ b.1) k, (t : Hit).2.2.1 < x.1 := by
  have hl := ha.v.len
  have hk := ha.v.k1
  unfold exactP at he
  split at he
  · have he := dt he
    have : a.2.1 = [] := List.eq_nil_of_length_eq_zero he
    rw [this] at hx; simp at hx
  · have he := dt he
    refine ⟨by omega, fun t ht => ?_⟩
    have h3 : leastP a ≤ x.1 := by
      obtain ⟨j, hj, rfl⟩ := List.getElem_of_mem hx
      unfold leastP
      rw [if_neg (by omega), getR _ (by omega)]
      rcases Nat.eq_zero_or_pos j with h | h
      · subst h; exact Int.le_refl _
      · have := (ltR_no _ _).1 (List.pairwise_iff_getElem.1 ha.asc 0 j (by omega) hj h)
        omega
    rcases Int.lt_or_le t.2.2.1 x.1 with h4 | h4
    · exact h4
    · exfalso
      refine ofH_full (ha.v.isOf fun z => Iff.rfl) (isOf_ofH (a.1 ++ b.1) k) (by omega) ht fun s hs => ?_
      obtain ⟨i, hi, rfl⟩ := List.getElem_of_mem hs
      have := key_mono ha.order (show i ≤ a.1.length - 1 by omega) (show a.1.length - 1 < a.1.length by omega)
      rw [getE a.1 hi] at this
      rw [ltH_eq]
      exact .inl (by omega)
theorem full_len (ha : VP a k) (hl : (a.1.length : Int) = k) : ((ofH (a.1 ++ b.1) k).length : Int) = k := by
  have hk := ha.v.k1
  have hT := isOf_ofH (a.1 ++ b.1) k
  have h1 := hT.len
  by_cases hr : ∀ s ∈ a.1, ∃ t ∈ ofH (a.1 ++ b.1) k, t.1 = s.1
  · have := nodup_len (U := (ofH (a.1 ++ b.1) k).map Prod.fst) ha.v.ids fun id hid => by
      obtain ⟨s, hs, rfl⟩ := List.mem_map.1 hid
      obtain ⟨t, ht, e⟩ := hr s hs
      exact List.mem_map.2 ⟨t, ht, e⟩
    simp only [List.length_map] at this
    omega
  · simp only [Classical.not_forall, not_exists, not_and] at hr
    obtain ⟨s, hs, h4⟩ := hr
    rcases hT.all s (List.mem_append_left _ hs) with ⟨t, h5, h6⟩ | ⟨h5, _⟩
    · exact absurd h6 (h4 t h5)
    · omega
theorem join_exact (ha : VP a k) (hb : VP b k) (hea : exactP a k = true) (heb : exactP b k = true) : exactP (joinOf a b k) k = true := by
  have hk := ha.v.k1
  have ka := fun x hx => join_key ha hb hea (x := x) hx
  have kb := fun x hx => join_key hb ha heb (x := x) hx
  have hsw : ofH (b.1 ++ a.1) k = ofH (a.1 ++ b.1) k := ofH_congr k fun x => by simp [or_comm]
  have hm : ∀ x ∈ sortR (a.2.1 ++ b.2.1), ((ofH (a.1 ++ b.1) k).length : Int) = k ∧ ∀ t ∈ ofH (a.1 ++ b.1) k, (t : Hit).2.2.1 < (x : Rst).1 := fun x hx => by
    rcases List.mem_append.1 ((sortR_perm _).mem_iff.1 hx) with h | h
    · exact ⟨full_len ha (ka x h).1, (ka x h).2⟩
    · have h1 := kb x h
      have h2 := full_len (b := a) hb h1.1
      rw [hsw] at h1 h2
      exact ⟨h2, h1.2⟩
  have hlen := (isOf_ofH (a.1 ++ b.1) k).len
  have hkey := (join_vp ha hb).v.key
  unfold exactP joinOf leastP
  show (if ((ofH (a.1 ++ b.1) k).length : Int) < k then decide ((sortR (a.2.1 ++ b.2.1)).length = 0) else decide (((ofH (a.1 ++ b.1) k).getD ((ofH (a.1 ++ b.1) k).length - 1) hit0).2.2.1 < if (sortR (a.2.1 ++ b.2.1)).length = 0 then 134217729 else ((sortR (a.2.1 ++ b.2.1)).getD 0 rest0).1)) = true
  by_cases h0 : (sortR (a.2.1 ++ b.2.1)).length = 0
  · rw [if_pos h0]
    split
    · exact decide_eq_true h0
    · have := (hkey _ (PL.getD_mem (ofH (a.1 ++ b.1) k) hit0 (show (ofH (a.1 ++ b.1) k).length - 1 < _ by omega))).2
      exact decide_eq_true (by omega)
  · have h1 := hm _ (PL.getD_mem (sortR (a.2.1 ++ b.2.1)) rest0 (show 0 < _ by omega))
    rw [if_neg (by omega), if_neg h0]
    exact decide_eq_true (h1.2 _ (PL.getD_mem (ofH (a.1 ++ b.1) k) hit0 (show (ofH (a.1 ++ b.1) k).length - 1 < _ by omega)))
/-- A sure hit of both is sure where it is. -/
theorem join_sure (ha : VP a k) (hsa : smallP a) {T : List Hit} (hT : IsOf (a.1 ++ b.1) k.toNat T) {i : Nat} (hi : i < T.length) {u : Int} (hu : underR a.2.1 (T.getD i hit0).2.2.1 ≤ u) (hs : (i : Int) + 1 + u ≤ k) (hm : T.getD i hit0 ∈ a.1) : T.getD i hit0 ∈ a.1.take (sureP a k).toNat := by
  obtain ⟨j, hj, e⟩ := List.getElem_of_mem hm
  have hji : j ≤ i := by
    have := nodup_len (T := (a.1.take j).map Prod.fst) (U := (T.take i).map Prod.fst) (ha.v.ids.sublist ((List.take_sublist _ _).map _)) fun id hid => by
      obtain ⟨s, hs, rfl⟩ := List.mem_map.1 hid
      have hsl : ltH s (T.getD i hit0) = true := by
        obtain ⟨m, hm, rfl⟩ := List.getElem_of_mem hs
        rw [List.length_take] at hm
        rw [List.getElem_take, ← e]
        exact List.pairwise_iff_getElem.1 ha.v.sorted m j (by omega) hj (by omega)
      rcases hT.all s (List.mem_append_left _ (List.mem_of_mem_take hs)) with ⟨t, ht, e2⟩ | ⟨_, h2⟩
      · have h3 := (hT.rep t ht).2 s (List.mem_append_left _ (List.mem_of_mem_take hs)) e2.symm
        have h4 : ltH t (T.getD i hit0) = true := ltR h3 hsl
        refine List.mem_map.2 ⟨t, ?_, e2⟩
        obtain ⟨m, hm, rfl⟩ := List.getElem_of_mem ht
        have hmi : m < i := by
          rcases Nat.lt_or_ge m i with h5 | h5
          · exact h5
          · exfalso
            rw [getE _ hi] at h4
            rcases Nat.lt_or_ge i m with h6 | h6
            · rw [ltAs (List.pairwise_iff_getElem.1 hT.sorted i m hi hm h6)] at h4; cases h4
            · have : i = m := by omega
              subst this
              rw [ltIrr] at h4; cases h4
        rw [List.mem_iff_getElem]
        exact ⟨m, by rw [List.length_take]; omega, by rw [List.getElem_take]⟩
      · have := h2 _ (PL.getD_mem T hit0 hi)
        rw [ltAs hsl] at this; cases this
    simp only [List.length_map, List.length_take] at this
    omega
  have hat : sureAt a k j = true := sureAt_iff.2 (by rw [getE _ hj, e]; omega)
  have := (sure_lt hsa ha.order hj).2 hat
  rw [← e, List.mem_iff_getElem]
  exact ⟨j, by rw [List.length_take]; omega, by rw [List.getElem_take]⟩
end
theorem sat_L2 : Sat bs.P 4 (lawSp [PC, PC, I]) := by
  refine sat_nf (C := G1) ssG1 (fun x => l2_nf x.1 x.2.1 x.2.2) fun (⟨a, b, k⟩ : Piece × Piece × Int) hk _ => ?_
  try dsimp only
  simp only [show (((0 : Int), (0 : Int), (0 : Int), ()) : Hit) = hit0 from rfl]
  refine ⟨trivial, fun _ => ⟨trivial, trivial⟩, fun hfa => ⟨trivial, fun _ => ⟨trivial, trivial⟩, fun hfb => ⟨trivial, fun _ => ⟨trivial, trivial⟩, fun hva => ⟨trivial, fun _ => ⟨trivial, trivial⟩, fun hvb => ?_⟩⟩⟩⟩
  have ha := vp_of (nf hva)
  have hb := vp_of (nf hvb)
  have hfa := few_of (nf hfa)
  have hfb := few_of (nf hfb)
  have hsa := ha.small (by omega)
  have hsb := hb.small (by omega)
  have hk1 := ha.v.k1
  have hJ := join_vp ha hb
  have hsw : joinOf b a k = joinOf a b k := join_swap
  have hfold := join_fold (b := b) ha
  have hex := fun h1 h2 => join_exact ha hb h1 h2
  have hlenJ : (joinOf a b k).2.1.length ≤ 120 := by
    show (sortR _).length ≤ 120
    rw [(sortR_perm _).length_eq, List.length_append]
    omega
  have hsJ := hJ.small (by omega)
  have hoJ := hJ.order
  have hvJ := hJ.valid (by omega)
  have hT := isOf_ofH (a.1 ++ b.1) k
  have hsure : ∀ i : Int, 0 ≤ i → i < sureP (joinOf a b k) k → i < (joinOf a b k).1.length ∧ (amongH ((joinOf a b k).1.getD i.toNat hit0) (List.take ((sureP a k).toNat - 0) (List.drop 0 a.1)) = false → amongH ((joinOf a b k).1.getD i.toNat hit0) (List.take ((sureP b k).toNat - 0) (List.drop 0 b.1)) = true) := fun i h0 hi => by
    have hle := sureP_le (joinOf a b k) k
    have hil : i.toNat < (joinOf a b k).1.length := by omega
    refine ⟨by omega, fun hno => ?_⟩
    have hat := sureAt_iff.1 ((sure_lt (k := k) hsJ hoJ hil).1 (by omega))
    have hu : underR (joinOf a b k).2.1 ((joinOf a b k).1.getD i.toNat hit0).2.2.1 = underR a.2.1 ((joinOf a b k).1.getD i.toNat hit0).2.2.1 + underR b.2.1 ((joinOf a b k).1.getD i.toNat hit0).2.2.1 := (sortR_under _ _).trans (underR_append _ _ _)
    have hua := (under_small hsa.2 ((joinOf a b k).1.getD i.toNat hit0).2.2.1).1
    have hub := (under_small hsb.2 ((joinOf a b k).1.getD i.toNat hit0).2.2.1).1
    have hT2 : IsOf (b.1 ++ a.1) k.toNat (joinOf a b k).1 := hT.perm fun x => by simp [or_comm]
    rw [Nat.sub_zero, List.drop_zero] at hno ⊢
    unfold amongH at hno ⊢
    rcases List.mem_append.1 (hT.rep _ (PL.getD_mem (joinOf a b k).1 hit0 hil)).1 with h | h
    · exact absurd (join_sure (T := (joinOf a b k).1) ha hsa hT hil (u := underR (joinOf a b k).2.1 ((joinOf a b k).1.getD i.toNat hit0).2.2.1) (by omega) (by omega) h) (df hno)
    · exact decide_eq_true (join_sure (T := (joinOf a b k).1) hb hsb hT2 hil (u := underR (joinOf a b k).2.1 ((joinOf a b k).1.getD i.toNat hit0).2.2.1) (by omega) (by omega) h)
  have c1 : a.1.length + b.1.length ≤ 1000 := by omega
  have c2 : a.2.1.length + b.2.1.length ≤ 1000 := by omega
  have c3 : b.1.length + a.1.length ≤ 1000 := by omega
  have c4 : b.2.1.length + a.2.1.length ≤ 1000 := by omega
  have c5 : 0 ≤ k := by omega
  have hla := sureP_le a k
  have hlb := sureP_le b k
  have hoa := ha.order
  have hob := hb.order
  rw [hfold]
  show _ ∧ _ ∧ _ ∧ (_ → _) ∧ ((!sameP (joinOf a b k) (joinOf a b k)) = false → _ ∧ _ ∧ ((!sameP (joinOf a b k) (joinOf b a k)) = true → _) ∧ ((!sameP (joinOf a b k) (joinOf b a k)) = false → _ ∧ ((!validP (joinOf a b k) k) = true → _) ∧ ((!validP (joinOf a b k) k) = false → _ ∧ (_ → _ ∧ (_ → _ ∧ ((!exactP (joinOf a b k) k) = true → _) ∧ _) ∧ _) ∧ _)))
  have hss : sameP (joinOf a b k) (joinOf a b k) = true := decide_eq_true rfl
  rw [hsw]
  refine ⟨⟨⟨c1, c5⟩, c2⟩, ⟨⟨c1, c5⟩, c2⟩, trivial, fun h => ?_, fun _ => ⟨⟨⟨c3, c5⟩, c4⟩, trivial, fun h => (by rw [hss] at h; cases h), fun _ => ⟨trivial, fun h => (by rw [hvJ] at h; cases h), fun _ => ⟨hk1, fun he1 => ⟨hk1, fun he2 => ⟨hk1, fun h => (by rw [hex he1 he2] at h; cases h), fun _ => ?_⟩, fun _ => ?_⟩, fun _ => ?_⟩⟩⟩⟩
  · have h : (!sameP (joinOf a b k) (joinOf a b k)) = true := h
    rw [hss] at h; cases h
  all_goals
    refine ⟨fun x => 0 ≤ x.1 ∧ x.1 ≤ (joinOf a b k).1.length ∧ x.2 = ((joinOf a b k).1, (joinOf a b k).2.1), fun x => ((joinOf a b k).1.length - x.1).toNat, ⟨by omega, by omega, rfl⟩, ?_⟩
    rintro ⟨i, t, r⟩ ⟨h0, h1, h2⟩
    obtain ⟨rfl, rfl⟩ : t = (joinOf a b k).1 ∧ r = (joinOf a b k).2.1 := by simpa using h2
    dsimp only
    refine ⟨⟨hsJ, hoJ⟩, fun hc => ?_, fun _ => ⟨trivial, trivial⟩⟩
    obtain ⟨d1, d2⟩ := hsure i h0 (dt hc)
    have hstep : isI64 (i + 1) ∧ (0 ≤ i + 1 ∧ i + 1 ≤ (joinOf a b k).1.length ∧ ((joinOf a b k).1, (joinOf a b k).2.1) = ((joinOf a b k).1, (joinOf a b k).2.1)) ∧ ((joinOf a b k).1.length - (i + 1)).toNat < ((joinOf a b k).1.length - i).toNat :=
      ⟨i64s (by have := hsJ.1; omega) (by have := hsJ.1; omega), ⟨by omega, by omega, rfl⟩, by omega⟩
    refine ⟨⟨h0, d1⟩, ⟨hsa, hoa⟩, ⟨by omega, hla.1, hla.2⟩, trivial, fun h3 => ⟨⟨h0, d1⟩, ⟨hsb, hob⟩, ⟨by omega, hlb.1, hlb.2⟩, trivial, fun h4 => ?_, fun _ => hstep⟩, fun _ => hstep⟩
    rw [d2 (nt h3)] at h4
    cases h4
end Go.Proofs.Ytmimchmdikjilaa
