import Derived.Test.YtmimchmdikjilaaOq0
namespace Go.Proofs.Ytmimchmdikjilaa
open Go.AM Go.PL
set_option linter.unusedVariables false
/-! ### What is left out, or moved: plain law -/
theorem last_key4 {p : Piece} {k : Int} (hV : VP p k) {t : Hit} (ht : t ∈ p.1) : t.2.2.1 ≤ (p.1.getD (p.1.length - 1) hit0).2.2.1 := by
  obtain ⟨i, hi, rfl⟩ := List.getElem_of_mem ht
  have := key_mono hV.order (show i ≤ p.1.length - 1 by omega) (show p.1.length - 1 < p.1.length by omega)
  rwa [getE p.1 hi] at this
theorem least_le4 {p : Piece} {k : Int} (hV : VP p k) {x : Rst} (hx : x ∈ p.2.1) : leastP p ≤ x.1 := by
  obtain ⟨j, hj, rfl⟩ := List.getElem_of_mem hx
  unfold leastP
  rw [if_neg (by omega), getR _ (by omega)]
  rcases Nat.eq_zero_or_pos j with h | h
  · subst h; exact Int.le_refl _
  · have := (ltR_no _ _).1 (List.pairwise_iff_getElem.1 hV.asc 0 j (by omega) hj h)
    omega
theorem sure_more {h : List Hit} {l l' : List Rst} (k : Int) (hu : ∀ K, underR l' K ≤ underR l K) : ∀ n, sureN (h, l, ()) k n ≤ sureN (h, l', ()) k n
  | 0 => Int.le_refl _
  | n + 1 => by
    have ih := sure_more (h := h) k hu n
    rw [sureN_succ, sureN_succ]
    by_cases h1 : sureAt (h, l, ()) k n = true
    · have h2 : sureAt (h, l', ()) k n = true := by
        rw [sureAt_iff] at h1 ⊢
        have := hu (h.getD n hit0).2.2.1
        have h1 : (n : Int) + 1 + underR l (h.getD n hit0).2.2.1 ≤ k := h1
        show (n : Int) + 1 + underR l' (h.getD n hit0).2.2.1 ≤ k
        omega
      rw [if_pos h1, if_pos h2]
      omega
    · rw [if_neg h1]
      split <;> omega
section
variable {p : Piece} {k : Int}
theorem sure_none (hV : VP p k) : sureP (p.1, [], ()) k = p.1.length := by
  have hl := hV.v.len
  refine sureN_all _ k p.1.length fun i hi => ?_
  rw [sureAt_iff]
  show (i : Int) + 1 + underR [] _ ≤ k
  have : ∀ K, underR [] K = 0 := fun K => rfl
  rw [this]
  omega
theorem exact_none (hV : VP p k) : exactP (p.1, [], ()) k = true := by
  have hk := hV.v.k1
  unfold exactP leastP
  show (if (p.1.length : Int) < k then decide (([] : List Rst).length = 0) else decide ((p.1.getD (p.1.length - 1) hit0).2.2.1 < if ([] : List Rst).length = 0 then 134217729 else (([] : List Rst).getD 0 rest0).1)) = true
  split
  · rfl
  · have := (hV.v.key _ (PL.getD_mem p.1 hit0 (show p.1.length - 1 < p.1.length by omega))).2
    rw [if_pos (by simp)]
    exact decide_eq_true (by omega)
theorem first_sure (hs : smallP p) (ho : orderP p) (h : 0 < p.1.length) : decide (sureP (List.take 1 (List.drop 0 p.1), p.2.1, ()) k = 1) = decide (0 < sureP p k) := by
  have h1 := sure_lt hs ho (k := k) h
  have e : sureP (List.take 1 (List.drop 0 p.1), p.2.1, ()) k = if sureAt p k 0 = true then 1 else 0 := by
    unfold sureP
    show sureN _ k (List.take 1 (List.drop 0 p.1)).length = _
    rw [show (List.take 1 (List.drop 0 p.1)).length = 0 + 1 by simp; omega, sureN_succ]
    have : sureAt (List.take 1 (List.drop 0 p.1), p.2.1, ()) k 0 = sureAt p k 0 := by
      unfold sureAt
      show decide (((0 : Nat) : Int) + 1 + underR p.2.1 ((List.take 1 (List.drop 0 p.1)).getD 0 hit0).2.2.1 ≤ k) = _
      rw [show (List.take 1 (List.drop 0 p.1)).getD 0 hit0 = p.1.getD 0 hit0 by
        cases hp : p.1 with
        | nil => rw [hp] at h; simp at h
        | cons a l => simp]
    rw [this]
    show sureN _ k 0 + _ = _
    have : sureN (List.take 1 (List.drop 0 p.1), p.2.1, ()) k 0 = 0 := rfl
    rw [this]
    omega
  rw [e]
  refine decide_eq_decide.2 ?_
  by_cases hc : sureAt p k 0 = true
  · rw [if_pos hc]; exact ⟨fun _ => h1.2 hc, fun _ => rfl⟩
  · rw [if_neg hc]; exact ⟨fun h => by omega, fun h => absurd (h1.1 h) hc⟩
theorem exact_more (hV : VP p k) (he : exactP p k = true) (hne : p.2.1.length ≠ 0) {l' : List Rst} (h : ∀ y ∈ l', ∃ x ∈ p.2.1, x.1 ≤ (y : Rst).1) : exactP (p.1, l', ()) k = true := by
  have hk := hV.v.k1
  unfold exactP at he ⊢
  split at he
  · have := dt he; omega
  · rename_i hge
    have he := dt he
    rw [if_neg hge]
    refine decide_eq_true ?_
    show (p.1.getD (p.1.length - 1) hit0).2.2.1 < leastP (p.1, l', ())
    unfold leastP
    show _ < if l'.length = 0 then 134217729 else (l'.getD 0 rest0).1
    split
    · have := (hV.v.key _ (PL.getD_mem p.1 hit0 (show p.1.length - 1 < p.1.length by omega))).2
      omega
    · obtain ⟨x, hx, hxy⟩ := h _ (PL.getD_mem l' rest0 (show 0 < l'.length by omega))
      have := least_le4 hV hx
      omega
end
structure Parts (p : Piece) (k : Int) (i : Nat) (x : Rst) : Prop where
  hV : VP p k
  few : p.2.1.length ≤ 60
  hi : i < p.2.1.length
  lo : (p.2.1.getD i rest0).1 ≤ x.1
  hi2 : x.1 ≤ 134217728
  cnt : x.2.1 = (p.2.1.getD i rest0).2.1
section
variable {p : Piece} {k : Int} {i : Nat} {x : Rst}
theorem Parts.sub (h : Parts p k i x) : (p.2.1.take i ++ p.2.1.drop (i + 1)).Sublist p.2.1 := by
  rw [← List.eraseIdx_eq_take_drop_succ]
  exact List.eraseIdx_sublist _ _
theorem Parts.less (h : Parts p k i x) : VP (p.1, p.2.1.take i ++ p.2.1.drop (i + 1), ()) k :=
  ⟨h.hV.v, fun y hy => h.hV.ok y (h.sub.mem hy), h.hV.asc.sublist h.sub⟩
theorem Parts.okx (h : Parts p k i x) : okR x = true := by
  have := (okR_iff _).1 (h.hV.ok _ (PL.getD_mem p.2.1 rest0 h.hi))
  have := h.lo
  have := h.hi2
  have := h.cnt
  exact (okR_iff x).2 (by omega)
theorem Parts.moved (h : Parts p k i x) : VP (p.1, sortR (p.2.1.take i ++ p.2.1.drop (i + 1) ++ [x]), ()) k :=
  ⟨h.hV.v, fun y hy => by
    rcases List.mem_append.1 ((sortR_perm _).mem_iff.1 hy) with h1 | h1
    · exact h.hV.ok y (h.sub.mem h1)
    · have h1 : y = x := by simpa using h1
      rw [h1]; exact h.okx, sortR_asc _⟩
theorem Parts.under (h : Parts p k i x) (K : Int) : underR p.2.1 K = underR (p.2.1.take i) K + ((if (p.2.1.getD i rest0).1 ≤ K then (p.2.1.getD i rest0).2.1 else 0) + underR (p.2.1.drop (i + 1)) K) := by
  conv => lhs; rw [← List.take_append_drop i p.2.1, underR_append, List.drop_eq_getElem_cons h.hi, ← getR p.2.1 h.hi]
  have := underR_append [p.2.1.getD i rest0] (p.2.1.drop (i + 1)) K
  rw [List.singleton_append, underR_one] at this
  rw [this]
theorem Parts.mem (h : Parts p k i x) : ∀ y ∈ sortR (p.2.1.take i ++ p.2.1.drop (i + 1) ++ [x]), ∃ z ∈ p.2.1, z.1 ≤ (y : Rst).1 := fun y hy => by
  rcases List.mem_append.1 ((sortR_perm _).mem_iff.1 hy) with h1 | h1
  · exact ⟨y, h.sub.mem h1, Int.le_refl _⟩
  · have h1 : y = x := by simpa using h1
    rw [h1]
    exact ⟨_, PL.getD_mem p.2.1 rest0 h.hi, h.lo⟩
theorem sortR_under4 (l : List Rst) (K : Int) : underR (sortR l) K = underR l K := by
  have key : ∀ (l s : List Rst), underR (l.foldl putR s) K = underR s K + underR l K := by
    have put : ∀ (l : List Rst) (x : Rst), underR (putR l x) K = underR [x] K + underR l K := by
      intro l x
      induction l with
      | nil => simp [putR, underR]
      | cons y l ih =>
        unfold putR
        split
        · exact underR_append [x] (y :: l) K
        · have e1 := underR_append [y] (putR l x) K
          have e2 := underR_append [y] l K
          simp only [List.singleton_append] at e1 e2
          omega
    intro l
    induction l with
    | nil => intro s; simp [underR]
    | cons x l ih =>
      intro s
      have e2 := underR_append [x] l K
      simp only [List.singleton_append] at e2
      rw [List.foldl_cons, ih, put]
      omega
  have := key l []
  have e : underR [] K = 0 := rfl
  unfold sortR
  omega
theorem Parts.sure1 (h : Parts p k i x) : sureP p k ≤ sureP (p.1, p.2.1.take i ++ p.2.1.drop (i + 1), ()) k := by
  have hc := (okR_iff _).1 (h.hV.ok _ (PL.getD_mem p.2.1 rest0 h.hi))
  exact sure_more (h := p.1) k (fun K => by
    rw [underR_append, h.under K]
    split <;> omega) _
theorem Parts.sure2 (h : Parts p k i x) : sureP p k ≤ sureP (p.1, sortR (p.2.1.take i ++ p.2.1.drop (i + 1) ++ [x]), ()) k := by
  have hc := (okR_iff _).1 (h.hV.ok _ (PL.getD_mem p.2.1 rest0 h.hi))
  have hl := h.lo
  have hn := h.cnt
  exact sure_more (h := p.1) k (fun K => by
    rw [sortR_under4, underR_append, underR_append, underR_one, h.under K]
    split <;> split <;> omega) _
end
theorem wrap_sm {n : Int} (h0 : 0 ≤ n) (h1 : n ≤ 65535) : IntKind.i64.wrap n = n := wrap_i64 (i64s (by omega) (by omega))
theorem sat_L4 : Sat bs.P 6 (lawSp [PC, I, U8, U16]) := by
  refine sat_nf (C := G1) ssG1 (fun x => l4_nf x.1 x.2.1 x.2.2.1 x.2.2.2) fun (⟨p, k, place, more⟩ : Piece × Int × Int × Int) hk _ => ?_
  have hpl : 0 ≤ place ∧ place ≤ 255 := by
    have h : IntKind.u8.has place := hk.2.2.1
    unfold IntKind.has at h; exact h
  have hmo : 0 ≤ more ∧ more ≤ 65535 := by
    have h : IntKind.u16.has more := hk.2.2.2
    unfold IntKind.has at h; exact h
  try dsimp only
  rw [wrap_sm hpl.1 (by omega), wrap_sm hmo.1 hmo.2]
  simp only [show (((0 : Int), (0 : Int), ()) : Rst) = rest0 from rfl]
  refine ⟨trivial, fun _ => ⟨trivial, trivial⟩, fun hf => ⟨trivial, fun _ => ⟨trivial, trivial⟩, fun hv => ?_⟩⟩
  have hV := vp_of (nf hv)
  have hFe := few_of (nf hf)
  have hs := hV.small (by omega)
  have ho := hV.order
  have hk1 := hV.v.k1
  have hk0 : 0 ≤ k := by omega
  have hs0 : smallP (p.1, [], ()) := ⟨hs.1, by simp, by simp⟩
  have ho0 : orderP (p.1, [], ()) := ⟨ho.1, List.Pairwise.nil⟩
  have hs1 : smallP (List.take 1 (List.drop 0 p.1), p.2.1, ()) := ⟨by show (List.take 1 (List.drop 0 p.1)).length ≤ 1000; simp; omega, hs.2⟩
  have ho1 : orderP (List.take 1 (List.drop 0 p.1), p.2.1, ()) := ⟨ho.1.sublist ((List.take_sublist _ _).trans (List.drop_sublist _ _)), ho.2⟩
  have hof : ofH (p.1 ++ []) k = p.1 := ofH_valid hV.v fun x => by simp
  have hlen0 : p.1.length + ([] : List Hit).length ≤ 1000 := by simp; omega
  have hn0 := sure_none hV
  have he0 := exact_none hV
  have hmain : p.2.1.length ≠ 0 → 0 ≤ place.tmod p.2.1.length ∧ place.tmod p.2.1.length < p.2.1.length := fun h => ⟨Int.tmod_nonneg _ hpl.1, Int.tmod_lt_of_pos _ (by omega)⟩
  generalize place.tmod p.2.1.length = i at hmain ⊢
  simp only [hs, ho, hs0, ho0, hs1, ho1, hk1, hof, hn0, he0, true_and, and_self]
  have tail : p.2.1.length ≠ 0 → (((p.2.1.length : Int) ≠ 0 ∧ (0 ≤ i ∧ i < p.2.1.length) ∧ i ≤ p.2.1.length ∧ isI64 (i + 1) ∧ 0 ≤ i + 1 ∧ i + 1 ≤ p.2.1.length) ∧ Parts p k i.toNat (min 134217728 ((p.2.1.getD i.toNat rest0).1 + more), (p.2.1.getD i.toNat rest0).2.1, ()) ∧ isI64 ((p.2.1.getD i.toNat rest0).1 + more)) := fun h => by
    obtain ⟨h1, h2⟩ := hmain h
    have hx := (okR_iff _).1 (hV.ok _ (PL.getD_mem p.2.1 rest0 (show i.toNat < p.2.1.length by omega)))
    exact ⟨⟨by omega, ⟨h1, h2⟩, by omega, i64s (by omega) (by omega), by omega, by omega⟩, ⟨hV, hFe.2, by omega, by show _ ≤ min _ _; omega, by show min _ _ ≤ _; omega, rfl⟩, i64s (by omega) (by omega)⟩
  have fin : p.2.1.length = 0 → decide (sureP p k = p.1.length) = true := fun h => by
    have e : p.2.1 = [] := List.eq_nil_of_length_eq_zero h
    obtain ⟨ph, pl, pu⟩ := p
    have e : pl = [] := e
    subst e
    exact decide_eq_true hn0
  by_cases hz : p.2.1.length = 0
  · have hf := fin hz
    by_cases h0 : 0 < p.1.length
    · have h1 : (decide (sureP (List.take 1 (List.drop 0 p.1), p.2.1, ()) k = 1) != decide (0 < sureP p k)) = false := by rw [first_sure (k := k) hs ho h0]; simp
      have h2 : decide (0 < (p.1.length : Int)) = true := decide_eq_true (by omega)
      simp only [h1, h2, hz, hf]
      simp
      omega
    · have h2 : decide (0 < (p.1.length : Int)) = false := decide_eq_false (by omega)
      simp only [h2, hz, hf]
      simp
  · obtain ⟨⟨t1, ⟨t2, t3⟩, t4, t5, t6, t7⟩, hP, t8⟩ := tail hz
    have e1 : List.take (i.toNat - 0) (List.drop 0 p.2.1) = p.2.1.take i.toNat := by simp
    have e2 : List.take (p.2.1.length - (i + 1).toNat) (List.drop (i + 1).toNat p.2.1) = p.2.1.drop (i.toNat + 1) := by
      rw [dropE, show (i + 1).toNat = i.toNat + 1 by omega]
    rw [e1, e2]
    generalize hX : ((min 134217728 ((p.2.1.getD i.toNat rest0).1 + more), (p.2.1.getD i.toNat rest0).2.1, ()) : Rst) = X at hP ⊢
    have hl1 : (p.2.1.take i.toNat ++ p.2.1.drop (i.toNat + 1)).length ≤ 60 := by have := hP.sub.length_le; omega
    have hl2 : (sortR (p.2.1.take i.toNat ++ p.2.1.drop (i.toNat + 1) ++ [X])).length ≤ 61 := by
      rw [(sortR_perm _).length_eq, List.length_append]; simp only [List.length_cons, List.length_nil]; omega
    have sA := hP.less.small (show _ ≤ 1000 by show (p.2.1.take i.toNat ++ p.2.1.drop (i.toNat + 1)).length ≤ 1000; omega)
    have oA := hP.less.order
    have sB := hP.moved.small (show _ ≤ 1000 by show (sortR _).length ≤ 1000; omega)
    have oB := hP.moved.order
    have uA := hP.sure1
    have uB := hP.sure2
    have xA := fun he => exact_more hV he hz (l' := p.2.1.take i.toNat ++ p.2.1.drop (i.toNat + 1)) fun y hy => ⟨y, hP.sub.mem hy, Int.le_refl _⟩
    have xB := fun he => exact_more hV he hz (l' := sortR (p.2.1.take i.toNat ++ p.2.1.drop (i.toNat + 1) ++ [X])) hP.mem
    have r1 : roomP G1 44 (p.2.1.take i.toNat).length := roomR rfl (by rw [List.length_take]; omega)
    have r2 : roomP G1 44 ((p.2.1.take i.toNat).length + (p.2.1.drop (i.toNat + 1)).length) := roomR rfl (by rw [List.length_take, List.length_drop]; omega)
    have r3 : (p.2.1.take i.toNat ++ p.2.1.drop (i.toNat + 1)).length + [X].length ≤ 1000 := by simp only [List.length_cons, List.length_nil]; omega
    have uA' : decide (sureP p k ≤ sureP (p.1, p.2.1.take i.toNat ++ p.2.1.drop (i.toNat + 1), ()) k) = true := decide_eq_true uA
    have uB' : decide (sureP p k ≤ sureP (p.1, sortR (p.2.1.take i.toNat ++ p.2.1.drop (i.toNat + 1) ++ [X]), ()) k) = true := decide_eq_true uB
    simp only [uA', uB', sA, oA, sB, oB, r1, r2, r3, t1, t2, t3, t4, t5, t6, t7, t8, hk0, ne_eq, not_false_eq_true, and_self, true_and]
    cases hE : exactP p k with
    | false =>
      by_cases h0 : 0 < p.1.length
      · have h1 : (decide (sureP (List.take 1 (List.drop 0 p.1), p.2.1, ()) k = 1) != decide (0 < sureP p k)) = false := by rw [first_sure (k := k) hs ho h0]; simp
        have h2 : decide (0 < (p.1.length : Int)) = true := decide_eq_true (by omega)
        simp only [h1, h2]
        simp
        omega
      · have h2 : decide (0 < (p.1.length : Int)) = false := decide_eq_false (by omega)
        simp only [h2]
        simp
        omega
    | true =>
      have xA := xA hE
      have xB := xB hE
      by_cases h0 : 0 < p.1.length
      · have h1 : (decide (sureP (List.take 1 (List.drop 0 p.1), p.2.1, ()) k = 1) != decide (0 < sureP p k)) = false := by rw [first_sure (k := k) hs ho h0]; simp
        have h2 : decide (0 < (p.1.length : Int)) = true := decide_eq_true (by omega)
        simp only [h1, h2, xA, xB]
        simp
        omega
      · have h2 : decide (0 < (p.1.length : Int)) = false := decide_eq_false (by omega)
        simp only [h2, xA, xB]
        simp
        omega
end Go.Proofs.Ytmimchmdikjilaa
