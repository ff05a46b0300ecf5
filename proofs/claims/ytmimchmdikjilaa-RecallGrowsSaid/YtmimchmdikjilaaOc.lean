import Derived.Test.YtmimchmdikjilaaOb
namespace Go.Proofs.Ytmimchmdikjilaa
open Go.AM Go.PL
set_option linter.unusedVariables false
theorem okL_iff {l : List Rst} : okL l = true ↔ ∀ j, j < l.length → okR (l.getD j rest0) = true := upto_iff
theorem sortedL_iff {l : List Rst} : sortedL l = true ↔ ∀ j, j < l.length → j = 0 ∨ ltQ (l.getD j rest0) (l.getD (j - 1) rest0) = false := by
  unfold sortedL
  rw [upto_iff]
  simp only [Bool.or_eq_true, decide_eq_true_eq, Bool.not_eq_true']
theorem validP_no1 {p : Piece} {k : Int} (h : validH p.1 k = false) : false = validP p k := by unfold validP; rw [h]; rfl
theorem validP_no2 {p : Piece} {k : Int} (h : ¬ (p.2.1.length : Int) ≤ 65536) : false = validP p k := by unfold validP; rw [decide_eq_false h]; simp
theorem validP_no3 {p : Piece} {k : Int} {j : Nat} (hj : j < p.2.1.length) (h : okR (p.2.1.getD j rest0) = false) : false = validP p k := by
  have : okL p.2.1 = false := eq_no fun q => by have := okL_iff.1 q j hj; rw [h] at this; cases this
  unfold validP
  rw [this]; simp
theorem validP_no4 {p : Piece} {k : Int} {j : Nat} (hj : j < p.2.1.length) (h0 : j ≠ 0) (h : ltQ (p.2.1.getD j rest0) (p.2.1.getD (j - 1) rest0) = true) : false = validP p k := by
  have : sortedL p.2.1 = false := eq_no fun q => by
    rcases sortedL_iff.1 q j hj with e | e
    · exact h0 e
    · rw [h] at e; cases e
  unfold validP
  rw [this]; simp
theorem validP_yes {p : Piece} {k : Int} (h1 : validH p.1 k = true) (h2 : (p.2.1.length : Int) ≤ 65536) (h3 : okL p.2.1 = true) (h4 : sortedL p.2.1 = true) : true = validP p k := by
  unfold validP
  rw [h1, decide_eq_true h2, h3, h4]; rfl
theorem sat_validP : Sat bs.P 12 validPSp := by
  refine sat_nf (C := Q1) ssQ1 (fun x => validP_nf x.1 x.2) fun (⟨p, k⟩ : Piece × Int) hk _ => ?_
  obtain ⟨hits, l, u⟩ := p
  have hm : l.length ≤ 9223372036854775807 := hk.1.2.1.1
  try dsimp only
  simp only [show (((0 : Int), (0 : Int), ()) : Rst) = rest0 from rfl]
  refine ⟨trivial, fun hv => ⟨fun hl => ?_, fun hl => validP_no2 (df hl)⟩, fun hv => validP_no1 hv⟩
  have hl := dt hl
  refine ⟨fun x => 0 ≤ x ∧ x ≤ l.length ∧ ∀ j, j < x.toNat → okR (l.getD j rest0) = true, fun x => (l.length - x).toNat, ⟨by omega, by omega, by simp⟩, ?_⟩
  rintro i ⟨h0, h1, h2⟩
  dsimp only
  refine ⟨fun hlt => ⟨⟨h0, dt hlt⟩, trivial, fun hb => ⟨fun hc => absurd h0 (ndt hc), fun _ => validP_no3 (p := (hits, l, u)) (show i.toNat < l.length by have := dt hlt; omega) (nt hb)⟩, fun hb => ⟨i64_lt h0 (dt hlt) hm, ⟨by omega, by have := dt hlt; omega, fun j hj => ?_⟩, by have := dt hlt; omega⟩⟩,
    fun hlt => ⟨fun _ => ⟨i64s (by omega) (by omega), ?_⟩, fun h => (by cases h)⟩⟩
  · by_cases e : j = i.toNat
    · rw [e]; exact nf hb
    · exact h2 j (by omega)
  have hlt := df hlt
  have hok : okL l = true := okL_iff.2 fun j hj => h2 j (by omega)
  refine ⟨fun x => -1 ≤ x ∧ x ≤ (l.length : Int) - 1 ∧ ∀ j : Nat, x < (j : Int) → j < l.length → j = 0 ∨ ltQ (l.getD j rest0) (l.getD (j - 1) rest0) = false, fun x => (x + 1).toNat, ⟨by omega, by omega, fun j h3 h4 => by omega⟩, ?_⟩
  rintro x ⟨h3, h4, h5⟩
  dsimp only
  refine ⟨fun hx => ?_, fun hx => validP_yes hv hl hok (sortedL_iff.2 fun j hj => ?_)⟩
  · have hx := dt hx
    refine ⟨⟨by omega, by omega⟩, i64s (by omega) (by omega), ⟨by omega, by omega⟩, trivial, fun hc => ?_, fun hc => ⟨i64s (by omega) (by omega), ⟨by omega, by omega, fun j h6 h7 => ?_⟩, by omega⟩⟩
    · exact validP_no4 (p := (hits, l, u)) (j := x.toNat) (show x.toNat < l.length by omega) (by omega) (by rw [show x.toNat - 1 = (x - 1).toNat by omega]; exact hc)
    · by_cases e : j = x.toNat
      · rw [e, show x.toNat - 1 = (x - 1).toNat by omega]; exact .inr hc
      · exact h5 j (by omega) h7
  · have hx := df hx
    by_cases e : j = 0
    · exact .inl e
    · exact h5 j (by omega) hj
theorem sat_rValidP : Sat bs.P 11 validPSp := by
  refine sat_nf (C := Q1) ssQ1 (fun x => rValidP_nf x.1 x.2) fun (⟨p, k⟩ : Piece × Int) hk _ => ?_
  obtain ⟨hits, l, u⟩ := p
  have hm : l.length ≤ 9223372036854775807 := hk.1.2.1.1
  try dsimp only
  simp only [show (((0 : Int), (0 : Int), ()) : Rst) = rest0 from rfl, restEta]
  refine ⟨trivial, fun hv => validP_no1 (nt hv), fun hv => ⟨fun hl => validP_no2 (p := (hits, l, u)) (by have := dt hl; show ¬ (l.length : Int) ≤ 65536; omega), fun hl => ?_⟩⟩
  have hv := nf hv
  have hl := df hl
  refine ⟨fun x => 0 ≤ x ∧ x ≤ l.length ∧ ∀ j, j < x.toNat → okR (l.getD j rest0) = true ∧ (j = 0 ∨ ltQ (l.getD j rest0) (l.getD (j - 1) rest0) = false), fun x => (l.length - x).toNat, ⟨by omega, by omega, by simp⟩, ?_⟩
  rintro i ⟨h0, h1, h2⟩
  dsimp only
  refine ⟨fun hlt => ?_, fun hlt => ?_⟩
  · have hlt := dt hlt
    have hi : i.toNat < l.length := by omega
    have hbad : ¬ (0 ≤ (l.getD i.toNat rest0).1 ∧ (l.getD i.toNat rest0).1 ≤ 134217728 ∧ 1 ≤ (l.getD i.toNat rest0).2.1 ∧ (l.getD i.toNat rest0).2.1 ≤ 4096) → false = validP (hits, l, u) k := fun h => validP_no3 (p := (hits, l, u)) hi (eq_no fun q => h ((okR_iff _).1 q))
    refine ⟨⟨h0, hlt⟩, fun c1 => hbad (by have := dt c1; omega), fun c1 => ⟨fun c2 => hbad (by have := dt c2; omega), fun c2 => ⟨fun c3 => hbad (by have := dt c3; omega), fun c3 => ⟨fun c4 => hbad (by have := dt c4; omega), fun c4 => ?_⟩⟩⟩⟩
    have hok : okR (l.getD i.toNat rest0) = true := (okR_iff _).2 (by have := df c1; have := df c2; have := df c3; have := df c4; omega)
    refine ⟨fun c5 => ⟨i64s (by omega) (by omega), ⟨by have := dt c5; omega, by omega⟩, trivial, fun c6 => ?_, fun c6 => ⟨i64_lt h0 hlt hm, ⟨by omega, by omega, fun j hj => ?_⟩, by omega⟩⟩, fun c5 => ⟨i64_lt h0 hlt hm, ⟨by omega, by omega, fun j hj => ?_⟩, by omega⟩⟩
    · have c5 := dt c5
      exact validP_no4 (p := (hits, l, u)) hi (by omega) (by rw [show i.toNat - 1 = (i - 1).toNat by omega]; exact c6)
    · by_cases e : j = i.toNat
      · rw [e, show i.toNat - 1 = (i - 1).toNat by omega]; exact ⟨hok, .inr c6⟩
      · exact h2 j (by omega)
    · by_cases e : j = i.toNat
      · have := df c5
        rw [e]; exact ⟨hok, .inl (by omega)⟩
      · exact h2 j (by omega)
  · have hlt := df hlt
    exact validP_yes (p := (hits, l, u)) hv (show (l.length : Int) ≤ 65536 by omega) (okL_iff.2 fun j hj => (h2 j (by have hj : j < l.length := hj; omega)).1) (sortedL_iff.2 fun j hj => (h2 j (by have hj : j < l.length := hj; omega)).2)
/-! how many are sure -/
theorem sureN_succ (p : Piece) (k : Int) (n : Nat) : sureN p k (n + 1) = sureN p k n + if sureAt p k n = true then 1 else 0 := by
  unfold sureN
  rw [List.range_succ, List.filter_append, List.length_append]
  by_cases h : sureAt p k n = true
  · rw [if_pos h, List.filter_cons, if_pos h]; simp
  · rw [if_neg h, List.filter_cons, if_neg h]; simp
theorem sureN_le (p : Piece) (k : Int) (n : Nat) : 0 ≤ sureN p k n ∧ sureN p k n ≤ n := by
  unfold sureN
  have := List.length_filter_le (fun i => sureAt p k i) (List.range n)
  rw [List.length_range] at this
  omega
theorem sureN_stop (p : Piece) (k : Int) {n : Nat} (h : ∀ i, n ≤ i → sureAt p k i = false) : ∀ d, sureN p k (n + d) = sureN p k n
  | 0 => rfl
  | d + 1 => by rw [← Nat.add_assoc, sureN_succ, sureN_stop p k h d, if_neg (by rw [h _ (by omega)]; simp)]; omega
theorem key_mono {p : Piece} (h : orderP p) {i j : Nat} (hij : i ≤ j) (hj : j < p.1.length) : (p.1.getD i hit0).2.2.1 ≤ (p.1.getD j hit0).2.2.1 := by
  rw [getE p.1 hj, getE p.1 (by omega)]
  rcases Nat.lt_or_ge i j with h' | h'
  · exact List.pairwise_iff_getElem.1 h.1 i j (by omega) hj h'
  · have : i = j := by omega
    subst this; exact Int.le_refl _
theorem sureAt_mono {p : Piece} (hs : smallP p) (h : orderP p) (k : Int) {i j : Nat} (hij : i ≤ j) (hj : j < p.1.length) (hno : sureAt p k i = false) : sureAt p k j = false := by
  unfold sureAt at *
  have hno := df hno
  have := underR_mono (fun x hx => (hs.2.2 x hx).1) (key_mono h hij hj)
  exact decide_eq_false (by omega)
theorem sureP_stop {p : Piece} (hs : smallP p) (h : orderP p) (k : Int) {i : Nat} (hi : i < p.1.length) (hno : sureAt p k i = false) : sureN p k i = sureP p k := by
  have key : ∀ d, i + d ≤ p.1.length → sureN p k (i + d) = sureN p k i := by
    intro d
    induction d with
    | zero => intro _; rfl
    | succ d ih =>
      intro hd
      rw [← Nat.add_assoc, sureN_succ, ih (by omega), if_neg (by rw [sureAt_mono hs h k (show i ≤ i + d by omega) (by omega) hno]; simp)]
      omega
  have := key (p.1.length - i) (by omega)
  rw [show i + (p.1.length - i) = p.1.length by omega] at this
  exact this.symm
theorem sat_sure : Sat bs.P 13 surePSp := by
  refine sat_nf (C := Q1) ssQ1 (fun x => sure_nf x.1 x.2) fun (⟨p, k⟩ : Piece × Int) hk hp => ?_
  obtain ⟨hp, ho⟩ : smallP p ∧ orderP p := hp
  try dsimp only
  have hm := hp.1
  simp only [show (((0 : Int), (0 : Int), (0 : Int), ()) : Hit) = hit0 from rfl]
  refine ⟨fun x => 0 ≤ x.1 ∧ x.1 ≤ p.1.length ∧ x.2 = sureN p k x.1.toNat, fun x => (p.1.length - x.1).toNat, ⟨by omega, by omega, rfl⟩, ?_⟩
  rintro ⟨i, n⟩ ⟨h0, h1, h2⟩
  dsimp only at h0 h1 h2 ⊢
  subst h2
  have hn := sureN_le p k i.toNat
  have hu := under_small hp.2 (p.1.getD i.toNat hit0).2.2.1
  have hat : sureAt p k i.toNat = decide (i + 1 + underR p.2.1 (p.1.getD i.toNat hit0).2.2.1 ≤ k) := by
    unfold sureAt
    rw [show ((i.toNat : Nat) : Int) = i by omega]
  refine ⟨fun hlt => ?_, fun hlt => ?_⟩
  · have hlt := dt hlt
    refine ⟨⟨h0, hlt⟩, i64s (by omega) (by omega), ⟨hp, ho⟩, i64s (by omega) (by omega), fun hc => ?_, fun hc => ⟨i64s (by omega) (by omega), i64s (by omega) (by omega), ⟨by omega, by omega, ?_⟩, by omega⟩⟩
    · exact sureP_stop hp ho k (by omega) (by rw [hat]; exact decide_eq_false (by have := dt hc; omega))
    · rw [show (i + 1).toNat = i.toNat + 1 by omega, sureN_succ, if_pos (by rw [hat]; exact decide_eq_true (by have := df hc; omega))]
  · have hlt := df hlt
    unfold sureP
    rw [show i.toNat = p.1.length by omega]
theorem sat_rSure : Sat bs.P 14 surePSp := by
  refine sat_nf (C := Q1) ssQ1 (fun x => rSure_nf x.1 x.2) fun (⟨p, k⟩ : Piece × Int) hk hp => ?_
  obtain ⟨hp, ho⟩ : smallP p ∧ orderP p := hp
  try dsimp only
  have hm := hp.1
  simp only [show (((0 : Int), (0 : Int), (0 : Int), ()) : Hit) = hit0 from rfl]
  refine ⟨fun x => 0 ≤ x.1 ∧ x.1 ≤ p.1.length ∧ x.2 = sureN p k x.1.toNat, fun x => (p.1.length - x.1).toNat, ⟨by omega, by omega, rfl⟩, ?_⟩
  rintro ⟨i, n⟩ ⟨h0, h1, h2⟩
  dsimp only at h0 h1 h2 ⊢
  subst h2
  have hn := sureN_le p k i.toNat
  have hu := under_small hp.2 (p.1.getD i.toNat hit0).2.2.1
  have hat : sureAt p k i.toNat = decide (i + 1 + underR p.2.1 (p.1.getD i.toNat hit0).2.2.1 ≤ k) := by
    unfold sureAt
    rw [show ((i.toNat : Nat) : Int) = i by omega]
  refine ⟨fun hlt => ?_, fun hlt => ?_⟩
  · have hlt := dt hlt
    refine ⟨i64s (by omega) (by omega), ⟨h0, hlt⟩, hp.2, i64s (by omega) (by omega), fun hc => ⟨i64s (by omega) (by omega), i64s (by omega) (by omega), ⟨by omega, by omega, ?_⟩, by omega⟩, fun hc => ⟨i64s (by omega) (by omega), ⟨by omega, by omega, ?_⟩, by omega⟩⟩
    · rw [show (i + 1).toNat = i.toNat + 1 by omega, sureN_succ, if_pos (by rw [hat]; exact hc)]
    · rw [show (i + 1).toNat = i.toNat + 1 by omega, sureN_succ, if_neg (by rw [hat, hc]; simp), Int.add_zero]
  · have hlt := df hlt
    unfold sureP
    rw [show i.toNat = p.1.length by omega]
theorem exact_case {p : Piece} {k : Int} (hp : 1 ≤ k) (hm : p.1.length ≤ 9223372036854775807) : (decide ((p.1.length : Int) < k) = true → decide ((p.2.1.length : Int) = 0) = exactP p k) ∧ (decide ((p.1.length : Int) < k) = false →
    True ∧ isI64 ((p.1.length : Int) - 1) ∧ (0 ≤ (p.1.length : Int) - 1 ∧ (p.1.length : Int) - 1 < p.1.length) ∧ decide ((p.1.getD ((p.1.length : Int) - 1).toNat hit0).2.2.1 < leastP p) = exactP p k) := by
  unfold exactP
  refine ⟨fun h => by rw [if_pos (dt h)]; exact decide_eq_decide.2 (by omega), fun h => ?_⟩
  have h := df h
  exact ⟨trivial, i64s' (by omega) (by omega), ⟨by omega, by omega⟩, by rw [if_neg h, show ((p.1.length : Int) - 1).toNat = p.1.length - 1 by omega]⟩
where
  i64s' {n : Int} (h : 0 ≤ n) (h' : n ≤ 9223372036854775807) : isI64 n := by unfold isI64; omega
theorem sat_exact : Sat bs.P 15 exactPSp := by
  refine sat_nf (C := Q1) ssQ1 (fun x => exact_nf x.1 x.2) fun (⟨p, k⟩ : Piece × Int) hk hp => ?_
  exact exact_case hp hk.1.1.1
theorem sat_rExact : Sat bs.P 16 exactPSp := by
  refine sat_nf (C := Q1) ssQ1 (fun x => rExact_nf x.1 x.2) fun (⟨p, k⟩ : Piece × Int) hk hp => ?_
  exact exact_case hp hk.1.1.1
theorem rest_eqs (a b : Rst) : (decide (a.1 = b.1) && (decide (a.2.1 = b.2.1) && true)) = decide (a = b) := by
  obtain ⟨a1, a2, u⟩ := a
  obtain ⟨b1, b2, v⟩ := b
  apply bool_is
  simp [Prod.ext_iff]
theorem sat_sameP : Sat bs.P 22 samePSp := by
  refine sat_nf (C := Q1) ssQ1 (fun x => sameP_nf x.1 x.2) fun (⟨a, b⟩ : Piece × Piece) hk _ => ?_
  obtain ⟨h1, l1, u1⟩ := a
  obtain ⟨h2, l2, u2⟩ := b
  have hm : l1.length ≤ 9223372036854775807 := hk.1.2.1.1
  try dsimp only
  simp only [show (((0 : Int), (0 : Int), ()) : Rst) = rest0 from rfl, rest_eqs]
  refine ⟨trivial, fun h => (decide_eq_false fun e => ndt h (congrArg Prod.fst e)).symm, fun h => ⟨fun h' => (decide_eq_false fun e => ndt h' (by rw [show l1 = l2 from congrArg (fun x : Piece => x.2.1) e])).symm, fun h' => ?_⟩⟩
  have h := ndf h
  have h' := ndf h'
  refine ⟨fun x => 0 ≤ x ∧ x ≤ l1.length ∧ ∀ i, i < x.toNat → l1.getD i rest0 = l2.getD i rest0, fun x => (l1.length - x).toNat, ⟨by omega, by omega, by simp⟩, ?_⟩
  rintro i ⟨h3, h4, h5⟩
  dsimp only
  refine ⟨fun hlt => ?_, fun hlt => ?_⟩
  · have hlt := dt hlt
    refine ⟨⟨h3, hlt⟩, ⟨h3, by omega⟩, fun hn => (decide_eq_false fun e => ndt hn (by rw [show l1 = l2 from congrArg (fun x : Piece => x.2.1) e])).symm, fun hn => ⟨i64_lt h3 hlt hm, ⟨by omega, by omega, fun j hj => ?_⟩, by omega⟩⟩
    by_cases e : j = i.toNat
    · rw [e]; exact ndf hn
    · exact h5 j (by omega)
  · have hlt := df hlt
    have e : l1 = l2 := listL_ext rest0 (by omega) fun j hj => h5 j (by omega)
    subst h e
    exact (decide_eq_true rfl).symm
theorem putR_split (x : Rst) : ∀ (l : List Rst) (n : Nat), (∀ y ∈ l.take n, ltQ x y = false) → (n < l.length → ltQ x (l.getD n rest0) = true) → putR l x = l.take n ++ x :: l.drop n
  | [], n, _, _ => by simp [putR]
  | y :: l, 0, _, h => by
    have h := h (by simp)
    simp only [List.getD_cons_zero] at h
    simp [putR, h]
  | y :: l, n + 1, h1, h2 => by
    have h3 := h1 y (by simp)
    unfold putR
    rw [if_neg (by rw [h3]; simp), putR_split x l n (fun z hz => h1 z (by simp [hz])) (fun hn => by have := h2 (by simpa using hn); simpa using this)]
    simp
theorem sat_rPutR : Sat bs.P 43 putRSp := by
  refine sat_nf (C := Q1) ssQ1 (fun x => rPutR_nf x.1 x.2) fun (⟨l, x⟩ : List Rst × Rst) hk hp => ?_
  have hp : l.length ≤ 100000 := hp
  try dsimp only
  simp only [show (((0 : Int), (0 : Int), ()) : Rst) = rest0 from rfl, dropE]
  refine ⟨fun s => 0 ≤ s.1 ∧ s.1 ≤ l.length ∧ s.2 = l.take s.1.toNat ∧ ∀ y ∈ l.take s.1.toNat, ltQ x y = false, fun s => (l.length - s.1).toNat, ⟨by omega, by omega, by simp, by simp⟩, ?_⟩
  rintro ⟨i, out⟩ ⟨h0, h1, h2, h3⟩
  dsimp only at h0 h1 h2 h3 ⊢
  subst h2
  have hr : (l.take i.toNat).length ≤ 100000 := by rw [List.length_take]; omega
  have hfin : (i.toNat < l.length → ltQ x (l.getD i.toNat rest0) = true) → roomP Q1 44 ((l.take i.toNat).length + [x].length) ∧ (0 ≤ i ∧ i ≤ l.length) ∧ roomP Q1 44 ((l.take i.toNat ++ [x]).length + (l.drop i.toNat).length) ∧ l.take i.toNat ++ [x] ++ l.drop i.toNat = putR l x := fun h => by
    refine ⟨roomR rfl (by simp only [List.length_cons, List.length_nil]; omega), ⟨h0, h1⟩, roomR rfl ?_, ?_⟩
    · rw [List.length_append, List.length_drop]
      simp only [List.length_cons, List.length_nil]
      omega
    · rw [putR_split x l i.toNat h3 h]
      simp
  refine ⟨fun hlt => ?_, fun hlt => hfin fun h => absurd h (by have := df hlt; omega)⟩
  have hlt := dt hlt
  refine ⟨⟨h0, hlt⟩, trivial, fun hc => ⟨⟨h0, hlt⟩, roomR rfl (by simp only [List.length_cons, List.length_nil]; omega), i64s (by omega) (by omega), ⟨by omega, by omega, (take_step l rest0 h0 hlt).symm, fun y hy => ?_⟩, by omega⟩, fun hc => hfin fun _ => nf hc⟩
  rw [take_step l rest0 h0 hlt] at hy
  rcases List.mem_append.1 hy with h4 | h4
  · exact h3 y h4
  · have h4 : y = l.getD i.toNat rest0 := by simpa using h4
    rw [h4]; exact nt hc
end Go.Proofs.Ytmimchmdikjilaa
