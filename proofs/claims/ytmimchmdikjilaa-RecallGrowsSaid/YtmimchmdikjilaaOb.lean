import Derived.Test.YtmimchmdikjilaaOa
import Derived.Test.YtmimchmdikjilaaHk
namespace Go.Proofs.Ytmimchmdikjilaa
open Go.AM Go.PL
set_option linter.unusedVariables false
/-! ### Plain facts -/
theorem restEta (a : Rst) : ((a.1, a.2.1, ()) : Rst) = a := rfl
theorem dropE {α : Type} (l : List α) (n : Nat) : List.take (l.length - n) (l.drop n) = l.drop n := List.take_of_length_le (by simp)
theorem ltR_eq (a b : Rst) : ltQ a b = true ↔ a.1 < b.1 ∨ (a.1 = b.1 ∧ a.2.1 < b.2.1) := by
  unfold ltQ cmpR sgnS
  simp only [decide_eq_true_eq]
  split <;> split <;> (try split) <;> (try split) <;> omega
theorem ltR_no (a b : Rst) : ltQ a b = false ↔ b.1 < a.1 ∨ (a.1 = b.1 ∧ b.2.1 ≤ a.2.1) := by
  constructor
  · intro h
    have h : ¬ _ := fun q => Bool.noConfusion (h.symm.trans ((ltR_eq a b).2 q))
    omega
  · intro h
    cases hc : ltQ a b
    · rfl
    · have := (ltR_eq a b).1 hc; omega
theorem getR (l : List Rst) {i : Nat} (h : i < l.length) : l.getD i rest0 = l[i] := by simp [h]
theorem okR_iff (x : Rst) : okR x = true ↔ 0 ≤ x.1 ∧ x.1 ≤ 134217728 ∧ 1 ≤ x.2.1 ∧ x.2.1 ≤ 4096 := by
  unfold okR
  simp only [Bool.and_eq_true, decide_eq_true_eq]
  omega
theorem underR_append (a b : List Rst) (key : Int) : underR (a ++ b) key = underR a key + underR b key := by
  unfold underR
  rw [List.filter_append, List.map_append, List.sum_append]
theorem underR_one (x : Rst) (key : Int) : underR [x] key = if x.1 ≤ key then x.2.1 else 0 := by
  unfold underR
  by_cases h : x.1 ≤ key <;> simp [h]
theorem underR_congr {l : List Rst} {a b : Int} (h : ∀ x ∈ l, x.1 ≤ a ↔ x.1 ≤ b) : underR l a = underR l b := by
  have e : l.filter (fun x => decide (x.1 ≤ a)) = l.filter (fun x => decide (x.1 ≤ b)) := List.filter_congr fun x hx => decide_eq_decide.2 (h x hx)
  unfold underR
  rw [e]
theorem underR_none {l : List Rst} {a : Int} (h : ∀ x ∈ l, ¬ x.1 ≤ a) : underR l a = 0 := by
  unfold underR
  rw [List.filter_eq_nil_iff.2 fun x hx => by simpa using h x hx]
  rfl
theorem underR_le {l : List Rst} (h : ∀ x ∈ l, 0 ≤ (x : Rst).2.1 ∧ x.2.1 ≤ 4096) (key : Int) : 0 ≤ underR l key ∧ underR l key ≤ 4096 * l.length := by
  induction l with
  | nil => simp [underR]
  | cons x l ih =>
    have ih := ih fun y hy => h y (List.mem_cons_of_mem _ hy)
    have hx := h x List.mem_cons_self
    have e := underR_append [x] l key
    rw [List.singleton_append, underR_one] at e
    rw [e, List.length_cons]
    split <;> omega
theorem underR_mono {l : List Rst} (h : ∀ x ∈ l, 0 ≤ (x : Rst).2.1) {a b : Int} (hab : a ≤ b) : underR l a ≤ underR l b := by
  induction l with
  | nil => simp [underR]
  | cons x l ih =>
    have ih := ih fun y hy => h y (List.mem_cons_of_mem _ hy)
    have hx := h x List.mem_cons_self
    have e := underR_append [x] l
    simp only [List.singleton_append, underR_one] at e
    rw [e, e]
    split <;> split <;> omega
theorem underR_step (l : List Rst) {i : Int} (h0 : 0 ≤ i) (h1 : i < l.length) (key : Int) : underR (l.take (i + 1).toNat) key = underR (l.take i.toNat) key + if (l.getD i.toNat rest0).1 ≤ key then (l.getD i.toNat rest0).2.1 else 0 := by
  rw [take_step l rest0 h0 h1, underR_append, underR_one]
theorem smallL_take {l : List Rst} (h : smallL l) (n : Nat) : smallL (l.take n) := ⟨by rw [List.length_take]; have := h.1; omega, fun x hx => h.2 x (List.mem_of_mem_take hx)⟩
theorem smallL_drop {l : List Rst} (h : smallL l) (n : Nat) : smallL (l.drop n) := ⟨by rw [List.length_drop]; have := h.1; omega, fun x hx => h.2 x (List.mem_of_mem_drop hx)⟩
theorem under_small {l : List Rst} (h : smallL l) (key : Int) : 0 ≤ underR l key ∧ underR l key ≤ 4096000 := by
  have := underR_le h.2 key
  have := h.1
  omega
def sumR (l : List Rst) : Int := (l.map fun x => x.2.1).sum
theorem sumR_step (l : List Rst) {i : Int} (h0 : 0 ≤ i) (h1 : i < l.length) : sumR (l.take (i + 1).toNat) = sumR (l.take i.toNat) + (l.getD i.toNat rest0).2.1 := by
  unfold sumR
  rw [take_step l rest0 h0 h1, List.map_append, List.sum_append]
  simp
theorem underR_all {l : List Rst} {key : Int} (h : ∀ x ∈ l, x.1 ≤ key) : underR l key = sumR l := by
  unfold underR sumR
  rw [List.filter_eq_self.2 fun x hx => by simpa using h x hx]
theorem sumR_le {l : List Rst} (h : smallL l) : 0 ≤ sumR l ∧ sumR l ≤ 4096000 := by
  obtain ⟨b, hb⟩ : ∃ b : Int, ∀ x ∈ l, x.1 ≤ b := by
    clear h
    induction l with
    | nil => exact ⟨0, by simp⟩
    | cons x l ih =>
      obtain ⟨b, hb⟩ := ih
      refine ⟨max b x.1, fun y hy => ?_⟩
      rcases List.mem_cons.1 hy with e | e
      · subst e; omega
      · have := hb y e; omega
  rw [← underR_all hb]
  exact under_small h b
/-! first places -/
theorem fidx_lt {n : Nat} {p : Nat → Bool} (h : ∃ i, i < n ∧ p i = true) : (List.range n).findIdx p < n := by
  have := List.findIdx_lt_length_of_exists (p := p) (xs := List.range n) (by obtain ⟨i, h1, h2⟩ := h; exact ⟨i, List.mem_range.2 h1, h2⟩)
  simpa using this
theorem fidx_is {n : Nat} {p : Nat → Bool} (h : (List.range n).findIdx p < n) : p ((List.range n).findIdx p) = true := by
  have := List.findIdx_getElem (p := p) (xs := List.range n) (w := by simpa using h)
  simpa using this
theorem fidx_no {n : Nat} {p : Nat → Bool} {i : Nat} (h : i < (List.range n).findIdx p) : p i = false := by
  have := List.not_of_lt_findIdx h
  simpa using this
theorem fidx_le (n : Nat) (p : Nat → Bool) : (List.range n).findIdx p ≤ n := by
  have := List.findIdx_le_length (p := p) (xs := List.range n)
  simpa using this
theorem fidx_eq {n i : Nat} {p : Nat → Bool} (hi : i < n) (h : p i = true) (hn : ∀ j, j < i → p j = false) : (List.range n).findIdx p = i := by
  have h1 := fidx_lt ⟨i, hi, h⟩
  have h2 := fidx_is h1
  rcases Nat.lt_trichotomy ((List.range n).findIdx p) i with h3 | h3 | h3
  · rw [hn _ h3] at h2; cases h2
  · exact h3
  · rw [fidx_no h3] at h; cases h
theorem fidx_end {n : Nat} {p : Nat → Bool} (hn : ∀ j, j < n → p j = false) : (List.range n).findIdx p = n := by
  have h1 := fidx_le n p
  rcases Nat.lt_or_ge ((List.range n).findIdx p) n with h2 | h2
  · have := fidx_is h2
    rw [hn _ h2] at this
    cases this
  · omega
/-! ### Contracts -/
theorem ssQ0 : SpecSound Q0 := mkctx_sound satH0 trivial
theorem bytesR : bs.P.bytesOf 44 = 16 := by kernel_rfl
theorem roomR {C : Ctx} (hC : C.P = bs.P) {n : Nat} (h : n ≤ 5864062014805) : roomP C 44 n := by
  unfold roomP
  rw [hC, bytesR]
  omega
theorem sat_cmpR : Sat bs.P 36 cmpRSp := by
  refine sat_nf (C := Q0) ssQ0 (fun x => cmpR_nf x.1 x.2) fun (⟨a, b⟩ : Rst × Rst) hk _ => ?_
  try dsimp only
  simp only [List.getD_cons_zero, List.getD_cons_succ, List.length_cons, List.length_nil]
  refine ⟨trivial, trivial, by omega, fun h => ?_, fun h => ⟨i64s (by omega) (by omega), by omega, fun h' => ?_, fun h' => ⟨i64s (by omega) (by omega), ?_⟩⟩⟩ <;> unfold cmpR
  · rw [if_pos (ndt h)]
  · rw [if_neg (by simpa using h)]
  · rw [if_neg (by simpa using h)]; exact (ndf h').symm
theorem sat_badR : Sat bs.P 32 badRSp := by
  refine sat_nf (C := Q0) ssQ0 badR_nf fun (a : Rst) hk _ => ?_
  have e : (!okR a) = decide (¬ (0 ≤ a.1 ∧ a.1 ≤ 134217728 ∧ 1 ≤ a.2.1 ∧ a.2.1 ≤ 4096)) := by
    have := okR_iff a
    cases h : okR a
    · rw [decide_eq_true]
      · rfl
      · intro q; rw [this.2 q] at h; cases h
    · rw [decide_eq_false (Classical.not_not.2 (this.1 h))]; rfl
  rw [e]
  refine ⟨fun h => ?_, fun h => ⟨fun h2 => ?_, fun h2 => ⟨fun h3 => ?_, fun h3 => ?_⟩⟩⟩
  · have := dt h; rw [decide_eq_true (by omega)]
  · have := dt h2; rw [decide_eq_true (by omega)]
  · have := dt h3; rw [decide_eq_true (by omega)]
  · have := df h; have := df h2; have := df h3
    exact decide_eq_decide.2 (by omega)
theorem sat_before : Sat bs.P 31 beforeSp := by
  refine sat_nf (C := Q0) ssQ0 (fun x => before_nf x.1 x.2) fun (⟨a, b⟩ : Rst × Rst) hk _ => ?_
  try dsimp only
  refine ⟨fun h => ((ltR_eq a b).2 (.inl (dt h))).symm, fun h => ⟨fun h2 => ?_, fun h2 => ?_⟩⟩
  · have := df h; have := dt h2
    exact dec_is (by rw [ltR_eq]; omega)
  · have := df h; have := df h2
    exact ((ltR_no a b).2 (by omega)).symm
theorem sat_least : Sat bs.P 17 leastPSp := by
  refine sat_nf (C := Q0) ssQ0 least_nf fun (p : Piece) hk _ => ?_
  unfold leastP
  refine ⟨fun h => by rw [if_pos (by have := dt h; omega)], fun h => ?_⟩
  have h := df h
  exact ⟨⟨by omega, by omega⟩, by rw [if_neg (by omega)]; rfl⟩
theorem sat_rLeast : Sat bs.P 18 leastPSp := by
  refine sat_nf (C := Q0) ssQ0 rLeast_nf fun (p : Piece) hk _ => ?_
  unfold leastP
  refine ⟨fun h => by rw [if_pos (by have := dt h; omega)], fun h => ?_⟩
  have h := df h
  exact ⟨⟨by omega, by omega⟩, by rw [if_neg (by omega)]; rfl⟩
theorem sat_few : Sat bs.P 9 fewPSp := by
  refine sat_nf (C := Q0) ssQ0 few_nf fun (p : Piece) hk _ => ?_
  unfold fewP
  exact ⟨fun h => by rw [h, Bool.true_and], fun h => by rw [h, Bool.false_and]⟩
theorem sat_piece : Sat bs.P 29 pieceSp := sat_nf (C := Q0) ssQ0 piece_nf fun _ _ _ => rfl
theorem sat_used : Sat bs.P 46 usedSp := by
  refine sat_nf (C := Q0) ssQ0 (fun x => used_nf x.1 x.2) fun (⟨l, id⟩ : List Hit × Int) hk _ => ?_
  try dsimp only
  have hm : l.length ≤ 9223372036854775807 := hk.1.1
  simp only [show (((0 : Int), (0 : Int), (0 : Int), ()) : Hit) = hit0 from rfl]
  refine ⟨fun x => 0 ≤ x ∧ x ≤ l.length ∧ ∀ j, j < x.toNat → (l.getD j hit0).1 ≠ id, fun x => (l.length - x).toNat, ⟨by omega, by omega, by simp⟩, ?_⟩
  rintro i ⟨h0, h1, h2⟩
  dsimp only
  refine ⟨fun hlt => ?_, fun hlt => ?_⟩
  · have hlt := dt hlt
    refine ⟨⟨h0, hlt⟩, fun he => ?_, fun he => ⟨i64_lt h0 hlt hm, ⟨by omega, by omega, fun j hj => ?_⟩, by omega⟩⟩
    · exact ((hasH_iff _ _).2 ⟨_, PL.getD_mem l hit0 (show i.toNat < l.length by omega), dt he⟩).symm
    · by_cases e : j = i.toNat
      · rw [e]; exact df he
      · exact h2 j (by omega)
  · have hlt := df hlt
    refine ((hasH_no _ _).2 fun h hh => ?_).symm
    obtain ⟨j, hj, rfl⟩ := List.getElem_of_mem hh
    have := h2 j (by omega)
    rwa [getE l hj] at this
theorem sat_among : Sat bs.P 24 amongSp := by
  refine sat_nf (C := Q0) ssQ0 (fun x => among_nf x.1 x.2) fun (⟨h, l⟩ : Hit × List Hit) hk _ => ?_
  try dsimp only
  have hm : l.length ≤ 9223372036854775807 := hk.2.1
  simp only [show (((0 : Int), (0 : Int), (0 : Int), ()) : Hit) = hit0 from rfl, hit_eqs]
  refine ⟨fun x => 0 ≤ x ∧ x ≤ l.length ∧ ∀ j, j < x.toNat → l.getD j hit0 ≠ h, fun x => (l.length - x).toNat, ⟨by omega, by omega, by simp⟩, ?_⟩
  rintro i ⟨h0, h1, h2⟩
  dsimp only
  refine ⟨fun hlt => ?_, fun hlt => ?_⟩
  · have hlt := dt hlt
    refine ⟨⟨h0, hlt⟩, fun he => ?_, fun he => ⟨i64_lt h0 hlt hm, ⟨by omega, by omega, fun j hj => ?_⟩, by omega⟩⟩
    · have := PL.getD_mem l hit0 (show i.toNat < l.length by omega)
      rw [dt he] at this
      exact (decide_eq_true this).symm
    · by_cases e : j = i.toNat
      · rw [e]; exact df he
      · exact h2 j (by omega)
  · have hlt := df hlt
    refine (decide_eq_false fun hh => ?_).symm
    obtain ⟨j, hj, e⟩ := List.getElem_of_mem hh
    have := h2 j (by omega)
    rw [getE l hj] at this
    exact this e
theorem sat_rUnder : Sat bs.P 38 underRSp := by
  refine sat_nf (C := Q0) ssQ0 (fun x => rUnder_nf x.1 x.2) fun (⟨l, key⟩ : List Rst × Int) hk hp => ?_
  have hp : smallL l := hp
  try dsimp only
  have hm := hp.1
  simp only [show (((0 : Int), (0 : Int), ()) : Rst) = rest0 from rfl]
  refine ⟨fun x => 0 ≤ x.1 ∧ x.1 ≤ l.length ∧ x.2 = underR (l.take x.1.toNat) key, fun x => (l.length - x.1).toNat, ⟨by omega, by omega, by simp [underR]⟩, ?_⟩
  rintro ⟨i, n⟩ ⟨h0, h1, h2⟩
  dsimp only at h0 h1 h2 ⊢
  subst h2
  have hu := under_small (smallL_take hp i.toNat) key
  refine ⟨fun hlt => ?_, fun hlt => ?_⟩
  · have hlt := dt hlt
    have hst := underR_step l h0 hlt key
    have hx := hp.2 _ (PL.getD_mem l rest0 (show i.toNat < l.length by omega))
    refine ⟨⟨h0, hlt⟩, fun hc => ?_, fun hc => ?_⟩
    · rw [if_pos (dt hc)] at hst
      exact ⟨⟨h0, hlt⟩, i64s (by omega) (by omega), i64s (by omega) (by omega), ⟨by omega, by omega, hst.symm⟩, by omega⟩
    · rw [if_neg (df hc)] at hst
      exact ⟨i64s (by omega) (by omega), ⟨by omega, by omega, by omega⟩, by omega⟩
  · have hlt := df hlt
    rw [List.take_of_length_le (by omega)]
theorem sat_under : Sat bs.P 37 underPSp := by
  refine sat_nf (C := Q0) ssQ0 (fun x => under_nf x.1 x.2) fun (⟨p, key⟩ : Piece × Int) hk hp => ?_
  obtain ⟨hp, ho⟩ : smallP p ∧ orderP p := hp
  obtain ⟨hits, l, u⟩ := p
  have hs : smallL l := hp.2
  have hsort : l.Pairwise (fun a b => a.1 ≤ b.1) := ho.2
  have hm := hs.1
  have hord : ∀ i j, i ≤ j → j < l.length → (l.getD i rest0).1 ≤ (l.getD j rest0).1 := fun i j hij hj => by
    rw [getR l hj, getR l (by omega)]
    rcases Nat.lt_or_ge i j with h | h
    · exact List.pairwise_iff_getElem.1 hsort i j (by omega) hj h
    · have : i = j := by omega
      subst this; exact Int.le_refl _
  clear hp ho hsort
  try dsimp only
  simp only [show (((0 : Int), (0 : Int), ()) : Rst) = rest0 from rfl]
  have hmem : ∀ x ∈ l, ∃ j, j < l.length ∧ l.getD j rest0 = x := fun x hx => by
    obtain ⟨j, hj, e⟩ := List.getElem_of_mem hx
    exact ⟨j, hj, by rw [getR l hj, e]⟩
  refine ⟨fun x => 0 ≤ x.1 ∧ x.1 ≤ l.length ∧ x.2.1 = sumR (l.take x.1.toNat) ∧ x.2.2.1 = 0 ∧ (∀ j, j < x.1.toNat → mget x.2.2.2 (l.getD j rest0).1 = some (underR (l.take x.1.toNat) (l.getD j rest0).1)), fun x => (l.length - x.1).toNat, ⟨by omega, by omega, by simp [sumR], rfl, by simp⟩, ?_⟩
  rintro ⟨i, sum, n, m⟩ ⟨h0, h1, h2, h3, h4⟩
  dsimp only at h0 h1 h2 h3 h4 ⊢
  subst h2 h3
  have hsum := sumR_le (smallL_take hs i.toNat)
  refine ⟨fun hlt => ?_, fun hlt => ?_⟩
  · have hlt := dt hlt
    have hx := hs.2 _ (PL.getD_mem l rest0 (show i.toNat < l.length by omega))
    have hall : ∀ key, (l.getD i.toNat rest0).1 ≤ key → underR (l.take i.toNat) key = sumR (l.take i.toNat) := fun key hkey => underR_all fun y hy => by
      obtain ⟨j, hj, rfl⟩ := List.getElem_of_mem hy
      rw [List.length_take] at hj
      rw [List.getElem_take]
      have := hord j i.toNat (by omega) (by omega)
      rw [getR l (by omega)] at this
      omega
    refine ⟨⟨h0, hlt⟩, i64s (by omega) (by omega), i64s (by omega) (by omega), ⟨by omega, by omega, (sumR_step l h0 hlt).symm, rfl, fun j hj => ?_⟩, by omega⟩
    rw [mget_mput, underR_step l h0 hlt]
    by_cases e : (l.getD i.toNat rest0).1 = (l.getD j rest0).1
    · rw [if_pos e, if_pos (by omega), hall _ (by omega)]
    · rw [if_neg e]
      have hji : j < i.toNat := by
        rcases Nat.lt_or_ge j i.toNat with h | h
        · exact h
        · exfalso
          have : j = i.toNat := by omega
          subst this; exact e rfl
      have := hord j i.toNat (by omega) (by omega)
      rw [if_neg (by omega), h4 j hji, Int.add_zero]
  · have hlt := df hlt
    have hi : i = l.length := by omega
    subst hi
    rw [Int.toNat_natCast, List.take_of_length_le (Nat.le_refl _)] at h4
    have hnext : ∀ i : Nat, i + 1 < l.length → (l.getD (i + 1) rest0).1 ≠ (l.getD i rest0).1 → ∀ x ∈ l, x.1 ≤ (l.getD i rest0).1 ↔ x.1 ≤ (l.getD (i + 1) rest0).1 - 1 := fun i hi hne x hx => by
      obtain ⟨j, hj, rfl⟩ := hmem x hx
      have := hord i (i + 1) (by omega) hi
      constructor
      · intro h; omega
      · intro h
        rcases Nat.lt_or_ge i j with h5 | h5
        · have := hord (i + 1) j (by omega) hj
          omega
        · exact hord j i h5 (by omega)
    refine ⟨fun x => 0 ≤ x.1 ∧ x.1 ≤ l.length ∧ x.2.2 = m ∧ (x.1 < l.length → x.2.1 = underR l ((l.getD x.1.toNat rest0).1 - 1) ∧ ∀ y ∈ l, y.1 < (l.getD x.1.toNat rest0).1 → y.1 ≤ key) ∧ (x.1 = l.length → x.2.1 = underR l key), fun x => (l.length - x.1).toNat,
      ⟨by omega, by omega, rfl, fun hl => ⟨(underR_none fun y hy => ?_).symm, fun y hy hlt => ?_⟩, fun hl => ?_⟩, ?_⟩
    · obtain ⟨j, hj, rfl⟩ := hmem y hy
      have := hord 0 j (by omega) hj
      simp only [Int.toNat_zero]
      omega
    · obtain ⟨j, hj, rfl⟩ := hmem y hy
      have := hord 0 j (by omega) hj
      simp only [Int.toNat_zero] at hlt
      omega
    · have : l = [] := List.eq_nil_of_length_eq_zero (by omega)
      subst this
      rfl
    rintro ⟨i, n, m'⟩ ⟨h5, h6, rfl, h7, h8⟩
    dsimp only at h5 h6 h7 h8 ⊢
    refine ⟨fun hlt => ?_, fun hlt => h8 (by have := df hlt; omega)⟩
    have hlt := dt hlt
    obtain ⟨h9, h10⟩ := h7 hlt
    have e1 : (i + 1).toNat = i.toNat + 1 := by omega
    have hbreak : key < (l.getD i.toNat rest0).1 → n = underR l key := fun hk => by
      rw [h9]
      exact underR_congr fun y hy => ⟨fun h => h10 y hy (by omega), fun h => by omega⟩
    refine ⟨⟨h5, hlt⟩, i64s (by omega) (by omega), fun hn => ⟨i64s (by omega) (by omega), ⟨by omega, dt hn⟩, fun he => ?_, fun he => ⟨fun hk => hbreak (dt hk), fun hk => ?_⟩⟩, fun hn => ⟨fun hk => hbreak (dt hk), fun hk => ?_⟩⟩
    · have he := dt he
      have hn := dt hn
      refine ⟨i64s (by omega) (by omega), ⟨by omega, by omega, rfl, fun _ => ?_, fun h => by omega⟩, by omega⟩
      rw [he]
      exact ⟨h9, h10⟩
    · have he := df he
      have hn := dt hn
      have hk := df hk
      refine ⟨i64s (by omega) (by omega), ⟨by omega, by omega, rfl, fun _ => ?_, fun h => by omega⟩, by omega⟩
      rw [h4 i.toNat (by omega), e1] at *
      have hx := hnext i.toNat (by omega) he
      exact ⟨underR_congr hx, fun y hy h => by have := (hx y hy).2 (by omega); omega⟩
    · have hn := df hn
      have hk := df hk
      refine ⟨i64s (by omega) (by omega), ⟨by omega, by omega, rfl, fun h => by omega, fun _ => ?_⟩, by omega⟩
      rw [h4 i.toNat (by omega)]
      refine underR_congr fun y hy => ?_
      obtain ⟨j, hj, rfl⟩ := hmem y hy
      have := hord j i.toNat (by omega) (by omega)
      exact ⟨fun h => by omega, fun h => by omega⟩
theorem satQ1 : AllSat bs.P tQ1 := ⟨sat_cmpR, sat_badR, sat_before, sat_least, sat_rLeast, sat_few, sat_piece, sat_used, sat_among, sat_rUnder, sat_under, sat_validH, sat_rValidH, sat_rSame, satH2⟩
theorem ssQ1 : SpecSound Q1 := mkctx_sound satQ1 trivial
end Go.Proofs.Ytmimchmdikjilaa
