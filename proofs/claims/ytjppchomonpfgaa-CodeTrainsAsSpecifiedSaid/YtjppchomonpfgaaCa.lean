import Derived.Test.YtjppchomonpfgaaTk
namespace Go.PL
open Go.AM
set_option linter.unusedVariables false

/-! ### Codebooks, plain -/
abbrev Book := Int × List Int × List (List (List Int)) × Unit
def joinK (m a b : Int) : Int := if m = 3 then max a b else a + b
def foldJ (m : Int) (n : Nat) (f : Nat → Int) : Int := (List.range n).foldl (fun s k => joinK m s (f k)) 0
def catN (n : Nat) (f : Nat → List Int) : List Int := (List.range n).foldl (fun s k => s ++ f k) []
def endN (cuts : List Int) (dims : Int) (k : Nat) : Int := if k + 1 < cuts.length then cuts.getD (k + 1) 0 else dims
def cutB (cuts : List Int) (dims : Int) : Bool := (decide (1 ≤ dims) && decide (dims ≤ 32)) && ((decide (1 ≤ cuts.length) && decide (cuts.length ≤ 8)) && (decide (cuts.getD 0 0 = 0) && upto cuts.length fun k => decide (cuts.getD k 0 < dims) && (decide (k = 0) || decide (cuts.getD (k - 1) 0 < cuts.getD k 0))))
def wordB (cuts : List Int) (dims : Int) (k : Nat) (w : List Int) : Bool := vecOk w && decide ((w.length : Int) = endN cuts dims k - cuts.getD k 0)
def wordsB (cuts : List Int) (dims : Int) (k : Nat) (l : List (List Int)) : Bool := (decide (1 ≤ l.length) && decide (l.length ≤ 256)) && upto l.length fun i => wordB cuts dims k (l.getD i [])
def bookB (b : Book) : Bool := cutB b.2.1 b.1 && (decide (b.2.2.1.length = b.2.1.length) && upto b.2.1.length fun k => wordsB b.2.1 b.1 k (b.2.2.1.getD k []))
def checkS (b : Book) : Int := if bookB b then 0 else 80
def partS (cuts : List Int) (dims : Int) (k : Nat) (v : List Int) : List Int := (v.drop (cuts.getD k 0).toNat).take ((endN cuts dims k).toNat - (cuts.getD k 0).toNat)
/-- The first place with the least key. -/
def bestS (m : Int) (ws : List (List Int)) (v : List Int) : Nat := amax ws.length fun i => - keyS m (ws.getD i []) v
def leastS (m : Int) (ws : List (List Int)) (v : List Int) : Int := keyS m (ws.getD (bestS m ws v) []) v
def encodeS (b : Book) (m : Int) (v : List Int) : List Int := tab b.2.1.length fun k => (bestS m (b.2.2.1.getD k []) (partS b.2.1 b.1 k v) : Int)
def codeB (b : Book) (c : List Int) : Bool := decide (c.length = b.2.2.1.length) && upto c.length fun k => decide (0 ≤ c.getD k 0) && decide (c.getD k 0 < (b.2.2.1.getD k []).length)
def standS (b : Book) (c : List Int) : List Int := catN c.length fun k => (b.2.2.1.getD k []).getD (c.getD k 0).toNat []
def decodeS (b : Book) (c : List Int) : List Int × Int := if codeB b c then (standS b c, 0) else ([], 1)
def residS (b : Book) (m : Int) (v : List Int) : Int := foldJ m b.2.1.length fun k => leastS m (b.2.2.1.getD k []) (partS b.2.1 b.1 k v)
def rowS (b : Book) (m : Int) (q : List Int) (k : Nat) : List Int := tab (b.2.2.1.getD k []).length fun i => keyS m ((b.2.2.1.getD k []).getD i []) (partS b.2.1 b.1 k q)
def tableS (b : Book) (m : Int) (q : List Int) : List (List Int) := tabL b.2.1.length (rowS b m q)
def sumS (m : Int) (t : List (List Int)) (c : List Int) : Int := foldJ m c.length fun k => (t.getD k []).getD (c.getD k 0).toNat 0
def rightB (b : Book) (m : Int) (v q : List Int) : Bool := bookB b && ((decide (1 ≤ m) && decide (m ≤ 3)) && (vecOk v && (vecOk q && (decide ((v.length : Int) = b.1) && decide ((q.length : Int) = b.1)))))
def fewBk (b : Book) : Bool := (decide (b.2.2.1.length ≤ 9) && decide (b.2.1.length ≤ 9)) && upto b.2.2.1.length fun k => ((decide ((b.2.2.1.getD k []).length ≤ 30) || decide (256 < (b.2.2.1.getD k []).length)) && decide ((b.2.2.1.getD k []).length ≤ 300)) && upto (b.2.2.1.getD k []).length fun i => decide (((b.2.2.1.getD k []).getD i []).length ≤ 33)

/-! ### Keys, part by part -/
theorem foldJ_succ (m : Int) (n : Nat) (f : Nat → Int) : foldJ m (n + 1) f = joinK m (foldJ m n f) (f n) := by
  unfold foldJ
  rw [List.range_succ, List.foldl_append]
  rfl
theorem foldJ_ext {m : Int} {n : Nat} {f g : Nat → Int} (h : ∀ i, i < n → f i = g i) : foldJ m n f = foldJ m n g := by
  induction n with
  | zero => rfl
  | succ n ih => rw [foldJ_succ, foldJ_succ, ih fun i hi => h i (by omega), h n (by omega)]
theorem foldJ_mono {m : Int} {n : Nat} {f g : Nat → Int} (h : ∀ i, i < n → f i ≤ g i) : foldJ m n f ≤ foldJ m n g := by
  induction n with
  | zero => exact Int.le_refl _
  | succ n ih =>
    have h1 := ih fun i hi => h i (by omega)
    have h2 := h n (by omega)
    rw [foldJ_succ, foldJ_succ]
    unfold joinK
    split <;> omega
theorem foldJ_nonneg {m : Int} {n : Nat} {f : Nat → Int} (h : ∀ i, i < n → 0 ≤ f i) : 0 ≤ foldJ m n f := by
  induction n with
  | zero => exact Int.le_refl _
  | succ n ih =>
    have h1 := ih fun i hi => h i (by omega)
    have h2 := h n (by omega)
    rw [foldJ_succ]
    unfold joinK
    split <;> omega
theorem foldJ_le {m : Int} {n : Nat} {f : Nat → Int} {c : Int} (hc : 0 ≤ c) (h : ∀ i, i < n → 0 ≤ f i ∧ f i ≤ c) : foldJ m n f ≤ n * c := by
  induction n with
  | zero => simp [foldJ]
  | succ n ih =>
    have h1 := ih fun i hi => h i (by omega)
    have h2 := h n (by omega)
    have h3 : 0 ≤ (n : Int) * c := Int.mul_nonneg (by omega) hc
    rw [foldJ_succ, show ((n + 1 : Nat) : Int) * c = n * c + c by rw [Int.natCast_add, Int.add_mul]; simp]
    unfold joinK
    split <;> omega
theorem foldJ_zero {m : Int} {n : Nat} {f : Nat → Int} (h : ∀ i, i < n → f i = 0) : foldJ m n f = 0 := by
  induction n with
  | zero => rfl
  | succ n ih =>
    rw [foldJ_succ, ih fun i hi => h i (by omega), h n (by omega)]
    unfold joinK
    split <;> rfl
theorem catN_succ (n : Nat) (f : Nat → List Int) : catN (n + 1) f = catN n f ++ f n := by
  unfold catN
  rw [List.range_succ, List.foldl_append]
  rfl
theorem catN_ext {n : Nat} {f g : Nat → List Int} (h : ∀ i, i < n → f i = g i) : catN n f = catN n g := by
  induction n with
  | zero => rfl
  | succ n ih => rw [catN_succ, catN_succ, ih fun i hi => h i (by omega), h n (by omega)]
theorem catN_len {n : Nat} {f g : Nat → List Int} (h : ∀ i, i < n → (f i).length = (g i).length) : (catN n f).length = (catN n g).length := by
  induction n with
  | zero => rfl
  | succ n ih => rw [catN_succ, catN_succ, List.length_append, List.length_append, ih fun i hi => h i (by omega), h n (by omega)]
theorem catN_mem {n : Nat} {f : Nat → List Int} {x : Int} (h : x ∈ catN n f) : ∃ k, k < n ∧ x ∈ f k := by
  induction n with
  | zero => cases h
  | succ n ih =>
    rw [catN_succ] at h
    rcases List.mem_append.1 h with h | h
    · obtain ⟨k, hk, hx⟩ := ih h; exact ⟨k, by omega, hx⟩
    · exact ⟨n, by omega, h⟩
theorem subS_append : ∀ (a b c d : List Int), a.length = b.length → subS (a ++ c) (b ++ d) = subS a b ++ subS c d
  | [], [], c, d, _ => by cases c <;> cases d <;> rfl
  | x :: a, y :: b, c, d, h => by
    simp only [List.cons_append, subS, subS_append a b c d (by simpa using h)]
  | [], _ :: _, _, _, h => by simp at h
  | _ :: _, [], _, _, h => by simp at h
theorem n_append : ∀ (a b : List Int), n1 (a ++ b) = n1 a + n1 b ∧ n2 (a ++ b) = n2 a + n2 b ∧ n3 (a ++ b) = max (n3 a) (n3 b)
  | [], b => by have := n3_nonneg b; simp [n1, n2, n3]; omega
  | x :: a, b => by
    obtain ⟨h1, h2, h3⟩ := n_append a b
    simp only [List.cons_append, n1, n2, n3, h1, h2, h3]
    omega
theorem keyS_append {m : Int} (hm : 1 ≤ m ∧ m ≤ 3) {a b c d : List Int} (h : a.length = b.length) : keyS m (a ++ c) (b ++ d) = joinK m (keyS m a b) (keyS m c d) := by
  unfold keyS
  rw [subS_append a b c d h, normS_eq, normS_eq, normS_eq]
  obtain ⟨h1, h2, h3⟩ := n_append (subS a b) (subS c d)
  rw [h1, h2, h3]
  unfold joinK
  by_cases e1 : m = 1
  · rw [if_pos e1, if_pos e1, if_pos e1, if_neg (by omega)]
  · rw [if_neg e1, if_neg e1, if_neg e1]
    by_cases e2 : m = 2
    · rw [if_pos e2, if_pos e2, if_pos e2, if_neg (by omega)]
    · rw [if_neg e2, if_neg e2, if_neg e2, if_pos (by omega)]
theorem keyS_nil (m : Int) : keyS m [] [] = 0 := by
  unfold keyS
  rfl
theorem keyS_cat {m : Int} (hm : 1 ≤ m ∧ m ≤ 3) {n : Nat} {f g : Nat → List Int} (h : ∀ i, i < n → (f i).length = (g i).length) : keyS m (catN n f) (catN n g) = foldJ m n fun k => keyS m (f k) (g k) := by
  induction n with
  | zero => exact keyS_nil m
  | succ n ih => rw [catN_succ, catN_succ, keyS_append hm (catN_len fun i hi => h i (by omega)), ih fun i hi => h i (by omega), foldJ_succ]
theorem keyS_nonneg (m : Int) (a b : List Int) : 0 ≤ keyS m a b := normS_nonneg _ _
theorem bestS_spec {m : Int} {ws : List (List Int)} {v : List Int} (h : 1 ≤ ws.length) : bestS m ws v < ws.length ∧ (∀ i, i < ws.length → leastS m ws v ≤ keyS m (ws.getD i []) v) ∧ ∀ i, i < bestS m ws v → leastS m ws v < keyS m (ws.getD i []) v := by
  obtain ⟨h1, h2, h3⟩ := amax_spec (fun i => - keyS m (ws.getD i []) v) ws.length h
  refine ⟨h1, fun i hi => ?_, fun i hi => ?_⟩
  · have := h2 i hi; unfold leastS bestS; omega
  · have := h3 i hi; unfold leastS bestS; omega

/-! ### Parts -/
theorem cutB_iff {cuts : List Int} {dims : Int} : cutB cuts dims = true ↔ (1 ≤ dims ∧ dims ≤ 32) ∧ (1 ≤ cuts.length ∧ cuts.length ≤ 8) ∧ cuts.getD 0 0 = 0 ∧ ∀ k, k < cuts.length → cuts.getD k 0 < dims ∧ (k = 0 ∨ cuts.getD (k - 1) 0 < cuts.getD k 0) := by
  unfold cutB
  simp only [Bool.and_eq_true, Bool.or_eq_true, decide_eq_true_eq, upto_iff]
theorem cut_mono {cuts : List Int} {dims : Int} (h : cutB cuts dims = true) : ∀ k, k < cuts.length → (0 : Int) ≤ cuts.getD k 0 ∧ cuts.getD k 0 < dims
  | 0, hk => by
    obtain ⟨h1, h2, h3, h4⟩ := cutB_iff.1 h
    have := h4 0 hk
    omega
  | k + 1, hk => by
    obtain ⟨h1, h2, h3, h4⟩ := cutB_iff.1 h
    have h5 := h4 (k + 1) hk
    have h6 := cut_mono h k (by omega)
    rw [Nat.add_sub_cancel] at h5
    omega
theorem end_gt {cuts : List Int} {dims : Int} (h : cutB cuts dims = true) {k : Nat} (hk : k < cuts.length) : cuts.getD k 0 < endN cuts dims k ∧ endN cuts dims k ≤ dims := by
  obtain ⟨h1, h2, h3, h4⟩ := cutB_iff.1 h
  unfold endN
  split
  · rename_i hk'
    have := h4 (k + 1) hk'
    rw [Nat.add_sub_cancel] at this
    omega
  · have := h4 k hk; omega
theorem part_len {cuts : List Int} {dims : Int} (h : cutB cuts dims = true) {k : Nat} (hk : k < cuts.length) {v : List Int} (hv : (v.length : Int) = dims) : ((partS cuts dims k v).length : Int) = endN cuts dims k - cuts.getD k 0 := by
  obtain ⟨h1, h2⟩ := end_gt h hk
  obtain ⟨h3, h4⟩ := cut_mono h k hk
  unfold partS
  rw [List.length_take, List.length_drop]
  omega
/-- The parts make up the vector. -/
theorem parts_cat {cuts : List Int} {dims : Int} (h : cutB cuts dims = true) {v : List Int} (hv : (v.length : Int) = dims) : catN cuts.length (fun k => partS cuts dims k v) = v := by
  obtain ⟨h1, h2, h3, h4⟩ := cutB_iff.1 h
  have key : ∀ n, 1 ≤ n → n ≤ cuts.length → catN n (fun k => partS cuts dims k v) = v.take (endN cuts dims (n - 1)).toNat := by
    intro n
    induction n with
    | zero => intro h; omega
    | succ n ih =>
      intro _ hn
      rw [catN_succ, Nat.add_sub_cancel]
      obtain ⟨e1, e2⟩ := end_gt h (show n < cuts.length by omega)
      have hc := cut_mono h n (by omega)
      cases n with
      | zero =>
        show [] ++ partS cuts dims 0 v = _
        unfold partS
        rw [h3]
        simp
      | succ n =>
        rw [ih (by omega) (by omega), Nat.add_sub_cancel]
        have e : endN cuts dims n = cuts.getD (n + 1) 0 := by unfold endN; rw [if_pos (by omega)]
        rw [e]
        unfold partS
        rw [← List.take_add, show (cuts.getD (n + 1) 0).toNat + ((endN cuts dims (n + 1)).toNat - (cuts.getD (n + 1) 0).toNat) = (endN cuts dims (n + 1)).toNat by omega]
  rw [key cuts.length (by omega) (Nat.le_refl _)]
  have : endN cuts dims (cuts.length - 1) = dims := by unfold endN; rw [if_neg (by omega)]
  rw [this, ← hv]
  simp
theorem part_mem {cuts : List Int} {dims : Int} {k : Nat} {v : List Int} {x : Int} (h : x ∈ partS cuts dims k v) : x ∈ v := List.mem_of_mem_drop (List.mem_of_mem_take h)
theorem part_vec {cuts : List Int} {dims : Int} (h : cutB cuts dims = true) {k : Nat} (hk : k < cuts.length) {v : List Int} (hv : vecOk v = true) (hl : (v.length : Int) = dims) : vecOk (partS cuts dims k v) = true := by
  obtain ⟨v1, v2, v3⟩ := vecB_iff.1 hv
  have := part_len h hk hl
  have := end_gt h hk
  have := cut_mono h k hk
  exact vecB_iff.2 ⟨fun x hx => v1 x (part_mem hx), by omega, by omega⟩

/-! ### Right books -/
theorem wordB_iff {cuts : List Int} {dims : Int} {k : Nat} {w : List Int} : wordB cuts dims k w = true ↔ vecOk w = true ∧ (w.length : Int) = endN cuts dims k - cuts.getD k 0 := by
  unfold wordB
  simp only [Bool.and_eq_true, decide_eq_true_eq]
theorem wordsB_iff {cuts : List Int} {dims : Int} {k : Nat} {l : List (List Int)} : wordsB cuts dims k l = true ↔ (1 ≤ l.length ∧ l.length ≤ 256) ∧ ∀ i, i < l.length → wordB cuts dims k (l.getD i []) = true := by
  unfold wordsB
  simp only [Bool.and_eq_true, decide_eq_true_eq, upto_iff]
theorem bookB_iff {b : Book} : bookB b = true ↔ cutB b.2.1 b.1 = true ∧ b.2.2.1.length = b.2.1.length ∧ ∀ k, k < b.2.1.length → wordsB b.2.1 b.1 k (b.2.2.1.getD k []) = true := by
  unfold bookB
  simp only [Bool.and_eq_true, decide_eq_true_eq, upto_iff]
theorem word_alike {b : Book} (h : bookB b = true) {v : List Int} (hv : vecOk v = true) (hl : (v.length : Int) = b.1) {k : Nat} (hk : k < b.2.1.length) {i : Nat} (hi : i < (b.2.2.1.getD k []).length) : alikeB ((b.2.2.1.getD k []).getD i []) (partS b.2.1 b.1 k v) = true := by
  obtain ⟨h1, h2, h3⟩ := bookB_iff.1 h
  obtain ⟨h4, h5⟩ := wordsB_iff.1 (h3 k hk)
  obtain ⟨h6, h7⟩ := wordB_iff.1 (h5 i hi)
  have := part_len h1 hk hl
  exact alike_iff.2 ⟨h6, part_vec h1 hk hv hl, by omega⟩
theorem codeB_iff {b : Book} {c : List Int} : codeB b c = true ↔ c.length = b.2.2.1.length ∧ ∀ k, k < c.length → 0 ≤ c.getD k 0 ∧ c.getD k 0 < (b.2.2.1.getD k []).length := by
  unfold codeB
  simp only [Bool.and_eq_true, decide_eq_true_eq, upto_iff]
theorem rightB_iff {b : Book} {m : Int} {v q : List Int} : rightB b m v q = true ↔ bookB b = true ∧ (1 ≤ m ∧ m ≤ 3) ∧ vecOk v = true ∧ vecOk q = true ∧ (v.length : Int) = b.1 ∧ (q.length : Int) = b.1 := by
  unfold rightB
  simp only [Bool.and_eq_true, decide_eq_true_eq]
theorem book_words {b : Book} (h : bookB b = true) {k : Nat} (hk : k < b.2.1.length) : 1 ≤ (b.2.2.1.getD k []).length ∧ (b.2.2.1.getD k []).length ≤ 256 := (wordsB_iff.1 ((bookB_iff.1 h).2.2 k hk)).1
/-- The code of a vector is one. -/
theorem encode_code {b : Book} (h : bookB b = true) (m : Int) (v : List Int) : codeB b (encodeS b m v) = true ∧ (encodeS b m v).length = b.2.1.length ∧ ∀ k, k < b.2.1.length → (encodeS b m v).getD k 0 = (bestS m (b.2.2.1.getD k []) (partS b.2.1 b.1 k v) : Int) := by
  obtain ⟨h1, h2, h3⟩ := bookB_iff.1 h
  have hl : (encodeS b m v).length = b.2.1.length := tab_length _ _
  have hg : ∀ k, k < b.2.1.length → (encodeS b m v).getD k 0 = (bestS m (b.2.2.1.getD k []) (partS b.2.1 b.1 k v) : Int) := fun k hk => tab_getD _ hk
  refine ⟨codeB_iff.2 ⟨by omega, fun k hk => ?_⟩, hl, hg⟩
  rw [hg k (by omega)]
  have := (bestS_spec (m := m) (v := partS b.2.1 b.1 k v) (book_words h (show k < b.2.1.length by omega)).1).1
  omega
/-- What a code stands for: its parts are words. -/
theorem stand_ok {b : Book} (h : bookB b = true) {c : List Int} (hc : codeB b c = true) : vecOk (standS b c) = true ∧ ((standS b c).length : Int) = b.1 ∧ ∀ (m : Int), 1 ≤ m ∧ m ≤ 3 → ∀ (v : List Int), (v.length : Int) = b.1 → keyS m v (standS b c) = foldJ m b.2.1.length fun k => keyS m (partS b.2.1 b.1 k v) ((b.2.2.1.getD k []).getD (c.getD k 0).toNat []) := by
  obtain ⟨h1, h2, h3⟩ := bookB_iff.1 h
  obtain ⟨c1, c2⟩ := codeB_iff.1 hc
  obtain ⟨d1, d2, d3, d4⟩ := cutB_iff.1 h1
  have hw : ∀ k, k < b.2.1.length → wordB b.2.1 b.1 k ((b.2.2.1.getD k []).getD (c.getD k 0).toNat []) = true := fun k hk => by
    have := c2 k (by omega)
    exact (wordsB_iff.1 (h3 k hk)).2 _ (by omega)
  have hlen : ∀ (v : List Int), (v.length : Int) = b.1 → ∀ k, k < b.2.1.length → (partS b.2.1 b.1 k v).length = ((b.2.2.1.getD k []).getD (c.getD k 0).toNat []).length := fun v hv k hk => by
    have := part_len h1 hk hv
    have := (wordB_iff.1 (hw k hk)).2
    omega
  have hcl : c.length = b.2.1.length := by omega
  have hl : ((standS b c).length : Int) = b.1 := by
    have hv : ((List.replicate b.1.toNat (0 : Int)).length : Int) = b.1 := by rw [List.length_replicate]; omega
    have := catN_len (n := b.2.1.length) (hlen _ hv)
    rw [parts_cat h1 hv] at this
    unfold standS
    rw [hcl]
    omega
  refine ⟨vecB_iff.2 ⟨fun x hx => ?_, by omega, by omega⟩, hl, fun m hm v hv => ?_⟩
  · obtain ⟨k, hk, hx⟩ := catN_mem hx
    exact (vecB_iff.1 (wordB_iff.1 (hw k (by omega))).1).1 x hx
  · have := keyS_cat hm (n := b.2.1.length) (hlen v hv)
    rw [parts_cat h1 hv] at this
    unfold standS
    rw [hcl]
    exact this
/-- The residual is the key of what the code stands for. -/
theorem resid_key {b : Book} (h : bookB b = true) {m : Int} (hm : 1 ≤ m ∧ m ≤ 3) {v : List Int} (hv : (v.length : Int) = b.1) : keyS m v (standS b (encodeS b m v)) = residS b m v := by
  obtain ⟨e1, e2, e3⟩ := encode_code h m v
  rw [(stand_ok h e1).2.2 m hm v hv]
  unfold residS
  refine foldJ_ext fun k hk => ?_
  rw [e3 k hk, Int.toNat_natCast, keyS_comm]
  rfl
theorem sum_key {b : Book} (h : bookB b = true) {m : Int} (hm : 1 ≤ m ∧ m ≤ 3) {q : List Int} (hq : (q.length : Int) = b.1) {c : List Int} (hc : codeB b c = true) : sumS m (tableS b m q) c = keyS m q (standS b c) := by
  obtain ⟨h1, h2, h3⟩ := bookB_iff.1 h
  obtain ⟨c1, c2⟩ := codeB_iff.1 hc
  rw [(stand_ok h hc).2.2 m hm q hq]
  unfold sumS
  rw [show c.length = b.2.1.length by omega]
  refine foldJ_ext fun k hk => ?_
  have := c2 k (by omega)
  unfold tableS
  rw [tabL_getD _ _ hk]
  unfold rowS
  rw [tab_getD _ (by omega), keyS_comm]
end Go.PL
