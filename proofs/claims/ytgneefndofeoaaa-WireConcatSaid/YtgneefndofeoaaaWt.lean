import Derived.Test.YtgneefndofeoaaaWs
namespace Go.PL
set_option linter.unusedVariables false
open Go.AM

/-! ### What is encoded is decoded, whatever follows -/
theorem decLen_enc {least n : Int} {r : List Int} (h0 : 0 ≤ n) (hn : isI64 n) (hl : 1 ≤ least) (hr : n * least ≤ r.length) : decLen least (encI n ++ r) = .ok n (encI n).length := by
  unfold decLen
  rw [dec_enc hn r]
  dsimp only
  rw [if_neg (by omega), if_neg]
  rw [List.length_append]
  have : ((((encI n).length + r.length : Nat) : Int) - (encI n).length) = r.length := by omega
  rw [this, Int.not_lt, Int.le_ediv_iff_mul_le (by omega)]
  exact hr
theorem decBytes_enc {s r : List Int} (hs : s.length ≤ 9223372036854775807) : decBytes (encBytes s ++ r) = .ok s (encBytes s).length := by
  unfold decBytes encBytes
  rw [List.append_assoc, decLen_enc (by omega) (i64_iff.2 (by omega)) (by omega) (by rw [List.length_append]; omega)]
  dsimp only
  rw [show ((encI (s.length : Int)).length : Int).toNat = (encI (s.length : Int)).length by omega, List.drop_left, show ((s.length : Int)).toNat = s.length by omega, List.take_left, List.length_append]
  congr 1
theorem decMany_enc {α : Type} {one : List Int → Dec α} {enc : α → List Int} : ∀ (l : List α) (a : Int) (r : List Int), (∀ x ∈ l, ∀ r, one (enc x ++ r) = .ok x (enc x).length) →
    decMany one l.length a (l.flatMap enc ++ r) = .ok l (a + (l.flatMap enc).length)
  | [], a, r, _ => by simp [decMany]
  | x :: l, a, r, h => by
    simp only [List.length_cons, decMany, List.flatMap_cons, List.append_assoc]
    rw [h x (by simp)]
    dsimp only
    rw [show ((enc x).length : Int).toNat = (enc x).length by omega, List.drop_left, decMany_enc l _ r (fun y hy => h y (by simp [hy]))]
    dsimp only
    rw [List.length_append]
    congr 1
    omega
theorem flat_least {α : Type} {enc : α → List Int} {k : Nat} : ∀ (l : List α), (∀ x ∈ l, k ≤ (enc x).length) → l.length * k ≤ (l.flatMap enc).length
  | [], _ => by simp
  | x :: l, h => by
    have h1 := flat_least l (fun y hy => h y (by simp [hy]))
    have h2 := h x (by simp)
    rw [List.flatMap_cons, List.length_append, List.length_cons, Nat.succ_mul]
    omega
theorem decList_enc {α : Type} {one : List Int → Dec α} {enc : α → List Int} {k : Nat} (hk : 1 ≤ k) {l : List α} {r : List Int} (hl : l.length ≤ 9223372036854775807) (h : ∀ x ∈ l, ∀ r, one (enc x ++ r) = .ok x (enc x).length) (hk' : ∀ x ∈ l, k ≤ (enc x).length) :
    decList k one (encList enc l ++ r) = .ok l (encList enc l).length := by
  have h1 := flat_least l hk'
  unfold decList encList
  rw [List.append_assoc, decLen_enc (by omega) (i64_iff.2 (by omega)) (by omega) (by
    rw [List.length_append]
    have : ((l.length * k : Nat) : Int) = (l.length : Int) * k := Int.natCast_mul _ _
    omega)]
  dsimp only
  rw [show ((encI (l.length : Int)).length : Int).toNat = (encI (l.length : Int)).length by omega, List.drop_left, show ((l.length : Int)).toNat = l.length by omega, decMany_enc l _ r h, List.length_append]
  congr 1
theorem ints_enc {l r : List Int} (hl : l.length ≤ 9223372036854775807) (h : ∀ x ∈ l, isI64 x) : decList 1 decI (encList encI l ++ r) = .ok l (encList encI l).length :=
  decList_enc (k := 1) (by omega) hl (fun x hx r => dec_enc (h x hx) r) (fun x _ => (encI_len x).1)
theorem strings_enc {l : List (List Int)} {r : List Int} (hl : l.length ≤ 9223372036854775807) (h : ∀ x ∈ l, x.length ≤ 9223372036854775807) : decList 1 decBytes (encList encBytes l ++ r) = .ok l (encList encBytes l).length :=
  decList_enc (k := 1) (by omega) hl (fun x hx r => decBytes_enc (h x hx)) (fun x _ => by have := (encI_len (x.length : Int)).1; unfold encBytes; rw [List.length_append]; omega)
theorem digests_enc {l : List (List Int)} {r : List Int} (hl : l.length ≤ 9223372036854775807) (h : ∀ x ∈ l, x.length = 16) :
    decList 16 decDigest (encList (fun x : List Int => x) l ++ r) = .ok l (encList (fun x : List Int => x) l).length :=
  decList_enc (k := 16) (by omega) hl (fun x hx r => by
    unfold decDigest
    rw [List.take_append_of_le_length (by rw [h x hx]; omega), List.take_of_length_le (by rw [h x hx]; omega), h x hx]
    rfl) (fun x hx => by rw [h x hx]; exact Nat.le_refl _)

/-! ### What is cut off is told -/
theorem scan_cut : ∀ (m k i : Nat) (p z acc : Int), k + m = 9 → 0 ≤ z → z < 2 * 128 ^ m → (0 < k → 0 < z) → i < (digits m z).length → scan k p acc ((digits m z).take i) = .err 10
  | m, k, 0, p, z, acc, hk, h0, h1, hz, hi => by rw [List.take_zero]; rfl
  | 0, k, i + 1, p, z, acc, hk, h0, h1, hz, hi => by simp [digits] at hi
  | m + 1, k, i + 1, p, z, acc, hk, h0, h1, hz, hi => by
    have ed : ∀ z, digits (m + 1) z = if z < 128 then [z] else (z % 128 + 128) :: digits m (z / 128) := fun _ => rfl
    rw [ed] at hi ⊢
    by_cases hlt : z < 128
    · rw [if_pos hlt] at hi; simp at hi
    · rw [if_neg hlt] at hi ⊢
      rw [List.length_cons] at hi
      rw [List.take_succ_cons, scan, if_neg (by omega), if_neg (by omega)]
      rw [Int.pow_succ] at h1
      exact scan_cut m (k + 1) i _ _ _ (by omega) (by omega) (by omega) (by omega) (by omega)
theorem decI_cut {n : Int} (h : isI64 n) {i : Nat} (hi : i < (encI n).length) : decI ((encI n).take i) = .err 10 := by
  unfold decI encI
  rw [scan_cut 9 0 i 1 (zz n) 0 rfl (zz_nonneg n) (by have := zz_lt h; omega) (by omega) hi]
theorem take_app {α : Type} (a b : List α) (i : Nat) : (a ++ b).take i = if i < a.length then a.take i else a ++ b.take (i - a.length) := by
  rw [List.take_append]
  split
  · rename_i h
    rw [show i - a.length = 0 by omega, List.take_zero, List.append_nil]
  · rename_i h
    rw [List.take_of_length_le (by omega)]
theorem decLen_cut {least n : Int} {r : List Int} (hn : isI64 n) {i : Nat} (hi : i < (encI n).length) : decLen least ((encI n ++ r).take i) = .err 10 := by
  unfold decLen
  rw [take_app, if_pos hi, decI_cut hn hi]
theorem decLen_rest {least n : Int} {r : List Int} (h0 : 0 ≤ n) (hn : isI64 n) {i : Nat} (hi : ¬ i < (encI n).length) :
    decLen least ((encI n ++ r).take i) = if (((r.take (i - (encI n).length)).length : Nat) : Int) / least < n then .err 10 else .ok n (encI n).length := by
  unfold decLen
  rw [take_app, if_neg hi, dec_enc hn]
  dsimp only
  rw [if_neg (by omega), List.length_append]
  have : ((((encI n).length + (r.take (i - (encI n).length)).length : Nat) : Int) - (encI n).length) = ((r.take (i - (encI n).length)).length : Nat) := by omega
  rw [this]
theorem decBytes_cut {s : List Int} (hs : s.length ≤ 9223372036854775807) {i : Nat} (hi : i < (encBytes s).length) : decBytes ((encBytes s).take i) = .err 10 := by
  have hn : isI64 (s.length : Int) := i64_iff.2 (by omega)
  unfold encBytes at hi ⊢
  rw [List.length_append] at hi
  unfold decBytes
  by_cases h : i < (encI (s.length : Int)).length
  · rw [decLen_cut hn h]
  · rw [decLen_rest (by omega) hn h, if_pos]
    rw [Int.ediv_one, List.length_take]
    omega
theorem decMany_cut {α : Type} {one : List Int → Dec α} {enc : α → List Int} : ∀ (l : List α) (a : Int) (i : Nat), (∀ x ∈ l, ∀ r, one (enc x ++ r) = .ok x (enc x).length) → (∀ x ∈ l, ∀ i, i < (enc x).length → one ((enc x).take i) = .err 10) →
    i < (l.flatMap enc).length → decMany one l.length a ((l.flatMap enc).take i) = .err 10
  | [], a, i, _, _, hi => by simp at hi
  | x :: l, a, i, h, hc, hi => by
    rw [List.flatMap_cons] at hi ⊢
    rw [List.length_append] at hi
    rw [List.length_cons, decMany, take_app]
    by_cases hlt : i < (enc x).length
    · rw [if_pos hlt, hc x (by simp) i hlt]
    · rw [if_neg hlt, h x (by simp)]
      dsimp only
      rw [show ((enc x).length : Int).toNat = (enc x).length by omega, List.drop_left, decMany_cut l _ _ (fun y hy => h y (by simp [hy])) (fun y hy => hc y (by simp [hy])) (by omega)]
theorem decList_cut {α : Type} {one : List Int → Dec α} {enc : α → List Int} {l : List α} (hl : l.length ≤ 9223372036854775807) (h : ∀ x ∈ l, ∀ r, one (enc x ++ r) = .ok x (enc x).length)
    (hc : ∀ x ∈ l, ∀ i, i < (enc x).length → one ((enc x).take i) = .err 10) {i : Nat} (hi : i < (encList enc l).length) : decList 1 one ((encList enc l).take i) = .err 10 := by
  have hn : isI64 (l.length : Int) := i64_iff.2 (by omega)
  unfold encList at hi ⊢
  rw [List.length_append] at hi
  unfold decList
  by_cases hlt : i < (encI (l.length : Int)).length
  · rw [decLen_cut hn hlt]
  · rw [decLen_rest (by omega) hn hlt]
    by_cases hq : (((((l.flatMap enc).take (i - (encI (l.length : Int)).length)).length : Nat) : Int) / 1 < (l.length : Int))
    · rw [if_pos hq]
    · rw [if_neg hq]
      dsimp only
      rw [take_app, if_neg hlt, show ((encI (l.length : Int)).length : Int).toNat = (encI (l.length : Int)).length by omega, List.drop_left, show ((l.length : Int)).toNat = l.length by omega]
      exact decMany_cut l _ _ h hc (by omega)
theorem digests_cut {l : List (List Int)} (hl : l.length ≤ 9223372036854775807) (h : ∀ x ∈ l, x.length = 16) {i : Nat} (hi : i < (encList (fun x : List Int => x) l).length) : decList 16 decDigest ((encList (fun x : List Int => x) l).take i) = .err 10 := by
  have hn : isI64 (l.length : Int) := i64_iff.2 (by omega)
  have h2 : (l.flatMap (fun x : List Int => x)).length ≤ 16 * l.length := flat_len (k := 16) l (fun x hx => by rw [h x hx]; exact Nat.le_refl _)
  unfold encList at hi ⊢
  rw [List.length_append] at hi
  unfold decList
  by_cases hlt : i < (encI (l.length : Int)).length
  · rw [decLen_cut hn hlt]
  · rw [decLen_rest (by omega) hn hlt, if_pos]
    rw [Int.ediv_lt_iff_lt_mul (by omega), List.length_take]
    omega
end Go.PL
