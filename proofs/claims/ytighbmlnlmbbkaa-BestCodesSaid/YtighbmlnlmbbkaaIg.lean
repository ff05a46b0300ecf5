import Derived.Test.YtighbmlnlmbbkaaHr
namespace Go.Proofs.Ytighbmlnlmbbkaa
open Go.AM Go.PL
set_option linter.unusedVariables false
theorem decLen_enc1 {n : Int} {r : List Int} (h0 : 0 ≤ n) (hn : isI64 n) (hr : n ≤ r.length) : decLen 1 (PL.encI n ++ r) = .ok n (PL.encI n).length := by
  unfold decLen
  rw [dec_enc hn r]
  dsimp only
  rw [if_neg (by omega), if_neg]
  rw [List.length_append, Int.ediv_one]
  omega
theorem decMany_encI : ∀ (l : List Int) (a : Int), (∀ x ∈ l, isI64 x) → decMany decI l.length a (l.flatMap PL.encI) = .ok l (a + (l.flatMap PL.encI).length)
  | [], a, _ => by simp [decMany]
  | x :: l, a, h => by
    simp only [List.length_cons, decMany, List.flatMap_cons]
    rw [dec_enc (h x (by simp))]
    dsimp only
    rw [show ((PL.encI x).length : Int).toNat = (PL.encI x).length by omega, List.drop_left, decMany_encI l _ (fun y hy => h y (by simp [hy]))]
    dsimp only
    rw [List.length_append]
    congr 1
    omega
theorem flat_least1 : ∀ (l : List Int), l.length ≤ (l.flatMap PL.encI).length
  | [] => by simp
  | x :: l => by
    have h1 := flat_least1 l
    have h2 := (encI_len x).1
    rw [List.flatMap_cons, List.length_append, List.length_cons]
    omega
theorem ints_enc1 {l : List Int} (hl : l.length ≤ 9223372036854775807) (h : ∀ x ∈ l, isI64 x) : decList 1 decI (encList PL.encI l) = .ok l (encList PL.encI l).length := by
  have h1 := flat_least1 l
  unfold decList encList
  rw [decLen_enc1 (by omega) (i64_iff.2 (by omega)) (by omega)]
  dsimp only
  rw [show ((PL.encI (l.length : Int)).length : Int).toNat = (PL.encI (l.length : Int)).length by omega, List.drop_left, show ((l.length : Int)).toNat = l.length by omega, decMany_encI l _ h, List.length_append]
  congr 1
theorem hitsOf_nums : ∀ (l : List Hit), hitsOf (numsH l) = l
  | [] => rfl
  | h :: l => by
    show (h.1, h.2.1, h.2.2.1, ()) :: hitsOf (numsH l) = h :: l
    rw [hitsOf_nums l]
theorem dec_encH {l : List Hit} (hl : l.length ≤ 1000) (h : ∀ x ∈ numsH l, isI64 x) (k : Int) : decH (PL.encH l) k = if validH l k = true then (l, 0) else ([], 3) := by
  have hn := nums_len l
  unfold decH
  unfold PL.encH
  rw [ints_enc1 (by omega) h]
  show decHN (numsH l) _ 0 _ k = _
  unfold decHN
  rw [if_neg (by simp), if_neg (fun h => h rfl), if_neg (by omega), hitsOf_nums]
theorem encI_le (n : Int) : (PL.encI n).length ≤ 10 := (encI_len n).2
theorem flat_most : ∀ (l : List Int), (l.flatMap PL.encI).length ≤ l.length * 10
  | [] => by simp
  | x :: l => by
    have h1 := flat_most l
    have h2 := encI_le x
    rw [List.flatMap_cons, List.length_append, List.length_cons]
    omega
theorem l7_nf (l : List Hit) (k : Int) (b : List Int) : fnwp HL1 6 9 (lawSp [HL, I, BY]) (l, k, b) = ((decide ((40 : Int) < (↑l.length : Int)) = true → True ∧ true = true) ∧
  (decide ((40 : Int) < (↑l.length : Int)) = false → (decide ((600 : Int) < (↑b.length : Int)) = true → True ∧ true = true) ∧ (decide ((600 : Int) < (↑b.length : Int)) = false →
  small2 b ∧ small2 b ∧ l.length ≤ (1000 : Nat) ∧ small2 (PL.encH l) ∧ (decide ((decH (PL.encH l) k).snd = (0 : Int)) = true → True ∧ True ∧ ((!validH l k) = true → (decide ((decH
  (PL.encH l) k).snd = (3 : Int)) = true → True ∧ true = true ∧ decide ((decH b k).snd = (rdOf (decH b k)).snd.fst) = true ∧ True ∧ sameH (decH b k).fst (rdOf (decH b k)).fst =
  true ∧ l.length ≤ (1000 : Nat) ∧ l.length ≤ (1000 : Nat) ∧ decide (PL.encH l = PL.encH l) = true ∧ decide ((↑(decH (PL.encH l) k).fst.length : Int) = (0 : Int)) = true) ∧ (decide
  ((decH (PL.encH l) k).snd = (3 : Int)) = false → True ∧ true = true ∧ decide ((decH b k).snd = (rdOf (decH b k)).snd.fst) = true ∧ True ∧ sameH (decH b k).fst (rdOf (decH b
  k)).fst = true ∧ l.length ≤ (1000 : Nat) ∧ l.length ≤ (1000 : Nat) ∧ decide (PL.encH l = PL.encH l) = true ∧ false = true)) ∧ ((!validH l k) = false → True ∧ true = true ∧ decide
  ((decH b k).snd = (rdOf (decH b k)).snd.fst) = true ∧ True ∧ sameH (decH b k).fst (rdOf (decH b k)).fst = true ∧ l.length ≤ (1000 : Nat) ∧ l.length ≤ (1000 : Nat) ∧ decide
  (PL.encH l = PL.encH l) = true ∧ sameH (decH (PL.encH l) k).fst l = true)) ∧ (decide ((decH (PL.encH l) k).snd = (0 : Int)) = false → True ∧ ((!validH l k) = true → (decide
  ((decH (PL.encH l) k).snd = (3 : Int)) = true → True ∧ true = true ∧ decide ((decH b k).snd = (rdOf (decH b k)).snd.fst) = true ∧ True ∧ sameH (decH b k).fst (rdOf (decH b
  k)).fst = true ∧ l.length ≤ (1000 : Nat) ∧ l.length ≤ (1000 : Nat) ∧ decide (PL.encH l = PL.encH l) = true ∧ decide ((↑(decH (PL.encH l) k).fst.length : Int) = (0 : Int)) = true)
  ∧ (decide ((decH (PL.encH l) k).snd = (3 : Int)) = false → True ∧ true = true ∧ decide ((decH b k).snd = (rdOf (decH b k)).snd.fst) = true ∧ True ∧ sameH (decH b k).fst (rdOf
  (decH b k)).fst = true ∧ l.length ≤ (1000 : Nat) ∧ l.length ≤ (1000 : Nat) ∧ decide (PL.encH l = PL.encH l) = true ∧ false = true)) ∧ ((!validH l k) = false → True ∧ true = true
  ∧ decide ((decH b k).snd = (rdOf (decH b k)).snd.fst) = true ∧ True ∧ sameH (decH b k).fst (rdOf (decH b k)).fst = true ∧ l.length ≤ (1000 : Nat) ∧ l.length ≤ (1000 : Nat) ∧
  decide (PL.encH l = PL.encH l) = true ∧ false = true))))) := by kernel_rfl
theorem sat_L7 : Sat bs.P 9 (lawSp [HL, I, BY]) := by
  refine sat_nf (C := HL1) ssHL1 (fun x => l7_nf x.1 x.2.1 x.2.2) fun (⟨l, k, b⟩ : List Hit × Int × List Int) hk _ => ?_
  try dsimp only
  refine ⟨fun _ => ⟨trivial, rfl⟩, fun hl => ⟨fun _ => ⟨trivial, rfl⟩, fun hb => ?_⟩⟩
  have hl := df hl
  have hb := df hb
  have hi : ∀ x ∈ numsH l, isI64 x := fun x hx => by
    unfold numsH at hx
    obtain ⟨h, hh, hx⟩ := List.mem_flatMap.1 hx
    have ho : okd PT h := hk.1.2 h hh
    obtain ⟨o1, o2, o3, _⟩ := ho
    have o1 : IntKind.i64.has h.1 := o1
    have o2 : IntKind.i64.has h.2.1 := o2
    have o3 : IntKind.i64.has h.2.2.1 := o3
    simp only [List.mem_cons, List.not_mem_nil, or_false] at hx
    rcases hx with rfl | rfl | rfl
    · exact has_i64.1 o1
    · exact has_i64.1 o2
    · exact has_i64.1 o3
  have hs : small2 (PL.encH l) := by
    have h1 := flat_most (numsH l)
    have h2 := nums_len l
    have h3 := encI_le ((numsH l).length : Int)
    unfold small2 PL.encH encList
    rw [List.length_append]
    omega
  rw [dec_encH (by omega) hi]
  have r1 : (rdOf (decH b k)).snd.fst = (decH b k).snd := rfl
  have r2 : (rdOf (decH b k)).fst = (decH b k).fst := rfl
  have hl' : l.length ≤ 1000 := by omega
  have hb' : small2 b := by unfold small2; omega
  simp only [r1, r2, same_self, decide_true, hs, hl', hb', true_and]
  by_cases hv : validH l k = true
  · simp [hv, same_self]
  · have hv : validH l k = false := by simpa using hv
    simp [hv]
end Go.Proofs.Ytighbmlnlmbbkaa
