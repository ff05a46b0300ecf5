import Derived.Test.YtighbmlnlmbbkaaHr
namespace Go.Proofs.Ytighbmlnlmbbkaa
open Go.AM Go.PL
set_option linter.unusedVariables false
theorem l6_nf (a b : List Hit) (k : Int) : fnwp HL1 6 8 (lawSp [HL, HL, I]) (a, b, k) = (True ∧ ((!validH a k) = true → True ∧ true = true) ∧ ((!validH a k) = false → True ∧
  ((!validH b k) = true → True ∧ true = true) ∧ ((!validH b k) = false → (a.length + b.length ≤ (1000 : Nat) ∧ (0 : Int) ≤ k) ∧ True ∧ true = true ∧ (b.length + a.length ≤ (1000 :
  Nat) ∧ (0 : Int) ≤ k) ∧ True ∧ sameH (ofH (a ++ b) k) (ofH (b ++ a) k) = true ∧ (a.length + a.length ≤ (1000 : Nat) ∧ (0 : Int) ≤ k) ∧ True ∧ sameH (ofH (a ++ a) k) a = true ∧
  isI64 ((↑a.length : Int) + (↑b.length : Int)) ∧ decide ((↑(ofH (a ++ b) k).length : Int) ≤ (↑a.length : Int) + (↑b.length : Int)) = true ∧ (ofH (a ++ b) k).length ≤ (1000 : Nat)
  ∧ (ofH (a ++ b) k).length ≤ (1000 : Nat) ∧ isI64 (commonH (ofH (a ++ b) k) a + commonH (ofH (a ++ b) k) b) ∧ decide ((↑(ofH (a ++ b) k).length : Int) ≤ commonH (ofH (a ++ b) k) a
  + commonH (ofH (a ++ b) k) b) = true ∧ a.length ≤ (1000 : Nat) ∧ b.length ≤ (1000 : Nat) ∧ decide (commonH a b = commonH b a) = true))) := by kernel_rfl
theorem sat_L6 : Sat bs.P 8 (lawSp [HL, HL, I]) := by
  refine sat_nf (C := HL1) ssHL1 (fun x => l6_nf x.1 x.2.1 x.2.2) fun (⟨a, b, k⟩ : List Hit × List Hit × Int) hk _ => ?_
  try dsimp only
  refine ⟨trivial, fun _ => ⟨trivial, rfl⟩, fun ha => ⟨trivial, fun _ => ⟨trivial, rfl⟩, fun hb => ?_⟩⟩
  have va := isV_of (nf ha)
  have vb := isV_of (nf hb)
  have h1 := va.k1; have h2 := va.k2; have h3 := va.len; have h4 := vb.len
  have hT := isOf_ofH (a ++ b) k
  have hl := isOf_len hT
  have hl2 := hT.len
  rw [List.length_append] at hl
  have c1 := common_le (ofH (a ++ b) k) a
  have c2 := common_le (ofH (a ++ b) k) b
  have c3 := common_two a b (ofH (a ++ b) k) fun t ht => List.mem_append.1 (hT.rep t ht).1
  refine ⟨⟨by omega, by omega⟩, trivial, rfl, ⟨by omega, by omega⟩, trivial, same_of (ofH_congr k fun x => ?_), ⟨by omega, by omega⟩, trivial, same_of (ofH_valid va fun x => ?_), i64s (by omega) (by omega), decide_eq_true (by omega), by omega, by omega, i64s (by omega) (by omega), decide_eq_true c3, by omega, by omega, decide_eq_true (common_sym va vb)⟩
  · simp only [List.mem_append]; exact Or.comm
  · simp
end Go.Proofs.Ytighbmlnlmbbkaa
