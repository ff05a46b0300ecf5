import Derived.Test.YtgneefndofeoaaaWl
namespace Go.Proofs.Ytgneefndofeoaaa
open Go.AM Go.PL
set_option linter.unusedVariables false
theorem law4a_nf (n : Int) : fnwp XL 5 6 (lawSp [I, BY]) (n, []) = ((decide ((2000 : Int) < (0 : Int)) = true → True ∧ true = true) ∧ (decide ((2000 : Int) < (0 : Int)) = false →
  True ∧ ((0 : Int) ≤ (0 : Int) ∧ (0 : Int) ≤ (↑(encI n).length : Int) ∧ (↑(encI n).length : Int) ≤ (↑(encI n).length : Int) ∧ (↑(encI n).length : Int) = (↑(encI n).length : Int))
  ∧ True ∧ True ∧ (true = true → (decide ((decO (decI (List.take ((↑(encI n).length : Int).toNat - (0 : Nat)) (List.drop (0 : Nat) (encI n))))).fst = n) = true → (decide ((decO
  (decI (List.take ((↑(encI n).length : Int).toNat - (0 : Nat)) (List.drop (0 : Nat) (encI n))))).snd.fst = (↑(encI n).length : Int)) = true → (decide ((decO (decI (List.take
  ((↑(encI n).length : Int).toNat - (0 : Nat)) (List.drop (0 : Nat) (encI n))))).snd.snd = (0 : Int)) = true → (decide ((1 : Int) ≤ (decO (decI (List.take ((↑(encI n).length :
  Int).toNat - (0 : Nat)) (List.drop (0 : Nat) (encI n))))).snd.fst) = true → decide ((decO (decI (List.take ((↑(encI n).length : Int).toNat - (0 : Nat)) (List.drop (0 : Nat) (encI
  n))))).snd.fst ≤ (10 : Int)) = true) ∧ (decide ((1 : Int) ≤ (decO (decI (List.take ((↑(encI n).length : Int).toNat - (0 : Nat)) (List.drop (0 : Nat) (encI n))))).snd.fst) = false
  → false = true)) ∧ (decide ((decO (decI (List.take ((↑(encI n).length : Int).toNat - (0 : Nat)) (List.drop (0 : Nat) (encI n))))).snd.snd = (0 : Int)) = false → false = true)) ∧
  (decide ((decO (decI (List.take ((↑(encI n).length : Int).toNat - (0 : Nat)) (List.drop (0 : Nat) (encI n))))).snd.fst = (↑(encI n).length : Int)) = false → false = true)) ∧
  (decide ((decO (decI (List.take ((↑(encI n).length : Int).toNat - (0 : Nat)) (List.drop (0 : Nat) (encI n))))).fst = n) = false → false = true)) ∧ (true = false → false = true)))
  := by kernel_rfl
theorem law4b_nf (n c : Int) (tail : List Int) : fnwp XL 5 6 (lawSp [I, BY]) (n, c :: tail) = ((decide ((2000 : Int) < (↑(c :: tail).length : Int)) = true → True ∧ true = true) ∧
  (decide ((2000 : Int) < (↑(c :: tail).length : Int)) = false → True ∧ ((0 : Int) ≤ (0 : Int) ∧ (0 : Int) ≤ (↑(encI n).length : Int) ∧ (↑(encI n).length : Int) ≤ (↑(encI n).length
  : Int) ∧ (↑(encI n).length : Int) = (↑(encI n).length : Int)) ∧ roomP XL (5 : Nat) ((List.take ((↑(encI n).length : Int).toNat - (0 : Nat)) (List.drop (0 : Nat) (encI n))).length
  + (c :: tail).length) ∧ True ∧ True ∧ (true = true → (decide ((decO (decI (List.take ((↑(encI n).length : Int).toNat - (0 : Nat)) (List.drop (0 : Nat) (encI n)) ++ c ::
  tail))).fst = n) = true → (decide ((decO (decI (List.take ((↑(encI n).length : Int).toNat - (0 : Nat)) (List.drop (0 : Nat) (encI n)) ++ c :: tail))).snd.fst = (↑(encI n).length
  : Int)) = true → (decide ((decO (decI (List.take ((↑(encI n).length : Int).toNat - (0 : Nat)) (List.drop (0 : Nat) (encI n)) ++ c :: tail))).snd.snd = (0 : Int)) = true → (decide
  ((1 : Int) ≤ (decO (decI (List.take ((↑(encI n).length : Int).toNat - (0 : Nat)) (List.drop (0 : Nat) (encI n)) ++ c :: tail))).snd.fst) = true → decide ((decO (decI (List.take
  ((↑(encI n).length : Int).toNat - (0 : Nat)) (List.drop (0 : Nat) (encI n)) ++ c :: tail))).snd.fst ≤ (10 : Int)) = true) ∧ (decide ((1 : Int) ≤ (decO (decI (List.take ((↑(encI
  n).length : Int).toNat - (0 : Nat)) (List.drop (0 : Nat) (encI n)) ++ c :: tail))).snd.fst) = false → false = true)) ∧ (decide ((decO (decI (List.take ((↑(encI n).length :
  Int).toNat - (0 : Nat)) (List.drop (0 : Nat) (encI n)) ++ c :: tail))).snd.snd = (0 : Int)) = false → false = true)) ∧ (decide ((decO (decI (List.take ((↑(encI n).length :
  Int).toNat - (0 : Nat)) (List.drop (0 : Nat) (encI n)) ++ c :: tail))).snd.fst = (↑(encI n).length : Int)) = false → false = true)) ∧ (decide ((decO (decI (List.take ((↑(encI
  n).length : Int).toNat - (0 : Nat)) (List.drop (0 : Nat) (encI n)) ++ c :: tail))).fst = n) = false → false = true)) ∧ (true = false → false = true))) := by kernel_rfl
theorem law2_nf (b : List Int) : fnwp XL 5 4 (lawSp [BY]) b = ((decide ((2000 : Int) < (↑b.length : Int)) = true → True ∧ true = true) ∧ (decide ((2000 : Int) < (↑b.length : Int))
  = false → True ∧ True ∧ ((!decide ((decO (decI b)).fst = (decO (decI b)).fst)) = true → false = true) ∧ ((!decide ((decO (decI b)).fst = (decO (decI b)).fst)) = false → ((!decide
  ((decO (decI b)).snd.fst = (decO (decI b)).snd.fst)) = true → false = true) ∧ ((!decide ((decO (decI b)).snd.fst = (decO (decI b)).snd.fst)) = false → ((!decide ((decO (decI
  b)).snd.snd = (decO (decI b)).snd.snd)) = true → false = true) ∧ ((!decide ((decO (decI b)).snd.snd = (decO (decI b)).snd.snd)) = false → True ∧ True ∧ ((!decide (((decBytes
  b).triple []).fst = ((decBytes b).triple []).fst)) = true → false = true) ∧ ((!decide (((decBytes b).triple []).fst = ((decBytes b).triple []).fst)) = false → ((!decide
  (((decBytes b).triple []).snd.fst = ((decBytes b).triple []).snd.fst)) = true → false = true) ∧ ((!decide (((decBytes b).triple []).snd.fst = ((decBytes b).triple []).snd.fst)) =
  false → ((!decide (((decBytes b).triple []).snd.snd = ((decBytes b).triple []).snd.snd)) = true → false = true) ∧ ((!decide (((decBytes b).triple []).snd.snd = ((decBytes
  b).triple []).snd.snd)) = false → small2 b ∧ small2 b ∧ True ∧ ((!decide (((decList (1 : Int) decI b).triple []).fst = ((decList (1 : Int) decI b).triple []).fst)) = true → false
  = true) ∧ ((!decide (((decList (1 : Int) decI b).triple []).fst = ((decList (1 : Int) decI b).triple []).fst)) = false → ((!decide (((decList (1 : Int) decI b).triple []).snd.fst
  = ((decList (1 : Int) decI b).triple []).snd.fst)) = true → false = true) ∧ ((!decide (((decList (1 : Int) decI b).triple []).snd.fst = ((decList (1 : Int) decI b).triple
  []).snd.fst)) = false → ((!decide (((decList (1 : Int) decI b).triple []).snd.snd = ((decList (1 : Int) decI b).triple []).snd.snd)) = true → false = true) ∧ ((!decide (((decList
  (1 : Int) decI b).triple []).snd.snd = ((decList (1 : Int) decI b).triple []).snd.snd)) = false → small2 b ∧ small2 b ∧ True ∧ ((!decide (((decList (1 : Int) decBytes b).triple
  []).fst = ((decList (1 : Int) decBytes b).triple []).fst)) = true → false = true) ∧ ((!decide (((decList (1 : Int) decBytes b).triple []).fst = ((decList (1 : Int) decBytes
  b).triple []).fst)) = false → ((!decide (((decList (1 : Int) decBytes b).triple []).snd.fst = ((decList (1 : Int) decBytes b).triple []).snd.fst)) = true → false = true) ∧
  ((!decide (((decList (1 : Int) decBytes b).triple []).snd.fst = ((decList (1 : Int) decBytes b).triple []).snd.fst)) = false → ((!decide (((decList (1 : Int) decBytes b).triple
  []).snd.snd = ((decList (1 : Int) decBytes b).triple []).snd.snd)) = true → false = true) ∧ ((!decide (((decList (1 : Int) decBytes b).triple []).snd.snd = ((decList (1 : Int)
  decBytes b).triple []).snd.snd)) = false → small2 b ∧ small2 b ∧ True ∧ (true = true → True ∧ (decide (((decList (16 : Int) decDigest b).triple []).fst = ((decList (16 : Int)
  decDigest b).triple []).fst) = true → (decide (((decList (16 : Int) decDigest b).triple []).snd.fst = ((decList (16 : Int) decDigest b).triple []).snd.fst) = true → decide
  (((decList (16 : Int) decDigest b).triple []).snd.snd = ((decList (16 : Int) decDigest b).triple []).snd.snd) = true) ∧ (decide (((decList (16 : Int) decDigest b).triple
  []).snd.fst = ((decList (16 : Int) decDigest b).triple []).snd.fst) = false → false = true)) ∧ (decide (((decList (16 : Int) decDigest b).triple []).fst = ((decList (16 : Int)
  decDigest b).triple []).fst) = false → false = true)) ∧ (true = false → false = true))))))))))))))) := by kernel_rfl
def consumedSp : FSpec := ⟨[BY, BY, I, I], [.bool], fun _ => True, fun x => decide (¬ (x.2.2.2 : Int) = 0) || (decide ((0 : Int) ≤ x.2.2.1) && decide ((x.2.2.1 : Int) ≤ (x.1 : List Int).length) && decide ((x.2.1 : List Int) = (x.1 : List Int).take (x.2.2.1 : Int).toNat))⟩
theorem consumed_nf (b c : List Int) (u e : Int) : fnwp XL 5 37 consumedSp (b, c, u, e) = (((!decide (e = (0 : Int))) = true → true = (decide ¬e = (0 : Int) || decide ((0 : Int) ≤
  u) && decide (u ≤ (↑b.length : Int)) && decide (c = List.take u.toNat b))) ∧ ((!decide (e = (0 : Int))) = false → (decide ((0 : Int) ≤ u) = true → (decide (u ≤ (↑b.length : Int))
  = true → ((0 : Int) ≤ (0 : Int) ∧ (0 : Int) ≤ max (0 : Int) (min u (↑b.length : Int)) ∧ max (0 : Int) (min u (↑b.length : Int)) ≤ (↑b.length : Int)) ∧ True ∧ decide (c =
  List.take ((max (0 : Int) (min u (↑b.length : Int))).toNat - (0 : Nat)) (List.drop (0 : Nat) b)) = (decide ¬e = (0 : Int) || decide ((0 : Int) ≤ u) && decide (u ≤ (↑b.length :
  Int)) && decide (c = List.take u.toNat b))) ∧ (decide (u ≤ (↑b.length : Int)) = false → false = (decide ¬e = (0 : Int) || decide ((0 : Int) ≤ u) && decide (u ≤ (↑b.length : Int))
  && decide (c = List.take u.toNat b)))) ∧ (decide ((0 : Int) ≤ u) = false → false = (decide ¬e = (0 : Int) || decide ((0 : Int) ≤ u) && decide (u ≤ (↑b.length : Int)) && decide (c
  = List.take u.toNat b))))) := by kernel_rfl
noncomputable def XC : Ctx := mkctx bs ((37, consumedSp) :: (12, sanitySp) :: tblW) [] hintT
theorem law5_nf (b : List Int) : fnwp XC 5 7 (lawSp [BY]) b = ((decide ((2000 : Int) < (↑b.length : Int)) = true → True ∧ true = true) ∧ (decide ((2000 : Int) < (↑b.length : Int))
  = false → True ∧ True ∧ small2 b ∧ small2 b ∧ small2 b ∧ True ∧ (true = true → True ∧ True ∧ ((decide ¬(decO (decI b)).snd.snd = (0 : Int) || decide ((0 : Int) ≤ (decO (decI
  b)).snd.fst) && decide ((decO (decI b)).snd.fst ≤ (↑b.length : Int)) && decide (encI (decO (decI b)).fst = List.take (decO (decI b)).snd.fst.toNat b)) = true → ((decBytes
  b).triple []).fst.length ≤ (100000 : Nat) ∧ True ∧ ((decide ¬((decBytes b).triple []).snd.snd = (0 : Int) || decide ((0 : Int) ≤ ((decBytes b).triple []).snd.fst) && decide
  (((decBytes b).triple []).snd.fst ≤ (↑b.length : Int)) && decide (encBytes ((decBytes b).triple []).fst = List.take ((decBytes b).triple []).snd.fst.toNat b)) = true → small2
  ((decList (1 : Int) decI b).triple []).fst ∧ True ∧ ((decide ¬((decList (1 : Int) decI b).triple []).snd.snd = (0 : Int) || decide ((0 : Int) ≤ ((decList (1 : Int) decI b).triple
  []).snd.fst) && decide (((decList (1 : Int) decI b).triple []).snd.fst ≤ (↑b.length : Int)) && decide (encList encI ((decList (1 : Int) decI b).triple []).fst = List.take
  ((decList (1 : Int) decI b).triple []).snd.fst.toNat b)) = true → ((∀ (s : List Int), s ∈ ((decList (1 : Int) decBytes b).triple []).fst → s.length ≤ (100000 : Nat)) ∧ small2
  ((decList (1 : Int) decBytes b).triple []).fst) ∧ True ∧ ((decide ¬((decList (1 : Int) decBytes b).triple []).snd.snd = (0 : Int) || decide ((0 : Int) ≤ ((decList (1 : Int)
  decBytes b).triple []).snd.fst) && decide (((decList (1 : Int) decBytes b).triple []).snd.fst ≤ (↑b.length : Int)) && decide (encList encBytes ((decList (1 : Int) decBytes
  b).triple []).fst = List.take ((decList (1 : Int) decBytes b).triple []).snd.fst.toNat b)) = true → small2 ((decList (16 : Int) decDigest b).triple []).fst ∧ True ∧ (decide
  ¬((decList (16 : Int) decDigest b).triple []).snd.snd = (0 : Int) || decide ((0 : Int) ≤ ((decList (16 : Int) decDigest b).triple []).snd.fst) && decide (((decList (16 : Int)
  decDigest b).triple []).snd.fst ≤ (↑b.length : Int)) && decide (encList (fun (x : List Int) => x) ((decList (16 : Int) decDigest b).triple []).fst = List.take ((decList (16 :
  Int) decDigest b).triple []).snd.fst.toNat b)) = true) ∧ ((decide ¬((decList (1 : Int) decBytes b).triple []).snd.snd = (0 : Int) || decide ((0 : Int) ≤ ((decList (1 : Int)
  decBytes b).triple []).snd.fst) && decide (((decList (1 : Int) decBytes b).triple []).snd.fst ≤ (↑b.length : Int)) && decide (encList encBytes ((decList (1 : Int) decBytes
  b).triple []).fst = List.take ((decList (1 : Int) decBytes b).triple []).snd.fst.toNat b)) = false → false = true)) ∧ ((decide ¬((decList (1 : Int) decI b).triple []).snd.snd =
  (0 : Int) || decide ((0 : Int) ≤ ((decList (1 : Int) decI b).triple []).snd.fst) && decide (((decList (1 : Int) decI b).triple []).snd.fst ≤ (↑b.length : Int)) && decide (encList
  encI ((decList (1 : Int) decI b).triple []).fst = List.take ((decList (1 : Int) decI b).triple []).snd.fst.toNat b)) = false → false = true)) ∧ ((decide ¬((decBytes b).triple
  []).snd.snd = (0 : Int) || decide ((0 : Int) ≤ ((decBytes b).triple []).snd.fst) && decide (((decBytes b).triple []).snd.fst ≤ (↑b.length : Int)) && decide (encBytes ((decBytes
  b).triple []).fst = List.take ((decBytes b).triple []).snd.fst.toNat b)) = false → false = true)) ∧ ((decide ¬(decO (decI b)).snd.snd = (0 : Int) || decide ((0 : Int) ≤ (decO
  (decI b)).snd.fst) && decide ((decO (decI b)).snd.fst ≤ (↑b.length : Int)) && decide (encI (decO (decI b)).fst = List.take (decO (decI b)).snd.fst.toNat b)) = false → false =
  true)) ∧ (true = false → false = true))) := by kernel_rfl
end Go.Proofs.Ytgneefndofeoaaa
