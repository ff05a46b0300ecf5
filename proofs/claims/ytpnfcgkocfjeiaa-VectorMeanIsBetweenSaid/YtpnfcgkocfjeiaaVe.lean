import Derived.Test.YtpnfcgkocfjeiaaVd
namespace Go.Proofs.Ytpnfcgkocfjeiaa
open Go.AM Go.PL
set_option linter.unusedVariables false

def tblV : List (FuncId × FSpec) := [(13, validSp), (26, diffSp), (18, metricSp), (15, alikeSp),
  (21, subSp), (23, dotSp), (28, normSp), (25, keySp), (31, meanSp),
  (17, cmpSp), (19, same4Sp), (29, allSp), (35, intsSp), (33, rReadSp),
  (12, validSp), (14, alikeSp), (20, subSp), (22, dotSp), (27, normSp), (24, keySp),
  (30, meanSp), (16, cmpSp), (34, intsSp), (32, readSp)]
theorem satV : AllSat Try.prog tblV := ⟨sat_rValid, sat_rDiff, sat_rMetric, sat_rAlike, sat_rSub, sat_rDot, sat_rNorm, sat_rKey, sat_rMean, sat_rCompare, sat_rSame, sat_rAll, sat_rEncode, sat_rDecode,
  sat_valid, sat_alike, sat_sub, sat_dot, sat_norm, sat_key, sat_mean, sat_compare, sat_encode, sat_decode, trivial⟩

def sanitySp : FSpec := ⟨[], [.bool], fun _ => True, fun _ => true⟩
noncomputable def VS : Ctx := mkctx bs tblV [] hintC
theorem ssVS : SpecSound VS := mkctx_sound satV trivial
theorem sanity_nf : fnwp VS 5 11 sanitySp () = ((small (64 : Nat) (4000 : Int) [(1 : Int), (-2 : Int), (3 : Int)] ∧ small (64 : Nat) (4000 : Int) [(4 : Int), (2 : Int), (3 : Int)]
  ∧ (3 : Nat) = (3 : Nat)) ∧ True ∧ (small (64 : Nat) (8000 : Int) [(1 : Int), (-2 : Int), (3 : Int)] ∧ small (64 : Nat) (8000 : Int) [(4 : Int), (2 : Int), (3 : Int)] ∧ (3 : Nat)
  = (3 : Nat)) ∧ ((1 : Int) ≤ (1 : Int) ∧ (1 : Int) ≤ (3 : Int) ∧ small (64 : Nat) (4000 : Int) [(1 : Int), (-2 : Int), (3 : Int)] ∧ small (64 : Nat) (4000 : Int) [(4 : Int), (2 :
  Int), (3 : Int)] ∧ (3 : Nat) = (3 : Nat)) ∧ ((1 : Int) ≤ (2 : Int) ∧ (2 : Int) ≤ (3 : Int) ∧ small (64 : Nat) (4000 : Int) [(1 : Int), (-2 : Int), (3 : Int)] ∧ small (64 : Nat)
  (4000 : Int) [(4 : Int), (2 : Int), (3 : Int)] ∧ (3 : Nat) = (3 : Nat)) ∧ ((1 : Int) ≤ (3 : Int) ∧ (3 : Int) ≤ (3 : Int) ∧ small (64 : Nat) (4000 : Int) [(1 : Int), (-2 : Int),
  (3 : Int)] ∧ small (64 : Nat) (4000 : Int) [(4 : Int), (2 : Int), (3 : Int)] ∧ (3 : Nat) = (3 : Nat)) ∧ rows [[(1 : Int), (-2 : Int), (3 : Int)], [(4 : Int), (2 : Int), (3 :
  Int)]] ∧ True ∧ rows [[(-1 : Int)], [(0 : Int)]] ∧ True ∧ True ∧ True ∧ small2 [(1 : Int), (-2 : Int), (3 : Int)] ∧ small2 (encList encI [(1 : Int), (-2 : Int), (3 : Int)]) ∧
  small2 ([] : List Int) ∧ small2 (encList encI []) ∧ True ∧ True ∧ True ∧ True ∧ true = true) := by kernel_rfl

def loopsL (f : FuncId) (r : Nat) : List LA :=
  if Nat.beq f 7 then (if Nat.beq r 8 then [.slot 70 I] else [.slot 9 I, .slot 10 I, .slot 87 I]) else
  if Nat.beq f 10 then [.slot 10 .bool, .slot 42 I] else []
noncomputable def VL : Ctx := mkctx bs ((11, sanitySp) :: tblV) [] (hint0 loopsL)
theorem law1_nf (m : Int) (a b : List Int) : fnwp VL 5 3 (lawSp [I, L, L]) (m, a, b) = ((decide ((40 : Int) < (↑a.length : Int)) = true → True ∧ true = true) ∧ (decide ((40 : Int)
  < (↑a.length : Int)) = false → (decide ((40 : Int) < (↑b.length : Int)) = true → True ∧ true = true) ∧ (decide ((40 : Int) < (↑b.length : Int)) = false → True ∧ True ∧ ((vecOk a
  != vecOk a) = true → false = true) ∧ ((vecOk a != vecOk a) = false → True ∧ True ∧ ((alikeB a b != alikeB a b) = true → false = true) ∧ ((alikeB a b != alikeB a b) = false → True
  ∧ True ∧ ((!decide (cmpS a b = cmpS a b)) = true → false = true) ∧ ((!decide (cmpS a b = cmpS a b)) = false → True ∧ ((!alikeB a b) = true → True ∧ true = true) ∧ ((!alikeB a b)
  = false → True ∧ ((!(decide ((1 : Int) ≤ m) && decide (m ≤ (3 : Int)))) = true → True ∧ true = true) ∧ ((!(decide ((1 : Int) ≤ m) && decide (m ≤ (3 : Int)))) = false → True ∧
  (true = true → (small (64 : Nat) (4000 : Int) a ∧ small (64 : Nat) (4000 : Int) b ∧ a.length = b.length) ∧ (small (64 : Nat) (4000 : Int) a ∧ small (64 : Nat) (4000 : Int) b ∧
  a.length = b.length) ∧ True ∧ (decide (subS a b = subS a b) = true → (small (64 : Nat) (8000 : Int) a ∧ small (64 : Nat) (8000 : Int) b ∧ a.length = b.length) ∧ (small (64 : Nat)
  (8000 : Int) a ∧ small (64 : Nat) (8000 : Int) b ∧ a.length = b.length) ∧ (decide (dotS a b = dotS a b) = true → ((1 : Int) ≤ m ∧ m ≤ (3 : Int) ∧ small (64 : Nat) (4000 : Int) a
  ∧ small (64 : Nat) (4000 : Int) b ∧ a.length = b.length) ∧ ((1 : Int) ≤ m ∧ m ≤ (3 : Int) ∧ small (64 : Nat) (4000 : Int) a ∧ small (64 : Nat) (4000 : Int) b ∧ a.length =
  b.length) ∧ decide (keyS m a b = keyS m a b) = true) ∧ (decide (dotS a b = dotS a b) = false → false = true)) ∧ (decide (subS a b = subS a b) = false → false = true)) ∧ (true =
  false → false = true))))))))) := by kernel_rfl
theorem law2_nf (m : Int) (v : List Int) (l : List (List Int)) : fnwp VL 5 4 (lawSp [I, L, LL]) (m, v, l) = (True ∧ (diffOk v = true → True ∧ ((decide ((1 : Int) ≤ m) && decide (m
  ≤ (3 : Int))) = true → ((1 : Int) ≤ m ∧ m ≤ (3 : Int) ∧ small (64 : Nat) (8000 : Int) v) ∧ ((1 : Int) ≤ m ∧ m ≤ (3 : Int) ∧ small (64 : Nat) (8000 : Int) v) ∧ ((!decide (normS m
  v = normS m v)) = true → false = true) ∧ ((!decide (normS m v = normS m v)) = false → (small (64 : Nat) (8000 : Int) v ∧ small (64 : Nat) (8000 : Int) v ∧ v.length = v.length) ∧
  (small (64 : Nat) (8000 : Int) v ∧ small (64 : Nat) (8000 : Int) v ∧ v.length = v.length) ∧ ((!decide (dotS v v = dotS v v)) = true → false = true) ∧ ((!decide (dotS v v = dotS v
  v)) = false → True ∧ ((!allB l (20 : Int)) = true → True ∧ true = true) ∧ ((!allB l (20 : Int)) = false → True ∧ (true = true → rows l ∧ rows l ∧ True ∧ decide (meanS l = meanS
  l) = true) ∧ (true = false → false = true))))) ∧ ((decide ((1 : Int) ≤ m) && decide (m ≤ (3 : Int))) = false → True ∧ ((!allB l (20 : Int)) = true → True ∧ true = true) ∧ ((!allB
  l (20 : Int)) = false → True ∧ (true = true → rows l ∧ rows l ∧ True ∧ decide (meanS l = meanS l) = true) ∧ (true = false → false = true)))) ∧ (diffOk v = false → True ∧ ((!allB
  l (20 : Int)) = true → True ∧ true = true) ∧ ((!allB l (20 : Int)) = false → True ∧ (true = true → rows l ∧ rows l ∧ True ∧ decide (meanS l = meanS l) = true) ∧ (true = false →
  false = true)))) := by kernel_rfl
theorem law3_nf (m : Int) (a b c : List Int) : fnwp VL 5 5 (lawSp [I, L, L, L]) (m, a, b, c) = (True ∧ ((!alikeB a b) = true → True ∧ true = true) ∧ ((!alikeB a b) = false → True ∧
  ((!alikeB b c) = true → True ∧ true = true) ∧ ((!alikeB b c) = false → True ∧ ((!(decide ((1 : Int) ≤ m) && decide (m ≤ (3 : Int)))) = true → True ∧ true = true) ∧ ((!(decide ((1
  : Int) ≤ m) && decide (m ≤ (3 : Int)))) = false → ((1 : Int) ≤ m ∧ m ≤ (3 : Int) ∧ small (64 : Nat) (4000 : Int) a ∧ small (64 : Nat) (4000 : Int) c ∧ a.length = c.length) ∧ ((1
  : Int) ≤ m ∧ m ≤ (3 : Int) ∧ small (64 : Nat) (4000 : Int) a ∧ small (64 : Nat) (4000 : Int) b ∧ a.length = b.length) ∧ ((1 : Int) ≤ m ∧ m ≤ (3 : Int) ∧ small (64 : Nat) (4000 :
  Int) b ∧ small (64 : Nat) (4000 : Int) c ∧ b.length = c.length) ∧ ((1 : Int) ≤ m ∧ m ≤ (3 : Int) ∧ small (64 : Nat) (4000 : Int) c ∧ small (64 : Nat) (4000 : Int) a ∧ c.length =
  a.length) ∧ ((!decide (keyS m a c = keyS m c a)) = true → false = true) ∧ ((!decide (keyS m a c = keyS m c a)) = false → True ∧ ((decide (keyS m a c = (0 : Int)) != decide (cmpS
  a c = (0 : Int))) = true → false = true) ∧ ((decide (keyS m a c = (0 : Int)) != decide (cmpS a c = (0 : Int))) = false → (decide (keyS m a c < (0 : Int)) = true → false = true) ∧
  (decide (keyS m a c < (0 : Int)) = false → (decide ((134217728 : Int) < keyS m a c) = true → false = true) ∧ (decide ((134217728 : Int) < keyS m a c) = false → isI64 (keyS m a c
  - keyS m a b) ∧ isI64 (keyS m a c - keyS m a b - keyS m b c) ∧ (decide (m = (2 : Int)) = true → True ∧ (true = true → (decide (keyS m a c - keyS m a b - keyS m b c ≤ (0 : Int)) =
  true → true = true) ∧ (decide (keyS m a c - keyS m a b - keyS m b c ≤ (0 : Int)) = false → isI64 ((keyS m a c - keyS m a b - keyS m b c) * (keyS m a c - keyS m a b - keyS m b c))
  ∧ isI64 ((4 : Int) * keyS m a b) ∧ isI64 ((4 : Int) * keyS m a b * keyS m b c) ∧ decide ((keyS m a c - keyS m a b - keyS m b c) * (keyS m a c - keyS m a b - keyS m b c) ≤ (4 :
  Int) * keyS m a b * keyS m b c) = true)) ∧ (true = false → false = true)) ∧ (decide (m = (2 : Int)) = false → True ∧ (true = true → decide (keyS m a c - keyS m a b - keyS m b c ≤
  (0 : Int)) = true) ∧ (true = false → false = true)))))))))) := by kernel_rfl
theorem law4_nf (a b : List Int) : fnwp VL 5 6 (lawSp [L, L]) (a, b) = (True ∧ ((!alikeB a b) = true → True ∧ true = true) ∧ ((!alikeB a b) = false → (small (64 : Nat) (4000 : Int)
  a ∧ small (64 : Nat) (4000 : Int) b ∧ a.length = b.length) ∧ ((1 : Int) ≤ (1 : Int) ∧ (1 : Int) ≤ (3 : Int) ∧ small (64 : Nat) (8000 : Int) (subS a b)) ∧ ((1 : Int) ≤ (2 : Int) ∧
  (2 : Int) ≤ (3 : Int) ∧ small (64 : Nat) (8000 : Int) (subS a b)) ∧ ((1 : Int) ≤ (3 : Int) ∧ (3 : Int) ≤ (3 : Int) ∧ small (64 : Nat) (8000 : Int) (subS a b)) ∧ ((1 : Int) ≤ (2 :
  Int) ∧ (2 : Int) ≤ (3 : Int) ∧ small (64 : Nat) (4000 : Int) a ∧ small (64 : Nat) (4000 : Int) b ∧ a.length = b.length) ∧ ((1 : Int) ≤ (2 : Int) ∧ (2 : Int) ≤ (3 : Int) ∧ small
  (64 : Nat) (8000 : Int) a) ∧ ((1 : Int) ≤ (2 : Int) ∧ (2 : Int) ≤ (3 : Int) ∧ small (64 : Nat) (8000 : Int) b) ∧ isI64 (normS (2 : Int) a + normS (2 : Int) b) ∧ (small (64 : Nat)
  (8000 : Int) a ∧ small (64 : Nat) (8000 : Int) b ∧ a.length = b.length) ∧ isI64 ((2 : Int) * dotS a b) ∧ isI64 (normS (2 : Int) a + normS (2 : Int) b - (2 : Int) * dotS a b) ∧
  (decide (normS (3 : Int) (subS a b) ≤ normS (1 : Int) (subS a b)) = true → isI64 ((↑a.length : Int) * normS (3 : Int) (subS a b)) ∧ (decide (normS (1 : Int) (subS a b) ≤
  (↑a.length : Int) * normS (3 : Int) (subS a b)) = true → isI64 (normS (3 : Int) (subS a b) * normS (3 : Int) (subS a b)) ∧ (decide (normS (3 : Int) (subS a b) * normS (3 : Int)
  (subS a b) ≤ normS (2 : Int) (subS a b)) = true → isI64 (normS (3 : Int) (subS a b) * normS (1 : Int) (subS a b)) ∧ (decide (normS (2 : Int) (subS a b) ≤ normS (3 : Int) (subS a
  b) * normS (1 : Int) (subS a b)) = true → isI64 (normS (1 : Int) (subS a b) * normS (1 : Int) (subS a b)) ∧ isI64 ((↑a.length : Int) * normS (2 : Int) (subS a b)) ∧ True ∧ (true
  = true → (decide (keyS (2 : Int) a b = normS (2 : Int) a + normS (2 : Int) b - (2 : Int) * dotS a b) = true → (decide (normS (1 : Int) (subS a b) * normS (1 : Int) (subS a b) ≤
  (↑a.length : Int) * normS (2 : Int) (subS a b)) = true → (small (64 : Nat) (8000 : Int) (subS a b) ∧ small (64 : Nat) (8000 : Int) (subS a b) ∧ (subS a b).length = (subS a
  b).length) ∧ (decide (dotS (subS a b) (subS a b) = normS (2 : Int) (subS a b)) = true → decide ((↑(subS a b).length : Int) = (↑a.length : Int)) = true) ∧ (decide (dotS (subS a b)
  (subS a b) = normS (2 : Int) (subS a b)) = false → false = true)) ∧ (decide (normS (1 : Int) (subS a b) * normS (1 : Int) (subS a b) ≤ (↑a.length : Int) * normS (2 : Int) (subS a
  b)) = false → false = true)) ∧ (decide (keyS (2 : Int) a b = normS (2 : Int) a + normS (2 : Int) b - (2 : Int) * dotS a b) = false → false = true)) ∧ (true = false → false =
  true)) ∧ (decide (normS (2 : Int) (subS a b) ≤ normS (3 : Int) (subS a b) * normS (1 : Int) (subS a b)) = false → True ∧ (true = true → (decide (keyS (2 : Int) a b = normS (2 :
  Int) a + normS (2 : Int) b - (2 : Int) * dotS a b) = true → false = true) ∧ (decide (keyS (2 : Int) a b = normS (2 : Int) a + normS (2 : Int) b - (2 : Int) * dotS a b) = false →
  false = true)) ∧ (true = false → false = true))) ∧ (decide (normS (3 : Int) (subS a b) * normS (3 : Int) (subS a b) ≤ normS (2 : Int) (subS a b)) = false → True ∧ (true = true →
  (decide (keyS (2 : Int) a b = normS (2 : Int) a + normS (2 : Int) b - (2 : Int) * dotS a b) = true → false = true) ∧ (decide (keyS (2 : Int) a b = normS (2 : Int) a + normS (2 :
  Int) b - (2 : Int) * dotS a b) = false → false = true)) ∧ (true = false → false = true))) ∧ (decide (normS (1 : Int) (subS a b) ≤ (↑a.length : Int) * normS (3 : Int) (subS a b))
  = false → True ∧ (true = true → (decide (keyS (2 : Int) a b = normS (2 : Int) a + normS (2 : Int) b - (2 : Int) * dotS a b) = true → false = true) ∧ (decide (keyS (2 : Int) a b =
  normS (2 : Int) a + normS (2 : Int) b - (2 : Int) * dotS a b) = false → false = true)) ∧ (true = false → false = true))) ∧ (decide (normS (3 : Int) (subS a b) ≤ normS (1 : Int)
  (subS a b)) = false → True ∧ (true = true → (decide (keyS (2 : Int) a b = normS (2 : Int) a + normS (2 : Int) b - (2 : Int) * dotS a b) = true → false = true) ∧ (decide (keyS (2
  : Int) a b = normS (2 : Int) a + normS (2 : Int) b - (2 : Int) * dotS a b) = false → false = true)) ∧ (true = false → false = true)))) := by kernel_rfl
theorem law6_nf (v b : List Int) : fnwp VL 5 8 (lawSp [L, BY]) (v, b) = ((decide ((40 : Int) < (↑v.length : Int)) = true → True ∧ true = true) ∧ (decide ((40 : Int) < (↑v.length :
  Int)) = false → (decide ((400 : Int) < (↑b.length : Int)) = true → True ∧ true = true) ∧ (decide ((400 : Int) < (↑b.length : Int)) = false → small2 b ∧ small2 b ∧ True ∧ (true =
  true → small2 v ∧ small2 v ∧ (decide (encList encI v = encList encI v) = true → True ∧ (decide ((readS b).fst = (readS b).fst) = true → decide ((readS b).snd = (readS b).snd) =
  true) ∧ (decide ((readS b).fst = (readS b).fst) = false → false = true)) ∧ (decide (encList encI v = encList encI v) = false → false = true)) ∧ (true = false → false = true))))
  := by kernel_rfl
theorem law7_nf (v b : List Int) : fnwp VL 5 9 (lawSp [L, BY]) (v, b) = ((decide ((40 : Int) < (↑v.length : Int)) = true → True ∧ true = true) ∧ (decide ((40 : Int) < (↑v.length :
  Int)) = false → (decide ((400 : Int) < (↑b.length : Int)) = true → True ∧ true = true) ∧ (decide ((400 : Int) < (↑b.length : Int)) = false → small2 v ∧ small2 (encList encI v) ∧
  True ∧ (vecOk v = true → ((!decide ((readS (encList encI v)).snd = (0 : Int))) = true → false = true) ∧ ((!decide ((readS (encList encI v)).snd = (0 : Int))) = false → True ∧
  ((!decide ((readS (encList encI v)).fst = v)) = true → false = true) ∧ ((!decide ((readS (encList encI v)).fst = v)) = false → True ∧ ((!vecOk v) = true → ((!decide ((readS
  (encList encI v)).snd = (40 : Int))) = true → false = true) ∧ ((!decide ((readS (encList encI v)).snd = (40 : Int))) = false → small2 b ∧ True ∧ (true = true → ((!decide ((readS
  b).snd = (0 : Int))) = true → (decide ((readS b).snd = (0 : Int)) = true → true = true) ∧ (decide ((readS b).snd = (0 : Int)) = false → decide ((↑(readS b).fst.length : Int) = (0
  : Int)) = true)) ∧ ((!decide ((readS b).snd = (0 : Int))) = false → small2 (readS b).fst ∧ (decide (encList encI (readS b).fst = b) = true → (decide ((readS b).snd = (0 : Int)) =
  true → true = true) ∧ (decide ((readS b).snd = (0 : Int)) = false → decide ((↑(readS b).fst.length : Int) = (0 : Int)) = true)) ∧ (decide (encList encI (readS b).fst = b) = false
  → false = true))) ∧ (true = false → false = true))) ∧ ((!vecOk v) = false → small2 b ∧ True ∧ (true = true → ((!decide ((readS b).snd = (0 : Int))) = true → (decide ((readS
  b).snd = (0 : Int)) = true → true = true) ∧ (decide ((readS b).snd = (0 : Int)) = false → decide ((↑(readS b).fst.length : Int) = (0 : Int)) = true)) ∧ ((!decide ((readS b).snd =
  (0 : Int))) = false → small2 (readS b).fst ∧ (decide (encList encI (readS b).fst = b) = true → (decide ((readS b).snd = (0 : Int)) = true → true = true) ∧ (decide ((readS b).snd
  = (0 : Int)) = false → decide ((↑(readS b).fst.length : Int) = (0 : Int)) = true)) ∧ (decide (encList encI (readS b).fst = b) = false → false = true))) ∧ (true = false → false =
  true))))) ∧ (vecOk v = false → True ∧ ((!vecOk v) = true → ((!decide ((readS (encList encI v)).snd = (40 : Int))) = true → false = true) ∧ ((!decide ((readS (encList encI v)).snd
  = (40 : Int))) = false → small2 b ∧ True ∧ (true = true → ((!decide ((readS b).snd = (0 : Int))) = true → (decide ((readS b).snd = (0 : Int)) = true → true = true) ∧ (decide
  ((readS b).snd = (0 : Int)) = false → decide ((↑(readS b).fst.length : Int) = (0 : Int)) = true)) ∧ ((!decide ((readS b).snd = (0 : Int))) = false → small2 (readS b).fst ∧
  (decide (encList encI (readS b).fst = b) = true → (decide ((readS b).snd = (0 : Int)) = true → true = true) ∧ (decide ((readS b).snd = (0 : Int)) = false → decide ((↑(readS
  b).fst.length : Int) = (0 : Int)) = true)) ∧ (decide (encList encI (readS b).fst = b) = false → false = true))) ∧ (true = false → false = true))) ∧ ((!vecOk v) = false → small2 b
  ∧ True ∧ (true = true → ((!decide ((readS b).snd = (0 : Int))) = true → (decide ((readS b).snd = (0 : Int)) = true → true = true) ∧ (decide ((readS b).snd = (0 : Int)) = false →
  decide ((↑(readS b).fst.length : Int) = (0 : Int)) = true)) ∧ ((!decide ((readS b).snd = (0 : Int))) = false → small2 (readS b).fst ∧ (decide (encList encI (readS b).fst = b) =
  true → (decide ((readS b).snd = (0 : Int)) = true → true = true) ∧ (decide ((readS b).snd = (0 : Int)) = false → decide ((↑(readS b).fst.length : Int) = (0 : Int)) = true)) ∧
  (decide (encList encI (readS b).fst = b) = false → false = true))) ∧ (true = false → false = true)))))) := by kernel_rfl
theorem law8_nf (a b c : List Int) : fnwp VL 5 10 (lawSp [L, L, L]) (a, b, c) = ((decide ((40 : Int) < (↑a.length : Int)) = true → True ∧ true = true) ∧ (decide ((40 : Int) <
  (↑a.length : Int)) = false → (decide ((40 : Int) < (↑b.length : Int)) = true → True ∧ true = true) ∧ (decide ((40 : Int) < (↑b.length : Int)) = false → (decide ((40 : Int) <
  (↑c.length : Int)) = true → True ∧ true = true) ∧ (decide ((40 : Int) < (↑c.length : Int)) = false → True ∧ True ∧ True ∧ ∃ (I : Bool × Int → Prop), ∃ (μ : Bool × Int → Nat), I
  (decide ((↑a.length : Int) = (↑b.length : Int)), (0 : Int)) ∧ ∀ (x : Bool × Int), I x → (decide (x.snd < (↑a.length : Int)) = true → (x.fst = true → ((0 : Int) ≤ x.snd ∧ x.snd <
  (↑a.length : Int)) ∧ ((0 : Int) ≤ x.snd ∧ x.snd < (↑b.length : Int)) ∧ isI64 (x.snd + (1 : Int)) ∧ I (decide (a.getD x.snd.toNat (0 : Int) = b.getD x.snd.toNat (0 : Int)), x.snd
  + (1 : Int)) ∧ μ (decide (a.getD x.snd.toNat (0 : Int) = b.getD x.snd.toNat (0 : Int)), x.snd + (1 : Int)) < μ x) ∧ (x.fst = false → isI64 (x.snd + (1 : Int)) ∧ I (false, x.snd +
  (1 : Int)) ∧ μ (false, x.snd + (1 : Int)) < μ x)) ∧ (decide (x.snd < (↑a.length : Int)) = false → True ∧ (true = true → (decide ((-1 : Int) ≤ cmpS a b) = true → (decide (cmpS a b
  ≤ (1 : Int)) = true → True ∧ isI64 ((0 : Int) - cmpS b a) ∧ (decide (cmpS a b = (0 : Int) - cmpS b a) = true → ((decide (cmpS a b = (0 : Int)) == x.fst) = true → (decide ((0 :
  Int) < cmpS a b) = true → true = true) ∧ (decide ((0 : Int) < cmpS a b) = false → (decide ((0 : Int) < cmpS b c) = true → true = true) ∧ (decide ((0 : Int) < cmpS b c) = false →
  decide (cmpS a c ≤ (0 : Int)) = true))) ∧ ((decide (cmpS a b = (0 : Int)) == x.fst) = false → false = true)) ∧ (decide (cmpS a b = (0 : Int) - cmpS b a) = false → false = true))
  ∧ (decide (cmpS a b ≤ (1 : Int)) = false → false = true)) ∧ (decide ((-1 : Int) ≤ cmpS a b) = false → false = true)) ∧ (true = false → false = true)))))) := by kernel_rfl
end Go.Proofs.Ytpnfcgkocfjeiaa
