import Derived.Test.YtgneefndofeoaaaWk
namespace Go.Proofs.Ytgneefndofeoaaa
open Go.AM Go.PL
set_option linter.unusedVariables false

def tblW : List (FuncId × FSpec) := [(14, intG.data), (15, intG.data), (16, bytesG.data), (17, bytesG.data),
  (24, getIntSp), (25, getIntSp), (26, getBytesSp), (27, getBytesSp),
  (18, intsSp), (19, intsSp), (28, getIntsSp), (29, getIntsSp),
  (20, stringsSp), (21, stringsSp), (31, getStringsSp), (32, getStringsSp),
  (22, digestsSp), (23, digestsSp), (34, getDigestsSp), (35, getDigestsSp),
  (13, sameSp), (30, sameIntsSp), (33, sameTextsSp), (36, sameDigestsSp),
  (11, fewSp2)]
def tblWG : List (FuncId × GSpec) := [(14, intG), (15, intG), (16, bytesG), (17, bytesG)]
theorem satW : AllSat Try.prog tblW := ⟨sat_int.toData, sat_rInt.toData, sat_bytes.toData, sat_rBytes.toData, sat_getInt, sat_rGetInt, sat_getBytes, sat_rGetBytes,
  sat_ints, sat_rInts, sat_getInts, sat_rGetInts, sat_strings, sat_rStrings, sat_getStrings, sat_rGetStrings, sat_digests, sat_rDigests, sat_getDigests, sat_rGetDigests,
  sat_same, sat_sameInts, sat_sameTexts, sat_sameDigests, sat_few, trivial⟩
theorem satWG : AllSatG Try.prog tblWG := ⟨sat_int, sat_rInt, sat_bytes, sat_rBytes, trivial⟩

def sanitySp : FSpec := ⟨[], [.bool], fun _ => True, fun _ => true⟩
noncomputable def XS : Ctx := mkctx bs tblW tblWG hintC
theorem ssXS : SpecSound XS := mkctx_sound satW satWG
theorem sanity_nf : fnwp XS 5 12 sanitySp () = (True ∧ True ∧ True ∧ True ∧ small2 [(4 : Int), (2 : Int), (1 : Int)] ∧ small2 [[(1 : Int), (2 : Int), (0 : Int), (0 : Int), (0 :
  Int), (0 : Int), (0 : Int), (0 : Int), (0 : Int), (0 : Int), (0 : Int), (0 : Int), (0 : Int), (0 : Int), (0 : Int), (0 : Int)]] ∧ small2 (encList (fun (x : List Int) => x) [[(1 :
  Int), (2 : Int), (0 : Int), (0 : Int), (0 : Int), (0 : Int), (0 : Int), (0 : Int), (0 : Int), (0 : Int), (0 : Int), (0 : Int), (0 : Int), (0 : Int), (0 : Int), (0 : Int)]]) ∧
  small2 [(4 : Int), (0 : Int), (2 : Int), (97 : Int), (5 : Int)] ∧ True ∧ ((∀ (s : List Int), s ∈ [bytesOf { data := #[] }, bytesOf { data := #[(97 : UInt8)] }] → s.length ≤
  (100000 : Nat)) ∧ small2 [bytesOf { data := #[] }, bytesOf { data := #[(97 : UInt8)] }]) ∧ True ∧ True ∧ True ∧ True ∧ (2 : Nat) ≤ (100000 : Nat) ∧ True ∧ small2 [(1 : Int), (-1
  : Int)] ∧ True ∧ True ∧ true = true) := by kernel_rfl
def hintT (f : FuncId) : Hint := bif Nat.beq f 999999999 then ⟨fun _ => [], fun _ => .split, fun _ => .split, fun _ => 77⟩ else hintX f
theorem small2_of {α : Type} {l : List α} (h : Nat.ble l.length 100000 = true) : small2 l := Nat.le_of_ble_eq_true h
theorem two_texts : ∀ (s : List Int), s ∈ [bytesOf { data := #[] }, bytesOf { data := #[(97 : UInt8)] }] → s.length ≤ (100000 : Nat) := by
  intro s hs
  rcases List.mem_cons.1 hs with rfl | hs
  · exact Nat.le_of_ble_eq_true rfl
  · rcases List.mem_cons.1 hs with rfl | hs
    · exact Nat.le_of_ble_eq_true rfl
    · cases hs
theorem sat_sanity : Sat Try.prog 12 sanitySp :=
  fnwp_sat (C := XS) ssXS 5 12 sanitySp fun _ _ _ => Eq.mpr sanity_nf ⟨trivial, trivial, trivial, trivial, small2_of rfl, small2_of rfl, small2_of rfl, small2_of rfl, trivial,
    ⟨two_texts, small2_of rfl⟩, trivial, trivial, trivial, trivial, Nat.le_of_ble_eq_true rfl, trivial, small2_of rfl, trivial, trivial, rfl⟩
noncomputable def XL : Ctx := mkctx bs ((12, sanitySp) :: tblW) [] hintT
theorem law3_nf (m n : Int) : fnwp XL 5 5 (lawSp [I, I]) (m, n) = (True ∧ True ∧ isI64 ((-1 : Int) - m) ∧ isI64 ((-1 : Int) - n) ∧ (decide (max m ((-1 : Int) - m) ≤ max n ((-1 :
  Int) - n)) = true → (decide ((↑(encI n).length : Int) < (↑(encI m).length : Int)) = true → false = true) ∧ (decide ((↑(encI n).length : Int) < (↑(encI m).length : Int)) = false →
  (decide (max n ((-1 : Int) - n) ≤ max m ((-1 : Int) - m)) = true → (decide ((↑(encI m).length : Int) < (↑(encI n).length : Int)) = true → false = true) ∧ (decide ((↑(encI
  m).length : Int) < (↑(encI n).length : Int)) = false → ((decide ((↑(encI m).length : Int) = (1 : Int)) != decide (max m ((-1 : Int) - m) < (64 : Int))) = true → false = true) ∧
  ((decide ((↑(encI m).length : Int) = (1 : Int)) != decide (max m ((-1 : Int) - m) < (64 : Int))) = false → (decide ((10 : Int) < (↑(encI m).length : Int)) = true → false = true)
  ∧ (decide ((10 : Int) < (↑(encI m).length : Int)) = false → (decide ((↑(encI m).length : Int) = (0 : Int)) = true → false = true) ∧ (decide ((↑(encI m).length : Int) = (0 : Int))
  = false → (decide ((↑(encI n).length : Int) = (0 : Int)) = true → false = true) ∧ (decide ((↑(encI n).length : Int) = (0 : Int)) = false → True ∧ (true = true → isI64 ((-1 : Int)
  - m) ∧ True ∧ (decide ((↑(encI ((-1 : Int) - m)).length : Int) = (↑(encI m).length : Int)) = true → ((0 : Int) ≤ (0 : Int) ∧ (0 : Int) ≤ min (↑(encI m).length : Int) (↑(encI
  n).length : Int) ∧ min (↑(encI m).length : Int) (↑(encI n).length : Int) ≤ (↑(encI m).length : Int)) ∧ ((0 : Int) ≤ (0 : Int) ∧ (0 : Int) ≤ min (↑(encI m).length : Int) (↑(encI
  n).length : Int) ∧ min (↑(encI m).length : Int) (↑(encI n).length : Int) ≤ (↑(encI n).length : Int)) ∧ (decide (List.take ((min (↑(encI m).length : Int) (↑(encI n).length :
  Int)).toNat - (0 : Nat)) (List.drop (0 : Nat) (encI m)) = List.take ((min (↑(encI m).length : Int) (↑(encI n).length : Int)).toNat - (0 : Nat)) (List.drop (0 : Nat) (encI n))) ==
  decide (m = n)) = true) ∧ (decide ((↑(encI ((-1 : Int) - m)).length : Int) = (↑(encI m).length : Int)) = false → false = true)) ∧ (true = false → false = true))))))) ∧ (decide
  (max n ((-1 : Int) - n) ≤ max m ((-1 : Int) - m)) = false → ((decide ((↑(encI m).length : Int) = (1 : Int)) != decide (max m ((-1 : Int) - m) < (64 : Int))) = true → false =
  true) ∧ ((decide ((↑(encI m).length : Int) = (1 : Int)) != decide (max m ((-1 : Int) - m) < (64 : Int))) = false → (decide ((10 : Int) < (↑(encI m).length : Int)) = true → false
  = true) ∧ (decide ((10 : Int) < (↑(encI m).length : Int)) = false → (decide ((↑(encI m).length : Int) = (0 : Int)) = true → false = true) ∧ (decide ((↑(encI m).length : Int) = (0
  : Int)) = false → (decide ((↑(encI n).length : Int) = (0 : Int)) = true → false = true) ∧ (decide ((↑(encI n).length : Int) = (0 : Int)) = false → True ∧ (true = true → isI64
  ((-1 : Int) - m) ∧ True ∧ (decide ((↑(encI ((-1 : Int) - m)).length : Int) = (↑(encI m).length : Int)) = true → ((0 : Int) ≤ (0 : Int) ∧ (0 : Int) ≤ min (↑(encI m).length : Int)
  (↑(encI n).length : Int) ∧ min (↑(encI m).length : Int) (↑(encI n).length : Int) ≤ (↑(encI m).length : Int)) ∧ ((0 : Int) ≤ (0 : Int) ∧ (0 : Int) ≤ min (↑(encI m).length : Int)
  (↑(encI n).length : Int) ∧ min (↑(encI m).length : Int) (↑(encI n).length : Int) ≤ (↑(encI n).length : Int)) ∧ (decide (List.take ((min (↑(encI m).length : Int) (↑(encI n).length
  : Int)).toNat - (0 : Nat)) (List.drop (0 : Nat) (encI m)) = List.take ((min (↑(encI m).length : Int) (↑(encI n).length : Int)).toNat - (0 : Nat)) (List.drop (0 : Nat) (encI n)))
  == decide (m = n)) = true) ∧ (decide ((↑(encI ((-1 : Int) - m)).length : Int) = (↑(encI m).length : Int)) = false → false = true)) ∧ (true = false → false = true)))))))) ∧
  (decide (max m ((-1 : Int) - m) ≤ max n ((-1 : Int) - n)) = false → (decide (max n ((-1 : Int) - n) ≤ max m ((-1 : Int) - m)) = true → (decide ((↑(encI m).length : Int) < (↑(encI
  n).length : Int)) = true → false = true) ∧ (decide ((↑(encI m).length : Int) < (↑(encI n).length : Int)) = false → ((decide ((↑(encI m).length : Int) = (1 : Int)) != decide (max
  m ((-1 : Int) - m) < (64 : Int))) = true → false = true) ∧ ((decide ((↑(encI m).length : Int) = (1 : Int)) != decide (max m ((-1 : Int) - m) < (64 : Int))) = false → (decide ((10
  : Int) < (↑(encI m).length : Int)) = true → false = true) ∧ (decide ((10 : Int) < (↑(encI m).length : Int)) = false → (decide ((↑(encI m).length : Int) = (0 : Int)) = true →
  false = true) ∧ (decide ((↑(encI m).length : Int) = (0 : Int)) = false → (decide ((↑(encI n).length : Int) = (0 : Int)) = true → false = true) ∧ (decide ((↑(encI n).length : Int)
  = (0 : Int)) = false → True ∧ (true = true → isI64 ((-1 : Int) - m) ∧ True ∧ (decide ((↑(encI ((-1 : Int) - m)).length : Int) = (↑(encI m).length : Int)) = true → ((0 : Int) ≤ (0
  : Int) ∧ (0 : Int) ≤ min (↑(encI m).length : Int) (↑(encI n).length : Int) ∧ min (↑(encI m).length : Int) (↑(encI n).length : Int) ≤ (↑(encI m).length : Int)) ∧ ((0 : Int) ≤ (0 :
  Int) ∧ (0 : Int) ≤ min (↑(encI m).length : Int) (↑(encI n).length : Int) ∧ min (↑(encI m).length : Int) (↑(encI n).length : Int) ≤ (↑(encI n).length : Int)) ∧ (decide (List.take
  ((min (↑(encI m).length : Int) (↑(encI n).length : Int)).toNat - (0 : Nat)) (List.drop (0 : Nat) (encI m)) = List.take ((min (↑(encI m).length : Int) (↑(encI n).length :
  Int)).toNat - (0 : Nat)) (List.drop (0 : Nat) (encI n))) == decide (m = n)) = true) ∧ (decide ((↑(encI ((-1 : Int) - m)).length : Int) = (↑(encI m).length : Int)) = false → false
  = true)) ∧ (true = false → false = true))))))) ∧ (decide (max n ((-1 : Int) - n) ≤ max m ((-1 : Int) - m)) = false → ((decide ((↑(encI m).length : Int) = (1 : Int)) != decide
  (max m ((-1 : Int) - m) < (64 : Int))) = true → false = true) ∧ ((decide ((↑(encI m).length : Int) = (1 : Int)) != decide (max m ((-1 : Int) - m) < (64 : Int))) = false → (decide
  ((10 : Int) < (↑(encI m).length : Int)) = true → false = true) ∧ (decide ((10 : Int) < (↑(encI m).length : Int)) = false → (decide ((↑(encI m).length : Int) = (0 : Int)) = true →
  false = true) ∧ (decide ((↑(encI m).length : Int) = (0 : Int)) = false → (decide ((↑(encI n).length : Int) = (0 : Int)) = true → false = true) ∧ (decide ((↑(encI n).length : Int)
  = (0 : Int)) = false → True ∧ (true = true → isI64 ((-1 : Int) - m) ∧ True ∧ (decide ((↑(encI ((-1 : Int) - m)).length : Int) = (↑(encI m).length : Int)) = true → ((0 : Int) ≤ (0
  : Int) ∧ (0 : Int) ≤ min (↑(encI m).length : Int) (↑(encI n).length : Int) ∧ min (↑(encI m).length : Int) (↑(encI n).length : Int) ≤ (↑(encI m).length : Int)) ∧ ((0 : Int) ≤ (0 :
  Int) ∧ (0 : Int) ≤ min (↑(encI m).length : Int) (↑(encI n).length : Int) ∧ min (↑(encI m).length : Int) (↑(encI n).length : Int) ≤ (↑(encI n).length : Int)) ∧ (decide (List.take
  ((min (↑(encI m).length : Int) (↑(encI n).length : Int)).toNat - (0 : Nat)) (List.drop (0 : Nat) (encI m)) = List.take ((min (↑(encI m).length : Int) (↑(encI n).length :
  Int)).toNat - (0 : Nat)) (List.drop (0 : Nat) (encI n))) == decide (m = n)) = true) ∧ (decide ((↑(encI ((-1 : Int) - m)).length : Int) = (↑(encI m).length : Int)) = false → false
  = true)) ∧ (true = false → false = true)))))))) := by kernel_rfl
end Go.Proofs.Ytgneefndofeoaaa
