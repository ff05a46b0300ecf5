import Derived.Test.YtgneefndofeoaaaWr
namespace Go.Proofs.Ytgneefndofeoaaa
open Go.AM Go.PL
set_option linter.unusedVariables false
theorem law1_nf (n : Int) (s l : List Int) (x d : List (List Int)) : fnwp XL 5 3 (lawSpU [I, .str, L, .arr .str, .arr DG]) (n, s, l, x, d) = (isI64 ((↑s.length : Int) + (↑l.length
  : Int)) ∧ isI64 ((↑s.length : Int) + (↑l.length : Int) + (↑d.length : Int)) ∧ (decide ((2000 : Int) < (↑s.length : Int) + (↑l.length : Int) + (↑d.length : Int)) = true → True ∧
  true = true) ∧ (decide ((2000 : Int) < (↑s.length : Int) + (↑l.length : Int) + (↑d.length : Int)) = false → fewP x ∧ ((!decide (fewN x ≤ (2000 : Int))) = true → True ∧ true =
  true) ∧ ((!decide (fewN x ≤ (2000 : Int))) = false → True ∧ (true = true → True ∧ True ∧ True ∧ (decide (encI n = encI n) = true → s.length ≤ (100000 : Nat) ∧ s.length ≤ (100000
  : Nat) ∧ True ∧ (decide (encBytes s = encBytes s) = true → small2 l ∧ small2 l ∧ True ∧ (decide (encList encI l = encList encI l) = true → ((∀ (s : List Int), s ∈ x → s.length ≤
  (100000 : Nat)) ∧ small2 x) ∧ ((∀ (s : List Int), s ∈ x → s.length ≤ (100000 : Nat)) ∧ small2 x) ∧ True ∧ (decide (encList encBytes x = encList encBytes x) = true → small2 d ∧
  small2 d ∧ True ∧ decide (encList (fun (x : List Int) => x) d = encList (fun (x : List Int) => x) d) = true) ∧ (decide (encList encBytes x = encList encBytes x) = false → false =
  true)) ∧ (decide (encList encI l = encList encI l) = false → false = true)) ∧ (decide (encBytes s = encBytes s) = false → false = true)) ∧ (decide (encI n = encI n) = false →
  false = true)) ∧ (true = false → false = true)))) := by kernel_rfl
theorem law6a_nf (s l : List Int) (x d : List (List Int)) : fnwp XL 5 8 (lawSpU [.str, L, .arr .str, .arr DG, BY]) (s, l, x, d, []) = (isI64 ((↑s.length : Int) + (↑l.length : Int))
  ∧ isI64 ((↑s.length : Int) + (↑l.length : Int) + (↑d.length : Int)) ∧ isI64 ((↑s.length : Int) + (↑l.length : Int) + (↑d.length : Int) + (0 : Int)) ∧ (decide ((2000 : Int) <
  (↑s.length : Int) + (↑l.length : Int) + (↑d.length : Int) + (0 : Int)) = true → True ∧ true = true) ∧ (decide ((2000 : Int) < (↑s.length : Int) + (↑l.length : Int) + (↑d.length :
  Int) + (0 : Int)) = false → fewP x ∧ ((!decide (fewN x ≤ (2000 : Int))) = true → True ∧ true = true) ∧ ((!decide (fewN x ≤ (2000 : Int))) = false → s.length ≤ (100000 : Nat) ∧
  small2 l ∧ small2 d ∧ ((∀ (s : List Int), s ∈ x → s.length ≤ (100000 : Nat)) ∧ small2 x) ∧ ((0 : Int) ≤ (0 : Int) ∧ (0 : Int) ≤ (↑(encBytes s).length : Int) ∧ (↑(encBytes
  s).length : Int) ≤ (↑(encBytes s).length : Int) ∧ (↑(encBytes s).length : Int) = (↑(encBytes s).length : Int)) ∧ True ∧ ((0 : Int) ≤ (0 : Int) ∧ (0 : Int) ≤ (↑(encList encI
  l).length : Int) ∧ (↑(encList encI l).length : Int) ≤ (↑(encList encI l).length : Int) ∧ (↑(encList encI l).length : Int) = (↑(encList encI l).length : Int)) ∧ small2 (List.take
  ((↑(encList encI l).length : Int).toNat - (0 : Nat)) (List.drop (0 : Nat) (encList encI l))) ∧ ((0 : Int) ≤ (0 : Int) ∧ (0 : Int) ≤ (↑(encList (fun (x : List Int) => x) d).length
  : Int) ∧ (↑(encList (fun (x : List Int) => x) d).length : Int) ≤ (↑(encList (fun (x : List Int) => x) d).length : Int) ∧ (↑(encList (fun (x : List Int) => x) d).length : Int) =
  (↑(encList (fun (x : List Int) => x) d).length : Int)) ∧ small2 (List.take ((↑(encList (fun (x : List Int) => x) d).length : Int).toNat - (0 : Nat)) (List.drop (0 : Nat) (encList
  (fun (x : List Int) => x) d))) ∧ ((0 : Int) ≤ (0 : Int) ∧ (0 : Int) ≤ (↑(encList encBytes x).length : Int) ∧ (↑(encList encBytes x).length : Int) ≤ (↑(encList encBytes x).length
  : Int) ∧ (↑(encList encBytes x).length : Int) = (↑(encList encBytes x).length : Int)) ∧ small2 (List.take ((↑(encList encBytes x).length : Int).toNat - (0 : Nat)) (List.drop (0 :
  Nat) (encList encBytes x))) ∧ True ∧ (true = true → True ∧ (decide (((decList (1 : Int) decBytes (List.take ((↑(encList encBytes x).length : Int).toNat - (0 : Nat)) (List.drop (0
  : Nat) (encList encBytes x)))).triple []).fst = x) = true → (decide (((decList (1 : Int) decBytes (List.take ((↑(encList encBytes x).length : Int).toNat - (0 : Nat)) (List.drop
  (0 : Nat) (encList encBytes x)))).triple []).snd.fst = (↑(encList encBytes x).length : Int)) = true → (decide (((decList (1 : Int) decBytes (List.take ((↑(encList encBytes
  x).length : Int).toNat - (0 : Nat)) (List.drop (0 : Nat) (encList encBytes x)))).triple []).snd.snd = (0 : Int)) = true → (decide (((decBytes (List.take ((↑(encBytes s).length :
  Int).toNat - (0 : Nat)) (List.drop (0 : Nat) (encBytes s)))).triple []).fst = s) = true → (decide (((decBytes (List.take ((↑(encBytes s).length : Int).toNat - (0 : Nat))
  (List.drop (0 : Nat) (encBytes s)))).triple []).snd.fst = (↑(encBytes s).length : Int)) = true → (decide (((decBytes (List.take ((↑(encBytes s).length : Int).toNat - (0 : Nat))
  (List.drop (0 : Nat) (encBytes s)))).triple []).snd.snd = (0 : Int)) = true → True ∧ (decide (((decList (1 : Int) decI (List.take ((↑(encList encI l).length : Int).toNat - (0 :
  Nat)) (List.drop (0 : Nat) (encList encI l)))).triple []).fst = l) = true → (decide (((decList (1 : Int) decI (List.take ((↑(encList encI l).length : Int).toNat - (0 : Nat))
  (List.drop (0 : Nat) (encList encI l)))).triple []).snd.fst = (↑(encList encI l).length : Int)) = true → (decide (((decList (1 : Int) decI (List.take ((↑(encList encI l).length :
  Int).toNat - (0 : Nat)) (List.drop (0 : Nat) (encList encI l)))).triple []).snd.snd = (0 : Int)) = true → True ∧ (decide (((decList (16 : Int) decDigest (List.take ((↑(encList
  (fun (x : List Int) => x) d).length : Int).toNat - (0 : Nat)) (List.drop (0 : Nat) (encList (fun (x : List Int) => x) d)))).triple []).fst = d) = true → (decide (((decList (16 :
  Int) decDigest (List.take ((↑(encList (fun (x : List Int) => x) d).length : Int).toNat - (0 : Nat)) (List.drop (0 : Nat) (encList (fun (x : List Int) => x) d)))).triple
  []).snd.fst = (↑(encList (fun (x : List Int) => x) d).length : Int)) = true → decide (((decList (16 : Int) decDigest (List.take ((↑(encList (fun (x : List Int) => x) d).length :
  Int).toNat - (0 : Nat)) (List.drop (0 : Nat) (encList (fun (x : List Int) => x) d)))).triple []).snd.snd = (0 : Int)) = true) ∧ (decide (((decList (16 : Int) decDigest (List.take
  ((↑(encList (fun (x : List Int) => x) d).length : Int).toNat - (0 : Nat)) (List.drop (0 : Nat) (encList (fun (x : List Int) => x) d)))).triple []).snd.fst = (↑(encList (fun (x :
  List Int) => x) d).length : Int)) = false → false = true)) ∧ (decide (((decList (16 : Int) decDigest (List.take ((↑(encList (fun (x : List Int) => x) d).length : Int).toNat - (0
  : Nat)) (List.drop (0 : Nat) (encList (fun (x : List Int) => x) d)))).triple []).fst = d) = false → false = true)) ∧ (decide (((decList (1 : Int) decI (List.take ((↑(encList encI
  l).length : Int).toNat - (0 : Nat)) (List.drop (0 : Nat) (encList encI l)))).triple []).snd.snd = (0 : Int)) = false → false = true)) ∧ (decide (((decList (1 : Int) decI
  (List.take ((↑(encList encI l).length : Int).toNat - (0 : Nat)) (List.drop (0 : Nat) (encList encI l)))).triple []).snd.fst = (↑(encList encI l).length : Int)) = false → false =
  true)) ∧ (decide (((decList (1 : Int) decI (List.take ((↑(encList encI l).length : Int).toNat - (0 : Nat)) (List.drop (0 : Nat) (encList encI l)))).triple []).fst = l) = false →
  false = true)) ∧ (decide (((decBytes (List.take ((↑(encBytes s).length : Int).toNat - (0 : Nat)) (List.drop (0 : Nat) (encBytes s)))).triple []).snd.snd = (0 : Int)) = false →
  false = true)) ∧ (decide (((decBytes (List.take ((↑(encBytes s).length : Int).toNat - (0 : Nat)) (List.drop (0 : Nat) (encBytes s)))).triple []).snd.fst = (↑(encBytes s).length :
  Int)) = false → false = true)) ∧ (decide (((decBytes (List.take ((↑(encBytes s).length : Int).toNat - (0 : Nat)) (List.drop (0 : Nat) (encBytes s)))).triple []).fst = s) = false
  → false = true)) ∧ (decide (((decList (1 : Int) decBytes (List.take ((↑(encList encBytes x).length : Int).toNat - (0 : Nat)) (List.drop (0 : Nat) (encList encBytes x)))).triple
  []).snd.snd = (0 : Int)) = false → false = true)) ∧ (decide (((decList (1 : Int) decBytes (List.take ((↑(encList encBytes x).length : Int).toNat - (0 : Nat)) (List.drop (0 : Nat)
  (encList encBytes x)))).triple []).snd.fst = (↑(encList encBytes x).length : Int)) = false → false = true)) ∧ (decide (((decList (1 : Int) decBytes (List.take ((↑(encList
  encBytes x).length : Int).toNat - (0 : Nat)) (List.drop (0 : Nat) (encList encBytes x)))).triple []).fst = x) = false → false = true)) ∧ (true = false → false = true)))) := by
  kernel_rfl
theorem law6b_nf (s l : List Int) (x d : List (List Int)) (c : Int) (tail : List Int) : fnwp XL 5 8 (lawSpU [.str, L, .arr .str, .arr DG, BY]) (s, l, x, d, c :: tail) = (isI64
  ((↑s.length : Int) + (↑l.length : Int)) ∧ isI64 ((↑s.length : Int) + (↑l.length : Int) + (↑d.length : Int)) ∧ isI64 ((↑s.length : Int) + (↑l.length : Int) + (↑d.length : Int) +
  (↑(c :: tail).length : Int)) ∧ (decide ((2000 : Int) < (↑s.length : Int) + (↑l.length : Int) + (↑d.length : Int) + (↑(c :: tail).length : Int)) = true → True ∧ true = true) ∧
  (decide ((2000 : Int) < (↑s.length : Int) + (↑l.length : Int) + (↑d.length : Int) + (↑(c :: tail).length : Int)) = false → fewP x ∧ ((!decide (fewN x ≤ (2000 : Int))) = true →
  True ∧ true = true) ∧ ((!decide (fewN x ≤ (2000 : Int))) = false → s.length ≤ (100000 : Nat) ∧ small2 l ∧ small2 d ∧ ((∀ (s : List Int), s ∈ x → s.length ≤ (100000 : Nat)) ∧
  small2 x) ∧ ((0 : Int) ≤ (0 : Int) ∧ (0 : Int) ≤ (↑(encBytes s).length : Int) ∧ (↑(encBytes s).length : Int) ≤ (↑(encBytes s).length : Int) ∧ (↑(encBytes s).length : Int) =
  (↑(encBytes s).length : Int)) ∧ roomP XL (5 : Nat) ((List.take ((↑(encBytes s).length : Int).toNat - (0 : Nat)) (List.drop (0 : Nat) (encBytes s))).length + (c :: tail).length) ∧
  True ∧ ((0 : Int) ≤ (0 : Int) ∧ (0 : Int) ≤ (↑(encList encI l).length : Int) ∧ (↑(encList encI l).length : Int) ≤ (↑(encList encI l).length : Int) ∧ (↑(encList encI l).length :
  Int) = (↑(encList encI l).length : Int)) ∧ roomP XL (5 : Nat) ((List.take ((↑(encList encI l).length : Int).toNat - (0 : Nat)) (List.drop (0 : Nat) (encList encI l))).length + (c
  :: tail).length) ∧ small2 (List.take ((↑(encList encI l).length : Int).toNat - (0 : Nat)) (List.drop (0 : Nat) (encList encI l)) ++ c :: tail) ∧ ((0 : Int) ≤ (0 : Int) ∧ (0 :
  Int) ≤ (↑(encList (fun (x : List Int) => x) d).length : Int) ∧ (↑(encList (fun (x : List Int) => x) d).length : Int) ≤ (↑(encList (fun (x : List Int) => x) d).length : Int) ∧
  (↑(encList (fun (x : List Int) => x) d).length : Int) = (↑(encList (fun (x : List Int) => x) d).length : Int)) ∧ roomP XL (5 : Nat) ((List.take ((↑(encList (fun (x : List Int) =>
  x) d).length : Int).toNat - (0 : Nat)) (List.drop (0 : Nat) (encList (fun (x : List Int) => x) d))).length + (c :: tail).length) ∧ small2 (List.take ((↑(encList (fun (x : List
  Int) => x) d).length : Int).toNat - (0 : Nat)) (List.drop (0 : Nat) (encList (fun (x : List Int) => x) d)) ++ c :: tail) ∧ ((0 : Int) ≤ (0 : Int) ∧ (0 : Int) ≤ (↑(encList
  encBytes x).length : Int) ∧ (↑(encList encBytes x).length : Int) ≤ (↑(encList encBytes x).length : Int) ∧ (↑(encList encBytes x).length : Int) = (↑(encList encBytes x).length :
  Int)) ∧ roomP XL (5 : Nat) ((List.take ((↑(encList encBytes x).length : Int).toNat - (0 : Nat)) (List.drop (0 : Nat) (encList encBytes x))).length + (c :: tail).length) ∧ small2
  (List.take ((↑(encList encBytes x).length : Int).toNat - (0 : Nat)) (List.drop (0 : Nat) (encList encBytes x)) ++ c :: tail) ∧ True ∧ (true = true → True ∧ (decide (((decList (1
  : Int) decBytes (List.take ((↑(encList encBytes x).length : Int).toNat - (0 : Nat)) (List.drop (0 : Nat) (encList encBytes x)) ++ c :: tail)).triple []).fst = x) = true → (decide
  (((decList (1 : Int) decBytes (List.take ((↑(encList encBytes x).length : Int).toNat - (0 : Nat)) (List.drop (0 : Nat) (encList encBytes x)) ++ c :: tail)).triple []).snd.fst =
  (↑(encList encBytes x).length : Int)) = true → (decide (((decList (1 : Int) decBytes (List.take ((↑(encList encBytes x).length : Int).toNat - (0 : Nat)) (List.drop (0 : Nat)
  (encList encBytes x)) ++ c :: tail)).triple []).snd.snd = (0 : Int)) = true → (decide (((decBytes (List.take ((↑(encBytes s).length : Int).toNat - (0 : Nat)) (List.drop (0 : Nat)
  (encBytes s)) ++ c :: tail)).triple []).fst = s) = true → (decide (((decBytes (List.take ((↑(encBytes s).length : Int).toNat - (0 : Nat)) (List.drop (0 : Nat) (encBytes s)) ++ c
  :: tail)).triple []).snd.fst = (↑(encBytes s).length : Int)) = true → (decide (((decBytes (List.take ((↑(encBytes s).length : Int).toNat - (0 : Nat)) (List.drop (0 : Nat)
  (encBytes s)) ++ c :: tail)).triple []).snd.snd = (0 : Int)) = true → True ∧ (decide (((decList (1 : Int) decI (List.take ((↑(encList encI l).length : Int).toNat - (0 : Nat))
  (List.drop (0 : Nat) (encList encI l)) ++ c :: tail)).triple []).fst = l) = true → (decide (((decList (1 : Int) decI (List.take ((↑(encList encI l).length : Int).toNat - (0 :
  Nat)) (List.drop (0 : Nat) (encList encI l)) ++ c :: tail)).triple []).snd.fst = (↑(encList encI l).length : Int)) = true → (decide (((decList (1 : Int) decI (List.take
  ((↑(encList encI l).length : Int).toNat - (0 : Nat)) (List.drop (0 : Nat) (encList encI l)) ++ c :: tail)).triple []).snd.snd = (0 : Int)) = true → True ∧ (decide (((decList (16
  : Int) decDigest (List.take ((↑(encList (fun (x : List Int) => x) d).length : Int).toNat - (0 : Nat)) (List.drop (0 : Nat) (encList (fun (x : List Int) => x) d)) ++ c ::
  tail)).triple []).fst = d) = true → (decide (((decList (16 : Int) decDigest (List.take ((↑(encList (fun (x : List Int) => x) d).length : Int).toNat - (0 : Nat)) (List.drop (0 :
  Nat) (encList (fun (x : List Int) => x) d)) ++ c :: tail)).triple []).snd.fst = (↑(encList (fun (x : List Int) => x) d).length : Int)) = true → decide (((decList (16 : Int)
  decDigest (List.take ((↑(encList (fun (x : List Int) => x) d).length : Int).toNat - (0 : Nat)) (List.drop (0 : Nat) (encList (fun (x : List Int) => x) d)) ++ c :: tail)).triple
  []).snd.snd = (0 : Int)) = true) ∧ (decide (((decList (16 : Int) decDigest (List.take ((↑(encList (fun (x : List Int) => x) d).length : Int).toNat - (0 : Nat)) (List.drop (0 :
  Nat) (encList (fun (x : List Int) => x) d)) ++ c :: tail)).triple []).snd.fst = (↑(encList (fun (x : List Int) => x) d).length : Int)) = false → false = true)) ∧ (decide
  (((decList (16 : Int) decDigest (List.take ((↑(encList (fun (x : List Int) => x) d).length : Int).toNat - (0 : Nat)) (List.drop (0 : Nat) (encList (fun (x : List Int) => x) d))
  ++ c :: tail)).triple []).fst = d) = false → false = true)) ∧ (decide (((decList (1 : Int) decI (List.take ((↑(encList encI l).length : Int).toNat - (0 : Nat)) (List.drop (0 :
  Nat) (encList encI l)) ++ c :: tail)).triple []).snd.snd = (0 : Int)) = false → false = true)) ∧ (decide (((decList (1 : Int) decI (List.take ((↑(encList encI l).length :
  Int).toNat - (0 : Nat)) (List.drop (0 : Nat) (encList encI l)) ++ c :: tail)).triple []).snd.fst = (↑(encList encI l).length : Int)) = false → false = true)) ∧ (decide (((decList
  (1 : Int) decI (List.take ((↑(encList encI l).length : Int).toNat - (0 : Nat)) (List.drop (0 : Nat) (encList encI l)) ++ c :: tail)).triple []).fst = l) = false → false = true))
  ∧ (decide (((decBytes (List.take ((↑(encBytes s).length : Int).toNat - (0 : Nat)) (List.drop (0 : Nat) (encBytes s)) ++ c :: tail)).triple []).snd.snd = (0 : Int)) = false →
  false = true)) ∧ (decide (((decBytes (List.take ((↑(encBytes s).length : Int).toNat - (0 : Nat)) (List.drop (0 : Nat) (encBytes s)) ++ c :: tail)).triple []).snd.fst =
  (↑(encBytes s).length : Int)) = false → false = true)) ∧ (decide (((decBytes (List.take ((↑(encBytes s).length : Int).toNat - (0 : Nat)) (List.drop (0 : Nat) (encBytes s)) ++ c
  :: tail)).triple []).fst = s) = false → false = true)) ∧ (decide (((decList (1 : Int) decBytes (List.take ((↑(encList encBytes x).length : Int).toNat - (0 : Nat)) (List.drop (0 :
  Nat) (encList encBytes x)) ++ c :: tail)).triple []).snd.snd = (0 : Int)) = false → false = true)) ∧ (decide (((decList (1 : Int) decBytes (List.take ((↑(encList encBytes
  x).length : Int).toNat - (0 : Nat)) (List.drop (0 : Nat) (encList encBytes x)) ++ c :: tail)).triple []).snd.fst = (↑(encList encBytes x).length : Int)) = false → false = true))
  ∧ (decide (((decList (1 : Int) decBytes (List.take ((↑(encList encBytes x).length : Int).toNat - (0 : Nat)) (List.drop (0 : Nat) (encList encBytes x)) ++ c :: tail)).triple
  []).fst = x) = false → false = true)) ∧ (true = false → false = true)))) := by kernel_rfl
noncomputable def XG : Ctx := mkctx bs ((12, sanitySp) :: tblW) [(16, bytesG)] hintX
theorem law8_nf (s l : List Int) : fnwp XG 5 10 (lawSpU [.str, L]) (s, l) = (isI64 ((↑s.length : Int) + (↑l.length : Int)) ∧ (decide ((2000 : Int) < (↑s.length : Int) + (↑l.length
  : Int)) = true → True ∧ true = true) ∧ (decide ((2000 : Int) < (↑s.length : Int) + (↑l.length : Int)) = false → s.length ≤ (100000 : Nat) ∧ small2 l ∧ roomP XG (5 : Nat)
  ((encBytes s).length + (encList encI l).length) ∧ True ∧ ((!decide (((decBytes (encBytes s ++ encList encI l)).triple []).snd.snd = (0 : Int))) = true → false = true) ∧ ((!decide
  (((decBytes (encBytes s ++ encList encI l)).triple []).snd.snd = (0 : Int))) = false → (decide (((decBytes (encBytes s ++ encList encI l)).triple []).snd.fst < (0 : Int)) = true
  → false = true) ∧ (decide (((decBytes (encBytes s ++ encList encI l)).triple []).snd.fst < (0 : Int)) = false → (decide ((↑(encBytes s ++ encList encI l).length : Int) <
  ((decBytes (encBytes s ++ encList encI l)).triple []).snd.fst) = true → false = true) ∧ (decide ((↑(encBytes s ++ encList encI l).length : Int) < ((decBytes (encBytes s ++
  encList encI l)).triple []).snd.fst) = false → ((0 : Int) ≤ ((decBytes (encBytes s ++ encList encI l)).triple []).snd.fst ∧ ((decBytes (encBytes s ++ encList encI l)).triple
  []).snd.fst ≤ (↑(encBytes s ++ encList encI l).length : Int)) ∧ small2 (List.take ((encBytes s ++ encList encI l).length - ((decBytes (encBytes s ++ encList encI l)).triple
  []).snd.fst.toNat) (List.drop ((decBytes (encBytes s ++ encList encI l)).triple []).snd.fst.toNat (encBytes s ++ encList encI l))) ∧ True ∧ (true = true → (decide (((decBytes
  (encBytes s ++ encList encI l)).triple []).fst = s) = true → True ∧ (decide (((decList (1 : Int) decI (List.take ((encBytes s ++ encList encI l).length - ((decBytes (encBytes s
  ++ encList encI l)).triple []).snd.fst.toNat) (List.drop ((decBytes (encBytes s ++ encList encI l)).triple []).snd.fst.toNat (encBytes s ++ encList encI l)))).triple []).fst = l)
  = true → (decide (((decList (1 : Int) decI (List.take ((encBytes s ++ encList encI l).length - ((decBytes (encBytes s ++ encList encI l)).triple []).snd.fst.toNat) (List.drop
  ((decBytes (encBytes s ++ encList encI l)).triple []).snd.fst.toNat (encBytes s ++ encList encI l)))).triple []).snd.snd = (0 : Int)) = true → isI64 (((decBytes (encBytes s ++
  encList encI l)).triple []).snd.fst + ((decList (1 : Int) decI (List.take ((encBytes s ++ encList encI l).length - ((decBytes (encBytes s ++ encList encI l)).triple
  []).snd.fst.toNat) (List.drop ((decBytes (encBytes s ++ encList encI l)).triple []).snd.fst.toNat (encBytes s ++ encList encI l)))).triple []).snd.fst) ∧ decide (((decBytes
  (encBytes s ++ encList encI l)).triple []).snd.fst + ((decList (1 : Int) decI (List.take ((encBytes s ++ encList encI l).length - ((decBytes (encBytes s ++ encList encI
  l)).triple []).snd.fst.toNat) (List.drop ((decBytes (encBytes s ++ encList encI l)).triple []).snd.fst.toNat (encBytes s ++ encList encI l)))).triple []).snd.fst = (↑(encBytes s
  ++ encList encI l).length : Int)) = true) ∧ (decide (((decList (1 : Int) decI (List.take ((encBytes s ++ encList encI l).length - ((decBytes (encBytes s ++ encList encI
  l)).triple []).snd.fst.toNat) (List.drop ((decBytes (encBytes s ++ encList encI l)).triple []).snd.fst.toNat (encBytes s ++ encList encI l)))).triple []).snd.snd = (0 : Int)) =
  false → false = true)) ∧ (decide (((decList (1 : Int) decI (List.take ((encBytes s ++ encList encI l).length - ((decBytes (encBytes s ++ encList encI l)).triple
  []).snd.fst.toNat) (List.drop ((decBytes (encBytes s ++ encList encI l)).triple []).snd.fst.toNat (encBytes s ++ encList encI l)))).triple []).fst = l) = false → false = true)) ∧
  (decide (((decBytes (encBytes s ++ encList encI l)).triple []).fst = s) = false → false = true)) ∧ (true = false → false = true)))))) := by kernel_rfl
def hintR (f : FuncId) : Hint :=
  bif Nat.beq f 9 then ⟨fun r => bif Nat.beq r 7 then [.slot 57 I] else [], fun _ => .split, fun t => bif memN t [50, 69, 79, 89, 99] then .force else .split, fun r => bif Nat.beq r 4 then 7 else 0⟩ else hintX f
noncomputable def XT : Ctx := mkctx bs ((12, sanitySp) :: tblW) [] hintR
theorem law7_nf (n : Int) (s l : List Int) (x d : List (List Int)) : fnwp XT 5 9 (lawSpU [I, .str, L, .arr .str, .arr DG]) (n, s, l, x, d) = (isI64 ((10 : Int) * (↑l.length : Int))
  ∧ isI64 ((↑s.length : Int) + (10 : Int) * (↑l.length : Int)) ∧ isI64 ((16 : Int) * (↑d.length : Int)) ∧ isI64 ((↑s.length : Int) + (10 : Int) * (↑l.length : Int) + (16 : Int) *
  (↑d.length : Int)) ∧ (decide ((400 : Int) < (↑s.length : Int) + (10 : Int) * (↑l.length : Int) + (16 : Int) * (↑d.length : Int)) = true → True ∧ true = true) ∧ (decide ((400 :
  Int) < (↑s.length : Int) + (10 : Int) * (↑l.length : Int) + (16 : Int) * (↑d.length : Int)) = false → (decide ((40 : Int) < (↑x.length : Int)) = true → True ∧ true = true) ∧
  (decide ((40 : Int) < (↑x.length : Int)) = false → fewP x ∧ ((!decide (fewN x ≤ (2000 : Int))) = true → True ∧ true = true) ∧ ((!decide (fewN x ≤ (2000 : Int))) = false → True ∧
  s.length ≤ (100000 : Nat) ∧ small2 l ∧ ((∀ (s : List Int), s ∈ x → s.length ≤ (100000 : Nat)) ∧ small2 x) ∧ small2 d ∧ ((0 : Int) ≤ (0 : Int) ∧ (0 : Int) < (↑[encI n, encBytes s,
  encList encI l, encList encBytes x, encList (fun (x : List Int) => x) d].length : Int)) ∧ ∃ (I : Int → Prop), ∃ (μ : Int → Nat), I (0 : Int) ∧ ∀ (x_1 : Int), I x_1 → (decide (x_1
  < min (↑([encI n, encBytes s, encList encI l, encList encBytes x, encList (fun (x : List Int) => x) d].getD (0 : Nat) []).length : Int) (500 : Int)) = true → ((0 : Int) ≤ (0 :
  Int) ∧ (0 : Int) ≤ x_1 ∧ x_1 ≤ (↑([encI n, encBytes s, encList encI l, encList encBytes x, encList (fun (x : List Int) => x) d].getD (0 : Nat) []).length : Int)) ∧ True ∧
  ((!decide ((decO (decI (List.take (x_1.toNat - (0 : Nat)) (List.drop (0 : Nat) ([encI n, encBytes s, encList encI l, encList encBytes x, encList (fun (x : List Int) => x) d].getD
  (0 : Nat) []))))).snd.snd = (10 : Int))) = true → false = true) ∧ ((!decide ((decO (decI (List.take (x_1.toNat - (0 : Nat)) (List.drop (0 : Nat) ([encI n, encBytes s, encList
  encI l, encList encBytes x, encList (fun (x : List Int) => x) d].getD (0 : Nat) []))))).snd.snd = (10 : Int))) = false → isI64 (x_1 + (1 : Int)) ∧ I (x_1 + (1 : Int)) ∧ μ (x_1 +
  (1 : Int)) < μ x_1)) ∧ (decide (x_1 < min (↑([encI n, encBytes s, encList encI l, encList encBytes x, encList (fun (x : List Int) => x) d].getD (0 : Nat) []).length : Int) (500 :
  Int)) = false → isI64 (1 : Int) ∧ ((0 : Int) ≤ (1 : Int) ∧ (1 : Int) < (↑[encI n, encBytes s, encList encI l, encList encBytes x, encList (fun (x : List Int) => x) d].length :
  Int)) ∧ ∃ (I : Int → Prop), ∃ (μ : Int → Nat), I (0 : Int) ∧ ∀ (x_2 : Int), I x_2 → (decide (x_2 < min (↑([encI n, encBytes s, encList encI l, encList encBytes x, encList (fun (x
  : List Int) => x) d].getD (1 : Nat) []).length : Int) (500 : Int)) = true → ((0 : Int) ≤ (0 : Int) ∧ (0 : Int) ≤ x_2 ∧ x_2 ≤ (↑([encI n, encBytes s, encList encI l, encList
  encBytes x, encList (fun (x : List Int) => x) d].getD (1 : Nat) []).length : Int)) ∧ True ∧ ((!decide (((decBytes (List.take (x_2.toNat - (0 : Nat)) (List.drop (0 : Nat) ([encI
  n, encBytes s, encList encI l, encList encBytes x, encList (fun (x : List Int) => x) d].getD (1 : Nat) [])))).triple []).snd.snd = (10 : Int))) = true → false = true) ∧ ((!decide
  (((decBytes (List.take (x_2.toNat - (0 : Nat)) (List.drop (0 : Nat) ([encI n, encBytes s, encList encI l, encList encBytes x, encList (fun (x : List Int) => x) d].getD (1 : Nat)
  [])))).triple []).snd.snd = (10 : Int))) = false → isI64 (x_2 + (1 : Int)) ∧ I (x_2 + (1 : Int)) ∧ μ (x_2 + (1 : Int)) < μ x_2)) ∧ (decide (x_2 < min (↑([encI n, encBytes s,
  encList encI l, encList encBytes x, encList (fun (x : List Int) => x) d].getD (1 : Nat) []).length : Int) (500 : Int)) = false → isI64 (2 : Int) ∧ ((0 : Int) ≤ (2 : Int) ∧ (2 :
  Int) < (↑[encI n, encBytes s, encList encI l, encList encBytes x, encList (fun (x : List Int) => x) d].length : Int)) ∧ ∃ (I : Int → Prop), ∃ (μ : Int → Nat), I (0 : Int) ∧ ∀
  (x_3 : Int), I x_3 → (decide (x_3 < min (↑([encI n, encBytes s, encList encI l, encList encBytes x, encList (fun (x : List Int) => x) d].getD (2 : Nat) []).length : Int) (500 :
  Int)) = true → ((0 : Int) ≤ (0 : Int) ∧ (0 : Int) ≤ x_3 ∧ x_3 ≤ (↑([encI n, encBytes s, encList encI l, encList encBytes x, encList (fun (x : List Int) => x) d].getD (2 : Nat)
  []).length : Int)) ∧ small2 (List.take (x_3.toNat - (0 : Nat)) (List.drop (0 : Nat) ([encI n, encBytes s, encList encI l, encList encBytes x, encList (fun (x : List Int) => x)
  d].getD (2 : Nat) []))) ∧ ((!decide (((decList (1 : Int) decI (List.take (x_3.toNat - (0 : Nat)) (List.drop (0 : Nat) ([encI n, encBytes s, encList encI l, encList encBytes x,
  encList (fun (x : List Int) => x) d].getD (2 : Nat) [])))).triple []).snd.snd = (10 : Int))) = true → false = true) ∧ ((!decide (((decList (1 : Int) decI (List.take (x_3.toNat -
  (0 : Nat)) (List.drop (0 : Nat) ([encI n, encBytes s, encList encI l, encList encBytes x, encList (fun (x : List Int) => x) d].getD (2 : Nat) [])))).triple []).snd.snd = (10 :
  Int))) = false → isI64 (x_3 + (1 : Int)) ∧ I (x_3 + (1 : Int)) ∧ μ (x_3 + (1 : Int)) < μ x_3)) ∧ (decide (x_3 < min (↑([encI n, encBytes s, encList encI l, encList encBytes x,
  encList (fun (x : List Int) => x) d].getD (2 : Nat) []).length : Int) (500 : Int)) = false → isI64 (3 : Int) ∧ ((0 : Int) ≤ (3 : Int) ∧ (3 : Int) < (↑[encI n, encBytes s, encList
  encI l, encList encBytes x, encList (fun (x : List Int) => x) d].length : Int)) ∧ ∃ (I : Int → Prop), ∃ (μ : Int → Nat), I (0 : Int) ∧ ∀ (x_4 : Int), I x_4 → (decide (x_4 < min
  (↑([encI n, encBytes s, encList encI l, encList encBytes x, encList (fun (x : List Int) => x) d].getD (3 : Nat) []).length : Int) (500 : Int)) = true → ((0 : Int) ≤ (0 : Int) ∧
  (0 : Int) ≤ x_4 ∧ x_4 ≤ (↑([encI n, encBytes s, encList encI l, encList encBytes x, encList (fun (x : List Int) => x) d].getD (3 : Nat) []).length : Int)) ∧ small2 (List.take
  (x_4.toNat - (0 : Nat)) (List.drop (0 : Nat) ([encI n, encBytes s, encList encI l, encList encBytes x, encList (fun (x : List Int) => x) d].getD (3 : Nat) []))) ∧ ((!decide
  (((decList (1 : Int) decBytes (List.take (x_4.toNat - (0 : Nat)) (List.drop (0 : Nat) ([encI n, encBytes s, encList encI l, encList encBytes x, encList (fun (x : List Int) => x)
  d].getD (3 : Nat) [])))).triple []).snd.snd = (10 : Int))) = true → false = true) ∧ ((!decide (((decList (1 : Int) decBytes (List.take (x_4.toNat - (0 : Nat)) (List.drop (0 :
  Nat) ([encI n, encBytes s, encList encI l, encList encBytes x, encList (fun (x : List Int) => x) d].getD (3 : Nat) [])))).triple []).snd.snd = (10 : Int))) = false → isI64 (x_4 +
  (1 : Int)) ∧ I (x_4 + (1 : Int)) ∧ μ (x_4 + (1 : Int)) < μ x_4)) ∧ (decide (x_4 < min (↑([encI n, encBytes s, encList encI l, encList encBytes x, encList (fun (x : List Int) =>
  x) d].getD (3 : Nat) []).length : Int) (500 : Int)) = false → isI64 (4 : Int) ∧ ((0 : Int) ≤ (4 : Int) ∧ (4 : Int) < (↑[encI n, encBytes s, encList encI l, encList encBytes x,
  encList (fun (x : List Int) => x) d].length : Int)) ∧ ∃ (I : Int → Prop), ∃ (μ : Int → Nat), I (0 : Int) ∧ ∀ (x_5 : Int), I x_5 → (decide (x_5 < min (↑([encI n, encBytes s,
  encList encI l, encList encBytes x, encList (fun (x : List Int) => x) d].getD (4 : Nat) []).length : Int) (500 : Int)) = true → ((0 : Int) ≤ (0 : Int) ∧ (0 : Int) ≤ x_5 ∧ x_5 ≤
  (↑([encI n, encBytes s, encList encI l, encList encBytes x, encList (fun (x : List Int) => x) d].getD (4 : Nat) []).length : Int)) ∧ small2 (List.take (x_5.toNat - (0 : Nat))
  (List.drop (0 : Nat) ([encI n, encBytes s, encList encI l, encList encBytes x, encList (fun (x : List Int) => x) d].getD (4 : Nat) []))) ∧ ((!decide (((decList (16 : Int)
  decDigest (List.take (x_5.toNat - (0 : Nat)) (List.drop (0 : Nat) ([encI n, encBytes s, encList encI l, encList encBytes x, encList (fun (x : List Int) => x) d].getD (4 : Nat)
  [])))).triple []).snd.snd = (10 : Int))) = true → false = true) ∧ ((!decide (((decList (16 : Int) decDigest (List.take (x_5.toNat - (0 : Nat)) (List.drop (0 : Nat) ([encI n,
  encBytes s, encList encI l, encList encBytes x, encList (fun (x : List Int) => x) d].getD (4 : Nat) [])))).triple []).snd.snd = (10 : Int))) = false → isI64 (x_5 + (1 : Int)) ∧ I
  (x_5 + (1 : Int)) ∧ μ (x_5 + (1 : Int)) < μ x_5)) ∧ (decide (x_5 < min (↑([encI n, encBytes s, encList encI l, encList encBytes x, encList (fun (x : List Int) => x) d].getD (4 :
  Nat) []).length : Int) (500 : Int)) = false → isI64 (5 : Int) ∧ True ∧ true = true))))))))) := by kernel_rfl
end Go.Proofs.Ytgneefndofeoaaa
