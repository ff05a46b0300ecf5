import Derived.Test.YtohbapfijafecaaMi
namespace Go.Proofs.Ytohbapfijafecaa
open Go.AM Go.PL
set_option linter.unusedVariables false

def tblL : List (FuncId × FSpec) :=
  (13, refRingSp) :: (29, keySp5) :: (10, keysSp) :: (11, sanitySp) ::
  (26, rAlikeSp) :: (28, rKeySp) :: tblM
theorem satL : AllSat Try.prog tblL := ⟨sat_rRing, sat_key5, sat_keys, sat_sanity, sat_rAlike, sat_rKey, satM⟩

noncomputable def L1 : Ctx := ctxh Try.prog tblL (hintY 3 [8, 9, 10]) tyV
noncomputable def L2 : Ctx := ctxh Try.prog tblL (hintY 4 [8, 10]) tyV
noncomputable def L3 : Ctx := ctxh Try.prog tblL (hintY 5 [6]) tyV
noncomputable def L4 : Ctx := ctxh Try.prog tblL (hintY 6 [5, 12]) tyV
noncomputable def L5 : Ctx := ctxh Try.prog tblL (hintY 7 [4, 12]) tyV
noncomputable def L6 : Ctx := ctxh Try.prog tblL (hintY 8 [9, 10]) tyV
noncomputable def L7 : Ctx := ctxh Try.prog tblL (hintY 9 [7, 9]) tyV

theorem law1_nf (m a b c : Int) : fnwp L1 5 3 (lawSp [I, I, I, I]) (m, a, b, c) = (True ∧ ((!keysB m a b c) = true → True ∧ true = true) ∧ ((!keysB m a b c) = false → (keyP a ∧
  keyP b) ∧ (keyP a ∧ keyP b) ∧ (keyP a ∧ keyP b) ∧ (keyP a ∧ keyP b) ∧ decide (lowS m a b = lowS m a b) = true ∧ (keyP a ∧ keyP b) ∧ (keyP a ∧ keyP b) ∧ decide (highS m a b =
  highS m a b) = true ∧ (keyP a ∧ keyP b) ∧ (keyP a ∧ keyP b) ∧ (keyP (min b c) ∧ keyP (max b c) ∧ keyP a) ∧ (decide (a < min b c) = true → (keyP a ∧ keyP (min b c)) ∧ decide (lowS
  m a (max (min b c) (min a (max b c))) = lowS m a (min b c)) = true ∧ (keyP (min b c) ∧ keyP (max b c) ∧ keyP a) ∧ (keyP a ∧ keyP (min b c)) ∧ (keyP a ∧ keyP (max b c)) ∧ (decide
  (highS m a (max b c) < highS m a (min b c)) = true → decide (highS m a (max b c) = highS m a (min b c)) = true ∧ (keyP b ∧ keyP c) ∧ (keyP b ∧ keyP c) ∧ True ∧ true = true ∧
  (decide (lowS m a b ≤ c ∧ c ≤ highS m a b) == decide (lowS m a b ≤ c ∧ c ≤ highS m a b)) = true ∧ (decide (a ≤ highS m b c) == decide (a ≤ highS m b c)) = true ∧ decide ((if b <
  a then lowS m a b else (0 : Int)) = if b < a then lowS m a b else (0 : Int)) = true ∧ decide (highS m a b = highS m a b) = true) ∧ (decide (highS m a (max b c) < highS m a (min b
  c)) = false → decide (highS m a (max b c) = highS m a (max b c)) = true ∧ (keyP b ∧ keyP c) ∧ (keyP b ∧ keyP c) ∧ True ∧ true = true ∧ (decide (lowS m a b ≤ c ∧ c ≤ highS m a b)
  == decide (lowS m a b ≤ c ∧ c ≤ highS m a b)) = true ∧ (decide (a ≤ highS m b c) == decide (a ≤ highS m b c)) = true ∧ decide ((if b < a then lowS m a b else (0 : Int)) = if b <
  a then lowS m a b else (0 : Int)) = true ∧ decide (highS m a b = highS m a b) = true)) ∧ (decide (a < min b c) = false → (decide (max b c < a) = true → (keyP a ∧ keyP (max b c))
  ∧ decide (lowS m a (max (min b c) (min a (max b c))) = lowS m a (max b c)) = true ∧ (keyP (min b c) ∧ keyP (max b c) ∧ keyP a) ∧ (keyP a ∧ keyP (min b c)) ∧ (keyP a ∧ keyP (max b
  c)) ∧ (decide (highS m a (max b c) < highS m a (min b c)) = true → decide (highS m a (max b c) = highS m a (min b c)) = true ∧ (keyP b ∧ keyP c) ∧ (keyP b ∧ keyP c) ∧ True ∧ true
  = true ∧ (decide (lowS m a b ≤ c ∧ c ≤ highS m a b) == decide (lowS m a b ≤ c ∧ c ≤ highS m a b)) = true ∧ (decide (a ≤ highS m b c) == decide (a ≤ highS m b c)) = true ∧ decide
  ((if b < a then lowS m a b else (0 : Int)) = if b < a then lowS m a b else (0 : Int)) = true ∧ decide (highS m a b = highS m a b) = true) ∧ (decide (highS m a (max b c) < highS m
  a (min b c)) = false → decide (highS m a (max b c) = highS m a (max b c)) = true ∧ (keyP b ∧ keyP c) ∧ (keyP b ∧ keyP c) ∧ True ∧ true = true ∧ (decide (lowS m a b ≤ c ∧ c ≤
  highS m a b) == decide (lowS m a b ≤ c ∧ c ≤ highS m a b)) = true ∧ (decide (a ≤ highS m b c) == decide (a ≤ highS m b c)) = true ∧ decide ((if b < a then lowS m a b else (0 :
  Int)) = if b < a then lowS m a b else (0 : Int)) = true ∧ decide (highS m a b = highS m a b) = true)) ∧ (decide (max b c < a) = false → decide (lowS m a (max (min b c) (min a
  (max b c))) = (0 : Int)) = true ∧ (keyP (min b c) ∧ keyP (max b c) ∧ keyP a) ∧ (keyP a ∧ keyP (min b c)) ∧ (keyP a ∧ keyP (max b c)) ∧ (decide (highS m a (max b c) < highS m a
  (min b c)) = true → decide (highS m a (max b c) = highS m a (min b c)) = true ∧ (keyP b ∧ keyP c) ∧ (keyP b ∧ keyP c) ∧ True ∧ true = true ∧ (decide (lowS m a b ≤ c ∧ c ≤ highS m
  a b) == decide (lowS m a b ≤ c ∧ c ≤ highS m a b)) = true ∧ (decide (a ≤ highS m b c) == decide (a ≤ highS m b c)) = true ∧ decide ((if b < a then lowS m a b else (0 : Int)) = if
  b < a then lowS m a b else (0 : Int)) = true ∧ decide (highS m a b = highS m a b) = true) ∧ (decide (highS m a (max b c) < highS m a (min b c)) = false → decide (highS m a (max b
  c) = highS m a (max b c)) = true ∧ (keyP b ∧ keyP c) ∧ (keyP b ∧ keyP c) ∧ True ∧ true = true ∧ (decide (lowS m a b ≤ c ∧ c ≤ highS m a b) == decide (lowS m a b ≤ c ∧ c ≤ highS m
  a b)) = true ∧ (decide (a ≤ highS m b c) == decide (a ≤ highS m b c)) = true ∧ decide ((if b < a then lowS m a b else (0 : Int)) = if b < a then lowS m a b else (0 : Int)) = true
  ∧ decide (highS m a b = highS m a b) = true))))) := by kernel_rfl
theorem law2_nf (m : Int) (p q r : List Int) : fnwp L2 5 4 (lawSp [I, L, L, L]) (m, p, q, r) = (True ∧ True ∧ ((!alikeB p q) = true → True ∧ true = true) ∧ ((!alikeB p q) = false →
  ((!alikeB q r) = true → True ∧ true = true) ∧ ((!alikeB q r) = false → True ∧ ((!validS m (0 : Int)) = true → True ∧ true = true) ∧ ((!validS m (0 : Int)) = false → (small (64 :
  Nat) (4000 : Int) p ∧ small (64 : Nat) (4000 : Int) q ∧ p.length = q.length) ∧ (small (64 : Nat) (4000 : Int) q ∧ small (64 : Nat) (4000 : Int) r ∧ q.length = r.length) ∧ (small
  (64 : Nat) (4000 : Int) p ∧ small (64 : Nat) (4000 : Int) r ∧ p.length = r.length) ∧ (keyP (keyS m p q) ∧ keyP (keyS m q r)) ∧ decide (keyS m p r < lowS m (keyS m p q) (keyS m q
  r)) = false ∧ (keyP (keyS m p q) ∧ keyP (keyS m q r)) ∧ (decide (highS m (keyS m p q) (keyS m q r) < keyS m p r) = true → false = true) ∧ (decide (highS m (keyS m p q) (keyS m q
  r) < keyS m p r) = false → True ∧ true = true ∧ (keyP (keyS m p q) ∧ keyP (keyS m q r)) ∧ decide (lowS m (keyS m p q) (keyS m q r) ≤ keyS m p r ∧ keyS m p r ≤ highS m (keyS m p
  q) (keyS m q r)) = true ∧ (keyP (keyS m p r) ∧ keyP (keyS m q r)) ∧ decide (lowS m (keyS m p r) (keyS m q r) ≤ keyS m p q ∧ keyS m p q ≤ highS m (keyS m p r) (keyS m q r)) = true
  ∧ (keyP (keyS m p q) ∧ keyP (keyS m p r)) ∧ decide (lowS m (keyS m p q) (keyS m p r) ≤ keyS m q r ∧ keyS m q r ≤ highS m (keyS m p q) (keyS m p r)) = true))))) := by kernel_rfl
theorem law3_nf (m d e : Int) : fnwp L3 5 5 (lawSp [I, I, I]) (m, d, e) = (True ∧ ((!validS m (0 : Int)) = true → True ∧ true = true) ∧ ((!validS m (0 : Int)) = false → (decide (d
  < (0 : Int)) = true → True ∧ true = true) ∧ (decide (d < (0 : Int)) = false → (decide ((11585 : Int) < d) = true → True ∧ true = true) ∧ (decide ((11585 : Int) < d) = false →
  (decide (e < (0 : Int)) = true → True ∧ true = true) ∧ (decide (e < (0 : Int)) = false → (decide ((11585 : Int) < e) = true → True ∧ true = true) ∧ (decide ((11585 : Int) < e) =
  false → isI64 (d + e) ∧ ((-100000 : Int) ≤ d + e ∧ d + e ≤ (100000 : Int)) ∧ (decide ((134217728 : Int) < keyOf m (d + e)) = true → True ∧ true = true ∧ ((-100000 : Int) ≤ d ∧ d
  ≤ (100000 : Int)) ∧ ((-100000 : Int) ≤ e ∧ e ≤ (100000 : Int)) ∧ (keyP (keyOf m d) ∧ keyP (keyOf m e)) ∧ isI64 (max d e - min d e) ∧ ((-100000 : Int) ≤ max d e - min d e ∧ max d
  e - min d e ≤ (100000 : Int)) ∧ decide (lowS m (keyOf m d) (keyOf m e) = keyOf m (max d e - min d e)) = true ∧ ((-100000 : Int) ≤ d ∧ d ≤ (100000 : Int)) ∧ ((-100000 : Int) ≤ e ∧
  e ≤ (100000 : Int)) ∧ (keyP (keyOf m d) ∧ keyP (keyOf m e)) ∧ decide (highS m (keyOf m d) (keyOf m e) = (134217728 : Int)) = true) ∧ (decide ((134217728 : Int) < keyOf m (d + e))
  = false → True ∧ true = true ∧ ((-100000 : Int) ≤ d ∧ d ≤ (100000 : Int)) ∧ ((-100000 : Int) ≤ e ∧ e ≤ (100000 : Int)) ∧ (keyP (keyOf m d) ∧ keyP (keyOf m e)) ∧ isI64 (max d e -
  min d e) ∧ ((-100000 : Int) ≤ max d e - min d e ∧ max d e - min d e ≤ (100000 : Int)) ∧ decide (lowS m (keyOf m d) (keyOf m e) = keyOf m (max d e - min d e)) = true ∧ ((-100000 :
  Int) ≤ d ∧ d ≤ (100000 : Int)) ∧ ((-100000 : Int) ≤ e ∧ e ≤ (100000 : Int)) ∧ (keyP (keyOf m d) ∧ keyP (keyOf m e)) ∧ decide (highS m (keyOf m d) (keyOf m e) = keyOf m (d + e)) =
  true))))))) := by kernel_rfl
theorem law4_nf (m a t b : Int) : fnwp L4 5 6 (lawSp [I, I, I, I]) (m, a, t, b) = (True ∧ ((!keysB m a t b) = true → True ∧ true = true) ∧ ((!keysB m a t b) = false → (keyP a ∧
  keyP t) ∧ decide ((if t < a then lowS m a t else (0 : Int)) < (0 : Int)) = false ∧ decide ((134217728 : Int) < highS m a t) = false ∧ decide (a < if t < a then lowS m a t else (0
  : Int)) = false ∧ (decide (highS m a t < a) = true → false = true) ∧ (decide (highS m a t < a) = false → (decide ((if t < a then lowS m a t else (0 : Int)) ≤ b) = true → (keyP a
  ∧ keyP (0 : Int)) ∧ (decide ((if (0 : Int) < a then lowS m a (0 : Int) else (0 : Int)) ≤ max t b) = true → True ∧ true = true ∧ (keyP a ∧ keyP b) ∧ (decide (b ≤ highS m a t) ==
  decide (lowS m a b ≤ t)) = true ∧ (keyP (min t b) ∧ keyP (max t b) ∧ keyP a) ∧ (decide (lowS m a (max (min t b) (min a (max t b))) = (0 : Int)) == decide (min t b ≤ highS m a (0
  : Int))) = true) ∧ (decide ((if (0 : Int) < a then lowS m a (0 : Int) else (0 : Int)) ≤ max t b) = false → True ∧ true = true ∧ (keyP a ∧ keyP b) ∧ (decide (b ≤ highS m a t) ==
  decide (lowS m a b ≤ t)) = true ∧ (keyP (min t b) ∧ keyP (max t b) ∧ keyP a) ∧ (decide (lowS m a (max (min t b) (min a (max t b))) = (0 : Int)) == false) = true)) ∧ (decide ((if
  t < a then lowS m a t else (0 : Int)) ≤ b) = false → (keyP a ∧ keyP (0 : Int)) ∧ (decide ((if (0 : Int) < a then lowS m a (0 : Int) else (0 : Int)) ≤ max t b) = true → True ∧
  true = true ∧ (keyP a ∧ keyP b) ∧ (false == decide (lowS m a b ≤ t)) = true ∧ (keyP (min t b) ∧ keyP (max t b) ∧ keyP a) ∧ (decide (lowS m a (max (min t b) (min a (max t b))) =
  (0 : Int)) == decide (min t b ≤ highS m a (0 : Int))) = true) ∧ (decide ((if (0 : Int) < a then lowS m a (0 : Int) else (0 : Int)) ≤ max t b) = false → True ∧ true = true ∧ (keyP
  a ∧ keyP b) ∧ (false == decide (lowS m a b ≤ t)) = true ∧ (keyP (min t b) ∧ keyP (max t b) ∧ keyP a) ∧ (decide (lowS m a (max (min t b) (min a (max t b))) = (0 : Int)) == false)
  = true))))) := by kernel_rfl
theorem law5_nf (m a b c : Int) : fnwp L5 5 7 (lawSp [I, I, I, I]) (m, a, b, c) = (True ∧ ((!keysB m a b c) = true → True ∧ true = true) ∧ ((!keysB m a b c) = false → (keyP a ∧
  keyP b) ∧ (keyP b ∧ keyP a) ∧ (!decide (lowS m a b = lowS m b a)) = false ∧ (keyP a ∧ keyP b) ∧ (keyP b ∧ keyP a) ∧ (!decide (highS m a b = highS m b a)) = false ∧ (keyP a ∧ keyP
  a) ∧ (!decide (lowS m a a = (0 : Int))) = false ∧ (keyP a ∧ keyP (0 : Int)) ∧ ((!decide (highS m a (0 : Int) = a)) = true → false = true) ∧ ((!decide (highS m a (0 : Int) = a)) =
  false → (keyP a ∧ keyP (min b c)) ∧ (keyP a ∧ keyP (max b c)) ∧ (decide (highS m a (max b c) < highS m a (min b c)) = true → false = true) ∧ (decide (highS m a (max b c) < highS
  m a (min b c)) = false → (decide (a ≤ min b c) = true → (keyP a ∧ keyP (min b c)) ∧ (keyP a ∧ keyP (max b c)) ∧ (decide (lowS m a (max b c) < lowS m a (min b c)) = true → false =
  true) ∧ (decide (lowS m a (max b c) < lowS m a (min b c)) = false → (decide (max b c ≤ a) = true → (keyP a ∧ keyP (max b c)) ∧ (keyP a ∧ keyP (min b c)) ∧ (decide (lowS m a (min
  b c) < lowS m a (max b c)) = true → false = true) ∧ (decide (lowS m a (min b c) < lowS m a (max b c)) = false → (keyP (min b c) ∧ keyP (max b c) ∧ keyP a) ∧ (keyP (min b c) ∧
  keyP (max b c) ∧ keyP a) ∧ True ∧ true = true ∧ (keyP a ∧ keyP b) ∧ decide (lowS m a (max (min b c) (min a (max b c))) ≤ lowS m a b) = true ∧ (keyP a ∧ keyP c) ∧ decide (lowS m a
  (max (min b c) (min a (max b c))) ≤ lowS m a c) = true ∧ (keyP a ∧ keyP b) ∧ decide (highS m a b ≤ highS m a (max b c)) = true ∧ (keyP a ∧ keyP c) ∧ decide (highS m a c ≤ highS m
  a (max b c)) = true)) ∧ (decide (max b c ≤ a) = false → (keyP (min b c) ∧ keyP (max b c) ∧ keyP a) ∧ (keyP (min b c) ∧ keyP (max b c) ∧ keyP a) ∧ True ∧ true = true ∧ (keyP a ∧
  keyP b) ∧ decide (lowS m a (max (min b c) (min a (max b c))) ≤ lowS m a b) = true ∧ (keyP a ∧ keyP c) ∧ decide (lowS m a (max (min b c) (min a (max b c))) ≤ lowS m a c) = true ∧
  (keyP a ∧ keyP b) ∧ decide (highS m a b ≤ highS m a (max b c)) = true ∧ (keyP a ∧ keyP c) ∧ decide (highS m a c ≤ highS m a (max b c)) = true))) ∧ (decide (a ≤ min b c) = false →
  (decide (max b c ≤ a) = true → (keyP a ∧ keyP (max b c)) ∧ (keyP a ∧ keyP (min b c)) ∧ (decide (lowS m a (min b c) < lowS m a (max b c)) = true → false = true) ∧ (decide (lowS m
  a (min b c) < lowS m a (max b c)) = false → (keyP (min b c) ∧ keyP (max b c) ∧ keyP a) ∧ (keyP (min b c) ∧ keyP (max b c) ∧ keyP a) ∧ True ∧ true = true ∧ (keyP a ∧ keyP b) ∧
  decide (lowS m a (max (min b c) (min a (max b c))) ≤ lowS m a b) = true ∧ (keyP a ∧ keyP c) ∧ decide (lowS m a (max (min b c) (min a (max b c))) ≤ lowS m a c) = true ∧ (keyP a ∧
  keyP b) ∧ decide (highS m a b ≤ highS m a (max b c)) = true ∧ (keyP a ∧ keyP c) ∧ decide (highS m a c ≤ highS m a (max b c)) = true)) ∧ (decide (max b c ≤ a) = false → (keyP (min
  b c) ∧ keyP (max b c) ∧ keyP a) ∧ (keyP (min b c) ∧ keyP (max b c) ∧ keyP a) ∧ True ∧ true = true ∧ (keyP a ∧ keyP b) ∧ decide (lowS m a (max (min b c) (min a (max b c))) ≤ lowS
  m a b) = true ∧ (keyP a ∧ keyP c) ∧ decide (lowS m a (max (min b c) (min a (max b c))) ≤ lowS m a c) = true ∧ (keyP a ∧ keyP b) ∧ decide (highS m a b ≤ highS m a (max b c)) =
  true ∧ (keyP a ∧ keyP c) ∧ decide (highS m a c ≤ highS m a (max b c)) = true)))))) := by kernel_rfl
theorem law6_nf (m : Int) (p q x : List Int) (r s : Int) : fnwp L6 5 8 (lawSp [I, L, L, L, I, I]) (m, p, q, x, r, s) = (True ∧ True ∧ ((!alikeB p q) = true → True ∧ true = true) ∧
  ((!alikeB p q) = false → ((!alikeB q x) = true → True ∧ true = true) ∧ ((!alikeB q x) = false → True ∧ ((!keysB m r s (0 : Int)) = true → True ∧ true = true) ∧ ((!keysB m r s (0
  : Int)) = false → (small (64 : Nat) (4000 : Int) p ∧ small (64 : Nat) (4000 : Int) q ∧ p.length = q.length) ∧ (small (64 : Nat) (4000 : Int) p ∧ small (64 : Nat) (4000 : Int) x ∧
  p.length = x.length) ∧ (small (64 : Nat) (4000 : Int) q ∧ small (64 : Nat) (4000 : Int) x ∧ q.length = x.length) ∧ (decide (keyS m p x ≤ r) = true → (decide (keyS m q x ≤ s) =
  true → True ∧ true = true ∧ (keyP r ∧ keyP s) ∧ decide (keyS m p q ≤ highS m r s) = true) ∧ (decide (keyS m q x ≤ s) = false → True ∧ true = true ∧ (keyP r ∧ keyP s) ∧ (keyP r ∧
  keyP s) ∧ (decide (keyS m p q ≤ highS m r s) == decide (keyS m p q ≤ highS m r s)) = true)) ∧ (decide (keyS m p x ≤ r) = false → True ∧ true = true ∧ (keyP r ∧ keyP s) ∧ (keyP r
  ∧ keyP s) ∧ (decide (keyS m p q ≤ highS m r s) == decide (keyS m p q ≤ highS m r s)) = true))))) := by kernel_rfl
theorem law7_nf (n m : Int) : fnwp L7 5 9 (lawSp [I, I]) (n, m) = (True ∧ (decide (n < (0 : Int)) = true → (false = true → decide (isq n < (0 : Int)) = false ∧ decide ((1073741824
  : Int) < isq n) = false ∧ isI64 (isq n * isq n) ∧ decide ((1152921504606846976 : Int) < isq n * isq n) = false ∧ isI64 (isq n + (1 : Int)) ∧ isI64 (isq n + (1 : Int)) ∧ isI64
  ((isq n + (1 : Int)) * (isq n + (1 : Int))) ∧ (decide ((isq n + (1 : Int)) * (isq n + (1 : Int)) ≤ (1152921504606846976 : Int)) = true → false = true) ∧ (decide ((isq n + (1 :
  Int)) * (isq n + (1 : Int)) ≤ (1152921504606846976 : Int)) = false → True ∧ true = true ∧ True ∧ True ∧ (validS m n == validS m n) = true)) ∧ (false = false → decide (isq n < (0
  : Int)) = false ∧ decide ((1073741824 : Int) < isq n) = false ∧ isI64 (isq n * isq n) ∧ decide ((0 : Int) < isq n * isq n) = false ∧ isI64 (isq n + (1 : Int)) ∧ isI64 (isq n + (1
  : Int)) ∧ isI64 ((isq n + (1 : Int)) * (isq n + (1 : Int))) ∧ (decide ((isq n + (1 : Int)) * (isq n + (1 : Int)) ≤ (0 : Int)) = true → false = true) ∧ (decide ((isq n + (1 :
  Int)) * (isq n + (1 : Int)) ≤ (0 : Int)) = false → True ∧ true = true ∧ True ∧ True ∧ (validS m n == validS m n) = true))) ∧ (decide (n < (0 : Int)) = false → (decide
  ((1152921504606846976 : Int) < n) = true → decide (isq n < (0 : Int)) = false ∧ decide ((1073741824 : Int) < isq n) = false ∧ isI64 (isq n * isq n) ∧ decide ((1152921504606846976
  : Int) < isq n * isq n) = false ∧ isI64 (isq n + (1 : Int)) ∧ isI64 (isq n + (1 : Int)) ∧ isI64 ((isq n + (1 : Int)) * (isq n + (1 : Int))) ∧ (decide ((isq n + (1 : Int)) * (isq
  n + (1 : Int)) ≤ (1152921504606846976 : Int)) = true → false = true) ∧ (decide ((isq n + (1 : Int)) * (isq n + (1 : Int)) ≤ (1152921504606846976 : Int)) = false → True ∧ true =
  true ∧ True ∧ True ∧ (validS m n == validS m n) = true)) ∧ (decide ((1152921504606846976 : Int) < n) = false → decide (isq n < (0 : Int)) = false ∧ decide ((1073741824 : Int) <
  isq n) = false ∧ isI64 (isq n * isq n) ∧ decide (n < isq n * isq n) = false ∧ isI64 (isq n + (1 : Int)) ∧ isI64 (isq n + (1 : Int)) ∧ isI64 ((isq n + (1 : Int)) * (isq n + (1 :
  Int))) ∧ (decide ((isq n + (1 : Int)) * (isq n + (1 : Int)) ≤ n) = true → false = true) ∧ (decide ((isq n + (1 : Int)) * (isq n + (1 : Int)) ≤ n) = false → True ∧ true = true ∧
  True ∧ True ∧ (validS m n == validS m n) = true)))) := by kernel_rfl
end Go.Proofs.Ytohbapfijafecaa
