import Derived.Test.YtmimchmdikjilaaOi
namespace Go.Proofs.Ytmimchmdikjilaa
open Go.AM Go.PL
set_option linter.unusedVariables false
theorem l4_nf (p : Piece) (k : Int) (place more : Int) : fnwp G1 6 6 (lawSp [PC, I, U8, U16]) (p, k, place, more) = (True ∧ ((!fewP p) = true → True ∧ true = true) ∧ ((!fewP p) =
  false → True ∧ ((!validP p k) = true → True ∧ true = true) ∧ ((!validP p k) = false → (smallP p ∧ orderP p) ∧ (smallP (p.fst, [], ()) ∧ orderP (p.fst, [], ())) ∧ ((!decide (sureP
  (p.fst, [], ()) k = (↑p.fst.length : Int))) = true → false = true) ∧ ((!decide (sureP (p.fst, [], ()) k = (↑p.fst.length : Int))) = false → (1 : Int) ≤ k ∧ ((!exactP (p.fst, [],
  ()) k) = true → false = true) ∧ ((!exactP (p.fst, [], ()) k) = false → (decide ((0 : Int) < (↑p.fst.length : Int)) = true → ((0 : Int) ≤ (0 : Int) ∧ (0 : Int) ≤ (1 : Int) ∧ (1 :
  Int) ≤ (↑p.fst.length : Int)) ∧ (smallP (List.take (1 : Nat) (List.drop (0 : Nat) p.fst), p.snd.fst, ()) ∧ orderP (List.take (1 : Nat) (List.drop (0 : Nat) p.fst), p.snd.fst,
  ())) ∧ ((decide (sureP (List.take (1 : Nat) (List.drop (0 : Nat) p.fst), p.snd.fst, ()) k = (1 : Int)) != decide ((0 : Int) < sureP p k)) = true → false = true) ∧ ((decide (sureP
  (List.take (1 : Nat) (List.drop (0 : Nat) p.fst), p.snd.fst, ()) k = (1 : Int)) != decide ((0 : Int) < sureP p k)) = false → (decide ((↑p.snd.fst.length : Int) = (0 : Int)) =
  true → True ∧ (true = true → decide (sureP p k = (↑p.fst.length : Int)) = true) ∧ (true = false → false = true)) ∧ (decide ((↑p.snd.fst.length : Int) = (0 : Int)) = false →
  (↑p.snd.fst.length : Int) ≠ (0 : Int) ∧ ((0 : Int) ≤ (0 : Int) ∧ (0 : Int) ≤ (IntKind.i64.wrap place).tmod (↑p.snd.fst.length : Int) ∧ (IntKind.i64.wrap place).tmod
  (↑p.snd.fst.length : Int) ≤ (↑p.snd.fst.length : Int)) ∧ isI64 ((IntKind.i64.wrap place).tmod (↑p.snd.fst.length : Int) + (1 : Int)) ∧ ((0 : Int) ≤ (IntKind.i64.wrap place).tmod
  (↑p.snd.fst.length : Int) + (1 : Int) ∧ (IntKind.i64.wrap place).tmod (↑p.snd.fst.length : Int) + (1 : Int) ≤ (↑p.snd.fst.length : Int)) ∧ ((roomP G1 (44 : Nat) (List.take
  (((IntKind.i64.wrap place).tmod (↑p.snd.fst.length : Int)).toNat - (0 : Nat)) (List.drop (0 : Nat) p.snd.fst)).length ∧ (roomP G1 (44 : Nat) ((List.take (((IntKind.i64.wrap
  place).tmod (↑p.snd.fst.length : Int)).toNat - (0 : Nat)) (List.drop (0 : Nat) p.snd.fst)).length + (List.take (p.snd.fst.length - ((IntKind.i64.wrap place).tmod
  (↑p.snd.fst.length : Int) + (1 : Int)).toNat) (List.drop ((IntKind.i64.wrap place).tmod (↑p.snd.fst.length : Int) + (1 : Int)).toNat p.snd.fst)).length) ∧ (((0 : Int) ≤
  (IntKind.i64.wrap place).tmod (↑p.snd.fst.length : Int) ∧ (IntKind.i64.wrap place).tmod (↑p.snd.fst.length : Int) < (↑p.snd.fst.length : Int)) ∧ isI64 ((p.snd.fst.getD
  ((IntKind.i64.wrap place).tmod (↑p.snd.fst.length : Int)).toNat ((0 : Int), (0 : Int), ())).fst + IntKind.i64.wrap more) ∧ ((0 : Int) ≤ (IntKind.i64.wrap place).tmod
  (↑p.snd.fst.length : Int) ∧ (IntKind.i64.wrap place).tmod (↑p.snd.fst.length : Int) < (↑p.snd.fst.length : Int)) ∧ ((p.fst.length + (0 : Nat) ≤ (1000 : Nat) ∧ (0 : Int) ≤ k) ∧
  (List.take (((IntKind.i64.wrap place).tmod (↑p.snd.fst.length : Int)).toNat - (0 : Nat)) (List.drop (0 : Nat) p.snd.fst) ++ List.take (p.snd.fst.length - ((IntKind.i64.wrap
  place).tmod (↑p.snd.fst.length : Int) + (1 : Int)).toNat) (List.drop ((IntKind.i64.wrap place).tmod (↑p.snd.fst.length : Int) + (1 : Int)).toNat p.snd.fst)).length + [(min
  (134217728 : Int) ((p.snd.fst.getD ((IntKind.i64.wrap place).tmod (↑p.snd.fst.length : Int)).toNat ((0 : Int), (0 : Int), ())).fst + IntKind.i64.wrap more), (p.snd.fst.getD
  ((IntKind.i64.wrap place).tmod (↑p.snd.fst.length : Int)).toNat ((0 : Int), (0 : Int), ())).snd.fst, ())].length ≤ (1000 : Nat)) ∧ True ∧ (true = true → (smallP (p.fst, List.take
  (((IntKind.i64.wrap place).tmod (↑p.snd.fst.length : Int)).toNat - (0 : Nat)) (List.drop (0 : Nat) p.snd.fst) ++ List.take (p.snd.fst.length - ((IntKind.i64.wrap place).tmod
  (↑p.snd.fst.length : Int) + (1 : Int)).toNat) (List.drop ((IntKind.i64.wrap place).tmod (↑p.snd.fst.length : Int) + (1 : Int)).toNat p.snd.fst), ()) ∧ orderP (p.fst, List.take
  (((IntKind.i64.wrap place).tmod (↑p.snd.fst.length : Int)).toNat - (0 : Nat)) (List.drop (0 : Nat) p.snd.fst) ++ List.take (p.snd.fst.length - ((IntKind.i64.wrap place).tmod
  (↑p.snd.fst.length : Int) + (1 : Int)).toNat) (List.drop ((IntKind.i64.wrap place).tmod (↑p.snd.fst.length : Int) + (1 : Int)).toNat p.snd.fst), ())) ∧ (decide (sureP p k ≤ sureP
  (p.fst, List.take (((IntKind.i64.wrap place).tmod (↑p.snd.fst.length : Int)).toNat - (0 : Nat)) (List.drop (0 : Nat) p.snd.fst) ++ List.take (p.snd.fst.length -
  ((IntKind.i64.wrap place).tmod (↑p.snd.fst.length : Int) + (1 : Int)).toNat) (List.drop ((IntKind.i64.wrap place).tmod (↑p.snd.fst.length : Int) + (1 : Int)).toNat p.snd.fst),
  ()) k) = true → (smallP (ofH (p.fst ++ []) k, sortR (List.take (((IntKind.i64.wrap place).tmod (↑p.snd.fst.length : Int)).toNat - (0 : Nat)) (List.drop (0 : Nat) p.snd.fst) ++
  List.take (p.snd.fst.length - ((IntKind.i64.wrap place).tmod (↑p.snd.fst.length : Int) + (1 : Int)).toNat) (List.drop ((IntKind.i64.wrap place).tmod (↑p.snd.fst.length : Int) +
  (1 : Int)).toNat p.snd.fst) ++ [(min (134217728 : Int) ((p.snd.fst.getD ((IntKind.i64.wrap place).tmod (↑p.snd.fst.length : Int)).toNat ((0 : Int), (0 : Int), ())).fst +
  IntKind.i64.wrap more), (p.snd.fst.getD ((IntKind.i64.wrap place).tmod (↑p.snd.fst.length : Int)).toNat ((0 : Int), (0 : Int), ())).snd.fst, ())]), ()) ∧ orderP (ofH (p.fst ++
  []) k, sortR (List.take (((IntKind.i64.wrap place).tmod (↑p.snd.fst.length : Int)).toNat - (0 : Nat)) (List.drop (0 : Nat) p.snd.fst) ++ List.take (p.snd.fst.length -
  ((IntKind.i64.wrap place).tmod (↑p.snd.fst.length : Int) + (1 : Int)).toNat) (List.drop ((IntKind.i64.wrap place).tmod (↑p.snd.fst.length : Int) + (1 : Int)).toNat p.snd.fst) ++
  [(min (134217728 : Int) ((p.snd.fst.getD ((IntKind.i64.wrap place).tmod (↑p.snd.fst.length : Int)).toNat ((0 : Int), (0 : Int), ())).fst + IntKind.i64.wrap more), (p.snd.fst.getD
  ((IntKind.i64.wrap place).tmod (↑p.snd.fst.length : Int)).toNat ((0 : Int), (0 : Int), ())).snd.fst, ())]), ())) ∧ (decide (sureP p k ≤ sureP (ofH (p.fst ++ []) k, sortR
  (List.take (((IntKind.i64.wrap place).tmod (↑p.snd.fst.length : Int)).toNat - (0 : Nat)) (List.drop (0 : Nat) p.snd.fst) ++ List.take (p.snd.fst.length - ((IntKind.i64.wrap
  place).tmod (↑p.snd.fst.length : Int) + (1 : Int)).toNat) (List.drop ((IntKind.i64.wrap place).tmod (↑p.snd.fst.length : Int) + (1 : Int)).toNat p.snd.fst) ++ [(min (134217728 :
  Int) ((p.snd.fst.getD ((IntKind.i64.wrap place).tmod (↑p.snd.fst.length : Int)).toNat ((0 : Int), (0 : Int), ())).fst + IntKind.i64.wrap more), (p.snd.fst.getD ((IntKind.i64.wrap
  place).tmod (↑p.snd.fst.length : Int)).toNat ((0 : Int), (0 : Int), ())).snd.fst, ())]), ()) k) = true → (1 : Int) ≤ k ∧ ((!exactP p k) = true → true = true) ∧ ((!exactP p k) =
  false → (1 : Int) ≤ k ∧ (exactP (p.fst, List.take (((IntKind.i64.wrap place).tmod (↑p.snd.fst.length : Int)).toNat - (0 : Nat)) (List.drop (0 : Nat) p.snd.fst) ++ List.take
  (p.snd.fst.length - ((IntKind.i64.wrap place).tmod (↑p.snd.fst.length : Int) + (1 : Int)).toNat) (List.drop ((IntKind.i64.wrap place).tmod (↑p.snd.fst.length : Int) + (1 :
  Int)).toNat p.snd.fst), ()) k = true → (1 : Int) ≤ k ∧ exactP (ofH (p.fst ++ []) k, sortR (List.take (((IntKind.i64.wrap place).tmod (↑p.snd.fst.length : Int)).toNat - (0 : Nat))
  (List.drop (0 : Nat) p.snd.fst) ++ List.take (p.snd.fst.length - ((IntKind.i64.wrap place).tmod (↑p.snd.fst.length : Int) + (1 : Int)).toNat) (List.drop ((IntKind.i64.wrap
  place).tmod (↑p.snd.fst.length : Int) + (1 : Int)).toNat p.snd.fst) ++ [(min (134217728 : Int) ((p.snd.fst.getD ((IntKind.i64.wrap place).tmod (↑p.snd.fst.length : Int)).toNat
  ((0 : Int), (0 : Int), ())).fst + IntKind.i64.wrap more), (p.snd.fst.getD ((IntKind.i64.wrap place).tmod (↑p.snd.fst.length : Int)).toNat ((0 : Int), (0 : Int), ())).snd.fst,
  ())]), ()) k = true) ∧ (exactP (p.fst, List.take (((IntKind.i64.wrap place).tmod (↑p.snd.fst.length : Int)).toNat - (0 : Nat)) (List.drop (0 : Nat) p.snd.fst) ++ List.take
  (p.snd.fst.length - ((IntKind.i64.wrap place).tmod (↑p.snd.fst.length : Int) + (1 : Int)).toNat) (List.drop ((IntKind.i64.wrap place).tmod (↑p.snd.fst.length : Int) + (1 :
  Int)).toNat p.snd.fst), ()) k = false → false = true))) ∧ (decide (sureP p k ≤ sureP (ofH (p.fst ++ []) k, sortR (List.take (((IntKind.i64.wrap place).tmod (↑p.snd.fst.length :
  Int)).toNat - (0 : Nat)) (List.drop (0 : Nat) p.snd.fst) ++ List.take (p.snd.fst.length - ((IntKind.i64.wrap place).tmod (↑p.snd.fst.length : Int) + (1 : Int)).toNat) (List.drop
  ((IntKind.i64.wrap place).tmod (↑p.snd.fst.length : Int) + (1 : Int)).toNat p.snd.fst) ++ [(min (134217728 : Int) ((p.snd.fst.getD ((IntKind.i64.wrap place).tmod
  (↑p.snd.fst.length : Int)).toNat ((0 : Int), (0 : Int), ())).fst + IntKind.i64.wrap more), (p.snd.fst.getD ((IntKind.i64.wrap place).tmod (↑p.snd.fst.length : Int)).toNat ((0 :
  Int), (0 : Int), ())).snd.fst, ())]), ()) k) = false → false = true)) ∧ (decide (sureP p k ≤ sureP (p.fst, List.take (((IntKind.i64.wrap place).tmod (↑p.snd.fst.length :
  Int)).toNat - (0 : Nat)) (List.drop (0 : Nat) p.snd.fst) ++ List.take (p.snd.fst.length - ((IntKind.i64.wrap place).tmod (↑p.snd.fst.length : Int) + (1 : Int)).toNat) (List.drop
  ((IntKind.i64.wrap place).tmod (↑p.snd.fst.length : Int) + (1 : Int)).toNat p.snd.fst), ()) k) = false → false = true)) ∧ (true = false → false = true)) ∧ ((0 : Int) ≤
  (IntKind.i64.wrap place).tmod (↑p.snd.fst.length : Int) ∧ (IntKind.i64.wrap place).tmod (↑p.snd.fst.length : Int) < (↑p.snd.fst.length : Int)) ∧ isI64 ((p.snd.fst.getD
  ((IntKind.i64.wrap place).tmod (↑p.snd.fst.length : Int)).toNat ((0 : Int), (0 : Int), ())).fst + IntKind.i64.wrap more) ∧ ((0 : Int) ≤ (IntKind.i64.wrap place).tmod
  (↑p.snd.fst.length : Int) ∧ (IntKind.i64.wrap place).tmod (↑p.snd.fst.length : Int) < (↑p.snd.fst.length : Int)) ∧ ((p.fst.length + (0 : Nat) ≤ (1000 : Nat) ∧ (0 : Int) ≤ k) ∧
  (List.take (((IntKind.i64.wrap place).tmod (↑p.snd.fst.length : Int)).toNat - (0 : Nat)) (List.drop (0 : Nat) p.snd.fst) ++ List.take (p.snd.fst.length - ((IntKind.i64.wrap
  place).tmod (↑p.snd.fst.length : Int) + (1 : Int)).toNat) (List.drop ((IntKind.i64.wrap place).tmod (↑p.snd.fst.length : Int) + (1 : Int)).toNat p.snd.fst)).length + [(min
  (134217728 : Int) ((p.snd.fst.getD ((IntKind.i64.wrap place).tmod (↑p.snd.fst.length : Int)).toNat ((0 : Int), (0 : Int), ())).fst + IntKind.i64.wrap more), (p.snd.fst.getD
  ((IntKind.i64.wrap place).tmod (↑p.snd.fst.length : Int)).toNat ((0 : Int), (0 : Int), ())).snd.fst, ())].length ≤ (1000 : Nat)) ∧ True ∧ (true = true → (smallP (p.fst, List.take
  (((IntKind.i64.wrap place).tmod (↑p.snd.fst.length : Int)).toNat - (0 : Nat)) (List.drop (0 : Nat) p.snd.fst) ++ List.take (p.snd.fst.length - ((IntKind.i64.wrap place).tmod
  (↑p.snd.fst.length : Int) + (1 : Int)).toNat) (List.drop ((IntKind.i64.wrap place).tmod (↑p.snd.fst.length : Int) + (1 : Int)).toNat p.snd.fst), ()) ∧ orderP (p.fst, List.take
  (((IntKind.i64.wrap place).tmod (↑p.snd.fst.length : Int)).toNat - (0 : Nat)) (List.drop (0 : Nat) p.snd.fst) ++ List.take (p.snd.fst.length - ((IntKind.i64.wrap place).tmod
  (↑p.snd.fst.length : Int) + (1 : Int)).toNat) (List.drop ((IntKind.i64.wrap place).tmod (↑p.snd.fst.length : Int) + (1 : Int)).toNat p.snd.fst), ())) ∧ (decide (sureP p k ≤ sureP
  (p.fst, List.take (((IntKind.i64.wrap place).tmod (↑p.snd.fst.length : Int)).toNat - (0 : Nat)) (List.drop (0 : Nat) p.snd.fst) ++ List.take (p.snd.fst.length -
  ((IntKind.i64.wrap place).tmod (↑p.snd.fst.length : Int) + (1 : Int)).toNat) (List.drop ((IntKind.i64.wrap place).tmod (↑p.snd.fst.length : Int) + (1 : Int)).toNat p.snd.fst),
  ()) k) = true → (smallP (ofH (p.fst ++ []) k, sortR (List.take (((IntKind.i64.wrap place).tmod (↑p.snd.fst.length : Int)).toNat - (0 : Nat)) (List.drop (0 : Nat) p.snd.fst) ++
  List.take (p.snd.fst.length - ((IntKind.i64.wrap place).tmod (↑p.snd.fst.length : Int) + (1 : Int)).toNat) (List.drop ((IntKind.i64.wrap place).tmod (↑p.snd.fst.length : Int) +
  (1 : Int)).toNat p.snd.fst) ++ [(min (134217728 : Int) ((p.snd.fst.getD ((IntKind.i64.wrap place).tmod (↑p.snd.fst.length : Int)).toNat ((0 : Int), (0 : Int), ())).fst +
  IntKind.i64.wrap more), (p.snd.fst.getD ((IntKind.i64.wrap place).tmod (↑p.snd.fst.length : Int)).toNat ((0 : Int), (0 : Int), ())).snd.fst, ())]), ()) ∧ orderP (ofH (p.fst ++
  []) k, sortR (List.take (((IntKind.i64.wrap place).tmod (↑p.snd.fst.length : Int)).toNat - (0 : Nat)) (List.drop (0 : Nat) p.snd.fst) ++ List.take (p.snd.fst.length -
  ((IntKind.i64.wrap place).tmod (↑p.snd.fst.length : Int) + (1 : Int)).toNat) (List.drop ((IntKind.i64.wrap place).tmod (↑p.snd.fst.length : Int) + (1 : Int)).toNat p.snd.fst) ++
  [(min (134217728 : Int) ((p.snd.fst.getD ((IntKind.i64.wrap place).tmod (↑p.snd.fst.length : Int)).toNat ((0 : Int), (0 : Int), ())).fst + IntKind.i64.wrap more), (p.snd.fst.getD
  ((IntKind.i64.wrap place).tmod (↑p.snd.fst.length : Int)).toNat ((0 : Int), (0 : Int), ())).snd.fst, ())]), ())) ∧ (decide (sureP p k ≤ sureP (ofH (p.fst ++ []) k, sortR
  (List.take (((IntKind.i64.wrap place).tmod (↑p.snd.fst.length : Int)).toNat - (0 : Nat)) (List.drop (0 : Nat) p.snd.fst) ++ List.take (p.snd.fst.length - ((IntKind.i64.wrap
  place).tmod (↑p.snd.fst.length : Int) + (1 : Int)).toNat) (List.drop ((IntKind.i64.wrap place).tmod (↑p.snd.fst.length : Int) + (1 : Int)).toNat p.snd.fst) ++ [(min (134217728 :
  Int) ((p.snd.fst.getD ((IntKind.i64.wrap place).tmod (↑p.snd.fst.length : Int)).toNat ((0 : Int), (0 : Int), ())).fst + IntKind.i64.wrap more), (p.snd.fst.getD ((IntKind.i64.wrap
  place).tmod (↑p.snd.fst.length : Int)).toNat ((0 : Int), (0 : Int), ())).snd.fst, ())]), ()) k) = true → (1 : Int) ≤ k ∧ ((!exactP p k) = true → true = true) ∧ ((!exactP p k) =
  false → (1 : Int) ≤ k ∧ (exactP (p.fst, List.take (((IntKind.i64.wrap place).tmod (↑p.snd.fst.length : Int)).toNat - (0 : Nat)) (List.drop (0 : Nat) p.snd.fst) ++ List.take
  (p.snd.fst.length - ((IntKind.i64.wrap place).tmod (↑p.snd.fst.length : Int) + (1 : Int)).toNat) (List.drop ((IntKind.i64.wrap place).tmod (↑p.snd.fst.length : Int) + (1 :
  Int)).toNat p.snd.fst), ()) k = true → (1 : Int) ≤ k ∧ exactP (ofH (p.fst ++ []) k, sortR (List.take (((IntKind.i64.wrap place).tmod (↑p.snd.fst.length : Int)).toNat - (0 : Nat))
  (List.drop (0 : Nat) p.snd.fst) ++ List.take (p.snd.fst.length - ((IntKind.i64.wrap place).tmod (↑p.snd.fst.length : Int) + (1 : Int)).toNat) (List.drop ((IntKind.i64.wrap
  place).tmod (↑p.snd.fst.length : Int) + (1 : Int)).toNat p.snd.fst) ++ [(min (134217728 : Int) ((p.snd.fst.getD ((IntKind.i64.wrap place).tmod (↑p.snd.fst.length : Int)).toNat
  ((0 : Int), (0 : Int), ())).fst + IntKind.i64.wrap more), (p.snd.fst.getD ((IntKind.i64.wrap place).tmod (↑p.snd.fst.length : Int)).toNat ((0 : Int), (0 : Int), ())).snd.fst,
  ())]), ()) k = true) ∧ (exactP (p.fst, List.take (((IntKind.i64.wrap place).tmod (↑p.snd.fst.length : Int)).toNat - (0 : Nat)) (List.drop (0 : Nat) p.snd.fst) ++ List.take
  (p.snd.fst.length - ((IntKind.i64.wrap place).tmod (↑p.snd.fst.length : Int) + (1 : Int)).toNat) (List.drop ((IntKind.i64.wrap place).tmod (↑p.snd.fst.length : Int) + (1 :
  Int)).toNat p.snd.fst), ()) k = false → false = true))) ∧ (decide (sureP p k ≤ sureP (ofH (p.fst ++ []) k, sortR (List.take (((IntKind.i64.wrap place).tmod (↑p.snd.fst.length :
  Int)).toNat - (0 : Nat)) (List.drop (0 : Nat) p.snd.fst) ++ List.take (p.snd.fst.length - ((IntKind.i64.wrap place).tmod (↑p.snd.fst.length : Int) + (1 : Int)).toNat) (List.drop
  ((IntKind.i64.wrap place).tmod (↑p.snd.fst.length : Int) + (1 : Int)).toNat p.snd.fst) ++ [(min (134217728 : Int) ((p.snd.fst.getD ((IntKind.i64.wrap place).tmod
  (↑p.snd.fst.length : Int)).toNat ((0 : Int), (0 : Int), ())).fst + IntKind.i64.wrap more), (p.snd.fst.getD ((IntKind.i64.wrap place).tmod (↑p.snd.fst.length : Int)).toNat ((0 :
  Int), (0 : Int), ())).snd.fst, ())]), ()) k) = false → false = true)) ∧ (decide (sureP p k ≤ sureP (p.fst, List.take (((IntKind.i64.wrap place).tmod (↑p.snd.fst.length :
  Int)).toNat - (0 : Nat)) (List.drop (0 : Nat) p.snd.fst) ++ List.take (p.snd.fst.length - ((IntKind.i64.wrap place).tmod (↑p.snd.fst.length : Int) + (1 : Int)).toNat) (List.drop
  ((IntKind.i64.wrap place).tmod (↑p.snd.fst.length : Int) + (1 : Int)).toNat p.snd.fst), ()) k) = false → false = true)) ∧ (true = false → false = true)) ∧ roomP G1 (44 : Nat)
  ((List.take (((IntKind.i64.wrap place).tmod (↑p.snd.fst.length : Int)).toNat - (0 : Nat)) (List.drop (0 : Nat) p.snd.fst)).length + (List.take (p.snd.fst.length -
  ((IntKind.i64.wrap place).tmod (↑p.snd.fst.length : Int) + (1 : Int)).toNat) (List.drop ((IntKind.i64.wrap place).tmod (↑p.snd.fst.length : Int) + (1 : Int)).toNat
  p.snd.fst)).length) ∧ ((0 : Int) ≤ (IntKind.i64.wrap place).tmod (↑p.snd.fst.length : Int) ∧ (IntKind.i64.wrap place).tmod (↑p.snd.fst.length : Int) < (↑p.snd.fst.length : Int))
  ∧ isI64 ((p.snd.fst.getD ((IntKind.i64.wrap place).tmod (↑p.snd.fst.length : Int)).toNat ((0 : Int), (0 : Int), ())).fst + IntKind.i64.wrap more) ∧ ((0 : Int) ≤ (IntKind.i64.wrap
  place).tmod (↑p.snd.fst.length : Int) ∧ (IntKind.i64.wrap place).tmod (↑p.snd.fst.length : Int) < (↑p.snd.fst.length : Int)) ∧ ((p.fst.length + (0 : Nat) ≤ (1000 : Nat) ∧ (0 :
  Int) ≤ k) ∧ (List.take (((IntKind.i64.wrap place).tmod (↑p.snd.fst.length : Int)).toNat - (0 : Nat)) (List.drop (0 : Nat) p.snd.fst) ++ List.take (p.snd.fst.length -
  ((IntKind.i64.wrap place).tmod (↑p.snd.fst.length : Int) + (1 : Int)).toNat) (List.drop ((IntKind.i64.wrap place).tmod (↑p.snd.fst.length : Int) + (1 : Int)).toNat
  p.snd.fst)).length + [(min (134217728 : Int) ((p.snd.fst.getD ((IntKind.i64.wrap place).tmod (↑p.snd.fst.length : Int)).toNat ((0 : Int), (0 : Int), ())).fst + IntKind.i64.wrap
  more), (p.snd.fst.getD ((IntKind.i64.wrap place).tmod (↑p.snd.fst.length : Int)).toNat ((0 : Int), (0 : Int), ())).snd.fst, ())].length ≤ (1000 : Nat)) ∧ True ∧ (true = true →
  (smallP (p.fst, List.take (((IntKind.i64.wrap place).tmod (↑p.snd.fst.length : Int)).toNat - (0 : Nat)) (List.drop (0 : Nat) p.snd.fst) ++ List.take (p.snd.fst.length -
  ((IntKind.i64.wrap place).tmod (↑p.snd.fst.length : Int) + (1 : Int)).toNat) (List.drop ((IntKind.i64.wrap place).tmod (↑p.snd.fst.length : Int) + (1 : Int)).toNat p.snd.fst),
  ()) ∧ orderP (p.fst, List.take (((IntKind.i64.wrap place).tmod (↑p.snd.fst.length : Int)).toNat - (0 : Nat)) (List.drop (0 : Nat) p.snd.fst) ++ List.take (p.snd.fst.length -
  ((IntKind.i64.wrap place).tmod (↑p.snd.fst.length : Int) + (1 : Int)).toNat) (List.drop ((IntKind.i64.wrap place).tmod (↑p.snd.fst.length : Int) + (1 : Int)).toNat p.snd.fst),
  ())) ∧ (decide (sureP p k ≤ sureP (p.fst, List.take (((IntKind.i64.wrap place).tmod (↑p.snd.fst.length : Int)).toNat - (0 : Nat)) (List.drop (0 : Nat) p.snd.fst) ++ List.take
  (p.snd.fst.length - ((IntKind.i64.wrap place).tmod (↑p.snd.fst.length : Int) + (1 : Int)).toNat) (List.drop ((IntKind.i64.wrap place).tmod (↑p.snd.fst.length : Int) + (1 :
  Int)).toNat p.snd.fst), ()) k) = true → (smallP (ofH (p.fst ++ []) k, sortR (List.take (((IntKind.i64.wrap place).tmod (↑p.snd.fst.length : Int)).toNat - (0 : Nat)) (List.drop (0
  : Nat) p.snd.fst) ++ List.take (p.snd.fst.length - ((IntKind.i64.wrap place).tmod (↑p.snd.fst.length : Int) + (1 : Int)).toNat) (List.drop ((IntKind.i64.wrap place).tmod
  (↑p.snd.fst.length : Int) + (1 : Int)).toNat p.snd.fst) ++ [(min (134217728 : Int) ((p.snd.fst.getD ((IntKind.i64.wrap place).tmod (↑p.snd.fst.length : Int)).toNat ((0 : Int), (0
  : Int), ())).fst + IntKind.i64.wrap more), (p.snd.fst.getD ((IntKind.i64.wrap place).tmod (↑p.snd.fst.length : Int)).toNat ((0 : Int), (0 : Int), ())).snd.fst, ())]), ()) ∧
  orderP (ofH (p.fst ++ []) k, sortR (List.take (((IntKind.i64.wrap place).tmod (↑p.snd.fst.length : Int)).toNat - (0 : Nat)) (List.drop (0 : Nat) p.snd.fst) ++ List.take
  (p.snd.fst.length - ((IntKind.i64.wrap place).tmod (↑p.snd.fst.length : Int) + (1 : Int)).toNat) (List.drop ((IntKind.i64.wrap place).tmod (↑p.snd.fst.length : Int) + (1 :
  Int)).toNat p.snd.fst) ++ [(min (134217728 : Int) ((p.snd.fst.getD ((IntKind.i64.wrap place).tmod (↑p.snd.fst.length : Int)).toNat ((0 : Int), (0 : Int), ())).fst +
  IntKind.i64.wrap more), (p.snd.fst.getD ((IntKind.i64.wrap place).tmod (↑p.snd.fst.length : Int)).toNat ((0 : Int), (0 : Int), ())).snd.fst, ())]), ())) ∧ (decide (sureP p k ≤
  sureP (ofH (p.fst ++ []) k, sortR (List.take (((IntKind.i64.wrap place).tmod (↑p.snd.fst.length : Int)).toNat - (0 : Nat)) (List.drop (0 : Nat) p.snd.fst) ++ List.take
  (p.snd.fst.length - ((IntKind.i64.wrap place).tmod (↑p.snd.fst.length : Int) + (1 : Int)).toNat) (List.drop ((IntKind.i64.wrap place).tmod (↑p.snd.fst.length : Int) + (1 :
  Int)).toNat p.snd.fst) ++ [(min (134217728 : Int) ((p.snd.fst.getD ((IntKind.i64.wrap place).tmod (↑p.snd.fst.length : Int)).toNat ((0 : Int), (0 : Int), ())).fst +
  IntKind.i64.wrap more), (p.snd.fst.getD ((IntKind.i64.wrap place).tmod (↑p.snd.fst.length : Int)).toNat ((0 : Int), (0 : Int), ())).snd.fst, ())]), ()) k) = true → (1 : Int) ≤ k
  ∧ ((!exactP p k) = true → true = true) ∧ ((!exactP p k) = false → (1 : Int) ≤ k ∧ (exactP (p.fst, List.take (((IntKind.i64.wrap place).tmod (↑p.snd.fst.length : Int)).toNat - (0
  : Nat)) (List.drop (0 : Nat) p.snd.fst) ++ List.take (p.snd.fst.length - ((IntKind.i64.wrap place).tmod (↑p.snd.fst.length : Int) + (1 : Int)).toNat) (List.drop
  ((IntKind.i64.wrap place).tmod (↑p.snd.fst.length : Int) + (1 : Int)).toNat p.snd.fst), ()) k = true → (1 : Int) ≤ k ∧ exactP (ofH (p.fst ++ []) k, sortR (List.take
  (((IntKind.i64.wrap place).tmod (↑p.snd.fst.length : Int)).toNat - (0 : Nat)) (List.drop (0 : Nat) p.snd.fst) ++ List.take (p.snd.fst.length - ((IntKind.i64.wrap place).tmod
  (↑p.snd.fst.length : Int) + (1 : Int)).toNat) (List.drop ((IntKind.i64.wrap place).tmod (↑p.snd.fst.length : Int) + (1 : Int)).toNat p.snd.fst) ++ [(min (134217728 : Int)
  ((p.snd.fst.getD ((IntKind.i64.wrap place).tmod (↑p.snd.fst.length : Int)).toNat ((0 : Int), (0 : Int), ())).fst + IntKind.i64.wrap more), (p.snd.fst.getD ((IntKind.i64.wrap
  place).tmod (↑p.snd.fst.length : Int)).toNat ((0 : Int), (0 : Int), ())).snd.fst, ())]), ()) k = true) ∧ (exactP (p.fst, List.take (((IntKind.i64.wrap place).tmod
  (↑p.snd.fst.length : Int)).toNat - (0 : Nat)) (List.drop (0 : Nat) p.snd.fst) ++ List.take (p.snd.fst.length - ((IntKind.i64.wrap place).tmod (↑p.snd.fst.length : Int) + (1 :
  Int)).toNat) (List.drop ((IntKind.i64.wrap place).tmod (↑p.snd.fst.length : Int) + (1 : Int)).toNat p.snd.fst), ()) k = false → false = true))) ∧ (decide (sureP p k ≤ sureP (ofH
  (p.fst ++ []) k, sortR (List.take (((IntKind.i64.wrap place).tmod (↑p.snd.fst.length : Int)).toNat - (0 : Nat)) (List.drop (0 : Nat) p.snd.fst) ++ List.take (p.snd.fst.length -
  ((IntKind.i64.wrap place).tmod (↑p.snd.fst.length : Int) + (1 : Int)).toNat) (List.drop ((IntKind.i64.wrap place).tmod (↑p.snd.fst.length : Int) + (1 : Int)).toNat p.snd.fst) ++
  [(min (134217728 : Int) ((p.snd.fst.getD ((IntKind.i64.wrap place).tmod (↑p.snd.fst.length : Int)).toNat ((0 : Int), (0 : Int), ())).fst + IntKind.i64.wrap more), (p.snd.fst.getD
  ((IntKind.i64.wrap place).tmod (↑p.snd.fst.length : Int)).toNat ((0 : Int), (0 : Int), ())).snd.fst, ())]), ()) k) = false → false = true)) ∧ (decide (sureP p k ≤ sureP (p.fst,
  List.take (((IntKind.i64.wrap place).tmod (↑p.snd.fst.length : Int)).toNat - (0 : Nat)) (List.drop (0 : Nat) p.snd.fst) ++ List.take (p.snd.fst.length - ((IntKind.i64.wrap
  place).tmod (↑p.snd.fst.length : Int) + (1 : Int)).toNat) (List.drop ((IntKind.i64.wrap place).tmod (↑p.snd.fst.length : Int) + (1 : Int)).toNat p.snd.fst), ()) k) = false →
  false = true)) ∧ (true = false → false = true)) ∧ roomP G1 (44 : Nat) (List.take (((IntKind.i64.wrap place).tmod (↑p.snd.fst.length : Int)).toNat - (0 : Nat)) (List.drop (0 :
  Nat) p.snd.fst)).length ∧ roomP G1 (44 : Nat) ((List.take (((IntKind.i64.wrap place).tmod (↑p.snd.fst.length : Int)).toNat - (0 : Nat)) (List.drop (0 : Nat) p.snd.fst)).length +
  (List.take (p.snd.fst.length - ((IntKind.i64.wrap place).tmod (↑p.snd.fst.length : Int) + (1 : Int)).toNat) (List.drop ((IntKind.i64.wrap place).tmod (↑p.snd.fst.length : Int) +
  (1 : Int)).toNat p.snd.fst)).length) ∧ ((0 : Int) ≤ (IntKind.i64.wrap place).tmod (↑p.snd.fst.length : Int) ∧ (IntKind.i64.wrap place).tmod (↑p.snd.fst.length : Int) <
  (↑p.snd.fst.length : Int)) ∧ isI64 ((p.snd.fst.getD ((IntKind.i64.wrap place).tmod (↑p.snd.fst.length : Int)).toNat ((0 : Int), (0 : Int), ())).fst + IntKind.i64.wrap more) ∧ ((0
  : Int) ≤ (IntKind.i64.wrap place).tmod (↑p.snd.fst.length : Int) ∧ (IntKind.i64.wrap place).tmod (↑p.snd.fst.length : Int) < (↑p.snd.fst.length : Int)) ∧ ((p.fst.length + (0 :
  Nat) ≤ (1000 : Nat) ∧ (0 : Int) ≤ k) ∧ (List.take (((IntKind.i64.wrap place).tmod (↑p.snd.fst.length : Int)).toNat - (0 : Nat)) (List.drop (0 : Nat) p.snd.fst) ++ List.take
  (p.snd.fst.length - ((IntKind.i64.wrap place).tmod (↑p.snd.fst.length : Int) + (1 : Int)).toNat) (List.drop ((IntKind.i64.wrap place).tmod (↑p.snd.fst.length : Int) + (1 :
  Int)).toNat p.snd.fst)).length + [(min (134217728 : Int) ((p.snd.fst.getD ((IntKind.i64.wrap place).tmod (↑p.snd.fst.length : Int)).toNat ((0 : Int), (0 : Int), ())).fst +
  IntKind.i64.wrap more), (p.snd.fst.getD ((IntKind.i64.wrap place).tmod (↑p.snd.fst.length : Int)).toNat ((0 : Int), (0 : Int), ())).snd.fst, ())].length ≤ (1000 : Nat)) ∧ True ∧
  (true = true → (smallP (p.fst, List.take (((IntKind.i64.wrap place).tmod (↑p.snd.fst.length : Int)).toNat - (0 : Nat)) (List.drop (0 : Nat) p.snd.fst) ++ List.take
  (p.snd.fst.length - ((IntKind.i64.wrap place).tmod (↑p.snd.fst.length : Int) + (1 : Int)).toNat) (List.drop ((IntKind.i64.wrap place).tmod (↑p.snd.fst.length : Int) + (1 :
  Int)).toNat p.snd.fst), ()) ∧ orderP (p.fst, List.take (((IntKind.i64.wrap place).tmod (↑p.snd.fst.length : Int)).toNat - (0 : Nat)) (List.drop (0 : Nat) p.snd.fst) ++ List.take
  (p.snd.fst.length - ((IntKind.i64.wrap place).tmod (↑p.snd.fst.length : Int) + (1 : Int)).toNat) (List.drop ((IntKind.i64.wrap place).tmod (↑p.snd.fst.length : Int) + (1 :
  Int)).toNat p.snd.fst), ())) ∧ (decide (sureP p k ≤ sureP (p.fst, List.take (((IntKind.i64.wrap place).tmod (↑p.snd.fst.length : Int)).toNat - (0 : Nat)) (List.drop (0 : Nat)
  p.snd.fst) ++ List.take (p.snd.fst.length - ((IntKind.i64.wrap place).tmod (↑p.snd.fst.length : Int) + (1 : Int)).toNat) (List.drop ((IntKind.i64.wrap place).tmod
  (↑p.snd.fst.length : Int) + (1 : Int)).toNat p.snd.fst), ()) k) = true → (smallP (ofH (p.fst ++ []) k, sortR (List.take (((IntKind.i64.wrap place).tmod (↑p.snd.fst.length :
  Int)).toNat - (0 : Nat)) (List.drop (0 : Nat) p.snd.fst) ++ List.take (p.snd.fst.length - ((IntKind.i64.wrap place).tmod (↑p.snd.fst.length : Int) + (1 : Int)).toNat) (List.drop
  ((IntKind.i64.wrap place).tmod (↑p.snd.fst.length : Int) + (1 : Int)).toNat p.snd.fst) ++ [(min (134217728 : Int) ((p.snd.fst.getD ((IntKind.i64.wrap place).tmod
  (↑p.snd.fst.length : Int)).toNat ((0 : Int), (0 : Int), ())).fst + IntKind.i64.wrap more), (p.snd.fst.getD ((IntKind.i64.wrap place).tmod (↑p.snd.fst.length : Int)).toNat ((0 :
  Int), (0 : Int), ())).snd.fst, ())]), ()) ∧ orderP (ofH (p.fst ++ []) k, sortR (List.take (((IntKind.i64.wrap place).tmod (↑p.snd.fst.length : Int)).toNat - (0 : Nat)) (List.drop
  (0 : Nat) p.snd.fst) ++ List.take (p.snd.fst.length - ((IntKind.i64.wrap place).tmod (↑p.snd.fst.length : Int) + (1 : Int)).toNat) (List.drop ((IntKind.i64.wrap place).tmod
  (↑p.snd.fst.length : Int) + (1 : Int)).toNat p.snd.fst) ++ [(min (134217728 : Int) ((p.snd.fst.getD ((IntKind.i64.wrap place).tmod (↑p.snd.fst.length : Int)).toNat ((0 : Int), (0
  : Int), ())).fst + IntKind.i64.wrap more), (p.snd.fst.getD ((IntKind.i64.wrap place).tmod (↑p.snd.fst.length : Int)).toNat ((0 : Int), (0 : Int), ())).snd.fst, ())]), ())) ∧
  (decide (sureP p k ≤ sureP (ofH (p.fst ++ []) k, sortR (List.take (((IntKind.i64.wrap place).tmod (↑p.snd.fst.length : Int)).toNat - (0 : Nat)) (List.drop (0 : Nat) p.snd.fst) ++
  List.take (p.snd.fst.length - ((IntKind.i64.wrap place).tmod (↑p.snd.fst.length : Int) + (1 : Int)).toNat) (List.drop ((IntKind.i64.wrap place).tmod (↑p.snd.fst.length : Int) +
  (1 : Int)).toNat p.snd.fst) ++ [(min (134217728 : Int) ((p.snd.fst.getD ((IntKind.i64.wrap place).tmod (↑p.snd.fst.length : Int)).toNat ((0 : Int), (0 : Int), ())).fst +
  IntKind.i64.wrap more), (p.snd.fst.getD ((IntKind.i64.wrap place).tmod (↑p.snd.fst.length : Int)).toNat ((0 : Int), (0 : Int), ())).snd.fst, ())]), ()) k) = true → (1 : Int) ≤ k
  ∧ ((!exactP p k) = true → true = true) ∧ ((!exactP p k) = false → (1 : Int) ≤ k ∧ (exactP (p.fst, List.take (((IntKind.i64.wrap place).tmod (↑p.snd.fst.length : Int)).toNat - (0
  : Nat)) (List.drop (0 : Nat) p.snd.fst) ++ List.take (p.snd.fst.length - ((IntKind.i64.wrap place).tmod (↑p.snd.fst.length : Int) + (1 : Int)).toNat) (List.drop
  ((IntKind.i64.wrap place).tmod (↑p.snd.fst.length : Int) + (1 : Int)).toNat p.snd.fst), ()) k = true → (1 : Int) ≤ k ∧ exactP (ofH (p.fst ++ []) k, sortR (List.take
  (((IntKind.i64.wrap place).tmod (↑p.snd.fst.length : Int)).toNat - (0 : Nat)) (List.drop (0 : Nat) p.snd.fst) ++ List.take (p.snd.fst.length - ((IntKind.i64.wrap place).tmod
  (↑p.snd.fst.length : Int) + (1 : Int)).toNat) (List.drop ((IntKind.i64.wrap place).tmod (↑p.snd.fst.length : Int) + (1 : Int)).toNat p.snd.fst) ++ [(min (134217728 : Int)
  ((p.snd.fst.getD ((IntKind.i64.wrap place).tmod (↑p.snd.fst.length : Int)).toNat ((0 : Int), (0 : Int), ())).fst + IntKind.i64.wrap more), (p.snd.fst.getD ((IntKind.i64.wrap
  place).tmod (↑p.snd.fst.length : Int)).toNat ((0 : Int), (0 : Int), ())).snd.fst, ())]), ()) k = true) ∧ (exactP (p.fst, List.take (((IntKind.i64.wrap place).tmod
  (↑p.snd.fst.length : Int)).toNat - (0 : Nat)) (List.drop (0 : Nat) p.snd.fst) ++ List.take (p.snd.fst.length - ((IntKind.i64.wrap place).tmod (↑p.snd.fst.length : Int) + (1 :
  Int)).toNat) (List.drop ((IntKind.i64.wrap place).tmod (↑p.snd.fst.length : Int) + (1 : Int)).toNat p.snd.fst), ()) k = false → false = true))) ∧ (decide (sureP p k ≤ sureP (ofH
  (p.fst ++ []) k, sortR (List.take (((IntKind.i64.wrap place).tmod (↑p.snd.fst.length : Int)).toNat - (0 : Nat)) (List.drop (0 : Nat) p.snd.fst) ++ List.take (p.snd.fst.length -
  ((IntKind.i64.wrap place).tmod (↑p.snd.fst.length : Int) + (1 : Int)).toNat) (List.drop ((IntKind.i64.wrap place).tmod (↑p.snd.fst.length : Int) + (1 : Int)).toNat p.snd.fst) ++
  [(min (134217728 : Int) ((p.snd.fst.getD ((IntKind.i64.wrap place).tmod (↑p.snd.fst.length : Int)).toNat ((0 : Int), (0 : Int), ())).fst + IntKind.i64.wrap more), (p.snd.fst.getD
  ((IntKind.i64.wrap place).tmod (↑p.snd.fst.length : Int)).toNat ((0 : Int), (0 : Int), ())).snd.fst, ())]), ()) k) = false → false = true)) ∧ (decide (sureP p k ≤ sureP (p.fst,
  List.take (((IntKind.i64.wrap place).tmod (↑p.snd.fst.length : Int)).toNat - (0 : Nat)) (List.drop (0 : Nat) p.snd.fst) ++ List.take (p.snd.fst.length - ((IntKind.i64.wrap
  place).tmod (↑p.snd.fst.length : Int) + (1 : Int)).toNat) (List.drop ((IntKind.i64.wrap place).tmod (↑p.snd.fst.length : Int) + (1 : Int)).toNat p.snd.fst), ()) k) = false →
  false = true)) ∧ (true = false → false = true)) ∧ roomP G1 (44 : Nat) (List.take (((IntKind.i64.wrap place).tmod (↑p.snd.fst.length : Int)).toNat - (0 : Nat)) (List.drop (0 :
  Nat) p.snd.fst)).length ∧ roomP G1 (44 : Nat) ((List.take (((IntKind.i64.wrap place).tmod (↑p.snd.fst.length : Int)).toNat - (0 : Nat)) (List.drop (0 : Nat) p.snd.fst)).length +
  (List.take (p.snd.fst.length - ((IntKind.i64.wrap place).tmod (↑p.snd.fst.length : Int) + (1 : Int)).toNat) (List.drop ((IntKind.i64.wrap place).tmod (↑p.snd.fst.length : Int) +
  (1 : Int)).toNat p.snd.fst)).length) ∧ ((0 : Int) ≤ (IntKind.i64.wrap place).tmod (↑p.snd.fst.length : Int) ∧ (IntKind.i64.wrap place).tmod (↑p.snd.fst.length : Int) <
  (↑p.snd.fst.length : Int)) ∧ isI64 ((p.snd.fst.getD ((IntKind.i64.wrap place).tmod (↑p.snd.fst.length : Int)).toNat ((0 : Int), (0 : Int), ())).fst + IntKind.i64.wrap more) ∧ ((0
  : Int) ≤ (IntKind.i64.wrap place).tmod (↑p.snd.fst.length : Int) ∧ (IntKind.i64.wrap place).tmod (↑p.snd.fst.length : Int) < (↑p.snd.fst.length : Int)) ∧ ((p.fst.length + (0 :
  Nat) ≤ (1000 : Nat) ∧ (0 : Int) ≤ k) ∧ (List.take (((IntKind.i64.wrap place).tmod (↑p.snd.fst.length : Int)).toNat - (0 : Nat)) (List.drop (0 : Nat) p.snd.fst) ++ List.take
  (p.snd.fst.length - ((IntKind.i64.wrap place).tmod (↑p.snd.fst.length : Int) + (1 : Int)).toNat) (List.drop ((IntKind.i64.wrap place).tmod (↑p.snd.fst.length : Int) + (1 :
  Int)).toNat p.snd.fst)).length + [(min (134217728 : Int) ((p.snd.fst.getD ((IntKind.i64.wrap place).tmod (↑p.snd.fst.length : Int)).toNat ((0 : Int), (0 : Int), ())).fst +
  IntKind.i64.wrap more), (p.snd.fst.getD ((IntKind.i64.wrap place).tmod (↑p.snd.fst.length : Int)).toNat ((0 : Int), (0 : Int), ())).snd.fst, ())].length ≤ (1000 : Nat)) ∧ True ∧
  (true = true → (smallP (p.fst, List.take (((IntKind.i64.wrap place).tmod (↑p.snd.fst.length : Int)).toNat - (0 : Nat)) (List.drop (0 : Nat) p.snd.fst) ++ List.take
  (p.snd.fst.length - ((IntKind.i64.wrap place).tmod (↑p.snd.fst.length : Int) + (1 : Int)).toNat) (List.drop ((IntKind.i64.wrap place).tmod (↑p.snd.fst.length : Int) + (1 :
  Int)).toNat p.snd.fst), ()) ∧ orderP (p.fst, List.take (((IntKind.i64.wrap place).tmod (↑p.snd.fst.length : Int)).toNat - (0 : Nat)) (List.drop (0 : Nat) p.snd.fst) ++ List.take
  (p.snd.fst.length - ((IntKind.i64.wrap place).tmod (↑p.snd.fst.length : Int) + (1 : Int)).toNat) (List.drop ((IntKind.i64.wrap place).tmod (↑p.snd.fst.length : Int) + (1 :
  Int)).toNat p.snd.fst), ())) ∧ (decide (sureP p k ≤ sureP (p.fst, List.take (((IntKind.i64.wrap place).tmod (↑p.snd.fst.length : Int)).toNat - (0 : Nat)) (List.drop (0 : Nat)
  p.snd.fst) ++ List.take (p.snd.fst.length - ((IntKind.i64.wrap place).tmod (↑p.snd.fst.length : Int) + (1 : Int)).toNat) (List.drop ((IntKind.i64.wrap place).tmod
  (↑p.snd.fst.length : Int) + (1 : Int)).toNat p.snd.fst), ()) k) = true → (smallP (ofH (p.fst ++ []) k, sortR (List.take (((IntKind.i64.wrap place).tmod (↑p.snd.fst.length :
  Int)).toNat - (0 : Nat)) (List.drop (0 : Nat) p.snd.fst) ++ List.take (p.snd.fst.length - ((IntKind.i64.wrap place).tmod (↑p.snd.fst.length : Int) + (1 : Int)).toNat) (List.drop
  ((IntKind.i64.wrap place).tmod (↑p.snd.fst.length : Int) + (1 : Int)).toNat p.snd.fst) ++ [(min (134217728 : Int) ((p.snd.fst.getD ((IntKind.i64.wrap place).tmod
  (↑p.snd.fst.length : Int)).toNat ((0 : Int), (0 : Int), ())).fst + IntKind.i64.wrap more), (p.snd.fst.getD ((IntKind.i64.wrap place).tmod (↑p.snd.fst.length : Int)).toNat ((0 :
  Int), (0 : Int), ())).snd.fst, ())]), ()) ∧ orderP (ofH (p.fst ++ []) k, sortR (List.take (((IntKind.i64.wrap place).tmod (↑p.snd.fst.length : Int)).toNat - (0 : Nat)) (List.drop
  (0 : Nat) p.snd.fst) ++ List.take (p.snd.fst.length - ((IntKind.i64.wrap place).tmod (↑p.snd.fst.length : Int) + (1 : Int)).toNat) (List.drop ((IntKind.i64.wrap place).tmod
  (↑p.snd.fst.length : Int) + (1 : Int)).toNat p.snd.fst) ++ [(min (134217728 : Int) ((p.snd.fst.getD ((IntKind.i64.wrap place).tmod (↑p.snd.fst.length : Int)).toNat ((0 : Int), (0
  : Int), ())).fst + IntKind.i64.wrap more), (p.snd.fst.getD ((IntKind.i64.wrap place).tmod (↑p.snd.fst.length : Int)).toNat ((0 : Int), (0 : Int), ())).snd.fst, ())]), ())) ∧
  (decide (sureP p k ≤ sureP (ofH (p.fst ++ []) k, sortR (List.take (((IntKind.i64.wrap place).tmod (↑p.snd.fst.length : Int)).toNat - (0 : Nat)) (List.drop (0 : Nat) p.snd.fst) ++
  List.take (p.snd.fst.length - ((IntKind.i64.wrap place).tmod (↑p.snd.fst.length : Int) + (1 : Int)).toNat) (List.drop ((IntKind.i64.wrap place).tmod (↑p.snd.fst.length : Int) +
  (1 : Int)).toNat p.snd.fst) ++ [(min (134217728 : Int) ((p.snd.fst.getD ((IntKind.i64.wrap place).tmod (↑p.snd.fst.length : Int)).toNat ((0 : Int), (0 : Int), ())).fst +
  IntKind.i64.wrap more), (p.snd.fst.getD ((IntKind.i64.wrap place).tmod (↑p.snd.fst.length : Int)).toNat ((0 : Int), (0 : Int), ())).snd.fst, ())]), ()) k) = true → (1 : Int) ≤ k
  ∧ ((!exactP p k) = true → true = true) ∧ ((!exactP p k) = false → (1 : Int) ≤ k ∧ (exactP (p.fst, List.take (((IntKind.i64.wrap place).tmod (↑p.snd.fst.length : Int)).toNat - (0
  : Nat)) (List.drop (0 : Nat) p.snd.fst) ++ List.take (p.snd.fst.length - ((IntKind.i64.wrap place).tmod (↑p.snd.fst.length : Int) + (1 : Int)).toNat) (List.drop
  ((IntKind.i64.wrap place).tmod (↑p.snd.fst.length : Int) + (1 : Int)).toNat p.snd.fst), ()) k = true → (1 : Int) ≤ k ∧ exactP (ofH (p.fst ++ []) k, sortR (List.take
  (((IntKind.i64.wrap place).tmod (↑p.snd.fst.length : Int)).toNat - (0 : Nat)) (List.drop (0 : Nat) p.snd.fst) ++ List.take (p.snd.fst.length - ((IntKind.i64.wrap place).tmod
  (↑p.snd.fst.length : Int) + (1 : Int)).toNat) (List.drop ((IntKind.i64.wrap place).tmod (↑p.snd.fst.length : Int) + (1 : Int)).toNat p.snd.fst) ++ [(min (134217728 : Int)
  ((p.snd.fst.getD ((IntKind.i64.wrap place).tmod (↑p.snd.fst.length : Int)).toNat ((0 : Int), (0 : Int), ())).fst + IntKind.i64.wrap more), (p.snd.fst.getD ((IntKind.i64.wrap
  place).tmod (↑p.snd.fst.length : Int)).toNat ((0 : Int), (0 : Int), ())).snd.fst, ())]), ()) k = true) ∧ (exactP (p.fst, List.take (((IntKind.i64.wrap place).tmod
  (↑p.snd.fst.length : Int)).toNat - (0 : Nat)) (List.drop (0 : Nat) p.snd.fst) ++ List.take (p.snd.fst.length - ((IntKind.i64.wrap place).tmod (↑p.snd.fst.length : Int) + (1 :
  Int)).toNat) (List.drop ((IntKind.i64.wrap place).tmod (↑p.snd.fst.length : Int) + (1 : Int)).toNat p.snd.fst), ()) k = false → false = true))) ∧ (decide (sureP p k ≤ sureP (ofH
  (p.fst ++ []) k, sortR (List.take (((IntKind.i64.wrap place).tmod (↑p.snd.fst.length : Int)).toNat - (0 : Nat)) (List.drop (0 : Nat) p.snd.fst) ++ List.take (p.snd.fst.length -
  ((IntKind.i64.wrap place).tmod (↑p.snd.fst.length : Int) + (1 : Int)).toNat) (List.drop ((IntKind.i64.wrap place).tmod (↑p.snd.fst.length : Int) + (1 : Int)).toNat p.snd.fst) ++
  [(min (134217728 : Int) ((p.snd.fst.getD ((IntKind.i64.wrap place).tmod (↑p.snd.fst.length : Int)).toNat ((0 : Int), (0 : Int), ())).fst + IntKind.i64.wrap more), (p.snd.fst.getD
  ((IntKind.i64.wrap place).tmod (↑p.snd.fst.length : Int)).toNat ((0 : Int), (0 : Int), ())).snd.fst, ())]), ()) k) = false → false = true)) ∧ (decide (sureP p k ≤ sureP (p.fst,
  List.take (((IntKind.i64.wrap place).tmod (↑p.snd.fst.length : Int)).toNat - (0 : Nat)) (List.drop (0 : Nat) p.snd.fst) ++ List.take (p.snd.fst.length - ((IntKind.i64.wrap
  place).tmod (↑p.snd.fst.length : Int) + (1 : Int)).toNat) (List.drop ((IntKind.i64.wrap place).tmod (↑p.snd.fst.length : Int) + (1 : Int)).toNat p.snd.fst), ()) k) = false →
  false = true)) ∧ (true = false → false = true)))) ∧ (decide ((0 : Int) < (↑p.fst.length : Int)) = false → (decide ((↑p.snd.fst.length : Int) = (0 : Int)) = true → True ∧ (true =
  true → decide (sureP p k = (↑p.fst.length : Int)) = true) ∧ (true = false → false = true)) ∧ (decide ((↑p.snd.fst.length : Int) = (0 : Int)) = false → (↑p.snd.fst.length : Int) ≠
  (0 : Int) ∧ ((0 : Int) ≤ (0 : Int) ∧ (0 : Int) ≤ (IntKind.i64.wrap place).tmod (↑p.snd.fst.length : Int) ∧ (IntKind.i64.wrap place).tmod (↑p.snd.fst.length : Int) ≤
  (↑p.snd.fst.length : Int)) ∧ isI64 ((IntKind.i64.wrap place).tmod (↑p.snd.fst.length : Int) + (1 : Int)) ∧ ((0 : Int) ≤ (IntKind.i64.wrap place).tmod (↑p.snd.fst.length : Int) +
  (1 : Int) ∧ (IntKind.i64.wrap place).tmod (↑p.snd.fst.length : Int) + (1 : Int) ≤ (↑p.snd.fst.length : Int)) ∧ ((roomP G1 (44 : Nat) (List.take (((IntKind.i64.wrap place).tmod
  (↑p.snd.fst.length : Int)).toNat - (0 : Nat)) (List.drop (0 : Nat) p.snd.fst)).length ∧ (roomP G1 (44 : Nat) ((List.take (((IntKind.i64.wrap place).tmod (↑p.snd.fst.length :
  Int)).toNat - (0 : Nat)) (List.drop (0 : Nat) p.snd.fst)).length + (List.take (p.snd.fst.length - ((IntKind.i64.wrap place).tmod (↑p.snd.fst.length : Int) + (1 : Int)).toNat)
  (List.drop ((IntKind.i64.wrap place).tmod (↑p.snd.fst.length : Int) + (1 : Int)).toNat p.snd.fst)).length) ∧ (((0 : Int) ≤ (IntKind.i64.wrap place).tmod (↑p.snd.fst.length : Int)
  ∧ (IntKind.i64.wrap place).tmod (↑p.snd.fst.length : Int) < (↑p.snd.fst.length : Int)) ∧ isI64 ((p.snd.fst.getD ((IntKind.i64.wrap place).tmod (↑p.snd.fst.length : Int)).toNat
  ((0 : Int), (0 : Int), ())).fst + IntKind.i64.wrap more) ∧ ((0 : Int) ≤ (IntKind.i64.wrap place).tmod (↑p.snd.fst.length : Int) ∧ (IntKind.i64.wrap place).tmod (↑p.snd.fst.length
  : Int) < (↑p.snd.fst.length : Int)) ∧ ((p.fst.length + (0 : Nat) ≤ (1000 : Nat) ∧ (0 : Int) ≤ k) ∧ (List.take (((IntKind.i64.wrap place).tmod (↑p.snd.fst.length : Int)).toNat -
  (0 : Nat)) (List.drop (0 : Nat) p.snd.fst) ++ List.take (p.snd.fst.length - ((IntKind.i64.wrap place).tmod (↑p.snd.fst.length : Int) + (1 : Int)).toNat) (List.drop
  ((IntKind.i64.wrap place).tmod (↑p.snd.fst.length : Int) + (1 : Int)).toNat p.snd.fst)).length + [(min (134217728 : Int) ((p.snd.fst.getD ((IntKind.i64.wrap place).tmod
  (↑p.snd.fst.length : Int)).toNat ((0 : Int), (0 : Int), ())).fst + IntKind.i64.wrap more), (p.snd.fst.getD ((IntKind.i64.wrap place).tmod (↑p.snd.fst.length : Int)).toNat ((0 :
  Int), (0 : Int), ())).snd.fst, ())].length ≤ (1000 : Nat)) ∧ True ∧ (true = true → (smallP (p.fst, List.take (((IntKind.i64.wrap place).tmod (↑p.snd.fst.length : Int)).toNat - (0
  : Nat)) (List.drop (0 : Nat) p.snd.fst) ++ List.take (p.snd.fst.length - ((IntKind.i64.wrap place).tmod (↑p.snd.fst.length : Int) + (1 : Int)).toNat) (List.drop
  ((IntKind.i64.wrap place).tmod (↑p.snd.fst.length : Int) + (1 : Int)).toNat p.snd.fst), ()) ∧ orderP (p.fst, List.take (((IntKind.i64.wrap place).tmod (↑p.snd.fst.length :
  Int)).toNat - (0 : Nat)) (List.drop (0 : Nat) p.snd.fst) ++ List.take (p.snd.fst.length - ((IntKind.i64.wrap place).tmod (↑p.snd.fst.length : Int) + (1 : Int)).toNat) (List.drop
  ((IntKind.i64.wrap place).tmod (↑p.snd.fst.length : Int) + (1 : Int)).toNat p.snd.fst), ())) ∧ (decide (sureP p k ≤ sureP (p.fst, List.take (((IntKind.i64.wrap place).tmod
  (↑p.snd.fst.length : Int)).toNat - (0 : Nat)) (List.drop (0 : Nat) p.snd.fst) ++ List.take (p.snd.fst.length - ((IntKind.i64.wrap place).tmod (↑p.snd.fst.length : Int) + (1 :
  Int)).toNat) (List.drop ((IntKind.i64.wrap place).tmod (↑p.snd.fst.length : Int) + (1 : Int)).toNat p.snd.fst), ()) k) = true → (smallP (ofH (p.fst ++ []) k, sortR (List.take
  (((IntKind.i64.wrap place).tmod (↑p.snd.fst.length : Int)).toNat - (0 : Nat)) (List.drop (0 : Nat) p.snd.fst) ++ List.take (p.snd.fst.length - ((IntKind.i64.wrap place).tmod
  (↑p.snd.fst.length : Int) + (1 : Int)).toNat) (List.drop ((IntKind.i64.wrap place).tmod (↑p.snd.fst.length : Int) + (1 : Int)).toNat p.snd.fst) ++ [(min (134217728 : Int)
  ((p.snd.fst.getD ((IntKind.i64.wrap place).tmod (↑p.snd.fst.length : Int)).toNat ((0 : Int), (0 : Int), ())).fst + IntKind.i64.wrap more), (p.snd.fst.getD ((IntKind.i64.wrap
  place).tmod (↑p.snd.fst.length : Int)).toNat ((0 : Int), (0 : Int), ())).snd.fst, ())]), ()) ∧ orderP (ofH (p.fst ++ []) k, sortR (List.take (((IntKind.i64.wrap place).tmod
  (↑p.snd.fst.length : Int)).toNat - (0 : Nat)) (List.drop (0 : Nat) p.snd.fst) ++ List.take (p.snd.fst.length - ((IntKind.i64.wrap place).tmod (↑p.snd.fst.length : Int) + (1 :
  Int)).toNat) (List.drop ((IntKind.i64.wrap place).tmod (↑p.snd.fst.length : Int) + (1 : Int)).toNat p.snd.fst) ++ [(min (134217728 : Int) ((p.snd.fst.getD ((IntKind.i64.wrap
  place).tmod (↑p.snd.fst.length : Int)).toNat ((0 : Int), (0 : Int), ())).fst + IntKind.i64.wrap more), (p.snd.fst.getD ((IntKind.i64.wrap place).tmod (↑p.snd.fst.length :
  Int)).toNat ((0 : Int), (0 : Int), ())).snd.fst, ())]), ())) ∧ (decide (sureP p k ≤ sureP (ofH (p.fst ++ []) k, sortR (List.take (((IntKind.i64.wrap place).tmod
  (↑p.snd.fst.length : Int)).toNat - (0 : Nat)) (List.drop (0 : Nat) p.snd.fst) ++ List.take (p.snd.fst.length - ((IntKind.i64.wrap place).tmod (↑p.snd.fst.length : Int) + (1 :
  Int)).toNat) (List.drop ((IntKind.i64.wrap place).tmod (↑p.snd.fst.length : Int) + (1 : Int)).toNat p.snd.fst) ++ [(min (134217728 : Int) ((p.snd.fst.getD ((IntKind.i64.wrap
  place).tmod (↑p.snd.fst.length : Int)).toNat ((0 : Int), (0 : Int), ())).fst + IntKind.i64.wrap more), (p.snd.fst.getD ((IntKind.i64.wrap place).tmod (↑p.snd.fst.length :
  Int)).toNat ((0 : Int), (0 : Int), ())).snd.fst, ())]), ()) k) = true → (1 : Int) ≤ k ∧ ((!exactP p k) = true → true = true) ∧ ((!exactP p k) = false → (1 : Int) ≤ k ∧ (exactP
  (p.fst, List.take (((IntKind.i64.wrap place).tmod (↑p.snd.fst.length : Int)).toNat - (0 : Nat)) (List.drop (0 : Nat) p.snd.fst) ++ List.take (p.snd.fst.length -
  ((IntKind.i64.wrap place).tmod (↑p.snd.fst.length : Int) + (1 : Int)).toNat) (List.drop ((IntKind.i64.wrap place).tmod (↑p.snd.fst.length : Int) + (1 : Int)).toNat p.snd.fst),
  ()) k = true → (1 : Int) ≤ k ∧ exactP (ofH (p.fst ++ []) k, sortR (List.take (((IntKind.i64.wrap place).tmod (↑p.snd.fst.length : Int)).toNat - (0 : Nat)) (List.drop (0 : Nat)
  p.snd.fst) ++ List.take (p.snd.fst.length - ((IntKind.i64.wrap place).tmod (↑p.snd.fst.length : Int) + (1 : Int)).toNat) (List.drop ((IntKind.i64.wrap place).tmod
  (↑p.snd.fst.length : Int) + (1 : Int)).toNat p.snd.fst) ++ [(min (134217728 : Int) ((p.snd.fst.getD ((IntKind.i64.wrap place).tmod (↑p.snd.fst.length : Int)).toNat ((0 : Int), (0
  : Int), ())).fst + IntKind.i64.wrap more), (p.snd.fst.getD ((IntKind.i64.wrap place).tmod (↑p.snd.fst.length : Int)).toNat ((0 : Int), (0 : Int), ())).snd.fst, ())]), ()) k =
  true) ∧ (exactP (p.fst, List.take (((IntKind.i64.wrap place).tmod (↑p.snd.fst.length : Int)).toNat - (0 : Nat)) (List.drop (0 : Nat) p.snd.fst) ++ List.take (p.snd.fst.length -
  ((IntKind.i64.wrap place).tmod (↑p.snd.fst.length : Int) + (1 : Int)).toNat) (List.drop ((IntKind.i64.wrap place).tmod (↑p.snd.fst.length : Int) + (1 : Int)).toNat p.snd.fst),
  ()) k = false → false = true))) ∧ (decide (sureP p k ≤ sureP (ofH (p.fst ++ []) k, sortR (List.take (((IntKind.i64.wrap place).tmod (↑p.snd.fst.length : Int)).toNat - (0 : Nat))
  (List.drop (0 : Nat) p.snd.fst) ++ List.take (p.snd.fst.length - ((IntKind.i64.wrap place).tmod (↑p.snd.fst.length : Int) + (1 : Int)).toNat) (List.drop ((IntKind.i64.wrap
  place).tmod (↑p.snd.fst.length : Int) + (1 : Int)).toNat p.snd.fst) ++ [(min (134217728 : Int) ((p.snd.fst.getD ((IntKind.i64.wrap place).tmod (↑p.snd.fst.length : Int)).toNat
  ((0 : Int), (0 : Int), ())).fst + IntKind.i64.wrap more), (p.snd.fst.getD ((IntKind.i64.wrap place).tmod (↑p.snd.fst.length : Int)).toNat ((0 : Int), (0 : Int), ())).snd.fst,
  ())]), ()) k) = false → false = true)) ∧ (decide (sureP p k ≤ sureP (p.fst, List.take (((IntKind.i64.wrap place).tmod (↑p.snd.fst.length : Int)).toNat - (0 : Nat)) (List.drop (0
  : Nat) p.snd.fst) ++ List.take (p.snd.fst.length - ((IntKind.i64.wrap place).tmod (↑p.snd.fst.length : Int) + (1 : Int)).toNat) (List.drop ((IntKind.i64.wrap place).tmod
  (↑p.snd.fst.length : Int) + (1 : Int)).toNat p.snd.fst), ()) k) = false → false = true)) ∧ (true = false → false = true)) ∧ ((0 : Int) ≤ (IntKind.i64.wrap place).tmod
  (↑p.snd.fst.length : Int) ∧ (IntKind.i64.wrap place).tmod (↑p.snd.fst.length : Int) < (↑p.snd.fst.length : Int)) ∧ isI64 ((p.snd.fst.getD ((IntKind.i64.wrap place).tmod
  (↑p.snd.fst.length : Int)).toNat ((0 : Int), (0 : Int), ())).fst + IntKind.i64.wrap more) ∧ ((0 : Int) ≤ (IntKind.i64.wrap place).tmod (↑p.snd.fst.length : Int) ∧
  (IntKind.i64.wrap place).tmod (↑p.snd.fst.length : Int) < (↑p.snd.fst.length : Int)) ∧ ((p.fst.length + (0 : Nat) ≤ (1000 : Nat) ∧ (0 : Int) ≤ k) ∧ (List.take (((IntKind.i64.wrap
  place).tmod (↑p.snd.fst.length : Int)).toNat - (0 : Nat)) (List.drop (0 : Nat) p.snd.fst) ++ List.take (p.snd.fst.length - ((IntKind.i64.wrap place).tmod (↑p.snd.fst.length :
  Int) + (1 : Int)).toNat) (List.drop ((IntKind.i64.wrap place).tmod (↑p.snd.fst.length : Int) + (1 : Int)).toNat p.snd.fst)).length + [(min (134217728 : Int) ((p.snd.fst.getD
  ((IntKind.i64.wrap place).tmod (↑p.snd.fst.length : Int)).toNat ((0 : Int), (0 : Int), ())).fst + IntKind.i64.wrap more), (p.snd.fst.getD ((IntKind.i64.wrap place).tmod
  (↑p.snd.fst.length : Int)).toNat ((0 : Int), (0 : Int), ())).snd.fst, ())].length ≤ (1000 : Nat)) ∧ True ∧ (true = true → (smallP (p.fst, List.take (((IntKind.i64.wrap
  place).tmod (↑p.snd.fst.length : Int)).toNat - (0 : Nat)) (List.drop (0 : Nat) p.snd.fst) ++ List.take (p.snd.fst.length - ((IntKind.i64.wrap place).tmod (↑p.snd.fst.length :
  Int) + (1 : Int)).toNat) (List.drop ((IntKind.i64.wrap place).tmod (↑p.snd.fst.length : Int) + (1 : Int)).toNat p.snd.fst), ()) ∧ orderP (p.fst, List.take (((IntKind.i64.wrap
  place).tmod (↑p.snd.fst.length : Int)).toNat - (0 : Nat)) (List.drop (0 : Nat) p.snd.fst) ++ List.take (p.snd.fst.length - ((IntKind.i64.wrap place).tmod (↑p.snd.fst.length :
  Int) + (1 : Int)).toNat) (List.drop ((IntKind.i64.wrap place).tmod (↑p.snd.fst.length : Int) + (1 : Int)).toNat p.snd.fst), ())) ∧ (decide (sureP p k ≤ sureP (p.fst, List.take
  (((IntKind.i64.wrap place).tmod (↑p.snd.fst.length : Int)).toNat - (0 : Nat)) (List.drop (0 : Nat) p.snd.fst) ++ List.take (p.snd.fst.length - ((IntKind.i64.wrap place).tmod
  (↑p.snd.fst.length : Int) + (1 : Int)).toNat) (List.drop ((IntKind.i64.wrap place).tmod (↑p.snd.fst.length : Int) + (1 : Int)).toNat p.snd.fst), ()) k) = true → (smallP (ofH
  (p.fst ++ []) k, sortR (List.take (((IntKind.i64.wrap place).tmod (↑p.snd.fst.length : Int)).toNat - (0 : Nat)) (List.drop (0 : Nat) p.snd.fst) ++ List.take (p.snd.fst.length -
  ((IntKind.i64.wrap place).tmod (↑p.snd.fst.length : Int) + (1 : Int)).toNat) (List.drop ((IntKind.i64.wrap place).tmod (↑p.snd.fst.length : Int) + (1 : Int)).toNat p.snd.fst) ++
  [(min (134217728 : Int) ((p.snd.fst.getD ((IntKind.i64.wrap place).tmod (↑p.snd.fst.length : Int)).toNat ((0 : Int), (0 : Int), ())).fst + IntKind.i64.wrap more), (p.snd.fst.getD
  ((IntKind.i64.wrap place).tmod (↑p.snd.fst.length : Int)).toNat ((0 : Int), (0 : Int), ())).snd.fst, ())]), ()) ∧ orderP (ofH (p.fst ++ []) k, sortR (List.take
  (((IntKind.i64.wrap place).tmod (↑p.snd.fst.length : Int)).toNat - (0 : Nat)) (List.drop (0 : Nat) p.snd.fst) ++ List.take (p.snd.fst.length - ((IntKind.i64.wrap place).tmod
  (↑p.snd.fst.length : Int) + (1 : Int)).toNat) (List.drop ((IntKind.i64.wrap place).tmod (↑p.snd.fst.length : Int) + (1 : Int)).toNat p.snd.fst) ++ [(min (134217728 : Int)
  ((p.snd.fst.getD ((IntKind.i64.wrap place).tmod (↑p.snd.fst.length : Int)).toNat ((0 : Int), (0 : Int), ())).fst + IntKind.i64.wrap more), (p.snd.fst.getD ((IntKind.i64.wrap
  place).tmod (↑p.snd.fst.length : Int)).toNat ((0 : Int), (0 : Int), ())).snd.fst, ())]), ())) ∧ (decide (sureP p k ≤ sureP (ofH (p.fst ++ []) k, sortR (List.take
  (((IntKind.i64.wrap place).tmod (↑p.snd.fst.length : Int)).toNat - (0 : Nat)) (List.drop (0 : Nat) p.snd.fst) ++ List.take (p.snd.fst.length - ((IntKind.i64.wrap place).tmod
  (↑p.snd.fst.length : Int) + (1 : Int)).toNat) (List.drop ((IntKind.i64.wrap place).tmod (↑p.snd.fst.length : Int) + (1 : Int)).toNat p.snd.fst) ++ [(min (134217728 : Int)
  ((p.snd.fst.getD ((IntKind.i64.wrap place).tmod (↑p.snd.fst.length : Int)).toNat ((0 : Int), (0 : Int), ())).fst + IntKind.i64.wrap more), (p.snd.fst.getD ((IntKind.i64.wrap
  place).tmod (↑p.snd.fst.length : Int)).toNat ((0 : Int), (0 : Int), ())).snd.fst, ())]), ()) k) = true → (1 : Int) ≤ k ∧ ((!exactP p k) = true → true = true) ∧ ((!exactP p k) =
  false → (1 : Int) ≤ k ∧ (exactP (p.fst, List.take (((IntKind.i64.wrap place).tmod (↑p.snd.fst.length : Int)).toNat - (0 : Nat)) (List.drop (0 : Nat) p.snd.fst) ++ List.take
  (p.snd.fst.length - ((IntKind.i64.wrap place).tmod (↑p.snd.fst.length : Int) + (1 : Int)).toNat) (List.drop ((IntKind.i64.wrap place).tmod (↑p.snd.fst.length : Int) + (1 :
  Int)).toNat p.snd.fst), ()) k = true → (1 : Int) ≤ k ∧ exactP (ofH (p.fst ++ []) k, sortR (List.take (((IntKind.i64.wrap place).tmod (↑p.snd.fst.length : Int)).toNat - (0 : Nat))
  (List.drop (0 : Nat) p.snd.fst) ++ List.take (p.snd.fst.length - ((IntKind.i64.wrap place).tmod (↑p.snd.fst.length : Int) + (1 : Int)).toNat) (List.drop ((IntKind.i64.wrap
  place).tmod (↑p.snd.fst.length : Int) + (1 : Int)).toNat p.snd.fst) ++ [(min (134217728 : Int) ((p.snd.fst.getD ((IntKind.i64.wrap place).tmod (↑p.snd.fst.length : Int)).toNat
  ((0 : Int), (0 : Int), ())).fst + IntKind.i64.wrap more), (p.snd.fst.getD ((IntKind.i64.wrap place).tmod (↑p.snd.fst.length : Int)).toNat ((0 : Int), (0 : Int), ())).snd.fst,
  ())]), ()) k = true) ∧ (exactP (p.fst, List.take (((IntKind.i64.wrap place).tmod (↑p.snd.fst.length : Int)).toNat - (0 : Nat)) (List.drop (0 : Nat) p.snd.fst) ++ List.take
  (p.snd.fst.length - ((IntKind.i64.wrap place).tmod (↑p.snd.fst.length : Int) + (1 : Int)).toNat) (List.drop ((IntKind.i64.wrap place).tmod (↑p.snd.fst.length : Int) + (1 :
  Int)).toNat p.snd.fst), ()) k = false → false = true))) ∧ (decide (sureP p k ≤ sureP (ofH (p.fst ++ []) k, sortR (List.take (((IntKind.i64.wrap place).tmod (↑p.snd.fst.length :
  Int)).toNat - (0 : Nat)) (List.drop (0 : Nat) p.snd.fst) ++ List.take (p.snd.fst.length - ((IntKind.i64.wrap place).tmod (↑p.snd.fst.length : Int) + (1 : Int)).toNat) (List.drop
  ((IntKind.i64.wrap place).tmod (↑p.snd.fst.length : Int) + (1 : Int)).toNat p.snd.fst) ++ [(min (134217728 : Int) ((p.snd.fst.getD ((IntKind.i64.wrap place).tmod
  (↑p.snd.fst.length : Int)).toNat ((0 : Int), (0 : Int), ())).fst + IntKind.i64.wrap more), (p.snd.fst.getD ((IntKind.i64.wrap place).tmod (↑p.snd.fst.length : Int)).toNat ((0 :
  Int), (0 : Int), ())).snd.fst, ())]), ()) k) = false → false = true)) ∧ (decide (sureP p k ≤ sureP (p.fst, List.take (((IntKind.i64.wrap place).tmod (↑p.snd.fst.length :
  Int)).toNat - (0 : Nat)) (List.drop (0 : Nat) p.snd.fst) ++ List.take (p.snd.fst.length - ((IntKind.i64.wrap place).tmod (↑p.snd.fst.length : Int) + (1 : Int)).toNat) (List.drop
  ((IntKind.i64.wrap place).tmod (↑p.snd.fst.length : Int) + (1 : Int)).toNat p.snd.fst), ()) k) = false → false = true)) ∧ (true = false → false = true)) ∧ roomP G1 (44 : Nat)
  ((List.take (((IntKind.i64.wrap place).tmod (↑p.snd.fst.length : Int)).toNat - (0 : Nat)) (List.drop (0 : Nat) p.snd.fst)).length + (List.take (p.snd.fst.length -
  ((IntKind.i64.wrap place).tmod (↑p.snd.fst.length : Int) + (1 : Int)).toNat) (List.drop ((IntKind.i64.wrap place).tmod (↑p.snd.fst.length : Int) + (1 : Int)).toNat
  p.snd.fst)).length) ∧ ((0 : Int) ≤ (IntKind.i64.wrap place).tmod (↑p.snd.fst.length : Int) ∧ (IntKind.i64.wrap place).tmod (↑p.snd.fst.length : Int) < (↑p.snd.fst.length : Int))
  ∧ isI64 ((p.snd.fst.getD ((IntKind.i64.wrap place).tmod (↑p.snd.fst.length : Int)).toNat ((0 : Int), (0 : Int), ())).fst + IntKind.i64.wrap more) ∧ ((0 : Int) ≤ (IntKind.i64.wrap
  place).tmod (↑p.snd.fst.length : Int) ∧ (IntKind.i64.wrap place).tmod (↑p.snd.fst.length : Int) < (↑p.snd.fst.length : Int)) ∧ ((p.fst.length + (0 : Nat) ≤ (1000 : Nat) ∧ (0 :
  Int) ≤ k) ∧ (List.take (((IntKind.i64.wrap place).tmod (↑p.snd.fst.length : Int)).toNat - (0 : Nat)) (List.drop (0 : Nat) p.snd.fst) ++ List.take (p.snd.fst.length -
  ((IntKind.i64.wrap place).tmod (↑p.snd.fst.length : Int) + (1 : Int)).toNat) (List.drop ((IntKind.i64.wrap place).tmod (↑p.snd.fst.length : Int) + (1 : Int)).toNat
  p.snd.fst)).length + [(min (134217728 : Int) ((p.snd.fst.getD ((IntKind.i64.wrap place).tmod (↑p.snd.fst.length : Int)).toNat ((0 : Int), (0 : Int), ())).fst + IntKind.i64.wrap
  more), (p.snd.fst.getD ((IntKind.i64.wrap place).tmod (↑p.snd.fst.length : Int)).toNat ((0 : Int), (0 : Int), ())).snd.fst, ())].length ≤ (1000 : Nat)) ∧ True ∧ (true = true →
  (smallP (p.fst, List.take (((IntKind.i64.wrap place).tmod (↑p.snd.fst.length : Int)).toNat - (0 : Nat)) (List.drop (0 : Nat) p.snd.fst) ++ List.take (p.snd.fst.length -
  ((IntKind.i64.wrap place).tmod (↑p.snd.fst.length : Int) + (1 : Int)).toNat) (List.drop ((IntKind.i64.wrap place).tmod (↑p.snd.fst.length : Int) + (1 : Int)).toNat p.snd.fst),
  ()) ∧ orderP (p.fst, List.take (((IntKind.i64.wrap place).tmod (↑p.snd.fst.length : Int)).toNat - (0 : Nat)) (List.drop (0 : Nat) p.snd.fst) ++ List.take (p.snd.fst.length -
  ((IntKind.i64.wrap place).tmod (↑p.snd.fst.length : Int) + (1 : Int)).toNat) (List.drop ((IntKind.i64.wrap place).tmod (↑p.snd.fst.length : Int) + (1 : Int)).toNat p.snd.fst),
  ())) ∧ (decide (sureP p k ≤ sureP (p.fst, List.take (((IntKind.i64.wrap place).tmod (↑p.snd.fst.length : Int)).toNat - (0 : Nat)) (List.drop (0 : Nat) p.snd.fst) ++ List.take
  (p.snd.fst.length - ((IntKind.i64.wrap place).tmod (↑p.snd.fst.length : Int) + (1 : Int)).toNat) (List.drop ((IntKind.i64.wrap place).tmod (↑p.snd.fst.length : Int) + (1 :
  Int)).toNat p.snd.fst), ()) k) = true → (smallP (ofH (p.fst ++ []) k, sortR (List.take (((IntKind.i64.wrap place).tmod (↑p.snd.fst.length : Int)).toNat - (0 : Nat)) (List.drop (0
  : Nat) p.snd.fst) ++ List.take (p.snd.fst.length - ((IntKind.i64.wrap place).tmod (↑p.snd.fst.length : Int) + (1 : Int)).toNat) (List.drop ((IntKind.i64.wrap place).tmod
  (↑p.snd.fst.length : Int) + (1 : Int)).toNat p.snd.fst) ++ [(min (134217728 : Int) ((p.snd.fst.getD ((IntKind.i64.wrap place).tmod (↑p.snd.fst.length : Int)).toNat ((0 : Int), (0
  : Int), ())).fst + IntKind.i64.wrap more), (p.snd.fst.getD ((IntKind.i64.wrap place).tmod (↑p.snd.fst.length : Int)).toNat ((0 : Int), (0 : Int), ())).snd.fst, ())]), ()) ∧
  orderP (ofH (p.fst ++ []) k, sortR (List.take (((IntKind.i64.wrap place).tmod (↑p.snd.fst.length : Int)).toNat - (0 : Nat)) (List.drop (0 : Nat) p.snd.fst) ++ List.take
  (p.snd.fst.length - ((IntKind.i64.wrap place).tmod (↑p.snd.fst.length : Int) + (1 : Int)).toNat) (List.drop ((IntKind.i64.wrap place).tmod (↑p.snd.fst.length : Int) + (1 :
  Int)).toNat p.snd.fst) ++ [(min (134217728 : Int) ((p.snd.fst.getD ((IntKind.i64.wrap place).tmod (↑p.snd.fst.length : Int)).toNat ((0 : Int), (0 : Int), ())).fst +
  IntKind.i64.wrap more), (p.snd.fst.getD ((IntKind.i64.wrap place).tmod (↑p.snd.fst.length : Int)).toNat ((0 : Int), (0 : Int), ())).snd.fst, ())]), ())) ∧ (decide (sureP p k ≤
  sureP (ofH (p.fst ++ []) k, sortR (List.take (((IntKind.i64.wrap place).tmod (↑p.snd.fst.length : Int)).toNat - (0 : Nat)) (List.drop (0 : Nat) p.snd.fst) ++ List.take
  (p.snd.fst.length - ((IntKind.i64.wrap place).tmod (↑p.snd.fst.length : Int) + (1 : Int)).toNat) (List.drop ((IntKind.i64.wrap place).tmod (↑p.snd.fst.length : Int) + (1 :
  Int)).toNat p.snd.fst) ++ [(min (134217728 : Int) ((p.snd.fst.getD ((IntKind.i64.wrap place).tmod (↑p.snd.fst.length : Int)).toNat ((0 : Int), (0 : Int), ())).fst +
  IntKind.i64.wrap more), (p.snd.fst.getD ((IntKind.i64.wrap place).tmod (↑p.snd.fst.length : Int)).toNat ((0 : Int), (0 : Int), ())).snd.fst, ())]), ()) k) = true → (1 : Int) ≤ k
  ∧ ((!exactP p k) = true → true = true) ∧ ((!exactP p k) = false → (1 : Int) ≤ k ∧ (exactP (p.fst, List.take (((IntKind.i64.wrap place).tmod (↑p.snd.fst.length : Int)).toNat - (0
  : Nat)) (List.drop (0 : Nat) p.snd.fst) ++ List.take (p.snd.fst.length - ((IntKind.i64.wrap place).tmod (↑p.snd.fst.length : Int) + (1 : Int)).toNat) (List.drop
  ((IntKind.i64.wrap place).tmod (↑p.snd.fst.length : Int) + (1 : Int)).toNat p.snd.fst), ()) k = true → (1 : Int) ≤ k ∧ exactP (ofH (p.fst ++ []) k, sortR (List.take
  (((IntKind.i64.wrap place).tmod (↑p.snd.fst.length : Int)).toNat - (0 : Nat)) (List.drop (0 : Nat) p.snd.fst) ++ List.take (p.snd.fst.length - ((IntKind.i64.wrap place).tmod
  (↑p.snd.fst.length : Int) + (1 : Int)).toNat) (List.drop ((IntKind.i64.wrap place).tmod (↑p.snd.fst.length : Int) + (1 : Int)).toNat p.snd.fst) ++ [(min (134217728 : Int)
  ((p.snd.fst.getD ((IntKind.i64.wrap place).tmod (↑p.snd.fst.length : Int)).toNat ((0 : Int), (0 : Int), ())).fst + IntKind.i64.wrap more), (p.snd.fst.getD ((IntKind.i64.wrap
  place).tmod (↑p.snd.fst.length : Int)).toNat ((0 : Int), (0 : Int), ())).snd.fst, ())]), ()) k = true) ∧ (exactP (p.fst, List.take (((IntKind.i64.wrap place).tmod
  (↑p.snd.fst.length : Int)).toNat - (0 : Nat)) (List.drop (0 : Nat) p.snd.fst) ++ List.take (p.snd.fst.length - ((IntKind.i64.wrap place).tmod (↑p.snd.fst.length : Int) + (1 :
  Int)).toNat) (List.drop ((IntKind.i64.wrap place).tmod (↑p.snd.fst.length : Int) + (1 : Int)).toNat p.snd.fst), ()) k = false → false = true))) ∧ (decide (sureP p k ≤ sureP (ofH
  (p.fst ++ []) k, sortR (List.take (((IntKind.i64.wrap place).tmod (↑p.snd.fst.length : Int)).toNat - (0 : Nat)) (List.drop (0 : Nat) p.snd.fst) ++ List.take (p.snd.fst.length -
  ((IntKind.i64.wrap place).tmod (↑p.snd.fst.length : Int) + (1 : Int)).toNat) (List.drop ((IntKind.i64.wrap place).tmod (↑p.snd.fst.length : Int) + (1 : Int)).toNat p.snd.fst) ++
  [(min (134217728 : Int) ((p.snd.fst.getD ((IntKind.i64.wrap place).tmod (↑p.snd.fst.length : Int)).toNat ((0 : Int), (0 : Int), ())).fst + IntKind.i64.wrap more), (p.snd.fst.getD
  ((IntKind.i64.wrap place).tmod (↑p.snd.fst.length : Int)).toNat ((0 : Int), (0 : Int), ())).snd.fst, ())]), ()) k) = false → false = true)) ∧ (decide (sureP p k ≤ sureP (p.fst,
  List.take (((IntKind.i64.wrap place).tmod (↑p.snd.fst.length : Int)).toNat - (0 : Nat)) (List.drop (0 : Nat) p.snd.fst) ++ List.take (p.snd.fst.length - ((IntKind.i64.wrap
  place).tmod (↑p.snd.fst.length : Int) + (1 : Int)).toNat) (List.drop ((IntKind.i64.wrap place).tmod (↑p.snd.fst.length : Int) + (1 : Int)).toNat p.snd.fst), ()) k) = false →
  false = true)) ∧ (true = false → false = true)) ∧ roomP G1 (44 : Nat) (List.take (((IntKind.i64.wrap place).tmod (↑p.snd.fst.length : Int)).toNat - (0 : Nat)) (List.drop (0 :
  Nat) p.snd.fst)).length ∧ roomP G1 (44 : Nat) ((List.take (((IntKind.i64.wrap place).tmod (↑p.snd.fst.length : Int)).toNat - (0 : Nat)) (List.drop (0 : Nat) p.snd.fst)).length +
  (List.take (p.snd.fst.length - ((IntKind.i64.wrap place).tmod (↑p.snd.fst.length : Int) + (1 : Int)).toNat) (List.drop ((IntKind.i64.wrap place).tmod (↑p.snd.fst.length : Int) +
  (1 : Int)).toNat p.snd.fst)).length) ∧ ((0 : Int) ≤ (IntKind.i64.wrap place).tmod (↑p.snd.fst.length : Int) ∧ (IntKind.i64.wrap place).tmod (↑p.snd.fst.length : Int) <
  (↑p.snd.fst.length : Int)) ∧ isI64 ((p.snd.fst.getD ((IntKind.i64.wrap place).tmod (↑p.snd.fst.length : Int)).toNat ((0 : Int), (0 : Int), ())).fst + IntKind.i64.wrap more) ∧ ((0
  : Int) ≤ (IntKind.i64.wrap place).tmod (↑p.snd.fst.length : Int) ∧ (IntKind.i64.wrap place).tmod (↑p.snd.fst.length : Int) < (↑p.snd.fst.length : Int)) ∧ ((p.fst.length + (0 :
  Nat) ≤ (1000 : Nat) ∧ (0 : Int) ≤ k) ∧ (List.take (((IntKind.i64.wrap place).tmod (↑p.snd.fst.length : Int)).toNat - (0 : Nat)) (List.drop (0 : Nat) p.snd.fst) ++ List.take
  (p.snd.fst.length - ((IntKind.i64.wrap place).tmod (↑p.snd.fst.length : Int) + (1 : Int)).toNat) (List.drop ((IntKind.i64.wrap place).tmod (↑p.snd.fst.length : Int) + (1 :
  Int)).toNat p.snd.fst)).length + [(min (134217728 : Int) ((p.snd.fst.getD ((IntKind.i64.wrap place).tmod (↑p.snd.fst.length : Int)).toNat ((0 : Int), (0 : Int), ())).fst +
  IntKind.i64.wrap more), (p.snd.fst.getD ((IntKind.i64.wrap place).tmod (↑p.snd.fst.length : Int)).toNat ((0 : Int), (0 : Int), ())).snd.fst, ())].length ≤ (1000 : Nat)) ∧ True ∧
  (true = true → (smallP (p.fst, List.take (((IntKind.i64.wrap place).tmod (↑p.snd.fst.length : Int)).toNat - (0 : Nat)) (List.drop (0 : Nat) p.snd.fst) ++ List.take
  (p.snd.fst.length - ((IntKind.i64.wrap place).tmod (↑p.snd.fst.length : Int) + (1 : Int)).toNat) (List.drop ((IntKind.i64.wrap place).tmod (↑p.snd.fst.length : Int) + (1 :
  Int)).toNat p.snd.fst), ()) ∧ orderP (p.fst, List.take (((IntKind.i64.wrap place).tmod (↑p.snd.fst.length : Int)).toNat - (0 : Nat)) (List.drop (0 : Nat) p.snd.fst) ++ List.take
  (p.snd.fst.length - ((IntKind.i64.wrap place).tmod (↑p.snd.fst.length : Int) + (1 : Int)).toNat) (List.drop ((IntKind.i64.wrap place).tmod (↑p.snd.fst.length : Int) + (1 :
  Int)).toNat p.snd.fst), ())) ∧ (decide (sureP p k ≤ sureP (p.fst, List.take (((IntKind.i64.wrap place).tmod (↑p.snd.fst.length : Int)).toNat - (0 : Nat)) (List.drop (0 : Nat)
  p.snd.fst) ++ List.take (p.snd.fst.length - ((IntKind.i64.wrap place).tmod (↑p.snd.fst.length : Int) + (1 : Int)).toNat) (List.drop ((IntKind.i64.wrap place).tmod
  (↑p.snd.fst.length : Int) + (1 : Int)).toNat p.snd.fst), ()) k) = true → (smallP (ofH (p.fst ++ []) k, sortR (List.take (((IntKind.i64.wrap place).tmod (↑p.snd.fst.length :
  Int)).toNat - (0 : Nat)) (List.drop (0 : Nat) p.snd.fst) ++ List.take (p.snd.fst.length - ((IntKind.i64.wrap place).tmod (↑p.snd.fst.length : Int) + (1 : Int)).toNat) (List.drop
  ((IntKind.i64.wrap place).tmod (↑p.snd.fst.length : Int) + (1 : Int)).toNat p.snd.fst) ++ [(min (134217728 : Int) ((p.snd.fst.getD ((IntKind.i64.wrap place).tmod
  (↑p.snd.fst.length : Int)).toNat ((0 : Int), (0 : Int), ())).fst + IntKind.i64.wrap more), (p.snd.fst.getD ((IntKind.i64.wrap place).tmod (↑p.snd.fst.length : Int)).toNat ((0 :
  Int), (0 : Int), ())).snd.fst, ())]), ()) ∧ orderP (ofH (p.fst ++ []) k, sortR (List.take (((IntKind.i64.wrap place).tmod (↑p.snd.fst.length : Int)).toNat - (0 : Nat)) (List.drop
  (0 : Nat) p.snd.fst) ++ List.take (p.snd.fst.length - ((IntKind.i64.wrap place).tmod (↑p.snd.fst.length : Int) + (1 : Int)).toNat) (List.drop ((IntKind.i64.wrap place).tmod
  (↑p.snd.fst.length : Int) + (1 : Int)).toNat p.snd.fst) ++ [(min (134217728 : Int) ((p.snd.fst.getD ((IntKind.i64.wrap place).tmod (↑p.snd.fst.length : Int)).toNat ((0 : Int), (0
  : Int), ())).fst + IntKind.i64.wrap more), (p.snd.fst.getD ((IntKind.i64.wrap place).tmod (↑p.snd.fst.length : Int)).toNat ((0 : Int), (0 : Int), ())).snd.fst, ())]), ())) ∧
  (decide (sureP p k ≤ sureP (ofH (p.fst ++ []) k, sortR (List.take (((IntKind.i64.wrap place).tmod (↑p.snd.fst.length : Int)).toNat - (0 : Nat)) (List.drop (0 : Nat) p.snd.fst) ++
  List.take (p.snd.fst.length - ((IntKind.i64.wrap place).tmod (↑p.snd.fst.length : Int) + (1 : Int)).toNat) (List.drop ((IntKind.i64.wrap place).tmod (↑p.snd.fst.length : Int) +
  (1 : Int)).toNat p.snd.fst) ++ [(min (134217728 : Int) ((p.snd.fst.getD ((IntKind.i64.wrap place).tmod (↑p.snd.fst.length : Int)).toNat ((0 : Int), (0 : Int), ())).fst +
  IntKind.i64.wrap more), (p.snd.fst.getD ((IntKind.i64.wrap place).tmod (↑p.snd.fst.length : Int)).toNat ((0 : Int), (0 : Int), ())).snd.fst, ())]), ()) k) = true → (1 : Int) ≤ k
  ∧ ((!exactP p k) = true → true = true) ∧ ((!exactP p k) = false → (1 : Int) ≤ k ∧ (exactP (p.fst, List.take (((IntKind.i64.wrap place).tmod (↑p.snd.fst.length : Int)).toNat - (0
  : Nat)) (List.drop (0 : Nat) p.snd.fst) ++ List.take (p.snd.fst.length - ((IntKind.i64.wrap place).tmod (↑p.snd.fst.length : Int) + (1 : Int)).toNat) (List.drop
  ((IntKind.i64.wrap place).tmod (↑p.snd.fst.length : Int) + (1 : Int)).toNat p.snd.fst), ()) k = true → (1 : Int) ≤ k ∧ exactP (ofH (p.fst ++ []) k, sortR (List.take
  (((IntKind.i64.wrap place).tmod (↑p.snd.fst.length : Int)).toNat - (0 : Nat)) (List.drop (0 : Nat) p.snd.fst) ++ List.take (p.snd.fst.length - ((IntKind.i64.wrap place).tmod
  (↑p.snd.fst.length : Int) + (1 : Int)).toNat) (List.drop ((IntKind.i64.wrap place).tmod (↑p.snd.fst.length : Int) + (1 : Int)).toNat p.snd.fst) ++ [(min (134217728 : Int)
  ((p.snd.fst.getD ((IntKind.i64.wrap place).tmod (↑p.snd.fst.length : Int)).toNat ((0 : Int), (0 : Int), ())).fst + IntKind.i64.wrap more), (p.snd.fst.getD ((IntKind.i64.wrap
  place).tmod (↑p.snd.fst.length : Int)).toNat ((0 : Int), (0 : Int), ())).snd.fst, ())]), ()) k = true) ∧ (exactP (p.fst, List.take (((IntKind.i64.wrap place).tmod
  (↑p.snd.fst.length : Int)).toNat - (0 : Nat)) (List.drop (0 : Nat) p.snd.fst) ++ List.take (p.snd.fst.length - ((IntKind.i64.wrap place).tmod (↑p.snd.fst.length : Int) + (1 :
  Int)).toNat) (List.drop ((IntKind.i64.wrap place).tmod (↑p.snd.fst.length : Int) + (1 : Int)).toNat p.snd.fst), ()) k = false → false = true))) ∧ (decide (sureP p k ≤ sureP (ofH
  (p.fst ++ []) k, sortR (List.take (((IntKind.i64.wrap place).tmod (↑p.snd.fst.length : Int)).toNat - (0 : Nat)) (List.drop (0 : Nat) p.snd.fst) ++ List.take (p.snd.fst.length -
  ((IntKind.i64.wrap place).tmod (↑p.snd.fst.length : Int) + (1 : Int)).toNat) (List.drop ((IntKind.i64.wrap place).tmod (↑p.snd.fst.length : Int) + (1 : Int)).toNat p.snd.fst) ++
  [(min (134217728 : Int) ((p.snd.fst.getD ((IntKind.i64.wrap place).tmod (↑p.snd.fst.length : Int)).toNat ((0 : Int), (0 : Int), ())).fst + IntKind.i64.wrap more), (p.snd.fst.getD
  ((IntKind.i64.wrap place).tmod (↑p.snd.fst.length : Int)).toNat ((0 : Int), (0 : Int), ())).snd.fst, ())]), ()) k) = false → false = true)) ∧ (decide (sureP p k ≤ sureP (p.fst,
  List.take (((IntKind.i64.wrap place).tmod (↑p.snd.fst.length : Int)).toNat - (0 : Nat)) (List.drop (0 : Nat) p.snd.fst) ++ List.take (p.snd.fst.length - ((IntKind.i64.wrap
  place).tmod (↑p.snd.fst.length : Int) + (1 : Int)).toNat) (List.drop ((IntKind.i64.wrap place).tmod (↑p.snd.fst.length : Int) + (1 : Int)).toNat p.snd.fst), ()) k) = false →
  false = true)) ∧ (true = false → false = true)) ∧ roomP G1 (44 : Nat) (List.take (((IntKind.i64.wrap place).tmod (↑p.snd.fst.length : Int)).toNat - (0 : Nat)) (List.drop (0 :
  Nat) p.snd.fst)).length ∧ roomP G1 (44 : Nat) ((List.take (((IntKind.i64.wrap place).tmod (↑p.snd.fst.length : Int)).toNat - (0 : Nat)) (List.drop (0 : Nat) p.snd.fst)).length +
  (List.take (p.snd.fst.length - ((IntKind.i64.wrap place).tmod (↑p.snd.fst.length : Int) + (1 : Int)).toNat) (List.drop ((IntKind.i64.wrap place).tmod (↑p.snd.fst.length : Int) +
  (1 : Int)).toNat p.snd.fst)).length) ∧ ((0 : Int) ≤ (IntKind.i64.wrap place).tmod (↑p.snd.fst.length : Int) ∧ (IntKind.i64.wrap place).tmod (↑p.snd.fst.length : Int) <
  (↑p.snd.fst.length : Int)) ∧ isI64 ((p.snd.fst.getD ((IntKind.i64.wrap place).tmod (↑p.snd.fst.length : Int)).toNat ((0 : Int), (0 : Int), ())).fst + IntKind.i64.wrap more) ∧ ((0
  : Int) ≤ (IntKind.i64.wrap place).tmod (↑p.snd.fst.length : Int) ∧ (IntKind.i64.wrap place).tmod (↑p.snd.fst.length : Int) < (↑p.snd.fst.length : Int)) ∧ ((p.fst.length + (0 :
  Nat) ≤ (1000 : Nat) ∧ (0 : Int) ≤ k) ∧ (List.take (((IntKind.i64.wrap place).tmod (↑p.snd.fst.length : Int)).toNat - (0 : Nat)) (List.drop (0 : Nat) p.snd.fst) ++ List.take
  (p.snd.fst.length - ((IntKind.i64.wrap place).tmod (↑p.snd.fst.length : Int) + (1 : Int)).toNat) (List.drop ((IntKind.i64.wrap place).tmod (↑p.snd.fst.length : Int) + (1 :
  Int)).toNat p.snd.fst)).length + [(min (134217728 : Int) ((p.snd.fst.getD ((IntKind.i64.wrap place).tmod (↑p.snd.fst.length : Int)).toNat ((0 : Int), (0 : Int), ())).fst +
  IntKind.i64.wrap more), (p.snd.fst.getD ((IntKind.i64.wrap place).tmod (↑p.snd.fst.length : Int)).toNat ((0 : Int), (0 : Int), ())).snd.fst, ())].length ≤ (1000 : Nat)) ∧ True ∧
  (true = true → (smallP (p.fst, List.take (((IntKind.i64.wrap place).tmod (↑p.snd.fst.length : Int)).toNat - (0 : Nat)) (List.drop (0 : Nat) p.snd.fst) ++ List.take
  (p.snd.fst.length - ((IntKind.i64.wrap place).tmod (↑p.snd.fst.length : Int) + (1 : Int)).toNat) (List.drop ((IntKind.i64.wrap place).tmod (↑p.snd.fst.length : Int) + (1 :
  Int)).toNat p.snd.fst), ()) ∧ orderP (p.fst, List.take (((IntKind.i64.wrap place).tmod (↑p.snd.fst.length : Int)).toNat - (0 : Nat)) (List.drop (0 : Nat) p.snd.fst) ++ List.take
  (p.snd.fst.length - ((IntKind.i64.wrap place).tmod (↑p.snd.fst.length : Int) + (1 : Int)).toNat) (List.drop ((IntKind.i64.wrap place).tmod (↑p.snd.fst.length : Int) + (1 :
  Int)).toNat p.snd.fst), ())) ∧ (decide (sureP p k ≤ sureP (p.fst, List.take (((IntKind.i64.wrap place).tmod (↑p.snd.fst.length : Int)).toNat - (0 : Nat)) (List.drop (0 : Nat)
  p.snd.fst) ++ List.take (p.snd.fst.length - ((IntKind.i64.wrap place).tmod (↑p.snd.fst.length : Int) + (1 : Int)).toNat) (List.drop ((IntKind.i64.wrap place).tmod
  (↑p.snd.fst.length : Int) + (1 : Int)).toNat p.snd.fst), ()) k) = true → (smallP (ofH (p.fst ++ []) k, sortR (List.take (((IntKind.i64.wrap place).tmod (↑p.snd.fst.length :
  Int)).toNat - (0 : Nat)) (List.drop (0 : Nat) p.snd.fst) ++ List.take (p.snd.fst.length - ((IntKind.i64.wrap place).tmod (↑p.snd.fst.length : Int) + (1 : Int)).toNat) (List.drop
  ((IntKind.i64.wrap place).tmod (↑p.snd.fst.length : Int) + (1 : Int)).toNat p.snd.fst) ++ [(min (134217728 : Int) ((p.snd.fst.getD ((IntKind.i64.wrap place).tmod
  (↑p.snd.fst.length : Int)).toNat ((0 : Int), (0 : Int), ())).fst + IntKind.i64.wrap more), (p.snd.fst.getD ((IntKind.i64.wrap place).tmod (↑p.snd.fst.length : Int)).toNat ((0 :
  Int), (0 : Int), ())).snd.fst, ())]), ()) ∧ orderP (ofH (p.fst ++ []) k, sortR (List.take (((IntKind.i64.wrap place).tmod (↑p.snd.fst.length : Int)).toNat - (0 : Nat)) (List.drop
  (0 : Nat) p.snd.fst) ++ List.take (p.snd.fst.length - ((IntKind.i64.wrap place).tmod (↑p.snd.fst.length : Int) + (1 : Int)).toNat) (List.drop ((IntKind.i64.wrap place).tmod
  (↑p.snd.fst.length : Int) + (1 : Int)).toNat p.snd.fst) ++ [(min (134217728 : Int) ((p.snd.fst.getD ((IntKind.i64.wrap place).tmod (↑p.snd.fst.length : Int)).toNat ((0 : Int), (0
  : Int), ())).fst + IntKind.i64.wrap more), (p.snd.fst.getD ((IntKind.i64.wrap place).tmod (↑p.snd.fst.length : Int)).toNat ((0 : Int), (0 : Int), ())).snd.fst, ())]), ())) ∧
  (decide (sureP p k ≤ sureP (ofH (p.fst ++ []) k, sortR (List.take (((IntKind.i64.wrap place).tmod (↑p.snd.fst.length : Int)).toNat - (0 : Nat)) (List.drop (0 : Nat) p.snd.fst) ++
  List.take (p.snd.fst.length - ((IntKind.i64.wrap place).tmod (↑p.snd.fst.length : Int) + (1 : Int)).toNat) (List.drop ((IntKind.i64.wrap place).tmod (↑p.snd.fst.length : Int) +
  (1 : Int)).toNat p.snd.fst) ++ [(min (134217728 : Int) ((p.snd.fst.getD ((IntKind.i64.wrap place).tmod (↑p.snd.fst.length : Int)).toNat ((0 : Int), (0 : Int), ())).fst +
  IntKind.i64.wrap more), (p.snd.fst.getD ((IntKind.i64.wrap place).tmod (↑p.snd.fst.length : Int)).toNat ((0 : Int), (0 : Int), ())).snd.fst, ())]), ()) k) = true → (1 : Int) ≤ k
  ∧ ((!exactP p k) = true → true = true) ∧ ((!exactP p k) = false → (1 : Int) ≤ k ∧ (exactP (p.fst, List.take (((IntKind.i64.wrap place).tmod (↑p.snd.fst.length : Int)).toNat - (0
  : Nat)) (List.drop (0 : Nat) p.snd.fst) ++ List.take (p.snd.fst.length - ((IntKind.i64.wrap place).tmod (↑p.snd.fst.length : Int) + (1 : Int)).toNat) (List.drop
  ((IntKind.i64.wrap place).tmod (↑p.snd.fst.length : Int) + (1 : Int)).toNat p.snd.fst), ()) k = true → (1 : Int) ≤ k ∧ exactP (ofH (p.fst ++ []) k, sortR (List.take
  (((IntKind.i64.wrap place).tmod (↑p.snd.fst.length : Int)).toNat - (0 : Nat)) (List.drop (0 : Nat) p.snd.fst) ++ List.take (p.snd.fst.length - ((IntKind.i64.wrap place).tmod
  (↑p.snd.fst.length : Int) + (1 : Int)).toNat) (List.drop ((IntKind.i64.wrap place).tmod (↑p.snd.fst.length : Int) + (1 : Int)).toNat p.snd.fst) ++ [(min (134217728 : Int)
  ((p.snd.fst.getD ((IntKind.i64.wrap place).tmod (↑p.snd.fst.length : Int)).toNat ((0 : Int), (0 : Int), ())).fst + IntKind.i64.wrap more), (p.snd.fst.getD ((IntKind.i64.wrap
  place).tmod (↑p.snd.fst.length : Int)).toNat ((0 : Int), (0 : Int), ())).snd.fst, ())]), ()) k = true) ∧ (exactP (p.fst, List.take (((IntKind.i64.wrap place).tmod
  (↑p.snd.fst.length : Int)).toNat - (0 : Nat)) (List.drop (0 : Nat) p.snd.fst) ++ List.take (p.snd.fst.length - ((IntKind.i64.wrap place).tmod (↑p.snd.fst.length : Int) + (1 :
  Int)).toNat) (List.drop ((IntKind.i64.wrap place).tmod (↑p.snd.fst.length : Int) + (1 : Int)).toNat p.snd.fst), ()) k = false → false = true))) ∧ (decide (sureP p k ≤ sureP (ofH
  (p.fst ++ []) k, sortR (List.take (((IntKind.i64.wrap place).tmod (↑p.snd.fst.length : Int)).toNat - (0 : Nat)) (List.drop (0 : Nat) p.snd.fst) ++ List.take (p.snd.fst.length -
  ((IntKind.i64.wrap place).tmod (↑p.snd.fst.length : Int) + (1 : Int)).toNat) (List.drop ((IntKind.i64.wrap place).tmod (↑p.snd.fst.length : Int) + (1 : Int)).toNat p.snd.fst) ++
  [(min (134217728 : Int) ((p.snd.fst.getD ((IntKind.i64.wrap place).tmod (↑p.snd.fst.length : Int)).toNat ((0 : Int), (0 : Int), ())).fst + IntKind.i64.wrap more), (p.snd.fst.getD
  ((IntKind.i64.wrap place).tmod (↑p.snd.fst.length : Int)).toNat ((0 : Int), (0 : Int), ())).snd.fst, ())]), ()) k) = false → false = true)) ∧ (decide (sureP p k ≤ sureP (p.fst,
  List.take (((IntKind.i64.wrap place).tmod (↑p.snd.fst.length : Int)).toNat - (0 : Nat)) (List.drop (0 : Nat) p.snd.fst) ++ List.take (p.snd.fst.length - ((IntKind.i64.wrap
  place).tmod (↑p.snd.fst.length : Int) + (1 : Int)).toNat) (List.drop ((IntKind.i64.wrap place).tmod (↑p.snd.fst.length : Int) + (1 : Int)).toNat p.snd.fst), ()) k) = false →
  false = true)) ∧ (true = false → false = true)))))))) := by kernel_rfl
end Go.Proofs.Ytmimchmdikjilaa
