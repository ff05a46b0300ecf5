import Derived.Test.YtdhfjgooamoodaaGc
namespace Go.Proofs.Ytdhfjgooamoodaa
open Go.AM Go.PL
set_option linter.unusedVariables false
def tG1 : List (FuncId × FSpec) := (48, minSp) :: (75, maxSp) :: (49, idxSp) :: (74, mulSp) :: (42, fitSp) :: (30, fitSp) ::
  (55, withSp) :: (56, allShSp) :: (65, ofShSp) :: (29, metricSp) :: (39, validShSp) :: (19, sameLSp) ::
  (38, sameShSp) :: (9, fewSp9) :: (69, gap2Sp) :: (70, reach2Sp) :: (50, near1Sp) :: tG0
theorem satG1 : AllSat bs.P tG1 := ⟨sat_min, sat_max, sat_idx, sat_mul, sat_fit, sat_rFit, sat_with, sat_allSh, sat_ofSh, sat_rMet, sat_rValidSh, sat_sameL, sat_sameSh, sat_few9, sat_gap2, sat_reach2, sat_near1, satG0⟩
noncomputable def G1 : Ctx := mkctx bs tG1 [] hintG
theorem ssG1 : SpecSound G1 := mkctx_sound satG1 trivial
noncomputable def GR : Ctx := mkctx bs tG1 [] hintRp
theorem ssGR : SpecSound GR := mkctx_sound satG1 trivial
theorem rep_nf (l : List Int) (n : Int) : fnwpG GR 6 43 repG (l, n) = ((decide (n < (0 : Int)) = true → False) ∧ (decide (n < (0 : Int)) = false → (IntKind.u64.wrap (↑l.length :
  Int) ≤ (1000000 : Int) ∧ IntKind.u64.wrap n ≤ (1000000 : Int)) ∧ (decide ((0 : Int) < (0 : Int)) = true → False) ∧ (decide ((0 : Int) < (0 : Int)) = false → (decide
  ((9223372036854775807 : Int) < IntKind.u64.wrap (↑l.length : Int) * IntKind.u64.wrap n) = true → False) ∧ (decide ((9223372036854775807 : Int) < IntKind.u64.wrap (↑l.length :
  Int) * IntKind.u64.wrap n) = false → ((0 : Int) ≤ IntKind.i64.wrap (IntKind.u64.wrap (↑l.length : Int) * IntKind.u64.wrap n) ∧ IntKind.i64.wrap (IntKind.u64.wrap (↑l.length :
  Int) * IntKind.u64.wrap n) ≤ IntKind.i64.wrap (IntKind.u64.wrap (↑l.length : Int) * IntKind.u64.wrap n) ∧ roomP GR (3 : Nat) (IntKind.i64.wrap (IntKind.u64.wrap (↑l.length : Int)
  * IntKind.u64.wrap n)).toNat) ∧ ((0 : Nat) < (List.replicate (IntKind.i64.wrap (IntKind.u64.wrap (↑l.length : Int) * IntKind.u64.wrap n)).toNat (0 : Int)).length ∧ (0 : Nat) <
  l.length ∧ (0 : Int) ≤ (0 : Int) ∧ (0 : Int) ≤ (↑(List.replicate (IntKind.i64.wrap (IntKind.u64.wrap (↑l.length : Int) * IntKind.u64.wrap n)).toNat (0 : Int)).length : Int) ∧
  (↑(List.replicate (IntKind.i64.wrap (IntKind.u64.wrap (↑l.length : Int) * IntKind.u64.wrap n)).toNat (0 : Int)).length : Int) ≤ (↑(List.replicate (IntKind.i64.wrap
  (IntKind.u64.wrap (↑l.length : Int) * IntKind.u64.wrap n)).toNat (0 : Int)).length : Int)) ∧ ∃ (I : List Int × Int → Prop), ∃ (μ : List Int × Int → Nat), I (List.take (0 : Nat)
  (List.replicate (IntKind.i64.wrap (IntKind.u64.wrap (↑l.length : Int) * IntKind.u64.wrap n)).toNat (0 : Int)) ++ List.take (min ((↑(List.replicate (IntKind.i64.wrap
  (IntKind.u64.wrap (↑l.length : Int) * IntKind.u64.wrap n)).toNat (0 : Int)).length : Int).toNat - (0 : Nat)) l.length) l ++ List.drop ((0 : Nat) + min ((↑(List.replicate
  (IntKind.i64.wrap (IntKind.u64.wrap (↑l.length : Int) * IntKind.u64.wrap n)).toNat (0 : Int)).length : Int).toNat - (0 : Nat)) l.length) (List.replicate (IntKind.i64.wrap
  (IntKind.u64.wrap (↑l.length : Int) * IntKind.u64.wrap n)).toNat (0 : Int)), (↑(min ((↑(List.replicate (IntKind.i64.wrap (IntKind.u64.wrap (↑l.length : Int) * IntKind.u64.wrap
  n)).toNat (0 : Int)).length : Int).toNat - (0 : Nat)) l.length) : Int)) ∧ ∀ (x : List Int × Int), I x → (decide (x.snd < (↑x.fst.length : Int)) = true → (((0 : Int) ≤ x.snd ∧
  x.snd ≤ Int.ofNat x.fst.length ∧ Int.ofNat x.fst.length ≤ (↑x.fst.length : Int) ∧ x.snd < (↑x.fst.length : Int)) ∧ ((0 : Int) ≤ (0 : Int) ∧ (0 : Int) ≤ x.snd ∧ x.snd ≤
  (↑x.fst.length : Int) ∧ (0 : Int) < (↑x.fst.length : Int)) ∧ ((0 : Nat) < x.fst.length ∧ (0 : Nat) < (List.take (x.snd.toNat - (0 : Nat)) (List.drop (0 : Nat) x.fst)).length ∧ (0
  : Int) ≤ x.snd ∧ x.snd ≤ Int.ofNat x.fst.length ∧ Int.ofNat x.fst.length ≤ (↑x.fst.length : Int)) ∧ isI64 (x.snd + (↑(min ((Int.ofNat x.fst.length).toNat - x.snd.toNat)
  (List.take (x.snd.toNat - (0 : Nat)) (List.drop (0 : Nat) x.fst)).length) : Int)) ∧ I (List.take x.snd.toNat x.fst ++ List.take (min ((Int.ofNat x.fst.length).toNat -
  x.snd.toNat) (List.take (x.snd.toNat - (0 : Nat)) (List.drop (0 : Nat) x.fst)).length) (List.take (x.snd.toNat - (0 : Nat)) (List.drop (0 : Nat) x.fst)) ++ List.drop (x.snd.toNat
  + min ((Int.ofNat x.fst.length).toNat - x.snd.toNat) (List.take (x.snd.toNat - (0 : Nat)) (List.drop (0 : Nat) x.fst)).length) x.fst, x.snd + (↑(min ((Int.ofNat
  x.fst.length).toNat - x.snd.toNat) (List.take (x.snd.toNat - (0 : Nat)) (List.drop (0 : Nat) x.fst)).length) : Int)) ∧ μ (List.take x.snd.toNat x.fst ++ List.take (min
  ((Int.ofNat x.fst.length).toNat - x.snd.toNat) (List.take (x.snd.toNat - (0 : Nat)) (List.drop (0 : Nat) x.fst)).length) (List.take (x.snd.toNat - (0 : Nat)) (List.drop (0 : Nat)
  x.fst)) ++ List.drop (x.snd.toNat + min ((Int.ofNat x.fst.length).toNat - x.snd.toNat) (List.take (x.snd.toNat - (0 : Nat)) (List.drop (0 : Nat) x.fst)).length) x.fst, x.snd +
  (↑(min ((Int.ofNat x.fst.length).toNat - x.snd.toNat) (List.take (x.snd.toNat - (0 : Nat)) (List.drop (0 : Nat) x.fst)).length) : Int)) < μ x) ∧ ((0 : Int) ≤ (0 : Int) ∧ (0 :
  Int) ≤ x.snd ∧ x.snd ≤ (↑x.fst.length : Int) ∧ (0 : Int) < (↑x.fst.length : Int)) ∧ ((0 : Int) ≤ x.snd ∧ x.snd ≤ Int.ofNat x.fst.length ∧ Int.ofNat x.fst.length ≤ (↑x.fst.length
  : Int) ∧ x.snd < (↑x.fst.length : Int)) ∧ ((0 : Nat) < x.fst.length ∧ (0 : Nat) < (List.take (x.snd.toNat - (0 : Nat)) (List.drop (0 : Nat) x.fst)).length ∧ (0 : Int) ≤ x.snd ∧
  x.snd ≤ Int.ofNat x.fst.length ∧ Int.ofNat x.fst.length ≤ (↑x.fst.length : Int)) ∧ isI64 (x.snd + (↑(min ((Int.ofNat x.fst.length).toNat - x.snd.toNat) (List.take (x.snd.toNat -
  (0 : Nat)) (List.drop (0 : Nat) x.fst)).length) : Int)) ∧ I (List.take x.snd.toNat x.fst ++ List.take (min ((Int.ofNat x.fst.length).toNat - x.snd.toNat) (List.take (x.snd.toNat
  - (0 : Nat)) (List.drop (0 : Nat) x.fst)).length) (List.take (x.snd.toNat - (0 : Nat)) (List.drop (0 : Nat) x.fst)) ++ List.drop (x.snd.toNat + min ((Int.ofNat
  x.fst.length).toNat - x.snd.toNat) (List.take (x.snd.toNat - (0 : Nat)) (List.drop (0 : Nat) x.fst)).length) x.fst, x.snd + (↑(min ((Int.ofNat x.fst.length).toNat - x.snd.toNat)
  (List.take (x.snd.toNat - (0 : Nat)) (List.drop (0 : Nat) x.fst)).length) : Int)) ∧ μ (List.take x.snd.toNat x.fst ++ List.take (min ((Int.ofNat x.fst.length).toNat -
  x.snd.toNat) (List.take (x.snd.toNat - (0 : Nat)) (List.drop (0 : Nat) x.fst)).length) (List.take (x.snd.toNat - (0 : Nat)) (List.drop (0 : Nat) x.fst)) ++ List.drop (x.snd.toNat
  + min ((Int.ofNat x.fst.length).toNat - x.snd.toNat) (List.take (x.snd.toNat - (0 : Nat)) (List.drop (0 : Nat) x.fst)).length) x.fst, x.snd + (↑(min ((Int.ofNat
  x.fst.length).toNat - x.snd.toNat) (List.take (x.snd.toNat - (0 : Nat)) (List.drop (0 : Nat) x.fst)).length) : Int)) < μ x) ∧ (decide (x.snd < (↑x.fst.length : Int)) = false →
  x.fst = List.replicate n.toNat (l.getD (0 : Nat) (0 : Int))))))) := by kernel_rfl
theorem has_nf (p : Shell) (x : Int) : fnwp G1 6 57 hasSp (p, x) = (True ∧ (decide (p.fst = (withS p x).fst) && (decide (p.snd.fst = (withS p x).snd.fst) && true)) = hasS p x) :=
  by kernel_rfl
theorem piv_nf (m : Int) (p : List (List Int)) : fnwp G1 6 46 pivSp (m, p) = (True ∧ (mValS m (0 : Int) = true → True ∧ (fitB p = true → decide ((↑p.length : Int) ≤ (8 : Int)) =
  pivB m p) ∧ (fitB p = false → false = pivB m p)) ∧ (mValS m (0 : Int) = false → false = pivB m p)) := by kernel_rfl
theorem rPiv_nf (m : Int) (p : List (List Int)) : fnwp G1 6 51 pivSp (m, p) = (True ∧ ((decide ((1 : Int) ≤ m) && decide (m ≤ (3 : Int))) = true → True ∧ (fitB p = true → decide
  ((↑p.length : Int) ≤ (8 : Int)) = pivB m p) ∧ (fitB p = false → false = pivB m p)) ∧ ((decide ((1 : Int) ≤ m) && decide (m ≤ (3 : Int))) = false → false = pivB m p)) := by
  kernel_rfl
theorem keys_nf (m : Int) (p : List (List Int)) (v : List Int) : fnwp G1 6 47 keysSp (m, p, v) = (∃ (I : List Int × Int → Prop), ∃ (μ : List Int × Int → Nat), I ([], (0 : Int)) ∧ ∀
  (x : List Int × Int), I x → (decide (x.snd < (↑p.length : Int)) = true → ((0 : Int) ≤ x.snd ∧ x.snd < (↑p.length : Int)) ∧ ((1 : Int) ≤ m ∧ m ≤ (3 : Int) ∧ small (64 : Nat) (4000
  : Int) (p.getD x.snd.toNat []) ∧ small (64 : Nat) (4000 : Int) v ∧ (p.getD x.snd.toNat []).length = v.length) ∧ roomP G1 (3 : Nat) (x.fst.length + [keyS m (p.getD x.snd.toNat [])
  v].length) ∧ isI64 (x.snd + (1 : Int)) ∧ I (x.fst ++ [keyS m (p.getD x.snd.toNat []) v], x.snd + (1 : Int)) ∧ μ (x.fst ++ [keyS m (p.getD x.snd.toNat []) v], x.snd + (1 : Int)) <
  μ x) ∧ (decide (x.snd < (↑p.length : Int)) = false → x.fst = keysS m p v)) := by kernel_rfl
theorem rKeys_nf (m : Int) (p : List (List Int)) (v : List Int) : fnwp G1 6 53 keysSp (m, p, v) = (∃ (I : List Int × Int → Prop), ∃ (μ : List Int × Int → Nat), I ([], (0 : Int)) ∧
  ∀ (x : List Int × Int), I x → (decide (x.snd < (↑p.length : Int)) = true → ((0 : Int) ≤ x.snd ∧ x.snd < (↑p.length : Int)) ∧ ((1 : Int) ≤ m ∧ m ≤ (3 : Int) ∧ small (64 : Nat)
  (4000 : Int) (p.getD x.snd.toNat []) ∧ small (64 : Nat) (4000 : Int) v ∧ (p.getD x.snd.toNat []).length = v.length) ∧ roomP G1 (3 : Nat) (x.fst.length + [keyS m (p.getD
  x.snd.toNat []) v].length) ∧ isI64 (x.snd + (1 : Int)) ∧ I (x.fst ++ [keyS m (p.getD x.snd.toNat []) v], x.snd + (1 : Int)) ∧ μ (x.fst ++ [keyS m (p.getD x.snd.toNat []) v],
  x.snd + (1 : Int)) < μ x) ∧ (decide (x.snd < (↑p.length : Int)) = false → x.fst = keysS m p v)) := by kernel_rfl
theorem rChoose_nf (m : Int) (l : List (List Int)) (n : Int) : fnwp G1 6 15 rChooseSp (m, l, n) = (True ∧ ((!(decide ((1 : Int) ≤ m) && decide (m ≤ (3 : Int)))) = true → ([], (1 :
  Int), ()) = ((chooseR m l n).fst, (chooseR m l n).snd, ())) ∧ ((!(decide ((1 : Int) ≤ m) && decide (m ≤ (3 : Int)))) = false → True ∧ ((!fitB l) = true → ([], (1 : Int), ()) =
  ((chooseR m l n).fst, (chooseR m l n).snd, ())) ∧ ((!fitB l) = false → (decide (n < (1 : Int)) = true → ([], (1 : Int), ()) = ((chooseR m l n).fst, (chooseR m l n).snd, ())) ∧
  (decide (n < (1 : Int)) = false → (decide ((8 : Int) < n) = true → ([], (1 : Int), ()) = ((chooseR m l n).fst, (chooseR m l n).snd, ())) ∧ (decide ((8 : Int) < n) = false → ((0 :
  Int) ≤ (0 : Int) ∧ (0 : Int) < (↑l.length : Int)) ∧ (decide ((1 : Int) < n) = true → ∃ (I : List Int × List (List Int) × Int × Int × Int → Prop), ∃ (μ : List Int × List (List
  Int) × Int × Int × Int → Nat), I ([(0 : Int)], [l.getD (0 : Nat) []], (0 : Int), (0 : Int), (0 : Int)) ∧ ∀ (x : List Int × List (List Int) × Int × Int × Int), I x → (decide
  (x.snd.snd.snd.snd < (↑l.length : Int)) = true → ((0 : Int) ≤ x.snd.snd.snd.snd ∧ x.snd.snd.snd.snd < (↑l.length : Int)) ∧ nearP3 m [l.getD (0 : Nat) []] (l.getD
  x.snd.snd.snd.snd.toNat []) ∧ (decide (x.snd.snd.snd.fst < nearK m [l.getD (0 : Nat) []] (l.getD x.snd.snd.snd.snd.toNat [])) = true → isI64 (x.snd.snd.snd.snd + (1 : Int)) ∧ I
  ([(0 : Int)], [l.getD (0 : Nat) []], x.snd.snd.snd.snd, nearK m [l.getD (0 : Nat) []] (l.getD x.snd.snd.snd.snd.toNat []), x.snd.snd.snd.snd + (1 : Int)) ∧ μ ([(0 : Int)],
  [l.getD (0 : Nat) []], x.snd.snd.snd.snd, nearK m [l.getD (0 : Nat) []] (l.getD x.snd.snd.snd.snd.toNat []), x.snd.snd.snd.snd + (1 : Int)) < μ x) ∧ (decide (x.snd.snd.snd.fst <
  nearK m [l.getD (0 : Nat) []] (l.getD x.snd.snd.snd.snd.toNat [])) = false → isI64 (x.snd.snd.snd.snd + (1 : Int)) ∧ I ([(0 : Int)], [l.getD (0 : Nat) []], x.snd.snd.fst,
  x.snd.snd.snd.fst, x.snd.snd.snd.snd + (1 : Int)) ∧ μ ([(0 : Int)], [l.getD (0 : Nat) []], x.snd.snd.fst, x.snd.snd.snd.fst, x.snd.snd.snd.snd + (1 : Int)) < μ x)) ∧ (decide
  (x.snd.snd.snd.snd < (↑l.length : Int)) = false → (decide (x.snd.snd.snd.fst = (0 : Int)) = true → ([(0 : Int)], (0 : Int), ()) = ((chooseR m l n).fst, (chooseR m l n).snd, ()))
  ∧ (decide (x.snd.snd.snd.fst = (0 : Int)) = false → roomP G1 (3 : Nat) ((1 : Nat) + [x.snd.snd.fst].length) ∧ ((0 : Int) ≤ x.snd.snd.fst ∧ x.snd.snd.fst < (↑l.length : Int)) ∧
  roomP G1 (23 : Nat) ([l.getD (0 : Nat) []].length + [l.getD x.snd.snd.fst.toNat []].length) ∧ ∃ (I : List Int × List (List Int) → Prop), ∃ (μ : List Int × List (List Int) → Nat),
  I ([(0 : Int)] ++ [x.snd.snd.fst], [l.getD (0 : Nat) []] ++ [l.getD x.snd.snd.fst.toNat []]) ∧ ∀ (x : List Int × List (List Int)), I x → (decide ((↑x.fst.length : Int) < n) =
  true → ∃ (I_1 : List Int × List (List Int) × Int × Int × Int → Prop), ∃ (μ_1 : List Int × List (List Int) × Int × Int × Int → Nat), I_1 (x.fst, x.snd, (0 : Int), (0 : Int), (0 :
  Int)) ∧ ∀ (x_1 : List Int × List (List Int) × Int × Int × Int), I_1 x_1 → (decide (x_1.snd.snd.snd.snd < (↑l.length : Int)) = true → ((0 : Int) ≤ x_1.snd.snd.snd.snd ∧
  x_1.snd.snd.snd.snd < (↑l.length : Int)) ∧ nearP3 m x_1.snd.fst (l.getD x_1.snd.snd.snd.snd.toNat []) ∧ (decide (x_1.snd.snd.snd.fst < nearK m x_1.snd.fst (l.getD
  x_1.snd.snd.snd.snd.toNat [])) = true → isI64 (x_1.snd.snd.snd.snd + (1 : Int)) ∧ I_1 (x_1.fst, x_1.snd.fst, x_1.snd.snd.snd.snd, nearK m x_1.snd.fst (l.getD
  x_1.snd.snd.snd.snd.toNat []), x_1.snd.snd.snd.snd + (1 : Int)) ∧ μ_1 (x_1.fst, x_1.snd.fst, x_1.snd.snd.snd.snd, nearK m x_1.snd.fst (l.getD x_1.snd.snd.snd.snd.toNat []),
  x_1.snd.snd.snd.snd + (1 : Int)) < μ_1 x_1) ∧ (decide (x_1.snd.snd.snd.fst < nearK m x_1.snd.fst (l.getD x_1.snd.snd.snd.snd.toNat [])) = false → isI64 (x_1.snd.snd.snd.snd + (1
  : Int)) ∧ I_1 (x_1.fst, x_1.snd.fst, x_1.snd.snd.fst, x_1.snd.snd.snd.fst, x_1.snd.snd.snd.snd + (1 : Int)) ∧ μ_1 (x_1.fst, x_1.snd.fst, x_1.snd.snd.fst, x_1.snd.snd.snd.fst,
  x_1.snd.snd.snd.snd + (1 : Int)) < μ_1 x_1)) ∧ (decide (x_1.snd.snd.snd.snd < (↑l.length : Int)) = false → (decide (x_1.snd.snd.snd.fst = (0 : Int)) = true → (x_1.fst, (0 : Int),
  ()) = ((chooseR m l n).fst, (chooseR m l n).snd, ())) ∧ (decide (x_1.snd.snd.snd.fst = (0 : Int)) = false → roomP G1 (3 : Nat) (x_1.fst.length + [x_1.snd.snd.fst].length) ∧ ((0 :
  Int) ≤ x_1.snd.snd.fst ∧ x_1.snd.snd.fst < (↑l.length : Int)) ∧ roomP G1 (23 : Nat) (x_1.snd.fst.length + [l.getD x_1.snd.snd.fst.toNat []].length) ∧ I (x_1.fst ++
  [x_1.snd.snd.fst], x_1.snd.fst ++ [l.getD x_1.snd.snd.fst.toNat []]) ∧ μ (x_1.fst ++ [x_1.snd.snd.fst], x_1.snd.fst ++ [l.getD x_1.snd.snd.fst.toNat []]) < μ x))) ∧ (decide
  ((↑x.fst.length : Int) < n) = false → (x.fst, (0 : Int), ()) = ((chooseR m l n).fst, (chooseR m l n).snd, ()))))) ∧ (decide ((1 : Int) < n) = false → ([(0 : Int)], (0 : Int), ())
  = ((chooseR m l n).fst, (chooseR m l n).snd, ()))))))) := by kernel_rfl
theorem sameR_nf (a b : List (List Int)) : fnwp G1 6 20 sameRSp (a, b) = (((!decide ((↑a.length : Int) = (↑b.length : Int))) = true → false = decide (a = b)) ∧ ((!decide
  ((↑a.length : Int) = (↑b.length : Int))) = false → ∃ (I : Int → Prop), ∃ (μ : Int → Nat), I (0 : Int) ∧ ∀ (x : Int), I x → (decide (x < (↑a.length : Int)) = true → ((0 : Int) ≤ x
  ∧ x < (↑a.length : Int)) ∧ ((0 : Int) ≤ x ∧ x < (↑b.length : Int)) ∧ True ∧ ((!decide (a.getD x.toNat [] = b.getD x.toNat [])) = true → false = decide (a = b)) ∧ ((!decide
  (a.getD x.toNat [] = b.getD x.toNat [])) = false → isI64 (x + (1 : Int)) ∧ I (x + (1 : Int)) ∧ μ (x + (1 : Int)) < μ x)) ∧ (decide (x < (↑a.length : Int)) = false → true = decide
  (a = b)))) := by kernel_rfl
theorem rAsk_nf (m : Int) (a : List Shell) (ks : List Int) : fnwp G1 6 68 askSp (m, a, ks) = (∃ (I : Int → Prop), ∃ (μ : Int → Nat), I (0 : Int) ∧ ∀ (x : Int), I x → (decide (x <
  (↑ks.length : Int)) = true → ((0 : Int) ≤ x ∧ x < (↑ks.length : Int)) ∧ (decide (ks.getD x.toNat (0 : Int) < (0 : Int)) = true → false = askB m a ks) ∧ (decide (ks.getD x.toNat
  (0 : Int) < (0 : Int)) = false → ((0 : Int) ≤ x ∧ x < (↑ks.length : Int)) ∧ (decide ((134217728 : Int) < ks.getD x.toNat (0 : Int)) = true → false = askB m a ks) ∧ (decide
  ((134217728 : Int) < ks.getD x.toNat (0 : Int)) = false → isI64 (x + (1 : Int)) ∧ I (x + (1 : Int)) ∧ μ (x + (1 : Int)) < μ x))) ∧ (decide (x < (↑ks.length : Int)) = false → True
  ∧ ((decide ((1 : Int) ≤ m) && decide (m ≤ (3 : Int))) = true → True ∧ (validB a = true → decide ((↑ks.length : Int) = (↑a.length : Int)) = askB m a ks) ∧ (validB a = false →
  false = askB m a ks)) ∧ ((decide ((1 : Int) ≤ m) && decide (m ≤ (3 : Int))) = false → false = askB m a ks))) := by kernel_rfl
theorem rIn_nf (a : List Shell) (ks : List Int) : fnwp G1 6 40 inSp (a, ks) = (True ∧ ((!validB a) = true → false = inB a ks) ∧ ((!validB a) = false → ((!decide ((↑ks.length : Int)
  = (↑a.length : Int))) = true → false = inB a ks) ∧ ((!decide ((↑ks.length : Int) = (↑a.length : Int))) = false → ∃ (I : Int → Prop), ∃ (μ : Int → Nat), I (0 : Int) ∧ ∀ (x : Int),
  I x → (decide (x < (↑a.length : Int)) = true → ((0 : Int) ≤ x ∧ x < (↑ks.length : Int)) ∧ ((0 : Int) ≤ x ∧ x < (↑a.length : Int)) ∧ (decide (ks.getD x.toNat (0 : Int) < (a.getD
  x.toNat ((0 : Int), (0 : Int), ())).fst) = true → false = inB a ks) ∧ (decide (ks.getD x.toNat (0 : Int) < (a.getD x.toNat ((0 : Int), (0 : Int), ())).fst) = false → ((0 : Int) ≤
  x ∧ x < (↑ks.length : Int)) ∧ ((0 : Int) ≤ x ∧ x < (↑a.length : Int)) ∧ (decide ((a.getD x.toNat ((0 : Int), (0 : Int), ())).snd.fst < ks.getD x.toNat (0 : Int)) = true → false =
  inB a ks) ∧ (decide ((a.getD x.toNat ((0 : Int), (0 : Int), ())).snd.fst < ks.getD x.toNat (0 : Int)) = false → isI64 (x + (1 : Int)) ∧ I (x + (1 : Int)) ∧ μ (x + (1 : Int)) < μ
  x))) ∧ (decide (x < (↑a.length : Int)) = false → true = inB a ks)))) := by kernel_rfl
theorem rJoin_nf (a b : List Shell) : fnwp G1 6 35 rJoinSp (a, b) = (True ∧ ((!validB a) = true → ([], (1 : Int), ()) = ((joinR a b).fst, (joinR a b).snd, ())) ∧ ((!validB a) =
  false → True ∧ ((!validB b) = true → ([], (1 : Int), ()) = ((joinR a b).fst, (joinR a b).snd, ())) ∧ ((!validB b) = false → ((!decide ((↑a.length : Int) = (↑b.length : Int))) =
  true → ([], (1 : Int), ()) = ((joinR a b).fst, (joinR a b).snd, ())) ∧ ((!decide ((↑a.length : Int) = (↑b.length : Int))) = false → ∃ (I : List (Int × Int × PUnit) × Int → Prop),
  ∃ (μ : List (Int × Int × PUnit) × Int → Nat), I ([], (0 : Int)) ∧ ∀ (x : List (Int × Int × PUnit) × Int), I x → (decide (x.snd < (↑a.length : Int)) = true → ((0 : Int) ≤ x.snd ∧
  x.snd < (↑a.length : Int)) ∧ ((0 : Int) ≤ x.snd ∧ x.snd < (↑b.length : Int)) ∧ ((0 : Int) ≤ x.snd ∧ x.snd < (↑a.length : Int)) ∧ ((0 : Int) ≤ x.snd ∧ x.snd < (↑b.length : Int)) ∧
  roomP G1 (57 : Nat) (x.fst.length + [(min (a.getD x.snd.toNat ((0 : Int), (0 : Int), ())).fst (b.getD x.snd.toNat ((0 : Int), (0 : Int), ())).fst, max (a.getD x.snd.toNat ((0 :
  Int), (0 : Int), ())).snd.fst (b.getD x.snd.toNat ((0 : Int), (0 : Int), ())).snd.fst, ())].length) ∧ isI64 (x.snd + (1 : Int)) ∧ I (x.fst ++ [(min (a.getD x.snd.toNat ((0 :
  Int), (0 : Int), ())).fst (b.getD x.snd.toNat ((0 : Int), (0 : Int), ())).fst, max (a.getD x.snd.toNat ((0 : Int), (0 : Int), ())).snd.fst (b.getD x.snd.toNat ((0 : Int), (0 :
  Int), ())).snd.fst, ())], x.snd + (1 : Int)) ∧ μ (x.fst ++ [(min (a.getD x.snd.toNat ((0 : Int), (0 : Int), ())).fst (b.getD x.snd.toNat ((0 : Int), (0 : Int), ())).fst, max
  (a.getD x.snd.toNat ((0 : Int), (0 : Int), ())).snd.fst (b.getD x.snd.toNat ((0 : Int), (0 : Int), ())).snd.fst, ())], x.snd + (1 : Int)) < μ x) ∧ (decide (x.snd < (↑a.length :
  Int)) = false → (x.fst, (0 : Int), ()) = ((joinR a b).fst, (joinR a b).snd, ())))))) := by kernel_rfl
end Go.Proofs.Ytdhfjgooamoodaa
