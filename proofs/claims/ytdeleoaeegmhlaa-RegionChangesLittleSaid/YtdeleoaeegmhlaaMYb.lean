import Derived.Test.YtdeleoaeegmhlaaMYa
namespace Go.Proofs.Ytdeleoaeegmhlaa
open Go.AM Go.PL
set_option linter.unusedVariables false
theorem good_nf (v : List Int) : fnwp Y0 6 43 goodSp v = ((decide ((↑v.length : Int) < (1 : Int)) = true → false = goodS v) ∧ (decide ((↑v.length : Int) < (1 : Int)) = false →
  (decide ((4 : Int) < (↑v.length : Int)) = true → false = goodS v) ∧ (decide ((4 : Int) < (↑v.length : Int)) = false → ∃ (I : Int → Prop), ∃ (μ : Int → Nat), I (0 : Int) ∧ ∀ (x :
  Int), I x → (decide (x < (↑v.length : Int)) = true → ((0 : Int) ≤ x ∧ x < (↑v.length : Int)) ∧ (decide (v.getD x.toNat (0 : Int) < (0 : Int)) = true → false = goodS v) ∧ (decide
  (v.getD x.toNat (0 : Int) < (0 : Int)) = false → (decide ((32 : Int) ≤ v.getD x.toNat (0 : Int)) = true → false = goodS v) ∧ (decide ((32 : Int) ≤ v.getD x.toNat (0 : Int)) =
  false → (decide ((0 : Int) < x) = true → isI64 (x - (1 : Int)) ∧ ((0 : Int) ≤ x - (1 : Int) ∧ x - (1 : Int) < (↑v.length : Int)) ∧ (decide (v.getD x.toNat (0 : Int) ≤ v.getD (x -
  (1 : Int)).toNat (0 : Int)) = true → false = goodS v) ∧ (decide (v.getD x.toNat (0 : Int) ≤ v.getD (x - (1 : Int)).toNat (0 : Int)) = false → isI64 (x + (1 : Int)) ∧ I (x + (1 :
  Int)) ∧ μ (x + (1 : Int)) < μ x)) ∧ (decide ((0 : Int) < x) = false → isI64 (x + (1 : Int)) ∧ I (x + (1 : Int)) ∧ μ (x + (1 : Int)) < μ x)))) ∧ (decide (x < (↑v.length : Int)) =
  false → true = goodS v)))) := by kernel_rfl
theorem rOff_nf (v : List Int) : fnwp Y0 6 59 goodSp v = (∃ (I : Int → Prop), ∃ (μ : Int → Nat), I (0 : Int) ∧ ∀ (x : Int), I x → (decide (x < (↑v.length : Int)) = true → ((0 :
  Int) ≤ x ∧ x < (↑v.length : Int)) ∧ (decide (v.getD x.toNat (0 : Int) < (0 : Int)) = true → false = goodS v) ∧ (decide (v.getD x.toNat (0 : Int) < (0 : Int)) = false → ((0 : Int)
  ≤ x ∧ x < (↑v.length : Int)) ∧ (decide ((32 : Int) ≤ v.getD x.toNat (0 : Int)) = true → false = goodS v) ∧ (decide ((32 : Int) ≤ v.getD x.toNat (0 : Int)) = false → (decide ((0 :
  Int) < x) = true → ((0 : Int) ≤ x ∧ x < (↑v.length : Int)) ∧ isI64 (x - (1 : Int)) ∧ ((0 : Int) ≤ x - (1 : Int) ∧ x - (1 : Int) < (↑v.length : Int)) ∧ (decide (v.getD x.toNat (0
  : Int) ≤ v.getD (x - (1 : Int)).toNat (0 : Int)) = true → false = goodS v) ∧ (decide (v.getD x.toNat (0 : Int) ≤ v.getD (x - (1 : Int)).toNat (0 : Int)) = false → isI64 (x + (1 :
  Int)) ∧ I (x + (1 : Int)) ∧ μ (x + (1 : Int)) < μ x)) ∧ (decide ((0 : Int) < x) = false → isI64 (x + (1 : Int)) ∧ I (x + (1 : Int)) ∧ μ (x + (1 : Int)) < μ x)))) ∧ (decide (x <
  (↑v.length : Int)) = false → (decide ((1 : Int) ≤ (↑v.length : Int)) = true → decide ((↑v.length : Int) ≤ (4 : Int)) = goodS v) ∧ (decide ((1 : Int) ≤ (↑v.length : Int)) = false
  → false = goodS v))) := by kernel_rfl
theorem cuts_nf (b : Box) (x a : Int) : fnwp Y0 6 42 cutsSp (b, x, a) = ((decide ((0 : Int) ≤ x) = true → (decide (x < (↑b.fst.length : Int)) = true → ((0 : Int) ≤ x ∧ x <
  (↑b.fst.length : Int)) ∧ (decide (b.fst.getD x.toNat (0 : Int) < a) = true → ((0 : Int) ≤ x ∧ x < (↑b.snd.fst.length : Int)) ∧ decide (a ≤ b.snd.fst.getD x.toNat (0 : Int)) =
  cutsB b x a) ∧ (decide (b.fst.getD x.toNat (0 : Int) < a) = false → false = cutsB b x a)) ∧ (decide (x < (↑b.fst.length : Int)) = false → false = cutsB b x a)) ∧ (decide ((0 :
  Int) ≤ x) = false → false = cutsB b x a)) := by kernel_rfl
theorem rCuts_nf (b : Box) (x a : Int) : fnwp Y0 6 60 cutsSp (b, x, a) = ((decide ((0 : Int) ≤ x) = true → (decide (x < (↑b.fst.length : Int)) = true → ((0 : Int) ≤ x ∧ x <
  (↑b.fst.length : Int)) ∧ (decide (b.fst.getD x.toNat (0 : Int) < a) = true → ((0 : Int) ≤ x ∧ x < (↑b.snd.fst.length : Int)) ∧ decide (a ≤ b.snd.fst.getD x.toNat (0 : Int)) =
  cutsB b x a) ∧ (decide (b.fst.getD x.toNat (0 : Int) < a) = false → false = cutsB b x a)) ∧ (decide (x < (↑b.fst.length : Int)) = false → false = cutsB b x a)) ∧ (decide ((0 :
  Int) ≤ x) = false → false = cutsB b x a)) := by kernel_rfl
theorem halves_nf (b : Box) (x a : Int) : fnwp Y0G 6 65 halvesSp (b, x, a) = (b.fst.length ≤ (1000000 : Nat) ∧ b.snd.fst.length ≤ (1000000 : Nat) ∧ isI64 (a - (1 : Int)) ∧ ((0 :
  Int) ≤ x ∧ x < (↑b.fst.length : Int)) ∧ ((0 : Int) ≤ x ∧ x < (↑b.snd.fst.length : Int)) ∧ (((b.fst, b.snd.fst.set x.toNat (a - (1 : Int)), ()), b.fst.set x.toNat a, b.snd.fst,
  ()) = (lowB b x a, highB b x a) ∧ ((b.fst, b.snd.fst.set x.toNat (a - (1 : Int)), ()), b.fst.set x.toNat a, b.snd.fst, ()) = (lowB b x a, highB b x a)) ∧ ((b.fst, b.snd.fst.set
  x.toNat (a - (1 : Int)), ()), b.fst.set x.toNat a, b.snd.fst, ()) = (lowB b x a, highB b x a)) := by kernel_rfl
theorem low_nf (b : Box) (x a : Int) : fnwp Y0 6 61 lowSp (b, x, a) = (roomP Y0 (3 : Nat) b.snd.fst.length ∧ isI64 (a - (1 : Int)) ∧ ((0 : Int) ≤ x ∧ x < (↑b.snd.fst.length : Int))
  ∧ (b.fst, b.snd.fst.set x.toNat (a - (1 : Int)), ()) = lowB b x a) := by kernel_rfl
theorem high_nf (b : Box) (x a : Int) : fnwp Y0 6 62 highSp (b, x, a) = (roomP Y0 (3 : Nat) b.fst.length ∧ ((0 : Int) ≤ x ∧ x < (↑b.fst.length : Int)) ∧ (b.fst.set x.toNat a,
  b.snd.fst, ()) = highB b x a) := by kernel_rfl
theorem rep_nf (l : List Int) (n : Int) : fnwpG YRp 6 66 repG (l, n) = ((decide (n < (0 : Int)) = true → False) ∧ (decide (n < (0 : Int)) = false → ((0 : Int) ≤ IntKind.u64.wrap
  (↑l.length : Int) ∧ IntKind.u64.wrap (↑l.length : Int) ≤ (1000000 : Int) ∧ (0 : Int) ≤ IntKind.u64.wrap n ∧ IntKind.u64.wrap n ≤ (1000000 : Int)) ∧ (decide ((0 : Int) < (0 :
  Int)) = true → False) ∧ (decide ((0 : Int) < (0 : Int)) = false → (decide ((9223372036854775807 : Int) < IntKind.u64.wrap (↑l.length : Int) * IntKind.u64.wrap n) = true → False)
  ∧ (decide ((9223372036854775807 : Int) < IntKind.u64.wrap (↑l.length : Int) * IntKind.u64.wrap n) = false → ((0 : Int) ≤ IntKind.i64.wrap (IntKind.u64.wrap (↑l.length : Int) *
  IntKind.u64.wrap n) ∧ IntKind.i64.wrap (IntKind.u64.wrap (↑l.length : Int) * IntKind.u64.wrap n) ≤ IntKind.i64.wrap (IntKind.u64.wrap (↑l.length : Int) * IntKind.u64.wrap n) ∧
  roomP YRp (3 : Nat) (IntKind.i64.wrap (IntKind.u64.wrap (↑l.length : Int) * IntKind.u64.wrap n)).toNat) ∧ ((0 : Nat) < (List.replicate (IntKind.i64.wrap (IntKind.u64.wrap
  (↑l.length : Int) * IntKind.u64.wrap n)).toNat (0 : Int)).length ∧ (0 : Nat) < l.length ∧ (0 : Int) ≤ (0 : Int) ∧ (0 : Int) ≤ (↑(List.replicate (IntKind.i64.wrap
  (IntKind.u64.wrap (↑l.length : Int) * IntKind.u64.wrap n)).toNat (0 : Int)).length : Int) ∧ (↑(List.replicate (IntKind.i64.wrap (IntKind.u64.wrap (↑l.length : Int) *
  IntKind.u64.wrap n)).toNat (0 : Int)).length : Int) ≤ (↑(List.replicate (IntKind.i64.wrap (IntKind.u64.wrap (↑l.length : Int) * IntKind.u64.wrap n)).toNat (0 : Int)).length :
  Int)) ∧ ∃ (I : List Int × Int → Prop), ∃ (μ : List Int × Int → Nat), I (List.take (0 : Nat) (List.replicate (IntKind.i64.wrap (IntKind.u64.wrap (↑l.length : Int) *
  IntKind.u64.wrap n)).toNat (0 : Int)) ++ List.take (min ((↑(List.replicate (IntKind.i64.wrap (IntKind.u64.wrap (↑l.length : Int) * IntKind.u64.wrap n)).toNat (0 : Int)).length :
  Int).toNat - (0 : Nat)) l.length) l ++ List.drop ((0 : Nat) + min ((↑(List.replicate (IntKind.i64.wrap (IntKind.u64.wrap (↑l.length : Int) * IntKind.u64.wrap n)).toNat (0 :
  Int)).length : Int).toNat - (0 : Nat)) l.length) (List.replicate (IntKind.i64.wrap (IntKind.u64.wrap (↑l.length : Int) * IntKind.u64.wrap n)).toNat (0 : Int)), (↑(min
  ((↑(List.replicate (IntKind.i64.wrap (IntKind.u64.wrap (↑l.length : Int) * IntKind.u64.wrap n)).toNat (0 : Int)).length : Int).toNat - (0 : Nat)) l.length) : Int)) ∧ ∀ (x : List
  Int × Int), I x → (decide (x.snd < (↑x.fst.length : Int)) = true → (((0 : Int) ≤ x.snd ∧ x.snd ≤ Int.ofNat x.fst.length ∧ Int.ofNat x.fst.length ≤ (↑x.fst.length : Int) ∧ x.snd <
  (↑x.fst.length : Int)) ∧ ((0 : Int) ≤ (0 : Int) ∧ (0 : Int) ≤ x.snd ∧ x.snd ≤ (↑x.fst.length : Int) ∧ (0 : Int) < (↑x.fst.length : Int)) ∧ ((0 : Nat) < x.fst.length ∧ (0 : Nat) <
  (List.take (x.snd.toNat - (0 : Nat)) (List.drop (0 : Nat) x.fst)).length ∧ (0 : Int) ≤ x.snd ∧ x.snd ≤ Int.ofNat x.fst.length ∧ Int.ofNat x.fst.length ≤ (↑x.fst.length : Int)) ∧
  isI64 (x.snd + (↑(min ((Int.ofNat x.fst.length).toNat - x.snd.toNat) (List.take (x.snd.toNat - (0 : Nat)) (List.drop (0 : Nat) x.fst)).length) : Int)) ∧ I (List.take x.snd.toNat
  x.fst ++ List.take (min ((Int.ofNat x.fst.length).toNat - x.snd.toNat) (List.take (x.snd.toNat - (0 : Nat)) (List.drop (0 : Nat) x.fst)).length) (List.take (x.snd.toNat - (0 :
  Nat)) (List.drop (0 : Nat) x.fst)) ++ List.drop (x.snd.toNat + min ((Int.ofNat x.fst.length).toNat - x.snd.toNat) (List.take (x.snd.toNat - (0 : Nat)) (List.drop (0 : Nat)
  x.fst)).length) x.fst, x.snd + (↑(min ((Int.ofNat x.fst.length).toNat - x.snd.toNat) (List.take (x.snd.toNat - (0 : Nat)) (List.drop (0 : Nat) x.fst)).length) : Int)) ∧ μ
  (List.take x.snd.toNat x.fst ++ List.take (min ((Int.ofNat x.fst.length).toNat - x.snd.toNat) (List.take (x.snd.toNat - (0 : Nat)) (List.drop (0 : Nat) x.fst)).length) (List.take
  (x.snd.toNat - (0 : Nat)) (List.drop (0 : Nat) x.fst)) ++ List.drop (x.snd.toNat + min ((Int.ofNat x.fst.length).toNat - x.snd.toNat) (List.take (x.snd.toNat - (0 : Nat))
  (List.drop (0 : Nat) x.fst)).length) x.fst, x.snd + (↑(min ((Int.ofNat x.fst.length).toNat - x.snd.toNat) (List.take (x.snd.toNat - (0 : Nat)) (List.drop (0 : Nat)
  x.fst)).length) : Int)) < μ x) ∧ ((0 : Int) ≤ (0 : Int) ∧ (0 : Int) ≤ x.snd ∧ x.snd ≤ (↑x.fst.length : Int) ∧ (0 : Int) < (↑x.fst.length : Int)) ∧ ((0 : Int) ≤ x.snd ∧ x.snd ≤
  Int.ofNat x.fst.length ∧ Int.ofNat x.fst.length ≤ (↑x.fst.length : Int) ∧ x.snd < (↑x.fst.length : Int)) ∧ ((0 : Nat) < x.fst.length ∧ (0 : Nat) < (List.take (x.snd.toNat - (0 :
  Nat)) (List.drop (0 : Nat) x.fst)).length ∧ (0 : Int) ≤ x.snd ∧ x.snd ≤ Int.ofNat x.fst.length ∧ Int.ofNat x.fst.length ≤ (↑x.fst.length : Int)) ∧ isI64 (x.snd + (↑(min
  ((Int.ofNat x.fst.length).toNat - x.snd.toNat) (List.take (x.snd.toNat - (0 : Nat)) (List.drop (0 : Nat) x.fst)).length) : Int)) ∧ I (List.take x.snd.toNat x.fst ++ List.take
  (min ((Int.ofNat x.fst.length).toNat - x.snd.toNat) (List.take (x.snd.toNat - (0 : Nat)) (List.drop (0 : Nat) x.fst)).length) (List.take (x.snd.toNat - (0 : Nat)) (List.drop (0 :
  Nat) x.fst)) ++ List.drop (x.snd.toNat + min ((Int.ofNat x.fst.length).toNat - x.snd.toNat) (List.take (x.snd.toNat - (0 : Nat)) (List.drop (0 : Nat) x.fst)).length) x.fst, x.snd
  + (↑(min ((Int.ofNat x.fst.length).toNat - x.snd.toNat) (List.take (x.snd.toNat - (0 : Nat)) (List.drop (0 : Nat) x.fst)).length) : Int)) ∧ μ (List.take x.snd.toNat x.fst ++
  List.take (min ((Int.ofNat x.fst.length).toNat - x.snd.toNat) (List.take (x.snd.toNat - (0 : Nat)) (List.drop (0 : Nat) x.fst)).length) (List.take (x.snd.toNat - (0 : Nat))
  (List.drop (0 : Nat) x.fst)) ++ List.drop (x.snd.toNat + min ((Int.ofNat x.fst.length).toNat - x.snd.toNat) (List.take (x.snd.toNat - (0 : Nat)) (List.drop (0 : Nat)
  x.fst)).length) x.fst, x.snd + (↑(min ((Int.ofNat x.fst.length).toNat - x.snd.toNat) (List.take (x.snd.toNat - (0 : Nat)) (List.drop (0 : Nat) x.fst)).length) : Int)) < μ x) ∧
  (decide (x.snd < (↑x.fst.length : Int)) = false → x.fst = List.replicate n.toNat (l.getD (0 : Nat) (0 : Int))))))) := by kernel_rfl
theorem mul_nf (x y : Int) : fnwp Y0 6 82 mulSp (x, y) = (((0 : Int) ≤ (32 : Int) ∧ (32 : Int) ≤ (64 : Int)) ∧ ((0 : Int) ≤ (32 : Int) ∧ (32 : Int) ≤ (64 : Int)) ∧ ((0 : Int) ≤ (32
  : Int) ∧ (32 : Int) ≤ (64 : Int)) ∧ ((0 : Int) ≤ (32 : Int) ∧ (32 : Int) ≤ (64 : Int)) ∧ ((0 : Int) ≤ (32 : Int) ∧ (32 : Int) ≤ (64 : Int)) ∧ (IntKind.u64.wrap (IntKind.u64.wrap
  (IntKind.u64.wrap (x / (2 : Int) ^ (32 : Nat) * (y / (2 : Int) ^ (32 : Nat))) + IntKind.u64.wrap (IntKind.u64.wrap (x / (2 : Int) ^ (32 : Nat) * bitsOp BinOp.and IntKind.u64 y
  (4294967295 : Int)) + IntKind.u64.wrap (bitsOp BinOp.and IntKind.u64 x (4294967295 : Int) * bitsOp BinOp.and IntKind.u64 y (4294967295 : Int)) / (2 : Int) ^ (32 : Nat)) / (2 :
  Int) ^ (32 : Nat)) + IntKind.u64.wrap (bitsOp BinOp.and IntKind.u64 (IntKind.u64.wrap (IntKind.u64.wrap (x / (2 : Int) ^ (32 : Nat) * bitsOp BinOp.and IntKind.u64 y (4294967295 :
  Int)) + IntKind.u64.wrap (bitsOp BinOp.and IntKind.u64 x (4294967295 : Int) * bitsOp BinOp.and IntKind.u64 y (4294967295 : Int)) / (2 : Int) ^ (32 : Nat))) (4294967295 : Int) +
  IntKind.u64.wrap (bitsOp BinOp.and IntKind.u64 x (4294967295 : Int) * (y / (2 : Int) ^ (32 : Nat)))) / (2 : Int) ^ (32 : Nat)), IntKind.u64.wrap (x * y)) = ((0 : Int), x * y)) :=
  by kernel_rfl
end Go.Proofs.Ytdeleoaeegmhlaa
