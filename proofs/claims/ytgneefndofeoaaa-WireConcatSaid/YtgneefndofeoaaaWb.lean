import Derived.Test.YtgneefndofeoaaaBs
import Derived.Test.YtgneefndofeoaaaWa
namespace Go.Proofs.Ytgneefndofeoaaa
open Go.AM Go.PL
set_option linter.unusedVariables false

/-! ### Integers: encoding and decoding -/
def intG : GSpec := ⟨[I], 5, U8, fun _ => True, fun n => encI n⟩
def decO (d : Dec Int) : dens [I, I, I] :=
  match d with
  | .err e => ((0 : Int), (0 : Int), (e : Int))
  | .ok n u => ((n : Int), (u : Int), (0 : Int))
def getIntSp : FSpec := ⟨[BY], [I, I, I], fun _ => True, fun b => decO (decI b)⟩

def loopsW (f : FuncId) (r : Nat) : List LA :=
  if Nat.beq f 14 || Nat.beq f 15 then [.gslot 4 5 U8, .slot 3 (.int .u64)]
  else if Nat.beq f 24 then [.slot 11 I, .slot 5 (.int .u64), .slot 6 I]
  else if Nat.beq f 25 then (if Nat.beq r 2 then [.slot 5 I] else [.slot 6 (.int .u64), .slot 7 I])
  else []
noncomputable def W0 : Ctx := mkctx bs [] [] (hint0 loopsW)

theorem int_nf (n : Int) : fnwpG W0 5 14 intG n = (((0 : Int) ≤ (1 : Int) ∧ (1 : Int) ≤ (64 : Int)) ∧ ((0 : Int) ≤ (63 : Int) ∧ (63 : Int) ≤ (64 : Int)) ∧ ∃ (I : List Int × Int →
  Prop), ∃ (μ : List Int × Int → Nat), I ([], bitsOp BinOp.xor IntKind.u64 (IntKind.u64.wrap (IntKind.u64.wrap n * (2 : Int))) (IntKind.u64.wrap (n / (2 : Int) ^ (63 : Nat)))) ∧ ∀
  (x : List Int × Int), I x → (decide ((127 : Int) < x.snd) = true → roomP W0 (5 : Nat) (x.fst.length + [bitsOp BinOp.or IntKind.u8 (IntKind.u8.wrap x.snd) (128 : Int)].length) ∧
  ((0 : Int) ≤ (7 : Int) ∧ (7 : Int) ≤ (64 : Int)) ∧ I (x.fst ++ [bitsOp BinOp.or IntKind.u8 (IntKind.u8.wrap x.snd) (128 : Int)], x.snd / (2 : Int) ^ (7 : Nat)) ∧ μ (x.fst ++
  [bitsOp BinOp.or IntKind.u8 (IntKind.u8.wrap x.snd) (128 : Int)], x.snd / (2 : Int) ^ (7 : Nat)) < μ x) ∧ (decide ((127 : Int) < x.snd) = false → roomP W0 (5 : Nat) (x.fst.length
  + [IntKind.u8.wrap x.snd].length) ∧ x.fst ++ [IntKind.u8.wrap x.snd] = encI n)) := by kernel_rfl
theorem rInt_nf (n : Int) : fnwpG W0 5 15 intG n = ((decide (n < (0 : Int)) = true → isI64 ((-1 : Int) - n) ∧ ∃ (I : List Int × Int → Prop), ∃ (μ : List Int × Int → Nat), I ([],
  IntKind.u64.wrap (IntKind.u64.wrap (IntKind.u64.wrap ((-1 : Int) - n) * (2 : Int)) + (1 : Int))) ∧ ∀ (x : List Int × Int), I x → (decide ((128 : Int) ≤ x.snd) = true → (128 :
  Int) ≠ (0 : Int) ∧ roomP W0 (5 : Nat) (x.fst.length + [IntKind.u8.wrap (IntKind.u8.wrap (x.snd.tmod (128 : Int)) + (128 : Int))].length) ∧ (128 : Int) ≠ (0 : Int) ∧ I (x.fst ++
  [IntKind.u8.wrap (IntKind.u8.wrap (x.snd.tmod (128 : Int)) + (128 : Int))], IntKind.u64.wrap (x.snd.tdiv (128 : Int))) ∧ μ (x.fst ++ [IntKind.u8.wrap (IntKind.u8.wrap (x.snd.tmod
  (128 : Int)) + (128 : Int))], IntKind.u64.wrap (x.snd.tdiv (128 : Int))) < μ x) ∧ (decide ((128 : Int) ≤ x.snd) = false → roomP W0 (5 : Nat) (x.fst.length + [IntKind.u8.wrap
  x.snd].length) ∧ x.fst ++ [IntKind.u8.wrap x.snd] = encI n)) ∧ (decide (n < (0 : Int)) = false → ∃ (I : List Int × Int → Prop), ∃ (μ : List Int × Int → Nat), I ([],
  IntKind.u64.wrap (IntKind.u64.wrap n * (2 : Int))) ∧ ∀ (x : List Int × Int), I x → (decide ((128 : Int) ≤ x.snd) = true → (128 : Int) ≠ (0 : Int) ∧ roomP W0 (5 : Nat)
  (x.fst.length + [IntKind.u8.wrap (IntKind.u8.wrap (x.snd.tmod (128 : Int)) + (128 : Int))].length) ∧ (128 : Int) ≠ (0 : Int) ∧ I (x.fst ++ [IntKind.u8.wrap (IntKind.u8.wrap
  (x.snd.tmod (128 : Int)) + (128 : Int))], IntKind.u64.wrap (x.snd.tdiv (128 : Int))) ∧ μ (x.fst ++ [IntKind.u8.wrap (IntKind.u8.wrap (x.snd.tmod (128 : Int)) + (128 : Int))],
  IntKind.u64.wrap (x.snd.tdiv (128 : Int))) < μ x) ∧ (decide ((128 : Int) ≤ x.snd) = false → roomP W0 (5 : Nat) (x.fst.length + [IntKind.u8.wrap x.snd].length) ∧ x.fst ++
  [IntKind.u8.wrap x.snd] = encI n))) := by kernel_rfl
theorem getInt_nf (b : List Int) : fnwp W0 5 24 getIntSp b = (∃ (I : Int × Int × Int → Prop), ∃ (μ : Int × Int × Int → Nat), I ((0 : Int), (0 : Int), (0 : Int)) ∧ ∀ (x : Int × Int
  × Int), I x → (decide (x.fst < (↑b.length : Int)) = true → ((0 : Int) ≤ x.fst ∧ x.fst < (↑b.length : Int)) ∧ (decide (x.fst = (9 : Int)) = true → (decide ((1 : Int) < b.getD
  x.fst.toNat (0 : Int)) = true → ((0 : Int), (0 : Int), (11 : Int)) = decO (decI b)) ∧ (decide ((1 : Int) < b.getD x.fst.toNat (0 : Int)) = false → (decide ((0 : Int) < x.fst) =
  true → (decide (b.getD x.fst.toNat (0 : Int) = (0 : Int)) = true → ((0 : Int), (0 : Int), (11 : Int)) = decO (decI b)) ∧ (decide (b.getD x.fst.toNat (0 : Int) = (0 : Int)) =
  false → isI64 ((7 : Int) * x.fst) ∧ ((0 : Int) ≤ (7 : Int) * x.fst ∧ (7 : Int) * x.fst ≤ (64 : Int)) ∧ (decide (b.getD x.fst.toNat (0 : Int) < (128 : Int)) = true → isI64 (x.fst
  + (1 : Int)) ∧ (decide (x.fst + (1 : Int) = (0 : Int)) = true → ((0 : Int), (0 : Int), (10 : Int)) = decO (decI b)) ∧ (decide (x.fst + (1 : Int) = (0 : Int)) = false → ((0 : Int)
  ≤ (1 : Int) ∧ (1 : Int) ≤ (64 : Int)) ∧ isI64 ((0 : Int) - IntKind.i64.wrap (bitsOp BinOp.and IntKind.u64 (bitsOp BinOp.or IntKind.u64 x.snd.fst (IntKind.u64.wrap
  (IntKind.u64.wrap (bitsOp BinOp.and IntKind.u8 (b.getD x.fst.toNat (0 : Int)) (127 : Int)) * (2 : Int) ^ ((7 : Int) * x.fst).toNat))) (1 : Int))) ∧ (bitsOp BinOp.xor IntKind.i64
  (IntKind.i64.wrap (bitsOp BinOp.or IntKind.u64 x.snd.fst (IntKind.u64.wrap (IntKind.u64.wrap (bitsOp BinOp.and IntKind.u8 (b.getD x.fst.toNat (0 : Int)) (127 : Int)) * (2 : Int)
  ^ ((7 : Int) * x.fst).toNat)) / (2 : Int) ^ (1 : Nat))) ((0 : Int) - IntKind.i64.wrap (bitsOp BinOp.and IntKind.u64 (bitsOp BinOp.or IntKind.u64 x.snd.fst (IntKind.u64.wrap
  (IntKind.u64.wrap (bitsOp BinOp.and IntKind.u8 (b.getD x.fst.toNat (0 : Int)) (127 : Int)) * (2 : Int) ^ ((7 : Int) * x.fst).toNat))) (1 : Int))), x.fst + (1 : Int), (0 : Int)) =
  decO (decI b))) ∧ (decide (b.getD x.fst.toNat (0 : Int) < (128 : Int)) = false → isI64 (x.fst + (1 : Int)) ∧ I (x.fst + (1 : Int), bitsOp BinOp.or IntKind.u64 x.snd.fst
  (IntKind.u64.wrap (IntKind.u64.wrap (bitsOp BinOp.and IntKind.u8 (b.getD x.fst.toNat (0 : Int)) (127 : Int)) * (2 : Int) ^ ((7 : Int) * x.fst).toNat)), x.snd.snd) ∧ μ (x.fst + (1
  : Int), bitsOp BinOp.or IntKind.u64 x.snd.fst (IntKind.u64.wrap (IntKind.u64.wrap (bitsOp BinOp.and IntKind.u8 (b.getD x.fst.toNat (0 : Int)) (127 : Int)) * (2 : Int) ^ ((7 :
  Int) * x.fst).toNat)), x.snd.snd) < μ x))) ∧ (decide ((0 : Int) < x.fst) = false → isI64 ((7 : Int) * x.fst) ∧ ((0 : Int) ≤ (7 : Int) * x.fst ∧ (7 : Int) * x.fst ≤ (64 : Int)) ∧
  (decide (b.getD x.fst.toNat (0 : Int) < (128 : Int)) = true → isI64 (x.fst + (1 : Int)) ∧ (decide (x.fst + (1 : Int) = (0 : Int)) = true → ((0 : Int), (0 : Int), (10 : Int)) =
  decO (decI b)) ∧ (decide (x.fst + (1 : Int) = (0 : Int)) = false → ((0 : Int) ≤ (1 : Int) ∧ (1 : Int) ≤ (64 : Int)) ∧ isI64 ((0 : Int) - IntKind.i64.wrap (bitsOp BinOp.and
  IntKind.u64 (bitsOp BinOp.or IntKind.u64 x.snd.fst (IntKind.u64.wrap (IntKind.u64.wrap (bitsOp BinOp.and IntKind.u8 (b.getD x.fst.toNat (0 : Int)) (127 : Int)) * (2 : Int) ^ ((7
  : Int) * x.fst).toNat))) (1 : Int))) ∧ (bitsOp BinOp.xor IntKind.i64 (IntKind.i64.wrap (bitsOp BinOp.or IntKind.u64 x.snd.fst (IntKind.u64.wrap (IntKind.u64.wrap (bitsOp
  BinOp.and IntKind.u8 (b.getD x.fst.toNat (0 : Int)) (127 : Int)) * (2 : Int) ^ ((7 : Int) * x.fst).toNat)) / (2 : Int) ^ (1 : Nat))) ((0 : Int) - IntKind.i64.wrap (bitsOp
  BinOp.and IntKind.u64 (bitsOp BinOp.or IntKind.u64 x.snd.fst (IntKind.u64.wrap (IntKind.u64.wrap (bitsOp BinOp.and IntKind.u8 (b.getD x.fst.toNat (0 : Int)) (127 : Int)) * (2 :
  Int) ^ ((7 : Int) * x.fst).toNat))) (1 : Int))), x.fst + (1 : Int), (0 : Int)) = decO (decI b))) ∧ (decide (b.getD x.fst.toNat (0 : Int) < (128 : Int)) = false → isI64 (x.fst +
  (1 : Int)) ∧ I (x.fst + (1 : Int), bitsOp BinOp.or IntKind.u64 x.snd.fst (IntKind.u64.wrap (IntKind.u64.wrap (bitsOp BinOp.and IntKind.u8 (b.getD x.fst.toNat (0 : Int)) (127 :
  Int)) * (2 : Int) ^ ((7 : Int) * x.fst).toNat)), x.snd.snd) ∧ μ (x.fst + (1 : Int), bitsOp BinOp.or IntKind.u64 x.snd.fst (IntKind.u64.wrap (IntKind.u64.wrap (bitsOp BinOp.and
  IntKind.u8 (b.getD x.fst.toNat (0 : Int)) (127 : Int)) * (2 : Int) ^ ((7 : Int) * x.fst).toNat)), x.snd.snd) < μ x)))) ∧ (decide (x.fst = (9 : Int)) = false → (decide ((0 : Int)
  < x.fst) = true → (decide (b.getD x.fst.toNat (0 : Int) = (0 : Int)) = true → ((0 : Int), (0 : Int), (11 : Int)) = decO (decI b)) ∧ (decide (b.getD x.fst.toNat (0 : Int) = (0 :
  Int)) = false → isI64 ((7 : Int) * x.fst) ∧ ((0 : Int) ≤ (7 : Int) * x.fst ∧ (7 : Int) * x.fst ≤ (64 : Int)) ∧ (decide (b.getD x.fst.toNat (0 : Int) < (128 : Int)) = true → isI64
  (x.fst + (1 : Int)) ∧ (decide (x.fst + (1 : Int) = (0 : Int)) = true → ((0 : Int), (0 : Int), (10 : Int)) = decO (decI b)) ∧ (decide (x.fst + (1 : Int) = (0 : Int)) = false → ((0
  : Int) ≤ (1 : Int) ∧ (1 : Int) ≤ (64 : Int)) ∧ isI64 ((0 : Int) - IntKind.i64.wrap (bitsOp BinOp.and IntKind.u64 (bitsOp BinOp.or IntKind.u64 x.snd.fst (IntKind.u64.wrap
  (IntKind.u64.wrap (bitsOp BinOp.and IntKind.u8 (b.getD x.fst.toNat (0 : Int)) (127 : Int)) * (2 : Int) ^ ((7 : Int) * x.fst).toNat))) (1 : Int))) ∧ (bitsOp BinOp.xor IntKind.i64
  (IntKind.i64.wrap (bitsOp BinOp.or IntKind.u64 x.snd.fst (IntKind.u64.wrap (IntKind.u64.wrap (bitsOp BinOp.and IntKind.u8 (b.getD x.fst.toNat (0 : Int)) (127 : Int)) * (2 : Int)
  ^ ((7 : Int) * x.fst).toNat)) / (2 : Int) ^ (1 : Nat))) ((0 : Int) - IntKind.i64.wrap (bitsOp BinOp.and IntKind.u64 (bitsOp BinOp.or IntKind.u64 x.snd.fst (IntKind.u64.wrap
  (IntKind.u64.wrap (bitsOp BinOp.and IntKind.u8 (b.getD x.fst.toNat (0 : Int)) (127 : Int)) * (2 : Int) ^ ((7 : Int) * x.fst).toNat))) (1 : Int))), x.fst + (1 : Int), (0 : Int)) =
  decO (decI b))) ∧ (decide (b.getD x.fst.toNat (0 : Int) < (128 : Int)) = false → isI64 (x.fst + (1 : Int)) ∧ I (x.fst + (1 : Int), bitsOp BinOp.or IntKind.u64 x.snd.fst
  (IntKind.u64.wrap (IntKind.u64.wrap (bitsOp BinOp.and IntKind.u8 (b.getD x.fst.toNat (0 : Int)) (127 : Int)) * (2 : Int) ^ ((7 : Int) * x.fst).toNat)), x.snd.snd) ∧ μ (x.fst + (1
  : Int), bitsOp BinOp.or IntKind.u64 x.snd.fst (IntKind.u64.wrap (IntKind.u64.wrap (bitsOp BinOp.and IntKind.u8 (b.getD x.fst.toNat (0 : Int)) (127 : Int)) * (2 : Int) ^ ((7 :
  Int) * x.fst).toNat)), x.snd.snd) < μ x))) ∧ (decide ((0 : Int) < x.fst) = false → isI64 ((7 : Int) * x.fst) ∧ ((0 : Int) ≤ (7 : Int) * x.fst ∧ (7 : Int) * x.fst ≤ (64 : Int)) ∧
  (decide (b.getD x.fst.toNat (0 : Int) < (128 : Int)) = true → isI64 (x.fst + (1 : Int)) ∧ (decide (x.fst + (1 : Int) = (0 : Int)) = true → ((0 : Int), (0 : Int), (10 : Int)) =
  decO (decI b)) ∧ (decide (x.fst + (1 : Int) = (0 : Int)) = false → ((0 : Int) ≤ (1 : Int) ∧ (1 : Int) ≤ (64 : Int)) ∧ isI64 ((0 : Int) - IntKind.i64.wrap (bitsOp BinOp.and
  IntKind.u64 (bitsOp BinOp.or IntKind.u64 x.snd.fst (IntKind.u64.wrap (IntKind.u64.wrap (bitsOp BinOp.and IntKind.u8 (b.getD x.fst.toNat (0 : Int)) (127 : Int)) * (2 : Int) ^ ((7
  : Int) * x.fst).toNat))) (1 : Int))) ∧ (bitsOp BinOp.xor IntKind.i64 (IntKind.i64.wrap (bitsOp BinOp.or IntKind.u64 x.snd.fst (IntKind.u64.wrap (IntKind.u64.wrap (bitsOp
  BinOp.and IntKind.u8 (b.getD x.fst.toNat (0 : Int)) (127 : Int)) * (2 : Int) ^ ((7 : Int) * x.fst).toNat)) / (2 : Int) ^ (1 : Nat))) ((0 : Int) - IntKind.i64.wrap (bitsOp
  BinOp.and IntKind.u64 (bitsOp BinOp.or IntKind.u64 x.snd.fst (IntKind.u64.wrap (IntKind.u64.wrap (bitsOp BinOp.and IntKind.u8 (b.getD x.fst.toNat (0 : Int)) (127 : Int)) * (2 :
  Int) ^ ((7 : Int) * x.fst).toNat))) (1 : Int))), x.fst + (1 : Int), (0 : Int)) = decO (decI b))) ∧ (decide (b.getD x.fst.toNat (0 : Int) < (128 : Int)) = false → isI64 (x.fst +
  (1 : Int)) ∧ I (x.fst + (1 : Int), bitsOp BinOp.or IntKind.u64 x.snd.fst (IntKind.u64.wrap (IntKind.u64.wrap (bitsOp BinOp.and IntKind.u8 (b.getD x.fst.toNat (0 : Int)) (127 :
  Int)) * (2 : Int) ^ ((7 : Int) * x.fst).toNat)), x.snd.snd) ∧ μ (x.fst + (1 : Int), bitsOp BinOp.or IntKind.u64 x.snd.fst (IntKind.u64.wrap (IntKind.u64.wrap (bitsOp BinOp.and
  IntKind.u8 (b.getD x.fst.toNat (0 : Int)) (127 : Int)) * (2 : Int) ^ ((7 : Int) * x.fst).toNat)), x.snd.snd) < μ x)))) ∧ (decide (x.fst < (↑b.length : Int)) = false → (decide
  (x.snd.snd = (0 : Int)) = true → ((0 : Int), (0 : Int), (10 : Int)) = decO (decI b)) ∧ (decide (x.snd.snd = (0 : Int)) = false → ((0 : Int) ≤ (1 : Int) ∧ (1 : Int) ≤ (64 : Int))
  ∧ isI64 ((0 : Int) - IntKind.i64.wrap (bitsOp BinOp.and IntKind.u64 x.snd.fst (1 : Int))) ∧ (bitsOp BinOp.xor IntKind.i64 (IntKind.i64.wrap (x.snd.fst / (2 : Int) ^ (1 : Nat)))
  ((0 : Int) - IntKind.i64.wrap (bitsOp BinOp.and IntKind.u64 x.snd.fst (1 : Int))), x.snd.snd, (0 : Int)) = decO (decI b)))) := by kernel_rfl
end Go.Proofs.Ytgneefndofeoaaa
