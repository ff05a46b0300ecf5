import Derived.Test.YtjppchomonpfgaaTe
import Derived.Test.YtjppchomonpfgaaMa
--@drop
namespace Go.Proofs.Ytjppchomonpfgaa
open Go.AM Go.PL

def tab1 : List Int := [0, 1, 2, 2, 3, 3, 3, 3, 4, 4, 4, 4, 4, 4, 4, 4, 5, 5, 5, 5, 5, 5, 5, 5, 5, 5, 5, 5, 5, 5, 5, 5, 6, 6, 6, 6, 6, 6, 6, 6, 6, 6, 6, 6, 6, 6, 6, 6, 6, 6, 6, 6, 6, 6, 6, 6, 6, 6, 6, 6, 6, 6, 6, 6, 7, 7, 7, 7, 7, 7, 7, 7, 7, 7, 7, 7, 7, 7, 7, 7, 7, 7, 7, 7, 7, 7, 7, 7, 7, 7, 7, 7, 7, 7, 7, 7, 7, 7, 7, 7, 7, 7, 7, 7, 7, 7, 7, 7, 7, 7, 7, 7, 7, 7, 7, 7, 7, 7, 7, 7, 7, 7, 7, 7, 7, 7, 7, 7, 8, 8, 8, 8, 8, 8, 8, 8, 8, 8, 8, 8, 8, 8, 8, 8, 8, 8, 8, 8, 8, 8, 8, 8, 8, 8, 8, 8, 8, 8, 8, 8, 8, 8, 8, 8, 8, 8, 8, 8, 8, 8, 8, 8, 8, 8, 8, 8, 8, 8, 8, 8, 8, 8, 8, 8, 8, 8, 8, 8, 8, 8, 8, 8, 8, 8, 8, 8, 8, 8, 8, 8, 8, 8, 8, 8, 8, 8, 8, 8, 8, 8, 8, 8, 8, 8, 8, 8, 8, 8, 8, 8, 8, 8, 8, 8, 8, 8, 8, 8, 8, 8, 8, 8, 8, 8, 8, 8, 8, 8, 8, 8, 8, 8, 8, 8, 8, 8, 8, 8, 8, 8, 8, 8, 8, 8, 8, 8]

def keyP (n : Int) : Prop := 0 ≤ n ∧ n ≤ 2 ^ 27
def lowS (m a b : Int) : Int := if m = 2 then a + b - isq (4 * a * b) else max a b - min a b
def highS (m a b : Int) : Int := min (if m = 2 then a + b + isq (4 * a * b) else a + b) (2 ^ 27)
def mValS (m k : Int) : Bool := decide (1 ≤ m ∧ m ≤ 3 ∧ 0 ≤ k ∧ k ≤ 2 ^ 27)

def blSp : FSpec := ⟨[.int .u64], [I], fun _ => True, fun x => blen x⟩
def isqSp : FSpec := ⟨[I], [I], fun _ => True, fun x => isq x⟩
def lowSp : FSpec := ⟨[I, I, I], [I], fun x => keyP x.2.1 ∧ keyP x.2.2, fun x => lowS x.1 x.2.1 x.2.2⟩
def highSp : FSpec := ⟨[I, I, I], [I], fun x => keyP x.2.1 ∧ keyP x.2.2, fun x => highS x.1 x.2.1 x.2.2⟩
def mValSp : FSpec := ⟨[I, I], [.bool], fun _ => True, fun x => mValS x.1 x.2⟩
def triSp : FSpec := ⟨[I, I, I, I], [.bool], fun x => keyP x.2.1 ∧ keyP x.2.2.1, fun x => decide (lowS x.1 x.2.1 x.2.2.1 ≤ (x.2.2.2 : Int) ∧ (x.2.2.2 : Int) ≤ highS x.1 x.2.1 x.2.2.1)⟩
def ringSp : FSpec := ⟨[I, I, I], [I, I], fun x => keyP x.2.1 ∧ keyP x.2.2, fun x => (if (x.2.2 : Int) < x.2.1 then lowS x.1 x.2.1 x.2.2 else (0 : Int), highS x.1 x.2.1 x.2.2)⟩
def gapSp : FSpec := ⟨[I, I, I, I], [I], fun x => keyP x.2.1 ∧ keyP x.2.2.1 ∧ keyP x.2.2.2, fun x => lowS x.1 x.2.2.2 (max x.2.1 (min x.2.2.2 x.2.2.1))⟩
def reachSp : FSpec := ⟨[I, I, I, I], [I], fun x => keyP x.2.1 ∧ keyP x.2.2.1 ∧ keyP x.2.2.2, fun x => highS x.1 x.2.2.2 x.2.2.1⟩
def ballSp : FSpec := ⟨[I, I, I, I], [.bool], fun x => keyP x.2.2.1 ∧ keyP x.2.2.2, fun x => decide ((x.2.1 : Int) ≤ highS x.1 x.2.2.1 x.2.2.2)⟩

def loopsOf (f : FuncId) (_ : Nat) : List LA :=
  if Nat.beq f 83 then [.slot 3 I] else
  if Nat.beq f 70 then [.slot 3 I, .slot 4 I] else
  []
noncomputable def C0 : Ctx := mkctx bs [] [] (hint0 loopsOf)
noncomputable def C1 : Ctx := mkctx bs [(87, blSp)] [] (hint0 loopsOf)
noncomputable def C2 : Ctx := mkctx bs [(83, isqSp)
  , (70, isqSp)
  ] [] (hint0 loopsOf)
noncomputable def C3 : Ctx := mkctx bs [(51, lowSp), (52, highSp)
  , (53, lowSp), (54, highSp)
  ] [] (hint0 loopsOf)

theorem len_nf (n : Int) : fnwp C0 5 87 blSp n = ((decide ((4294967296 : Int) ≤ n) = true → ((0 : Int) ≤ (32 : Int) ∧ (32 : Int) ≤ (64 : Int)) ∧ (decide ((65536 : Int) ≤ n / (2 :
  Int) ^ (32 : Nat)) = true → ((0 : Int) ≤ (16 : Int) ∧ (16 : Int) ≤ (64 : Int)) ∧ isI64 (48 : Int) ∧ (decide ((256 : Int) ≤ n / (2 : Int) ^ (32 : Nat) / (2 : Int) ^ (16 : Nat)) =
  true → ((0 : Int) ≤ (8 : Int) ∧ (8 : Int) ≤ (64 : Int)) ∧ isI64 (56 : Int) ∧ ((0 : Int) ≤ IntKind.u8.wrap (n / (2 : Int) ^ (32 : Nat) / (2 : Int) ^ (16 : Nat) / (2 : Int) ^ (8 :
  Nat)) ∧ IntKind.u8.wrap (n / (2 : Int) ^ (32 : Nat) / (2 : Int) ^ (16 : Nat) / (2 : Int) ^ (8 : Nat)) < (↑(256 : Nat) : Int)) ∧ isI64 ((56 : Int) + IntKind.i64.wrap (tab1.getD
  (IntKind.u8.wrap (n / (2 : Int) ^ (32 : Nat) / (2 : Int) ^ (16 : Nat) / (2 : Int) ^ (8 : Nat))).toNat (0 : Int))) ∧ (56 : Int) + IntKind.i64.wrap (tab1.getD (IntKind.u8.wrap (n /
  (2 : Int) ^ (32 : Nat) / (2 : Int) ^ (16 : Nat) / (2 : Int) ^ (8 : Nat))).toNat (0 : Int)) = blen n) ∧ (decide ((256 : Int) ≤ n / (2 : Int) ^ (32 : Nat) / (2 : Int) ^ (16 : Nat))
  = false → ((0 : Int) ≤ IntKind.u8.wrap (n / (2 : Int) ^ (32 : Nat) / (2 : Int) ^ (16 : Nat)) ∧ IntKind.u8.wrap (n / (2 : Int) ^ (32 : Nat) / (2 : Int) ^ (16 : Nat)) < (↑(256 :
  Nat) : Int)) ∧ isI64 ((48 : Int) + IntKind.i64.wrap (tab1.getD (IntKind.u8.wrap (n / (2 : Int) ^ (32 : Nat) / (2 : Int) ^ (16 : Nat))).toNat (0 : Int))) ∧ (48 : Int) +
  IntKind.i64.wrap (tab1.getD (IntKind.u8.wrap (n / (2 : Int) ^ (32 : Nat) / (2 : Int) ^ (16 : Nat))).toNat (0 : Int)) = blen n)) ∧ (decide ((65536 : Int) ≤ n / (2 : Int) ^ (32 :
  Nat)) = false → (decide ((256 : Int) ≤ n / (2 : Int) ^ (32 : Nat)) = true → ((0 : Int) ≤ (8 : Int) ∧ (8 : Int) ≤ (64 : Int)) ∧ isI64 (40 : Int) ∧ ((0 : Int) ≤ IntKind.u8.wrap (n
  / (2 : Int) ^ (32 : Nat) / (2 : Int) ^ (8 : Nat)) ∧ IntKind.u8.wrap (n / (2 : Int) ^ (32 : Nat) / (2 : Int) ^ (8 : Nat)) < (↑(256 : Nat) : Int)) ∧ isI64 ((40 : Int) +
  IntKind.i64.wrap (tab1.getD (IntKind.u8.wrap (n / (2 : Int) ^ (32 : Nat) / (2 : Int) ^ (8 : Nat))).toNat (0 : Int))) ∧ (40 : Int) + IntKind.i64.wrap (tab1.getD (IntKind.u8.wrap
  (n / (2 : Int) ^ (32 : Nat) / (2 : Int) ^ (8 : Nat))).toNat (0 : Int)) = blen n) ∧ (decide ((256 : Int) ≤ n / (2 : Int) ^ (32 : Nat)) = false → ((0 : Int) ≤ IntKind.u8.wrap (n /
  (2 : Int) ^ (32 : Nat)) ∧ IntKind.u8.wrap (n / (2 : Int) ^ (32 : Nat)) < (↑(256 : Nat) : Int)) ∧ isI64 ((32 : Int) + IntKind.i64.wrap (tab1.getD (IntKind.u8.wrap (n / (2 : Int) ^
  (32 : Nat))).toNat (0 : Int))) ∧ (32 : Int) + IntKind.i64.wrap (tab1.getD (IntKind.u8.wrap (n / (2 : Int) ^ (32 : Nat))).toNat (0 : Int)) = blen n))) ∧ (decide ((4294967296 :
  Int) ≤ n) = false → (decide ((65536 : Int) ≤ n) = true → ((0 : Int) ≤ (16 : Int) ∧ (16 : Int) ≤ (64 : Int)) ∧ isI64 (16 : Int) ∧ (decide ((256 : Int) ≤ n / (2 : Int) ^ (16 :
  Nat)) = true → ((0 : Int) ≤ (8 : Int) ∧ (8 : Int) ≤ (64 : Int)) ∧ isI64 (24 : Int) ∧ ((0 : Int) ≤ IntKind.u8.wrap (n / (2 : Int) ^ (16 : Nat) / (2 : Int) ^ (8 : Nat)) ∧
  IntKind.u8.wrap (n / (2 : Int) ^ (16 : Nat) / (2 : Int) ^ (8 : Nat)) < (↑(256 : Nat) : Int)) ∧ isI64 ((24 : Int) + IntKind.i64.wrap (tab1.getD (IntKind.u8.wrap (n / (2 : Int) ^
  (16 : Nat) / (2 : Int) ^ (8 : Nat))).toNat (0 : Int))) ∧ (24 : Int) + IntKind.i64.wrap (tab1.getD (IntKind.u8.wrap (n / (2 : Int) ^ (16 : Nat) / (2 : Int) ^ (8 : Nat))).toNat (0
  : Int)) = blen n) ∧ (decide ((256 : Int) ≤ n / (2 : Int) ^ (16 : Nat)) = false → ((0 : Int) ≤ IntKind.u8.wrap (n / (2 : Int) ^ (16 : Nat)) ∧ IntKind.u8.wrap (n / (2 : Int) ^ (16
  : Nat)) < (↑(256 : Nat) : Int)) ∧ isI64 ((16 : Int) + IntKind.i64.wrap (tab1.getD (IntKind.u8.wrap (n / (2 : Int) ^ (16 : Nat))).toNat (0 : Int))) ∧ (16 : Int) + IntKind.i64.wrap
  (tab1.getD (IntKind.u8.wrap (n / (2 : Int) ^ (16 : Nat))).toNat (0 : Int)) = blen n)) ∧ (decide ((65536 : Int) ≤ n) = false → (decide ((256 : Int) ≤ n) = true → ((0 : Int) ≤ (8 :
  Int) ∧ (8 : Int) ≤ (64 : Int)) ∧ isI64 (8 : Int) ∧ ((0 : Int) ≤ IntKind.u8.wrap (n / (2 : Int) ^ (8 : Nat)) ∧ IntKind.u8.wrap (n / (2 : Int) ^ (8 : Nat)) < (↑(256 : Nat) : Int))
  ∧ isI64 ((8 : Int) + IntKind.i64.wrap (tab1.getD (IntKind.u8.wrap (n / (2 : Int) ^ (8 : Nat))).toNat (0 : Int))) ∧ (8 : Int) + IntKind.i64.wrap (tab1.getD (IntKind.u8.wrap (n /
  (2 : Int) ^ (8 : Nat))).toNat (0 : Int)) = blen n) ∧ (decide ((256 : Int) ≤ n) = false → ((0 : Int) ≤ IntKind.u8.wrap n ∧ IntKind.u8.wrap n < (↑(256 : Nat) : Int)) ∧ isI64 ((0 :
  Int) + IntKind.i64.wrap (tab1.getD (IntKind.u8.wrap n).toNat (0 : Int))) ∧ (0 : Int) + IntKind.i64.wrap (tab1.getD (IntKind.u8.wrap n).toNat (0 : Int)) = blen n)))) := by
  kernel_rfl
theorem isq_nf (n : Int) : fnwp C1 5 83 isqSp n = ((decide (max (0 : Int) (min n (1152921504606846976 : Int)) = (0 : Int)) = true → (0 : Int) = isq n) ∧ (decide (max (0 : Int) (min
  n (1152921504606846976 : Int)) = (0 : Int)) = false → True ∧ isI64 (blen (IntKind.u64.wrap (max (0 : Int) (min n (1152921504606846976 : Int)))) + (1 : Int)) ∧ ((2 : Int) ≠ (0 :
  Int) ∧ isI64 ((blen (IntKind.u64.wrap (max (0 : Int) (min n (1152921504606846976 : Int)))) + (1 : Int)).tdiv (2 : Int))) ∧ ((0 : Int) ≤ (blen (IntKind.u64.wrap (max (0 : Int)
  (min n (1152921504606846976 : Int)))) + (1 : Int)).tdiv (2 : Int) ∧ (blen (IntKind.u64.wrap (max (0 : Int) (min n (1152921504606846976 : Int)))) + (1 : Int)).tdiv (2 : Int) ≤ (63
  : Int) ∧ isI64 ((1 : Int) * (2 : Int) ^ ((blen (IntKind.u64.wrap (max (0 : Int) (min n (1152921504606846976 : Int)))) + (1 : Int)).tdiv (2 : Int)).toNat)) ∧ ∃ (I : Int → Prop), ∃
  (μ : Int → Nat), I ((1 : Int) * (2 : Int) ^ ((blen (IntKind.u64.wrap (max (0 : Int) (min n (1152921504606846976 : Int)))) + (1 : Int)).tdiv (2 : Int)).toNat) ∧ ∀ (x : Int), I x →
  (x ≠ (0 : Int) ∧ isI64 ((max (0 : Int) (min n (1152921504606846976 : Int))).tdiv x)) ∧ isI64 (x + (max (0 : Int) (min n (1152921504606846976 : Int))).tdiv x) ∧ ((2 : Int) ≠ (0 :
  Int) ∧ isI64 ((x + (max (0 : Int) (min n (1152921504606846976 : Int))).tdiv x).tdiv (2 : Int))) ∧ (decide (x ≤ (x + (max (0 : Int) (min n (1152921504606846976 : Int))).tdiv
  x).tdiv (2 : Int)) = true → x = isq n) ∧ (decide (x ≤ (x + (max (0 : Int) (min n (1152921504606846976 : Int))).tdiv x).tdiv (2 : Int)) = false → I ((x + (max (0 : Int) (min n
  (1152921504606846976 : Int))).tdiv x).tdiv (2 : Int)) ∧ μ ((x + (max (0 : Int) (min n (1152921504606846976 : Int))).tdiv x).tdiv (2 : Int)) < μ x))) := by kernel_rfl
theorem isq2_nf (n : Int) : fnwp C1 5 70 isqSp n = ((decide ((1152921504606846976 : Int) < n) = true → ∃ (I : Int × Int → Prop), ∃ (μ : Int × Int → Nat), I ((0 : Int), (30 : Int))
  ∧ ∀ (x : Int × Int), I x → (decide ((0 : Int) ≤ x.snd) = true → ((0 : Int) ≤ x.snd ∧ x.snd ≤ (63 : Int) ∧ isI64 ((1 : Int) * (2 : Int) ^ x.snd.toNat)) ∧ isI64 (x.fst + (1 : Int)
  * (2 : Int) ^ x.snd.toNat) ∧ isI64 ((x.fst + (1 : Int) * (2 : Int) ^ x.snd.toNat) * (x.fst + (1 : Int) * (2 : Int) ^ x.snd.toNat)) ∧ (decide ((x.fst + (1 : Int) * (2 : Int) ^
  x.snd.toNat) * (x.fst + (1 : Int) * (2 : Int) ^ x.snd.toNat) ≤ (1152921504606846976 : Int)) = true → isI64 (x.snd - (1 : Int)) ∧ I (x.fst + (1 : Int) * (2 : Int) ^ x.snd.toNat,
  x.snd - (1 : Int)) ∧ μ (x.fst + (1 : Int) * (2 : Int) ^ x.snd.toNat, x.snd - (1 : Int)) < μ x) ∧ (decide ((x.fst + (1 : Int) * (2 : Int) ^ x.snd.toNat) * (x.fst + (1 : Int) * (2
  : Int) ^ x.snd.toNat) ≤ (1152921504606846976 : Int)) = false → isI64 (x.snd - (1 : Int)) ∧ I (x.fst, x.snd - (1 : Int)) ∧ μ (x.fst, x.snd - (1 : Int)) < μ x)) ∧ (decide ((0 :
  Int) ≤ x.snd) = false → x.fst = isq n)) ∧ (decide ((1152921504606846976 : Int) < n) = false → ∃ (I : Int × Int → Prop), ∃ (μ : Int × Int → Nat), I ((0 : Int), (30 : Int)) ∧ ∀ (x
  : Int × Int), I x → (decide ((0 : Int) ≤ x.snd) = true → ((0 : Int) ≤ x.snd ∧ x.snd ≤ (63 : Int) ∧ isI64 ((1 : Int) * (2 : Int) ^ x.snd.toNat)) ∧ isI64 (x.fst + (1 : Int) * (2 :
  Int) ^ x.snd.toNat) ∧ isI64 ((x.fst + (1 : Int) * (2 : Int) ^ x.snd.toNat) * (x.fst + (1 : Int) * (2 : Int) ^ x.snd.toNat)) ∧ (decide ((x.fst + (1 : Int) * (2 : Int) ^
  x.snd.toNat) * (x.fst + (1 : Int) * (2 : Int) ^ x.snd.toNat) ≤ n) = true → isI64 (x.snd - (1 : Int)) ∧ I (x.fst + (1 : Int) * (2 : Int) ^ x.snd.toNat, x.snd - (1 : Int)) ∧ μ
  (x.fst + (1 : Int) * (2 : Int) ^ x.snd.toNat, x.snd - (1 : Int)) < μ x) ∧ (decide ((x.fst + (1 : Int) * (2 : Int) ^ x.snd.toNat) * (x.fst + (1 : Int) * (2 : Int) ^ x.snd.toNat) ≤
  n) = false → isI64 (x.snd - (1 : Int)) ∧ I (x.fst, x.snd - (1 : Int)) ∧ μ (x.fst, x.snd - (1 : Int)) < μ x)) ∧ (decide ((0 : Int) ≤ x.snd) = false → x.fst = isq n))) := by
  kernel_rfl
theorem low_nf (m a b : Int) : fnwp C2 5 51 lowSp (m, a, b) = ((decide (m = (2 : Int)) = true → isI64 (a + b) ∧ isI64 ((4 : Int) * a) ∧ isI64 ((4 : Int) * a * b) ∧ True ∧ isI64
  ((-1 : Int) * isq ((4 : Int) * a * b)) ∧ isI64 (a + b + (-1 : Int) * isq ((4 : Int) * a * b)) ∧ a + b + (-1 : Int) * isq ((4 : Int) * a * b) = lowS m a b) ∧ (decide (m = (2 :
  Int)) = false → isI64 (max a b - min a b) ∧ max a b - min a b = lowS m a b)) := by kernel_rfl
theorem high_nf (m a b : Int) : fnwp C2 5 52 highSp (m, a, b) = ((decide (m = (2 : Int)) = true → isI64 (a + b) ∧ isI64 ((4 : Int) * a) ∧ isI64 ((4 : Int) * a * b) ∧ True ∧ isI64
  ((1 : Int) * isq ((4 : Int) * a * b)) ∧ isI64 (a + b + (1 : Int) * isq ((4 : Int) * a * b)) ∧ min (a + b + (1 : Int) * isq ((4 : Int) * a * b)) (134217728 : Int) = highS m a b) ∧
  (decide (m = (2 : Int)) = false → isI64 (a + b) ∧ min (a + b) (134217728 : Int) = highS m a b)) := by kernel_rfl
theorem low2_nf (m a b : Int) : fnwp C2 5 53 lowSp (m, a, b) = ((decide (m = (2 : Int)) = true → isI64 (a + b) ∧ isI64 ((4 : Int) * a) ∧ isI64 ((4 : Int) * a * b) ∧ True ∧ isI64 (a
  + b - isq ((4 : Int) * a * b)) ∧ a + b - isq ((4 : Int) * a * b) = lowS m a b) ∧ (decide (m = (2 : Int)) = false → (decide (a < b) = true → isI64 (b - a) ∧ b - a = lowS m a b) ∧
  (decide (a < b) = false → isI64 (a - b) ∧ a - b = lowS m a b))) := by kernel_rfl
theorem high2_nf (m a b : Int) : fnwp C2 5 54 highSp (m, a, b) = (isI64 (a + b) ∧ (decide (m = (2 : Int)) = true → isI64 ((4 : Int) * a) ∧ isI64 ((4 : Int) * a * b) ∧ True ∧ isI64
  (a + b + isq ((4 : Int) * a * b)) ∧ (decide ((134217728 : Int) < a + b + isq ((4 : Int) * a * b)) = true → (134217728 : Int) = highS m a b) ∧ (decide ((134217728 : Int) < a + b +
  isq ((4 : Int) * a * b)) = false → a + b + isq ((4 : Int) * a * b) = highS m a b)) ∧ (decide (m = (2 : Int)) = false → (decide ((134217728 : Int) < a + b) = true → (134217728 :
  Int) = highS m a b) ∧ (decide ((134217728 : Int) < a + b) = false → a + b = highS m a b))) := by kernel_rfl
end Go.Proofs.Ytjppchomonpfgaa
