import Derived.Test.YtgneefndofeoaaaWc
--@drop
namespace Go.PL
open Go.AM

/-! ### Lists, plain -/
def Dec.triple {α : Type} (d : Dec α) (z : α) : α × Int × Int :=
  match d with
  | .err e => (z, 0, e)
  | .ok x u => (x, u, 0)
def decLen (least : Int) (b : List Int) : Dec Int :=
  match decI b with
  | .err e => .err e
  | .ok n u => if n < 0 then .err 11 else if ((b.length : Int) - u) / least < n then .err 10 else .ok n u
def decBytes (b : List Int) : Dec (List Int) :=
  match decLen 1 b with
  | .err e => .err e
  | .ok n u => .ok ((b.drop u.toNat).take n.toNat) (u + n)
def decDigest (b : List Int) : Dec (List Int) := .ok (b.take 16) 16
/-- So many, one after the other, from a place on. -/
def decMany {α : Type} (one : List Int → Dec α) : Nat → Int → List Int → Dec (List α)
  | 0, at', _ => .ok [] at'
  | n + 1, at', b => match one b with
    | .err e => .err e
    | .ok x u => match decMany one n (at' + u) (b.drop u.toNat) with
      | .err e => .err e
      | .ok xs a => .ok (x :: xs) a
def decList {α : Type} (least : Int) (one : List Int → Dec α) (b : List Int) : Dec (List α) :=
  match decLen least b with
  | .err e => .err e
  | .ok n u => decMany one n.toNat u (b.drop u.toNat)
/-- What was decoded before comes first. -/
def Dec.pre {α : Type} (out : List α) : Dec (List α) → Dec (List α)
  | .err e => .err e
  | .ok xs u => .ok (out ++ xs) u
def encBytes (s : List Int) : List Int := encI s.length ++ s
def encList {α : Type} (one : α → List Int) (l : List α) : List Int := encI l.length ++ l.flatMap one
def fewB (l : List (List Int)) : Bool := decide (l.foldl (fun n s => n + (s.length : Int)) (l.length : Int) ≤ 2000)
end Go.PL
namespace Go.Proofs.Ytgneefndofeoaaa
open Go.AM Go.PL
set_option linter.unusedVariables false

def bytesG : GSpec := ⟨[.str], 5, U8, fun s => (s : List Int).length ≤ 100000, fun s => encBytes s⟩
def digestSp : FSpec := ⟨[DG], [BY], fun x => (x : List Int).length = 16, fun x => x⟩
def lenSp : FSpec := ⟨[BY, I], [I, I, I], fun x => (x.2 : Int) = 1 ∨ (x.2 : Int) = 16, fun x => ((decLen x.2 x.1).triple (0 : Int) : Int × Int × Int)⟩
def getBytesSp : FSpec := ⟨[BY], [.str, I, I], fun _ => True, fun b => ((decBytes b).triple [] : List Int × Int × Int)⟩
def getDigestSp : FSpec := ⟨[BY], [DG, I, I], fun b => 16 ≤ (b : List Int).length, fun b => ((decDigest b).triple [] : List Int × Int × Int)⟩
def small2 {α : Type} (l : List α) : Prop := l.length ≤ 100000
def intsSp : FSpec := ⟨[L], [BY], fun l => small2 (l : List Int), fun l => encList encI l⟩
def stringsSp : FSpec := ⟨[.arr .str], [BY], fun l => (∀ s ∈ (l : List (List Int)), s.length ≤ 100000) ∧ small2 (l : List (List Int)), fun l => encList encBytes l⟩
def digestsSp : FSpec := ⟨[.arr DG], [BY], fun l => small2 (l : List (List Int)), fun l => encList (fun x : List Int => x) l⟩
def getIntsSp : FSpec := ⟨[BY], [L, I, I], fun b => small2 (b : List Int), fun b => ((decList 1 decI b).triple [] : List Int × Int × Int)⟩
def getStringsSp : FSpec := ⟨[BY], [.arr .str, I, I], fun b => small2 (b : List Int), fun b => ((decList 1 decBytes b).triple [] : List (List Int) × Int × Int)⟩
def getDigestsSp : FSpec := ⟨[BY], [.arr DG, I, I], fun b => small2 (b : List Int), fun b => ((decList 16 decDigest b).triple [] : List (List Int) × Int × Int)⟩
def sameSp : FSpec := ⟨[BY, BY], [.bool], fun _ => True, fun x => decide ((x.1 : List Int) = x.2)⟩
def sameIntsSp : FSpec := ⟨[L, L], [.bool], fun _ => True, fun x => decide ((x.1 : List Int) = x.2)⟩
def sameTextsSp : FSpec := ⟨[.arr .str, .arr .str], [.bool], fun _ => True, fun x => decide ((x.1 : List (List Int)) = x.2)⟩
def sameDigestsSp : FSpec := ⟨[.arr DG, .arr DG], [.bool], fun _ => True, fun x => decide ((x.1 : List (List Int)) = x.2)⟩
def fewSp : FSpec := ⟨[.arr .str], [.bool], fun l => ∀ s ∈ (l : List (List Int)), s.length ≤ 140737488355328, fun l => fewB l⟩

def loopsX (f : FuncId) (r : Nat) : List LA :=
  if Nat.beq f 38 then [.gslot 5 5 U8, .slot 13 I] else
  if Nat.beq f 39 then [.gslot 5 5 U8, .slot 13 I] else
  if Nat.beq f 40 then [.gslot 5 5 U8, .slot 13 I] else
  if Nat.beq f 19 then [.gslot 3 5 U8, .slot 4 I] else
  if Nat.beq f 21 then [.gslot 3 5 U8, .slot 4 I] else
  if Nat.beq f 23 then [.gslot 3 5 U8, .slot 4 I] else
  if Nat.beq f 43 then [.gslot 12 3 I, .slot 10 I, .slot 27 I] else
  if Nat.beq f 45 then [.gslot 12 9 .str, .slot 10 I, .slot 27 I] else
  if Nat.beq f 46 then [.gslot 12 57 DG, .slot 10 I, .slot 27 I] else
  if Nat.beq f 29 then [.gslot 8 3 I, .slot 6 I, .slot 9 I] else
  if Nat.beq f 32 then [.gslot 8 9 .str, .slot 6 I, .slot 9 I] else
  if Nat.beq f 35 then [.gslot 8 57 DG, .slot 6 I, .slot 9 I] else
  if Nat.beq f 30 then [.slot 5 I] else
  if Nat.beq f 33 then [.slot 5 I] else
  if Nat.beq f 36 then [.slot 5 I] else
  if Nat.beq f 11 then [.slot 3 I, .slot 10 I] else
  loopsW f r
def isRGD (f : FuncId) : Bool :=
  Nat.beq f 35 ||
  false
def hintX (f : FuncId) : Hint := ⟨loopsX f, fun _ => .split, fun t => bif isRGD f && Nat.beq t 27 then .force else .split,
  fun r => bif isRGD f && Nat.beq r 10 then 20 else 0⟩

noncomputable def X0 : Ctx := mkctx bs [(14, intG.data), (15, intG.data)] [(14, intG), (15, intG)] hintX
theorem bytes_nf (s : List Int) : fnwpG X0 5 16 bytesG s = (True ∧ roomP X0 (5 : Nat) ((encI (↑s.length : Int)).length + s.length) ∧ encI (↑s.length : Int) ++ s = encBytes s) := by
  kernel_rfl
theorem rBytes_nf (s : List Int) : fnwpG X0 5 17 bytesG s = (True ∧ roomP X0 (5 : Nat) ((encI (↑s.length : Int)).length + s.length) ∧ encI (↑s.length : Int) ++ s = encBytes s) :=
  by kernel_rfl
theorem digest_nf (x : List Int) : fnwp X0 5 41 digestSp x = (∀ (b : Bool), (b = true → x = []) → (b = true → [] = x) ∧ (b = false → roomP X0 (5 : Nat) x.length ∧ x = x)) := by
  kernel_rfl
theorem ints_nf (l : List Int) : fnwp X0 5 18 intsSp l = (True ∧ ∃ (I : List Int × Int → Prop), ∃ (μ : List Int × Int → Nat), I (encI (↑l.length : Int), (0 : Int)) ∧ ∀ (x : List
  Int × Int), I x → (decide (x.snd < (↑l.length : Int)) = true → ((0 : Int) ≤ x.snd ∧ x.snd < (↑l.length : Int)) ∧ True ∧ roomP X0 (5 : Nat) (x.fst.length + (encI (l.getD
  x.snd.toNat (0 : Int))).length) ∧ isI64 (x.snd + (1 : Int)) ∧ I (x.fst ++ encI (l.getD x.snd.toNat (0 : Int)), x.snd + (1 : Int)) ∧ μ (x.fst ++ encI (l.getD x.snd.toNat (0 :
  Int)), x.snd + (1 : Int)) < μ x) ∧ (decide (x.snd < (↑l.length : Int)) = false → x.fst = encList encI l)) := by kernel_rfl
theorem rInts_nf (l : List Int) : fnwp X0 5 19 intsSp l = (True ∧ ∃ (I : List Int × Int → Prop), ∃ (μ : List Int × Int → Nat), I (encI (↑l.length : Int), (0 : Int)) ∧ ∀ (x : List
  Int × Int), I x → (decide (x.snd < (↑l.length : Int)) = true → ((0 : Int) ≤ x.snd ∧ x.snd < (↑l.length : Int)) ∧ True ∧ roomP X0 (5 : Nat) (x.fst.length + (encI (l.getD
  x.snd.toNat (0 : Int))).length) ∧ isI64 (x.snd + (1 : Int)) ∧ I (x.fst ++ encI (l.getD x.snd.toNat (0 : Int)), x.snd + (1 : Int)) ∧ μ (x.fst ++ encI (l.getD x.snd.toNat (0 :
  Int)), x.snd + (1 : Int)) < μ x) ∧ (decide (x.snd < (↑l.length : Int)) = false → x.fst = encList encI l)) := by kernel_rfl
theorem digests_nf (l : List (List Int)) : fnwp X0 5 22 digestsSp l = (True ∧ ∃ (I : List Int × Int → Prop), ∃ (μ : List Int × Int → Nat), I (encI (↑l.length : Int), (0 : Int)) ∧ ∀
  (x : List Int × Int), I x → (decide (x.snd < (↑l.length : Int)) = true → ((0 : Int) ≤ x.snd ∧ x.snd < (↑l.length : Int)) ∧ False) ∧ (decide (x.snd < (↑l.length : Int)) = false →
  x.fst = encList (fun (x : List Int) => x) l)) := by kernel_rfl
theorem rDigests_nf (l : List (List Int)) : fnwp X0 5 23 digestsSp l = (True ∧ ∃ (I : List Int × Int → Prop), ∃ (μ : List Int × Int → Nat), I (encI (↑l.length : Int), (0 : Int)) ∧
  ∀ (x : List Int × Int), I x → (decide (x.snd < (↑l.length : Int)) = true → ((0 : Int) ≤ x.snd ∧ x.snd < (↑l.length : Int)) ∧ roomP X0 (5 : Nat) (x.fst.length + (l.getD
  x.snd.toNat (List.replicate (16 : Nat) (0 : Int))).length) ∧ isI64 (x.snd + (1 : Int)) ∧ I (x.fst ++ l.getD x.snd.toNat (List.replicate (16 : Nat) (0 : Int)), x.snd + (1 : Int))
  ∧ μ (x.fst ++ l.getD x.snd.toNat (List.replicate (16 : Nat) (0 : Int)), x.snd + (1 : Int)) < μ x) ∧ (decide (x.snd < (↑l.length : Int)) = false → x.fst = encList (fun (x : List
  Int) => x) l)) := by kernel_rfl
theorem same_nf (a b : List Int) : fnwp X0 5 13 sameSp (a, b) = (decide (a = b) = decide (a = b)) := by kernel_rfl
theorem sameInts_nf (a b : List Int) : fnwp X0 5 30 sameIntsSp (a, b) = (((!decide ((↑a.length : Int) = (↑b.length : Int))) = true → false = decide (a = b)) ∧ ((!decide ((↑a.length
  : Int) = (↑b.length : Int))) = false → ∃ (I : Int → Prop), ∃ (μ : Int → Nat), I (0 : Int) ∧ ∀ (x : Int), I x → (decide (x < (↑a.length : Int)) = true → ((0 : Int) ≤ x ∧ x <
  (↑a.length : Int)) ∧ ((0 : Int) ≤ x ∧ x < (↑b.length : Int)) ∧ ((!decide (a.getD x.toNat (0 : Int) = b.getD x.toNat (0 : Int))) = true → false = decide (a = b)) ∧ ((!decide
  (a.getD x.toNat (0 : Int) = b.getD x.toNat (0 : Int))) = false → isI64 (x + (1 : Int)) ∧ I (x + (1 : Int)) ∧ μ (x + (1 : Int)) < μ x)) ∧ (decide (x < (↑a.length : Int)) = false →
  true = decide (a = b)))) := by kernel_rfl
theorem sameTexts_nf (a b : List (List Int)) : fnwp X0 5 33 sameTextsSp (a, b) = (((!decide ((↑a.length : Int) = (↑b.length : Int))) = true → false = decide (a = b)) ∧ ((!decide
  ((↑a.length : Int) = (↑b.length : Int))) = false → ∃ (I : Int → Prop), ∃ (μ : Int → Nat), I (0 : Int) ∧ ∀ (x : Int), I x → (decide (x < (↑a.length : Int)) = true → ((0 : Int) ≤ x
  ∧ x < (↑a.length : Int)) ∧ ((0 : Int) ≤ x ∧ x < (↑b.length : Int)) ∧ ((!decide (a.getD x.toNat [] = b.getD x.toNat [])) = true → false = decide (a = b)) ∧ ((!decide (a.getD
  x.toNat [] = b.getD x.toNat [])) = false → isI64 (x + (1 : Int)) ∧ I (x + (1 : Int)) ∧ μ (x + (1 : Int)) < μ x)) ∧ (decide (x < (↑a.length : Int)) = false → true = decide (a =
  b)))) := by kernel_rfl
theorem sameDigests_nf (a b : List (List Int)) : fnwp X0 5 36 sameDigestsSp (a, b) = (((!decide ((↑a.length : Int) = (↑b.length : Int))) = true → false = decide (a = b)) ∧
  ((!decide ((↑a.length : Int) = (↑b.length : Int))) = false → ∃ (I : Int → Prop), ∃ (μ : Int → Nat), I (0 : Int) ∧ ∀ (x : Int), I x → (decide (x < (↑a.length : Int)) = true → ((0
  : Int) ≤ x ∧ x < (↑a.length : Int)) ∧ ((0 : Int) ≤ x ∧ x < (↑b.length : Int)) ∧ ((!decide (a.getD x.toNat (List.replicate (16 : Nat) (0 : Int)) = b.getD x.toNat (List.replicate
  (16 : Nat) (0 : Int)))) = true → false = decide (a = b)) ∧ ((!decide (a.getD x.toNat (List.replicate (16 : Nat) (0 : Int)) = b.getD x.toNat (List.replicate (16 : Nat) (0 :
  Int)))) = false → isI64 (x + (1 : Int)) ∧ I (x + (1 : Int)) ∧ μ (x + (1 : Int)) < μ x)) ∧ (decide (x < (↑a.length : Int)) = false → true = decide (a = b)))) := by kernel_rfl
theorem few_nf (l : List (List Int)) : fnwp X0 5 11 fewSp l = (∃ (I : Int × Int → Prop), ∃ (μ : Int × Int → Nat), I ((↑l.length : Int), (0 : Int)) ∧ ∀ (x : Int × Int), I x →
  (decide (x.snd < (↑l.length : Int)) = true → ((0 : Int) ≤ x.snd ∧ x.snd < (↑l.length : Int)) ∧ isI64 (x.fst + (↑(l.getD x.snd.toNat []).length : Int)) ∧ isI64 (x.snd + (1 : Int))
  ∧ I (x.fst + (↑(l.getD x.snd.toNat []).length : Int), x.snd + (1 : Int)) ∧ μ (x.fst + (↑(l.getD x.snd.toNat []).length : Int), x.snd + (1 : Int)) < μ x) ∧ (decide (x.snd <
  (↑l.length : Int)) = false → decide (x.fst ≤ (2000 : Int)) = fewB l)) := by kernel_rfl
end Go.Proofs.Ytgneefndofeoaaa
