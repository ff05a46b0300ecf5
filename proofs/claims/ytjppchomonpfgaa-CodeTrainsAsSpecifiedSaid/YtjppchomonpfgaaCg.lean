import Derived.Test.YtjppchomonpfgaaCe
namespace Go.Proofs.Ytjppchomonpfgaa
open Go.AM Go.PL
set_option linter.unusedVariables false
def loopsT (l ps qs : List LA) (f : FuncId) (r : Nat) : List LA := if Nat.beq f 26 then l else loopsC ps qs f r
def hintT8 (l ps qs : List LA) (f : FuncId) : Hint := ⟨loopsT l ps qs f, fun r => .split, fun _ => .split, fun _ => 0⟩
noncomputable def DT (l ps : List LA) : Ctx := mkctx bs tD1 [] (hintT8 l ps [])
theorem tbl3_nf (b : Book) (m : Int) (v : List Int) : fnwp (DT [.gslot 9 3 I, .slot 25 I, .gcell 0 0 22 L, .cell 3 0 I, .cell 3 1 I, .cell 3 2 I] [.gcell 0 0 22 L]) 7 26 tblSp (b,
  m, v) = (∃ (I : Int × List (List Int) → Prop), ∃ (μ : Int × List (List Int) → Nat), I ((0 : Int), []) ∧ ∀ (x : Int × List (List Int)), I x → (decide (x.fst < (↑b.snd.fst.length :
  Int)) = true → ((0 : Int) ≤ x.fst ∧ x.fst < (↑b.snd.fst.length : Int)) ∧ isI64 (x.fst + (1 : Int)) ∧ (decide (x.fst + (1 : Int) < (↑b.snd.fst.length : Int)) = true → isI64 (x.fst
  + (1 : Int)) ∧ ((0 : Int) ≤ x.fst + (1 : Int) ∧ x.fst + (1 : Int) < (↑b.snd.fst.length : Int)) ∧ ((0 : Int) ≤ x.fst ∧ x.fst < (↑b.snd.snd.fst.length : Int)) ∧ ∃ (I_1 : List Int ×
  Int × List (List Int) × Int × Int × Int → Prop), ∃ (μ_1 : List Int × Int × List (List Int) × Int × Int × Int → Nat), I_1 ([], (0 : Int), x.snd, x.fst, b.snd.fst.getD x.fst.toNat
  (0 : Int), b.snd.fst.getD (x.fst + (1 : Int)).toNat (0 : Int)) ∧ ∀ (x_1 : List Int × Int × List (List Int) × Int × Int × Int), I_1 x_1 → (decide (x_1.snd.fst <
  (↑(b.snd.snd.fst.getD x.fst.toNat []).length : Int)) = true → ((0 : Int) ≤ x_1.snd.fst ∧ x_1.snd.fst < (↑(b.snd.snd.fst.getD x.fst.toNat []).length : Int)) ∧ ((0 : Int) ≤
  x_1.snd.snd.snd.snd.fst ∧ x_1.snd.snd.snd.snd.fst ≤ x_1.snd.snd.snd.snd.snd ∧ x_1.snd.snd.snd.snd.snd ≤ (↑v.length : Int)) ∧ ((1 : Int) ≤ m ∧ m ≤ (3 : Int) ∧ small (64 : Nat)
  (4000 : Int) ((b.snd.snd.fst.getD x.fst.toNat []).getD x_1.snd.fst.toNat []) ∧ small (64 : Nat) (4000 : Int) (List.take (x_1.snd.snd.snd.snd.snd.toNat -
  x_1.snd.snd.snd.snd.fst.toNat) (List.drop x_1.snd.snd.snd.snd.fst.toNat v)) ∧ ((b.snd.snd.fst.getD x.fst.toNat []).getD x_1.snd.fst.toNat []).length = (List.take
  (x_1.snd.snd.snd.snd.snd.toNat - x_1.snd.snd.snd.snd.fst.toNat) (List.drop x_1.snd.snd.snd.snd.fst.toNat v)).length) ∧ roomP (DT [LA.gslot (9 : Nat) (3 : Nat) Ytjppchomonpfgaa.I,
  LA.slot (25 : Nat) Ytjppchomonpfgaa.I, LA.gcell (0 : Nat) (0 : Nat) (22 : Nat) L, LA.cell (3 : Nat) (0 : Nat) Ytjppchomonpfgaa.I, LA.cell (3 : Nat) (1 : Nat) Ytjppchomonpfgaa.I,
  LA.cell (3 : Nat) (2 : Nat) Ytjppchomonpfgaa.I] [LA.gcell (0 : Nat) (0 : Nat) (22 : Nat) L]) (3 : Nat) (x_1.fst.length + [keyS m ((b.snd.snd.fst.getD x.fst.toNat []).getD
  x_1.snd.fst.toNat []) (List.take (x_1.snd.snd.snd.snd.snd.toNat - x_1.snd.snd.snd.snd.fst.toNat) (List.drop x_1.snd.snd.snd.snd.fst.toNat v))].length) ∧ isI64 (x_1.snd.fst + (1 :
  Int)) ∧ I_1 (x_1.fst ++ [keyS m ((b.snd.snd.fst.getD x.fst.toNat []).getD x_1.snd.fst.toNat []) (List.take (x_1.snd.snd.snd.snd.snd.toNat - x_1.snd.snd.snd.snd.fst.toNat)
  (List.drop x_1.snd.snd.snd.snd.fst.toNat v))], x_1.snd.fst + (1 : Int), x_1.snd.snd.fst, x_1.snd.snd.snd.fst, x_1.snd.snd.snd.snd.fst, x_1.snd.snd.snd.snd.snd) ∧ μ_1 (x_1.fst ++
  [keyS m ((b.snd.snd.fst.getD x.fst.toNat []).getD x_1.snd.fst.toNat []) (List.take (x_1.snd.snd.snd.snd.snd.toNat - x_1.snd.snd.snd.snd.fst.toNat) (List.drop
  x_1.snd.snd.snd.snd.fst.toNat v))], x_1.snd.fst + (1 : Int), x_1.snd.snd.fst, x_1.snd.snd.snd.fst, x_1.snd.snd.snd.snd.fst, x_1.snd.snd.snd.snd.snd) < μ_1 x_1) ∧ (decide
  (x_1.snd.fst < (↑(b.snd.snd.fst.getD x.fst.toNat []).length : Int)) = false → roomP (DT [LA.gslot (9 : Nat) (3 : Nat) Ytjppchomonpfgaa.I, LA.slot (25 : Nat) Ytjppchomonpfgaa.I,
  LA.gcell (0 : Nat) (0 : Nat) (22 : Nat) L, LA.cell (3 : Nat) (0 : Nat) Ytjppchomonpfgaa.I, LA.cell (3 : Nat) (1 : Nat) Ytjppchomonpfgaa.I, LA.cell (3 : Nat) (2 : Nat)
  Ytjppchomonpfgaa.I] [LA.gcell (0 : Nat) (0 : Nat) (22 : Nat) L]) (22 : Nat) (x_1.snd.snd.fst.length + [x_1.fst].length) ∧ isI64 (x.fst + (1 : Int)) ∧ I (x.fst + (1 : Int),
  x_1.snd.snd.fst ++ [x_1.fst]) ∧ μ (x.fst + (1 : Int), x_1.snd.snd.fst ++ [x_1.fst]) < μ x)) ∧ (decide (x.fst + (1 : Int) < (↑b.snd.fst.length : Int)) = false → ((0 : Int) ≤ x.fst
  ∧ x.fst < (↑b.snd.snd.fst.length : Int)) ∧ ∃ (I_1 : List Int × Int × List (List Int) × Int × Int × Int → Prop), ∃ (μ_1 : List Int × Int × List (List Int) × Int × Int × Int →
  Nat), I_1 ([], (0 : Int), x.snd, x.fst, b.snd.fst.getD x.fst.toNat (0 : Int), b.fst) ∧ ∀ (x_1 : List Int × Int × List (List Int) × Int × Int × Int), I_1 x_1 → (decide
  (x_1.snd.fst < (↑(b.snd.snd.fst.getD x.fst.toNat []).length : Int)) = true → ((0 : Int) ≤ x_1.snd.fst ∧ x_1.snd.fst < (↑(b.snd.snd.fst.getD x.fst.toNat []).length : Int)) ∧ ((0 :
  Int) ≤ x_1.snd.snd.snd.snd.fst ∧ x_1.snd.snd.snd.snd.fst ≤ x_1.snd.snd.snd.snd.snd ∧ x_1.snd.snd.snd.snd.snd ≤ (↑v.length : Int)) ∧ ((1 : Int) ≤ m ∧ m ≤ (3 : Int) ∧ small (64 :
  Nat) (4000 : Int) ((b.snd.snd.fst.getD x.fst.toNat []).getD x_1.snd.fst.toNat []) ∧ small (64 : Nat) (4000 : Int) (List.take (x_1.snd.snd.snd.snd.snd.toNat -
  x_1.snd.snd.snd.snd.fst.toNat) (List.drop x_1.snd.snd.snd.snd.fst.toNat v)) ∧ ((b.snd.snd.fst.getD x.fst.toNat []).getD x_1.snd.fst.toNat []).length = (List.take
  (x_1.snd.snd.snd.snd.snd.toNat - x_1.snd.snd.snd.snd.fst.toNat) (List.drop x_1.snd.snd.snd.snd.fst.toNat v)).length) ∧ roomP (DT [LA.gslot (9 : Nat) (3 : Nat) Ytjppchomonpfgaa.I,
  LA.slot (25 : Nat) Ytjppchomonpfgaa.I, LA.gcell (0 : Nat) (0 : Nat) (22 : Nat) L, LA.cell (3 : Nat) (0 : Nat) Ytjppchomonpfgaa.I, LA.cell (3 : Nat) (1 : Nat) Ytjppchomonpfgaa.I,
  LA.cell (3 : Nat) (2 : Nat) Ytjppchomonpfgaa.I] [LA.gcell (0 : Nat) (0 : Nat) (22 : Nat) L]) (3 : Nat) (x_1.fst.length + [keyS m ((b.snd.snd.fst.getD x.fst.toNat []).getD
  x_1.snd.fst.toNat []) (List.take (x_1.snd.snd.snd.snd.snd.toNat - x_1.snd.snd.snd.snd.fst.toNat) (List.drop x_1.snd.snd.snd.snd.fst.toNat v))].length) ∧ isI64 (x_1.snd.fst + (1 :
  Int)) ∧ I_1 (x_1.fst ++ [keyS m ((b.snd.snd.fst.getD x.fst.toNat []).getD x_1.snd.fst.toNat []) (List.take (x_1.snd.snd.snd.snd.snd.toNat - x_1.snd.snd.snd.snd.fst.toNat)
  (List.drop x_1.snd.snd.snd.snd.fst.toNat v))], x_1.snd.fst + (1 : Int), x_1.snd.snd.fst, x_1.snd.snd.snd.fst, x_1.snd.snd.snd.snd.fst, x_1.snd.snd.snd.snd.snd) ∧ μ_1 (x_1.fst ++
  [keyS m ((b.snd.snd.fst.getD x.fst.toNat []).getD x_1.snd.fst.toNat []) (List.take (x_1.snd.snd.snd.snd.snd.toNat - x_1.snd.snd.snd.snd.fst.toNat) (List.drop
  x_1.snd.snd.snd.snd.fst.toNat v))], x_1.snd.fst + (1 : Int), x_1.snd.snd.fst, x_1.snd.snd.snd.fst, x_1.snd.snd.snd.snd.fst, x_1.snd.snd.snd.snd.snd) < μ_1 x_1) ∧ (decide
  (x_1.snd.fst < (↑(b.snd.snd.fst.getD x.fst.toNat []).length : Int)) = false → roomP (DT [LA.gslot (9 : Nat) (3 : Nat) Ytjppchomonpfgaa.I, LA.slot (25 : Nat) Ytjppchomonpfgaa.I,
  LA.gcell (0 : Nat) (0 : Nat) (22 : Nat) L, LA.cell (3 : Nat) (0 : Nat) Ytjppchomonpfgaa.I, LA.cell (3 : Nat) (1 : Nat) Ytjppchomonpfgaa.I, LA.cell (3 : Nat) (2 : Nat)
  Ytjppchomonpfgaa.I] [LA.gcell (0 : Nat) (0 : Nat) (22 : Nat) L]) (22 : Nat) (x_1.snd.snd.fst.length + [x_1.fst].length) ∧ isI64 (x.fst + (1 : Int)) ∧ I (x.fst + (1 : Int),
  x_1.snd.snd.fst ++ [x_1.fst]) ∧ μ (x.fst + (1 : Int), x_1.snd.snd.fst ++ [x_1.fst]) < μ x))) ∧ (decide (x.fst < (↑b.snd.fst.length : Int)) = false → x.snd = tableS b m v)) := by
  kernel_rfl
theorem ssDT (l ps : List LA) : SpecSound (DT l ps) := mkctx_sound ⟨sat_cut, sat_rCut, sat_end, sat_ofp, sat_near, sat_rows, satD0⟩ trivial
end Go.Proofs.Ytjppchomonpfgaa
