import Derived.Test.YtdnofflnfchcbaaXj
namespace Go.PL
open Go.AM
set_option linter.unusedVariables false
theorem wrap_u16 {n : Int} (h : 0 ≤ n ∧ n ≤ 65535) : IntKind.i64.wrap n = n := wrap_has (by unfold IntKind.has; exact ⟨by show (-9223372036854775808 : Int) ≤ n; omega, by show n ≤ (9223372036854775807 : Int); omega⟩)
theorem has_u16 {c : Int} (h : IntKind.u16.has c) : 0 ≤ c ∧ c ≤ 65535 := h
end Go.PL
namespace Go.Proofs.Ytdnofflnfchcbaa
open Go.AM Go.PL
set_option linter.unusedVariables false
theorem sat_sanity : Sat Try.prog 10 sanSp := by
  refine sat_nf (C := BS) ssBS (fun _ => sanity_nf) fun _ _ _ => ?_
  have i : ∀ n : Int, 0 ≤ n → n ≤ 10 → isI64 n := fun n h h' => i64s (by omega) (by omega)
  simp only [true_and, and_true]
  repeat' apply And.intro
  all_goals first | exact i _ (by decide) (by decide) | decide
theorem sat_short : Sat Try.prog 33 shortSp := by
  refine sat_nf (C := BL0) ssBL0 short_nf fun (l : List (List Int)) hk hp => ?_
  refine ⟨fun x => 0 ≤ x ∧ x ≤ l.length ∧ ∀ j : Nat, (j : Int) < x → (l.getD j []).length ≤ 40, fun x => ((l.length : Int) - x).toNat, ⟨by omega, by omega, fun j hj => by omega⟩, fun x ⟨h0, h1, h2⟩ => ⟨fun c => ?_, fun c => ?_⟩⟩
  · have c := dt c
    refine ⟨⟨h0, c⟩, fun g => is_no fun h => ?_, fun g => ⟨i64_lt h0 c hk.1, ⟨by omega, by omega, upd_all h0 h2 (by have := df g; omega)⟩, by dsimp only; omega⟩⟩
    have := (shortB_iff.1 h).1 x.toNat (by omega)
    have := dt g
    omega
  · have c := df c
    exact dec_is ⟨fun h => shortB_iff.2 ⟨fun i hi => h2 i (by omega), by omega⟩, fun h => by have := (shortB_iff.1 h).2; omega⟩
theorem sat_inner : Sat Try.prog 27 innerSp := by
  refine sat_nf (C := BL0) ssBL0 (fun x => inner_nf x.1 x.2) fun (⟨b, p⟩ : Box × List Int) hk hp => ?_
  have hb : bval b = true := hp
  have l := bval_len hb
  dsimp only
  refine ⟨fun x => 0 ≤ x.2 ∧ x.2 ≤ b.1.length ∧ x.1 = tab x.2.toNat (fun k => at_ b.1 k + Int.tmod (if k < p.length then at_ p k else 0) (at_ b.2.1 k - at_ b.1 k + 1)), fun x => ((b.1.length : Int) - x.2).toNat, ⟨by simp, by simp, rfl⟩, fun ⟨o, i⟩ ⟨h0, h1, h2⟩ => ?_⟩
  dsimp only at h0 h1 h2 ⊢
  have l1 : o.length = i.toNat := by rw [h2, tab_length]
  have ht := tab_succ i.toNat (fun k => at_ b.1 k + Int.tmod (if k < p.length then at_ p k else 0) (at_ b.2.1 k - at_ b.1 k + 1))
  rw [← succ_toNat h0, ← h2] at ht
  have k := bval_at hb i.toNat
  refine ⟨fun c => ?_, fun c => by rw [h2, end_toNat h1 (df c)]; rfl⟩
  have c := dt c
  have hi : isI64 (i + 1) := i64s (by omega) (by omega)
  have hr : ∀ z : Int, roomP BL0 3 (o.length + [z].length) := fun z => roomI bytesI (by rw [l1]; simp; omega)
  have hw : b.2.1.getD i.toNat 0 - b.1.getD i.toNat 0 + 1 ≥ 1 := by omega
  refine ⟨fun g => ?_, fun g => ?_⟩
  · have g := dt g
    have hpi : 0 ≤ p.getD i.toNat 0 ∧ p.getD i.toNat 0 ≤ 65535 := has_u16 (hk.2.2 _ (Go.PL.getD_mem p 0 (by omega)))
    rw [wrap_u16 hpi]
    rw [if_pos (show i.toNat < p.length by omega)] at ht
    have hm := Int.tmod_nonneg (b.2.1.getD i.toNat 0 - b.1.getD i.toNat 0 + 1) hpi.1
    have hm' := Int.tmod_lt_of_pos (p.getD i.toNat 0) (show 0 < b.2.1.getD i.toNat 0 - b.1.getD i.toNat 0 + 1 by omega)
    exact ⟨⟨h0, g⟩, ⟨h0, c⟩, ⟨h0, by omega⟩, ⟨h0, c⟩, i64s (by omega) (by omega), i64s (by omega) (by omega), by omega, i64s (by omega) (by omega), hr _, hi, ⟨by omega, by omega, ht.symm⟩, by omega⟩
  · have g := df g
    rw [if_neg (show ¬ i.toNat < p.length by omega)] at ht
    have e : Int.tmod 0 (b.2.1.getD i.toNat 0 - b.1.getD i.toNat 0 + 1) = 0 := Int.zero_tmod _
    exact ⟨⟨h0, c⟩, ⟨h0, by omega⟩, ⟨h0, c⟩, i64s (by omega) (by omega), i64s (by omega) (by omega), by omega, by rw [e]; exact i64s (by omega) (by omega), hr _, hi, ⟨by omega, by omega, ht.symm⟩, by omega⟩
def tB5 : List (FuncId × FSpec) := (10, sanSp) :: (33, shortSp) :: (27, innerSp) :: tB4
theorem satB5 : AllSat bs.P tB5 := ⟨sat_sanity, sat_short, sat_inner, satB4⟩
def loopsLaw (f : FuncId) (r : Nat) : List LA :=
  if Nat.beq f 8 then (if Nat.beq r 6 then [.slot 11 I, .cell 0 0 L, .cell 0 1 L] else if Nat.beq r 11 then [.slot 12 I, .cell 0 0 L, .cell 0 1 L] else [.slot 15 I, .slot 13 .bool, .slot 14 .bool, .cell 0 0 L, .cell 0 1 L]) else
  []
def yesR (f : FuncId) : List Nat :=
  if Nat.beq f 7 then [9, 10] else
  if Nat.beq f 3 then [13, 14, 15] else
  if Nat.beq f 4 then [7, 13] else
  if Nat.beq f 5 then [7] else
  if Nat.beq f 6 then [6, 12, 20, 21] else
  if Nat.beq f 8 then [28, 35] else
  []
def noC (f : FuncId) : List Nat :=
  if Nat.beq f 4 then [110] else
  if Nat.beq f 6 then [131, 168] else
  if Nat.beq f 8 then [186] else
  []
def hintLaw (f : FuncId) : Hint := ⟨loopsLaw f, fun r => bif memN r (yesR f) then .yes else .split, fun t => bif memN t (noC f) then .no else .split, fun _ => 0⟩
noncomputable def BLW : Ctx := mkctx bs tB5 [] hintLaw
theorem ssBLW : SpecSound BLW := mkctx_sound satB5 trivial
abbrev PK : Ty := .arr U16
end Go.Proofs.Ytdnofflnfchcbaa
