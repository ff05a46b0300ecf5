import Derived.Test.YtjppchomonpfgaaDb
import Derived.Test.YtjppchomonpfgaaDc
namespace Go.Proofs.Ytjppchomonpfgaa
open Go.AM Go.PL
set_option linter.unusedVariables false
theorem bytesLL24 : Try.prog.bytesOf 39 = 24 := by kernel_rfl
theorem sat_train : Sat Try.prog 31 trainSp := by
  refine sat_nf (C := E1) ssE1 (fun x => train_nf x.1 x.2.1 x.2.2) fun (⟨l, c, w⟩ : List (List Int) × List Int × Int) hk hp => ?_
  have b1 : alikeL l = false ∨ w < 1 → (noBook, (1 : Int)) = trainBk l c w := fun h => by unfold trainBk; rw [if_pos h]
  have b2 : ¬ (alikeL l = false ∨ w < 1) → 4096 < l.length ∨ 256 < w → (noBook, (2 : Int)) = trainBk l c w := fun h h' => by unfold trainBk; rw [if_neg h, if_pos h']
  have b3 : ¬ (alikeL l = false ∨ w < 1) → ¬ (4096 < l.length ∨ 256 < w) → cutB c (l.getD 0 []).length = false → (noBook, (80 : Int)) = trainBk l c w := fun h h' h2 => by unfold trainBk; rw [if_neg h, if_neg h', if_pos h2]
  dsimp only
  refine ⟨trivial, fun a => b1 (.inl (nt a)), fun a => ⟨fun q => b1 (.inr (dt q)), fun q => ?_⟩⟩
  have a := nf a
  have q := df q
  have n1 : ¬ (alikeL l = false ∨ w < 1) := by rw [a]; simp; omega
  have hl1 := (alikeL_iff.1 a).1
  refine ⟨fun r => b2 n1 (.inl (by have := dt r; omega)), fun r => ⟨fun s => b2 n1 (.inr (dt s)), fun s => ?_⟩⟩
  have r := df r
  have s := df s
  have n2 : ¬ (4096 < l.length ∨ 256 < w) := by omega
  refine ⟨⟨by omega, by omega⟩, trivial, fun u => b3 n1 n2 (nt u), fun u => ?_⟩
  have u := nf u
  have c8 := (cutB_iff.1 u).2.1
  have c32 := (cutB_iff.1 u).1
  have bi : ∀ i : Int, 0 ≤ i → i < c.length → trnP l (c.getD i.toNat 0) (endN c (l.getD 0 []).length i.toNat) w := fun i h0 h1 => by
    have e1 := end_gt u (show i.toNat < c.length by omega)
    have e2 := cut_mono u i.toNat (by omega)
    exact ⟨a, by omega, ⟨e2.1, e1.1, e1.2⟩, by omega, by omega⟩
  refine ⟨⟨by omega, by omega⟩, by omega, fun x => 0 ≤ x.1 ∧ x.1 ≤ c.length ∧ x.2.1 = (l.getD 0 []).length ∧ x.2.2.1 = c ∧ x.2.2.2 = tabL x.1.toNat (trWords l c (l.getD 0 []).length w), fun x => ((c.length : Int) - x.1).toNat, ⟨by simp, by simp, rfl, rfl, rfl⟩, fun ⟨k, d, cs, ws⟩ ⟨h0, h1, h2, h3, h4⟩ => ?_⟩
  dsimp only at h0 h1 h2 h3 h4 ⊢
  have wl : ws.length = k.toNat := by rw [h4, tabL_length]
  refine ⟨fun g => ?_, fun g => ?_⟩
  · have g := dt g
    have hi : isI64 (k + 1) := i64s (by omega) (by omega)
    have hb := bi k h0 g
    have hw : ws ++ [trainS l (c.getD k.toNat 0) (endN c (l.getD 0 []).length k.toNat) w.toNat] = tabL (k + 1).toNat (trWords l c (l.getD 0 []).length w) := by
      rw [succ_toNat h0, tabL_succ, ← h4]
      rfl
    have hr : roomP E1 39 (ws.length + [trainS l (c.getD k.toNat 0) (endN c (l.getD 0 []).length k.toNat) w.toNat].length) := room24 bytesLL24 (by rw [List.length_singleton]; omega)
    have i1 : 0 ≤ k + 1 := by omega
    have i2 : k + 1 ≤ c.length := by omega
    have i3 : ((c.length : Int) - (k + 1)).toNat < ((c.length : Int) - k).toNat := by omega
    refine ⟨⟨h0, g⟩, hi, fun e => ?_, fun e => ?_⟩
    · have i4 := dt e
      rw [end_in (d := (l.getD 0 []).length) h0 i4]
      simp only [hb, hr, hi, h2, h3, hw, i1, i2, i3, i4, and_self]
    · rw [← end_last (d := ((l.getD 0 []).length : Int)) h0 (df e)] at hb hr hw
      simp only [hb, hr, hi, h2, h3, hw, i1, i2, i3, and_self]
  · have g := df g
    unfold trainBk
    rw [if_neg n1, if_neg n2, if_neg (by rw [u]; simp), h2, h3, h4, end_toNat h1 g]
end Go.Proofs.Ytjppchomonpfgaa
