import Derived.Test.YtdhfjgooamoodaaGo
namespace Go.Proofs.Ytdhfjgooamoodaa
open Go.AM Go.PL
set_option linter.unusedVariables false
theorem table_app {m : Int} {p l : List (List Int)} {v : List Int} {i : Nat} (hi : i < l.length) : (tableS m p (l ++ [v])).getD i [] = keysS m p (l.getD i []) := by
  rw [tableS_row (by rw [List.length_append, List.length_singleton]; omega), app_at hi]
theorem table_last {m : Int} {p l : List (List Int)} {v : List Int} : (tableS m p (l ++ [v])).getD l.length [] = keysS m p v := by
  rw [tableS_row (by rw [List.length_append, List.length_singleton]; omega), app_last]
theorem sat_law2 : Sat Try.prog 4 (lawSp [I, LL, LL, L]) := by
  refine sat_nf (C := GL) ssGL (fun x => law2_nf x.1 x.2.1 x.2.2.1 x.2.2.2) fun (⟨m, p, l, v⟩ : Int × List (List Int) × List (List Int) × List Int) hk _ => ?_
  dsimp only
  refine ⟨trivial, fun _ => ⟨trivial, rfl⟩, fun hw => ⟨trivial, fun _ => ⟨trivial, rfl⟩, fun hB => ?_⟩⟩
  have hB := nf hB
  have hw := (few40_iff.1 (nf hw)).1
  obtain ⟨p1, p2, l1, l2⟩ := both_len hB
  refine ⟨⟨by omega, by omega⟩, trivial, fun _ => ⟨trivial, rfl⟩, fun ha => ?_⟩
  have ha := nf ha
  obtain ⟨b1, b2, b3⟩ := bothB_iff.1 hB
  have hal := alike_trans (alike_symm b3) ha
  have hf := fit_app b2 hal (by omega)
  have hB2 : bothB m p (l ++ [v]) = true := bothB_iff.2 ⟨b1, hf, by rw [app_at (by omega)]; exact b3⟩
  have hm := metB_iff.1 (pivB_iff.1 b1).1
  have el : (tableS m p (l ++ [v])).length = l.length + 1 := by rw [tableS_len, List.length_append, List.length_singleton]
  have es : (shellsS m p l).length = p.length := tabL_length _ _
  have en : ((l.length : Int)).toNat = l.length := by omega
  have e0 : (((0 : Int), (0 : Int), ()) : Shell) = sh0 := rfl
  rw [shells_good hB, table_good hB2]
  dsimp only
  rw [en, table_last, lo_good (keys_asked hB ha), hi_good (keys_asked hB ha), e0]
  refine ⟨trivial, room24 bytesL24 (by omega), room24 bytesL24 (by rw [List.length_singleton]; omega), trivial, yes0 rfl, fun _ => ⟨yes0 rfl, fun _ => ⟨i64s (by omega) (by omega), yes0 (by omega), fun _ => ⟨trivial, fun h => (by rw [shells_valid hB] at h; cases h), fun _ =>
    ⟨yes0 (by omega), fun _ => ⟨⟨by omega, by omega⟩, trivial, trivial, yes0 rfl, fun _ => ⟨yes0 rfl, fun _ => ?_⟩⟩⟩⟩⟩⟩⟩
  refine ⟨fun x => 0 ≤ x ∧ x ≤ l.length, fun x => ((l.length : Int) - x).toNat, ⟨by omega, by omega⟩, fun x ⟨x0, x1⟩ => ⟨fun g => ?_, fun g => ?_⟩⟩
  · have g := dt g
    have hx : x.toNat < l.length := by omega
    rw [table_app hx]
    have hin := keys_in hB hx
    have hlo := lo_key hB ha hx
    exact ⟨⟨x0, g⟩, ⟨hm.1, hm.2, alike_sm (alike_trans (alike_symm ha) (both_alike hB hx)) (by omega)⟩, ⟨x0, by omega⟩, trivial, fun h => (by rw [hin] at h; cases h), fun _ => ⟨fun h => absurd (dt h) (by omega), fun _ => ⟨fun h => absurd (dt h) (by omega), fun _ => ⟨i64s (by omega) (by omega), ⟨by omega, by omega⟩, by dsimp only; omega⟩⟩⟩⟩
  refine ⟨fun x => 0 ≤ x ∧ x ≤ p.length, fun x => ((p.length : Int) - x).toNat, ⟨by omega, by omega⟩, fun x ⟨x0, x1⟩ => ⟨fun g => ?_, fun g => ⟨trivial, rfl⟩⟩⟩
  have g := dt g
  have hx : x.toNat < p.length := by omega
  rw [shell_at hx]
  obtain ⟨⟨i1, hi1, ei1⟩, i2, hi2, ei2⟩ := shell_ends (m := m) (p := p) (l := l) x.toNat l1
  refine ⟨fun y => 0 ≤ y.2.2 ∧ y.2.2 ≤ l.length ∧ ((i1 : Int) < y.2.2 → y.1 = true) ∧ ((i2 : Int) < y.2.2 → y.2.1 = true), fun y => ((l.length : Int) - y.2.2).toNat, ⟨by simp, by simp, fun h => by dsimp only at h; omega, fun h => by dsimp only at h; omega⟩, fun ⟨a, b, y⟩ ⟨y0, y1, y2, y3⟩ => ?_⟩
  dsimp only at y0 y1 y2 y3 ⊢
  refine ⟨fun h => ?_, fun h => ?_⟩
  · have h := dt h
    have hy : y.toNat < l.length := by omega
    rw [table_app hy, keysS_at hx, keysS_len, el, es]
    have r1 : (0 ≤ y ∧ y < ((l.length + 1 : Nat) : Int)) := ⟨y0, by omega⟩
    have r2 : (0 ≤ x ∧ x < (p.length : Int)) := ⟨x0, by omega⟩
    have r3 : isI64 (y + 1) := i64s (by omega) (by omega)
    have r4 : ((l.length : Int) - (y + 1)).toNat < ((l.length : Int) - y).toNat := by omega
    have q1 : ∀ c : Bool, ((i1 : Int) < y + 1 → c = true) → ∀ d : Bool, ((i2 : Int) < y + 1 → d = true) → 0 ≤ y + 1 ∧ y + 1 ≤ (l.length : Int) ∧ ((i1 : Int) < y + 1 → c = true) ∧ ((i2 : Int) < y + 1 → d = true) := fun c hc d hd => ⟨by omega, by omega, hc, hd⟩
    have q2 : a = false → (i1 : Int) < y + 1 → decide (keyAt m p (l.getD y.toNat []) x.toNat = (shellS m p l x.toNat).1) = true := fun e c => by
      by_cases c' : (i1 : Int) < y
      · rw [y2 c'] at e; cases e
      · rw [show y.toNat = i1 by omega]; exact decide_eq_true ei1
    have q3 : b = false → (i2 : Int) < y + 1 → decide (keyAt m p (l.getD y.toNat []) x.toNat = (shellS m p l x.toNat).2.1) = true := fun e c => by
      by_cases c' : (i2 : Int) < y
      · rw [y3 c'] at e; cases e
      · rw [show y.toNat = i2 by omega]; exact decide_eq_true ei2
    exact ⟨fun ea => ⟨fun eb => ⟨r3, q1 _ (fun _ => rfl) _ (fun _ => rfl), r4⟩, fun eb => ⟨r1, r2, r2, r3, q1 _ (fun _ => rfl) _ (q3 eb), r4⟩⟩,
      fun ea => ⟨r1, r2, r2, fun eb => ⟨r3, q1 _ (q2 ea) _ (fun _ => rfl), r4⟩, fun eb => ⟨r1, r2, r2, r3, q1 _ (q2 ea) _ (q3 eb), r4⟩⟩⟩
  · have h := df h
    exact ⟨fun c => (by rw [y2 (by omega)] at c; cases c), fun _ => ⟨fun c => (by rw [y3 (by omega)] at c; cases c), fun _ => ⟨i64s (by omega) (by omega), ⟨by omega, by omega⟩, by omega⟩⟩⟩
end Go.Proofs.Ytdhfjgooamoodaa
