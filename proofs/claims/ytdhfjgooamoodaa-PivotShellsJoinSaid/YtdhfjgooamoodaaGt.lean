import Derived.Test.YtdhfjgooamoodaaGo
import Derived.Test.YtdhfjgooamoodaaGm4
import Derived.Test.YtdhfjgooamoodaaGm5
import Derived.Test.YtdhfjgooamoodaaGm6
namespace Go.Proofs.Ytdhfjgooamoodaa
open Go.AM Go.PL
set_option linter.unusedVariables false
theorem maxK_mono {n : Nat} {w w' : Nat → Int} {a : Int} (h : ∀ i, i < n → w i ≤ w' i) : maxK n w a ≤ maxK n w' a := by
  obtain ⟨b1, b2, _⟩ := maxK_spec w' a n
  rcases (maxK_spec w a n).2.2 with e | ⟨i, hi, e⟩
  · omega
  · have := h i hi
    have := b2 i hi
    omega
theorem minK_mono {n : Nat} {w w' : Nat → Int} {a : Int} (h : ∀ i, i < n → w i ≤ w' i) : minK n w a ≤ minK n w' a := by
  obtain ⟨b1, b2, _⟩ := minK_spec w a n
  rcases (minK_spec w' a n).2.2 with e | ⟨i, hi, e⟩
  · omega
  · have := h i hi
    have := b2 i hi
    omega
theorem maxK_ext {n : Nat} {w w' : Nat → Int} {a : Int} (h : ∀ i, i < n → w i = w' i) : maxK n w a = maxK n w' a :=
  Int.le_antisymm (maxK_mono fun i hi => by rw [h i hi]; exact Int.le_refl _) (maxK_mono fun i hi => by rw [h i hi]; exact Int.le_refl _)
theorem minK_ext {n : Nat} {w w' : Nat → Int} {a : Int} (h : ∀ i, i < n → w i = w' i) : minK n w a = minK n w' a :=
  Int.le_antisymm (minK_mono fun i hi => by rw [h i hi]; exact Int.le_refl _) (minK_mono fun i hi => by rw [h i hi]; exact Int.le_refl _)
theorem amin_ext {w w' : Nat → Int} : ∀ {n : Nat}, (∀ i, i < n → w i = w' i) → amin n w = amin n w'
  | 0, _ => rfl
  | n + 1, h => by
    have ih := amin_ext (n := n) fun i hi => h i (by omega)
    have hl : amin n w' ≤ n := amax_le _ n
    rw [amin_succ, amin_succ, ih, h n (by omega), h (amin n w') (by omega)]
theorem sat_law5 : Sat Try.prog 7 (lawSp [I, LL, LL, SL, SL, L]) := by
  refine sat_nf (C := GL) ssGL (fun x => law5_nf x.1 x.2.1 x.2.2.1 x.2.2.2.1 x.2.2.2.2.1 x.2.2.2.2.2) fun (⟨m, p, l, a, b, ks⟩ : Int × List (List Int) × List (List Int) × List Shell × List Shell × List Int) hk _ => ?_
  dsimp only
  refine ⟨trivial, fun _ => ⟨trivial, rfl⟩, fun _ => ⟨trivial, fun _ => ⟨trivial, rfl⟩, fun _ => ⟨fun _ => ⟨trivial, rfl⟩, fun _ => ⟨fun _ => ⟨trivial, rfl⟩, fun _ => ⟨fun _ => ⟨trivial, rfl⟩, fun _ => ?_⟩⟩⟩⟩⟩
  simp
/-! ### Shells of two lists -/
theorem joinS_len (a b : List Shell) : (joinS a b).length = a.length := tabL_length _ _
theorem joinS_at {a b : List Shell} {k : Nat} (hk : k < a.length) : (joinS a b).getD k sh0 = joinSh a b k := tabL_getD _ sh0 hk
theorem joinS_comm {a b : List Shell} (h : a.length = b.length) : joinS a b = joinS b a :=
  tabL_ext h fun i _ => sh_eq (Int.min_comm _ _) (Int.max_comm _ _)
theorem joinS_valid {a b : List Shell} (ha : validB a = true) (hb : validB b = true) (h : a.length = b.length) : validB (joinS a b) = true := by
  have h8 := (validB_iff.1 ha).1
  refine validB_iff.2 ⟨by rw [joinS_len]; exact h8, fun k hk => ?_⟩
  rw [joinS_len] at hk
  rw [joinS_at hk]
  have s1 := shB_iff.1 ((validB_iff.1 ha).2 k hk)
  have s2 := shB_iff.1 ((validB_iff.1 hb).2 k (by omega))
  refine shB_iff.2 ?_
  unfold joinSh
  dsimp only
  omega
theorem joinS_in {a b : List Shell} (ha : validB a = true) (hb : validB b = true) (h : a.length = b.length) {ks : List Int} (hi : inB a ks = true ∨ inB b ks = true) : inB (joinS a b) ks = true := by
  rcases hi with hi | hi
  · obtain ⟨h1, h2, h3⟩ := inB_iff.1 hi
    refine inB_iff.2 ⟨joinS_valid ha hb h, by rw [joinS_len]; exact h2, fun k hk => ?_⟩
    rw [joinS_len] at hk
    rw [joinS_at hk]
    have := h3 k hk
    unfold joinSh
    dsimp only
    omega
  · obtain ⟨h1, h2, h3⟩ := inB_iff.1 hi
    refine inB_iff.2 ⟨joinS_valid ha hb h, by rw [joinS_len]; omega, fun k hk => ?_⟩
    rw [joinS_len] at hk
    rw [joinS_at hk]
    have := h3 k (by omega)
    unfold joinSh
    dsimp only
    omega
theorem wide_gap {m x : Int} {s t : Shell} (hx : keyP x) (hs : shB s = true) (ht : shB t = true) (h1 : t.1 ≤ s.1) (h2 : s.2.1 ≤ t.2.1) : gapS m t x ≤ gapS m s x ∧ reachS m s x ≤ reachS m t x := by
  have a := shB_iff.1 hs
  have b := shB_iff.1 ht
  have hx' := Go.PL.keyP_iff.1 hx
  unfold gapS reachS
  exact ⟨gap_le hx (Go.PL.keyP_iff.2 ⟨by omega, by omega⟩) (Go.PL.keyP_iff.2 ⟨by omega, by omega⟩) (Go.PL.keyP_iff.2 ⟨by omega, by omega⟩) (by omega) (by omega),
    high_mono hx (Go.PL.keyP_iff.2 ⟨by omega, by omega⟩) (Go.PL.keyP_iff.2 ⟨by omega, by omega⟩) h2⟩
theorem wide_lo {m : Int} {a j : List Shell} {ks : List Int} (hj : askB m j ks = true) (hl : j.length = a.length) (ha : validB a = true) (h : ∀ k, k < a.length → (j.getD k sh0).1 ≤ (a.getD k sh0).1 ∧ (a.getD k sh0).2.1 ≤ (j.getD k sh0).2.1) :
    askB m a ks = true ∧ loS m j ks ≤ loS m a ks ∧ hiS m a ks ≤ hiS m j ks := by
  obtain ⟨h1, h2, h3, h4⟩ := askB_iff.1 hj
  have at_ : ∀ k, k < a.length → gapS m (j.getD k sh0) (ks.getD k 0) ≤ gapS m (a.getD k sh0) (ks.getD k 0) ∧ reachS m (a.getD k sh0) (ks.getD k 0) ≤ reachS m (j.getD k sh0) (ks.getD k 0) := fun k hk =>
    wide_gap (Go.PL.keyP_iff.2 (h4 k (by omega))) ((validB_iff.1 ha).2 k hk) ((validB_iff.1 h2).2 k (by omega)) (h k hk).1 (h k hk).2
  refine ⟨askB_iff.2 ⟨h1, ha, by omega, h4⟩, ?_, ?_⟩
  · unfold loS
    rw [hl]
    exact maxK_mono fun k hk => (at_ k hk).1
  · unfold hiS
    rw [hl]
    exact minK_mono fun k hk => (at_ k hk).2
theorem sat_law6 : Sat Try.prog 8 (lawSp [I, SL, SL, L, L]) := by
  refine sat_nf (C := GL) ssGL (fun x => law6_nf x.1 x.2.1 x.2.2.1 x.2.2.2.1 x.2.2.2.2) fun (⟨m, a, b, ks, os⟩ : Int × List Shell × List Shell × List Int × List Int) hk _ => ?_
  dsimp only
  refine ⟨trivial, fun _ => ⟨trivial, rfl⟩, fun hm => ⟨trivial, fun _ => ⟨trivial, rfl⟩, fun ha => ⟨trivial, fun _ => ⟨trivial, rfl⟩, fun hb => ⟨fun _ => ⟨trivial, rfl⟩, fun hl => ⟨fun _ => ⟨trivial, rfl⟩, fun _ => ⟨fun _ => ⟨trivial, rfl⟩, fun _ => ?_⟩⟩⟩⟩⟩⟩
  have ha := nf ha
  have hb := nf hb
  have hl : a.length = b.length := by have := ndf hl; omega
  have hj := joinS_valid ha hb hl
  have hin := fun h => joinS_in ha hb hl (ks := os) h
  rw [join_good (joinB_iff.2 ⟨ha, hb, hl⟩), join_good (joinB_iff.2 ⟨hb, ha, hl.symm⟩), ← joinS_comm hl]
  dsimp only
  have wA := fun (h : askB m (joinS a b) ks = true) => wide_lo (a := a) h (joinS_len a b) ha fun k hk => by
    rw [joinS_at hk]
    unfold joinSh
    dsimp only
    omega
  have wB := fun (h : askB m (joinS a b) ks = true) => wide_lo (a := b) h ((joinS_len a b).trans hl) hb fun k hk => by
    rw [joinS_at (by omega)]
    unfold joinSh
    dsimp only
    omega
  refine ⟨trivial, trivial, yes0 rfl, fun _ => ⟨yes0 rfl, fun _ => ⟨trivial, yes0 rfl, fun _ => ⟨trivial, fun h => (by rw [hj] at h; cases h), fun _ => ⟨trivial, fun i1 => ⟨trivial, fun h => (by rw [hin (.inl i1)] at h; cases h), fun _ => ?_⟩,
    fun _ => ⟨trivial, fun i2 => ⟨trivial, fun h => (by rw [hin (.inr i2)] at h; cases h), fun _ => ?_⟩, fun _ => ?_⟩⟩⟩⟩⟩⟩
  all_goals
    by_cases hA : askB m (joinS a b) ks = true
    · obtain ⟨a1, a2, a3⟩ := wA hA
      obtain ⟨b1, b2, b3⟩ := wB hA
      rw [lo_good hA, hi_good hA, lo_good a1, hi_good a1, lo_good b1, hi_good b1]
      dsimp only
      exact ⟨trivial, yes0 rfl, fun _ => ⟨trivial, trivial, trivial, trivial, trivial, fun _ => ⟨fun _ => ⟨fun _ => ⟨fun _ => ⟨trivial, fun _ => ⟨fun _ => ⟨fun _ => decide_eq_true (by omega), fun h => absurd (show loS m (joinS a b) ks ≤ min (loS m a ks) (loS m b ks) by omega) (df h)⟩, rff⟩, fun h => (by cases h)⟩, rff⟩, rff⟩, rff⟩, rff⟩⟩
    · rw [lo_bad hA]
      exact ⟨trivial, fun _ => ⟨trivial, rfl⟩, no0 (by decide)⟩
/-! ### One pivot more -/
theorem near_app {m : Int} {p : List (List Int)} {w v : List Int} (h1 : 1 ≤ p.length) : nearI m (p ++ [w]) v = (if keyS m w v < nearK m p v then p.length else nearI m p v) ∧ nearK m (p ++ [w]) v = min (nearK m p v) (keyS m w v) := by
  have hlt : ∀ i, i < p.length → keyAt m (p ++ [w]) v i = keyAt m p v i := fun i hi => by unfold keyAt; rw [app_at hi]
  have hla : keyAt m (p ++ [w]) v p.length = keyS m w v := by unfold keyAt; rw [app_last]
  have e1 : amin p.length (keyAt m (p ++ [w]) v) = nearI m p v := amin_ext hlt
  have hn : nearI m p v < p.length := (amin_spec (keyAt m p v) p.length h1).1
  have e2 : keyAt m (p ++ [w]) v (nearI m p v) = nearK m p v := hlt _ hn
  have e3 : nearI m (p ++ [w]) v = if keyS m w v < nearK m p v then p.length else nearI m p v := by
    conv => lhs; unfold nearI
    rw [List.length_append, List.length_singleton, amin_succ, e1, hla, e2]
  refine ⟨e3, ?_⟩
  conv => lhs; unfold nearK
  rw [e3]
  split
  · rw [hla]; omega
  · rw [e2]; omega
theorem cover_app {m : Int} {p l : List (List Int)} {w : List Int} (h1 : 1 ≤ p.length) : coverS m (p ++ [w]) l ≤ coverS m p l := by
  unfold coverS
  exact maxK_mono fun i _ => by rw [(near_app h1).2]; omega
theorem shell_app {m : Int} {p l : List (List Int)} {w : List Int} {k : Nat} (hk : k < p.length) : (shellsS m (p ++ [w]) l).getD k sh0 = (shellsS m p l).getD k sh0 := by
  have hlt : ∀ v, keyAt m (p ++ [w]) v k = keyAt m p v k := fun v => by unfold keyAt; rw [app_at hk]
  rw [shell_at hk, shell_at (by rw [List.length_append, List.length_singleton]; omega)]
  refine sh_eq ?_ ?_
  · unfold shellS
    simp only [hlt]
  · unfold shellS
    simp only [hlt]
theorem keys_app {m : Int} {p : List (List Int)} {w v : List Int} {k : Nat} (hk : k < p.length) : (keysS m (p ++ [w]) v).getD k 0 = (keysS m p v).getD k 0 := by
  rw [keysS_at hk, keysS_at (by rw [List.length_append, List.length_singleton]; omega)]
  unfold keyAt
  rw [app_at hk]
theorem keys_take {m : Int} {p : List (List Int)} {w v : List Int} : List.take ((p.length : Int).toNat - 0) (List.drop 0 (keysS m (p ++ [w]) v)) = keysS m p v := by
  have el : (keysS m (p ++ [w]) v).length = p.length + 1 := by rw [keysS_len, List.length_append, List.length_singleton]
  have e0 : (p.length : Int).toNat - 0 = p.length := by omega
  rw [e0, List.drop_zero]
  refine list_ext (by rw [List.length_take, el, keysS_len]; omega) fun i hi => ?_
  rw [List.length_take, el] at hi
  rw [← keys_app (w := w) (by omega), List.getD_eq_getElem?_getD, List.getElem?_take, if_pos (by omega), ← List.getD_eq_getElem?_getD]
theorem lo_app {m : Int} {p l : List (List Int)} {w v : List Int} : loS m (shellsS m p l) (keysS m p v) ≤ loS m (shellsS m (p ++ [w]) l) (keysS m (p ++ [w]) v) ∧ hiS m (shellsS m (p ++ [w]) l) (keysS m (p ++ [w]) v) ≤ hiS m (shellsS m p l) (keysS m p v) := by
  have e1 : (shellsS m (p ++ [w]) l).length = p.length + 1 := by rw [show (shellsS m (p ++ [w]) l).length = (p ++ [w]).length from tabL_length _ _, List.length_append, List.length_singleton]
  have e2 : (shellsS m p l).length = p.length := tabL_length _ _
  constructor
  · unfold loS
    rw [e1, e2, maxK_succ]
    have := maxK_ext (n := p.length) (a := 0) (w := fun k => gapS m ((shellsS m (p ++ [w]) l).getD k sh0) ((keysS m (p ++ [w]) v).getD k 0)) (w' := fun k => gapS m ((shellsS m p l).getD k sh0) ((keysS m p v).getD k 0)) fun k hk => by rw [shell_app hk, keys_app hk]
    rw [this]
    omega
  · unfold hiS
    rw [e1, e2, minK_succ]
    have := minK_ext (n := p.length) (a := 134217728) (w := fun k => reachS m ((shellsS m (p ++ [w]) l).getD k sh0) ((keysS m (p ++ [w]) v).getD k 0)) (w' := fun k => reachS m ((shellsS m p l).getD k sh0) ((keysS m p v).getD k 0)) fun k hk => by rw [shell_app hk, keys_app hk]
    rw [this]
    omega
theorem sat_law4 : Sat Try.prog 6 (lawSp [I, LL, LL, L, L]) := by
  refine sat_nf (C := GL4) (mkctx_sound satG6 trivial) (fun x => law4_nf x.1 x.2.1 x.2.2.1 x.2.2.2.1 x.2.2.2.2) fun (⟨m, p, l, v, w⟩ : Int × List (List Int) × List (List Int) × List Int × List Int) hk _ => ?_
  dsimp only
  refine ⟨trivial, fun _ => ⟨trivial, rfl⟩, fun hw => ⟨trivial, fun _ => ⟨trivial, rfl⟩, fun hB => ⟨fun _ => ⟨trivial, rfl⟩, fun h8 => ?_⟩⟩⟩
  have hB := nf hB
  have h8 := df h8
  have hw := (few40_iff.1 (nf hw)).1
  obtain ⟨p1, p2, l1, l2⟩ := both_len hB
  have p0 : (0 : Int) ≤ 0 ∧ (0 : Int) < (p.length : Int) := ⟨by omega, by omega⟩
  refine ⟨p0, trivial, fun _ => ⟨trivial, rfl⟩, fun hv => ⟨p0, trivial, fun _ => ⟨trivial, rfl⟩, fun hww => ?_⟩⟩
  have hv := nf hv
  have hww := nf hww
  obtain ⟨b1, b2, b3⟩ := bothB_iff.1 hB
  obtain ⟨q1, q2, q3⟩ := pivB_iff.1 b1
  have el : (p ++ [w]).length = p.length + 1 := by rw [List.length_append, List.length_singleton]
  have hpq : pivB m (p ++ [w]) = true := pivB_iff.2 ⟨q1, fit_app q2 hww (by omega), by omega⟩
  have e0 : (p ++ [w]).getD 0 [] = p.getD 0 [] := app_at (by omega)
  have hBq : bothB m (p ++ [w]) l = true := bothB_iff.2 ⟨hpq, b2, by rw [e0]; exact b3⟩
  have hvv : alikeB v v = true := alike_trans (alike_symm hv) hv
  have hBv : bothB m (p ++ [w]) [v] = true := bothB_iff.2 ⟨hpq, fitB_iff.2 ⟨⟨Nat.le_refl _, by simp⟩, fun k hk => by
    have : k = 0 := by simpa using hk
    subst this
    exact hvv⟩, by rw [e0]; exact hv⟩
  have hvq : alikeB ((p ++ [w]).getD 0 []) v = true := by rw [e0]; exact hv
  have et : (tableS m (p ++ [w]) [v]).getD 0 [] = keysS m (p ++ [w]) v := tableS_row (by simp)
  have hlo := lo_app (m := m) (p := p) (l := l) (w := w) (v := v)
  have hk0 := lo_key hBq hvq (i := 0) (by omega)
  have hna := near_app (m := m) (p := p) (w := w) (v := v) p1
  have hcv := cover_app (m := m) (p := p) (l := l) (w := w) p1
  have f0 : ∀ {x : Int}, x = 0 → (!decide (x = 0)) = false := fun h => by rw [decide_eq_true h]; rfl
  rw [cover_good hB, cover_good hBq, shells_good hB, shells_good hBq, table_good hBv, nearest_good b1 hv, nearest_good hpq hvq]
  dsimp only
  rw [et, keys_take, lo_good (keys_asked hB hv), lo_good (keys_asked hBq hvq), hi_good (keys_asked hB hv), hi_good (keys_asked hBq hvq), keysS_len, tableS_len, el]
  have t0 : (0 : Int) ≤ 0 ∧ (0 : Int) < (([v] : List (List Int)).length : Int) := ⟨by omega, by simp⟩
  have t1 : (0 : Int) ≤ 0 ∧ 0 ≤ (p.length : Int) ∧ (p.length : Int) ≤ ((p.length + 1 : Nat) : Int) := ⟨by omega, by omega, by omega⟩
  refine ⟨room24 bytesL24 (by omega), room24 bytesL24 (by rw [List.length_singleton]; omega), trivial, trivial, trivial, trivial, trivial, f0 rfl, f0 rfl, f0 rfl, f0 rfl, f0 rfl, by simp, t0, by simp, decide_eq_false (by omega), t0, t1, trivial, t0, trivial, t0, t1, trivial, t0, trivial, trivial, trivial,
    decide_eq_true rfl, decide_eq_true rfl, decide_eq_true rfl, decide_eq_true rfl, decide_eq_true rfl, trivial, fun _ => ⟨fun _ => ⟨fun _ => ⟨fun _ => ⟨fun _ => ⟨fun _ => ⟨fun c => ?_, fun c => ?_⟩, fun h => absurd ?_ (df h)⟩, fun h => absurd ?_ (df h)⟩, fun h => absurd ?_ (df h)⟩, fun h => absurd ?_ (df h)⟩, rff⟩, fun h => (by cases h)⟩
  · have c := dt c
    refine ⟨fun _ => rfl, fun d => ?_⟩
    have d := df d
    refine ⟨fun _ => decide_eq_true ?_, fun e => absurd ?_ (df e)⟩
    · omega
    · rw [hna.1, if_pos (by omega)]
  · have c := df c
    refine ⟨fun _ => decide_eq_true ?_, fun e => absurd ?_ (df e)⟩
    · by_cases d : keyS m w v < nearK m p v
      · omega
      · rw [hna.1, if_neg d] at c
        omega
    · by_cases d : keyS m w v < nearK m p v
      · rw [hna.1, if_pos d]
      · rw [hna.1, if_neg d] at c
        omega
  · omega
  · omega
  · exact hlo.2
  · exact hlo.1
end Go.Proofs.Ytdhfjgooamoodaa
