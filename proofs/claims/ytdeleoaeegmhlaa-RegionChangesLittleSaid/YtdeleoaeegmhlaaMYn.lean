import Derived.Test.YtdeleoaeegmhlaaMYm
--@drop
namespace Go.PL
open Go.AM
set_option linter.unusedVariables false
abbrev dAr : Ar := (([], [], ()), [], ())
theorem inL_iff {l : List Int} {n : Int} : inL l n = true ↔ ∃ i, i < l.length ∧ l.getD i 0 = n := by
  unfold inL
  rw [decide_eq_true_eq]
  rcases indexS_from n l with ⟨h, h'⟩ | ⟨h0, h1, h2, h3⟩
  · exact ⟨fun k => by omega, fun ⟨i, hi, e⟩ => absurd e (h' i hi)⟩
  · exact ⟨fun _ => ⟨(indexS n l).toNat, by omega, h2⟩, fun _ => h0⟩
theorem homeL_none {v : List Int} : ∀ {l : List Ar}, (∀ j : Nat, j < l.length → bhas (l.getD j dAr).1 v = false) → homeL l v = -1
  | [], h => rfl
  | a :: l, h => by
    have h0 : bhas a.1 v = false := h 0 (by simp)
    have ih : homeL l v = -1 := homeL_none fun j hj => by have := h (j + 1) (by simp only [List.length_cons]; omega); rwa [List.getD_cons_succ] at this
    unfold homeL
    rw [h0, ih]
    rfl
theorem homeL_ge (v : List Int) : ∀ l : List Ar, -1 ≤ homeL l v ∧ homeL l v < l.length
  | [] => by simp [homeL]
  | a :: l => by
    have := homeL_ge v l
    unfold homeL
    simp only [List.length_cons]
    split
    · omega
    · split <;> omega
theorem homeL_at {v : List Int} : ∀ {l : List Ar} {i : Nat}, i < l.length → bhas (l.getD i dAr).1 v = true → (∀ j : Nat, j < i → bhas (l.getD j dAr).1 v = false) → homeL l v = i
  | [], i, h, _, _ => by simp at h
  | a :: l, 0, h, h1, h2 => by
    have h1 : bhas a.1 v = true := h1
    unfold homeL
    rw [if_pos h1]
    rfl
  | a :: l, i + 1, h, h1, h2 => by
    have h0 : bhas a.1 v = false := h2 0 (by omega)
    rw [List.getD_cons_succ] at h1
    have ih : homeL l v = i := homeL_at (by simp only [List.length_cons] at h; omega) h1 fun j hj => by have := h2 (j + 1) (by omega); rwa [List.getD_cons_succ] at this
    unfold homeL
    rw [h0, ih]
    have : ¬ (i : Int) = -1 := by omega
    simp only [Bool.false_eq_true, if_false, if_neg this]
    omega
theorem homeL_has {v : List Int} : ∀ {l : List Ar}, 0 ≤ homeL l v → bhas (l.getD (homeL l v).toNat dAr).1 v = true
  | [], h => by simp [homeL] at h
  | a :: l, h => by
    unfold homeL at h ⊢
    cases h0 : bhas a.1 v
    · simp only [h0, Bool.false_eq_true, if_false] at h ⊢
      split at h
      · omega
      · rename_i hk
        rw [if_neg hk]
        have hg := homeL_ge v l
        rw [show (homeL l v + 1).toNat = (homeL l v).toNat + 1 by omega, List.getD_cons_succ]
        exact homeL_has (by omega)
    · simp only [if_true]
      exact h0
theorem flat_step {α β : Type} (l : List α) (d : α) (f : α → List β) {i : Int} (h0 : 0 ≤ i) (h1 : i < l.length) : (l.take (i + 1).toNat).flatMap f = (l.take i.toNat).flatMap f ++ f (l.getD i.toNat d) := by
  rw [take_step l d h0 h1, List.flatMap_append]
  simp
theorem flat_room {α β : Type} (l : List α) (d : α) (f : α → List β) {i : Int} (h0 : 0 ≤ i) (h1 : i < l.length) : ((l.take i.toNat).flatMap f).length + (f (l.getD i.toNat d)).length ≤ (l.flatMap f).length := by
  have e : l.flatMap f = (l.take (i + 1).toNat).flatMap f ++ (l.drop (i + 1).toNat).flatMap f := by rw [← List.flatMap_append, List.take_append_drop]
  rw [e, flat_step l d f h0 h1, List.length_append, List.length_append]
  omega
end Go.PL
namespace Go.Proofs.Ytdeleoaeegmhlaa
open Go.AM Go.PL
set_option linter.unusedVariables false
attribute [local irreducible] fnwp fnwpG fnwpI
theorem sat_areasP (n : Nat) : Sat Try.prog 11 (areasPSp n) := sat_areas n
theorem satYm (n : Nat) : AllSat bs.P (tYm n) := ⟨sat_areasP n, sat_has, sat_meet, sat_idx, trivial⟩
theorem sat_home (n : Nat) : Sat Try.prog 13 (homeSp n) := by
  refine sat_nf (C := YM n) (mkctx_sound (satYm n) trivial) (fun x => home_nf n x.1 x.2) fun (x : Dv × List Int) hk hp => ?_
  obtain ⟨d, v⟩ := x
  dsimp only
  have hl : (areasN n d).length ≤ 1000 := by
    have h : okA n d := hp.2.2.2
    have := h.1
    unfold areasN
    rw [List.length_map]
    exact this
  refine ⟨hp, fun x => 0 ≤ x ∧ x ≤ (areasN n d).length ∧ ∀ j : Nat, (j : Int) < x → bhas ((areasN n d).getD j dAr).1 v = false, fun x => (((areasN n d).length : Int) - x).toNat, ⟨by omega, by omega, fun j hj => by omega⟩, fun x ⟨h0, h1, h2⟩ => ⟨fun c => ?_, fun c => ?_⟩⟩
  · have c := dt c
    refine ⟨⟨h0, c⟩, trivial, fun g => ?_, fun g => ⟨i64s (by omega) (by omega), ⟨by omega, by omega, upd_all h0 h2 g⟩, by dsimp only; omega⟩⟩
    have := homeL_at (l := areasN n d) (i := x.toNat) (by omega) g fun j hj => h2 j (by omega)
    show x = homeL (areasN n d) v
    omega
  · have c := df c
    exact (homeL_none fun j hj => h2 j (by omega)).symm
theorem ownsL_of {l : List Ar} {v : List Int} {o : Int} (h0 : 0 ≤ homeL l v) : ownsL l v o = true ↔ inL (l.getD (homeL l v).toNat dAr).2.1 o = true := by
  unfold ownsL
  simp only [Bool.and_eq_true, decide_eq_true_eq]
  exact ⟨fun h => h.2.2, fun h => ⟨h0, (homeL_ge v l).2, h⟩⟩
theorem sat_owns (n : Nat) : Sat Try.prog 15 (ownsSp n) := by
  refine sat_nf (C := YM2 n) (mkctx_sound ⟨sat_home n, satYm n⟩ trivial) (fun x => owns_nf n x.1 x.2.1 x.2.2) fun (x : Dv × List Int × Int) hk hp => ?_
  obtain ⟨d, v, o⟩ := x
  dsimp only
  have hg : -1 ≤ homeN n d v ∧ homeN n d v < (areasN n d).length := homeL_ge v (areasN n d)
  have iff : 0 ≤ homeN n d v → (ownsN n d v o = true ↔ inL ((areasN n d).getD (homeN n d v).toNat dAr).2.1 o = true) := fun h => ownsL_of h
  refine ⟨hp, hp, fun c => is_no fun h => ?_, fun c => ⟨fun c1 => absurd (dt c1) (by omega), fun c1 => ?_⟩⟩
  · have c := dt c
    unfold ownsN ownsL at h
    simp only [Bool.and_eq_true, decide_eq_true_eq] at h
    have h := h.1
    have : homeL (areasN n d) v = homeN n d v := rfl
    omega
  · have c := df c
    have iff := iff (by omega)
    have hm : (areasN n d).getD (homeN n d v).toNat dAr ∈ areasN n d := getD_mem _ _ (by omega)
    have ho : ((areasN n d).getD (homeN n d v).toNat dAr).2.1.length ≤ 1000000 := by
      have h : okA n d := hp.2.2.2
      obtain ⟨p, hp', e⟩ := List.mem_map.1 hm
      rw [← e]
      exact h.2 p hp'
    have hA' : (areasN n d).getD (homeN n d v).toNat (([], [], ()), [], ()) = (areasN n d).getD (homeN n d v).toNat dAr := rfl
    rw [hA']
    revert iff ho
    generalize (areasN n d).getD (homeN n d v).toNat dAr = A
    intro iff ho
    refine ⟨⟨by omega, by omega⟩, fun x => 0 ≤ x ∧ x ≤ A.2.1.length ∧ ∀ j : Nat, (j : Int) < x → A.2.1.getD j 0 ≠ o, fun x => ((A.2.1.length : Int) - x).toNat, ⟨by omega, by omega, fun j hj => by omega⟩, fun x ⟨h0, h1, h2⟩ => ⟨fun c => ?_, fun c => ?_⟩⟩
    · have c := dt c
      exact ⟨⟨h0, c⟩, fun g => (iff.2 (inL_iff.2 ⟨x.toNat, by omega, dt g⟩)).symm, fun g => ⟨i64s (by omega) (by omega), ⟨by omega, by omega, upd_all h0 h2 (df g)⟩, by dsimp only; omega⟩⟩
    · have c := df c
      exact is_no fun h => by
        obtain ⟨i, hi, e⟩ := inL_iff.1 (iff.1 h)
        exact h2 i (by omega) e
theorem bytesM : Try.prog.bytesOf 47 = 80 := by kernel_rfl
theorem roomM {C : Ctx} {n : Nat} (hb : C.P.bytesOf 47 = 80) (h : n ≤ 1000000) : roomP C 47 n := by
  unfold roomP
  rw [hb]
  omega
theorem sat_moves (n : Nat) : Sat Try.prog 16 (movesSp n) := by
  refine sat_nf (C := YM n) (mkctx_sound (satYm n) trivial) (fun x => moves_nf n x.1 x.2) fun (x : Dv × Dv) hk hp => ?_
  obtain ⟨a, b⟩ := x
  obtain ⟨pa, pb, hm⟩ : preA n a ∧ preA n b ∧ (movesN n a b).length ≤ 1000000 := hp
  dsimp only
  have hb : (YM n).P.bytesOf 47 = 80 := bytesM
  have len : ∀ {d : Dv}, preA n d → (areasN n d).length ≤ 1000 := fun {d} hp => by
    have h : okA n d := hp.2.2.2
    have := h.1
    unfold areasN
    rw [List.length_map]
    exact this
  have offl : ∀ {d : Dv}, preA n d → ∀ y ∈ areasN n d, y.2.1.length ≤ 1000000 := fun {d} hp y hy => by
    have h : okA n d := hp.2.2.2
    obtain ⟨p, hp', e⟩ := List.mem_map.1 hy
    rw [← e]
    exact h.2 p hp'
  have la := len pa
  have lb := len pb
  refine ⟨pb, fun s => 0 ≤ s.2 ∧ s.2 ≤ (areasN n b).length ∧ s.1 = ((areasN n b).take s.2.toNat).flatMap (movesX (areasN n a)), fun s => (((areasN n b).length : Int) - s.2).toNat, ⟨by omega, by omega, rfl⟩, fun s ⟨h0, h1, h2⟩ => ⟨fun c => ⟨⟨h0, dt c⟩, pa, ?_⟩, fun c => ?_⟩⟩
  · have c := dt c
    have eb := flat_step (areasN n b) dAr (movesX (areasN n a)) h0 c
    have rb := flat_room (areasN n b) dAr (movesX (areasN n a)) h0 c
    have mb : (areasN n b).getD s.2.toNat dAr ∈ areasN n b := getD_mem _ _ (by omega)
    have ob := offl pb _ mb
    revert eb rb ob
    generalize (areasN n b).getD s.2.toNat dAr = x
    intro eb rb ob
    refine ⟨fun t => t.2.1 = x.1.1 ∧ t.2.2.1 = x.1.2.1 ∧ t.2.2.2.1 = x.2.1 ∧ 0 ≤ t.2.2.2.2 ∧ t.2.2.2.2 ≤ (areasN n a).length ∧ t.1 = s.1 ++ ((areasN n a).take t.2.2.2.2.toNat).flatMap (movesY x), fun t => (((areasN n a).length : Int) - t.2.2.2.2).toNat, ⟨rfl, rfl, rfl, by dsimp only; omega, by dsimp only; omega, (List.append_nil _).symm⟩, fun t ht => ?_⟩
    obtain ⟨o1, xl, xh, xo, j⟩ := t
    obtain ⟨e1, e2, e3, g0, g1, g2⟩ := ht
    dsimp only at e1 e2 e3 g0 g1 g2 ⊢
    subst e1 e2 e3
    refine ⟨fun k => ⟨⟨g0, dt k⟩, trivial, ?_⟩, fun k => ?_⟩
    · have k := dt k
      have ea := flat_step (areasN n a) dAr (movesY x) g0 k
      have ra := flat_room (areasN n a) dAr (movesY x) g0 k
      revert ea ra
      generalize (areasN n a).getD j.toNat dAr = y
      intro ea ra
      have ex : ((x.1.1, x.1.2.1, ()) : Box) = x.1 := rfl
      have ey : ((y.1.1, y.1.2.1, ()) : Box) = y.1 := rfl
      rw [ex, ey]
      have skip : meets x y = false → isI64 (j + 1) ∧ (x.1.1 = x.1.1 ∧ x.1.2.1 = x.1.2.1 ∧ x.2.1 = x.2.1 ∧ 0 ≤ j + 1 ∧ j + 1 ≤ (areasN n a).length ∧ o1 = s.1 ++ ((areasN n a).take (j + 1).toNat).flatMap (movesY x)) ∧ (((areasN n a).length : Int) - (j + 1)).toNat < (((areasN n a).length : Int) - j).toNat := fun hn => by
        have : movesY x y = [] := by unfold movesY; rw [hn]; rfl
        exact ⟨i64s (by omega) (by omega), ⟨rfl, rfl, rfl, by omega, by omega, by rw [ea, this, List.append_nil]; exact g2⟩, by omega⟩
      refine ⟨fun q => skip (by unfold meets; rw [nt q]; rfl), fun q => ⟨fun q1 => skip (by unfold meets; rw [nt q1, Bool.and_false]), fun q1 => ?_⟩⟩
      have hmt : meets x y = true := by unfold meets; rw [nf q, nf q1]; rfl
      have ey2 : movesY x y = x.2.1.flatMap (moveF x y) := by unfold movesY; rw [hmt]; rfl
      refine ⟨fun u => u.2.1 = x.1.1 ∧ u.2.2.1 = x.1.2.1 ∧ u.2.2.2.1 = x.2.1 ∧ u.2.2.2.2.2.2.1 = y.2.1 ∧ u.2.2.2.2.2.2.2.1 = (meetS x.1 y.1).1.1 ∧ u.2.2.2.2.2.2.2.2.1 = (meetS x.1 y.1).1.2.1 ∧ 0 ≤ u.2.2.2.2.2.2.2.2.2 ∧ u.2.2.2.2.2.2.2.2.2 ≤ x.2.1.length ∧ u.1 = o1 ++ (x.2.1.take u.2.2.2.2.2.2.2.2.2.toNat).flatMap (moveF x y), fun u => ((x.2.1.length : Int) - u.2.2.2.2.2.2.2.2.2).toNat, ⟨rfl, rfl, rfl, rfl, rfl, rfl, by dsimp only; omega, by dsimp only; omega, (List.append_nil _).symm⟩, fun u hu => ?_⟩
      obtain ⟨o2, xl, xh, xo, yl, yh, yo, ml, mh, i⟩ := u
      obtain ⟨e1, e2, e3, e4, e5, e6, f0, f1, f2⟩ := hu
      dsimp only at e1 e2 e3 e4 e5 e6 f0 f1 f2 ⊢
      subst e1 e2 e3 e4 e5 e6
      refine ⟨fun p => ⟨⟨f0, dt p⟩, trivial, fun p1 => ?_, fun p1 => ?_⟩, fun p => ?_⟩
      · have p := dt p
        have ei := flat_step x.2.1 0 (moveF x y) f0 p
        have ri := flat_room x.2.1 0 (moveF x y) f0 p
        have em : moveF x y (x.2.1.getD i.toNat 0) = [((meetS x.1 y.1).1, y.2.1, x.2.1.getD i.toNat 0, ())] := by
          have : inL y.2.1 (x.2.1.getD i.toNat 0) = false := nt p1
          unfold moveF
          rw [this]
          rfl
        rw [em] at ei ri
        refine ⟨roomM hb ?_, i64s (by omega) (by omega), ⟨rfl, rfl, rfl, rfl, rfl, rfl, by omega, by omega, ?_⟩, by omega⟩
        · have e5 : (movesN n a b).length = ((areasN n b).flatMap (movesX (areasN n a))).length := rfl
          have e6 : (movesX (areasN n a) x).length = ((areasN n a).flatMap (movesY x)).length := rfl
          rw [f2, g2, h2]
          simp only [List.length_append, List.length_cons, List.length_nil] at ri ⊢
          rw [ey2] at ra
          omega
        · rw [ei, f2, List.append_assoc]
      · have p := dt p
        have ei := flat_step x.2.1 0 (moveF x y) f0 p
        have em : moveF x y (x.2.1.getD i.toNat 0) = [] := by
          have : inL y.2.1 (x.2.1.getD i.toNat 0) = true := nf p1
          unfold moveF
          rw [this]
          rfl
        exact ⟨i64s (by omega) (by omega), ⟨rfl, rfl, rfl, rfl, rfl, rfl, by omega, by omega, by rw [ei, em, List.append_nil]; exact f2⟩, by omega⟩
      · have p := df p
        have hi : i.toNat = x.2.1.length := by omega
        refine ⟨i64s (by omega) (by omega), ⟨rfl, rfl, rfl, by omega, by omega, ?_⟩, by omega⟩
        rw [ea, ey2, f2, hi, List.take_length, g2, List.append_assoc]
    · have k := df k
      have hj : j.toNat = (areasN n a).length := by omega
      refine ⟨i64s (by omega) (by omega), ⟨by omega, by omega, ?_⟩, by omega⟩
      rw [eb, g2, hj, List.take_length, h2]
      rfl
  · have c := df c
    have hs : s.2.toNat = (areasN n b).length := by omega
    rw [h2, hs, List.take_length]
    rfl
end Go.Proofs.Ytdeleoaeegmhlaa
