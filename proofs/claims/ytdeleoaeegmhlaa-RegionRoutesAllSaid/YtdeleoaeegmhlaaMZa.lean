import Derived.Test.YtdeleoaeegmhlaaMRa
import Derived.Test.YtdeleoaeegmhlaaMYr
import Derived.Test.YtdeleoaeegmhlaaMT1
namespace Go.PL
open Go.AM
set_option linter.unusedVariables false
/-! ### Keys, plain -/
theorem sumK_mono {m : Int} {n : Nat} {f g : Nat → Int} (h : ∀ i, i < n → 0 ≤ f i ∧ f i ≤ g i) : sumK m n f ≤ sumK m n g := by
  induction n with
  | zero => exact Int.le_refl _
  | succ n ih =>
    rw [sumK_succ, sumK_succ]
    have h1 := ih fun i hi => h i (by omega)
    have h2 := h n (by omega)
    have h3 : f n * f n ≤ g n * g n := Int.mul_le_mul h2.2 h2.2 h2.1 (by omega)
    unfold bstep
    split
    · omega
    · split <;> omega
theorem sumK_nonneg {m : Int} {n : Nat} {f : Nat → Int} (h : ∀ i, i < n → 0 ≤ f i) : 0 ≤ sumK m n f := by
  induction n with
  | zero => exact Int.le_refl _
  | succ n ih =>
    rw [sumK_succ]
    have h1 := ih fun i hi => h i (by omega)
    have h2 := h n (by omega)
    have h3 : 0 ≤ f n * f n := Int.mul_nonneg h2 h2
    unfold bstep
    split
    · omega
    · split <;> omega
theorem sumK_eq0 {m : Int} {n : Nat} {f : Nat → Int} (h : ∀ i, i < n → 0 ≤ f i) : sumK m n f = 0 ↔ ∀ i, i < n → f i = 0 := by
  induction n with
  | zero => exact ⟨fun _ i hi => by omega, fun _ => rfl⟩
  | succ n ih =>
    have ih := ih fun i hi => h i (by omega)
    have h1 := sumK_nonneg (m := m) (n := n) (f := f) fun i hi => h i (by omega)
    have h2 := h n (by omega)
    have h3 : 0 ≤ f n * f n := Int.mul_nonneg h2 h2
    have h4 : f n * f n = 0 ↔ f n = 0 := ⟨fun e => (Int.mul_eq_zero.1 e).elim id id, fun e => by rw [e]; rfl⟩
    have key : sumK m (n + 1) f = 0 ↔ sumK m n f = 0 ∧ f n = 0 := by
      rw [sumK_succ]
      unfold bstep
      split
      · omega
      · split
        · constructor
          · intro e; exact ⟨by omega, h4.1 (by omega)⟩
          · rintro ⟨e1, e2⟩; rw [e1, e2]; rfl
        · omega
    rw [key, ih]
    constructor
    · rintro ⟨e1, e2⟩ i hi
      rcases Nat.lt_or_ge i n with h' | h'
      · exact e1 i h'
      · rw [show i = n by omega]; exact e2
    · intro e
      exact ⟨fun i hi => e i (by omega), e n (by omega)⟩
theorem has_vec {b : Box} {x : List Int} (h : bhas b x = true) : bvec x = true := by
  obtain ⟨hb, hl, hx⟩ := bhas_iff.1 h
  have l := bval_len hb
  exact bvec_iff.2 ⟨fun i hi => by have := hx i hi; have := bval_at hb i; omega, by omega, by omega⟩
theorem key_near_le {b : Box} {v x : List Int} (h : bhas b x = true) (i : Nat) (hi : i < x.length) : 0 ≤ nearF b v i ∧ nearF b v i ≤ keyF v x i ∧ keyF v x i ≤ farF b v i := by
  have := (bhas_iff.1 h).2.2 i hi
  unfold nearF farF keyF at_
  omega
theorem near_zero {b : Box} {v : List Int} (m : Int) (hb : bval b = true) (hl : v.length = b.1.length) : sumK m v.length (nearF b v) = 0 ↔ bhas b v = true := by
  rw [sumK_eq0 fun i _ => by unfold nearF; omega, bhas_iff]
  constructor
  · intro h
    refine ⟨hb, hl, fun i hi => ?_⟩
    have := h i hi
    unfold nearF at_ at this
    omega
  · rintro ⟨_, _, h⟩ i hi
    have := h i hi
    unfold nearF at_
    omega
theorem bstep_eq (m n x y : Int) : normStep m n (x - y) = bstep m n (max (x - y) (y - x)) := by
  unfold normStep bstep sizeS
  have e : max (x - y) (-(x - y)) = max (x - y) (y - x) := by omega
  rw [e]
  have e2 : (x - y) * (x - y) = max (x - y) (y - x) * max (x - y) (y - x) := by
    rcases Decidable.em (x - y ≤ y - x) with h | h
    · rw [Int.max_eq_right h, show y - x = -(x - y) by omega, Int.neg_mul_neg]
    · rw [Int.max_eq_left (by omega)]
  rw [e2]
theorem key_fold (m : Int) : ∀ (a b : List Int) (s : Int), a.length = b.length → normFrom m s (subS a b) = (List.range a.length).foldl (fun s i => bstep m s (keyF a b i)) s
  | [], [], s, h => rfl
  | x :: a, y :: b, s, h => by
    have h' : a.length = b.length := by simpa using h
    show normFrom m (normStep m s (x - y)) (subS a b) = _
    rw [key_fold m a b _ h', bstep_eq, List.length_cons, List.range_succ_eq_map, List.foldl_cons, List.foldl_map]
    rfl
theorem keyS_sum {m : Int} {a b : List Int} (h : a.length = b.length) : keyS m a b = sumK m a.length (keyF a b) := key_fold m a b 0 h
theorem mget_mput (n : Int) (x : Int) (k : Int) : ∀ m : List (Int × Int), mget (mput m n x) k = if k = n then some x else mget m k
  | [] => by
    simp only [mput, mget]
    by_cases h : n = k
    · rw [if_pos h, if_pos h.symm]
    · rw [if_neg h, if_neg (fun e => h e.symm)]
  | p :: m => by
    simp only [mput]
    by_cases hp : p.1 = n
    · rw [if_pos hp]
      simp only [mget]
      by_cases h : n = k
      · rw [if_pos h, if_pos h.symm]
      · rw [if_neg h, if_neg (fun e => h e.symm), if_neg (fun e => h (hp.symm.trans e))]
    · rw [if_neg hp]
      simp only [mget]
      by_cases hk : p.1 = k
      · rw [if_pos hk, if_pos hk, if_neg (fun e => hp (hk.trans e))]
      · rw [if_neg hk, if_neg hk]
        exact mget_mput n x k m
/-- What Route runs through. -/
theorem rRun_spec (l : List Ar) (m : Int) (v : List Int) (w : Int) : ∀ n : Nat,
    (∀ i : Int, i ∈ (rRun l m v w n).1 ↔ 0 ≤ i ∧ i < n ∧ (nearS m (l.getD i.toNat dAr).1 v).2 = 0 ∧ (nearS m (l.getD i.toNat dAr).1 v).1 ≤ w) ∧ (rRun l m v w n).1.Nodup ∧
    ∀ i ∈ (rRun l m v w n).1, keyOf (rRun l m v w n).2 i = (nearS m (l.getD i.toNat dAr).1 v).1
  | 0 => ⟨fun i => ⟨fun h => by simp [rRun] at h, fun h => by omega⟩, List.nodup_nil, fun i h => by simp [rRun] at h⟩
  | n + 1 => by
    obtain ⟨h1, h2, h3⟩ := rRun_spec l m v w n
    have es : rRun l m v w (n + 1) = rStep m v w (rRun l m v w n) n (l.getD n dAr) := rfl
    rw [es]
    unfold rStep
    split
    · rename_i hc
      simp only [Bool.and_eq_true, decide_eq_true_eq] at hc
      have hn : ((n : Nat) : Int) ∉ (rRun l m v w n).1 := fun h => by have := (h1 _).1 h; omega
      refine ⟨fun i => ?_, ?_, fun i hi => ?_⟩
      · rw [List.mem_append, List.mem_singleton, h1]
        constructor
        · rintro (⟨a, b, c⟩ | rfl)
          · exact ⟨a, by omega, c⟩
          · exact ⟨by omega, by omega, hc⟩
        · rintro ⟨a, b, c⟩
          rcases Decidable.em (i = n) with e | e
          · exact .inr e
          · exact .inl ⟨a, by omega, c⟩
      · refine List.nodup_append.2 ⟨h2, by simp, fun a ha b hb e => ?_⟩
        rw [List.mem_singleton] at hb
        subst e hb
        exact hn ha
      · unfold keyOf
        rw [mget_mput]
        rcases List.mem_append.1 hi with hi | hi
        · rw [if_neg (fun e => hn (by rw [← e]; exact hi))]
          exact h3 i hi
        · rw [List.mem_singleton] at hi
          subst hi
          rw [if_pos rfl]
          rfl
    · rename_i hc
      simp only [Bool.and_eq_true, decide_eq_true_eq] at hc
      refine ⟨fun i => ?_, h2, h3⟩
      rw [h1]
      constructor
      · rintro ⟨a, b, c⟩; exact ⟨a, by omega, c⟩
      · rintro ⟨a, b, c⟩
        refine ⟨a, ?_, c⟩
        rcases Decidable.em (i = n) with e | e
        · subst e; exact absurd c hc
        · omega
namespace Good
variable {d : Dv}
theorem near (h : Good d) {m : Int} {v : List Int} (hm : isM m = true) (hv : bvec v = true) (hl : (v.length : Int) = d.1) {i : Nat} (hi : i < (areasN 60 d).length) :
    nearS m ((areasN 60 d).getD i dAr).1 v = (sumK m v.length (nearF ((areasN 60 d).getD i dAr).1 v), 0) := by
  have hs := (h.sub hi).1
  have hw : (wholeB d.1).1.length = d.1.toNat := List.length_replicate
  have hb : basked m ((areasN 60 d).getD i dAr).1 v = true := basked_iff.2 ⟨hm, hs.1, hv, by have := hs.2.1; omega⟩
  unfold nearS
  rw [if_pos hb]
theorem route (h : Good d) {m : Int} {v : List Int} {w : Int} (hm : isM m = true) (hv : bvec v = true) (hl : (v.length : Int) = d.1) (hw : 0 ≤ w) :
    (routeN 60 d m v w).Nodup ∧ (∃ t, routeN 60 d m v w = homeN 60 d v :: t) ∧ ∀ x : List Int, bvec x = true → x.length = v.length → keyS m v x ≤ w → homeN 60 d x ∈ routeN 60 d m v w := by
  obtain ⟨r1, r2, r3⟩ := rRun_spec (areasN 60 d) m v w (areasN 60 d).length
  have hp := sortK_perm (rRun (areasN 60 d) m v w (areasN 60 d).length).2 (rRun (areasN 60 d) m v w (areasN 60 d).length).1
  have hso := sortK_sorted (rRun (areasN 60 d) m v w (areasN 60 d).length).2 (rRun (areasN 60 d) m v w (areasN 60 d).length).1
  have er : sortK (rRun (areasN 60 d) m v w (areasN 60 d).length).2 (rRun (areasN 60 d) m v w (areasN 60 d).length).1 = routeN 60 d m v w := rfl
  rw [er] at hp hso
  have mem : ∀ i : Int, i ∈ routeN 60 d m v w ↔ 0 ≤ i ∧ i < (areasN 60 d).length ∧ (nearS m ((areasN 60 d).getD i.toNat dAr).1 v).2 = 0 ∧ (nearS m ((areasN 60 d).getD i.toNat dAr).1 v).1 ≤ w := fun i => hp.mem_iff.trans (r1 i)
  have key : ∀ i ∈ routeN 60 d m v w, keyOf (rRun (areasN 60 d) m v w (areasN 60 d).length).2 i = (nearS m ((areasN 60 d).getD i.toNat dAr).1 v).1 := fun i hi => r3 i (hp.mem_iff.1 hi)
  obtain ⟨k0, k1, k2⟩ := h.home hv hl
  have ww : (wholeB d.1).1.length = d.1.toNat := List.length_replicate
  have len : ∀ {i : Nat}, i < (areasN 60 d).length → v.length = ((areasN 60 d).getD i dAr).1.1.length := fun {i} hi => by have := (h.sub hi).1.2.1; omega
  have z : (nearS m ((areasN 60 d).getD (homeN 60 d v).toNat dAr).1 v).1 = 0 := by
    rw [h.near hm hv hl (by omega)]
    exact (near_zero m (h.sub (by omega)).1.1 (len (by omega))).2 k2
  have hmem : homeN 60 d v ∈ routeN 60 d m v w := (mem _).2 ⟨k0, k1, by rw [h.near hm hv hl (by omega)], by omega⟩
  refine ⟨hp.nodup_iff.2 r2, ?_, fun x hx hxl hkey => ?_⟩
  · cases hr : routeN 60 d m v w with
    | nil => rw [hr] at hmem; cases hmem
    | cons a t =>
      refine ⟨t, ?_⟩
      congr 1
      rw [hr] at hso hmem
      have ha : a ∈ routeN 60 d m v w := by rw [hr]; exact List.mem_cons_self
      rcases List.mem_cons.1 hmem with e | hmem'
      · exact e.symm
      · have hle := (List.pairwise_cons.1 hso).1 _ hmem'
        obtain ⟨a0, a1, a2, a3⟩ := (mem a).1 ha
        have ea := key a ha
        have eh := key (homeN 60 d v) (by rw [hr]; exact hmem)
        rw [z] at eh
        rw [leK_iff, ea, eh] at hle
        have na : 0 ≤ (nearS m ((areasN 60 d).getD a.toNat dAr).1 v).1 := by
          rw [h.near hm hv hl (by omega)]
          exact sumK_nonneg fun i _ => by unfold nearF; omega
        have ez : (nearS m ((areasN 60 d).getD a.toNat dAr).1 v).1 = 0 := by omega
        rw [h.near hm hv hl (by omega)] at ez
        have hb := (near_zero m (h.sub (i := a.toNat) (by omega)).1.1 (len (by omega))).1 ez
        have := (h.home_iff hv hl (i := a.toNat) (by omega)).1 hb
        omega
  · obtain ⟨j0, j1, j2⟩ := h.home hx (by omega)
    refine (mem _).2 ⟨j0, j1, by rw [h.near hm hv hl (by omega)], ?_⟩
    rw [h.near hm hv hl (by omega)]
    refine Int.le_trans (sumK_mono fun i hi => ?_) (by rw [keyS_sum hxl.symm] at hkey; exact hkey)
    have kc : keyF v x i = keyF x v i := by unfold keyF; omega
    have := key_near_le (v := v) j2 i (by omega)
    have hcomm : keyF v x i = keyF x v i := kc
    have e2 := this.2.1
    have : nearF ((areasN 60 d).getD (homeN 60 d x).toNat dAr).1 v i ≤ keyF v x i := e2
    exact ⟨by unfold nearF; omega, this⟩
end Good
end Go.PL
