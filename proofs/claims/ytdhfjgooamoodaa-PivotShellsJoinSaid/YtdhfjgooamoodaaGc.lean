import Derived.Test.YtdhfjgooamoodaaGb
namespace Go.PL
open Go.AM
set_option linter.unusedVariables false
theorem alike_sm {a b : List Int} (h : alikeB a b = true) {c : Int} (hc : 1000 ≤ c) : small 64 c a ∧ small 64 c b ∧ a.length = b.length := by
  obtain ⟨h1, h2, h3⟩ := alike_iff.1 h
  exact ⟨vec_small h1 (by omega) hc, vec_small h2 (by omega) hc, h3⟩
theorem alike_trans {a b c : List Int} (h : alikeB a b = true) (h' : alikeB b c = true) : alikeB a c = true := by
  obtain ⟨h1, h2, h3⟩ := alike_iff.1 h
  obtain ⟨g1, g2, g3⟩ := alike_iff.1 h'
  exact alike_iff.2 ⟨h1, g2, by omega⟩
theorem alike_symm {a b : List Int} (h : alikeB a b = true) : alikeB b a = true := by
  obtain ⟨h1, h2, h3⟩ := alike_iff.1 h
  exact alike_iff.2 ⟨h2, h1, h3.symm⟩
theorem firstI_none {p : Nat → Bool} : ∀ {n : Nat}, (∀ j, j < n → p j = false) → firstI n p = -1
  | 0, _ => rfl
  | n + 1, h => by
    have ih := firstI_none (p := p) (n := n) fun j hj => h j (by omega)
    unfold firstI at ih ⊢
    rw [foldN_succ, ih, h n (by omega)]
    simp
theorem firstI_is {p : Nat → Bool} {k : Nat} : ∀ {n : Nat}, k < n → p k = true → (∀ j, j < k → p j = false) → firstI n p = k
  | 0, h, _, _ => by omega
  | n + 1, h, hp, hb => by
    by_cases hk : k < n
    · have ih := firstI_is (n := n) hk hp hb
      unfold firstI at ih ⊢
      rw [foldN_succ, ih, if_neg (by omega)]
    · have e : k = n := by omega
      subst e
      have ih := firstI_none (p := p) (n := k) hb
      unfold firstI at ih ⊢
      rw [foldN_succ, ih, if_pos ⟨by omega, hp⟩]
theorem amin_succ (n : Nat) (w : Nat → Int) : amin (n + 1) w = if w n < w (amin n w) then n else amin n w := by
  unfold amin
  rw [amax_succ]
  by_cases h : w n < w (amax n fun i => -(w i))
  · rw [if_pos h, if_pos (by omega)]
  · rw [if_neg h, if_neg (by omega)]
theorem amin_spec (w : Nat → Int) (n : Nat) (h : 1 ≤ n) : amin n w < n ∧ (∀ i, i < n → w (amin n w) ≤ w i) ∧ ∀ i, i < amin n w → w (amin n w) < w i := by
  obtain ⟨h1, h2, h3⟩ := amax_spec (fun i => -(w i)) n h
  unfold amin
  exact ⟨h1, fun i hi => by have := h2 i hi; omega, fun i hi => by have := h3 i hi; omega⟩
theorem minK_succ (n : Nat) (w : Nat → Int) (a : Int) : minK (n + 1) w a = min (minK n w a) (w n) := foldN_succ n _ a
theorem maxK_succ (n : Nat) (w : Nat → Int) (a : Int) : maxK (n + 1) w a = max (maxK n w a) (w n) := foldN_succ n _ a
theorem fitB_iff {l : List (List Int)} : fitB l = true ↔ (1 ≤ l.length ∧ l.length ≤ 4096) ∧ ∀ k, k < l.length → alikeB (l.getD 0 []) (l.getD k []) = true := by
  unfold fitB
  simp only [Bool.and_eq_true, decide_eq_true_eq, upto_iff]
  exact ⟨fun h => ⟨h.2, h.1⟩, fun h => ⟨h.2, h.1⟩⟩
theorem metB_iff {m : Int} : metB m = true ↔ 1 ≤ m ∧ m ≤ 3 := by unfold metB; simp
theorem shB_iff {s : Shell} : shB s = true ↔ 0 ≤ s.1 ∧ s.1 ≤ s.2.1 ∧ s.2.1 ≤ 134217728 := by unfold shB; simp
theorem validB_iff {l : List Shell} : validB l = true ↔ l.length ≤ 8 ∧ ∀ k, k < l.length → shB (l.getD k sh0) = true := by
  unfold validB
  simp only [Bool.and_eq_true, decide_eq_true_eq, upto_iff]
  exact ⟨fun h => ⟨h.2, h.1⟩, fun h => ⟨h.2, h.1⟩⟩
theorem few40_iff {l : List (List Int)} {n : Int} : few40 l n = true ↔ (l.length : Int) ≤ n ∧ ∀ k, k < l.length → (l.getD k []).length ≤ 40 := by
  unfold few40
  simp only [Bool.and_eq_true, decide_eq_true_eq, upto_iff]
theorem keyP_iff {n : Int} : Go.Proofs.Ytdhfjgooamoodaa.keyP n ↔ 0 ≤ n ∧ n ≤ 134217728 := by
  unfold Go.Proofs.Ytdhfjgooamoodaa.keyP
  have e : (2 : Int) ^ 27 = 134217728 := by decide
  rw [e]
theorem wrapU {x : Int} (h0 : 0 ≤ x) (h1 : x < 18446744073709551616) : IntKind.u64.wrap x = x := by
  unfold IntKind.wrap
  simp [IntKind.bits, IntKind.signed]
  omega
theorem mask32 {x : Int} (h0 : 0 ≤ x) (h1 : x < 4294967296) : bitsOp .and .u64 x 4294967295 = x := by
  have e : (BitVec.ofInt 64 x &&& BitVec.ofInt 64 (4294967295 : Int)).toNat = x.toNat := by
    rw [BitVec.toNat_and]
    have h1' : (BitVec.ofInt 64 x).toNat = x.toNat := by rw [BitVec.toNat_ofInt]; omega
    have h2 : (BitVec.ofInt 64 (4294967295 : Int)).toNat = 2 ^ 32 - 1 := by rw [BitVec.toNat_ofInt]; rfl
    rw [h1', h2, Nat.and_two_pow_sub_one_eq_mod]
    omega
  show IntKind.u64.wrap ((BitVec.ofInt 64 x &&& BitVec.ofInt 64 (4294967295 : Int)).toNat : Int) = x
  rw [e, wrapU (by omega) (by omega)]
  omega
end Go.PL
namespace Go.Proofs.Ytdhfjgooamoodaa
open Go.AM Go.PL
set_option linter.unusedVariables false
theorem bytesL24 : Try.prog.bytesOf 23 = 24 := by kernel_rfl
theorem bytesS16 : Try.prog.bytesOf 57 = 16 := by kernel_rfl
theorem room24 {C : Ctx} {t : TypeId} {n : Nat} (hb : C.P.bytesOf t = 24) (h : n ≤ 1000000) : roomP C t n := by
  unfold roomP
  rw [hb]
  omega
theorem room16 {C : Ctx} {t : TypeId} {n : Nat} (hb : C.P.bytesOf t = 16) (h : n ≤ 1000000) : roomP C t n := by
  unfold roomP
  rw [hb]
  omega
theorem sat_min : Sat Try.prog 48 minSp := by
  refine sat_nf (C := G0) ssG0 min_nf fun (l : List Int) hk hp => ?_
  have hp : 1 ≤ l.length := hp
  have hl : l.length ≤ 9223372036854775807 := hk.1
  refine ⟨fun h => absurd (dt h) (by omega), fun _ => ⟨by omega, fun x => 1 ≤ x.2 ∧ x.2 ≤ l.length ∧ x.1 = minK x.2.toNat (fun i => l.getD i 0) (l.getD 0 0), fun x => ((l.length : Int) - x.2).toNat, ⟨by simp, by simp; omega, ?_⟩, fun ⟨o, i⟩ ⟨h0, h1, h2⟩ => ⟨fun g => ?_, fun g => ?_⟩⟩⟩
  · show l.getD 0 0 = minK 1 (fun i => l.getD i 0) (l.getD 0 0)
    rw [minK_succ]
    exact (Int.min_self _).symm
  · dsimp only at h0 h1 h2 g ⊢
    have g := dt g
    refine ⟨⟨by omega, g⟩, i64_lt (by omega) g hl, ⟨by omega, by omega, ?_⟩, by omega⟩
    rw [succ_toNat (by omega), minK_succ, h2]
  · dsimp only at h0 h1 h2 g ⊢
    rw [h2, end_toNat h1 (df g)]
    rfl
theorem sat_max : Sat Try.prog 75 maxSp := by
  refine sat_nf (C := G0) ssG0 max_nf fun (l : List Int) hk hp => ?_
  have hp : 1 ≤ l.length := hp
  have hl : l.length ≤ 9223372036854775807 := hk.1
  refine ⟨fun h => absurd (dt h) (by omega), fun _ => ⟨by omega, fun x => 1 ≤ x.2 ∧ x.2 ≤ l.length ∧ x.1 = maxK x.2.toNat (fun i => l.getD i 0) (l.getD 0 0), fun x => ((l.length : Int) - x.2).toNat, ⟨by simp, by simp; omega, ?_⟩, fun ⟨o, i⟩ ⟨h0, h1, h2⟩ => ⟨fun g => ?_, fun g => ?_⟩⟩⟩
  · show l.getD 0 0 = maxK 1 (fun i => l.getD i 0) (l.getD 0 0)
    rw [maxK_succ]
    exact (Int.max_self _).symm
  · dsimp only at h0 h1 h2 g ⊢
    have g := dt g
    refine ⟨⟨by omega, g⟩, i64_lt (by omega) g hl, ⟨by omega, by omega, ?_⟩, by omega⟩
    rw [succ_toNat (by omega), maxK_succ, h2]
  · dsimp only at h0 h1 h2 g ⊢
    rw [h2, end_toNat h1 (df g)]
    rfl
theorem sat_idx : Sat Try.prog 49 idxSp := by
  refine sat_nf (C := G0) ssG0 (fun x => idx_nf x.1 x.2) fun (⟨l, v⟩ : List Int × Int) hk _ => ?_
  try dsimp only at *
  have hl : l.length ≤ 9223372036854775807 := hk.1.1
  refine ⟨fun x => 0 ≤ x ∧ x ≤ l.length ∧ ∀ j : Nat, (j : Int) < x → decide (l.getD j 0 = v) = false, fun x => ((l.length : Int) - x).toNat, ⟨by omega, by omega, fun j hj => by omega⟩, fun x ⟨h0, h1, h2⟩ => ⟨fun g => ?_, fun g => ?_⟩⟩
  · have g := dt g
    refine ⟨⟨h0, g⟩, fun c => ?_, fun c => ⟨i64_lt h0 g hl, ⟨by omega, by omega, upd_all h0 h2 ?_⟩, by dsimp only; omega⟩⟩
    · have := firstI_is (p := fun i => decide (l.getD i 0 = v)) (k := x.toNat) (n := l.length) (by omega) (decide_eq_true (dt c).symm) fun j hj => h2 j (by omega)
      show x = firstI _ _
      rw [this]; omega
    · exact decide_eq_false fun e => df c e.symm
  · have g := df g
    exact (firstI_none (p := fun i => decide (l.getD i 0 = v)) fun j hj => h2 j (by omega)).symm
theorem sat_mul : Sat Try.prog 74 mulSp := by
  refine sat_nf (C := G0) ssG0 (fun x => mul_nf x.1 x.2) fun (⟨x, y⟩ : Int × Int) hk hp => ?_
  try dsimp only at *
  have hx : 0 ≤ x := hk.1.1
  have hy : 0 ≤ y := hk.2.1
  obtain ⟨px, py⟩ : x ≤ 1000000 ∧ y ≤ 1000000 := hp
  try dsimp only
  have e32 : (2 : Int) ^ (32 : Nat) = 4294967296 := by decide
  have hm : 0 ≤ x * y ∧ x * y ≤ 1000000 * 1000000 := ⟨Int.mul_nonneg hx hy, Int.mul_le_mul px py hy (by omega)⟩
  have z : IntKind.u64.wrap 0 = 0 := wrapU (by omega) (by omega)
  have hq : 0 ≤ x * y / 4294967296 ∧ x * y / 4294967296 ≤ 1000 := by omega
  rw [e32, mask32 hx (by omega), mask32 hy (by omega), show x / 4294967296 = 0 by omega, show y / 4294967296 = 0 by omega]
  simp only [Int.zero_mul, Int.mul_zero, z, Int.zero_add, wrapU (x := x * y) hm.1 (by omega)]
  generalize x * y / 4294967296 = q at *
  simp only [wrapU (x := q) (by omega) (by omega), mask32 (x := q) (by omega) (by omega), Int.add_zero, show q / 4294967296 = 0 by omega, z]
  exact ⟨by omega, by omega, by omega, by omega, by omega, trivial⟩
theorem fit_no {l : List (List Int)} {k : Nat} (hk : k < l.length) (h : alikeB (l.getD 0 []) (l.getD k []) = false) : false = fitB l := is_no fun hf => by
  rw [(fitB_iff.1 hf).2 k hk] at h
  cases h
theorem sat_fit : Sat Try.prog 42 fitSp := by
  refine sat_nf (C := G0) ssG0 fit_nf fun (l : List (List Int)) hk _ => ?_
  have hl : l.length ≤ 9223372036854775807 := hk.1
  refine ⟨fun a => ⟨fun b => ?_, fun b => is_no fun h => ?_⟩, fun a => is_no fun h => ?_⟩
  · have a := dt a
    have b := dt b
    refine ⟨fun x => 0 ≤ x ∧ x ≤ l.length ∧ ∀ k : Nat, (k : Int) < x → alikeB (l.getD 0 []) (l.getD k []) = true, fun x => ((l.length : Int) - x).toNat, ⟨by omega, by omega, fun j hj => by omega⟩, fun x ⟨h0, h1, h2⟩ => ⟨fun g => ?_, fun g => ?_⟩⟩
    · have g := dt g
      refine ⟨⟨h0, g⟩, ⟨by omega, by omega⟩, trivial, fun c => ?_, fun c => ⟨i64_lt h0 g hl, ⟨by omega, by omega, upd_all h0 h2 (nf c)⟩, by dsimp only; omega⟩⟩
      rw [decide_eq_true h0]
      exact fit_no (by omega) (nt c)
    · have g := df g
      exact (fitB_iff.2 ⟨by omega, fun k hk => h2 k (by omega)⟩).symm
  · have := (fitB_iff.1 h).1
    have b := df b
    omega
  · have := (fitB_iff.1 h).1
    have a := df a
    omega
theorem sat_rFit : Sat Try.prog 30 fitSp := by
  refine sat_nf (C := G0) ssG0 rFit_nf fun (l : List (List Int)) hk _ => ?_
  have hl : l.length ≤ 9223372036854775807 := hk.1
  refine ⟨fun x => 0 ≤ x ∧ x ≤ l.length ∧ ∀ k : Nat, (k : Int) < x → vecOk (l.getD k []) = true ∧ (l.getD k []).length = (l.getD 0 []).length, fun x => ((l.length : Int) - x).toNat, ⟨by omega, by omega, fun j hj => by omega⟩, fun x ⟨h0, h1, h2⟩ => ⟨fun g => ?_, fun g => ?_⟩⟩
  · have g := dt g
    refine ⟨⟨h0, g⟩, trivial, fun c => is_no fun h => ?_, fun c => ⟨⟨h0, g⟩, ⟨by omega, by omega⟩, fun d => is_no fun h => ?_, fun d => ⟨i64_lt h0 g hl, ⟨by omega, by omega, upd_all h0 h2 ⟨nf c, by have := ndf d; omega⟩⟩, by dsimp only; omega⟩⟩⟩
    · have := (alike_iff.1 ((fitB_iff.1 h).2 x.toNat (by omega))).2.1
      rw [nt c] at this
      cases this
    · have := (alike_iff.1 ((fitB_iff.1 h).2 x.toNat (by omega))).2.2
      have d := ndt d
      omega
  · have g := df g
    have hf : 1 ≤ l.length → l.length ≤ 4096 → fitB l = true := fun a b => fitB_iff.2 ⟨⟨a, b⟩, fun k hk => alike_iff.2 ⟨(h2 0 (by omega)).1, (h2 k (by omega)).1, (h2 k (by omega)).2.symm⟩⟩
    refine ⟨fun a => dec_is ⟨fun b => hf (by have := dt a; omega) (by omega), fun h => by have := (fitB_iff.1 h).1; omega⟩, fun a => is_no fun h => ?_⟩
    have := (fitB_iff.1 h).1
    have a := df a
    omega
theorem sat_with : Sat Try.prog 55 withSp := sat_nf (C := G0) ssG0 (fun x => with_nf x.1 x.2) fun _ _ _ => rfl
theorem sat_allSh : Sat Try.prog 56 allShSp := sat_nf (C := G0) ssG0 (fun _ => allSh_nf) fun _ _ _ => rfl
theorem sat_ofSh : Sat Try.prog 65 ofShSp := sat_nf (C := G0) ssG0 ofSh_nf fun _ _ _ => rfl
theorem sat_rMet : Sat Try.prog 29 metricSp := by
  refine sat_nf (C := G0) ssG0 rMet_nf fun (m : Int) _ _ => ⟨fun h => ?_, fun h => ?_⟩ <;> rw [h] <;> simp
theorem sat_rValidSh : Sat Try.prog 39 validShSp := by
  refine sat_nf (C := G0) ssG0 rValidSh_nf fun (l : List Shell) hk _ => ?_
  have hl : l.length ≤ 9223372036854775807 := hk.1
  refine ⟨fun x => 0 ≤ x ∧ x ≤ l.length ∧ ∀ k : Nat, (k : Int) < x → shB (l.getD k sh0) = true, fun x => ((l.length : Int) - x).toNat, ⟨by omega, by omega, fun j hj => by omega⟩, fun x ⟨h0, h1, h2⟩ => ⟨fun g => ?_, fun g => ?_⟩⟩
  · have g := dt g
    have no : ∀ {p : Prop}, (shB (l.getD x.toNat sh0) = true → False) → false = validB l := fun hn => is_no fun h => hn ((validB_iff.1 h).2 x.toNat (by omega))
    refine ⟨⟨h0, g⟩, fun a => no (p := True) fun h => ?_, fun a => ⟨⟨h0, g⟩, ⟨h0, g⟩, fun b => no (p := True) fun h => ?_, fun b => ⟨⟨h0, g⟩, fun c => no (p := True) fun h => ?_, fun c => ⟨i64_lt h0 g hl, ⟨by omega, by omega, upd_all h0 h2 (shB_iff.2 ?_)⟩, by dsimp only; omega⟩⟩⟩⟩
    · have := shB_iff.1 h
      have a := dt a
      unfold sh0 at this
      omega
    · have := shB_iff.1 h
      have a := dt b
      unfold sh0 at this
      omega
    · have := shB_iff.1 h
      have a := dt c
      unfold sh0 at this
      omega
    · have a := df a
      have b := df b
      have c := df c
      unfold sh0
      omega
  · have g := df g
    exact dec_is ⟨fun h => validB_iff.2 ⟨by omega, fun k hk => h2 k (by omega)⟩, fun h => by have := (validB_iff.1 h).1; omega⟩
theorem sat_sameL : Sat Try.prog 19 sameLSp := by
  refine sat_nf (C := G0) ssG0 (fun x => sameL_nf x.1 x.2) fun (⟨a, b⟩ : List Int × List Int) hk _ => ?_
  try dsimp only at *
  have hl : a.length ≤ 9223372036854775807 := hk.1.1
  refine ⟨fun h => (decide_eq_false fun e => ndt h (by rw [e])).symm, fun h => ?_⟩
  have h := ndf h
  refine ⟨fun x => 0 ≤ x ∧ x ≤ a.length ∧ ∀ k : Nat, (k : Int) < x → a.getD k 0 = b.getD k 0, fun x => ((a.length : Int) - x).toNat, ⟨by omega, by omega, fun j hj => by omega⟩, fun x ⟨h0, h1, h2⟩ => ⟨fun g => ?_, fun g => ?_⟩⟩
  · have g := dt g
    exact ⟨⟨h0, g⟩, ⟨h0, by omega⟩, fun c => (decide_eq_false fun e => ndt c (by rw [e])).symm, fun c => ⟨i64_lt h0 g hl, ⟨by omega, by omega, upd_all h0 h2 (ndf c)⟩, by dsimp only; omega⟩⟩
  · have g := df g
    exact (decide_eq_true (list_ext (by omega) fun i hi => h2 i (by omega))).symm
theorem sh_eq {p q : Shell} (h1 : p.1 = q.1) (h2 : p.2.1 = q.2.1) : p = q := by
  obtain ⟨a, b, _⟩ := p
  obtain ⟨c, d, _⟩ := q
  dsimp only at h1 h2
  rw [h1, h2]
theorem sat_sameSh : Sat Try.prog 38 sameShSp := by
  refine sat_nf (C := G0) ssG0 (fun x => sameSh_nf x.1 x.2) fun (⟨a, b⟩ : List Shell × List Shell) hk _ => ?_
  try dsimp only at *
  have hl : a.length ≤ 9223372036854775807 := hk.1.1
  refine ⟨fun h => (decide_eq_false fun e => ndt h (by rw [e])).symm, fun h => ?_⟩
  have h := ndf h
  refine ⟨fun x => 0 ≤ x ∧ x ≤ a.length ∧ ∀ k : Nat, (k : Int) < x → a.getD k sh0 = b.getD k sh0, fun x => ((a.length : Int) - x).toNat, ⟨by omega, by omega, fun j hj => by omega⟩, fun x ⟨h0, h1, h2⟩ => ⟨fun g => ?_, fun g => ?_⟩⟩
  · have g := dt g
    refine ⟨⟨h0, g⟩, ⟨h0, by omega⟩, fun c => (decide_eq_false fun e => ?_).symm, fun c => ⟨i64_lt h0 g hl, ⟨by omega, by omega, upd_all h0 h2 ?_⟩, by dsimp only; omega⟩⟩
    · subst e
      simp at c
    · simp only [Bool.and_true, Bool.not_eq_false', Bool.and_eq_true, decide_eq_true_eq] at c
      exact sh_eq c.1 c.2
  · have g := df g
    exact (decide_eq_true (listL_ext sh0 (by omega) fun i hi => h2 i (by omega))).symm
theorem sat_few9 : Sat Try.prog 9 fewSp9 := by
  refine sat_nf (C := G0) ssG0 (fun x => few9_nf x.1 x.2) fun (⟨l, n⟩ : List (List Int) × Int) hk _ => ?_
  try dsimp only at *
  have hl : l.length ≤ 9223372036854775807 := hk.1.1
  refine ⟨fun h => is_no fun h' => by have := (few40_iff.1 h').1; have := dt h; omega, fun h => ?_⟩
  have h := df h
  refine ⟨fun x => 0 ≤ x ∧ x ≤ l.length ∧ ∀ k : Nat, (k : Int) < x → (l.getD k []).length ≤ 40, fun x => ((l.length : Int) - x).toNat, ⟨by omega, by omega, fun j hj => by omega⟩, fun x ⟨h0, h1, h2⟩ => ⟨fun g => ?_, fun g => ?_⟩⟩
  · have g := dt g
    refine ⟨⟨h0, g⟩, fun c => is_no fun h' => ?_, fun c => ⟨i64_lt h0 g hl, ⟨by omega, by omega, upd_all h0 h2 (by have := df c; omega)⟩, by dsimp only; omega⟩⟩
    have := (few40_iff.1 h').2 x.toNat (by omega)
    have c := dt c
    omega
  · have g := df g
    exact (few40_iff.2 ⟨by omega, fun k hk => h2 k (by omega)⟩).symm
theorem sat_gap2 : Sat Try.prog 69 gap2Sp := by
  refine sat_nf (C := G0) ssG0 (fun x => gap2_nf x.1 x.2.1 x.2.2.1 x.2.2.2) fun (⟨m, a, b, c⟩ : Int × Int × Int × Int) _ hp => ?_
  try dsimp only at *
  obtain ⟨ha, hb, hc, hab⟩ : keyP a ∧ keyP b ∧ keyP c ∧ a ≤ b := hp
  try dsimp only
  refine ⟨fun h => ⟨⟨hc, ha⟩, ?_⟩, fun h => ⟨fun h' => ⟨⟨hc, hb⟩, ?_⟩, fun h' => ?_⟩⟩
  · have h := dt h
    rw [show max a (min c b) = a by omega]
  · have h' := dt h'
    rw [show max a (min c b) = b by omega]
  · have h := df h
    have h' := df h'
    rw [show max a (min c b) = c by omega, low_self hc]
theorem sat_reach2 : Sat Try.prog 70 reach2Sp := by
  refine sat_nf (C := G0) ssG0 (fun x => reach2_nf x.1 x.2.1 x.2.2.1 x.2.2.2) fun (⟨m, a, b, c⟩ : Int × Int × Int × Int) _ hp => ?_
  try dsimp only at *
  obtain ⟨ha, hb, hc, hab⟩ : keyP a ∧ keyP b ∧ keyP c ∧ a ≤ b := hp
  try dsimp only
  have := high_mono (m := m) hc ha hb hab
  exact ⟨⟨hc, ha⟩, ⟨hc, hb⟩, fun h => absurd (dt h) (by omega), fun _ => rfl⟩
theorem sat_near1 : Sat Try.prog 50 near1Sp := by
  refine sat_nf (C := G0) ssG0 (fun x => near1_nf x.1 x.2.1 x.2.2) fun (⟨m, p, v⟩ : Int × List (List Int) × List Int) hk hp => ?_
  try dsimp only at *
  obtain ⟨hm, hp1, hal⟩ : nearP3 m p v := hp
  have hl : p.length ≤ 9223372036854775807 := hk.2.1.1
  obtain ⟨m1, m2⟩ := metB_iff.1 hm
  have hs : ∀ k, k < p.length → 1 ≤ m ∧ m ≤ 3 ∧ small 64 4000 (p.getD k []) ∧ small 64 4000 v ∧ (p.getD k []).length = v.length := fun k hk => ⟨m1, m2, alike_sm (hal k hk) (by omega)⟩
  try dsimp only
  refine ⟨by omega, hs 0 (by omega), fun x => 0 ≤ x.1 ∧ x.1 ≤ p.length ∧ x.2.1 = (amin x.1.toNat (keyAt m p v) : Int) ∧ x.2.2.1 = keyAt m p v (amin x.1.toNat (keyAt m p v)) ∧ x.2.2.2 = 0, fun x => ((p.length : Int) - x.1).toNat, ⟨by simp, by simp, rfl, rfl, rfl⟩,
    fun ⟨i, at_, k, e⟩ ⟨h0, h1, h2, h3, h4⟩ => ?_⟩
  dsimp only at h0 h1 h2 h3 h4 ⊢
  subst h2 h3 h4
  refine ⟨fun g => ?_, fun g => ?_⟩
  · have g := dt g
    have hsu := amin_succ i.toNat (keyAt m p v)
    refine ⟨⟨h0, g⟩, hs _ (by omega), fun c => ⟨i64_lt h0 g hl, ⟨by omega, by omega, ?_, ?_, rfl⟩, by omega⟩, fun c => ⟨i64_lt h0 g hl, ⟨by omega, by omega, ?_, ?_, rfl⟩, by omega⟩⟩
    · have c : keyAt m p v i.toNat < keyAt m p v (amin i.toNat (keyAt m p v)) := dt c
      rw [succ_toNat h0, hsu, if_pos c]; omega
    · have c : keyAt m p v i.toNat < keyAt m p v (amin i.toNat (keyAt m p v)) := dt c
      rw [succ_toNat h0, hsu, if_pos c]; rfl
    · have c : ¬ keyAt m p v i.toNat < keyAt m p v (amin i.toNat (keyAt m p v)) := df c
      rw [succ_toNat h0, hsu, if_neg c]
    · have c : ¬ keyAt m p v i.toNat < keyAt m p v (amin i.toNat (keyAt m p v)) := df c
      rw [succ_toNat h0, hsu, if_neg c]
  · have e := end_toNat h1 (df g)
    rw [e]
    rfl
end Go.Proofs.Ytdhfjgooamoodaa
