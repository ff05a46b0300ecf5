import Derived.Test.YtdeleoaeegmhlaaMYb
namespace Go.PL
open Go.AM
set_option linter.unusedVariables false
theorem wrapU {x : Int} (h0 : 0 ≤ x) (h1 : x < 18446744073709551616) : IntKind.u64.wrap x = x := by
  unfold IntKind.wrap
  simp [IntKind.bits, IntKind.signed]
  omega
theorem i64_wrap {x : Int} (h0 : -9223372036854775808 ≤ x) (h1 : x ≤ 9223372036854775807) : IntKind.i64.wrap x = x := by
  unfold IntKind.wrap
  simp [IntKind.bits, IntKind.signed]
  omega
theorem mask32 {x : Int} (h0 : 0 ≤ x) (h1 : x < 4294967296) : bitsOp .and .u64 x 4294967295 = x := by
  have e : (BitVec.ofInt 64 x &&& BitVec.ofInt 64 (4294967295 : Int)).toNat = x.toNat := by
    rw [BitVec.toNat_and]
    have h1' : (BitVec.ofInt 64 x).toNat = x.toNat := by rw [BitVec.toNat_ofInt]; omega
    have h2 : (BitVec.ofInt 64 (4294967295 : Int)).toNat = 2 ^ 32 - 1 := by rw [BitVec.toNat_ofInt]; rfl
    rw [h1', h2, Nat.and_two_pow_sub_one_eq_mod]
    omega
  show IntKind.u64.wrap ((BitVec.ofInt 64 x &&& BitVec.ofInt 64 (4294967295 : Int)).toNat : Int) = x
  rw [e, wrapU (by omega) (by omega)]
  omega
theorem rep_step {x : List Int} {s n : Nat} {v : Int} (hl : x.length = n) (h1 : 1 ≤ s) (h2 : s < n) (hv : ∀ i, i < s → x.getD i 0 = v) :
    (x.take s ++ (x.take s).take (min (n - s) s) ++ x.drop (s + min (n - s) s)).length = n ∧ ∀ i, i < s + min (n - s) s → (x.take s ++ (x.take s).take (min (n - s) s) ++ x.drop (s + min (n - s) s)).getD i 0 = v := by
  refine ⟨by simp only [List.length_append, List.length_take, List.length_drop]; omega, fun i hi => ?_⟩
  have ht : (x.take s).length = s := by rw [List.length_take]; omega
  rw [List.getD_eq_getElem?_getD, List.append_assoc]
  rcases Nat.lt_or_ge i s with h | h
  · rw [List.getElem?_append_left (by omega), List.getElem?_take, if_pos h, ← List.getD_eq_getElem?_getD]
    exact hv i h
  · rw [List.getElem?_append_right (by omega), ht, List.getElem?_append_left (by rw [List.length_take, ht]; omega), List.getElem?_take, if_pos (by omega), List.getElem?_take, if_pos (by omega), ← List.getD_eq_getElem?_getD]
    exact hv _ (by omega)
theorem replicate_ext {x : List Int} {n : Nat} {v : Int} (hl : x.length = n) (hv : ∀ i, i < n → x.getD i 0 = v) : x = List.replicate n v := by
  refine list_ext (by simp [hl]) fun i hi => ?_
  rw [hv i (by omega), List.getD_eq_getElem?_getD, List.getElem?_replicate, if_pos (by omega)]
  rfl
theorem goodS_iff {l : List Int} : goodS l = true ↔ (∀ i, i < l.length → 0 ≤ at_ l i ∧ at_ l i < 32 ∧ (i = 0 ∨ at_ l (i - 1) < at_ l i)) ∧ 1 ≤ l.length ∧ l.length ≤ 4 := by
  unfold goodS
  simp only [Bool.and_eq_true, Bool.or_eq_true, decide_eq_true_eq, upto_iff]
theorem cutsB_iff {b : Box} {x a : Int} : cutsB b x a = true ↔ 0 ≤ x ∧ x < b.1.length ∧ at_ b.1 x.toNat < a ∧ a ≤ at_ b.2.1 x.toNat := by
  unfold cutsB
  simp only [Bool.and_eq_true, decide_eq_true_eq]
end Go.PL
namespace Go.Proofs.Ytdeleoaeegmhlaa
open Go.AM Go.PL
set_option linter.unusedVariables false
attribute [local irreducible] fnwp fnwpG
theorem ssY0 : SpecSound Y0 := mkctx_sound trivial trivial
theorem ssY0G : SpecSound Y0G := mkctx_sound trivial ⟨satG_cln, trivial⟩
theorem sat_good : Sat Try.prog 43 goodSp := by
  refine sat_nf (C := Y0) ssY0 good_nf fun (v : List Int) hk hp => ?_
  refine ⟨fun c => is_no fun h => ?_, fun c1 => ⟨fun c => is_no fun h => ?_, fun c2 => ⟨fun x => 0 ≤ x ∧ x ≤ v.length ∧ ∀ j : Nat, (j : Int) < x → 0 ≤ at_ v j ∧ at_ v j < 32 ∧ (j = 0 ∨ at_ v (j - 1) < at_ v j), fun x => ((v.length : Int) - x).toNat, ⟨by omega, by omega, fun j hj => by omega⟩, fun x ⟨h0, h1, h2⟩ => ⟨fun c => ?_, fun c => ?_⟩⟩⟩⟩
  · have := dt c; have := (goodS_iff.1 h).2.1; omega
  · have := dt c; have := (goodS_iff.1 h).2.2; omega
  · have c := dt c
    have step : (x = 0 ∨ v.getD (x - 1).toNat 0 < v.getD x.toNat 0) → 0 ≤ v.getD x.toNat 0 → v.getD x.toNat 0 < 32 → (∀ j : Nat, (j : Int) < x + 1 → 0 ≤ at_ v j ∧ at_ v j < 32 ∧ (j = 0 ∨ at_ v (j - 1) < at_ v j)) := fun g g1 g2 => upd_all h0 h2 ⟨g1, g2, by
      rcases g with g | g
      · exact .inl (by omega)
      · exact .inr (by show v.getD (x.toNat - 1) 0 < _; rw [show x.toNat - 1 = (x - 1).toNat by omega]; exact g)⟩
    refine ⟨⟨h0, c⟩, fun g => is_no fun h => ?_, fun g1 => ⟨fun g => is_no fun h => ?_, fun g2 => ⟨fun g3 => ⟨(by have : v.length ≤ 9223372036854775807 := hk.1; unfold isI64; omega), ⟨by have := dt g3; omega, by omega⟩, fun g => is_no fun h => ?_, fun g => ⟨i64_lt h0 c hk.1, ⟨by omega, by omega, step (.inr (by have := df g; omega)) (by have := df g1; omega) (by have := df g2; omega)⟩, by dsimp only; omega⟩⟩, fun g3 => ⟨i64_lt h0 c hk.1, ⟨by omega, by omega, step (.inl (by have := df g3; omega)) (by have := df g1; omega) (by have := df g2; omega)⟩, by dsimp only; omega⟩⟩⟩⟩
    · have := dt g; have := ((goodS_iff.1 h).1 x.toNat (by omega)).1; unfold at_ at this; omega
    · have := dt g; have := ((goodS_iff.1 h).1 x.toNat (by omega)).2.1; unfold at_ at this; omega
    · have g := dt g
      have g3 := dt g3
      have := ((goodS_iff.1 h).1 x.toNat (by omega)).2.2
      unfold at_ at this
      rw [show x.toNat - 1 = (x - 1).toNat by omega] at this
      omega
  · have c := df c
    have c1 := df c1
    have c2 := df c2
    exact (goodS_iff.2 ⟨fun i hi => h2 i (by omega), by omega, by omega⟩).symm
theorem sat_rOff : Sat Try.prog 59 goodSp := by
  refine sat_nf (C := Y0) ssY0 rOff_nf fun (v : List Int) hk hp => ?_
  refine ⟨fun x => 0 ≤ x ∧ x ≤ v.length ∧ ∀ j : Nat, (j : Int) < x → 0 ≤ at_ v j ∧ at_ v j < 32 ∧ (j = 0 ∨ at_ v (j - 1) < at_ v j), fun x => ((v.length : Int) - x).toNat, ⟨by omega, by omega, fun j hj => by omega⟩, fun x ⟨h0, h1, h2⟩ => ⟨fun c => ?_, fun c => ?_⟩⟩
  · have c := dt c
    have step : (x = 0 ∨ v.getD (x - 1).toNat 0 < v.getD x.toNat 0) → 0 ≤ v.getD x.toNat 0 → v.getD x.toNat 0 < 32 → (∀ j : Nat, (j : Int) < x + 1 → 0 ≤ at_ v j ∧ at_ v j < 32 ∧ (j = 0 ∨ at_ v (j - 1) < at_ v j)) := fun g g1 g2 => upd_all h0 h2 ⟨g1, g2, by
      rcases g with g | g
      · exact .inl (by omega)
      · exact .inr (by show v.getD (x.toNat - 1) 0 < _; rw [show x.toNat - 1 = (x - 1).toNat by omega]; exact g)⟩
    refine ⟨⟨h0, c⟩, fun g => is_no fun h => ?_, fun g1 => ⟨⟨h0, c⟩, fun g => is_no fun h => ?_, fun g2 => ⟨fun g3 => ⟨⟨h0, c⟩, (by have : v.length ≤ 9223372036854775807 := hk.1; unfold isI64; omega), ⟨by have := dt g3; omega, by omega⟩, fun g => is_no fun h => ?_, fun g => ⟨i64_lt h0 c hk.1, ⟨by omega, by omega, step (.inr (by have := df g; omega)) (by have := df g1; omega) (by have := df g2; omega)⟩, by dsimp only; omega⟩⟩, fun g3 => ⟨i64_lt h0 c hk.1, ⟨by omega, by omega, step (.inl (by have := df g3; omega)) (by have := df g1; omega) (by have := df g2; omega)⟩, by dsimp only; omega⟩⟩⟩⟩
    · have := dt g; have := ((goodS_iff.1 h).1 x.toNat (by omega)).1; unfold at_ at this; omega
    · have := dt g; have := ((goodS_iff.1 h).1 x.toNat (by omega)).2.1; unfold at_ at this; omega
    · have g := dt g
      have g3 := dt g3
      have := ((goodS_iff.1 h).1 x.toNat (by omega)).2.2
      unfold at_ at this
      rw [show x.toNat - 1 = (x - 1).toNat by omega] at this
      omega
  · have c := df c
    refine ⟨fun c1 => dec_is ⟨fun c2 => goodS_iff.2 ⟨fun i hi => h2 i (by omega), by have := dt c1; omega, by omega⟩, fun h => by have := (goodS_iff.1 h).2.2; omega⟩, fun c1 => is_no fun h => ?_⟩
    have := df c1; have := (goodS_iff.1 h).2.1; omega
theorem cuts_core {b : Box} {x a : Int} (he : evenB b) : ((decide ((0 : Int) ≤ x) = true →
    (decide (x < (↑b.fst.length : Int)) = true →
        ((0 : Int) ≤ x ∧ x < (↑b.fst.length : Int)) ∧
          (decide (b.fst.getD x.toNat (0 : Int) < a) = true →
              ((0 : Int) ≤ x ∧ x < (↑b.snd.fst.length : Int)) ∧
                decide (a ≤ b.snd.fst.getD x.toNat (0 : Int)) = cutsB b x a) ∧
            (decide (b.fst.getD x.toNat (0 : Int) < a) = false → false = cutsB b x a)) ∧
      (decide (x < (↑b.fst.length : Int)) = false → false = cutsB b x a)) ∧
  (decide ((0 : Int) ≤ x) = false → false = cutsB b x a)) := by
  obtain ⟨h1, h2⟩ := he
  refine ⟨fun c => ⟨fun c1 => ⟨⟨dt c, dt c1⟩, fun c2 => ⟨⟨dt c, by have := dt c1; omega⟩, dec_is ⟨fun h => cutsB_iff.2 ⟨dt c, dt c1, dt c2, h⟩, fun h => (cutsB_iff.1 h).2.2.2⟩⟩, fun c2 => is_no fun h => df c2 (cutsB_iff.1 h).2.2.1⟩, fun c1 => is_no fun h => df c1 (cutsB_iff.1 h).2.1⟩, fun c => is_no fun h => df c (cutsB_iff.1 h).1⟩
theorem sat_cuts : Sat Try.prog 42 cutsSp := sat_nf (C := Y0) ssY0 (fun x => cuts_nf x.1 x.2.1 x.2.2) fun x hk hp => cuts_core hp
theorem sat_rCuts : Sat Try.prog 60 cutsSp := sat_nf (C := Y0) ssY0 (fun x => rCuts_nf x.1 x.2.1 x.2.2) fun x hk hp => cuts_core hp
theorem at_i64 {l : List Int} (h : ∀ x ∈ l, IntKind.i64.has x) (i : Nat) (hi : i < l.length) : isI64 (at_ l i) := by
  unfold at_
  rw [List.getD_eq_getElem?_getD, List.getElem?_eq_getElem hi]
  exact h _ (List.getElem_mem hi)
theorem sat_halves : Sat Try.prog 65 halvesSp := by
  refine sat_nf (C := Y0G) ssY0G (fun x => halves_nf x.1 x.2.1 x.2.2) fun (⟨b, x, a⟩ : Box × Int × Int) hk hp => ?_
  obtain ⟨⟨h1, h2⟩, h3⟩ : evenB b ∧ cutsB b x a = true := hp
  obtain ⟨c1, c2, c3, c4⟩ := cutsB_iff.1 h3
  have k1 := at_i64 hk.1.1.2 x.toNat (by dsimp only; omega)
  have k2 : IntKind.i64.has a := hk.2.2
  have k2' : -9223372036854775808 ≤ a ∧ a ≤ 9223372036854775807 := k2
  dsimp only at k1 ⊢
  refine ⟨by omega, by omega, ?_, ⟨c1, by omega⟩, ⟨c1, by omega⟩, ⟨rfl, rfl⟩, rfl⟩
  unfold isI64 at *
  omega
theorem roomY0 {n : Nat} (h : n ≤ 1000000) : roomP Y0 3 n := roomI (C := Y0) bytesI h
theorem sat_low : Sat Try.prog 61 lowSp := by
  refine sat_nf (C := Y0) ssY0 (fun x => low_nf x.1 x.2.1 x.2.2) fun (⟨b, x, a⟩ : Box × Int × Int) hk hp => ?_
  obtain ⟨⟨h1, h2⟩, h3⟩ : evenB b ∧ cutsB b x a = true := hp
  obtain ⟨c1, c2, c3, c4⟩ := cutsB_iff.1 h3
  have k1 := at_i64 hk.1.1.2 x.toNat (by dsimp only; omega)
  have k2 : IntKind.i64.has a := hk.2.2
  have k2' : -9223372036854775808 ≤ a ∧ a ≤ 9223372036854775807 := k2
  dsimp only at k1 ⊢
  refine ⟨roomY0 (by omega), ?_, ⟨c1, by omega⟩, rfl⟩
  unfold isI64 at *
  omega
theorem sat_high : Sat Try.prog 62 highSp := by
  refine sat_nf (C := Y0) ssY0 (fun x => high_nf x.1 x.2.1 x.2.2) fun (⟨b, x, a⟩ : Box × Int × Int) hk hp => ?_
  obtain ⟨⟨h1, h2⟩, h3⟩ : evenB b ∧ cutsB b x a = true := hp
  obtain ⟨c1, c2, c3, c4⟩ := cutsB_iff.1 h3
  exact ⟨roomY0 (by dsimp only; omega), ⟨c1, c2⟩, rfl⟩
theorem sat_mul : Sat Try.prog 82 mulSp := by
  refine sat_nf (C := Y0) ssY0 (fun x => mul_nf x.1 x.2) fun (⟨x, y⟩ : Int × Int) hk hp => ?_
  try dsimp only at *
  obtain ⟨hx, px, hy, py⟩ : 0 ≤ x ∧ x ≤ 1000000 ∧ 0 ≤ y ∧ y ≤ 1000000 := hp
  try dsimp only
  have e32 : (2 : Int) ^ (32 : Nat) = 4294967296 := by decide
  have hm : 0 ≤ x * y ∧ x * y ≤ 1000000 * 1000000 := ⟨Int.mul_nonneg hx hy, Int.mul_le_mul px py hy (by omega)⟩
  have z : IntKind.u64.wrap 0 = 0 := wrapU (by omega) (by omega)
  have hq : 0 ≤ x * y / 4294967296 ∧ x * y / 4294967296 ≤ 1000 := by omega
  rw [e32, mask32 hx (by omega), mask32 hy (by omega), show x / 4294967296 = 0 by omega, show y / 4294967296 = 0 by omega]
  simp only [Int.zero_mul, Int.mul_zero, z, Int.zero_add, wrapU (x := x * y) hm.1 (by omega)]
  generalize x * y / 4294967296 = q at *
  simp only [wrapU (x := q) (by omega) (by omega), mask32 (x := q) (by omega) (by omega), Int.add_zero, show q / 4294967296 = 0 by omega, z]
  exact ⟨by omega, by omega, by omega, by omega, by omega, trivial⟩
theorem ssYRp : SpecSound YRp := mkctx_sound ⟨sat_mul, trivial⟩ trivial
theorem sat_rep : SatG Try.prog 66 repG := by
  refine fnwpG_sat ssYRp 6 _ _ fun (x : List Int × Int) hk hp => ?_
  obtain ⟨l, n⟩ := x
  obtain ⟨hl, h1, h2⟩ : l.length = 1 ∧ 1 ≤ n ∧ n ≤ 1000000 := hp
  rw [rep_nf]
  obtain ⟨v, rfl⟩ : ∃ v, l = [v] := by
    match l, hl with
    | [v], _ => exact ⟨v, rfl⟩
  have w1 : IntKind.u64.wrap ((([v] : List Int).length : Nat) : Int) = 1 := wrapU (by simp) (by simp)
  have w2 : IntKind.u64.wrap n = n := wrapU (by omega) (by omega)
  have w3 : IntKind.i64.wrap n = n := i64_wrap (by omega) (by omega)
  simp only [w1, w2, Int.one_mul, w3, List.length_replicate, Int.toNat_natCast, Nat.sub_zero, List.take_zero, List.nil_append, Nat.zero_add, List.drop_zero, List.length_take]
  refine ⟨fun h => absurd (dt h) (by omega), fun _ => ⟨⟨by omega, by omega, by omega, by omega⟩, fun h => absurd (dt h) (by omega), fun _ => ⟨fun h => absurd (dt h) (by omega), fun _ => ⟨⟨by omega, by omega, roomI (C := YRp) bytesI (by omega)⟩, ⟨by omega, by simp, by omega, by omega, by omega⟩, ?_⟩⟩⟩⟩
  refine ⟨fun x => (x.1 : List Int).length = n.toNat ∧ 1 ≤ x.2 ∧ x.2 ≤ n ∧ ∀ i : Nat, (i : Int) < x.2 → x.1.getD i 0 = v, fun x => (n - x.2).toNat, ?_, fun ⟨x, s⟩ ⟨x1, x2, x3, x4⟩ => ⟨fun g => ?_, fun g => ?_⟩⟩
  · have e : min n.toNat ([v] : List Int).length = 1 := by simp; omega
    rw [e]
    refine ⟨by simp; omega, by show (1 : Int) ≤ ((1 : Nat) : Int); omega, by show ((1 : Nat) : Int) ≤ n; omega, fun i hi => ?_⟩
    have : i = 0 := by dsimp only at hi; omega
    subst this
    rfl
  · dsimp only at x1 x2 x3 x4 g ⊢
    have g := dt g
    have e0 : (Int.ofNat x.length).toNat = n.toNat := by show ((x.length : Nat) : Int).toNat = _; omega
    have e1 : min s.toNat x.length = s.toNat := by omega
    have e2 : (Int.ofNat x.length) = (x.length : Int) := rfl
    obtain ⟨r1, r2⟩ := rep_step (x := x) (s := s.toNat) (n := n.toNat) (v := v) x1 (by omega) (by omega) fun i hi => x4 i (by omega)
    rw [e0, e1, e2]
    have f1 : (0 ≤ s ∧ s ≤ (x.length : Int) ∧ (x.length : Int) ≤ (x.length : Int) ∧ s < (x.length : Int)) := by omega
    have f2 : ((0 : Int) ≤ 0 ∧ 0 ≤ s ∧ s ≤ (x.length : Int) ∧ 0 < (x.length : Int)) := by omega
    have f3 : (0 < x.length ∧ 0 < s.toNat ∧ 0 ≤ s ∧ s ≤ (x.length : Int) ∧ (x.length : Int) ≤ (x.length : Int)) := by omega
    have f4 : isI64 (s + ((min (n.toNat - s.toNat) s.toNat : Nat) : Int)) := i64s (by omega) (by omega)
    have f5 : (n - (s + ((min (n.toNat - s.toNat) s.toNat : Nat) : Int))).toNat < (n - s).toNat := by omega
    have f6 : 1 ≤ s + ((min (n.toNat - s.toNat) s.toNat : Nat) : Int) ∧ s + ((min (n.toNat - s.toNat) s.toNat : Nat) : Int) ≤ n := by omega
    have f7 := fun (i : Nat) (hi : (i : Int) < s + ((min (n.toNat - s.toNat) s.toNat : Nat) : Int)) => r2 i (by omega)
    exact ⟨⟨f1, f2, f3, f4, ⟨r1, f6.1, f6.2, f7⟩, f5⟩, f2, f1, f3, f4, ⟨r1, f6.1, f6.2, f7⟩, f5⟩
  · dsimp only at x1 x2 x3 x4 g ⊢
    have g := df g
    exact replicate_ext x1 fun i hi => x4 i (by omega)
end Go.Proofs.Ytdeleoaeegmhlaa
