import Derived.Test.YtjppchomonpfgaaDj
import Derived.Test.YtjppchomonpfgaaDi
namespace Go.PL
open Go.AM
set_option linter.unusedVariables false
theorem wrap_sm16 {n : Int} (h : 0 ≤ n ∧ n ≤ 65535) : IntKind.i64.wrap n = n := wrap_has (by unfold IntKind.has; exact ⟨by show (-9223372036854775808 : Int) ≤ n; omega, by show n ≤ (9223372036854775807 : Int); omega⟩)
theorem has_byte {c : Int} (h : IntKind.u8.has c) : 0 ≤ c ∧ c ≤ 255 := h
theorem tmod50 {x : Int} (h : 0 ≤ x) : 0 ≤ Int.tmod x 50 ∧ Int.tmod x 50 < 50 := ⟨Int.tmod_nonneg 50 h, Int.tmod_lt_of_pos x (by decide)⟩
end Go.PL
namespace Go.Proofs.Ytjppchomonpfgaa
open Go.AM Go.PL
set_option linter.unusedVariables false
theorem train_parts {l : List (List Int)} {c : List Int} {w w' : Int} (h : (trainBk l c w).2 = 0) (h' : (trainBk l c w').2 = 0) (hw : w ≤ w') :
    (trainBk l c w).1.2.2.1.length = c.length ∧ (trainBk l c w').1.2.2.1.length = c.length ∧ ∀ k, k < c.length → (((trainBk l c w).1.2.2.1.getD k []).length : Int) ≤ w ∧ ∃ r, (trainBk l c w').1.2.2.1.getD k [] = (trainBk l c w).1.2.2.1.getD k [] ++ r := by
  obtain ⟨_, ⟨w1, w2⟩, _, e⟩ := trainBk_ok h
  obtain ⟨_, _, _, e'⟩ := trainBk_ok h'
  rw [e, e']
  refine ⟨tabL_length _ _, tabL_length _ _, fun k hk => ?_⟩
  dsimp only
  rw [tabL_getD _ _ hk, tabL_getD _ _ hk]
  unfold trWords
  have ht := train_len l (c.getD k 0) (endN c (l.getD 0 []).length k) w.toNat
  obtain ⟨r, hr⟩ := train_prefix l (c.getD k 0) (endN c (l.getD 0 []).length k) w.toNat (w'.toNat - w.toNat)
  rw [show w.toNat + (w'.toNat - w.toNat) = w'.toNat by omega] at hr
  exact ⟨by omega, r, hr⟩
theorem satE6 : AllSat bs.P tE6 := ⟨sat_rAll, satE5⟩
theorem ssEJ (a b : Nat) : SpecSound (EJ a b) := mkctx_sound satE6 trivial
theorem sat_law7 : Sat Try.prog 9 (lawSp [LL, L, U8, U8, I]) := by
  refine sat_nf (C := EJ 0 1) (ssEJ 0 1) (fun x => law7_nf x.1 x.2.1 x.2.2.1 x.2.2.2.1 x.2.2.2.2) fun (⟨l, c, one, two, m⟩ : List (List Int) × List Int × Int × Int × Int) hk hp => ?_
  have h1 : 0 ≤ one ∧ one ≤ 255 := has_byte hk.2.2.1
  have h2 : 0 ≤ two ∧ two ≤ 255 := has_byte hk.2.2.2.1
  have hl : l.length ≤ 9223372036854775807 := hk.1.1
  dsimp only
  refine ⟨trivial, fun _ => ⟨trivial, rfl⟩, fun _ => ⟨fun _ => ⟨trivial, rfl⟩, fun hc9 => ⟨trivial, fun _ => ⟨trivial, rfl⟩, fun hm => ?_⟩⟩⟩
  have hm := nf hm
  simp only [Bool.and_eq_true, decide_eq_true_eq] at hm
  have hc9 := df hc9
  rw [wrap_sm16 (n := min one two) (by omega), wrap_sm16 (n := max one two) (by omega)]
  have t1 := tmod50 (x := min one two) (by omega)
  have t2 := tmod50 (x := max one two) (by omega)
  generalize Int.tmod (min one two) 50 = u at *
  generalize Int.tmod (max one two) 50 = v at *
  have n1 : 1 ≤ 1 + u ∧ 1 + u ≤ 256 := by omega
  have n2 : 1 ≤ max (1 + u) (1 + v) ∧ max (1 + u) (1 + v) ≤ 256 := by omega
  have n3 : 1 + u ≤ max (1 + u) (1 + v) := by omega
  generalize 1 + u = n at *
  have i2 : isI64 (1 + v) := i64s (by omega) (by omega)
  generalize max n (1 + v) = n' at *
  have he := train_err (l := l) (c := c) n1 n2
  refine ⟨by decide, i64s (by omega) (by omega), trivial, by decide, i2, trivial, fun _ => ⟨trivial, fun _ => decide_eq_true he, fun h => (by cases h)⟩, fun ha => ⟨fun _ => ⟨trivial, fun _ => decide_eq_true he, fun h => (by cases h)⟩, fun hb => ?_⟩⟩
  have ha := ndf ha
  have hb := ndf hb
  obtain ⟨l1, l2, hpt⟩ := train_parts ha hb n3
  have hra : ∀ k, k < l.length → rightB (trainBk l c n).1 m (l.getD k []) (l.getD k []) = true := fun k hk => train_right ha hm hk
  have hrb : ∀ k, k < l.length → rightB (trainBk l c n').1 m (l.getD k []) (l.getD k []) = true := fun k hk => train_right hb hm hk
  have hwl := worst_le ha hb n3 m
  have hwz : (l.length : Int) ≤ n → worstS (trainBk l c n).1 m l = 0 := fun h => worst_zero ha h m
  generalize (trainBk l c n).1 = A at *
  generalize (trainBk l c n').1 = B at *
  refine ⟨fun x => 0 ≤ x.1 ∧ x.1 ≤ c.length ∧ x.2 = (A.1, A.2.1, A.2.2.1, B.1, B.2.1, B.2.2.1), fun x => ((c.length : Int) - x.1).toNat, ⟨by simp, by simp, rfl⟩, fun ⟨k, y⟩ ⟨k0, k1, ky⟩ => ?_⟩
  dsimp only at k0 k1 ky ⊢
  subst ky
  dsimp only
  refine ⟨fun g => ?_, fun g => ⟨hra, hrb, trivial, fun _ => ⟨fun _ => ⟨fun _ => rfl, fun q => decide_eq_true (hwz (by have := df q; omega))⟩, fun q => absurd hwl (df q)⟩, fun h => (by cases h)⟩⟩
  have g := dt g
  obtain ⟨p1, r, p2⟩ := hpt k.toNat (by omega)
  have p3 : (A.2.2.1.getD k.toNat []).length ≤ (B.2.2.1.getD k.toNat []).length := by rw [p2, List.length_append]; omega
  refine ⟨⟨k0, g⟩, ⟨k0, by omega⟩, fun q => absurd (dt q) (by omega), fun _ => ⟨⟨k0, g⟩, fun q => absurd (dt q) (by omega), fun _ => ⟨⟨k0, g⟩, ⟨k0, by omega⟩, ⟨k0, g⟩, ⟨by omega, by omega, by omega⟩, trivial, fun q => absurd ?_ (ndt q), fun _ => ⟨i64s (by omega) (by omega), ⟨by omega, by omega, rfl⟩, by omega⟩⟩⟩⟩
  rw [p2, Int.toNat_natCast, Nat.sub_zero, List.drop_zero, List.take_left]
end Go.Proofs.Ytjppchomonpfgaa
