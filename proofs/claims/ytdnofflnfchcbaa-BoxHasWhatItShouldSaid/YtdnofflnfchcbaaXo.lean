import Derived.Test.YtdnofflnfchcbaaXn
import Derived.Test.YtdnofflnfchcbaaXl1
import Derived.Test.YtdnofflnfchcbaaXl2
import Derived.Test.YtdnofflnfchcbaaXl3
import Derived.Test.YtdnofflnfchcbaaXl4
import Derived.Test.YtdnofflnfchcbaaXl5
namespace Go.Proofs.Ytdnofflnfchcbaa
open Go.AM Go.PL
set_option linter.unusedVariables false
theorem sat_law1 : Sat Try.prog 7 (lawSp [LL, BX, BX]) := by
  refine sat_nf (C := BLW) ssBLW (fun x => law1_nf x.1 x.2.1 x.2.2) fun _ hk _ => ?_
  simp
theorem sat_law2 : Sat Try.prog 3 (lawSp [BX, BX, L, I, I, I]) := by
  refine sat_nf (C := BLW) ssBLW (fun x => law2_nf x.1 x.2.1 x.2.2.1 x.2.2.2.1 x.2.2.2.2.1 x.2.2.2.2.2) fun _ hk _ => ?_
  simp
theorem yes {p q : Prop} (h : p) (hq : q) : p ∧ q := ⟨h, hq⟩
theorem pk16 {p : List Int} (h : ∀ x ∈ p, IntKind.u16.has x) : ∀ x ∈ p, 0 ≤ x ∧ x ≤ 65535 := fun x hx => has_u16 (h x hx)
theorem sat_law3 : Sat Try.prog 4 (lawSp [I, BX, BX, L, PK, PK]) := by
  refine sat_nf (C := BLW) ssBLW (fun x => law3_nf x.1 x.2.1 x.2.2.1 x.2.2.2.1 x.2.2.2.2.1 x.2.2.2.2.2) fun (⟨m, a, b, v, p, q⟩ : Int × Box × Box × List Int × List Int × List Int) hk _ => ?_
  have hp : ∀ x ∈ p, 0 ≤ x ∧ x ≤ 65535 := pk16 hk.2.2.2.2.1.2
  have hq : ∀ x ∈ q, 0 ≤ x ∧ x ≤ 65535 := pk16 hk.2.2.2.2.2.2
  dsimp only
  refine ⟨trivial, fun _ => ⟨trivial, rfl⟩, fun _ => ⟨trivial, fun _ => ⟨trivial, rfl⟩, fun _ => ⟨trivial, fun _ => ⟨trivial, rfl⟩, fun ha => ⟨trivial, fun _ => ⟨trivial, rfl⟩, fun hv => ⟨fun _ => ⟨trivial, rfl⟩, fun hl => ⟨trivial, fun _ => ⟨trivial, rfl⟩, fun hm => ?_⟩⟩⟩⟩⟩⟩
  have ha := nf ha
  have hv := nf hv
  have hl := ndf hl
  have hm := nf hm
  have hx := inner_has ha hp
  have lx := inner_len a p
  have hb := basked_iff.2 ⟨hm, ha, hv, by omega⟩
  have en := nearS_yes hb
  have ef := farS_yes hb
  have kn : sumK m v.length (nearF a v) ≤ sumK m v.length (keyF v (innerS a p)) := sumK_mono fun i hi => by have := key_near_le (v := v) hx i (by omega); omega
  have kf : sumK m v.length (keyF v (innerS a p)) ≤ sumK m v.length (farF a v) := sumK_mono fun i hi => by have := key_near_le (v := v) hx i (by omega); omega
  have nz := near_zero m ha (v := v) (by omega)
  have fm := far_max m ha hv
  rw [en, ef]
  refine ⟨ha, trivial, trivial, ⟨hm, bvec_sm hv, bvec_sm (has_vec hx), by omega⟩, rfl, rfl, trivial, by rw [hx]; rfl, decide_eq_false (by omega), decide_eq_false (by omega), trivial, ?_, decide_eq_false (by omega), trivial, fun _ => ⟨trivial, rfl⟩, fun hb => ⟨fun _ => ⟨trivial, rfl⟩, fun hl2 => ?_⟩⟩
  · have : decide (sumK m v.length (nearF a v) = 0) = bhas a v := dec_is nz
    rw [this]
    cases bhas a v <;> rfl
  · have hb := nf hb
    have hl2 := ndf hl2
    have hy := inner_has hb hq
    have ly := inner_len b q
    have hab := balike_iff.2 ⟨ha, hb, by omega⟩
    have ea := apartS_yes hm hab
    have ka : sumK m a.1.length (apartF a b) ≤ sumK m a.1.length (keyF (innerS a p) (innerS b q)) := sumK_mono fun i hi => apart_key hx hy i (by omega) (by omega)
    have az := apart_zero m hab
    obtain ⟨m1, m2⟩ := meet_is hab
    rw [ea, m1, m2, lx]
    refine ⟨trivial, trivial, trivial, rfl, rfl, rfl, hb, ⟨hm, bvec_sm (has_vec hx), bvec_sm (has_vec hy), by omega⟩, decide_eq_true (by omega), ?_⟩
    have : decide (sumK m a.1.length (apartF a b) = 0) = bval (meetB a b) := dec_is az
    rw [this]
    cases bval (meetB a b) <;> rfl
theorem sat_law4 : Sat Try.prog 5 (lawSp [I, BX, L]) := by
  refine sat_nf (C := BLW) ssBLW (fun x => law4_nf x.1 x.2.1 x.2.2) fun (⟨m, b, v⟩ : Int × Box × List Int) hk _ => ?_
  dsimp only
  refine ⟨trivial, fun _ => ⟨trivial, rfl⟩, fun _ => ⟨trivial, fun _ => ⟨trivial, rfl⟩, fun hb => ⟨trivial, fun _ => ⟨trivial, rfl⟩, fun hv => ⟨fun _ => ⟨trivial, rfl⟩, fun hl => ⟨trivial, fun _ => ⟨trivial, rfl⟩, fun hm => ?_⟩⟩⟩⟩⟩
  have hb := nf hb
  have hv := nf hv
  have hl := ndf hl
  have hm := nf hm
  have hq := basked_iff.2 ⟨hm, hb, hv, by omega⟩
  obtain ⟨h1, h2⟩ := nearest_has hb (v := v) (by omega)
  have l1 : (nearestS b v).length = v.length := tab_length _ _
  have l2 : (farthestS b v).length = v.length := tab_length _ _
  have e1 : sumK m v.length (keyF v (nearestS b v)) = sumK m v.length (nearF b v) := sumK_ext fun i hi => by rw [keyF_comm, key_near hb i hi]
  have e2 : sumK m v.length (keyF v (farthestS b v)) = sumK m v.length (farF b v) := sumK_ext fun i hi => by rw [keyF_comm, key_far hb i hi]
  rw [nearS_yes hq, farS_yes hq]
  exact ⟨⟨hb, by omega⟩, ⟨hb, hv, by omega⟩, trivial, trivial, trivial, rfl, rfl, rfl, trivial, h1, trivial, h2, ⟨hm, bvec_sm hv, nearest_sm hb hv, by omega⟩, decide_eq_true e1, ⟨hm, bvec_sm hv, farthest_sm hb hv, by omega⟩, decide_eq_true e2⟩
theorem tail5 {a b : Box} {p : List Int} (h : balike a b = true) (hp : ∀ x ∈ p, 0 ≤ x ∧ x ≤ 65535) : joinS a b = (joinB a b, 0) ∧ joinS b a = (joinB a b, 0) ∧ meetS b a = meetS a b ∧ (meetS a b).2.2 = 0 ∧
    bhas ((joinB a b).1, (joinB a b).2.1, ()) (innerS a p) = true ∧ binside a ((joinB a b).1, (joinB a b).2.1, ()) = true ∧ binside b ((joinB a b).1, (joinB a b).2.1, ()) = true ∧
    ((meetS a b).2.1 = true → bhas ((meetS a b).1.1, (meetS a b).1.2.1, ()) (innerS a p) = bhas b (innerS a p) ∧ binside ((meetS a b).1.1, (meetS a b).1.2.1, ()) a = true ∧ binside ((meetS a b).1.1, (meetS a b).1.2.1, ()) b = true) ∧
    ((meetS a b).2.1 = false → bhas b (innerS a p) = false) := by
  have hs := balike_symm h
  have ha := (balike_iff.1 h).1
  have hx := inner_has ha hp
  obtain ⟨m1, m2⟩ := meet_is h
  refine ⟨joinS_yes h, by rw [joinS_yes hs, joinB_comm h], meetS_comm h, m2, join_has h hx, join_inside h, ?_, fun e => ?_, fun e => ?_⟩
  · have := join_inside hs
    rw [joinB_comm h] at this
    exact this
  · rw [m1] at e
    rw [meetS_yes h e]
    exact ⟨(meet_has h e hx).symm, (meet_inside h e).1, (meet_inside h e).2⟩
  · rw [m1] at e
    exact meet_none h e hx
theorem sat_law5 : Sat Try.prog 8 (lawSp [LL, BX, BX, PK]) := by
  refine sat_nf (C := BLW) ssBLW (fun x => law5_nf x.1 x.2.1 x.2.2.1 x.2.2.2) fun (⟨l, a, b, p⟩ : List (List Int) × Box × Box × List Int) hk _ => ?_
  have hp : ∀ x ∈ p, 0 ≤ x ∧ x ≤ 65535 := pk16 hk.2.2.2.2
  have hlen : l.length ≤ 9223372036854775807 := hk.1.1
  dsimp only
  refine ⟨trivial, fun _ => ⟨trivial, rfl⟩, fun _ => ⟨trivial, fun _ => ⟨trivial, rfl⟩, fun _ => ⟨trivial, fun _ => ⟨trivial, rfl⟩, fun _ => ⟨trivial, fun ho => ?_, fun _ => ?_⟩⟩⟩⟩
  · have ho := dt ho
    have hok : ofOk l = true := by
      cases h : ofOk l with
      | true => rfl
      | false => rw [← ofS_no fun e => (by rw [h] at e; cases e)] at ho; exact absurd ho (by decide)
    have hn := bvec_len ((ofOk_iff.1 hok).2 0 (ofOk_iff.1 hok).1).1
    have hrow := (ofOk_iff.1 hok).2
    have hv := ofB_val hok
    have hhas := ofB_has hok
    rw [ofS_yes hok]
    dsimp only
    have gA : ∀ k, k < (l.getD 0 []).length → (tab (l.getD 0 []).length (mnK l l.length)).getD k 0 = mnK l l.length k := fun k hk => tab_getD _ hk
    have gB : ∀ k, k < (l.getD 0 []).length → (tab (l.getD 0 []).length (mxK l l.length)).getD k 0 = mxK l l.length k := fun k hk => tab_getD _ hk
    have lA : (tab (l.getD 0 []).length (mnK l l.length)).length = (l.getD 0 []).length := tab_length _ _
    have lB : (tab (l.getD 0 []).length (mxK l l.length)).length = (l.getD 0 []).length := tab_length _ _
    generalize tab (l.getD 0 []).length (mnK l l.length) = A at *
    generalize tab (l.getD 0 []).length (mxK l l.length) = B at *
    refine ⟨fun x => 0 ≤ x.1 ∧ x.1 ≤ l.length ∧ x.2.1 = A ∧ x.2.2 = B, fun x => ((l.length : Int) - x.1).toNat, ⟨by simp, by simp, rfl, rfl⟩, fun ⟨i, A1, B1⟩ ⟨i0, i1, i2, i3⟩ => ?_⟩
    dsimp only at i0 i1 i2 i3 ⊢
    subst i2
    subst i3
    refine ⟨fun c => ?_, fun _ => ?_⟩
    · have c := dt c
      have hh := hhas i.toNat (by omega)
      exact ⟨⟨i0, c⟩, trivial, fun g => (by rw [hh] at g; cases g), fun _ => ⟨i64_lt i0 c hlen, ⟨by omega, by omega, rfl, rfl⟩, by omega⟩⟩
    refine ⟨fun x => 0 ≤ x.1 ∧ x.1 ≤ (l.getD 0 []).length ∧ x.2.1 = A1 ∧ x.2.2 = B1, fun x => (((l.getD 0 []).length : Int) - x.1).toNat, ⟨by simp, by simp, rfl, rfl⟩, fun ⟨k, A2, B2⟩ ⟨k0, k1, k2, k3⟩ => ?_⟩
    dsimp only at k0 k1 k2 k3 ⊢
    subst k2
    subst k3
    refine ⟨fun c => ?_, fun _ => ?_⟩
    · have c := dt c
      refine ⟨fun x => 0 ≤ x.1 ∧ x.1 ≤ l.length ∧ x.2.2.2.1 = A2 ∧ x.2.2.2.2 = B2 ∧ x.2.1 = anyN x.1.toNat (fun j => decide ((l.getD j []).getD k.toNat 0 = A2.getD k.toNat 0)) ∧ x.2.2.1 = anyN x.1.toNat (fun j => decide ((l.getD j []).getD k.toNat 0 = B2.getD k.toNat 0)), fun x => ((l.length : Int) - x.1).toNat,
        ⟨by simp, by simp, rfl, rfl, rfl, rfl⟩, fun ⟨j, lo, hi, A3, B3⟩ ⟨j0, j1, j2, j3, j4, j5⟩ => ?_⟩
      dsimp only at j0 j1 j2 j3 j4 j5 ⊢
      subst j2
      subst j3
      refine ⟨fun d => ?_, fun d => ?_⟩
      · have d := dt d
        have hr := (hrow j.toNat (by omega)).2
        have hi' := i64_lt j0 d hlen
        have s1 := anyN_succ j.toNat (fun j => decide ((l.getD j []).getD k.toNat 0 = A3.getD k.toNat 0))
        have s2 := anyN_succ j.toNat (fun j => decide ((l.getD j []).getD k.toNat 0 = B3.getD k.toNat 0))
        rw [← succ_toNat j0, ← j4] at s1
        rw [← succ_toNat j0, ← j5] at s2
        refine ⟨fun q1 => ⟨fun q2 => ?_, fun q2 => ?_⟩, fun q1 => ⟨⟨j0, d⟩, ⟨k0, by omega⟩, ⟨k0, by omega⟩, fun q2 => ?_, fun q2 => ?_⟩⟩
        · exact ⟨hi', ⟨by omega, by omega, rfl, rfl, by rw [s1, q1]; rfl, by rw [s2, q2]; rfl⟩, by omega⟩
        · exact ⟨⟨j0, d⟩, ⟨k0, by omega⟩, ⟨k0, by omega⟩, hi', ⟨by omega, by omega, rfl, rfl, by rw [s1, q1]; rfl, by rw [s2, q2]; rfl⟩, by omega⟩
        · exact ⟨hi', ⟨by omega, by omega, rfl, rfl, by rw [s1, q1]; rfl, by rw [s2, q2]; rfl⟩, by omega⟩
        · exact ⟨⟨j0, d⟩, ⟨k0, by omega⟩, ⟨k0, by omega⟩, hi', ⟨by omega, by omega, rfl, rfl, by rw [s1, q1]; rfl, by rw [s2, q2]; rfl⟩, by omega⟩
      · have d := df d
        rw [end_toNat j1 d] at j4 j5
        have t1 : lo = true := by
          rw [j4]
          rcases (mnK_at l k.toNat l.length).2.2 with h | ⟨i, hi, h⟩
          · exact anyN_of (i := 0) (by have := (ofOk_iff.1 hok).1; omega) (decide_eq_true (by rw [gA _ (by omega), h]))
          · exact anyN_of hi (decide_eq_true (by rw [gA _ (by omega), h]))
        have t2 : hi = true := by
          rw [j5]
          rcases (mxK_at l k.toNat l.length).2.2 with h | ⟨i, hi, h⟩
          · exact anyN_of (i := 0) (by have := (ofOk_iff.1 hok).1; omega) (decide_eq_true (by rw [gB _ (by omega), h]))
          · exact anyN_of hi (decide_eq_true (by rw [gB _ (by omega), h]))
        rw [t1, t2]
        exact ⟨fun e => (by cases e), fun _ => ⟨fun e => (by cases e), fun _ => ⟨i64s (by omega) (by omega), ⟨by omega, by omega, rfl, rfl⟩, by omega⟩⟩⟩
    refine ⟨trivial, fun _ => ⟨trivial, rfl⟩, fun ha => ⟨trivial, fun _ => ⟨trivial, rfl⟩, fun hb => ⟨fun _ => ⟨trivial, rfl⟩, fun hl => ?_⟩⟩⟩
    obtain ⟨e1, e2, e3, e4, e5, e6, e7, e8, e9⟩ := tail5 (balike_iff.2 ⟨nf ha, nf hb, by have := ndf hl; omega⟩) hp
    rw [e1, e2, e3, e4]
    cases hm : (meetS a b).2.1 with
    | true =>
      obtain ⟨f1, f2, f3⟩ := e8 hm
      simp [e5, e6, e7, f1, f2, f3, nf ha]
    | false => simp [e5, e6, e7, e9 hm, nf ha]
  · refine ⟨trivial, fun _ => ⟨trivial, rfl⟩, fun ha => ⟨trivial, fun _ => ⟨trivial, rfl⟩, fun hb => ⟨fun _ => ⟨trivial, rfl⟩, fun hl => ?_⟩⟩⟩
    obtain ⟨e1, e2, e3, e4, e5, e6, e7, e8, e9⟩ := tail5 (balike_iff.2 ⟨nf ha, nf hb, by have := ndf hl; omega⟩) hp
    rw [e1, e2, e3, e4]
    cases hm : (meetS a b).2.1 with
    | true =>
      obtain ⟨f1, f2, f3⟩ := e8 hm
      simp [e5, e6, e7, f1, f2, f3, nf ha]
    | false => simp [e5, e6, e7, e9 hm, nf ha]
end Go.Proofs.Ytdnofflnfchcbaa
