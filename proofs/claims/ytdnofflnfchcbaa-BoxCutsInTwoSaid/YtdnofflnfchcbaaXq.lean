import Derived.Test.YtdnofflnfchcbaaXp
import Derived.Test.YtdnofflnfchcbaaXl6
namespace Go.Proofs.Ytdnofflnfchcbaa
open Go.AM Go.PL
set_option linter.unusedVariables false
/-- What follows from a cut that is accepted. -/
theorem cut_all {m x y : Int} {b : Box} {v p : List Int} (hm : isM m = true) (hb : bval b = true) (hv : bvec v = true) (hl : v.length = b.1.length) (hp : ∀ z ∈ p, 0 ≤ z ∧ z ≤ 65535) (h : cutOk b x y = true) :
    (bhas (cutX b x.toNat y) (innerS b p) == bhas (cutY b x.toNat y) (innerS b p)) = false ∧ binside (cutX b x.toNat y) b = true ∧ binside (cutY b x.toNat y) b = true ∧
    (nearS m b v).2 = 0 ∧ (nearS m (cutX b x.toNat y) v).2 = 0 ∧ (nearS m (cutY b x.toNat y) v).2 = 0 ∧ (farS m b v).2 = 0 ∧ (farS m (cutX b x.toNat y) v).2 = 0 ∧ (farS m (cutY b x.toNat y) v).2 = 0 ∧
    (nearS m b v).1 = min (nearS m (cutX b x.toNat y) v).1 (nearS m (cutY b x.toNat y) v).1 ∧ (farS m b v).1 = max (farS m (cutX b x.toNat y) v).1 (farS m (cutY b x.toNat y) v).1 := by
  obtain ⟨h0, v1, v2, l1, l2, _, _⟩ := cut_parts h
  obtain ⟨g1, g2⟩ := cut_has h (inner_has hb hp)
  obtain ⟨i1, i2⟩ := cut_inside h
  obtain ⟨n1, n2⟩ := cut_near m v.length h (v := v)
  have q0 := basked_iff.2 ⟨hm, hb, hv, hl⟩
  have q1 := basked_iff.2 ⟨hm, v1, hv, show v.length = (cutX b x.toNat y).1.length from hl⟩
  have q2 := basked_iff.2 ⟨hm, v2, hv, show v.length = (cutY b x.toNat y).1.length by rw [l2]; exact hl⟩
  rw [nearS_yes q0, nearS_yes q1, nearS_yes q2, farS_yes q0, farS_yes q1, farS_yes q2, g1, g2]
  refine ⟨?_, i1, i2, rfl, rfl, rfl, rfl, rfl, rfl, n1, n2⟩
  by_cases e : (innerS b p).getD x.toNat 0 ≤ y
  · rw [decide_eq_true e, decide_eq_false (by omega)]; rfl
  · rw [decide_eq_false e, decide_eq_true (by omega)]; rfl
theorem sat_law6 : Sat Try.prog 6 (lawSp [I, BX, L, U8, I, PK]) := by
  refine sat_nf (C := BLW) ssBLW (fun x => law6_nf x.1 x.2.1 x.2.2.1 x.2.2.2.1 x.2.2.2.2.1 x.2.2.2.2.2) fun (⟨m, b, v, x, y, p⟩ : Int × Box × List Int × Int × Int × List Int) hk _ => ?_
  have hp : ∀ z ∈ p, 0 ≤ z ∧ z ≤ 65535 := fun z hz => has_u16 (hk.2.2.2.2.2.2 z hz)
  dsimp only
  refine ⟨trivial, fun _ => ⟨trivial, rfl⟩, fun _ => ⟨trivial, fun _ => ⟨trivial, rfl⟩, fun hb => ⟨trivial, fun _ => ⟨trivial, rfl⟩, fun hv => ⟨fun _ => ⟨trivial, rfl⟩, fun hl => ⟨trivial, fun _ => ⟨trivial, rfl⟩, fun hm => ?_⟩⟩⟩⟩⟩
  have hb := nf hb
  have hv := nf hv
  have hl := ndf hl
  have hm := nf hm
  have lv := bvec_len hv
  generalize (IntKind.i64.wrap x).tmod (↑v.length : Int) = ax
  have rest : ((!decide ((cutS b ax y).snd.snd = (0 : Int))) = false) → cutOk b ax y = true ∧ cutS b ax y = (cutX b ax.toNat y, cutY b ax.toNat y, 0) := fun h => cut_eq (ndf h)
  refine ⟨trivial, fun h => ?_, fun h => ⟨by omega, trivial, fun _ => ⟨trivial, rfl⟩, fun hc => ?_⟩⟩
  · obtain ⟨s, t, hs, hc, ht⟩ := split_eq (dt h)
    have hce := (cutS_yes hc).symm
    obtain ⟨_, c1, c2, c3, c4⟩ := cutOk_iff.1 hc
    have lb := bval_len hb
    rw [Int.toNat_natCast] at hce c3 c4
    have k := bval_at hb s
    rw [hs]
    dsimp only
    rw [hce]
    dsimp only
    rw [Int.toNat_natCast, getD_set (by omega), getD_set (by omega), if_pos rfl, if_pos rfl, List.length_set, List.length_set]
    refine ⟨trivial, rfl, ⟨by omega, by omega⟩, ⟨by omega, by omega⟩, i64s (by omega) (by omega), ⟨by omega, by omega⟩, ⟨by omega, by omega⟩, i64s (by omega) (by omega), decide_eq_false (by omega), ⟨by omega, by omega⟩, ⟨by omega, by omega⟩, i64s (by omega) (by omega), ⟨by omega, by omega⟩, ⟨by omega, by omega⟩, i64s (by omega) (by omega), i64s (by omega) (by omega), decide_eq_false (by omega), by omega, trivial, fun _ => ⟨trivial, rfl⟩, fun hc => ?_⟩
    obtain ⟨hok, he⟩ := rest hc
    obtain ⟨d1, d2, d3, d4, d5, d6, d7, d8, d9, d10, d11⟩ := cut_all hm hb hv (by omega) hp hok
    rw [he]
    exact ⟨hb, trivial, trivial, d1, trivial, by rw [d2]; rfl, trivial, by rw [d3]; rfl, trivial, trivial, trivial, trivial, trivial, trivial, decide_eq_true d4, decide_eq_true d5, decide_eq_true d6, decide_eq_true d7, decide_eq_true d8, trivial, rfl, decide_eq_true d9, decide_eq_true d10, decide_eq_true d11⟩
  · obtain ⟨hok, he⟩ := rest hc
    obtain ⟨d1, d2, d3, d4, d5, d6, d7, d8, d9, d10, d11⟩ := cut_all hm hb hv (by omega) hp hok
    rw [he]
    exact ⟨hb, trivial, trivial, d1, trivial, by rw [d2]; rfl, trivial, by rw [d3]; rfl, trivial, trivial, trivial, trivial, trivial, trivial, decide_eq_true d4, decide_eq_true d5, decide_eq_true d6, decide_eq_true d7, decide_eq_true d8, trivial, rfl, decide_eq_true d9, decide_eq_true d10, decide_eq_true d11⟩
end Go.Proofs.Ytdnofflnfchcbaa
