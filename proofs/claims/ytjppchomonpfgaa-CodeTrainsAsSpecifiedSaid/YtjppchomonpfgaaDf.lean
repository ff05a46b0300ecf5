import Derived.Test.YtjppchomonpfgaaDe
namespace Go.PL
open Go.AM
set_option linter.unusedVariables false
theorem right_lt {b : Book} {m : Int} {v q : List Int} (h : rightB b m v q = true) : rightB b m v v = true ∧ rightB b m q q = true := by
  obtain ⟨h1, h2, h3, h4, h5, h6⟩ := rightB_iff.1 h
  exact ⟨rightB_iff.2 ⟨h1, h2, h3, h3, h5, h5⟩, rightB_iff.2 ⟨h1, h2, h4, h4, h6, h6⟩⟩
theorem right_stand {b : Book} {m : Int} {v : List Int} (h : rightB b m v v = true) {c : List Int} (hc : codeB b c = true) : rightB b m (standS b c) (standS b c) = true ∧ alikeB v (standS b c) = true := by
  obtain ⟨h1, h2, h3, _, h5, _⟩ := rightB_iff.1 h
  obtain ⟨s1, s2, s3⟩ := stand_ok h1 hc
  exact ⟨rightB_iff.2 ⟨h1, h2, s1, s1, s2, s2⟩, alike_iff.2 ⟨h3, s1, by omega⟩⟩
theorem resid_le {b : Book} {m : Int} {v : List Int} (h : rightB b m v v = true) {c : List Int} (hc : codeB b c = true) : residS b m v ≤ keyS m v (standS b c) := by
  obtain ⟨h1, h2, h3, _, h5, _⟩ := rightB_iff.1 h
  obtain ⟨b1, b2, b3⟩ := bookB_iff.1 h1
  obtain ⟨c1, c2⟩ := codeB_iff.1 hc
  rw [(stand_ok h1 hc).2.2 m h2 v h5]
  unfold residS
  refine foldJ_mono fun k hk => ?_
  have hw := (book_words h1 hk).1
  have := c2 k (by omega)
  rw [keyS_comm]
  exact (bestS_spec hw).2.1 _ (by omega)
theorem resid_nonneg (b : Book) (m : Int) (v : List Int) : 0 ≤ residS b m v := foldJ_nonneg fun k _ => keyS_nonneg _ _ _
theorem decode_ok {b : Book} {c : List Int} (h : (decodeS b c).2 = 0) : codeB b c = true ∧ (decodeS b c).1 = standS b c := by
  unfold decodeS at h ⊢
  by_cases hc : codeB b c = true
  · exact ⟨hc, by rw [if_pos hc]⟩
  · rw [if_neg hc] at h; exact absurd h (by decide)
theorem decode_bad {b : Book} {c : List Int} (h : ¬ (decodeS b c).2 = 0) : (decodeS b c).1 = [] := by
  unfold decodeS at h ⊢
  by_cases hc : codeB b c = true
  · rw [if_pos hc] at h; exact absurd rfl h
  · rw [if_neg hc]
end Go.PL
namespace Go.Proofs.Ytjppchomonpfgaa
open Go.AM Go.PL
set_option linter.unusedVariables false
theorem sum_ok {b : Book} {m : Int} {q : List Int} (h : rightB b m q q = true) {c : List Int} (hc : codeB b c = true) : sumP m (tableS b m q) c := by
  obtain ⟨h1, h2, h3, _, h5, _⟩ := rightB_iff.1 h
  obtain ⟨b1, b2, b3⟩ := bookB_iff.1 h1
  obtain ⟨c1, c2⟩ := codeB_iff.1 hc
  have l8 := (cutB_iff.1 b1).2.1
  have tl : (tableS b m q).length = b.2.1.length := tabL_length _ _
  refine ⟨h2, by omega, by omega, fun k hk => ?_⟩
  have e := c2 k hk
  have er : (tableS b m q).getD k [] = rowS b m q k := tabL_getD _ _ (show k < b.2.1.length by omega)
  have rl : (rowS b m q k).length = (b.2.2.1.getD k []).length := tab_length _ _
  have eg : (rowS b m q k).getD (c.getD k 0).toNat 0 = keyS m ((b.2.2.1.getD k []).getD (c.getD k 0).toNat []) (partS b.2.1 b.1 k q) := tab_getD _ (by omega)
  rw [er, rl, eg]
  have := key_bound m (word_alike h1 h3 h5 (show k < b.2.1.length by omega) (show (c.getD k 0).toNat < (b.2.2.1.getD k []).length by omega))
  exact ⟨e, by omega, by omega⟩
theorem sat_sanity : Sat Try.prog 11 sanSp := by
  refine sat_nf (C := ES) ssES (fun _ => sanity_nf) fun _ _ _ => ?_
  simp only [true_and, and_true]
  repeat' apply And.intro
  all_goals first | decide | (unfold sumP; decide +kernel)
theorem satE5 : AllSat bs.P tE5 := ⟨sat_sanity, satE4⟩
theorem ssEL : SpecSound EL := mkctx_sound satE5 trivial
theorem rt {b : Book} {m : Int} {v q : List Int} (h : (!(fewBk b && rightB b m v q)) = false) : rightB b m v q = true := by
  have h := nf h
  simp only [Bool.and_eq_true] at h
  exact h.2
theorem sm_of {p q : List Int} (h : alikeB p q = true) : small 64 4000 p ∧ small 64 4000 q ∧ p.length = q.length := alike_sm h (by omega)
end Go.Proofs.Ytjppchomonpfgaa
