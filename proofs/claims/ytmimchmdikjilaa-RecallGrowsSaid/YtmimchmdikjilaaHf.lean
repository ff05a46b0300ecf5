import Derived.Test.YtmimchmdikjilaaHe
namespace Go.Proofs.Ytmimchmdikjilaa
open Go.AM Go.PL Go.Sort
set_option linter.unusedVariables false
theorem ssHO : SpecSound HO := mkctxS_sound satH1 trivial ⟨satS_hits, trivial⟩ trivial
theorem erase_perm {α : Type} (d : α) : ∀ {m : List α} {i : Nat}, i < m.length → (m.getD i d :: m.eraseIdx i).Perm m
  | [], i, h => by simp at h
  | a :: m, 0, _ => by simp
  | a :: m, i + 1, h => by
    have ih := erase_perm d (m := m) (i := i) (by simpa using h)
    simp only [List.getD_cons_succ, List.eraseIdx_cons_succ]
    exact (List.Perm.swap a _ _).trans (ih.cons a)
theorem sat_of : Sat bs.P 25 ofHSp := by
  refine sat_nf (C := HO) ssHO (fun x => of_nf x.1 x.2) fun (⟨l, k⟩ : List Hit × Int) hk hp => ?_
  obtain ⟨hl, hk0⟩ : l.length ≤ 100000 ∧ 0 ≤ k := hp
  try dsimp only
  simp only [hitEta, show (((0 : Int), (0 : Int), (0 : Int), ()) : Hit) = hit0 from rfl, and_self, true_and]
  refine ⟨fun x => 0 ≤ x.1 ∧ x.1 ≤ l.length ∧ RepM (l.take x.1.toNat) x.2, fun x => (l.length - x.1).toNat, ⟨by omega, by omega, ⟨List.nodup_nil, by simp, by simp, by simp⟩⟩, ?_⟩
  rintro ⟨i, m⟩ ⟨h0, h1, hm⟩
  dsimp only at h0 h1 hm ⊢
  refine ⟨fun hlt => ?_, fun hlt => ?_⟩
  · have hlt := dt hlt
    have hst := take_step l hit0 h0 hlt
    have hcmp : ∀ a b : Hit, decide (cmpH a b < 0) = ltH a b := fun _ _ => rfl
    refine ⟨⟨h0, hlt⟩, fun hs => ⟨i64s (by omega) (by omega), ⟨by omega, by omega, ?_⟩, by omega⟩, fun hs => ⟨fun hc => ⟨i64s (by omega) (by omega), ⟨by omega, by omega, ?_⟩, by omega⟩, fun hc => ⟨i64s (by omega) (by omega), ⟨by omega, by omega, ?_⟩, by omega⟩⟩⟩
    · rw [hst]
      exact hm.new (by simpa using hs)
    all_goals
      rw [hcmp] at hc
      rw [hst]
      obtain ⟨y, hy⟩ := Option.isSome_iff_exists.1 (nf hs)
      rw [hy] at hc
    · exact hm.less hy hc
    · exact hm.keep hy hc
  · have hlt := df hlt
    rw [List.take_of_length_le (by omega)] at hm
    have hml := hm.len
    refine ⟨by omega, ⟨by omega, by omega, roomH rfl (by omega)⟩, fun x => (x.1 ++ x.2.map Prod.snd).Perm (m.map Prod.snd), fun x => x.2.length, by simp, ?_⟩
    rintro ⟨out, left⟩ hx
    dsimp only at hx ⊢
    have hlen := hx.length_eq
    simp only [List.length_append, List.length_map] at hlen
    refine ⟨fun he => ?_, fun j hj => ⟨roomH rfl (by simp; omega), ?_, ?_⟩⟩
    · subst he
      have hx : out.Perm (m.map Prod.snd) := by simpa using hx
      refine ⟨by omega, ⟨by omega, by omega, by omega⟩, ?_⟩
      have hT : List.take ((min k ↑(sortH out).length).toNat - 0) (List.drop 0 (sortH out)) = (sortH out).take k.toNat := by
        rw [List.drop_zero, Nat.sub_zero]
        by_cases hkl : k ≤ (sortH out).length
        · rw [Int.min_eq_left hkl]
        · rw [Int.min_eq_right (by omega), Int.toNat_natCast, List.take_length, List.take_of_length_le (by omega)]
      rw [hT]
      refine ofH_is (isOf_sort k.toNat ?_ (fun v hv => ?_) (fun h hh => ?_))
      · have e : (m.map Prod.snd).map Prod.fst = m.map Prod.fst := by
          rw [List.map_map]
          exact List.map_congr_left fun p hp => (hm.rep p hp).2.1
        rw [(hx.map Prod.fst).nodup_iff, e]
        exact hm.nd
      · obtain ⟨p, hp, rfl⟩ := List.mem_map.1 (hx.mem_iff.1 hv)
        obtain ⟨a, b, c⟩ := hm.rep p hp
        exact ⟨a, fun h hh e => c h hh (e.trans b)⟩
      · obtain ⟨p, hp, e⟩ := hm.all h hh
        exact ⟨p.2, hx.mem_iff.2 (List.mem_map.2 ⟨p, hp, rfl⟩), (hm.rep p hp).2.1.trans e⟩
    · rw [List.append_assoc, List.singleton_append]
      have := (erase_perm ((0 : Int), hit0) hj).map Prod.snd
      rw [List.map_cons] at this
      exact (List.Perm.append_left out this).trans hx
    · have := (erase_perm ((0 : Int), hit0) hj).length_eq
      rw [List.length_cons] at this
      omega
end Go.Proofs.Ytmimchmdikjilaa
