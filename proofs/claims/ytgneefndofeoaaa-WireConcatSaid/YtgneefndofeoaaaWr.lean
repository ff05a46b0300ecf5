import Derived.Test.YtgneefndofeoaaaWq
namespace Go.Proofs.Ytgneefndofeoaaa
open Go.AM Go.PL
set_option linter.unusedVariables false

theorem sat_consumed : Sat Try.prog 37 consumedSp := by
  refine fnwp_sat (C := XL) ssXL 5 37 consumedSp fun (⟨b, c, u, e⟩ : List Int × List Int × Int × Int) hk _ => Eq.mpr (consumed_nf b c u e) ?_
  refine ⟨fun h => ?_, fun h => ⟨fun h0 => ⟨fun h1 => ⟨⟨by omega, by omega, by omega⟩, trivial, ?_⟩, fun h1 => ?_⟩, fun h0 => ?_⟩⟩
  · have : ¬ e = 0 := by simpa using h
    simp [this]
  · have he : e = 0 := by simpa using h
    have h0 := of_decide_eq_true h0
    have h1 := of_decide_eq_true h1
    rw [show (max 0 (min u (b.length : Int))).toNat - 0 = u.toNat by omega, List.drop_zero]
    simp [he, h0, h1]
  · have he : e = 0 := by simpa using h
    have h0 := of_decide_eq_true h0
    have h1 := of_decide_eq_false h1
    simp [he, h0, h1]
  · have he : e = 0 := by simpa using h
    have h0 := of_decide_eq_false h0
    simp [he, h0]

theorem usedErr {e : Int} {x : Bool} (h : e = 10 ∨ e = 11) : (decide (¬ e = 0) || x) = true := by
  rw [decide_eq_true (by omega)]; rfl
theorem usedOk {α : Type} [DecidableEq α] {b : List α} {c : List α} {u : Int} (h0 : 0 ≤ u) (h1 : u ≤ b.length) (h : c = b.take u.toNat) :
    (decide (¬ (0 : Int) = 0) || decide (0 ≤ u) && decide (u ≤ (b.length : Int)) && decide (c = b.take u.toNat)) = true := by
  rw [decide_eq_true h0, decide_eq_true h1, decide_eq_true h]; rfl
theorem decMany_err {α : Type} {one : List Int → Dec α} (h1 : ∀ b e, one b = .err e → e = 10 ∨ e = 11) : ∀ (n : Nat) (a : Int) (b : List Int) (e : Int), decMany one n a b = .err e → e = 10 ∨ e = 11
  | 0, a, b, e, h => by unfold decMany at h; cases h
  | n + 1, a, b, e, h => by
    unfold decMany at h
    split at h
    · rename_i e' h2; cases h; exact h1 _ _ h2
    · split at h
      · rename_i e' h2; cases h; exact decMany_err h1 n _ _ _ h2
      · cases h
theorem decList_err {α : Type} {one : List Int → Dec α} {least : Int} (h1 : ∀ b e, one b = .err e → e = 10 ∨ e = 11) {b : List Int} {e : Int} (h : decList least one b = .err e) : e = 10 ∨ e = 11 := by
  unfold decList at h
  split at h
  · rename_i e' h2; cases h; exact decLen_err h2
  · exact decMany_err h1 _ _ _ _ h

theorem sat_law5 : Sat Try.prog 7 (lawSp [BY]) := by
  refine fnwp_sat (C := XC) (mkctx_sound ⟨sat_consumed, sat_sanity, satW⟩ trivial) 5 7 (lawSp [BY]) fun (b : List Int) hk _ => Eq.mpr (law5_nf b) ?_
  have hb : ∀ c ∈ b, 0 ≤ c ∧ c ≤ 255 := fun c hc => has_byte (hk.2 c hc)
  refine ⟨fun _ => ⟨trivial, rfl⟩, fun h => ?_⟩
  have hl : b.length ≤ 2000 := by have := of_decide_eq_false h; omega
  have hs : small2 b := by unfold small2; omega
  have c1 : (decide (¬(decO (decI b)).snd.snd = (0 : Int)) || decide ((0 : Int) ≤ (decO (decI b)).snd.fst) && decide ((decO (decI b)).snd.fst ≤ (↑b.length : Int)) && decide (encI (decO (decI b)).fst = List.take (decO (decI b)).snd.fst.toNat b)) = true := by
    cases h : decI b with
    | err e => exact usedErr (decI_err h)
    | ok n u =>
      obtain ⟨_, h2, _, h4, h5⟩ := enc_dec hb h
      exact usedOk (show 0 ≤ u by omega) h4 h5
  have c2 : (decide (¬((decBytes b).triple []).snd.snd = (0 : Int)) || decide ((0 : Int) ≤ ((decBytes b).triple []).snd.fst) && decide (((decBytes b).triple []).snd.fst ≤ (↑b.length : Int)) && decide (encBytes ((decBytes b).triple []).fst = List.take ((decBytes b).triple []).snd.fst.toNat b)) = true ∧ ((decBytes b).triple []).fst.length ≤ (100000 : Nat) := by
    cases h : decBytes b with
    | err e => exact ⟨usedErr (decBytes_err h), Nat.zero_le _⟩
    | ok n u =>
      obtain ⟨h2, h4, h5⟩ := decBytes_ok hb h
      exact ⟨usedOk (show 0 ≤ u by omega) h4 (decBytes_canon hb h), show n.length ≤ 100000 by omega⟩
  have c3 : (decide (¬((decList 1 decI b).triple []).snd.snd = (0 : Int)) || decide ((0 : Int) ≤ ((decList 1 decI b).triple []).snd.fst) && decide (((decList 1 decI b).triple []).snd.fst ≤ (↑b.length : Int)) && decide (encList encI ((decList 1 decI b).triple []).fst = List.take ((decList 1 decI b).triple []).snd.fst.toNat b)) = true ∧ small2 ((decList 1 decI b).triple []).fst := by
    cases h : decList 1 decI b with
    | err e => exact ⟨usedErr (decList_err (fun _ _ => decI_err) h), Nat.zero_le _⟩
    | ok n u =>
      obtain ⟨h2, h4, h5, h6⟩ := ints_canon hb h
      exact ⟨usedOk h2 h4 h6, show n.length ≤ 100000 by omega⟩
  have c4 : (decide (¬((decList 1 decBytes b).triple []).snd.snd = (0 : Int)) || decide ((0 : Int) ≤ ((decList 1 decBytes b).triple []).snd.fst) && decide (((decList 1 decBytes b).triple []).snd.fst ≤ (↑b.length : Int)) && decide (encList encBytes ((decList 1 decBytes b).triple []).fst = List.take ((decList 1 decBytes b).triple []).snd.fst.toNat b)) = true ∧
      (∀ s ∈ ((decList 1 decBytes b).triple []).fst, s.length ≤ 100000) ∧ small2 ((decList 1 decBytes b).triple []).fst := by
    cases h : decList 1 decBytes b with
    | err e => exact ⟨usedErr (decList_err (fun _ _ => decBytes_err) h), (fun s hs => by cases hs), Nat.zero_le _⟩
    | ok n u =>
      obtain ⟨h2, h4, h5, h6⟩ := strings_canon hb h
      exact ⟨usedOk h2 h4 h6, fun s hs => by have := strings_short ⟨_, h6⟩ s hs; omega, show n.length ≤ 100000 by omega⟩
  have c5 : (decide (¬((decList 16 decDigest b).triple []).snd.snd = (0 : Int)) || decide ((0 : Int) ≤ ((decList 16 decDigest b).triple []).snd.fst) && decide (((decList 16 decDigest b).triple []).snd.fst ≤ (↑b.length : Int)) && decide (encList (fun x : List Int => x) ((decList 16 decDigest b).triple []).fst = List.take ((decList 16 decDigest b).triple []).snd.fst.toNat b)) = true ∧ small2 ((decList 16 decDigest b).triple []).fst := by
    cases h : decList 16 decDigest b with
    | err e => exact ⟨usedErr (decList_err (fun _ _ h => by unfold decDigest at h; cases h) h), Nat.zero_le _⟩
    | ok n u =>
      obtain ⟨h2, h4, h5, h6⟩ := digests_canon hb h
      exact ⟨usedOk h2 h4 h6, show n.length ≤ 100000 by omega⟩
  have no : ∀ {x : Bool}, x = true → x = false → false = true := fun h h' => h'.symm.trans h
  exact ⟨trivial, trivial, hs, hs, hs, trivial, fun _ => ⟨trivial, trivial, fun _ => ⟨c2.2, trivial, fun _ => ⟨c3.2, trivial, fun _ => ⟨c4.2, trivial, fun _ => ⟨c5.2, trivial, c5.1⟩, no c4.1⟩, no c3.1⟩, no c2.1⟩, no c1⟩, fun h => by cases h⟩
end Go.Proofs.Ytgneefndofeoaaa
