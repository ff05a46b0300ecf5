import Derived.Test.YtpnfcgkocfjeiaaVg
import Derived.Test.YtpnfcgkocfjeiaaWt
import Derived.Test.YtpnfcgkocfjeiaaWp
namespace Go.Proofs.Ytpnfcgkocfjeiaa
open Go.AM Go.PL
set_option linter.unusedVariables false

theorem read_enc {v : List Int} (hl : v.length ≤ 40) (hv : ∀ x ∈ v, isI64 x) : readS (encList encI v) = if vecOk v then (v, 0) else ([], 40) := by
  have h := ints_enc (l := v) (r := []) (by omega) hv
  rw [List.append_nil] at h
  unfold readS
  rw [h]
  dsimp only
  rw [if_pos rfl]
theorem read_back {b : List Int} (hb : ∀ c ∈ b, 0 ≤ c ∧ c ≤ 255) : ((readS b).2 = 0 → encList encI (readS b).1 = b) ∧ ((readS b).2 ≠ 0 → (readS b).1 = []) ∧ (readS b).1.length ≤ b.length := by
  unfold readS
  cases h : decList 1 decI b with
  | err e =>
    have := decInts_err h
    exact ⟨fun h => by dsimp only at h; omega, fun _ => rfl, Nat.zero_le _⟩
  | ok v u =>
    dsimp only
    obtain ⟨h1, h2, h3, h4⟩ := ints_canon hb h
    split
    · rename_i hu
      split
      · refine ⟨fun _ => ?_, fun h => absurd rfl h, by dsimp only; omega⟩
        rw [h4, hu, show ((b.length : Int)).toNat = b.length by omega, List.take_length]
      · exact ⟨fun h => (by cases h), fun _ => rfl, Nat.zero_le _⟩
    · exact ⟨fun h => (by cases h), fun _ => rfl, Nat.zero_le _⟩
theorem law7_tail {b : List Int} (hb : ∀ c ∈ b, 0 ≤ c ∧ c ≤ 255) (hl : b.length ≤ 400) : small2 b ∧ True ∧ (true = true → ((!decide ((readS b).snd = (0 : Int))) = true → (decide ((readS b).snd = (0 : Int)) = true → true = true) ∧
      (decide ((readS b).snd = (0 : Int)) = false → decide ((↑(readS b).fst.length : Int) = (0 : Int)) = true)) ∧
    ((!decide ((readS b).snd = (0 : Int))) = false → small2 (readS b).fst ∧ (decide (encList encI (readS b).fst = b) = true → (decide ((readS b).snd = (0 : Int)) = true → true = true) ∧
      (decide ((readS b).snd = (0 : Int)) = false → decide ((↑(readS b).fst.length : Int) = (0 : Int)) = true)) ∧ (decide (encList encI (readS b).fst = b) = false → false = true))) ∧ (true = false → false = true) := by
  obtain ⟨h1, h2, h3⟩ := read_back hb
  have e : decide ((readS b).snd = (0 : Int)) = false → decide ((↑(readS b).fst.length : Int) = (0 : Int)) = true := fun h => by
    rw [h2 (of_decide_eq_false h)]; rfl
  exact ⟨by unfold small2; omega, trivial, fun _ => ⟨fun _ => ⟨fun _ => rfl, e⟩, fun h => ⟨by unfold small2; omega, fun _ => ⟨fun _ => rfl, e⟩, no (decide_eq_true (h1 (nd_f h)))⟩⟩, fun h => by cases h⟩
theorem sat_law7 : Sat Try.prog 9 (lawSp [L, BY]) := by
  refine sat_nf (C := VL) ssVL (fun x => law7_nf x.1 x.2) fun (⟨v, b⟩ : List Int × List Int) hk _ => ?_
  dsimp only
  have hb : ∀ c ∈ b, 0 ≤ c ∧ c ≤ 255 := fun c hc => has_byte (hk.2.2 c hc)
  have hi : ∀ x ∈ v, isI64 x := fun x hx => has_i64.1 (hk.1.2 x hx)
  refine ⟨fun _ => ⟨trivial, rfl⟩, fun hv => ⟨fun _ => ⟨trivial, rfl⟩, fun hl => ?_⟩⟩
  have hv := of_decide_eq_false hv
  have hl := of_decide_eq_false hl
  have ht := law7_tail hb (show b.length ≤ 400 by omega)
  have hr := read_enc (v := v) (by omega) hi
  have hlen : (encList encI v).length ≤ 1000 := by
    have h1 := flat_len (one := encI) (k := 10) v (fun x _ => (encI_len x).2)
    have h2 := (encI_len (v.length : Int)).2
    unfold encList
    rw [List.length_append]
    omega
  refine ⟨by unfold small2; omega, by unfold small2; omega, trivial, fun hk => ?_, fun hk => ?_⟩
  · rw [if_pos hk] at hr
    rw [hr]
    exact ⟨fun h => by simp at h, fun _ => ⟨trivial, fun h => by simp at h, fun _ => ⟨trivial, fun h => (by rw [hk] at h; cases h), fun _ => ht⟩⟩⟩
  · rw [if_neg (by rw [hk]; simp)] at hr
    rw [hr]
    exact ⟨trivial, fun _ => ⟨fun h => by simp at h, fun _ => ht⟩, fun h => by rw [hk] at h; cases h⟩
end Go.Proofs.Ytpnfcgkocfjeiaa
