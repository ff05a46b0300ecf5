import Derived.Test.YtgneefndofeoaaaWu
namespace Go.PL
open Go.AM
theorem cut_loop (b : List Int) (E : List Int → Int) (Pre : List Int → Prop) {R : Prop} (hE : ∀ i, i < b.length → E (b.take i) = 10) (hP : ∀ i, i < b.length → Pre (b.take i)) (hR : R) :
    ∃ (I : Int → Prop), ∃ (μ : Int → Nat), I (0 : Int) ∧ ∀ (x : Int), I x → (decide (x < min (↑b.length : Int) (500 : Int)) = true → ((0 : Int) ≤ (0 : Int) ∧ (0 : Int) ≤ x ∧ x ≤ (↑b.length : Int)) ∧ Pre (List.take (x.toNat - (0 : Nat)) (List.drop (0 : Nat) b)) ∧
      ((!decide (E (List.take (x.toNat - (0 : Nat)) (List.drop (0 : Nat) b)) = (10 : Int))) = true → false = true) ∧
      ((!decide (E (List.take (x.toNat - (0 : Nat)) (List.drop (0 : Nat) b)) = (10 : Int))) = false → isI64 (x + (1 : Int)) ∧ I (x + (1 : Int)) ∧ μ (x + (1 : Int)) < μ x)) ∧
      (decide (x < min (↑b.length : Int) (500 : Int)) = false → R) := by
  refine ⟨fun x => 0 ≤ x, fun x => (500 - x).toNat, Int.le_refl _, fun x hI => ⟨fun hc => ?_, fun _ => hR⟩⟩
  have hc := of_decide_eq_true hc
  have e : List.take (x.toNat - 0) (List.drop 0 b) = b.take x.toNat := by rw [List.drop_zero]; rfl
  rw [e]
  refine ⟨⟨by omega, hI, by omega⟩, hP _ (by omega), fun h => ?_, fun _ => ⟨i64_iff.2 (by omega), by omega, by dsimp only; omega⟩⟩
  rw [hE _ (by omega)] at h
  simp at h
end Go.PL
namespace Go.Proofs.Ytgneefndofeoaaa
open Go.AM Go.PL
set_option linter.unusedVariables false

set_option maxRecDepth 100000 in
theorem sat_law7 : Sat Try.prog 9 (lawSpU [I, .str, L, .arr .str, .arr DG]) := by
  refine sat_nf (C := XT) (mkctx_sound ⟨sat_sanity, satW⟩ trivial) (fun y => law7_nf y.1 y.2.1 y.2.2.1 y.2.2.2.1 y.2.2.2.2) fun (⟨n, s, l, x, d⟩ : Int × List Int × List Int × List (List Int) × List (List Int)) hk hp => ?_
  dsimp only
  have hn : isI64 n := has_i64.1 hk.1
  have hi : ∀ y ∈ l, isI64 y := fun y hy => has_i64.1 (hk.2.2.1.2 y hy)
  have hd : ∀ y ∈ d, y.length = 16 := fun y hy => (hk.2.2.2.2.2 y hy).1
  have hw : wt I n + (wt .str s + (wt L l + (wt (.arr .str) x + wt (.arr DG) d))) ≤ 1048576 := hp
  have h1 := wt_DD hd
  rw [wt_str, wt_L] at hw
  have hf := few_bound (x := x) (by omega)
  refine ⟨i64_iff.2 (by omega), i64_iff.2 (by omega), i64_iff.2 (by omega), i64_iff.2 (by omega), fun _ => ⟨trivial, rfl⟩, fun hs => ⟨fun _ => ⟨trivial, rfl⟩, fun h40 => ⟨hf, fun _ => ⟨trivial, rfl⟩, fun hx => ?_⟩⟩⟩
  have hs := of_decide_eq_false hs
  have hx := few_of hx
  have hx2 := sum_le_of_few hx
  have q1 : small2 l := by unfold small2; omega
  have q2 : small2 d := by unfold small2; omega
  have q3 : (∀ s ∈ x, s.length ≤ 100000) ∧ small2 x := ⟨fun s hs => by have := hx2.2 s hs; omega, by unfold small2; omega⟩
  have l2 := ints_len l
  have l3 := digests_len hd
  have l4 := strings_len hx
  have sm : ∀ (b : List Int) (i : Nat), b.length ≤ 40000 → small2 (b.take i) := fun b i hb => by unfold small2; rw [List.length_take]; omega
  have hs' : s.length ≤ 9223372036854775807 := by omega
  have hl' : l.length ≤ 9223372036854775807 := by omega
  have hd' : d.length ≤ 9223372036854775807 := by omega
  have hx' : x.length ≤ 9223372036854775807 := by omega
  refine ⟨trivial, by omega, q1, q3, q2, ⟨by omega, by simp⟩, ?_⟩
  refine cut_loop (encI n) (fun c => (decO (decI c)).snd.snd) (fun _ => True) (fun i h => by rw [decI_cut hn h]; rfl) (fun _ _ => trivial) ⟨i64_iff.2 (by omega), ⟨by omega, by simp⟩, ?_⟩
  refine cut_loop (encBytes s) (fun c => ((decBytes c).triple []).snd.snd) (fun _ => True) (fun i h => by rw [decBytes_cut hs' h]; rfl) (fun _ _ => trivial) ⟨i64_iff.2 (by omega), ⟨by omega, by simp⟩, ?_⟩
  refine cut_loop (encList encI l) (fun c => ((decList 1 decI c).triple []).snd.snd) (fun c => small2 c) (fun i h => by
    rw [decList_cut hl' (fun y hy r => dec_enc (hi y hy) r) (fun y hy i h => decI_cut (hi y hy) h) h]; rfl) (fun i _ => sm _ i (by omega)) ⟨i64_iff.2 (by omega), ⟨by omega, by simp⟩, ?_⟩
  refine cut_loop (encList encBytes x) (fun c => ((decList 1 decBytes c).triple []).snd.snd) (fun c => small2 c) (fun i h => by
    rw [decList_cut hx' (fun y hy r => decBytes_enc (by have := hx2.2 y hy; omega)) (fun y hy i h => decBytes_cut (by have := hx2.2 y hy; omega) h) h]; rfl) (fun i _ => sm _ i (by omega)) ⟨i64_iff.2 (by omega), ⟨by omega, by simp⟩, ?_⟩
  exact cut_loop (encList (fun (x : List Int) => x) d) (fun c => ((decList 16 decDigest c).triple []).snd.snd) (fun c => small2 c) (fun i h => by
    rw [digests_cut hd' hd h]; rfl) (fun i _ => sm _ i (by omega)) ⟨i64_iff.2 (by omega), trivial, rfl⟩
end Go.Proofs.Ytgneefndofeoaaa
