import Derived.Test.YtgneefndofeoaaaWo
import Derived.Test.YtgneefndofeoaaaWp
namespace Go.Proofs.Ytgneefndofeoaaa
open Go.AM Go.PL
set_option linter.unusedVariables false

theorem ssXL : SpecSound XL := mkctx_sound ⟨sat_sanity, satW⟩ trivial
theorem whole (n : Int) : List.take (((encI n).length : Int).toNat - 0) (List.drop 0 (encI n)) = encI n := by
  rw [List.drop_zero]; exact List.take_of_length_le (by omega)
theorem sat_law4 : Sat Try.prog 6 (lawSp [I, BY]) := by
  refine fnwp_sat (C := XL) ssXL 5 6 (lawSp [I, BY]) fun (⟨n, tail⟩ : Int × List Int) hk _ => ?_
  have hn : isI64 n := has_i64.1 hk.1
  have hl := encI_len n
  cases tail with
  | nil =>
    refine Eq.mpr (law4a_nf n) ?_
    have hd : decI (encI n) = .ok n (encI n).length := by simpa using dec_enc hn []
    rw [whole, hd]
    exact ⟨fun _ => ⟨trivial, rfl⟩, fun _ => ⟨trivial, ⟨by omega, by omega, by omega, rfl⟩, trivial, trivial, fun _ => ⟨fun _ => ⟨fun _ => ⟨fun _ => ⟨fun _ => decide_eq_true (show ((encI n).length : Int) ≤ 10 by omega),
      fun h => absurd (show (1 : Int) ≤ ((encI n).length : Int) by omega) (of_decide_eq_false h)⟩, fun h => absurd rfl (of_decide_eq_false h)⟩, fun h => absurd rfl (of_decide_eq_false h)⟩, fun h => absurd rfl (of_decide_eq_false h)⟩, fun h => by cases h⟩⟩
  | cons c tail =>
    refine Eq.mpr (law4b_nf n c tail) ?_
    have hd := dec_enc hn (c :: tail)
    rw [whole, hd]
    refine ⟨fun _ => ⟨trivial, rfl⟩, fun hs => ⟨trivial, ⟨by omega, by omega, by omega, rfl⟩, ?_, trivial, trivial, fun _ => ⟨fun _ => ⟨fun _ => ⟨fun _ => ⟨fun _ => decide_eq_true (show ((encI n).length : Int) ≤ 10 by omega),
      fun h => absurd (show (1 : Int) ≤ ((encI n).length : Int) by omega) (of_decide_eq_false h)⟩, fun h => absurd rfl (of_decide_eq_false h)⟩, fun h => absurd rfl (of_decide_eq_false h)⟩, fun h => absurd rfl (of_decide_eq_false h)⟩, fun h => by cases h⟩⟩
    have hs := of_decide_eq_false hs
    exact roomU bytesU (by omega)
theorem sat_law2 : Sat Try.prog 4 (lawSp [BY]) := by
  refine fnwp_sat (C := XL) ssXL 5 4 (lawSp [BY]) fun (b : List Int) hk _ => Eq.mpr (law2_nf b) ?_
  refine ⟨fun _ => ⟨trivial, rfl⟩, fun h => ?_⟩
  have hs : small2 b := by
    have := of_decide_eq_false h
    unfold small2; omega
  simp [hs]
end Go.Proofs.Ytgneefndofeoaaa
