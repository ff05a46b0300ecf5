import Derived.Test.YtdeleoaeegmhlaaMFd
import Derived.Test.YtdeleoaeegmhlaaMFg
namespace Go.PL
open Go.AM
set_option linter.unusedVariables false
theorem joinT1_leaf {n : Nat} {p : Int} {x : Sp} {c : Int} (h : x.subs.length = 0) : joinT1 n p x c = x ∧ foundT1 n p x c = false := joinT_leaf h
theorem joinT1_fork {n : Nat} {p : Int} {x : Sp} {c : Int} (h : x.subs.length = 2) (ht : twin p x c = false) :
    joinT1 n p x c = .node x.val [joinT n p (subOf x 0) c, joinT n p (subOf x 1) (c + leavesN n (subOf x 0))] ∧ foundT1 n p x c = (foundT n p (subOf x 0) c || foundT n p (subOf x 1) (c + leavesN n (subOf x 0))) := joinT_fork h ht
theorem joinT1_twin {n : Nat} {p : Int} {x : Sp} {c : Int} (ht : twin p x c = true) : joinT1 n p x c = subOf x 0 ∧ foundT1 n p x c = true := by
  constructor
  · show (if twin p x c then _ else _) = _
    rw [if_pos ht]
  · show (if twin p x c then _ else _) = _
    rw [if_pos ht]
theorem twin_iff {p : Int} {x : Sp} {c : Int} : twin p x c = true ↔ c = p ∧ x.subs.length ≠ 0 ∧ (subOf x 0).subs.length = 0 ∧ (subOf x 1).subs.length = 0 := by
  unfold twin; simp only [Bool.and_eq_true, decide_eq_true_eq]
theorem binT_len : ∀ {n : Nat} {x : Sp}, binT n x → x.subs.length ≤ 2
  | 0, x, h => h.elim
  | n + 1, x, .inl h => by omega
  | n + 1, x, .inr ⟨h, _⟩ => by omega
theorem leaf_one : ∀ {n : Nat} {x : Sp}, binT n x → x.subs.length = 0 → leavesN n x = 1
  | 0, x, h, _ => h.elim
  | n + 1, x, _, h => leavesN_leaf h
theorem sub_two {x : Sp} (hl : x.subs.length = 2) : x.subs = [subOf x 0, subOf x 1] := by
  cases x with
  | node v l =>
    match l, hl with
    | [y, z], _ => rfl
end Go.PL
namespace Go.Proofs.Ytdeleoaeegmhlaa
open Go.AM Go.PL
set_option linter.unusedVariables false
attribute [local irreducible] fnwp fnwpG fnwpI fnwpH
theorem satI_1 : SatI Try.prog 86 parts1I := fnwpI_sat (C := FP1) (mkctx_sound trivial trivial) 6 _ _ fun (x : Sp) hk hp => by
  have hp : x.subs.length = 0 := hp
  exact (partsA_nf x).mpr fun Y own hY => ⟨decide_eq_true (by omega), ⟨[], hY⟩, fun own => ⟨.inl ⟨own, rfl⟩, .inr ⟨own, rfl⟩⟩⟩
theorem satI_2 : SatI Try.prog 86 parts2I := fnwpI_sat (C := FP2) (mkctxI_sound trivial trivial ⟨satI_1, trivial⟩) 6 _ _ fun (x : Sp) hk hp => by
  refine (partsB_nf x).mpr ?_
  have hp : pre2 x := hp
  have e0 : gS x 0 = subOf x 0 := rfl
  have e1 : gS x 1 = subOf x 1 := rfl
  simp only [neta, e0, e1]
  intro Y own hY
  have i1 : isI64 1 := i64s (by omega) (by omega)
  have i2 : isI64 2 := i64s (by omega) (by omega)
  rcases hp with hl | ⟨hl, h0, h1⟩
  · have hi : items2 x = [x] := if_pos hl
    exact ⟨fun _ => ⟨⟨[], by rw [hY, hi]; rfl⟩, fun own => ⟨.inl ⟨own, by rw [hi]; rfl⟩, .inr ⟨own, rfl⟩⟩⟩, fun c => absurd (df c) (by omega)⟩
  · have hi : items2 x = [subOf x 0, subOf x 1] := if_neg (by omega)
    refine ⟨fun c => absurd (dt c) (by omega), fun _ => ⟨fun _ => ⟨⟨by omega, by omega⟩, h0, fun xs z _ => z = xs, ⟨own, [], rfl, rfl⟩, fun xs y rest e own z v hI => ⟨⟨rest ++ [subOf x 1], ?_⟩, fun own => ⟨⟨own, _, rfl, ?_⟩, .inr ⟨own, rfl⟩⟩⟩, fun own z v hI => ⟨i1, fun _ => ⟨⟨by omega, by omega⟩, h1, fun xs z _ => z = subOf x 0 :: xs, ⟨own, z, rfl, hI⟩, fun xs y rest e own z v hI => ⟨⟨rest, ?_⟩, fun own => ⟨⟨own, _, rfl, ?_⟩, .inr ⟨own, rfl⟩⟩⟩, fun own z v hI => ⟨i2, fun c => absurd (dt c) (by omega), fun _ => .inl ⟨own, ?_⟩⟩⟩, fun c => absurd (df c) (by omega)⟩⟩, fun c => absurd (df c) (by omega)⟩⟩
    · have hI : z = xs := hI
      rw [hY, hi, hI, show [subOf x 0, subOf x 1] = [subOf x 0] ++ [subOf x 1] from rfl, e, List.append_assoc]
      rfl
    · have hI : z = xs := hI
      rw [hI]
    · have hI : z = subOf x 0 :: xs := hI
      rw [hY, hi, hI, show [subOf x 0, subOf x 1] = subOf x 0 :: [subOf x 1] from rfl, e]
      rfl
    · have hI : z = subOf x 0 :: xs := hI
      rw [hI]
      rfl
    · have hI : z = [subOf x 0, subOf x 1] := hI
      rw [hI, hi]
theorem sat_joinW : ∀ (n : Nat), SatH Try.prog 71 (joinH n)
  | 0 => fun B w0 Ψ β w x y args caps hsh hi ha hcp hp => hp.1.elim
  | n + 1 => by
    have ss : SpecSound (FJ n) := mkctxH_sound trivial trivial ⟨satI_2, trivial⟩ ⟨sat_joinW n, trivial⟩
    have h : SatH Try.prog 71 (join1H n) := fnwpH_sat ss 8 _ _ fun (x : Sp) (y : Int × Bool × Int) hk hp => by
      obtain ⟨c, b, p⟩ := y
      have hp : preW (n + 1) x c := hp
      refine (joinW_nf n x c b p).mpr ?_
      have hb : (FJ n).P.bytesOf 25 = 64 := bytesF
      have e0 : gS x 0 = subOf x 0 := rfl
      have e1 : gS x 1 = subOf x 1 := rfl
      have i1 : isI64 1 := i64s (by omega) (by omega)
      have i2 : isI64 2 := i64s (by omega) (by omega)
      have hc : isI64 (c + 1) := by
        have := leavesN_pos hp.1
        have := hp.2
        exact i64s (by omega) (by omega)
      have r1 : roomP (FJ n) 25 (0 + 1) := roomF hb (by omega)
      have r2 : roomP (FJ n) 25 (0 + 1 + (0 + 1)) := roomF hb (by omega)
      simp only [neta, e0, e1, List.length_cons, List.length_nil]
      rcases hp.1 with hl | ⟨hl, b0, b1⟩
      · obtain ⟨j1, j2⟩ := joinT1_leaf (n := n) (p := p) (c := c) hl
        have d2 : decide ((x.subs.length : Int) = 0) = true := decide_eq_true (by omega)
        cases b <;> simp only [d2, j1, j2, leaves1_leaf hl, hc, Bool.false_eq_true, Bool.true_eq_false, false_implies, true_implies, and_true, true_and, Bool.or_false]
        all_goals exact ⟨fun _ => trivial, fun _ => trivial⟩
      · obtain ⟨q0, q1⟩ := preW_subs hp hl
        have d2 : decide ((x.subs.length : Int) = 0) = false := decide_eq_false (by omega)
        have d4 : decide ((2 : Int) < (x.subs.length : Int)) = false := decide_eq_false (by omega)
        have k0 : (0 : Int) ≤ 0 ∧ (0 : Int) < (x.subs.length : Int) := ⟨by omega, by omega⟩
        have k1 : (0 : Int) ≤ 1 ∧ (1 : Int) < (x.subs.length : Int) := ⟨by omega, by omega⟩
        have n0 := binT_len b0
        have n1 := binT_len b1
        have hs : isI64 (((subOf x 0).subs.length : Int) + ((subOf x 1).subs.length : Int)) := i64s (by omega) (by omega)
        cases ht : twin p x c
        · obtain ⟨j1, j2⟩ := joinT1_fork (n := n) hl ht
          simp only [d2, d4, j1, j2, leaves1_fork hl, q0, q1, k0, k1, i1, i2, r1, r2, Bool.false_eq_true, false_implies, true_implies, and_true, true_and, and_self, List.cons_append, List.nil_append, decide_true, Bool.true_eq_false, Int.add_assoc]
          have fin : (b = true → (true || foundT n p (subOf x 0) c || foundT n p (subOf x 1) (c + leavesN n (subOf x 0))) = (b || (foundT n p (subOf x 0) c || foundT n p (subOf x 1) (c + leavesN n (subOf x 0))))) ∧
              (b = false → (false || foundT n p (subOf x 0) c || foundT n p (subOf x 1) (c + leavesN n (subOf x 0))) = (b || (foundT n p (subOf x 0) c || foundT n p (subOf x 1) (c + leavesN n (subOf x 0))))) :=
            ⟨fun h => by rw [h]; rfl, fun h => by rw [h]; rfl⟩
          refine ⟨fun _ => fin, fun hcp => ⟨hs, fun _ => fin, fun hz => ?_⟩⟩
          have := (twin_iff (p := p) (x := x) (c := c)).2 ⟨ndf hcp, by omega, by have := df hz; omega, by have := df hz; omega⟩
          rw [ht] at this
          cases this
        · obtain ⟨t1, t2, t3, t4⟩ := twin_iff.1 ht
          obtain ⟨j1, j2⟩ := joinT1_twin (n := n) ht
          simp only [d2, d4, j1, j2, leaves1_fork hl, q0, q1, k0, k1, i1, i2, r1, r2, Bool.false_eq_true, false_implies, true_implies, and_true, true_and, and_self, List.cons_append, List.nil_append, decide_true, Bool.true_eq_false, Int.add_assoc]
          have hp2 : pre2 x := .inr ⟨hl, t3, t4⟩
          have hi : items2 x = [subOf x 0, subOf x 1] := if_neg (by omega)
          have hl0 : leavesN n (subOf x 0) = 1 := leaf_one b0 t3
          have hl1 : leavesN n (subOf x 1) = 1 := leaf_one b1 t4
          obtain ⟨c0, c1⟩ := hp.2
          rw [leavesN_fork hl, hl0, hl1] at c1
          refine ⟨fun h => absurd t1 (ndt h), fun _ => ⟨hs, fun h => absurd (dt h) (by omega), fun _ => ⟨fun hbb => ?_, fun hbb => ?_⟩⟩⟩
          all_goals
            refine ⟨hp2, fun xs _ v => v = (c + (xs.length : Int), true, p, (Rose.val (subOf x 0)).fst.fst, (Rose.val (subOf x 0)).fst.snd.fst, Rose.subs (subOf x 0), (Rose.val (subOf x 0)).snd.fst), ?_, fun xs y rest e own z v hI => ?_, fun own z v hI => ?_⟩
            · dsimp only; rw [List.length_nil, Int.natCast_zero, Int.add_zero]
            · have hlen : xs.length + 1 ≤ 2 := by
                have := congrArg List.length e
                rw [hi, List.length_append, List.length_cons] at this
                simp only [List.length_cons, List.length_nil] at this
                omega
              rw [hI]
              dsimp only
              refine ⟨i64s (by omega) (by omega), ?_⟩
              have ec : c + (xs.length : Int) + 1 = c + ((xs ++ [y]).length : Int) := by
                rw [List.length_append, List.length_cons, List.length_nil]
                omega
              rw [ec]
            · rw [hI, hi]
              dsimp only
              refine ⟨eta _, rfl, (Bool.or_true b).symm, ?_⟩
              rw [hl0, hl1]
              rfl
    exact h
end Go.Proofs.Ytdeleoaeegmhlaa
