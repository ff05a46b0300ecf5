import Derived.Test.YtdeleoaeegmhlaaMFa
namespace Go.PL
open Go.AM
set_option linter.unusedVariables false
theorem eta (x : Sp) : Rose.node ((x.val.fst.fst, x.val.fst.snd.fst, ()), x.val.snd.fst, ()) x.subs = x := by cases x; rfl
theorem neta (y : Sp) : nS y = y := eta y
theorem cutT1_leaf {n : Nat} {p a t : Int} {o : List Int} {x : Sp} {c : Int} (h : x.subs.length = 0) : cutT1 n p a t o x c = if c = p then cutL a t o x else x := by
  unfold cutT1 cutT; rw [if_pos h]
theorem cutT1_fork {n : Nat} {p a t : Int} {o : List Int} {x : Sp} {c : Int} (h : x.subs.length = 2) : cutT1 n p a t o x c = .node x.val [cutT n p a t o (subOf x 0) c, cutT n p a t o (subOf x 1) (c + leavesN n (subOf x 0))] := by
  unfold cutT1
  conv => lhs; unfold cutT
  rw [if_neg (by omega)]
theorem leaves1_leaf {n : Nat} {x : Sp} (h : x.subs.length = 0) : leaves1 n x = 1 := by
  unfold leaves1 leavesN; rw [if_pos h]
theorem leaves1_fork {n : Nat} {x : Sp} (h : x.subs.length = 2) : leaves1 n x = leavesN n (subOf x 0) + leavesN n (subOf x 1) := by
  unfold leaves1
  conv => lhs; unfold leavesN
  rw [if_neg (by omega)]
theorem leavesN_pos : ∀ {n : Nat} {x : Sp}, binT n x → 1 ≤ leavesN n x
  | 0, x, h => h.elim
  | n + 1, x, h => by
    have e : leavesN (n + 1) x = leaves1 n x := rfl
    rcases h with h | ⟨h, h0, h1⟩
    · rw [e, leaves1_leaf h]; omega
    · rw [e, leaves1_fork h]
      have := leavesN_pos h0
      have := leavesN_pos h1
      omega
theorem preW_subs {n : Nat} {x : Sp} {c : Int} (h : preW (n + 1) x c) (hl : x.subs.length = 2) : preW n (subOf x 0) c ∧ preW n (subOf x 1) (c + leavesN n (subOf x 0)) := by
  obtain ⟨h1, h2, h3⟩ := h
  have e : leavesN (n + 1) x = leaves1 n x := rfl
  rw [e, leaves1_fork hl] at h3
  rcases h1 with h1 | ⟨_, b0, b1⟩
  · omega
  · have := leavesN_pos b0
    have := leavesN_pos b1
    exact ⟨⟨b0, h2, by omega⟩, b1, by omega, by omega⟩
theorem binT_of : ∀ {n : Nat} {x : Sp} {b : Box}, validT n x b → binT n x
  | 0, x, b, h => h.elim
  | n + 1, x, b, .inl h => .inl (leaf_iff.1 h).1
  | n + 1, x, b, .inr ⟨h1, h2, h3, h4⟩ => .inr ⟨(fork_iff.1 h2).1, binT_of h3, binT_of h4⟩
theorem leavesN_len : ∀ {n : Nat} {x : Sp} {b : Box}, validT n x b → leavesN n x = (regsN n x b).length
  | 0, x, b, h => h.elim
  | n + 1, x, b, .inl h => by
    rw [regsN_leaf h]
    exact leaves1_leaf (leaf_iff.1 h).1
  | n + 1, x, b, .inr ⟨h1, h2, h3, h4⟩ => by
    rw [regsN_fork h1 h2, List.length_append]
    have e : leavesN (n + 1) x = leaves1 n x := rfl
    rw [e, leaves1_fork (fork_iff.1 h2).1, leavesN_len h3, leavesN_len h4]
    omega
theorem good_preW {n : Nat} {d : Dv} (g : GoodN n d) : preW n d.2.2.1 0 := ⟨binT_of g.val, by omega, by rw [leavesN_len g.val]; have := g.few; omega⟩
end Go.PL
namespace Go.Proofs.Ytdeleoaeegmhlaa
open Go.AM Go.PL
set_option linter.unusedVariables false
attribute [local irreducible] fnwp fnwpG fnwpI fnwpH
theorem bytesF : Try.prog.bytesOf 25 = 64 := by kernel_rfl
theorem roomF {C : Ctx} {n : Nat} (hb : C.P.bytesOf 25 = 64) (h : n ≤ 1000000) : roomP C 25 n := by
  unfold roomP
  rw [hb]
  omega
theorem sat_cutW : ∀ (n : Nat) (p a t : Int) (o : List Int), SatH Try.prog 71 (cutH n p a t o)
  | 0, p, a, t, o => fun B w0 Ψ β w x y args caps hsh hi ha hcp hp => hp.1.1.elim
  | n + 1, p, a, t, o => by
    have ss : SpecSound (FC n p a t o) := mkctxH_sound ⟨satG_cln.toData, trivial⟩ trivial trivial ⟨sat_cutW n p a t o, trivial⟩
    have h : SatH Try.prog 71 (cut1H n p a t o) := fnwpH_sat ss 8 _ _ fun (x : Sp) (c : Int) hk hp => by
      obtain ⟨hp, ho⟩ : preW (n + 1) x c ∧ o.length ≤ 1000000 := hp
      refine (cutW_nf n p a t o x c).mpr ?_
      have hb : (FC n p a t o).P.bytesOf 25 = 64 := bytesF
      have e0 : gS x 0 = subOf x 0 := rfl
      have e1 : gS x 1 = subOf x 1 := rfl
      have i1 : isI64 1 := i64s (by omega) (by omega)
      have i2 : isI64 2 := i64s (by omega) (by omega)
      have hc : isI64 (c + 1) := by
        have := leavesN_pos hp.1
        have := hp.2
        exact i64s (by omega) (by omega)
      have r1 : roomP (FC n p a t o) 25 (0 + 1) := roomF hb (by omega)
      have r2 : roomP (FC n p a t o) 25 (0 + 1 + (0 + 1)) := roomF hb (by omega)
      simp only [neta, e0, e1, List.length_cons, List.length_nil]
      rcases hp.1 with hl | ⟨hl, b0, b1⟩
      · have d1 : decide ((0 : Int) < (x.subs.length : Int)) = false := decide_eq_false (by omega)
        have d2 : decide ((x.subs.length : Int) = 0) = true := decide_eq_true (by omega)
        simp only [d1, d2, cutT1_leaf hl, leaves1_leaf hl, hc, ho, Bool.false_eq_true, false_implies, true_implies, reduceCtorEq, and_true, true_and, Bool.not_eq_true', Bool.not_eq_false']
        exact ⟨fun h => by rw [if_neg (df h)], fun h => by rw [if_pos (dt h)]; rfl⟩
      · obtain ⟨q0, q1⟩ := preW_subs hp hl
        have d2 : decide ((x.subs.length : Int) = 0) = false := decide_eq_false (by omega)
        have d4 : decide ((2 : Int) < (x.subs.length : Int)) = false := decide_eq_false (by omega)
        have g0 : preC n o (subOf x 0) c := ⟨q0, ho⟩
        have g1 : preC n o (subOf x 1) (c + leavesN n (subOf x 0)) := ⟨q1, ho⟩
        have k0 : (0 : Int) ≤ 0 ∧ (0 : Int) < (x.subs.length : Int) := ⟨by omega, by omega⟩
        have k1 : (0 : Int) ≤ 1 ∧ (1 : Int) < (x.subs.length : Int) := ⟨by omega, by omega⟩
        simp only [d2, d4, cutT1_fork hl, leaves1_fork hl, g0, g1, k0, k1, i1, i2, r1, r2, Bool.false_eq_true, false_implies, true_implies, and_true, true_and, and_self, List.cons_append, List.nil_append, decide_true, Bool.true_eq_false, Int.add_assoc]
    exact h
theorem sat_cutF (n : Nat) : Sat Try.prog 17 (cutFSp n) := sat_each (m := 8) fun (x : Dv × Int × Int × Int × List Int) hk hp => by
  obtain ⟨d, p, a, t, o⟩ := x
  have g : GoodN n d := hp
  refine ⟨FCc n p a t o, rfl, mkctxH_sound ⟨sat_areasP n, sat_cuts, sat_good, satG_cln.toData, trivial⟩ trivial trivial ⟨sat_cutW n p a t o, trivial⟩, (cut_nf n d p a t o).mpr ?_⟩
  have ed : ((d.fst, d.snd.fst, d.snd.snd.fst, ()) : Dv) = d := rfl
  simp only [eta, ed]
  refine ⟨g.pre, fun c => ?_, fun c => ⟨fun c1 => ?_, fun c1 => ?_⟩⟩
  · unfold cutRes; rw [if_pos (.inl (dt c))]
  · unfold cutRes; rw [if_pos (.inr (dt c1))]
  · have c := df c
    have c1 := df c1
    have hpl : p.toNat < (areasN n d).length := by omega
    have he : evenB ((areasN n d).getD p.toNat dAr).1 := by
      have := bval_len (g.sub hpl).1.1
      exact ⟨this.2.2.symm, by omega⟩
    have r1 : cutRes n d p a t o = if cutsB ((areasN n d).getD p.toNat dAr).1 a t = false ∨ goodS o = false then (d, 1) else if 64 ≤ (areasN n d).length then (d, 2) else
        if (1073741824 : Int) ≤ d.2.1 then (d, 2) else ((d.1, d.2.1 + 1, cutT n p a t o d.2.2.1 0, ()), 0) := by
      unfold cutRes; rw [if_neg (by omega)]
    rw [r1]
    have hw := good_preW g
    refine ⟨⟨by omega, by omega⟩, he, fun c2 => ?_, fun c2 => ⟨trivial, fun c3 => ?_, fun c3 => ?_⟩⟩
    · rw [if_pos (.inl (nt c2))]
    · rw [if_pos (.inr (nt c3))]
    · have hn : ¬ (cutsB ((areasN n d).getD p.toNat dAr).1 a t = false ∨ goodS o = false) := by
        rintro (h | h)
        · have := nf c2; rw [h] at this; cases this
        · have := nf c3; rw [h] at this; cases this
      rw [if_neg hn]
      refine ⟨fun c4 => by rw [if_pos (by have := dt c4; omega)], fun c4 => ?_⟩
      rw [if_neg (by have := df c4; omega)]
      have gl : goodS o = true := nf c3
      obtain ⟨v1, v2⟩ : (-9223372036854775808 : Int) ≤ d.2.1 ∧ d.2.1 ≤ 9223372036854775807 := hk.1.2.1
      refine ⟨fun c5 => by rw [if_pos (dt c5)], fun c5 => ?_⟩
      have c5 := df c5
      rw [if_neg c5]
      have ho := (goodS_iff.1 gl).2.2
      have hi : isI64 (d.2.1 + 1) := by unfold isI64; omega
      have hpre : preC n o d.2.2.1 0 := ⟨hw, by omega⟩
      exact ⟨hi, ⟨trivial, trivial, trivial, trivial⟩, by simp only [and_self], hpre, rfl⟩
end Go.Proofs.Ytdeleoaeegmhlaa
