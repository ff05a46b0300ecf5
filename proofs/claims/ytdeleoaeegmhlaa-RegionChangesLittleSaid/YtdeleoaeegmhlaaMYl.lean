import Derived.Test.YtdeleoaeegmhlaaMYg
import Derived.Test.YtdeleoaeegmhlaaMYh
import Derived.Test.YtdeleoaeegmhlaaMYj
import Derived.Test.YtdeleoaeegmhlaaMYk
namespace Go.Proofs.Ytdeleoaeegmhlaa
open Go.AM Go.PL
set_option linter.unusedVariables false
attribute [local irreducible] fnwp fnwpG fnwpI
theorem okS_node {x : Sp} (h : okd ST x) : (offs x).length ≤ maxLen ∧ ∀ y ∈ x.subs, okd ST y := by
  cases x with
  | node v l =>
    have h : Rose.all (fun y n => okd (.pair I (.pair I .unit)) (Prod.fst y) ∧ okd (.pair L .unit) (Prod.snd y) ∧ n ≤ maxLen) (.node v l) := h
    exact ⟨h.1.2.1.1.1, (Rose.alls_iff l).1 h.2⟩
theorem partsL_le (f : Sp → Int → Int) (most : Int) (B : Int) : ∀ (l : List Sp) (n : Int), (∀ y ∈ l, ∀ m, 0 ≤ m → f y m ≤ m + B) → n ≤ most + B → partsL f most l n ≤ most + B
  | [], n, hf, h => h
  | y :: l, n, hf, h => by
    simp only [partsL]
    split
    · have := hf y List.mem_cons_self (most - n) (by omega)
      exact partsL_le f most B l _ (fun z hz => hf z (List.mem_cons_of_mem _ hz)) (by omega)
    · omega
theorem parts_le : ∀ (k : Nat) (x : Sp) (m : Int), okd ST x → 0 ≤ m → partsN k x m ≤ m + 200000000000000000
  | 0, x, m, hk, h => by simp only [partsN]; omega
  | k + 1, x, m, hk, h => by
    simp only [partsN]
    obtain ⟨h1, h2⟩ := okS_node hk
    have e : maxLen = 9223372036854775807 := rfl
    exact partsL_le (partsN k) m _ x.subs _ (fun y hy m hm => parts_le k y m (h2 y hy) hm) (by omega)
theorem ssYP0 : SpecSound YP0 := mkctx_sound trivial trivial
theorem ssYP00 : SpecSound YP00 := mkctx_sound trivial trivial
theorem sat_val4 : Sat Try.prog 9 bvecSp := by
  refine sat_nf (C := YP0) ssYP0 rVal4_nf fun (v : List Int) hk hp => ?_
  refine ⟨fun x => 0 ≤ x ∧ x ≤ v.length ∧ ∀ j : Nat, (j : Int) < x → -1000 ≤ v.getD j 0 ∧ v.getD j 0 ≤ 1000, fun x => ((v.length : Int) - x).toNat, ⟨by omega, by omega, fun j hj => by omega⟩,
    fun x ⟨h0, h1, h2⟩ => ⟨fun c => ?_, fun c => ⟨fun c1 => ?_, fun c1 => ?_⟩⟩⟩
  · have c := dt c
    refine ⟨⟨h0, c⟩, fun g => ?_, fun g => ⟨⟨h0, c⟩, fun g' => ?_, fun g' => ⟨i64_lt h0 c hk.1, ⟨by omega, by omega, upd_all h0 h2 ?_⟩, by dsimp only; omega⟩⟩⟩
    · have g := dt g
      exact is_no fun hb => by have := bvec_at hb x.toNat; omega
    · have g := dt g'
      exact is_no fun hb => by have := bvec_at hb x.toNat; omega
    · have g := df g
      have g' := df g'
      omega
  · have c := df c
    have c1 := dt c1
    exact dec_is ⟨fun h => bvec_iff.2 ⟨fun i hi => h2 i (by omega), by omega, by omega⟩, fun hb => by have := bvec_len hb; omega⟩
  · have c1 := df c1
    exact is_no fun hb => by have := bvec_len hb; omega
theorem sat_parts : ∀ k : Nat, k ≤ 100 → Sat Try.prog 26 (partsSp k)
  | 0, _ => by
    have h : Sat Try.prog 26 parts0Sp := sat_nf (C := YP00) ssYP00 (fun x => parts0_nf x.1 x.2.1 x.2.2) fun (x : Sp × Int × Int) hk hp => by
      obtain ⟨x, m, d⟩ := x
      obtain ⟨h1, h2, h3⟩ : d = 0 ∧ 0 ≤ m ∧ m ≤ 1000 := hp
      dsimp only
      exact ⟨decide_eq_true (by omega), i64s (by omega) (by omega), rfl⟩
    exact h
  | k + 1, hk100 => by
    have ss : SpecSound (YP k) := mkctx_sound ⟨sat_parts k (by omega), trivial⟩ trivial
    have h : Sat Try.prog 26 (parts1Sp k) := sat_nf (C := YP k) ss (fun x => parts1_nf k x.1 x.2.1 x.2.2) fun (x : Sp × Int × Int) hk hp => by
      obtain ⟨x, m, d⟩ := x
      obtain ⟨h1, h2, h3⟩ : d = (k : Int) + 1 ∧ 0 ≤ m ∧ m ≤ 1000 := hp
      have hx : okd ST x := hk.1
      obtain ⟨o1, o2⟩ := okS_node hx
      have e : maxLen = 9223372036854775807 := rfl
      have o1 : x.val.2.1.length ≤ maxLen := o1
      dsimp only
      rw [Int.tdiv_eq_ediv_of_nonneg (by omega)]
      refine ⟨fun c => absurd (dt c) (by omega), fun _ => ⟨⟨by omega, i64s (by omega) (by omega)⟩, i64s (by omega) (by omega), fun z => 0 ≤ z.2 ∧ z.2 ≤ x.subs.length ∧ 0 ≤ z.1 ∧ z.1 ≤ m + 200000000000000000 ∧ partsL (partsN k) m (x.subs.drop z.2.toNat) z.1 = parts1 k x m, fun z => ((x.subs.length : Int) - z.2).toNat, ⟨by omega, by omega, by omega, by omega, rfl⟩, fun z ⟨g0, g1, g2, g3, g4⟩ => ⟨fun c => ⟨fun c1 => ?_, fun c1 => ?_⟩, fun c => ?_⟩⟩⟩
      · have c := dt c
        have c1 := dt c1
        have hm : x.subs.getD z.2.toNat (Rose.node (((0 : Int), (0 : Int), ()), [], ()) []) ∈ x.subs := getD_mem _ _ (by omega)
        have p1 := partsN_pos k (x.subs.getD z.2.toNat (Rose.node (((0 : Int), (0 : Int), ()), [], ()) [])) (m - z.1) (by omega)
        have p2 := parts_le k (x.subs.getD z.2.toNat (Rose.node (((0 : Int), (0 : Int), ()), [], ()) [])) (m - z.1) (o2 _ hm) (by omega)
        rw [drop_step _ (Rose.node (((0 : Int), (0 : Int), ()), [], ()) []) g0 c] at g4
        simp only [partsL] at g4
        rw [if_pos c1] at g4
        have hl : x.subs.length ≤ maxLen := by
          cases x with
          | node v l => exact hx.1.2.2
        exact ⟨⟨g0, c⟩, i64s (by omega) (by omega), i64s (by omega) (by omega), ⟨by omega, by omega, by omega⟩, i64s (by omega) (by omega), i64_lt g0 c (by omega), ⟨by dsimp only; omega, by dsimp only; omega, by dsimp only; omega, by dsimp only; omega, g4⟩, by dsimp only; omega⟩
      · have c := dt c
        have c1 := df c1
        rw [drop_step _ (Rose.node (((0 : Int), (0 : Int), ()), [], ()) []) g0 c] at g4
        simp only [partsL] at g4
        rw [if_neg c1] at g4
        exact g4
      · rw [drop_end _ (df c)] at g4
        exact g4
    exact h
theorem sat_rfew : Sat Try.prog 7 (rfewSp 60) :=
  sat_nf (C := YP 60) (mkctx_sound ⟨sat_parts 60 (by omega), trivial⟩ trivial) (fun d => rfew_nf 60 d) fun d hk hp => ⟨⟨rfl, by omega, by omega⟩, rfl⟩
theorem satYi : AllSat bs.P tYi := ⟨sat_rOff, sat_rCuts, sat_low, sat_high, sat_rWhole, trivial⟩
theorem sat_count : ∀ n, Sat Try.prog 27 (countSp n)
  | 0 => fun Ψ w x args hprom hrel hp => hp.1.elim
  | n + 1 => by
    have ss : SpecSound (YC n) := mkctx_sound ⟨sat_count n, satYi⟩ trivial
    have h : Sat Try.prog 27 (count1Sp n) := sat_nf (C := YC n) ss (fun x => count1_nf n x.1 x.2.1 x.2.2) fun (x : Sp × Box × Int) hk hp => by
      obtain ⟨x, b, m⟩ := x
      obtain ⟨hd, he, h0, h1⟩ : deepN (n + 1) x ∧ evenB b ∧ 0 ≤ m ∧ m ≤ 64 := hp
      have ec : count1 n x b m = countN (n + 1) x b m := rfl
      dsimp only
      rw [ec]
      simp only [countN]
      have i1 : isI64 (m + 1) := i64s (by omega) (by omega)
      refine ⟨fun c => ?_, fun c => ?_⟩
      · rw [if_pos (dt c)]
      · have c := df c
        rw [if_neg c]
        refine ⟨fun c1 => ?_, fun c1 => ?_⟩
        · have c1 := dt c1
          rw [if_pos (show x.subs.length = 0 by omega)]
          unfold leafC axisOf atOf offs
          refine ⟨fun g => ⟨i1, ?_⟩, fun g => ⟨fun g1 => ⟨i1, ?_⟩, fun g1 => ⟨trivial, fun g2 => ⟨i1, ?_⟩, fun g2 => ?_⟩⟩⟩
          · rw [if_neg (by have g := ndt g; simp [g])]
          · rw [if_neg (by have g := ndt g1; simp [g])]
          · rw [if_neg (by have g := nt g2; simp [g])]
          · rw [if_pos (by have g := ndf g; have g1 := ndf g1; have g2 := nf g2; simp [g, g1, g2])]
        · have c1 := df c1
          rw [if_neg (show ¬ x.subs.length = 0 by omega)]
          refine ⟨fun g => ⟨i1, ?_⟩, fun g => ⟨fun g1 => ⟨i1, ?_⟩, fun g1 => ⟨he, fun g2 => ⟨i1, ?_⟩, fun g2 => ?_⟩⟩⟩
          · rw [if_neg fun k => ndt g (by have := (fork_iff.1 k).1; omega)]
          · rw [if_neg fun k => by have := (fork_iff.1 k).2.1; unfold offs at this; have := dt g1; omega]
          · rw [if_neg fun k => by have := (fork_iff.1 k).2.2; unfold axisOf atOf at this; rw [nt g2] at this; cases this]
          · have g := ndf g
            have g1 := df g1
            have g2 := nf g2
            have hf : forkOk x b = true := fork_iff.2 ⟨by omega, by unfold offs; omega, g2⟩
            rw [if_pos hf]
            have d0 : deepN n (subOf x 0) := hd _ (subOf_mem (by omega))
            have d1 : deepN n (subOf x 1) := hd _ (subOf_mem (by omega))
            have p0 := count_pos n (subOf x 0) (lowB b (axisOf x) (atOf x)) (m - 1) (by omega)
            have q0 := count_le n (subOf x 0) (lowB b (axisOf x) (atOf x)) (m - 1) (by omega)
            have e0 : (Rose.subs x).getD 0 (Rose.node (((0 : Int), (0 : Int), ()), [], ()) []) = subOf x 0 := rfl
            have e1 : (Rose.subs x).getD 1 (Rose.node (((0 : Int), (0 : Int), ()), [], ()) []) = subOf x 1 := rfl
            have e2 : (Rose.val x).fst.fst = axisOf x := rfl
            have e3 : (Rose.val x).fst.snd.fst = atOf x := rfl
            rw [e0, e1, e2, e3]
            rw [e2, e3] at g2
            refine ⟨⟨by omega, by omega⟩, ⟨he, g2⟩, i64s (by omega) (by omega), ⟨d0, even_low he, by omega, by omega⟩, fun k => ⟨i1, ?_⟩, fun k => ?_⟩
            · rw [if_pos (dt k)]
            · have k := df k
              rw [if_neg (by omega)]
              have p1 := count_pos n (subOf x 1) (highB b (axisOf x) (atOf x)) (m - countN n (subOf x 0) (lowB b (axisOf x) (atOf x)) (m - 1)) (by omega)
              have q1 := count_le n (subOf x 1) (highB b (axisOf x) (atOf x)) (m - countN n (subOf x 0) (lowB b (axisOf x) (atOf x)) (m - 1)) (by omega)
              exact ⟨⟨by omega, by omega⟩, ⟨he, g2⟩, i64s (by omega) (by omega), ⟨d1, even_high he, by omega, by omega⟩, i64s (by omega) (by omega), rfl⟩
    exact h
theorem validD_iff {n : Nat} {d : Dv} : validD n d = true ↔ 1 ≤ d.1 ∧ d.1 ≤ 32 ∧ 1 ≤ d.2.1 ∧ d.2.1 ≤ 1073741824 ∧ countN n d.2.2.1 (wholeB d.1) 64 ≤ 64 := by
  unfold validD; simp only [Bool.and_eq_true, decide_eq_true_eq]
theorem even_whole {k : Int} (h : k ≤ 1000) : evenB (wholeB k) := ⟨by simp [wholeB], by simp only [wholeB, List.length_replicate]; omega⟩
theorem sat_rvalid (n : Nat) : Sat Try.prog 8 (rvalidSp n) := by
  refine sat_nf (C := YC n) (mkctx_sound ⟨sat_count n, satYi⟩ trivial) (fun d => rvalid_nf n d) fun d hk hp => ?_
  refine ⟨fun c => is_no fun h => ?_, fun c => ⟨fun c1 => is_no fun h => ?_, fun c1 => ⟨fun c2 => is_no fun h => ?_, fun c2 => ⟨fun c3 => is_no fun h => ?_, fun c3 => ?_⟩⟩⟩⟩
  · have := dt c; have := (validD_iff.1 h).1; omega
  · have := dt c1; have := (validD_iff.1 h).2.1; omega
  · have := dt c2; have := (validD_iff.1 h).2.2.1; omega
  · have := dt c3; have := (validD_iff.1 h).2.2.2.1; omega
  · have c := df c; have c1 := df c1; have c2 := df c2; have c3 := df c3
    exact ⟨⟨by omega, by omega⟩, ⟨hp, even_whole (by omega), by omega, by omega⟩, dec_is ⟨fun h => validD_iff.2 ⟨by omega, by omega, by omega, by omega, h⟩, fun h => (validD_iff.1 h).2.2.2.2⟩⟩
theorem bytesA : Try.prog.bytesOf 36 = 72 := by kernel_rfl
theorem roomA {C : Ctx} {n : Nat} (hb : C.P.bytesOf 36 = 72) (h : n ≤ 1000000) : roomP C 36 n := by
  unfold roomP
  rw [hb]
  omega
theorem sat_areas (n : Nat) : Sat Try.prog 11 (areasSp n) := by
  refine sat_nf (C := YAr n) (mkctxI_sound satY1 trivial ⟨sat_reg n, trivial⟩) (fun d => areas_nf n d) fun (d : Dv) hk hp => ?_
  obtain ⟨h1, h2, hd, ho⟩ := hp
  have hb : (YAr n).P.bytesOf 36 = 72 := bytesA
  refine ⟨⟨h1, h2⟩, ⟨hd, even_whole h2⟩, fun xs _ v => v = xs.map areaOf, rfl, fun xs y rest e own z v hv => ?_, fun own z v hv => hv⟩
  have A : y.snd.val.snd.fst.length ≤ 1000000 := ho.2 y (by rw [e]; simp)
  have B : roomP (YAr n) 36 (v.length + [((y.fst.fst, y.fst.snd.fst, ()), y.snd.val.snd.fst, ())].length) := roomA hb (by
    have := ho.1
    rw [e] at this
    rw [hv]
    simp only [List.length_append, List.length_cons, List.length_map, List.length_nil] at this ⊢
    omega)
  have C : v ++ [((y.fst.fst, y.fst.snd.fst, ()), y.snd.val.snd.fst, ())] = (xs ++ [y]).map areaOf := by rw [hv, List.map_append]; rfl
  simp only [A, B, C, and_self]
end Go.Proofs.Ytdeleoaeegmhlaa
