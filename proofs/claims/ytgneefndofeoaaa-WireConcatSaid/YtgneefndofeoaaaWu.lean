import Derived.Test.YtgneefndofeoaaaWt
namespace Go.PL
open Go.AM
theorem sum_le_of_few {x : List (List Int)} (h : fewN x ≤ 2000) : x.length ≤ 2000 ∧ ∀ s ∈ x, s.length ≤ 2000 := by
  unfold fewN at h
  exact ⟨by omega, fun s hs => by have := few_mem hs; omega⟩
theorem bytes_len (s : List Int) : (encBytes s).length ≤ 10 + s.length := by
  have := (encI_len (s.length : Int)).2
  unfold encBytes
  rw [List.length_append]
  omega
theorem strings_len {x : List (List Int)} (h : fewN x ≤ 2000) : (encList encBytes x).length ≤ 30000 := by
  have hx : (x.flatMap encBytes).length ≤ 10 * x.length + (x.map List.length).sum := by
    clear h
    induction x with
    | nil => simp
    | cons s x ih =>
      have := bytes_len s
      rw [List.flatMap_cons, List.length_append, List.map_cons, List.sum_cons, List.length_cons]
      omega
  have := (encI_len (x.length : Int)).2
  unfold fewN at h
  unfold encList
  rw [List.length_append]
  omega
theorem ints_len (l : List Int) : (encList encI l).length ≤ 10 + 10 * l.length := by
  have h1 := flat_len (one := encI) (k := 10) l (fun x _ => (encI_len x).2)
  have h2 := (encI_len (l.length : Int)).2
  unfold encList
  rw [List.length_append]
  omega
theorem digests_len {l : List (List Int)} (h : ∀ x ∈ l, x.length = 16) : (encList (fun x : List Int => x) l).length ≤ 10 + 16 * l.length := by
  have h1 := flat_len (one := fun x : List Int => x) (k := 16) l (fun x hx => by rw [h x hx]; exact Nat.le_refl _)
  have h2 := (encI_len (l.length : Int)).2
  unfold encList
  rw [List.length_append]
  omega
theorem whole' (b : List Int) : List.take ((b.length : Int).toNat - 0) (List.drop 0 b) = b := by
  rw [List.drop_zero]; exact List.take_of_length_le (by omega)
theorem few_of {x : List (List Int)} (h : (!decide (fewN x ≤ 2000)) = false) : fewN x ≤ 2000 := by simpa using h
theorem no' {p : Prop} {x : Bool} (h : x = true) (h' : x = false) : p := by rw [h] at h'; cases h'
theorem yes {p : Prop} [Decidable p] (h : p) : decide p = true := decide_eq_true h
theorem sum_wt {α : Type} (f g : α → Nat) (h : ∀ x, f x ≤ g x) : ∀ l : List α, (l.map f).sum ≤ (l.map g).sum
  | [] => by simp
  | x :: l => by
    have := sum_wt f g h l
    have := h x
    simp only [List.map_cons, List.sum_cons]
    omega
theorem len_wt {α : Type} (f : α → Nat) (h : ∀ x, 1 ≤ f x) : ∀ l : List α, l.length ≤ (l.map f).sum
  | [] => by simp
  | x :: l => by
    have := len_wt f h l
    have := h x
    simp only [List.map_cons, List.sum_cons, List.length_cons]
    omega
end Go.PL
namespace Go.Proofs.Ytgneefndofeoaaa
open Go.AM Go.PL
set_option linter.unusedVariables false

theorem wt_str (s : List Int) : wt .str s = s.length + 1 := rfl
theorem wt_L (l : List Int) : wt L l = l.length + 1 := by
  show (l.map fun _ => 1).sum + 1 = _
  have : ∀ l : List Int, (l.map fun _ => 1).sum = l.length := by
    intro l
    induction l with
    | nil => rfl
    | cons x l ih => simp only [List.map_cons, List.sum_cons, ih, List.length_cons]; omega
  rw [this]
theorem wt_SS (x : List (List Int)) : (x.map List.length).sum + x.length + 1 = wt (.arr .str) x := by
  show _ = (x.map fun s => s.length + 1).sum + 1
  have : ∀ l : List (List Int), (l.map fun s => s.length + 1).sum = (l.map List.length).sum + l.length := by
    intro l
    induction l with
    | nil => rfl
    | cons x l ih => simp only [List.map_cons, List.sum_cons, ih, List.length_cons]; omega
  rw [this]
theorem wt_DD {d : List (List Int)} (h : ∀ x ∈ d, x.length = 16) : d.length ≤ wt (.arr DG) d := by
  show _ ≤ (d.map (wt DG)).sum + 1
  have : ∀ l : List (List Int), (∀ x ∈ l, x.length = 16) → l.length ≤ (l.map (wt DG)).sum := by
    intro l
    induction l with
    | nil => simp
    | cons x l ih =>
      intro h
      have h1 := ih (fun y hy => h y (by simp [hy]))
      have h2 : wt DG x = (x.map fun _ => 1).sum := rfl
      have h3 : ∀ l : List Int, (l.map fun _ => 1).sum = l.length := by
        intro l
        induction l with
        | nil => rfl
        | cons x l ih => simp only [List.map_cons, List.sum_cons, ih, List.length_cons]; omega
      have h4 := h x (by simp)
      simp only [List.map_cons, List.sum_cons, List.length_cons]
      rw [h2, h3, h4]
      omega
  have := this d h
  omega
theorem wt_BY (l : List Int) : wt BY l = l.length + 1 := wt_L l
theorem few_bound {x : List (List Int)} (h : wt (.arr .str) x ≤ 1048576) : fewP x := by
  rw [← wt_SS] at h
  unfold fewP fewN
  omega

theorem sat_law1 : Sat Try.prog 3 (lawSpU [I, .str, L, .arr .str, .arr DG]) := by
  refine sat_nf (C := XL) ssXL (fun y => law1_nf y.1 y.2.1 y.2.2.1 y.2.2.2.1 y.2.2.2.2) fun (⟨n, s, l, x, d⟩ : Int × List Int × List Int × List (List Int) × List (List Int)) hk hp => ?_
  dsimp only
  have hd : ∀ y ∈ d, y.length = 16 := fun y hy => (hk.2.2.2.2.2 y hy).1
  have hw : wt I n + (wt .str s + (wt L l + (wt (.arr .str) x + wt (.arr DG) d))) ≤ 1048576 := hp
  have h1 := wt_DD hd
  rw [wt_str, wt_L] at hw
  have hf := few_bound (x := x) (by omega)
  refine ⟨i64_iff.2 (by omega), i64_iff.2 (by omega), fun _ => ⟨trivial, rfl⟩, fun hs => ⟨hf, fun _ => ⟨trivial, rfl⟩, fun hx => ⟨trivial, fun _ => ?_, fun h => by cases h⟩⟩⟩
  have hs := of_decide_eq_false hs
  have hx := few_of hx
  have hx2 := sum_le_of_few hx
  have q1 : small2 l := by unfold small2; omega
  have q2 : small2 d := by unfold small2; omega
  have q3 : (∀ s ∈ x, s.length ≤ 100000) ∧ small2 x := ⟨fun s hs => by have := hx2.2 s hs; omega, by unfold small2; omega⟩
  exact ⟨trivial, trivial, trivial, fun _ => ⟨by omega, by omega, trivial, fun _ => ⟨q1, q1, trivial, fun _ => ⟨q3, q3, trivial, fun _ => ⟨q2, q2, trivial, yes rfl⟩, no' (yes rfl)⟩, no' (yes rfl)⟩, no' (yes rfl)⟩, no' (yes rfl)⟩
set_option maxRecDepth 100000 in
theorem sat_law8 : Sat Try.prog 10 (lawSpU [.str, L]) := by
  refine sat_nf (C := XG) (mkctx_sound ⟨sat_sanity, satW⟩ ⟨sat_bytes, trivial⟩) (fun y => law8_nf y.1 y.2) fun (⟨s, l⟩ : List Int × List Int) hk hp => ?_
  dsimp only
  have hi : ∀ x ∈ l, isI64 x := fun x hx => has_i64.1 (hk.2.2 x hx)
  have hw : wt .str s + wt L l ≤ 1048576 := hp
  rw [wt_str, wt_L] at hw
  refine ⟨i64_iff.2 (by omega), fun _ => ⟨trivial, rfl⟩, fun hs => ?_⟩
  have hs := of_decide_eq_false hs
  have e1 := decBytes_enc (s := s) (r := encList encI l) (by omega)
  have e2 := ints_enc (l := l) (r := []) (by omega) hi
  rw [List.append_nil] at e2
  have l1 := bytes_len s
  have l2 := ints_len l
  have e3 : List.take ((encBytes s ++ encList encI l).length - ((encBytes s).length : Int).toNat) (List.drop ((encBytes s).length : Int).toNat (encBytes s ++ encList encI l)) = encList encI l := by
    rw [show ((encBytes s).length : Int).toNat = (encBytes s).length by omega, List.drop_left]
    exact List.take_of_length_le (by rw [List.length_append]; omega)
  have q1 : small2 l := by unfold small2; omega
  have t1 : (decBytes (encBytes s ++ encList encI l)).triple [] = (s, ((encBytes s).length : Int), 0) := by rw [e1]; rfl
  have t2 : (decList 1 decI (encList encI l)).triple [] = (l, ((encList encI l).length : Int), 0) := by rw [e2]; rfl
  simp only [t1, e3, t2]
  have hL : ((encBytes s ++ encList encI l).length : Int) = (encBytes s).length + (encList encI l).length := by rw [List.length_append]; omega
  refine ⟨by omega, q1, roomU bytesU (by omega), trivial, fun h => by simp at h, fun _ => ⟨fun h => absurd (of_decide_eq_true h) (by omega), fun _ => ⟨fun h => absurd (of_decide_eq_true h) (by omega), fun _ => ⟨⟨by omega, by omega⟩, by unfold small2; omega, trivial,
    fun _ => ⟨fun _ => ⟨trivial, fun _ => ⟨fun _ => ⟨i64_iff.2 (by omega), yes (by omega)⟩, no' (yes trivial)⟩, no' (yes trivial)⟩, no' (yes trivial)⟩, fun h => by cases h⟩⟩⟩⟩
set_option maxRecDepth 100000 in
theorem sat_law6 : Sat Try.prog 8 (lawSpU [.str, L, .arr .str, .arr DG, BY]) := by
  have parts : ∀ (s l : List Int) (x d : List (List Int)) (tail : List Int), okds (lawSpU [.str, L, .arr .str, .arr DG, BY]).ps (s, l, x, d, tail) → wts [.str, L, .arr .str, .arr DG, BY] (s, l, x, d, tail) ≤ 1048576 →
      s.length ≤ 1048576 ∧ l.length ≤ 1048576 ∧ d.length ≤ 1048576 ∧ tail.length ≤ 1048576 ∧ fewP x ∧ (∀ y ∈ d, y.length = 16) ∧ (∀ y ∈ l, isI64 y) := by
    intro s l x d tail hk hp
    have hd : ∀ y ∈ d, y.length = 16 := fun y hy => (hk.2.2.2.1.2 y hy).1
    have hw : wt .str s + (wt L l + (wt (.arr .str) x + (wt (.arr DG) d + wt BY tail))) ≤ 1048576 := hp
    have h1 := wt_DD hd
    rw [wt_str, wt_L, wt_BY] at hw
    exact ⟨by omega, by omega, by omega, by omega, few_bound (x := x) (by omega), hd, fun y hy => has_i64.1 (hk.2.1.2 y hy)⟩
  have dec : ∀ (s l : List Int) (x d : List (List Int)) (r : List Int), s.length ≤ 1048576 → l.length ≤ 1048576 → d.length ≤ 1048576 → fewN x ≤ 2000 → (∀ y ∈ d, y.length = 16) → (∀ y ∈ l, isI64 y) →
      (decBytes (encBytes s ++ r)).triple [] = (s, ((encBytes s).length : Int), 0) ∧ (decList 1 decI (encList encI l ++ r)).triple [] = (l, ((encList encI l).length : Int), 0) ∧
      (decList 16 decDigest (encList (fun (x : List Int) => x) d ++ r)).triple [] = (d, ((encList (fun (x : List Int) => x) d).length : Int), 0) ∧
      (decList 1 decBytes (encList encBytes x ++ r)).triple [] = (x, ((encList encBytes x).length : Int), 0) := by
    intro s l x d r hs hl hd hx h16 hi
    have hx2 := sum_le_of_few hx
    rw [decBytes_enc (by omega), ints_enc (by omega) hi, digests_enc (by omega) h16, strings_enc (by omega) (fun y hy => by have := hx2.2 y hy; omega)]
    exact ⟨rfl, rfl, rfl, rfl⟩
  refine fnwp_sat (C := XL) ssXL 5 8 (lawSpU [.str, L, .arr .str, .arr DG, BY]) fun (⟨s, l, x, d, tail⟩ : List Int × List Int × List (List Int) × List (List Int) × List Int) hk hp => ?_
  obtain ⟨hs, hl, hd, ht, hf, h16, hi⟩ := parts s l x d tail hk hp
  have l1 := bytes_len s
  have l2 := ints_len l
  have l3 := digests_len h16
  cases tail with
  | nil =>
    refine (law6a_nf s l x d).mpr ?_
    refine ⟨i64_iff.2 (by omega), i64_iff.2 (by omega), i64_iff.2 (by omega), fun _ => ⟨trivial, rfl⟩, fun hq => ⟨hf, fun _ => ⟨trivial, rfl⟩, fun hx => ?_⟩⟩
    have hq := of_decide_eq_false hq
    have hx := few_of hx
    have hx2 := sum_le_of_few hx
    have l4 := strings_len hx
    obtain ⟨t1, t2, t3, t4⟩ := dec s l x d [] hs hl hd hx h16 hi
    rw [List.append_nil] at t1 t2 t3 t4
    simp only [whole', t1, t2, t3, t4]
    exact ⟨by omega, by unfold small2; omega, by unfold small2; omega, ⟨fun y hy => by have := hx2.2 y hy; omega, by unfold small2; omega⟩, ⟨by omega, by omega, by omega, trivial⟩, trivial, ⟨by omega, by omega, by omega, trivial⟩, by unfold small2; omega,
      ⟨by omega, by omega, by omega, trivial⟩, by unfold small2; omega, ⟨by omega, by omega, by omega, trivial⟩, by unfold small2; omega, trivial, fun _ => ⟨trivial, fun _ => ⟨fun _ => ⟨fun _ => ⟨fun _ => ⟨fun _ => ⟨fun _ => ⟨trivial, fun _ => ⟨fun _ => ⟨fun _ => ⟨trivial,
        fun _ => ⟨fun _ => yes trivial, no' (yes trivial)⟩, no' (yes trivial)⟩, no' (yes trivial)⟩, no' (yes trivial)⟩, no' (yes trivial)⟩, no' (yes trivial)⟩, no' (yes trivial)⟩, no' (yes trivial)⟩, no' (yes trivial)⟩, no' (yes trivial)⟩, no' (yes trivial)⟩, fun h => by cases h⟩
  | cons c tail =>
    refine (law6b_nf s l x d c tail).mpr ?_
    refine ⟨i64_iff.2 (by omega), i64_iff.2 (by omega), i64_iff.2 (by omega), fun _ => ⟨trivial, rfl⟩, fun hq => ⟨hf, fun _ => ⟨trivial, rfl⟩, fun hx => ?_⟩⟩
    have hq := of_decide_eq_false hq
    have hx := few_of hx
    have hx2 := sum_le_of_few hx
    have l4 := strings_len hx
    obtain ⟨t1, t2, t3, t4⟩ := dec s l x d (c :: tail) hs hl hd hx h16 hi
    have sm : ∀ (b : List Int), b.length ≤ 40000 → small2 (b ++ c :: tail) := fun b hb => by unfold small2; rw [List.length_append]; omega
    simp only [whole', t1, t2, t3, t4]
    exact ⟨by omega, by unfold small2; omega, by unfold small2; omega, ⟨fun y hy => by have := hx2.2 y hy; omega, by unfold small2; omega⟩, ⟨by omega, by omega, by omega, trivial⟩, roomU bytesU (by omega), trivial, ⟨by omega, by omega, by omega, trivial⟩, roomU bytesU (by omega), sm _ (by omega),
      ⟨by omega, by omega, by omega, trivial⟩, roomU bytesU (by omega), sm _ (by omega), ⟨by omega, by omega, by omega, trivial⟩, roomU bytesU (by omega), sm _ (by omega), trivial, fun _ => ⟨trivial, fun _ => ⟨fun _ => ⟨fun _ => ⟨fun _ => ⟨fun _ => ⟨fun _ => ⟨trivial, fun _ => ⟨fun _ => ⟨fun _ => ⟨trivial,
        fun _ => ⟨fun _ => yes trivial, no' (yes trivial)⟩, no' (yes trivial)⟩, no' (yes trivial)⟩, no' (yes trivial)⟩, no' (yes trivial)⟩, no' (yes trivial)⟩, no' (yes trivial)⟩, no' (yes trivial)⟩, no' (yes trivial)⟩, no' (yes trivial)⟩, no' (yes trivial)⟩, fun h => by cases h⟩
end Go.Proofs.Ytgneefndofeoaaa
