import Derived.Test.YtjppchomonpfgaaCd
import Derived.Test.YtjppchomonpfgaaCe
namespace Go.PL
open Go.AM
set_option linter.unusedVariables false
theorem chk_no {b : Book} (h : bookB b = true → False) : (80 : Int) = checkS b := by unfold checkS; rw [if_neg h]
theorem chk_yes {b : Book} (h : bookB b = true) : checkS b = 0 := by unfold checkS; rw [if_pos h]
theorem dec_no {b : Book} {c : List Int} (h : codeB b c = true → False) : (([] : List Int), (1 : Int)) = decodeS b c := by unfold decodeS; rw [if_neg h]
theorem dec_yes {b : Book} {c : List Int} (h : codeB b c = true) : decodeS b c = (standS b c, 0) := by unfold decodeS; rw [if_pos h]
theorem getD_outLL {b : Book} {k : Nat} (h : b.2.2.1.length ≤ k) : b.2.2.1.getD k [] = [] := getD_outL h
theorem cat_len {n : Nat} {f : Nat → List Int} (h : ∀ k, k < n → (f k).length ≤ 32) : (catN n f).length ≤ n * 32 := by
  induction n with
  | zero => simp [catN]
  | succ n ih =>
    have h1 := ih fun k hk => h k (by omega)
    have h2 := h n (by omega)
    rw [catN_succ, List.length_append]
    omega
theorem amax_lt (w : Nat → Int) {i n : Nat} (hn : 1 ≤ n) (h : i ≤ n) : amax i w < n := by
  cases i with
  | zero => exact hn
  | succ i => have := (amax_spec w (i + 1) (by omega)).1; omega
theorem word_len {b : Book} (h : bookB b = true) {k : Nat} (hk : k < b.2.1.length) {i : Nat} (hi : i < (b.2.2.1.getD k []).length) : ((b.2.2.1.getD k []).getD i []).length ≤ 32 := by
  obtain ⟨h1, h2, h3⟩ := bookB_iff.1 h
  exact (vecB_iff.1 (wordB_iff.1 ((wordsB_iff.1 (h3 k hk)).2 i hi)).1).2.2
end Go.PL
namespace Go.Proofs.Ytjppchomonpfgaa
open Go.AM Go.PL
set_option linter.unusedVariables false
theorem ssD1 (ps : List LA) : SpecSound (D1 ps) := mkctx_sound ⟨sat_cut, sat_rCut, sat_end, sat_ofp, sat_near, sat_rows, satD0⟩ trivial
theorem sat_sameBk : Sat Try.prog 33 sameBkSp := by
  refine sat_nf (C := D1 []) (ssD1 []) (fun x => sameBk_nf x.1 x.2) fun (⟨a, b⟩ : Book × Book) hk hp => ?_
  have hl : a.2.2.1.length ≤ 9223372036854775807 := hk.1.2.2.1.1
  dsimp only
  refine ⟨fun c => is_no fun h => ndt c (by rw [of_decide_eq_true h]), fun c1 => ⟨trivial, fun c => is_no fun h => ndt c (by rw [of_decide_eq_true h]), fun c2 => ⟨fun c => is_no fun h => ndt c (by rw [of_decide_eq_true h]), fun c3 => ⟨fun i => 0 ≤ i ∧ i ≤ a.2.2.1.length ∧ ∀ j : Nat, (j : Int) < i → a.2.2.1.getD j [] = b.2.2.1.getD j [], fun i => ((a.2.2.1.length : Int) - i).toNat, ⟨by omega, by omega, fun j hj => by omega⟩, fun i ⟨h0, h1, h2⟩ => ⟨fun c' => ?_, fun c' => ?_⟩⟩⟩⟩⟩
  · have c := ndf c3
    have c' := dt c'
    exact ⟨⟨h0, c'⟩, ⟨h0, by omega⟩, trivial, fun g => is_no fun h => ndt g (by rw [of_decide_eq_true h]), fun g => ⟨i64_lt h0 c' hl, ⟨by omega, by omega, upd_all h0 h2 (ndf g)⟩, by dsimp only; omega⟩⟩
  · have c := ndf c3
    have c' := df c'
    exact (decide_eq_true (Prod.ext (ndf c1) (Prod.ext (ndf c2) (Prod.ext (listL_ext [] (by omega) fun i hi => h2 i (by omega)) rfl)))).symm
theorem sat_rPart : Sat Try.prog 49 partSp := by
  refine sat_nf (C := D1 []) (ssD1 []) (fun x => rPart_nf x.1 x.2.1 x.2.2) fun (⟨b, k, v⟩ : Book × Int × List Int) hk hp => ?_
  obtain ⟨h0, h1, h2, h3⟩ : 0 ≤ k ∧ k < b.2.1.length ∧ cutB b.2.1 b.1 = true ∧ (v.length : Int) = b.1 := hp
  have c1 := (cut_mono h2 k.toNat (by omega)).1
  obtain ⟨c2, c3⟩ := end_gt h2 (show k.toNat < b.2.1.length by omega)
  have c4 := (cutB_iff.1 h2).2.1.2
  dsimp only
  exact ⟨⟨h0, h1⟩, ⟨h0, by omega⟩, ⟨c1, by omega, by omega⟩, rfl⟩
theorem sat_rChk : Sat Try.prog 13 chkSp := by
  refine sat_nf (C := D1 []) (ssD1 []) rChk_nf fun (b : Book) hk hp => ?_
  refine ⟨trivial, fun c => chk_no fun h => ?_, fun c1 => ⟨fun c => chk_no fun h => ?_, fun c2 => ?_⟩⟩
  · have := nt c; rw [(bookB_iff.1 h).1] at this; cases this
  · have := (bookB_iff.1 h).2.1; exact ndt c (by omega)
  have c1 := nf c1
  have c2 := ndf c2
  have hl8 := (cutB_iff.1 c1).2.1
  have hd := (cutB_iff.1 c1).1
  refine ⟨fun x => 0 ≤ x ∧ x ≤ b.2.1.length ∧ ∀ k : Nat, (k : Int) < x → wordsB b.2.1 b.1 k (b.2.2.1.getD k []) = true, fun x => ((b.2.1.length : Int) - x).toNat, ⟨by omega, by omega, fun j hj => by omega⟩, fun x ⟨h0, h1, h2⟩ => ⟨fun g => ?_, fun g => (chk_yes (bookB_iff.2 ⟨c1, by omega, fun k hk => h2 k (by have := df g; omega)⟩)).symm⟩⟩
  have g := dt g
  refine ⟨⟨h0, by omega⟩, fun q => chk_no fun h => ?_, fun q1 => ⟨⟨h0, by omega⟩, fun q => chk_no fun h => ?_, fun q2 => ?_⟩⟩
  · have := (wordsB_iff.1 ((bookB_iff.1 h).2.2 x.toNat (by omega))).1; have := dt q; omega
  · have := (wordsB_iff.1 ((bookB_iff.1 h).2.2 x.toNat (by omega))).1; have := dt q; omega
  have q1 := df q1
  have q2 := df q2
  have e1 := end_gt c1 (show x.toNat < b.2.1.length by omega)
  have e2 := cut_mono c1 x.toNat (by omega)
  refine ⟨fun y => 0 ≤ y ∧ y ≤ (b.2.2.1.getD x.toNat []).length ∧ ∀ i : Nat, (i : Int) < y → wordB b.2.1 b.1 x.toNat ((b.2.2.1.getD x.toNat []).getD i []) = true, fun y => (((b.2.2.1.getD x.toNat []).length : Int) - y).toNat, ⟨by omega, by omega, fun j hj => by omega⟩, fun y ⟨y0, y1, y2⟩ => ⟨⟨h0, by omega⟩, fun r => ?_, fun r => ?_⟩⟩
  · have r := dt r
    refine ⟨⟨h0, by omega⟩, ⟨y0, r⟩, trivial, fun s => chk_no fun h => ?_, fun s1 => ⟨⟨h0, by omega⟩, ⟨y0, r⟩, ⟨h0, by omega⟩, ⟨h0, g⟩, i64s (by omega) (by omega), fun s => chk_no fun h => ?_, fun s2 => ⟨i64s (by omega) (by omega), ⟨by omega, by omega, upd_all y0 y2 (wordB_iff.2 ⟨nf s1, ndf s2⟩)⟩, by dsimp only; omega⟩⟩⟩
    · have := (wordB_iff.1 ((wordsB_iff.1 ((bookB_iff.1 h).2.2 x.toNat (by omega))).2 y.toNat (by omega))).1
      have s := nt s
      rw [this] at s; cases s
    · exact ndt s (wordB_iff.1 ((wordsB_iff.1 ((bookB_iff.1 h).2.2 x.toNat (by omega))).2 y.toNat (by omega))).2
  · have r := df r
    exact ⟨i64s (by omega) (by omega), ⟨by omega, by omega, upd_all h0 h2 (wordsB_iff.2 ⟨⟨by omega, by omega⟩, fun i hi => y2 i (by omega)⟩)⟩, by dsimp only; omega⟩
theorem code_step {b : Book} (h : bookB b = true) {c : List Int} {x : Int} (h0 : 0 ≤ x) (hc : x < c.length) (hl : c.length = b.2.2.1.length) (h1 : ∀ j : Nat, (j : Int) < x → 0 ≤ c.getD j 0 ∧ c.getD j 0 < (b.2.2.1.getD j []).length) :
    (catN x.toNat fun k => (b.2.2.1.getD k []).getD (c.getD k 0).toNat []).length ≤ 256 := by
  obtain ⟨b1, b2, b3⟩ := bookB_iff.1 h
  have := (cutB_iff.1 b1).2.1.2
  have := cat_len (n := x.toNat) (f := fun k => (b.2.2.1.getD k []).getD (c.getD k 0).toNat []) fun k hk => word_len h (by omega) (by have := h1 k (by omega); omega)
  omega
theorem sat_dec : Sat Try.prog 15 decSp := by
  refine sat_nf (C := D1 []) (ssD1 []) (fun x => dec_nf x.1 x.2) fun (⟨b, c⟩ : Book × List Int) hk hp => ?_
  obtain ⟨hb, hc⟩ : bookB b = true ∧ c.length ≤ 1000 := hp
  obtain ⟨b1, b2, b3⟩ := bookB_iff.1 hb
  dsimp only
  refine ⟨fun e => dec_no fun h => by have := (codeB_iff.1 h).1; exact ndt e (by omega), fun e1 => ?_⟩
  have e1 := ndf e1
  have lcat : ∀ x : Int, 0 ≤ x → x < c.length → (∀ j : Nat, (j : Int) < x → 0 ≤ c.getD j 0 ∧ c.getD j 0 < (b.2.2.1.getD j []).length) → (catN x.toNat fun k => (b.2.2.1.getD k []).getD (c.getD k 0).toNat []).length ≤ 256 := fun x h0 h1 h2 => code_step hb h0 h1 (by omega) h2
  refine ⟨fun x => 0 ≤ x.2 ∧ x.2 ≤ c.length ∧ (x.1 = catN x.2.toNat fun k => (b.2.2.1.getD k []).getD (c.getD k 0).toNat []) ∧ ∀ j : Nat, (j : Int) < x.2 → 0 ≤ c.getD j 0 ∧ c.getD j 0 < (b.2.2.1.getD j []).length, fun x => ((c.length : Int) - x.2).toNat,
    ⟨by simp, by simp, rfl, fun j hj => by dsimp only at hj; omega⟩, fun ⟨o, i⟩ ⟨h0, h1, h2, h3⟩ => ?_⟩
  dsimp only at h0 h1 h2 h3 ⊢
  refine ⟨fun g => ?_, fun g => ?_⟩
  · have g := dt g
    have hlc := lcat i h0 g h3
    rw [← h2] at hlc
    refine ⟨⟨h0, g⟩, fun q => dec_no fun h => ?_, fun q1 => ⟨⟨h0, by omega⟩, fun q => dec_no fun h => ?_, fun q2 => ?_⟩⟩
    · have := (codeB_iff.1 h).2 i.toNat (by omega); have := dt q; omega
    · have := (codeB_iff.1 h).2 i.toNat (by omega); have := dt q; omega
    · have q1 := df q1
      have q2 := df q2
      have hw := word_len hb (k := i.toNat) (by omega) (i := (c.getD i.toNat 0).toNat) (by omega)
      exact ⟨⟨h0, by omega⟩, ⟨by omega, by omega⟩, room8 bytesI8 (by omega), i64s (by omega) (by omega), ⟨by omega, by omega, by rw [succ_toNat h0, catN_succ, ← h2], upd_all h0 h3 ⟨by omega, by omega⟩⟩, by omega⟩
  · have g := df g
    rw [dec_yes (codeB_iff.2 ⟨by omega, fun k hk => h3 k (by omega)⟩), h2, end_toNat h1 g]
    rfl
theorem sat_rDec : Sat Try.prog 16 rDecSp := by
  refine sat_nf (C := D1 []) (ssD1 []) (fun x => rDec_nf x.1 x.2) fun (⟨b, c⟩ : Book × List Int) hk hp => ?_
  obtain ⟨hb, hc⟩ : bookB b = true ∧ c.length ≤ 1000 := hp
  obtain ⟨b1, b2, b3⟩ := bookB_iff.1 hb
  have no : (codeB b c = true → False) → ((([], 1, ()) : List Int × Int × Unit) = ((decodeS b c).fst, (decodeS b c).snd, ())) := fun h => by rw [← dec_no h]
  dsimp only
  refine ⟨fun e => no fun h => by have := (codeB_iff.1 h).1; exact ndt e (by omega), fun e1 => ?_⟩
  have e1 := ndf e1
  have lcat : ∀ x : Int, 0 ≤ x → x < c.length → (∀ j : Nat, (j : Int) < x → 0 ≤ c.getD j 0 ∧ c.getD j 0 < (b.2.2.1.getD j []).length) → (catN x.toNat fun k => (b.2.2.1.getD k []).getD (c.getD k 0).toNat []).length ≤ 256 := fun x h0 h1 h2 => code_step hb h0 h1 (by omega) h2
  refine ⟨fun x => 0 ≤ x.2 ∧ x.2 ≤ c.length ∧ (x.1 = catN x.2.toNat fun k => (b.2.2.1.getD k []).getD (c.getD k 0).toNat []) ∧ ∀ j : Nat, (j : Int) < x.2 → 0 ≤ c.getD j 0 ∧ c.getD j 0 < (b.2.2.1.getD j []).length, fun x => ((c.length : Int) - x.2).toNat,
    ⟨by simp, by simp, rfl, fun j hj => by dsimp only at hj; omega⟩, fun ⟨o, i⟩ ⟨h0, h1, h2, h3⟩ => ?_⟩
  dsimp only at h0 h1 h2 h3 ⊢
  refine ⟨fun g => ?_, fun g => ?_⟩
  · have g := dt g
    have hlc := lcat i h0 g h3
    rw [← h2] at hlc
    refine ⟨⟨h0, g⟩, fun q => no fun h => ?_, fun q1 => ⟨⟨h0, g⟩, ⟨h0, by omega⟩, fun q => no fun h => ?_, fun q2 => ?_⟩⟩
    · have := (codeB_iff.1 h).2 i.toNat (by omega); have := dt q; omega
    · have := (codeB_iff.1 h).2 i.toNat (by omega); have := dt q; omega
    · have q1 := df q1
      have q2 := df q2
      have hw := word_len hb (k := i.toNat) (by omega) (i := (c.getD i.toNat 0).toNat) (by omega)
      exact ⟨⟨h0, by omega⟩, ⟨h0, g⟩, ⟨by omega, by omega⟩, room8 bytesI8 (by omega), i64s (by omega) (by omega), ⟨by omega, by omega, by rw [succ_toNat h0, catN_succ, ← h2], upd_all h0 h3 ⟨by omega, by omega⟩⟩, by omega⟩
  · have g := df g
    rw [dec_yes (codeB_iff.2 ⟨by omega, fun k hk => h3 k (by omega)⟩), h2, end_toNat h1 g]
    unfold standS
    rfl
/-- What a right book's part k is. -/
theorem right_at {b : Book} {m : Int} {v q : List Int} (h : rightB b m v q = true) {k : Nat} (hk : k < b.2.1.length) : cutB b.2.1 b.1 = true ∧ b.2.2.1.length = b.2.1.length ∧ (1 ≤ m ∧ m ≤ 3) ∧ (v.length : Int) = b.1 ∧ (1 ≤ (b.2.2.1.getD k []).length ∧ (b.2.2.1.getD k []).length ≤ 256) ∧
    ∀ i, i < (b.2.2.1.getD k []).length → alikeB ((b.2.2.1.getD k []).getD i []) (partS b.2.1 b.1 k v) = true := by
  obtain ⟨hb, hm, hv, _, hl, _⟩ := rightB_iff.1 h
  obtain ⟨b1, b2, b3⟩ := bookB_iff.1 hb
  exact ⟨b1, b2, hm, hl, book_words hb hk, fun i hi => word_alike hb hv hl hk hi⟩
theorem right_len {b : Book} {m : Int} {v q : List Int} (h : rightB b m v q = true) : b.2.1.length ≤ 8 ∧ b.2.2.1.length = b.2.1.length := by
  obtain ⟨hb, _⟩ := rightB_iff.1 h
  obtain ⟨b1, b2, b3⟩ := bookB_iff.1 hb
  exact ⟨(cutB_iff.1 b1).2.1.2, b2⟩
theorem ssD2 (ps : List LA) : SpecSound (D2 ps) := mkctx_sound ⟨sat_rPart, sat_cut, sat_rCut, sat_end, sat_ofp, sat_near, sat_rows, satD0⟩ trivial
theorem sat_rEnc : Sat Try.prog 19 encSp := by
  refine sat_nf (C := D2 []) (ssD2 []) (fun x => rEnc_nf x.1 x.2.1 x.2.2) fun (⟨b, m, v⟩ : Book × Int × List Int) hk hp => ?_
  have hr : rightB b m v v = true := hp
  obtain ⟨l8, l2⟩ := right_len hr
  dsimp only
  refine ⟨fun x => 0 ≤ x.2 ∧ x.2 ≤ b.2.1.length ∧ x.1 = tab x.2.toNat (fun k => (bestS m (b.2.2.1.getD k []) (partS b.2.1 b.1 k v) : Int)), fun x => ((b.2.1.length : Int) - x.2).toNat, ⟨by simp, by simp, rfl⟩, fun ⟨o, k⟩ ⟨h0, h1, h2⟩ => ?_⟩
  dsimp only at h0 h1 h2 ⊢
  refine ⟨fun g => ?_, fun g => by rw [h2, end_toNat h1 (df g)]; rfl⟩
  have g := dt g
  obtain ⟨r1, r2, r3, r4, r5, r6⟩ := right_at hr (show k.toNat < b.2.1.length by omega)
  have ol : o.length = k.toNat := by rw [h2, tab_length]
  refine ⟨fun y => y.1 = o ∧ 0 ≤ y.2.2 ∧ y.2.2 ≤ (b.2.2.1.getD k.toNat []).length ∧ y.2.1 = (amax y.2.2.toNat (fun i => - keyS m ((b.2.2.1.getD k.toNat []).getD i []) (partS b.2.1 b.1 k.toNat v)) : Int), fun y => (((b.2.2.1.getD k.toNat []).length : Int) - y.2.2).toNat, ⟨rfl, by simp, by simp, rfl⟩, fun ⟨o', bst, i⟩ ⟨i0, i1, i2, i3⟩ => ?_⟩
  dsimp only at i0 i1 i2 i3 ⊢
  subst i0
  have hlt := amax_lt (fun i => - keyS m ((b.2.2.1.getD k.toNat []).getD i []) (partS b.2.1 b.1 k.toNat v)) r5.1 (show i.toNat ≤ (b.2.2.1.getD k.toNat []).length by omega)
  have hbt : bst.toNat = amax i.toNat (fun i => - keyS m ((b.2.2.1.getD k.toNat []).getD i []) (partS b.2.1 b.1 k.toNat v)) := by omega
  refine ⟨⟨h0, by omega⟩, fun q => ?_, fun q => ?_⟩
  · have q := dt q
    obtain ⟨s1, s2, s3⟩ := alike_sm (r6 i.toNat (by omega)) (c := 4000) (by omega)
    obtain ⟨u1, u2, u3⟩ := alike_sm (r6 bst.toNat (by omega)) (c := 4000) (by omega)
    have hs := amax_succ i.toNat (fun i => - keyS m ((b.2.2.1.getD k.toNat []).getD i []) (partS b.2.1 b.1 k.toNat v))
    rw [← succ_toNat i1, ← hbt] at hs
    have hi : isI64 (i + 1) := i64s (by omega) (by omega)
    refine ⟨⟨h0, by omega⟩, ⟨i1, q⟩, ⟨h0, dt g, r1, r4⟩, ⟨r3.1, r3.2, s1, s2, s3⟩, ⟨h0, by omega⟩, ⟨by omega, by omega⟩, ⟨h0, dt g, r1, r4⟩, ⟨r3.1, r3.2, u1, u2, u3⟩, fun r => ⟨hi, ⟨rfl, by omega, by omega, ?_⟩, by omega⟩, fun r => ⟨hi, ⟨rfl, by omega, by omega, ?_⟩, by omega⟩⟩
    · have r := dt r
      rw [hs, if_pos (by omega)]
      omega
    · have r := df r
      rw [hs, if_neg (by omega)]
      omega
  · have q := df q
    rw [end_toNat i2 q] at i3
    exact ⟨room8 bytesI8 (by rw [ol]; simp; omega), i64s (by omega) (by omega), ⟨by omega, by omega, by rw [succ_toNat h0, tab_succ, ← h2, i3]; rfl⟩, by omega⟩
theorem sat_right0 {b : Book} {m : Int} {v q : List Int} : fewBk b = true → rightB b m v q = (fewBk b && rightB b m v q) := fun h => by rw [h]; rfl
theorem ssD3 (ps : List LA) : SpecSound (D3 ps) := mkctx_sound ⟨sat_rEnc, sat_rDec, sat_rChk, sat_few, sat_rPart, sat_cut, sat_rCut, sat_end, sat_ofp, sat_near, sat_rows, satD0⟩ trivial
theorem sat_rRes : Sat Try.prog 21 resSp := by
  refine sat_nf (C := D3 []) (ssD3 []) (fun x => rRes_nf x.1 x.2.1 x.2.2) fun (⟨b, m, v⟩ : Book × Int × List Int) hk hp => ?_
  have hr : rightB b m v v = true := hp
  obtain ⟨hb, hm, hv, _, hl, _⟩ := rightB_iff.1 hr
  obtain ⟨l8, l2⟩ := right_len hr
  obtain ⟨e1, e2, e3⟩ := encode_code hb m v
  obtain ⟨s1, s2, s3⟩ := stand_ok hb e1
  obtain ⟨v1, v2, v3⟩ := alike_sm (a := v) (b := standS b (encodeS b m v)) (alike_iff.2 ⟨hv, s1, by omega⟩) (c := 4000) (by omega)
  dsimp only
  rw [dec_yes e1]
  exact ⟨hr, ⟨hb, by omega⟩, ⟨hm.1, hm.2, v1, v2, v3⟩, resid_key hb hm hl⟩
theorem sat_right : Sat Try.prog 14 rightSp := by
  refine sat_nf (C := D3 []) (ssD3 []) (fun x => right_nf x.1 x.2.1 x.2.2.1 x.2.2.2) fun (⟨b, m, v, q⟩ : Book × Int × List Int × List Int) hk hp => ?_
  dsimp only
  have no : (fewBk b = true → rightB b m v q = true → False) → false = (fewBk b && rightB b m v q) := fun h => is_no fun e => by
    simp only [Bool.and_eq_true] at e
    exact h e.1 e.2
  refine ⟨trivial, fun e => no fun h _ => ?_, fun e1 => ⟨trivial, fun e => no fun _ h => ?_, fun e2 => ⟨trivial, fun e => no fun _ h => ?_, fun e3 => ⟨trivial, trivial, fun e4 => ⟨fun e5 => ⟨fun e6 => ?_, fun e6 => no fun _ h => ?_⟩, fun e5 => no fun _ h => ?_⟩, fun e4 => no fun _ h => ?_⟩⟩⟩⟩
  · have := nt e; rw [h] at this; cases this
  · exact ndt e (chk_yes (rightB_iff.1 h).1)
  · have := (rightB_iff.1 h).2.1
    have e := nt e
    simp only [Bool.and_eq_false_iff, decide_eq_false_iff_not] at e
    omega
  · have hb : bookB b = true := by
      have e2 := ndf e2
      unfold checkS at e2
      split at e2
      · assumption
      · cases e2
    have e3 := nf e3
    simp only [Bool.and_eq_true, decide_eq_true_eq] at e3
    rw [nf e1, Bool.true_and]
    exact dec_is ⟨fun h => rightB_iff.2 ⟨hb, e3, e4, e5, dt e6, h⟩, fun h => (rightB_iff.1 h).2.2.2.2.2⟩
  · exact df e6 (rightB_iff.1 h).2.2.2.2.1
  · rw [(rightB_iff.1 h).2.2.2.1] at e5; cases e5
  · rw [(rightB_iff.1 h).2.2.1] at e4; cases e4
end Go.Proofs.Ytjppchomonpfgaa
