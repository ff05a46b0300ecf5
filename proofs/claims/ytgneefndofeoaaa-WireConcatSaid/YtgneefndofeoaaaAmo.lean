import Derived.Test.YtgneefndofeoaaaAmn
namespace Go.AM
set_option linter.unusedVariables false
open Go.RowKit

variable {B : Nat} {w0 : World} {C : Ctx} {Ψ Ψ0 : Pr} {β : List Value} {h : List Blk} {w w' : World} {fr : List AV} {a a0 : Act} {As : List Act} {W : List Nat}

/-- What holds at the head of a loop, whatever varies. -/
structure HeadR (s0 : St) (ks ws : List Nat) (Ψ : Pr) (β : List Value) (a : Act) (As : List Act) : Prop where
  len : β.length = s0.heap.length
  fr : RelF Ψ β (forget ks ws 0 s0.top :: noSlpF ks s0.below) (a :: As)

theorem stillA_spec {s0 s : St} (hsl : ∀ i j, fget s0.top i = .sl j → j < s0.heap.length) : ∀ {as : List LA}, stillA s0 s as = true → ∀ la ∈ as, LaOk s0 s s0.heap.length la
  | [], _, la, hm => by simp at hm
  | la0 :: as, h, la, hm => by
    unfold stillA at h
    simp only [Bool.and_eq_true] at h
    rcases List.mem_cons.1 hm with rfl | hm
    · have h1 := h.1
      cases la with
      | slot _ _ => trivial
      | cell _ _ _ => trivial
      | gslot i tid e =>
        simp only at h1
        split at h1
        · rename_i j k hj hk
          simp only [Nat.beq_eq] at h1
          subst h1
          refine ⟨j, hj, hk, ?_⟩
          simp only [laSl] at hj
          split at hj
          · rename_i k' hk'
            simp at hj
            subst hj
            exact hsl i _ hk'
          · cases hj
        · cases h1
    · exact stillA_spec hsl h.2 la hm

theorem RelF_cons {f : List AV} {fs : List (List AV)} (h1 : RelFr Ψ β f a) (h2 : RelF Ψ β fs As) : RelF Ψ β (f :: fs) (a :: As) := ⟨a, As, rfl, h1, h2⟩

theorem below_of {fs : List (List AV)} (hf : RelF Ψ β (fr :: fs) (a :: As)) : RelF Ψ β fs As := by
  obtain ⟨a1, as', e, h1, h3⟩ := hf
  simp only [List.cons.injEq] at e
  obtain ⟨rfl, rfl⟩ := e
  exact h3

theorem fits_sound {s0 s : St} {ws : List Nat} {as : List LA} {Ψh : Pr} {βh : List Value} {ah : Act} {x : dens (laTys as)} (hh : HeadR s0 (laKs s0 as) ws Ψh βh ah As) (hsl : ∀ i j, fget s0.top i = .sl j → j < s0.heap.length) (hle : PLe Ψh Ψ)
    (hi : InvH B w0 Ψ β s.heap w) (hf : RelF Ψ β (s.top :: s.below) (a :: As)) (hS : Same ws ah a) (hfit : fits as ws s0 s = true) (hx : getLAs s as = some x) :
    ∃ β', InvH B w0 Ψ β' (tmpl s0 ws as x).heap w ∧ RelF Ψ β' ((tmpl s0 ws as x).top :: (tmpl s0 ws as x).below) (a :: As) ∧ HeadR s0 (laKs s0 as) ws Ψ β' a As := by
  unfold fits at hfit
  simp only [Bool.and_eq_true, Nat.ble_eq, hlen_eq] at hfit
  obtain ⟨⟨⟨⟨hT, hF⟩, hA⟩, hB⟩, hn⟩ := hfit
  have hn' : s0.heap.length ≤ β.length := by rw [hi.len]; exact hn
  have hbb : ∀ (k : Nat) (v u : Value), βh[k]? = some u → β[k]? = some v → (β.take s0.heap.length)[k]? = some v := by
    intro k v u hu hv
    have hk : k < s0.heap.length := by
      rw [← hh.len]
      rcases Nat.lt_or_ge k βh.length with h' | h'
      · exact h'
      · rw [List.getElem?_eq_none h'] at hu; cases hu
    rw [take_get hk]
    exact hv
  have hfr1 := frame_of (s := { top := forget (laKs s0 as) ws 0 s0.top, below := noSlpF (laKs s0 as) s0.below, heap := [] }) hh.fr
  have hfr2 := frame_of hf
  have hF2 : RelF Ψ (β.take s0.heap.length) (forget (laKs s0 as) ws 0 s0.top :: noSlpF (laKs s0 as) s0.below) (a :: As) := by
    refine RelF_cons ⟨hfr2.1, ?_⟩ (stillF_rel hle hbb _ _ _ (below_of hh.fr) (below_of hf) hF)
    refine stillT_rel (Ψ := Ψh) (β := βh) hle hbb s0.top s.top 0 _ _ hfr1.2 hfr2.2 (by simpa using hS.1.symm) (fun j hj hm => ?_) hT
    have := hS.2 j (by simpa using hm)
    simpa using this.symm
  have hG : Good B Ψ β (β.take s0.heap.length) s { top := forget (laKs s0 as) ws 0 s0.top, below := noSlpF (laKs s0 as) s0.below, heap := havocH (laBlocks as) 0 s0.heap } s0.heap.length a As w := by
    refine ⟨havocH_len, hF2, fun k b hb => ?_⟩
    rcases havocH_get hb with rfl | ⟨cs, h1, rfl, h3⟩
    · exact ⟨trivial, fun g hc => hc.elim⟩
    · rw [Nat.zero_add] at h3
      obtain ⟨x, y, hx1, hy, hxy⟩ := stillB_spec hB k h3
      have hx2 := hget_some hx1 (by simp)
      rw [h1] at hx2
      simp only [Option.some.injEq, Blk.cells.injEq] at hx2
      subst hx2
      have hkn : k < s0.heap.length := hget_lt h1
      have hsy := hget_some hy (by simp)
      obtain ⟨g, c, e, g1, g2, g3, g4, g5⟩ := hi.blk k _ hsy
      refine ⟨⟨g, c, e, by rw [take_get hkn]; exact g1, g2, g3, junks_rel ?_, g5⟩, fun g' hc => ⟨_, hsy, ?_⟩⟩
      · rw [RelL_len _ _ g4, hxy]
      · have hc : (β.take s0.heap.length)[k]? = _ := hc
        rw [take_get hkn] at hc
        exact hc
  have hG2 := setLAs_good hi hf hn as hx (stillA_spec hsl hA) hG
  refine ⟨β.take s0.heap.length, ?_, hG2.fr, ⟨by simp; omega, hF2⟩⟩
  refine hi.weaken ?_ ?_ ?_
  · have := hG2.len
    unfold tmpl
    rw [this]
    simp
    omega
  · intro k v hk
    rw [List.getElem?_take] at hk
    split at hk
    · exact hk
    · cases hk
  · exact hG2.blk

/-- What stands behind a code, for each way out. -/
def QOf (B : Nat) (w0 : World) (Ψ0 : Pr) (As : List Act) (W : List Nat) (a0 : Act) (k : Ex → St → Prop) : Exit → Act → World → Prop
  | .normal, a, w => PostC B w0 Ψ0 As W a0 (k .normal) a w
  | .exit i, a, w => PostC B w0 Ψ0 As W a0 (k (.exit i)) a w
  | .ret, a, w => PostC B w0 Ψ0 As W a0 (k .ret) a w
  | _, _, _ => False

theorem dstsOps_mem : ∀ {l : List Oper} {o : Oper} {t : Tmp}, o ∈ l → o.dst = some t → t ∈ dstsOps l
  | [], _, _, h, _ => by simp at h
  | o' :: l, o, t, h, ht => by
    unfold dstsOps
    rcases List.mem_cons.1 h with rfl | h
    · rw [ht]; simp
    · have := dstsOps_mem h ht
      split
      · exact List.mem_cons_of_mem _ this
      · exact this

theorem Same.mono {ws : List Nat} (h : Same ws a0 a) (hw : ∀ t ∈ ws, t ∈ W) : Same W a0 a := ⟨h.1, fun i hi => h.2 i fun hm => hi (hw i hm)⟩

theorem eval_tmp {t : Tmp} {b : Bool} (h : a.eval (.tmp t) = .bool b) : a.tmps[t]? = some (.bool b) := by
  have h : a.tmps.getD t undef = .bool b := h
  rw [Array.getD_eq_getD_getElem?] at h
  cases hx : a.tmps[t]? with
  | none => rw [hx] at h; simp [undef] at h
  | some x => rw [hx] at h; simp at h; rw [h]

theorem setTmp_rel {s : St} {c : Operand} {b : Bool} (hf : RelF Ψ β (s.top :: s.below) (a :: As)) (hc : a.eval c = .bool b) {av : AV} (hv : RelV Ψ β av (.bool b)) :
    RelF Ψ β ((setTmp c av s).top :: (setTmp c av s).below) (a :: As) ∧ (setTmp c av s).heap = s.heap := by
  cases c with
  | tmp t => exact ⟨put_some_rel hf (eval_tmp hc) hv, rfl⟩
  | const v => exact ⟨hf, rfl⟩
  | global g => exact ⟨hf, rfl⟩
  | func f => exact ⟨hf, rfl⟩

theorem awp_sound (hsp : SpecSound C) {call : CallT} (hc : CallSound C call) (loops : Hint) : ∀ (c : Code) {k : Ex → St → Prop} {s : St} {Ψ0 Ψ : Pr} {β : List Value} {a0 a : Act} {w : World} {W : List Nat}, awp C call loops c k s →
    Ext B Ψ0 Ψ → InvH B w0 Ψ β s.heap w → RelF Ψ β (s.top :: s.below) (a :: As) → Same W a0 a → (∀ t ∈ dsts c, t ∈ W) → c.wp C.P (QOf B w0 Ψ0 As W a0 k) a w
  | .skip, k, s, Ψ0, Ψ, β, a0, a, w, W, hk, hE, hi, hf, hS, hW => wp_skip ⟨Ψ, β, s, hE, hi, hf, hS, by simpa [awp] using hk⟩
  | .label _, k, s, Ψ0, Ψ, β, a0, a, w, W, hk, hE, hi, hf, hS, hW => wp_label ⟨Ψ, β, s, hE, hi, hf, hS, by simpa [awp] using hk⟩
  | .exit id, k, s, Ψ0, Ψ, β, a0, a, w, W, hk, hE, hi, hf, hS, hW => wp_exit ⟨Ψ, β, s, hE, hi, hf, hS, by simpa [awp] using hk⟩
  | .ret, k, s, Ψ0, Ψ, β, a0, a, w, W, hk, hE, hi, hf, hS, hW => wp_ret ⟨Ψ, β, s, hE, hi, hf, hS, by simpa [awp] using hk⟩
  | .region id ops draw, k, s, Ψ0, Ψ, β, a0, a, w, W, hk, hE, hi, hf, hS, hW => by
    have hWo : ∀ o ∈ ops.toList, ∀ t, o.dst = some t → t ∈ W := fun o ho t ht => hW t (dstsOps_mem ho ht)
    cases draw with
    | true =>
      simp only [awp, if_true] at hk
      exact adraw_sound hsp hc hk hE hi hf hS hWo fun _ _ hp => hp
    | false =>
      simp only [awp, Bool.false_eq_true, if_false] at hk
      exact wp_region_list (aops_sound hc ops ops.toList hk hE hi hf hS hWo fun _ _ hp => hp)
  | .seq x y, k, s, Ψ0, Ψ, β, a0, a, w, W, hk, hE, hi, hf, hS, hW => by
    simp only [awp] at hk
    refine wp_seq (Code.wp_mono ?_ (awp_sound hsp hc loops x hk hE hi hf hS fun t ht => hW t (by simp [dsts, ht])))
    intro e a' w' hq
    cases e with
    | normal =>
      obtain ⟨Ψ', β', s', hE', hi', hf', hS', hk'⟩ := hq
      exact awp_sound hsp hc loops y hk' hE' hi' hf' hS' fun t ht => hW t (by simp [dsts, ht])
    | exit _ => exact hq
    | ret => exact hq
    | goto _ => exact hq
    | panic _ => exact hq
    | outgrown => exact hq
  | .cond c x y, k, s, Ψ0, Ψ, β, a0, a, w, W, hk, hE, hi, hf, hS, hW => by
    have hx := fun {s'} hk (hf' : RelF Ψ β (s'.top :: s'.below) (a :: As)) (hh : s'.heap = s.heap) => awp_sound hsp hc loops x (k := k) (s := s') hk hE (hh ▸ hi) hf' hS fun t ht => hW t (by simp [dsts, ht])
    have hy := fun {s'} hk (hf' : RelF Ψ β (s'.top :: s'.below) (a :: As)) (hh : s'.heap = s.heap) => awp_sound hsp hc loops y (k := k) (s := s') hk hE (hh ▸ hi) hf' hS fun t ht => hW t (by simp [dsts, ht])
    have hev := ev_rel (frame_of hf) c
    simp only [awp] at hk
    split at hk
    · rename_i he
      rw [he] at hev
      exact wp_cond_true hev (hx hk hf rfl)
    · rename_i he
      rw [he] at hev
      exact wp_cond_false hev (hy hk hf rfl)
    · rename_i b he
      rw [he] at hev
      have hev : a.eval c = .bool b := by
        obtain ⟨cs, h1, h2⟩ := hev
        simp only [reads] at h1
        subst h1
        simp [Ty.isAgg] at h2
        exact h2.symm
      cases b with
      | true =>
        obtain ⟨h1, h2⟩ := setTmp_rel hf hev (av := .tt) rfl
        exact wp_cond_true hev (hx ((splitB_sound hk).1 rfl) h1 h2)
      | false =>
        obtain ⟨h1, h2⟩ := setTmp_rel hf hev (av := .ff) rfl
        exact wp_cond_false hev (hy ((splitB_sound hk).2 rfl) h1 h2)
    · exact hk.elim
  | .block id c, k, s, Ψ0, Ψ, β, a0, a, w, W, hk, hE, hi, hf, hS, hW => by
    simp only [awp] at hk
    refine wp_block (Code.wp_mono ?_ (awp_sound hsp hc loops c hk hE hi hf hS fun t ht => hW t (by simpa [dsts] using ht)))
    intro e a' w' hq
    cases e with
    | exit i =>
      obtain ⟨Ψ', β', s', hE', hi', hf', hS', hk'⟩ := hq
      simp only at hk'
      simp only [Exit.inBlock]
      split at hk'
      · rename_i hid
        rw [if_pos (by simpa [Nat.beq_eq] using hid)]
        exact ⟨Ψ', β', s', hE', hi', hf', hS', hk'⟩
      · rename_i hid
        rw [if_neg (by simpa [Nat.beq_eq] using hid)]
        exact ⟨Ψ', β', s', hE', hi', hf', hS', hk'⟩
    | normal => exact hq
    | ret => exact hq
    | goto _ => exact hq
    | panic _ => exact hq
    | outgrown => exact hq
  | .scope c, k, s, Ψ0, Ψ, β, a0, a, w, W, hk, hE, hi, hf, hS, hW => by
    simp only [awp] at hk
    refine wp_scope_straight (Code.wp_mono ?_ (awp_sound hsp hc loops c hk hE hi hf hS fun t ht => hW t (by simpa [dsts] using ht)))
    intro e a' w' hq
    cases e <;> exact hq
  | .loop body, k, s, Ψ0, Ψ, β, a0, a, w, W, hk, hE, hi, hf, hS, hW => by
    simp only [awp] at hk
    split at hk
    · rename_i r hr
      split at hk
      case h_2 n =>
        refine wp_loop_ghost (τ := Nat) (fun n a w => ∃ Ψ β s, Ext B Ψ0 Ψ ∧ InvH B w0 Ψ β s.heap w ∧ RelF Ψ β (s.top :: s.below) (a :: As) ∧ Same W a0 a ∧ aunroll (awp C call loops body) k n s) id _ ⟨Ψ, β, s, hE, hi, hf, hS, hk⟩ ?_
        rintro n ah wh ⟨Ψh, βh, sh, hEh, hih, hfh, hSh, hkh⟩
        cases n with
        | zero => exact hkh.elim
        | succ n =>
          refine Code.wp_mono ?_ (awp_sound hsp hc loops body hkh hEh hih hfh hSh fun t ht => hW t (by simpa [dsts] using ht))
          intro e a' w' hq
          cases e with
          | normal =>
            obtain ⟨Ψ', β', s', hE', hi', hf', hS', hk'⟩ := hq
            exact ⟨n, ⟨Ψ', β', s', hE', hi', hf', hS', hk'⟩, Nat.lt_succ_self n⟩
          | exit _ => exact hq
          | ret => exact hq
          | goto _ => exact hq
          | panic _ => exact hq
          | outgrown => exact hq
      generalize has : loops.las r = as at hk
      unfold aloop at hk
      split at hk
      · exact hk.elim
      · rename_i x0 hx0
        split at hk
        · rename_i hfit
          obtain ⟨I, μ, hI0, hround⟩ := hk
          obtain ⟨β1, hi1, hf1⟩ := prepLAs_sound as hi hf
          generalize hs0 : prepLAs s as = s0 at *
          have hsl : ∀ i j, fget s0.top i = .sl j → j < s0.heap.length := by
            intro i j hij
            have h1 := RelL_get _ _ (frame_of hf1).2 i
            rw [hij] at h1
            rw [← hi1.len]
            rcases Nat.lt_or_ge j β1.length with h' | h'
            · exact h'
            · have h1 : β1[j]? = _ := h1
              rw [List.getElem?_eq_none h'] at h1; cases h1
          have hh0 : HeadR s0 (laKs s0 as) (dsts body) Ψ β1 a As := ⟨hi1.len, RelF_cons ⟨(frame_of hf1).1, forget_rel (frame_of hf1).2⟩ (noSlpF_rel (below_of hf1))⟩
          obtain ⟨β2, hi2, hf2, hh2⟩ := fits_sound hh0 hsl (PLe.refl _) hi1 hf1 (Same.refl _ _) hfit hx0
          refine wp_loop_ghost (τ := dens (laTys as)) (fun x a w => I x ∧ ∃ Ψ β, Ext B Ψ0 Ψ ∧ InvH B w0 Ψ β (tmpl s0 (dsts body) as x).heap w ∧ RelF Ψ β ((tmpl s0 (dsts body) as x).top :: (tmpl s0 (dsts body) as x).below) (a :: As) ∧ HeadR s0 (laKs s0 as) (dsts body) Ψ β a As ∧ Same W a0 a) μ x0
            ⟨hI0, Ψ, β2, hE, hi2, hf2, hh2, hS⟩ ?_
          rintro x ah wh ⟨hI, Ψh, βh, hEh, hih, hfh, hhh, hSh⟩
          refine Code.wp_mono ?_ (awp_sound hsp hc loops body (hround x hI) (Ext.refl B Ψh) hih hfh (Same.refl (dsts body) ah) fun t ht => ht)
          have hWb : ∀ t ∈ dsts body, t ∈ W := fun t ht => hW t (by simpa [dsts] using ht)
          intro e a' w' hq
          cases e with
          | normal =>
            obtain ⟨Ψ', β', s', hE', hi', hf', hS', hk'⟩ := hq
            simp only at hk'
            split at hk'
            · rename_i x' hx'
              split at hk'
              · rename_i hfit'
                obtain ⟨hI', hμ⟩ := hk'
                obtain ⟨β3, hi3, hf3, hh3⟩ := fits_sound hhh hsl hE'.1 hi' hf' hS' hfit' hx'
                exact ⟨x', ⟨hI', Ψ', β3, hEh.trans hE', hi3, hf3, hh3, hSh.trans (hS'.mono hWb)⟩, hμ⟩
              · exact hk'.elim
            · exact hk'.elim
          | exit _ =>
            obtain ⟨Ψ', β', s', hE', hi', hf', hS', hk'⟩ := hq
            exact ⟨Ψ', β', s', hEh.trans hE', hi', hf', hSh.trans (hS'.mono hWb), hk'⟩
          | ret =>
            obtain ⟨Ψ', β', s', hE', hi', hf', hS', hk'⟩ := hq
            exact ⟨Ψ', β', s', hEh.trans hE', hi', hf', hSh.trans (hS'.mono hWb), hk'⟩
          | goto _ => exact hq
          | panic _ => exact hq
          | outgrown => exact hq
        · exact hk.elim
    · exact hk.elim
  | .goto _, k, s, Ψ0, Ψ, β, a0, a, w, W, hk, hE, hi, hf, hS, hW => by simp [awp] at hk

end Go.AM
