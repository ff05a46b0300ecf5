import Derived.Test.YtgneefndofeoaaaAmd
namespace Go.AM
set_option linter.unusedVariables false
open Go.RowKit

variable {B : Nat} {w0 : World} {C : Ctx} {Ψ : Pr} {β : List Value} {h : List Blk} {w : World} {fr : List AV} {a : Act}

theorem lay_spec {t : TypeId} {ag : Bool} {n : Nat} (hl : C.lay t = some (ag, n)) : C.size t = some n ∧ (∀ w, (isAgg t).run C.P w = .ok ag w) ∧ (ag = false → n = 1) := by
  unfold Ctx.lay at hl
  split at hl
  · cases hl
  · rename_i i hi
    have hs : C.size t = some i.size := by simp [Ctx.size, hi]
    split at hl
    · rename_i hu
      simp at hl
      obtain ⟨rfl, rfl⟩ := hl
      exact ⟨hs, fun w => by simp [isAgg, run_underlying hu], by simp⟩
    · rename_i hu
      simp at hl
      obtain ⟨rfl, rfl⟩ := hl
      exact ⟨hs, fun w => by simp [isAgg, run_underlying hu], by simp⟩
    · rename_i d h1 h2 hu
      split at hl
      · rename_i hsz
        simp at hl
        obtain ⟨rfl, rfl⟩ := hl
        have hsz' : i.size = 1 := by simpa [Nat.beq_eq] using hsz
        refine ⟨by rw [hs, hsz'], fun w => ?_, fun _ => rfl⟩
        cases d <;> simp [isAgg, run_underlying hu] <;> first | exact absurd rfl (h1 _) | exact absurd rfl (h2 _ _)
      · cases hl
    · cases hl

/-- The value of some cells. -/
def valOf (ag : Bool) (us : List Value) : Value := if ag then .agg us.toArray else us.getD 0 undef

theorem run_loadVar_cells {t : TypeId} {ag : Bool} {n g off : Nat} {us : List Value} (hl : C.lay t = some (ag, n)) (hn : us.length = n)
    (hc : ∀ j u, us[j]? = some u → w.cell? ⟨g, off + j, none⟩ = some u) : (loadVar t ⟨g, off, none⟩).run C.P w = .ok (valOf ag us) w := by
  obtain ⟨hs, ha, h1⟩ := lay_spec hl
  cases ag with
  | true =>
    have hlc : (loadCells ⟨g, off, none⟩ n).run C.P w = .ok us.toArray w := by
      rw [← hn]
      exact run_loadCells_list w _ us (fun j u hj => by rw [Addr.add_lit]; exact hc j u hj)
    simp [loadVar, ha, run_sizeOf hs, hlc, valOf]
  | false =>
    have := h1 rfl
    subst this
    match us, hn with
    | [u], _ =>
      have h0 := hc 0 u rfl
      simp [loadVar, ha, valOf]
      rw [Nat.add_zero] at h0
      simp [h0]

theorem run_loadAt {t : TypeId} {ad : Addr} : (Instr.loadAt t (.pointer (some ad))).run C.P w = (loadVar t ad).run C.P w := by
  simp [Instr.loadAt, Instr.sureAddr]

theorem loadOwn_ok {t : TypeId} {cs : List AV} {off : Nat} {av : AV} {vs : List Value} (hl : loadOwn C t cs off = some av) (hr : RelL Ψ β cs vs) (h1 : ∀ u ∈ vs, u.oneCell' = true) :
    ∃ ag n, C.lay t = some (ag, n) ∧ off + n ≤ vs.length ∧ RelV Ψ β av (valOf ag ((vs.drop off).take n)) := by
  unfold loadOwn at hl
  split at hl
  · rename_i sz hlay
    split at hl
    · rename_i hle
      simp at hl
      subst hl
      have hle' : off + sz ≤ vs.length := by rw [RelL_len _ _ hr, ← listLen_eq]; simpa [Nat.ble_eq] using hle
      refine ⟨true, sz, hlay, hle', ⟨(vs.drop off).take sz, rfl, ?_, fun u hu => h1 u (List.mem_of_mem_drop (List.mem_of_mem_take hu))⟩⟩
      rw [takeN_eq, dropN_eq]
      exact RelL_take _ _ _ (RelL_drop _ _ _ hr)
    · cases hl
  · rename_i sz hlay
    split at hl
    · rename_i hle
      simp at hl
      subst hl
      have := (lay_spec hlay).2.2 rfl
      subst this
      have hle' : off + 1 ≤ vs.length := by rw [RelL_len _ _ hr, ← listLen_eq]; simpa [Nat.ble_eq] using hle
      refine ⟨false, 1, hlay, hle', ?_⟩
      have := RelL_get _ _ hr off
      have e : valOf false ((vs.drop off).take 1) = vs.getD off undef := by
        simp [valOf, List.getD_eq_getElem?_getD, List.getElem?_drop]
      rw [e]
      exact this
    · cases hl
  · cases hl

theorem valOf_rv {t : Ty} {x : t.den} {us : List Value} (hr : reads Ψ t x us) {ag : Bool} (ha : ag = t.isAgg) (h1 : ag = false → us.length = 1) : RelV Ψ β (.d t x) (valOf ag us) := by
  refine ⟨us, hr, ?_⟩
  subst ha
  cases hb : t.isAgg with
  | true => simp [valOf]
  | false =>
    have := h1 hb
    match us, this with
    | [u], _ => simp [valOf]

theorem own_blk {k : Nat} {cs : List AV} (hi : InvH B w0 Ψ β h w) (hg : hget h k = .cells cs) {off : Nat} {v : Value} (hv : RelV Ψ β (.own k off) v) :
    ∃ g c e, β[k]? = some (.pointer (some ⟨g, 0, none⟩)) ∧ v = .pointer (some ⟨g, off, none⟩) ∧ w.heap[g]? = some (.cells c e (0, 0)) ∧ B ≤ g ∧ RelL Ψ β cs c.toList ∧ (∀ u ∈ c.toList, u.oneCell' = true) := by
  obtain ⟨g, hβ, rfl⟩ := hv
  obtain ⟨g', c, e, h1, h2, h3, h4, h5⟩ := hi.blk k _ (hget_some hg (by simp))
  rw [hβ] at h1
  simp at h1
  subst h1
  exact ⟨g, c, e, hβ, rfl, h2, h3, h4, h5⟩

theorem cell_of_heap {g : Nat} {c : Array Value} {e : TypeId} {fz : Nat × Nat} (hh : w.heap[g]? = some (.cells c e fz)) (i : Nat) : w.cell? ⟨g, i, none⟩ = c[i]? := by
  simp [World.cell?, hh]

theorem slp_cells {k sz : Nat} {i : Int} {tid : TypeId} {e : Ty} {xs : List e.den} {v : Value} (hi : InvH B w0 Ψ β h w) (hg : hget h k = .grow tid e xs) (hv : RelV Ψ β (.slp k sz i) v) (hsz : sz = e.cells) :
    ∃ g c cur, β[k]? = some (.slice (some ⟨g, 0, none⟩) xs.length c) ∧ v = .pointer (some ⟨g, i.toNat * sz, none⟩) ∧ 0 ≤ i ∧ i.toNat < xs.length ∧ w.heap[g]? = some (.cells cur tid (0, 0)) ∧
      xs.length ≤ c ∧ c ≤ maxLen ∧ c ≠ 0 ∧ B ≤ g ∧ cur.size = c * e.cells ∧ rdL (reads Ψ e) xs (cur.toList.take (xs.length * e.cells)) := by
  subst hsz
  obtain ⟨g, n, c, hβ, h0, h1, rfl⟩ := hv
  rcases hi.blk k _ (hget_some hg (by simp)) with ⟨ad, hβ', _⟩ | ⟨g', cap, cur, hβ', hz, hB, hh, hn, hcm, hcs, hd⟩
  · rw [hβ] at hβ'
    simp at hβ'
    omega
  · rw [hβ] at hβ'
    simp at hβ'
    obtain ⟨rfl, rfl, rfl⟩ := hβ'
    exact ⟨g, c, cur, hβ, rfl, h0, by omega, hh, hn, hcm, hz, hB, hcs, hd⟩

theorem load_ok {t : TypeId} {av : AV} {v : Value} {r : Out} (hi : InvH B w0 Ψ β h w) (hx : RelV Ψ β av v) (hr : aload C h t av = some r) :
    r.heap = h ∧ r.kill = none ∧ r.need = none ∧ NOk C Ψ β w (Instr.loadAt t v) r.v := by
  unfold aload at hr
  split at hr
  · -- own
    rename_i k off
    split at hr
    · rename_i cs hg
      split at hr
      · rename_i av' hl
        have := ok0_inv hr; subst this
        obtain ⟨g, c, e, hβ, rfl, hh, hB, hrel, h1⟩ := own_blk hi hg hx
        obtain ⟨ag, n, hlay, hle, hrv⟩ := loadOwn_ok hl hrel h1
        refine ⟨rfl, rfl, rfl, NOk.of_run ?_ hrv⟩
        rw [run_loadAt]
        refine run_loadVar_cells hlay (by simp; simp at hle; omega) (fun j u hj => ?_)
        rw [cell_of_heap hh]
        have := sub_of_drop_take hj
        simpa using this
      · cases hr
    · cases hr
  · -- an element of an own slice
    rename_i k sz i
    split at hr
    · rename_i tid e xs hg
      split at hr
      · rename_i ag n hlay
        split at hr
        · rename_i hc
          simp only [Bool.and_eq_true, Nat.beq_eq, beq_iff_eq] at hc
          obtain ⟨⟨hn, hsz⟩, hag⟩ := hc
          have := ok0_inv hr; subst this
          obtain ⟨g, c, cur, hβ, rfl, h0, hlt, hh, _, _, _, _, _, hd⟩ := slp_cells hi hg hx (by omega)
          obtain ⟨us, hus, hget⟩ := rdL_get (reads_len e) _ _ hd i.toNat xs[i.toNat] (List.getElem?_eq_getElem hlt)
          have hD : xs.getD i.toNat (dflt e) = xs[i.toNat] := by simp [List.getD_eq_getElem?_getD, List.getElem?_eq_getElem hlt]
          refine ⟨rfl, rfl, rfl, NOk.of_run ?_ (by rw [hD]; exact valOf_rv hus hag (fun hf => by rw [reads_len e _ _ hus]; have := (lay_spec hlay).2.2 hf; omega))⟩
          rw [run_loadAt]
          refine run_loadVar_cells hlay (by rw [reads_len e _ _ hus]; omega) (fun j u hj => ?_)
          rw [cell_of_heap hh]
          have := hget j u hj
          rw [List.getElem?_take] at this
          split at this
          · rw [show i.toNat * sz = i.toNat * e.cells by rw [← hsz, hn]]
            simpa using this
          · cases this
        · cases hr
      · cases hr
    · cases hr
  · -- read-only memory
    rename_i u x
    split at hr
    · rename_i ag n hlay
      split at hr
      · rename_i hc
        simp only [Bool.and_eq_true, Nat.beq_eq, beq_iff_eq] at hc
        obtain ⟨hn, hag⟩ := hc
        have := ok0_inv hr; subst this
        obtain ⟨g, off, us, rfl, hus, hp⟩ := hx
        refine ⟨rfl, rfl, rfl, NOk.of_run ?_ (valOf_rv hus hag (fun hf => by rw [reads_len u _ _ hus]; have := (lay_spec hlay).2.2 hf; omega))⟩
        rw [run_loadAt]
        exact run_loadVar_cells hlay (by rw [reads_len u _ _ hus]; omega) (fun j u' hj => (hi.prom _ _ (hp j u' hj)).2)
      · cases hr
    · cases hr
  · cases hr

/-! ### As data -/
theorem cast?_spec {t u : Ty} {x : t.den} {y : u.den} (hc : cast? t u x = some y) : ∃ e : t = u, y = e ▸ x := by
  unfold cast? at hc
  split at hc
  · rename_i e _
    exact ⟨e, by simpa using hc.symm⟩
  · cases hc

/-- What own slices read as, under some promises. -/
def Reading (Ψ' : Pr) (β : List Value) (h : List Blk) (ks : List Nat) : Prop :=
  ∀ k ∈ ks, ∀ (tid : TypeId) (e : Ty) (xs : List e.den), hget h k = .grow tid e xs → ∀ u : Value, β[k]? = some u → rv Ψ' (.arr e) xs u

theorem rv_mono {Ψ Ψ' : Pr} (hle : PLe Ψ Ψ') {t : Ty} {x : t.den} {v : Value} : rv Ψ t x v → rv Ψ' t x v
  | ⟨cs, hc, e⟩ => ⟨cs, reads_mono hle t x cs hc, e⟩

theorem asD1_rv {Ψ' : Pr} (hle : PLe Ψ Ψ') {t : Ty} {x : t.den} {av : AV} {v : Value} (hd : asD1 h t av = some x) (hr : RelV Ψ β av v) (hk : Reading Ψ' β h (refs1 av)) : rv Ψ' t x v := by
  unfold asD1 at hd
  split at hd
  · obtain ⟨rfl, rfl⟩ := cast?_spec hd
    exact rv_mono hle hr
  · split at hd
    · simp at hd; subst hd
      have : v = .bool true := hr
      subst this
      exact ⟨_, rfl, rfl⟩
    · cases hd
  · split at hd
    · simp at hd; subst hd
      have : v = .bool false := hr
      subst this
      exact ⟨_, rfl, rfl⟩
    · cases hd
  · obtain ⟨rfl, rfl⟩ := cast?_spec hd
    exact rv_mono hle hr.choose_spec.2
  · split at hd
    · simp at hd; subst hd
      have : v = .slice none 0 0 := hr
      subst this
      exact ⟨_, ⟨none, 0, rfl, Nat.le_refl _, by simp [maxLen], .inl rfl⟩, rfl⟩
    · cases hd
  · rename_i k
    split at hd
    · rename_i tid e xs hg
      obtain ⟨rfl, rfl⟩ := cast?_spec hd
      exact hk k (by simp [refs1]) _ _ _ hg v hr
    · cases hd
  · cases hd

theorem Reading.sub {Ψ' : Pr} {ks ls : List Nat} (hk : Reading Ψ' β h ls) (hs : ∀ k ∈ ks, k ∈ ls) : Reading Ψ' β h ks := fun k hm => hk k (hs k hm)

theorem rv_one {Ψ' : Pr} {t : Ty} {x : t.den} {v : Value} (hr : rv Ψ' t x v) (h1 : v.oneCell' = true) : reads Ψ' t x [v] := by
  obtain ⟨cs, hc, e⟩ := hr
  cases ht : t.isAgg with
  | true => rw [ht] at e; simp at e; subst e; simp [Value.oneCell'] at h1
  | false => rw [ht] at e; simp at e; subst e; exact hc

theorem lenAV_eq (l : List AV) : lenAV l = l.length := by induction l <;> simp [lenAV, *]

theorem small_spec {e : Ty} (hs : e.small = true) : e.cells = 1 ∧ e.isAgg = false := by
  unfold Ty.small at hs
  simpa [Nat.beq_eq] using hs

theorem asVec_rv {Ψ' : Pr} (hle : PLe Ψ Ψ') {e : Ty} : ∀ {xs : List e.den} {cs : List AV} {vs : List Value}, asVec h e cs = some xs → RelL Ψ β cs vs → (∀ u ∈ vs, u.oneCell' = true) → Reading Ψ' β h (refsL cs) → xs.length = cs.length ∧ rdL (reads Ψ' e) xs vs
  | xs, [], vs, hd, hr, _, _ => by
    simp only [asVec, Option.some.injEq] at hd
    subst hd
    simp only [RelL] at hr
    subst hr
    exact ⟨rfl, rfl⟩
  | xs, c :: cs, vs, hd, hr, h1, hk => by
    unfold asVec at hd
    split at hd
    · rename_i y hy
      split at hd
      · rename_i ys hys
        simp at hd
        subst hd
        obtain ⟨v, vs', rfl, hv, hl⟩ := hr
        obtain ⟨h2, h3⟩ := asVec_rv hle hys hl (fun u hu => h1 u (by simp [hu])) (hk.sub fun k hm => by simp [refsL]; exact .inr hm)
        exact ⟨by simp [h2], [v], vs', rfl, rv_one (asD1_rv hle hy hv (hk.sub fun k hm => by simp [refsL, hm])) (h1 v (by simp)), h3⟩
      · cases hd
    · cases hd

theorem asCells_rv {Ψ' : Pr} (hle : PLe Ψ Ψ') : ∀ {t : Ty} {x : t.den} {cs : List AV} {vs : List Value}, asCells h t cs = some x → RelL Ψ β cs vs → (∀ u ∈ vs, u.oneCell' = true) → Reading Ψ' β h (refsL cs) → reads Ψ' t x vs
  | .pair ta tb, x, cs, vs, hd, hr, h1, hk => by
    unfold asCells at hd
    split at hd
    · rename_i y hy
      split at hd
      · rename_i z hz
        simp at hd
        subst hd
        refine ⟨vs.take ta.cells, vs.drop ta.cells, (List.take_append_drop _ _).symm, ?_, ?_⟩
        · refine asCells_rv hle hy (by rw [takeN_eq]; exact RelL_take _ _ _ hr) (fun u hu => h1 u (List.mem_of_mem_take hu)) (hk.sub fun k hm => ?_)
          rw [takeN_eq] at hm
          exact refsL_take _ _ _ hm
        · refine asCells_rv hle hz (by rw [dropN_eq]; exact RelL_drop _ _ _ hr) (fun u hu => h1 u (List.mem_of_mem_drop hu)) (hk.sub fun k hm => ?_)
          rw [dropN_eq] at hm
          exact refsL_drop _ _ _ hm
      · cases hd
    · cases hd
  | .unit, x, cs, vs, hd, hr, h1, hk => by
    unfold asCells at hd
    split at hd
    · simp only [RelL] at hr
      subst hr
      rfl
    · cases hd
  | .vec n e, x, cs, vs, hd, hr, h1, hk => by
    unfold asCells at hd
    split at hd
    · rename_i hc
      simp only [Bool.and_eq_true, Nat.beq_eq, lenAV_eq] at hc
      obtain ⟨h2, h3⟩ := asVec_rv hle hd hr h1 hk
      exact ⟨by rw [h2]; exact hc.2, h3⟩
    · cases hd
  | .int k, x, cs, vs, hd, hr, h1, hk => one hle (by unfold asCells at hd; exact hd) hr h1 hk
  | .bool, x, cs, vs, hd, hr, h1, hk => one hle (by unfold asCells at hd; exact hd) hr h1 hk
  | .str, x, cs, vs, hd, hr, h1, hk => one hle (by unfold asCells at hd; exact hd) hr h1 hk
  | .arr e, x, cs, vs, hd, hr, h1, hk => one hle (by unfold asCells at hd; exact hd) hr h1 hk
where
  one {Ψ' : Pr} (hle : PLe Ψ Ψ') {t : Ty} {x : t.den} {cs : List AV} {vs : List Value} (hd : single h t cs = some x) (hr : RelL Ψ β cs vs) (h1 : ∀ u ∈ vs, u.oneCell' = true) (hk : Reading Ψ' β h (refsL cs)) : reads Ψ' t x vs := by
    unfold single at hd
    split at hd
    · obtain ⟨v, vs', e, hv, hl⟩ := hr
      simp only [RelL] at hl
      subst hl e
      exact rv_one (asD1_rv hle hd hv (hk.sub fun k hm => by simp [refsL, hm])) (h1 _ (by simp))
    · cases hd
  refsL_take : ∀ (n : Nat) (cs : List AV) (k : Nat), k ∈ refsL (cs.take n) → k ∈ refsL cs
    | 0, _, _, hm => by simp [refsL] at hm
    | n + 1, [], _, hm => by simpa using hm
    | n + 1, c :: cs, k, hm => by
      simp only [List.take_succ_cons, refsL, List.mem_append] at hm ⊢
      exact hm.imp id (refsL_take n cs k)
  refsL_drop : ∀ (n : Nat) (cs : List AV) (k : Nat), k ∈ refsL (cs.drop n) → k ∈ refsL cs
    | 0, _, _, hm => by simpa using hm
    | n + 1, [], _, hm => by simpa using hm
    | n + 1, c :: cs, k, hm => by
      simp only [List.drop_succ_cons] at hm
      simp only [refsL, List.mem_append]
      exact .inr (refsL_drop n cs k hm)

theorem asD_rv {Ψ' : Pr} (hle : PLe Ψ Ψ') {t : Ty} {x : t.den} {av : AV} {v : Value} (hd : asD h t av = some x) (hr : RelV Ψ β av v) (hk : Reading Ψ' β h (refs av)) : rv Ψ' t x v := by
  unfold asD at hd
  split at hd
  · rename_i cs
    split at hd
    · rename_i ha
      obtain ⟨vs, rfl, hl, h1⟩ := hr
      exact ⟨vs, asCells_rv hle hd hl h1 hk, by rw [ha]; rfl⟩
    · cases hd
  · rename_i hn
    exact asD1_rv hle hd hr (by
      have : refs av = refs1 av := by cases av <;> first | rfl | exact absurd rfl (hn _)
      rwa [this] at hk)

theorem Reading.nil {Ψ' : Pr} : Reading Ψ' β h [] := fun _ hm => by cases hm

/-! ### Fields, elements -/
theorem fieldOf_spec {t : TypeId} {f : Nat} {fd : Field} (hf : fieldOf C t f = some fd) : ∃ fs, C.P.underlying t = some (.struct fs) ∧ fs[f]? = some fd := by
  unfold fieldOf at hf
  split at hf
  · rename_i fs hu; exact ⟨fs, hu, hf⟩
  · cases hf

theorem subD_rv : ∀ {t : Ty} {x : t.den} {off sz : Nat} {ag : Bool} {av : AV} {cs : List Value}, subD t x off sz ag = some av → reads Ψ t x cs →
    ∃ t' x', av = .d t' x' ∧ t'.isAgg = ag ∧ t'.cells = sz ∧ off + sz ≤ cs.length ∧ reads Ψ t' x' ((cs.drop off).take sz)
  | .pair a b, x, off, sz, ag, av, cs, hs, hr => by
    obtain ⟨u, v, rfl, hu, hv⟩ := hr
    have lu := reads_len a _ _ hu
    have lv := reads_len b _ _ hv
    unfold subD at hs
    split at hs
    · rename_i hc
      simp only [Bool.and_eq_true, Nat.beq_eq] at hc
      obtain ⟨⟨rfl, h2⟩, rfl⟩ := hc
      simp at hs
      subst hs
      refine ⟨_, _, rfl, rfl, by simp [Ty.cells, h2], by simp; omega, ?_⟩
      rw [List.drop_zero, List.take_of_length_le (by simp; omega)]
      exact ⟨u, v, rfl, hu, hv⟩
    · split at hs
      · rename_i hc
        simp only [Nat.ble_eq] at hc
        obtain ⟨t', x', e, h1, h2, h3, h4⟩ := subD_rv hs hu
        refine ⟨t', x', e, h1, h2, by simp; omega, ?_⟩
        rw [List.drop_append_of_le_length (by omega), List.take_append_of_le_length (by simp; omega)]
        exact h4
      · split at hs
        · rename_i hc
          simp only [Nat.ble_eq] at hc
          obtain ⟨t', x', e, h1, h2, h3, h4⟩ := subD_rv hs hv
          refine ⟨t', x', e, h1, h2, by simp; omega, ?_⟩
          have : off = u.length + (off - a.cells) := by omega
          rw [this, drop_len_add]
          exact h4
        · cases hs
  | .int k, x, off, sz, ag, av, cs, hs, hr => subD_rv.leaf hs hr
  | .bool, x, off, sz, ag, av, cs, hs, hr => subD_rv.leaf hs hr
  | .str, x, off, sz, ag, av, cs, hs, hr => subD_rv.leaf hs hr
  | .arr _, x, off, sz, ag, av, cs, hs, hr => subD_rv.leaf hs hr
  | .vec _ _, x, off, sz, ag, av, cs, hs, hr => subD_rv.leaf hs hr
  | .unit, x, off, sz, ag, av, cs, hs, hr => subD_rv.leaf hs hr
where
  leaf {t : Ty} {x : t.den} {off sz : Nat} {ag : Bool} {av : AV} {cs : List Value} (hs : (if Nat.beq off 0 && Nat.beq t.cells sz && (t.isAgg == ag) then some (AV.d t x) else none) = some av) (hr : reads Ψ t x cs) :
      ∃ t' x', av = .d t' x' ∧ t'.isAgg = ag ∧ t'.cells = sz ∧ off + sz ≤ cs.length ∧ reads Ψ t' x' ((cs.drop off).take sz) := by
    have lc := reads_len t _ _ hr
    split at hs
    · rename_i hc
      simp only [Bool.and_eq_true, Nat.beq_eq, beq_iff_eq] at hc
      obtain ⟨⟨rfl, h2⟩, h3⟩ := hc
      simp at hs
      subst hs
      refine ⟨t, x, rfl, h3, h2, by omega, ?_⟩
      rw [List.drop_zero, List.take_of_length_le (by omega)]
      exact hr
    · cases hs

theorem run_part {t : TypeId} {ag : Bool} {n off : Nat} {vs : List Value} (hl : C.lay t = some (ag, n)) (hle : off + n ≤ vs.length) :
    (part t vs.toArray off).run C.P w = .ok (valOf ag ((vs.drop off).take n)) w := by
  obtain ⟨hs, ha, h1⟩ := lay_spec hl
  cases ag with
  | true =>
    simp [part, ha, run_sizeOf hs, valOf]
  | false =>
    have := h1 rfl
    subst this
    have hlt : off < vs.length := by omega
    simp [part, ha, valOf, List.getElem?_eq_getElem hlt, List.getD_eq_getElem?_getD, List.getElem?_drop]

theorem field_ok {t : TypeId} {f : Nat} {av : AV} {v : Value} {r : Out} (hx : RelV Ψ β av v) (hr : afield C h t av f = some r) :
    r.heap = h ∧ r.kill = none ∧ r.need = none ∧ NOk C Ψ β w (Instr.field t v f) r.v := by
  unfold afield at hr
  split at hr
  · rename_i fd hfd
    obtain ⟨fs, hu, hfs⟩ := fieldOf_spec hfd
    split at hr
    · rename_i ag sz hlay
      split at hr
      · rename_i cs
        split at hr
        · rename_i v' hl
          have := ok0_inv hr; subst this
          obtain ⟨vs, rfl, hrel, h1⟩ := hx
          obtain ⟨ag', n, hlay', hle, hrv⟩ := loadOwn_ok hl hrel h1
          refine ⟨rfl, rfl, rfl, NOk.of_run ?_ hrv⟩
          have hp := run_part (w := w) hlay' hle
          simp [Instr.field, run_underlying hu, hfs, asAgg, hp]
        · cases hr
      · rename_i u y
        split at hr
        · rename_i hag
          split at hr
          · rename_i v' hsub
            have := ok0_inv hr; subst this
            obtain ⟨cs, hcs, e⟩ := hx
            rw [hag] at e
            simp at e
            subst e
            obtain ⟨t', x', rfl, h1, h2, h3, h4⟩ := subD_rv hsub hcs
            refine ⟨rfl, rfl, rfl, NOk.of_run ?_ (valOf_rv h4 h1.symm (fun hf => ?_))⟩
            · have hp := run_part (w := w) hlay h3
              simp [Instr.field, run_underlying hu, hfs, asAgg, hp]
            · have := (lay_spec hlay).2.2 hf
              rw [reads_len t' _ _ h4]
              omega
          · cases hr
        · cases hr
      · cases hr
    · cases hr
  · cases hr

theorem fieldAddr_ok {t : TypeId} {f : Nat} {av : AV} {v : Value} {r : Out} (hx : RelV Ψ β av v) (hr : afieldAddr C h t av f = some r) :
    r.heap = h ∧ r.kill = none ∧ r.need = none ∧ NOk C Ψ β w (Instr.fieldAt t v f) r.v := by
  unfold afieldAddr at hr
  split at hr
  · rename_i fd hfd
    obtain ⟨fs, hu, hfs⟩ := fieldOf_spec hfd
    split at hr
    · rename_i ag sz hlay
      split at hr
      · rename_i k off
        split at hr
        · rename_i hsz
          have hs := run_sizeOf (lay_spec hlay).1
          have hsz' : sz ≠ 0 := by simp only [Nat.ble_eq] at hsz; omega
          have := ok0_inv hr; subst this
          obtain ⟨g, hβ, rfl⟩ := hx
          refine ⟨rfl, rfl, rfl, NOk.of_run (v := .pointer (some ⟨g, off + fd.offset, none⟩)) ?_ ⟨g, hβ, rfl⟩⟩
          simp [Instr.fieldAt, run_underlying hu, hfs, Instr.sureAddr, fieldPlace, Addr.add_lit, hs, hsz']
        · cases hr
      · rename_i u y
        split at hr
        · rename_i hsz
          have hs := run_sizeOf (lay_spec hlay).1
          have hsz' : sz ≠ 0 := by simp only [Nat.ble_eq] at hsz; omega
          split at hr
          · rename_i u' y' hsub
            have := ok0_inv hr; subst this
            obtain ⟨g, off, cs, rfl, hcs, hp⟩ := hx
            obtain ⟨t', x', e, h1, h2, h3, h4⟩ := subD_rv hsub hcs
            simp only [AV.d.injEq] at e
            obtain ⟨rfl, e⟩ := e
            cases e
            refine ⟨rfl, rfl, rfl, NOk.of_run (v := .pointer (some ⟨g, off + fd.offset, none⟩)) ?_ ⟨g, off + fd.offset, _, rfl, h4, fun j u hj => ?_⟩⟩
            · simp [Instr.fieldAt, run_underlying hu, hfs, Instr.sureAddr, fieldPlace, Addr.add_lit, hs, hsz']
            · have := hp _ _ (sub_of_drop_take hj)
              rwa [← Nat.add_assoc] at this
          · cases hr
        · cases hr
      · cases hr
    · cases hr
  · cases hr

/-! ### Equality -/
def litsD : (t : Ty) → t.den → List Lit
  | .int k, x => [.int k x]
  | .bool, x => [.bool x]
  | .str, x => [.string (strOf x).data.toList]
  | .vec _ (.int k), x => List.map (fun n : Int => Lit.int k n) x
  | .pair a b, x => litsD a x.1 ++ litsD b x.2
  | _, _ => []

theorem rdL_ints' {k : IntKind} : ∀ (l : List Int) (cs : List Value), rdL (reads Ψ (.int k)) l cs → cs = l.map (Value.int k) ∧ ∀ c ∈ l, k.has c
  | [], cs, h => by simp only [rdL] at h; subst h; simp
  | x :: l, cs, ⟨c, vs', e, ⟨hc, hk⟩, hl⟩ => by
    obtain ⟨h1, h2⟩ := rdL_ints' l vs' hl
    subst e hc h1
    refine ⟨rfl, fun c hm => ?_⟩
    rcases List.mem_cons.1 hm with rfl | hm
    · exact hk
    · exact h2 c hm

theorem has_wf {k : IntKind} {n : Int} (h : k.has n) : (Lit.int k n).wf = true := by
  unfold IntKind.has at h
  simpa [Lit.wf] using h

theorem mapM_some_of {α β' : Type} {f : α → Option β'} {g : α → β'} : ∀ (l : List α), (∀ x ∈ l, f x = some (g x)) → l.mapM f = some (l.map g)
  | [], _ => rfl
  | x :: l, h => by
    rw [List.mapM_cons, h x (by simp), mapM_some_of l (fun y hy => h y (by simp [hy]))]
    rfl

mutual
theorem keyLits_rd {P : Program} : ∀ (ty : Ty) {D : Nat} {t : TypeId} {x : ty.den} {cs : List Value}, eqOk ty = true → okT P ty t = true → P.keyTypeAt D t = true → reads Ψ ty x cs → P.keyLits D t cs = some (litsD ty x)
  | ty, 0, t, x, cs, _, _, hk, _ => by simp [Program.keyTypeAt] at hk
  | .int k, D + 1, t, x, cs, _, ht, hk, hr => by
    unfold okT at ht
    split at ht
    · rename_i k' hu
      have : k' = k := by simpa using ht
      subst this
      obtain ⟨rfl, hh⟩ := hr
      simp [Program.keyLits, hu, has_wf hh, litsD]
    · cases ht
  | .bool, D + 1, t, x, cs, _, ht, hk, hr => by
    unfold okT at ht
    split at ht
    · rename_i hu
      simp only [reads] at hr
      subst hr
      simp [Program.keyLits, hu, litsD]
    · cases ht
  | .str, D + 1, t, x, cs, _, ht, hk, hr => by
    unfold okT at ht
    split at ht
    · rename_i hu
      obtain ⟨rfl, _, hl⟩ := hr
      simp [Program.keyLits, hu, litsD, strOf_size, hl]
    · cases ht
  | .arr e, D + 1, t, x, cs, he, ht, hk, hr => by simp [eqOk] at he
  | .unit, D + 1, t, x, cs, he, ht, hk, hr => by simp [okT] at ht
  | .vec n e, D + 1, t, x, cs, he, ht, hk, hr => by
    cases e with
    | int k =>
      unfold okT at ht
      split at ht
      · rename_i m et hu
        simp only [Bool.and_eq_true] at ht
        obtain ⟨⟨⟨hm, hc⟩, hs⟩, hoe⟩ := ht
        have hm := Nat.eq_of_beq_eq_true hm
        have hc := Nat.eq_of_beq_eq_true hc
        have hs := Nat.eq_of_beq_eq_true hs
        subst hm
        obtain ⟨hlen, hd⟩ := hr
        obtain ⟨rfl, hh⟩ := rdL_ints' (Ψ := Ψ) x cs hd
        simp only [Ty.cells] at hc hs
        have hke : P.keyTypeAt D et = true := by simpa [Program.keyTypeAt, hu] using hk
        have hl : (List.map (Value.int k) x).length = P.cellsOf t := by rw [List.length_map, hs, Nat.mul_one]; exact hlen
        have hone : ∀ i ∈ List.range m, P.keyLits D et (((List.map (Value.int k) x).drop (i * P.cellsOf et)).take (P.cellsOf et)) = some [.int k (List.getD x i 0)] := by
          intro i hi
          have hi : i < List.length x := by rw [hlen]; simpa using hi
          have h2 := keyLits_rd (.int k) (D := D) (t := et) (x := (List.getD x i 0 : Int)) (cs := [.int k (List.getD x i 0)]) (by rfl) hoe hke ⟨rfl, by
            have := hh x[i] (List.getElem_mem hi)
            simpa [List.getD_eq_getElem?_getD, List.getElem?_eq_getElem hi] using this⟩
          rw [hc, Nat.mul_one]
          have e1 : ((List.map (Value.int k) x).drop i).take 1 = [.int k (List.getD x i 0)] := by
            rw [List.drop_eq_getElem_cons (by simpa using hi)]
            simp [List.getD_eq_getElem?_getD, List.getElem?_eq_getElem hi]
          rw [e1]
          exact h2
        simp only [Program.keyLits, hu, if_pos hl, mapM_some_of _ hone, Option.map_some, litsD]
        congr 1
        rw [← hlen]
        clear hone hl hd hh hlen hke hs hc hoe hu hk he
        have key : ∀ (l : List Int), ((List.range l.length).map fun i => [Lit.int k (l.getD i 0)]).flatten = l.map fun n => Lit.int k n := by
          intro l
          induction l with
          | nil => rfl
          | cons a l ih =>
            rw [List.length_cons, List.range_succ_eq_map]
            simp only [List.map_cons, List.map_map, List.flatten_cons, Function.comp_def, List.getD_cons_succ, List.getD_cons_zero]
            rw [← ih]
            rfl
        exact key x
      · cases ht
    | bool => simp [eqOk] at he
    | str => simp [eqOk] at he
    | arr _ => simp [eqOk] at he
    | vec _ _ => simp [eqOk] at he
    | unit => simp [eqOk] at he
    | pair _ _ => simp [eqOk] at he
  | .pair a b, D + 1, t, x, cs, he, ht, hk, hr => by
    unfold okT at ht
    split at ht
    · rename_i fs hu
      split at ht
      · rename_i f fs' hfs
        simp only [Bool.and_eq_true] at ht
        obtain ⟨⟨⟨⟨hs, ho⟩, hc⟩, ha⟩, hb⟩ := ht
        have hs := Nat.eq_of_beq_eq_true hs
        have ho := Nat.eq_of_beq_eq_true ho
        have hc := Nat.eq_of_beq_eq_true hc
        simp only [eqOk, Bool.and_eq_true] at he
        have hl := reads_len (.pair a b) _ _ hr
        simp only [Program.keyTypeAt, hu, Bool.and_eq_true, Array.all_eq_true'] at hk
        have hkf : ∀ f ∈ fs.toList, f.name ≠ "_" ∧ P.keyTypeAt D f.type = true := fun f hf => by
          have := hk.1.1 f (by simpa using hf)
          simpa using this
        obtain ⟨u, v, rfl, hu1, hv1⟩ := hr
        have hul := reads_len a _ _ hu1
        have h1 := keyLits_rd a (D := D) he.1 ha (hkf f (by rw [hfs]; simp)).2 hu1
        obtain ⟨ls, h2, h3⟩ := keyFields_rd (P := P) b (D := D) (fs := fs') (off := a.cells) (cs := u ++ v) he.2 hb (fun g hg => (hkf g (by rw [hfs]; simp [hg])).2) (x := x.2) (by rw [← hul]; simpa using hv1)
        have hall : fs.all (fun f => f.name != "_") = true := by
          rw [Array.all_eq_true']
          intro f hf
          simpa using (hkf f (by simpa using hf)).1
        simp only [Program.keyLits, hu]
        rw [if_pos ⟨by rw [hl, hs]; rfl, hall⟩, hfs, List.mapM_cons, ho, hc, List.drop_zero, ← hul, List.take_left, h1, h2]
        simp [h3, litsD]
      · cases ht
    · cases ht
theorem keyFields_rd {P : Program} : ∀ (ty : Ty) {D : Nat} {fs : List Field} {off : Nat} {cs : List Value} {x : ty.den}, eqOk ty = true → okF P ty fs off = true → (∀ f ∈ fs, P.keyTypeAt D f.type = true) → reads Ψ ty x (cs.drop off) →
    ∃ ls, fs.mapM (fun f => P.keyLits D f.type ((cs.drop f.offset).take (P.cellsOf f.type))) = some ls ∧ ls.flatten = litsD ty x
  | .pair a b, D, fs, off, cs, x, he, ho, hk, hr => by
    cases fs with
    | nil => simp [okF] at ho
    | cons f fs =>
      simp only [okF, Bool.and_eq_true] at ho
      obtain ⟨⟨⟨hf, hc⟩, ha⟩, hb⟩ := ho
      have hf := Nat.eq_of_beq_eq_true hf
      have hc := Nat.eq_of_beq_eq_true hc
      simp only [eqOk, Bool.and_eq_true] at he
      obtain ⟨u, v, hcs, hu1, hv1⟩ := hr
      have hul := reads_len a _ _ hu1
      have h1 := keyLits_rd a (D := D) he.1 ha (hk f (by simp)) hu1
      have hv' : cs.drop (off + a.cells) = v := by rw [← List.drop_drop, hcs, ← hul, List.drop_left]
      obtain ⟨ls, h2, h3⟩ := keyFields_rd (P := P) b (D := D) (fs := fs) (off := off + a.cells) (cs := cs) he.2 hb (fun g hg => hk g (by simp [hg])) (x := x.2) (by rw [hv']; exact hv1)
      refine ⟨litsD a x.1 :: ls, ?_, by simp [h3, litsD]⟩
      rw [List.mapM_cons, hf, hc, hcs, ← hul, List.take_left, h1, h2]
      rfl
  | .unit, D, fs, off, cs, x, he, ho, hk, hr => by
    cases fs with
    | nil => exact ⟨[], rfl, rfl⟩
    | cons f fs => simp [okF] at ho
  | .int _, _, _, _, _, _, _, ho, _, _ => by simp [okF] at ho
  | .bool, _, _, _, _, _, _, ho, _, _ => by simp [okF] at ho
  | .str, _, _, _, _, _, _, ho, _, _ => by simp [okF] at ho
  | .arr _, _, _, _, _, _, _, ho, _, _ => by simp [okF] at ho
  | .vec _ _, _, _, _, _, _, _, ho, _, _ => by simp [okF] at ho
end

theorem litsD_len : ∀ (ty : Ty) (x y : ty.den) (cs ds : List Value), eqOk ty = true → reads Ψ ty x cs → reads Ψ ty y ds → (litsD ty x).length = (litsD ty y).length
  | .int _, _, _, _, _, _, _, _ => rfl
  | .bool, _, _, _, _, _, _, _ => rfl
  | .str, _, _, _, _, _, _, _ => rfl
  | .unit, _, _, _, _, _, _, _ => rfl
  | .arr _, _, _, _, _, he, _, _ => by simp [eqOk] at he
  | .vec n e, x, y, cs, ds, he, hx, hy => by
    cases e with
    | int k =>
      show (List.map _ x).length = (List.map _ y).length
      rw [List.length_map, List.length_map, hx.1, hy.1]
    | bool => simp [eqOk] at he
    | str => simp [eqOk] at he
    | arr _ => simp [eqOk] at he
    | vec _ _ => simp [eqOk] at he
    | unit => simp [eqOk] at he
    | pair _ _ => simp [eqOk] at he
  | .pair a b, x, y, _, _, he, ⟨_, _, _, h1, h2⟩, ⟨_, _, _, h3, h4⟩ => by
    simp only [eqOk, Bool.and_eq_true] at he
    simp only [litsD, List.length_append]
    rw [litsD_len a _ _ _ _ he.1 h1 h3, litsD_len b _ _ _ _ he.2 h2 h4]

theorem litsD_inj : ∀ (ty : Ty) (x y : ty.den) (cs ds : List Value), eqOk ty = true → reads Ψ ty x cs → reads Ψ ty y ds → (litsD ty x = litsD ty y ↔ eqD ty x y = true)
  | .int k, x, y, _, _, _, _, _ => by simp [litsD, eqD]
  | .bool, x, y, _, _, _, _, _ => by simp [litsD, eqD]
  | .str, x, y, _, _, _, hx, hy => by
    simp only [litsD, eqD, decide_eq_true_eq]
    constructor
    · intro h
      simp only [List.cons.injEq, Lit.string.injEq, and_true] at h
      refine strOf_inj hx.2.1 hy.2.1 ?_
      have : (strOf x).data = (strOf y).data := Array.toList_inj.1 h
      cases hs : strOf x
      cases ht : strOf y
      rw [hs, ht] at this
      simp only at this
      rw [this]
    · intro h; rw [h]
  | .unit, x, y, _, _, _, _, _ => by simp [litsD, eqD]
  | .arr _, _, _, _, _, he, _, _ => by simp [eqOk] at he
  | .vec n e, x, y, cs, ds, he, hx, hy => by
    cases e with
    | int k =>
      simp only [litsD, eqD, decide_eq_true_eq]
      constructor
      · intro h
        have hinj : Function.Injective (fun n : Int => Lit.int k n) := fun a b hab => by simpa using hab
        exact (List.map_inj_right (fun a b hab => hinj hab)).1 h
      · intro h; rw [h]
    | bool => simp [eqOk] at he
    | str => simp [eqOk] at he
    | arr _ => simp [eqOk] at he
    | vec _ _ => simp [eqOk] at he
    | unit => simp [eqOk] at he
    | pair _ _ => simp [eqOk] at he
  | .pair a b, x, y, _, _, he, ⟨_, _, _, h1, h2⟩, ⟨_, _, _, h3, h4⟩ => by
    simp only [eqOk, Bool.and_eq_true] at he
    simp only [litsD, eqD, Bool.and_eq_true]
    rw [← litsD_inj a _ _ _ _ he.1 h1 h3, ← litsD_inj b _ _ _ _ he.2 h2 h4]
    constructor
    · intro h
      exact List.append_inj h (litsD_len a _ _ _ _ he.1 h1 h3)
    · rintro ⟨e1, e2⟩
      rw [e1, e2]

theorem okT_formed {P : Program} {ty : Ty} {t : TypeId} {x : ty.den} {v : Value} (ha : ty.isAgg = true) (ht : okT P ty t = true) (hr : rv Ψ ty x v) : ∃ cs, v = .agg cs.toArray ∧ reads Ψ ty x cs ∧ v.formed P t = true := by
  obtain ⟨cs, hc, hv⟩ := hr
  rw [ha] at hv
  simp only [if_true] at hv
  have hl := reads_len ty _ _ hc
  refine ⟨cs, hv, hc, ?_⟩
  subst hv
  cases ty with
  | vec n e =>
    unfold okT at ht
    split at ht
    · rename_i m et hu
      simp only [Bool.and_eq_true] at ht
      have hs := Nat.eq_of_beq_eq_true ht.1.2
      simp [Value.formed, hu, hl, hs, Ty.cells]
    · cases ht
  | pair a b =>
    unfold okT at ht
    split at ht
    · rename_i fs hu
      split at ht
      · simp only [Bool.and_eq_true] at ht
        have hs := Nat.eq_of_beq_eq_true ht.1.1.1.1
        simp [Value.formed, hu, hl, hs, Ty.cells]
      · cases ht
    · cases ht
  | unit => simp [okT] at ht
  | int _ => simp [Ty.isAgg] at ha
  | bool => simp [Ty.isAgg] at ha
  | str => simp [Ty.isAgg] at ha
  | arr _ => simp [Ty.isAgg] at ha

theorem binAgg_ok {op : BinOp} {xt : TypeId} {x y : Operand} {av bv : AV} {u v : Value} {r : Out} (hx : RelV Ψ β av u) (hy : RelV Ψ β bv v) (hr : abinAgg C h op xt av bv = some r) :
    r.heap = h ∧ r.kill = none ∧ r.need = none ∧ NOk C Ψ β w (do eqGuard op xt x y u v; binOp op xt u v) r.v := by
  unfold abinAgg at hr
  split at hr
  · rename_i ty hty
    split at hr
    · rename_i hc
      simp only [Bool.and_eq_true] at hc
      obtain ⟨⟨⟨⟨⟨hagg, heq⟩, hok⟩, hkt⟩, hgd⟩, hnr⟩ := hc
      have hgd : C.P.eqGuardType C.P.depth xt = false := by simpa using hgd
      have hrefs : refsA [av, bv] = [] := by
        unfold noRefs' at hnr
        split at hnr
        · assumption
        · cases hnr
      simp only [refsA, List.append_eq_nil_iff] at hrefs
      split at hr
      · rename_i a b hda hdb
        have ra : rv Ψ ty a u := asD_rv (PLe.refl _) hda hx (by rw [hrefs.1]; exact Reading.nil)
        have rb : rv Ψ ty b v := asD_rv (PLe.refl _) hdb hy (by rw [hrefs.2.1]; exact Reading.nil)
        obtain ⟨cs, rfl, hcs, hfa⟩ := okT_formed hagg hok ra
        obtain ⟨ds, rfl, hds, hfb⟩ := okT_formed hagg hok rb
        have ka := keyLits_rd (P := C.P) ty (D := 100) heq hok hkt hcs
        have kb := keyLits_rd (P := C.P) ty (D := 100) heq hok hkt hds
        obtain ⟨q, hq, hiff⟩ := run_equalIn_deep (P := C.P) 9900 100 xt hkt w 100 100 _ _ _ _ hfa hfb (by simpa [Value.cells] using ka) (by simpa [Value.cells] using kb)
        have hqe : q = eqD ty a b := by
          rw [litsD_inj ty a b cs ds heq hcs hds] at hiff
          cases q <;> cases hqq : eqD ty a b <;> simp_all
        subst hqe
        split at hr
        · have := ok0_inv hr; subst this
          exact ⟨rfl, rfl, rfl, NOk.of_run (v := .bool (eqD ty a b)) (by simp only [Sem.run_bind, run_eqGuard_agg (P := C.P) w _ xt x y cs.toArray ds.toArray hgd, Result.andThen_ok]; rw [run_eql_struct, hq]; rfl) (boolAV_rel _)⟩
        · have := ok0_inv hr; subst this
          exact ⟨rfl, rfl, rfl, NOk.of_run (v := .bool (!eqD ty a b)) (by simp only [Sem.run_bind, run_eqGuard_agg (P := C.P) w _ xt x y cs.toArray ds.toArray hgd, Result.andThen_ok]; rw [run_neq_struct, hq]; rfl) (boolAV_rel _)⟩
        · cases hr
      · cases hr
    · cases hr
  · cases hr

end Go.AM
