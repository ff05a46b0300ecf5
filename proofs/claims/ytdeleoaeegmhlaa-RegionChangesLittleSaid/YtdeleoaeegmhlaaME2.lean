import Derived.Test.YtdeleoaeegmhlaaME1
import Derived.MapKept
namespace Go.AM
set_option linter.unusedVariables false
open Go.RowKit

variable {B : Nat → Prop} {w0 : World} {C : Ctx} {Ψ : Pr} {β : List Value} {h : List Blk} {w : World} {fr : List AV} {a : Act}

theorem lay_spec {t : TypeId} {ag : Bool} {n : Nat} (hl : C.lay t = some (ag, n)) : C.size t = some n ∧ (∀ w, (isAgg t).run C.P w = .ok ag w) ∧ (ag = false → n = 1) := by
  unfold Ctx.lay at hl
  split at hl
  · cases hl
  · rename_i i hi
    have hs : C.size t = some i.size := by simp [Ctx.size, hi]
    split at hl
    · rename_i hu
      simp at hl
      obtain ⟨rfl, rfl⟩ := hl
      exact ⟨hs, fun w => by simp [isAgg, run_underlying hu], by simp⟩
    · rename_i hu
      simp at hl
      obtain ⟨rfl, rfl⟩ := hl
      exact ⟨hs, fun w => by simp [isAgg, run_underlying hu], by simp⟩
    · rename_i d h1 h2 hu
      split at hl
      · rename_i hsz
        simp at hl
        obtain ⟨rfl, rfl⟩ := hl
        have hsz' : i.size = 1 := by simpa [Nat.beq_eq] using hsz
        refine ⟨by rw [hs, hsz'], fun w => ?_, fun _ => rfl⟩
        cases d <;> simp [isAgg, run_underlying hu] <;> first | exact absurd rfl (h1 _) | exact absurd rfl (h2 _ _)
      · cases hl
    · cases hl

/-- The value of some cells. -/
def valOf (ag : Bool) (us : List Value) : Value := if ag then .agg us.toArray else us.getD 0 undef

theorem run_loadVar_cells {t : TypeId} {ag : Bool} {n g off : Nat} {us : List Value} (hl : C.lay t = some (ag, n)) (hn : us.length = n)
    (hc : ∀ j u, us[j]? = some u → w.cell? ⟨g, off + j, none⟩ = some u) : (loadVar t ⟨g, off, none⟩).run C.P w = .ok (valOf ag us) w := by
  obtain ⟨hs, ha, h1⟩ := lay_spec hl
  cases ag with
  | true =>
    have hlc : (loadCells ⟨g, off, none⟩ n).run C.P w = .ok us.toArray w := by
      rw [← hn]
      exact run_loadCells_list w _ us (fun j u hj => by rw [Addr.add_lit]; exact hc j u hj)
    simp [loadVar, ha, run_sizeOf hs, hlc, valOf]
  | false =>
    have := h1 rfl
    subst this
    match us, hn with
    | [u], _ =>
      have h0 := hc 0 u rfl
      simp [loadVar, ha, valOf]
      rw [Nat.add_zero] at h0
      simp [h0]

theorem run_loadAt {t : TypeId} {ad : Addr} : (Instr.loadAt t (.pointer (some ad))).run C.P w = (loadVar t ad).run C.P w := by
  simp [Instr.loadAt, Instr.sureAddr]

theorem loadOwn_ok {t : TypeId} {cs : List AV} {off : Nat} {av : AV} {vs : List Value} (hl : loadOwn C t cs off = some av) (hr : RelL Ψ β cs vs) (h1 : ∀ u ∈ vs, u.oneCell' = true) :
    ∃ ag n, C.lay t = some (ag, n) ∧ off + n ≤ vs.length ∧ RelV Ψ β av (valOf ag ((vs.drop off).take n)) := by
  unfold loadOwn at hl
  split at hl
  · rename_i sz hlay
    split at hl
    · rename_i hle
      simp at hl
      subst hl
      have hle' : off + sz ≤ vs.length := by rw [RelL_len _ _ hr, ← listLen_eq]; simpa [Nat.ble_eq] using hle
      refine ⟨true, sz, hlay, hle', ⟨(vs.drop off).take sz, rfl, ?_, fun u hu => h1 u (List.mem_of_mem_drop (List.mem_of_mem_take hu))⟩⟩
      rw [takeN_eq, dropN_eq]
      exact RelL_take _ _ _ (RelL_drop _ _ _ hr)
    · cases hl
  · rename_i sz hlay
    split at hl
    · rename_i hle
      simp at hl
      subst hl
      have := (lay_spec hlay).2.2 rfl
      subst this
      have hle' : off + 1 ≤ vs.length := by rw [RelL_len _ _ hr, ← listLen_eq]; simpa [Nat.ble_eq] using hle
      refine ⟨false, 1, hlay, hle', ?_⟩
      have := RelL_get _ _ hr off
      have e : valOf false ((vs.drop off).take 1) = vs.getD off undef := by
        simp [valOf, List.getD_eq_getElem?_getD, List.getElem?_drop]
      rw [e]
      exact this
    · cases hl
  · cases hl

theorem valOf_rv {t : Ty} {x : t.den} {us : List Value} (hr : reads Ψ t x us) {ag : Bool} (ha : ag = t.isAgg) (h1 : ag = false → us.length = 1) : RelV Ψ β (.d t x) (valOf ag us) := by
  refine ⟨us, hr, ?_⟩
  subst ha
  cases hb : t.isAgg with
  | true => simp [valOf]
  | false =>
    have := h1 hb
    match us, this with
    | [u], _ => simp [valOf]

theorem own_blk {k : Nat} {cs : List AV} (hi : InvH C.P B w0 Ψ β h w) (hg : hget h k = .cells cs) {off : Nat} {v : Value} (hv : RelV Ψ β (.own k off) v) :
    ∃ g c e, β[k]? = some (.pointer (some ⟨g, 0, none⟩)) ∧ v = .pointer (some ⟨g, off, none⟩) ∧ w.heap[g]? = some (.cells c e (0, 0)) ∧ ¬ B g ∧ RelL Ψ β cs c.toList ∧ (∀ u ∈ c.toList, u.oneCell' = true) := by
  obtain ⟨g, hβ, rfl⟩ := hv
  obtain ⟨g', c, e, h1, h2, h3, h4, h5⟩ := hi.blk k _ (hget_some hg (by simp))
  rw [hβ] at h1
  simp at h1
  subst h1
  exact ⟨g, c, e, hβ, rfl, h2, h3, h4, h5⟩

theorem cell_of_heap {g : Nat} {c : Array Value} {e : TypeId} {fz : Nat × Nat} (hh : w.heap[g]? = some (.cells c e fz)) (i : Nat) : w.cell? ⟨g, i, none⟩ = c[i]? := by
  simp [World.cell?, hh]

theorem slp_cells {k sz : Nat} {i : Int} {tid : TypeId} {e : Ty} {xs : List e.den} {v : Value} (hi : InvH C.P B w0 Ψ β h w) (hg : hget h k = .grow tid e xs) (hv : RelV Ψ β (.slp k sz i) v) (hsz : sz = e.cells) :
    ∃ g c cur, β[k]? = some (.slice (some ⟨g, 0, none⟩) xs.length c) ∧ v = .pointer (some ⟨g, i.toNat * sz, none⟩) ∧ 0 ≤ i ∧ i.toNat < xs.length ∧ w.heap[g]? = some (.cells cur tid (0, 0)) ∧
      xs.length ≤ c ∧ c ≤ maxLen ∧ c ≠ 0 ∧ ¬ B g ∧ cur.size = c * e.cells ∧ rdL (reads Ψ e) xs (cur.toList.take (xs.length * e.cells)) := by
  subst hsz
  obtain ⟨g, n, c, hβ, h0, h1, rfl⟩ := hv
  rcases hi.blk k _ (hget_some hg (by simp)) with ⟨ad, hβ', _⟩ | ⟨g', cap, cur, hβ', hz, hB, hh, hn, hcm, hcs, hd⟩
  · rw [hβ] at hβ'
    simp at hβ'
    omega
  · rw [hβ] at hβ'
    simp at hβ'
    obtain ⟨rfl, rfl, rfl⟩ := hβ'
    exact ⟨g, c, cur, hβ, rfl, h0, by omega, hh, hn, hcm, hz, hB, hcs, hd⟩

theorem load_ok {t : TypeId} {av : AV} {v : Value} {r : Out} (hi : InvH C.P B w0 Ψ β h w) (hx : RelV Ψ β av v) (hr : aload C h t av = some r) :
    r.heap = h ∧ r.kill = none ∧ r.need = none ∧ NOk C Ψ β w (Instr.loadAt t v) r.v := by
  unfold aload at hr
  split at hr
  · -- own
    rename_i k off
    split at hr
    · rename_i cs hg
      split at hr
      · rename_i av' hl
        have := ok0_inv hr; subst this
        obtain ⟨g, c, e, hβ, rfl, hh, hB, hrel, h1⟩ := own_blk hi hg hx
        obtain ⟨ag, n, hlay, hle, hrv⟩ := loadOwn_ok hl hrel h1
        refine ⟨rfl, rfl, rfl, NOk.of_run ?_ hrv⟩
        rw [run_loadAt]
        refine run_loadVar_cells hlay (by simp; simp at hle; omega) (fun j u hj => ?_)
        rw [cell_of_heap hh]
        have := sub_of_drop_take hj
        simpa using this
      · cases hr
    · cases hr
  · -- an element of an own slice
    rename_i k sz i
    split at hr
    · rename_i tid e xs hg
      split at hr
      · rename_i ag n hlay
        split at hr
        · rename_i hc
          simp only [Bool.and_eq_true, Nat.beq_eq, beq_iff_eq] at hc
          obtain ⟨⟨hn, hsz⟩, hag⟩ := hc
          have := ok0_inv hr; subst this
          obtain ⟨g, c, cur, hβ, rfl, h0, hlt, hh, _, _, _, _, _, hd⟩ := slp_cells hi hg hx (by omega)
          obtain ⟨us, hus, hget⟩ := rdL_get (reads_len e) _ _ hd i.toNat xs[i.toNat] (List.getElem?_eq_getElem hlt)
          have hD : xs.getD i.toNat (dflt e) = xs[i.toNat] := by simp [List.getD_eq_getElem?_getD, List.getElem?_eq_getElem hlt]
          refine ⟨rfl, rfl, rfl, NOk.of_run ?_ (by rw [hD]; exact valOf_rv hus hag (fun hf => by rw [reads_len e _ _ hus]; have := (lay_spec hlay).2.2 hf; omega))⟩
          rw [run_loadAt]
          refine run_loadVar_cells hlay (by rw [reads_len e _ _ hus]; omega) (fun j u hj => ?_)
          rw [cell_of_heap hh]
          have := hget j u hj
          rw [List.getElem?_take] at this
          split at this
          · rw [show i.toNat * sz = i.toNat * e.cells by rw [← hsz, hn]]
            simpa using this
          · cases this
        · cases hr
      · cases hr
    · cases hr
  · -- read-only memory
    rename_i u x
    split at hr
    · rename_i ag n hlay
      split at hr
      · rename_i hc
        simp only [Bool.and_eq_true, Nat.beq_eq, beq_iff_eq] at hc
        obtain ⟨hn, hag⟩ := hc
        have := ok0_inv hr; subst this
        obtain ⟨g, off, us, rfl, hus, hp⟩ := hx
        refine ⟨rfl, rfl, rfl, NOk.of_run ?_ (valOf_rv hus hag (fun hf => by rw [reads_len u _ _ hus]; have := (lay_spec hlay).2.2 hf; omega))⟩
        rw [run_loadAt]
        exact run_loadVar_cells hlay (by rw [reads_len u _ _ hus]; omega) (fun j u' hj => hi.prom _ _ (hp j u' hj))
      · cases hr
    · cases hr
  · cases hr

/-! ### As data -/
theorem cast?_spec {t u : Ty} {x : t.den} {y : u.den} (hc : cast? t u x = some y) : ∃ e : t = u, y = e ▸ x := by
  unfold cast? at hc
  split at hc
  · rename_i e _
    exact ⟨e, by simpa using hc.symm⟩
  · cases hc

/-- What own slices read as, under some promises. -/
def Reading (Ψ' : Pr) (β : List Value) (h : List Blk) (ks : List Nat) : Prop :=
  ∀ k ∈ ks, ∀ (tid : TypeId) (e : Ty) (xs : List e.den), hget h k = .grow tid e xs → ∀ u : Value, β[k]? = some u → rv Ψ' (.arr e) xs u

theorem rv_mono {Ψ Ψ' : Pr} (hle : PLe Ψ Ψ') {t : Ty} {x : t.den} {v : Value} : rv Ψ t x v → rv Ψ' t x v
  | ⟨cs, hc, e⟩ => ⟨cs, reads_mono hle t x cs hc, e⟩

theorem asD1_rv {Ψ' : Pr} (hle : PLe Ψ Ψ') {t : Ty} {x : t.den} {av : AV} {v : Value} (hd : asD1 h t av = some x) (hr : RelV Ψ β av v) (hk : Reading Ψ' β h (refs1 av)) : rv Ψ' t x v := by
  unfold asD1 at hd
  split at hd
  · obtain ⟨rfl, rfl⟩ := cast?_spec hd
    exact rv_mono hle hr
  · split at hd
    · simp at hd; subst hd
      have : v = .bool true := hr
      subst this
      exact ⟨_, rfl, rfl⟩
    · cases hd
  · split at hd
    · simp at hd; subst hd
      have : v = .bool false := hr
      subst this
      exact ⟨_, rfl, rfl⟩
    · cases hd
  · obtain ⟨rfl, rfl⟩ := cast?_spec hd
    exact rv_mono hle hr.choose_spec.2
  · split at hd
    · simp at hd; subst hd
      have : v = .slice none 0 0 := hr
      subst this
      exact ⟨_, ⟨none, 0, rfl, Nat.le_refl _, by simp [maxLen], .inl rfl⟩, rfl⟩
    · cases hd
  · rename_i k
    split at hd
    · rename_i tid e xs hg
      obtain ⟨rfl, rfl⟩ := cast?_spec hd
      exact hk k (by simp [refs1]) _ _ _ hg v hr.1
    · cases hd
  · split at hd
    · simp at hd; subst hd
      obtain ⟨vs, rfl, hl⟩ := hr
      simp only [RelL] at hl
      subst hl
      exact ⟨_, rfl, rfl⟩
    · cases hd
  · cases hd

theorem Reading.sub {Ψ' : Pr} {ks ls : List Nat} (hk : Reading Ψ' β h ls) (hs : ∀ k ∈ ks, k ∈ ls) : Reading Ψ' β h ks := fun k hm => hk k (hs k hm)

theorem rv_one {Ψ' : Pr} {t : Ty} {x : t.den} {v : Value} (hr : rv Ψ' t x v) (h1 : v.oneCell' = true) : reads Ψ' t x [v] := by
  obtain ⟨cs, hc, e⟩ := hr
  cases ht : t.isAgg with
  | true => rw [ht] at e; simp at e; subst e; simp [Value.oneCell'] at h1
  | false => rw [ht] at e; simp at e; subst e; exact hc

theorem lenAV_eq (l : List AV) : lenAV l = l.length := by induction l <;> simp [lenAV, *]

theorem small_spec {e : Ty} (hs : e.small = true) : e.cells = 1 ∧ e.isAgg = false := by
  unfold Ty.small at hs
  simpa [Nat.beq_eq] using hs

theorem asVec_rv {Ψ' : Pr} (hle : PLe Ψ Ψ') {e : Ty} : ∀ {xs : List e.den} {cs : List AV} {vs : List Value}, asVec h e cs = some xs → RelL Ψ β cs vs → (∀ u ∈ vs, u.oneCell' = true) → Reading Ψ' β h (refsL cs) → xs.length = cs.length ∧ rdL (reads Ψ' e) xs vs
  | xs, [], vs, hd, hr, _, _ => by
    simp only [asVec, Option.some.injEq] at hd
    subst hd
    simp only [RelL] at hr
    subst hr
    exact ⟨rfl, rfl⟩
  | xs, c :: cs, vs, hd, hr, h1, hk => by
    unfold asVec at hd
    split at hd
    · rename_i y hy
      split at hd
      · rename_i ys hys
        simp at hd
        subst hd
        obtain ⟨v, vs', rfl, hv, hl⟩ := hr
        obtain ⟨h2, h3⟩ := asVec_rv hle hys hl (fun u hu => h1 u (by simp [hu])) (hk.sub fun k hm => by simp [refsL]; exact .inr hm)
        exact ⟨by simp [h2], [v], vs', rfl, rv_one (asD1_rv hle hy hv (hk.sub fun k hm => by simp [refsL, hm])) (h1 v (by simp)), h3⟩
      · cases hd
    · cases hd

theorem asCells_rv {Ψ' : Pr} (hle : PLe Ψ Ψ') : ∀ {t : Ty} {x : t.den} {cs : List AV} {vs : List Value}, asCells h t cs = some x → RelL Ψ β cs vs → (∀ u ∈ vs, u.oneCell' = true) → Reading Ψ' β h (refsL cs) → reads Ψ' t x vs
  | .pair ta tb, x, cs, vs, hd, hr, h1, hk => by
    unfold asCells at hd
    split at hd
    · rename_i y hy
      split at hd
      · rename_i z hz
        simp at hd
        subst hd
        refine ⟨vs.take ta.cells, vs.drop ta.cells, (List.take_append_drop _ _).symm, ?_, ?_⟩
        · refine asCells_rv hle hy (by rw [takeN_eq]; exact RelL_take _ _ _ hr) (fun u hu => h1 u (List.mem_of_mem_take hu)) (hk.sub fun k hm => ?_)
          rw [takeN_eq] at hm
          exact refsL_take _ _ _ hm
        · refine asCells_rv hle hz (by rw [dropN_eq]; exact RelL_drop _ _ _ hr) (fun u hu => h1 u (List.mem_of_mem_drop hu)) (hk.sub fun k hm => ?_)
          rw [dropN_eq] at hm
          exact refsL_drop _ _ _ hm
      · cases hd
    · cases hd
  | .rose ta tb, x, cs, vs, hd, hr, h1, hk => by
    unfold asCells at hd
    split at hd
    · rename_i y hy
      split at hd
      · rename_i c rest hc
        split at hd
        · rename_i ys hys
          split at hd
          · rename_i z hz
            simp only [Option.some.injEq] at hd
            subst hd
            have hdrop := RelL_drop ta.cells cs vs hr
            rw [dropN_eq] at hc
            rw [hc] at hdrop
            obtain ⟨v, vs', e, hv, hl⟩ := hdrop
            have hin : ∀ k, k ∈ refsL (c :: rest) → k ∈ refsL cs := fun k hm => refsL_drop ta.cells cs k (by rw [hc]; exact hm)
            have hmem : ∀ u, u ∈ v :: vs' → u ∈ vs := fun u hu => List.mem_of_mem_drop (by rw [e]; exact hu)
            refine (reads_rose _ _).2 ⟨vs.take ta.cells, v, vs', by rw [← e, List.take_append_drop], ?_, ?_, ?_⟩
            · refine asCells_rv hle hy (by rw [takeN_eq]; exact RelL_take _ _ _ hr) (fun u hu => h1 u (List.mem_of_mem_take hu)) (hk.sub fun k hm => ?_)
              rw [takeN_eq] at hm
              exact refsL_take _ _ _ hm
            · exact asCells_rv hle hz hl (fun u hu => h1 u (hmem u (List.mem_cons_of_mem _ hu))) (hk.sub fun k hm => hin k (by simp [refsL, hm]))
            · exact rv_one (asD1_rv hle hys hv (hk.sub fun k hm => hin k (by simp [refsL, hm]))) (h1 v (hmem v List.mem_cons_self))
          · cases hd
        · cases hd
      · cases hd
    · cases hd
  | .unit, x, cs, vs, hd, hr, h1, hk => by
    unfold asCells at hd
    split at hd
    · simp only [RelL] at hr
      subst hr
      rfl
    · cases hd
  | .vec n e, x, cs, vs, hd, hr, h1, hk => by
    unfold asCells at hd
    split at hd
    · rename_i hc
      simp only [Bool.and_eq_true, Nat.beq_eq, lenAV_eq] at hc
      obtain ⟨h2, h3⟩ := asVec_rv hle hd hr h1 hk
      exact ⟨by rw [h2]; exact hc.2, h3⟩
    · cases hd
  | .int k, x, cs, vs, hd, hr, h1, hk => one hle (by unfold asCells at hd; exact hd) hr h1 hk
  | .bool, x, cs, vs, hd, hr, h1, hk => one hle (by unfold asCells at hd; exact hd) hr h1 hk
  | .fnc, x, cs, vs, hd, hr, h1, hk => one hle (by unfold asCells at hd; exact hd) hr h1 hk
  | .any, x, cs, vs, hd, hr, h1, hk => one hle (by unfold asCells at hd; exact hd) hr h1 hk
  | .str, x, cs, vs, hd, hr, h1, hk => one hle (by unfold asCells at hd; exact hd) hr h1 hk
  | .arr e, x, cs, vs, hd, hr, h1, hk => one hle (by unfold asCells at hd; exact hd) hr h1 hk
where
  one {Ψ' : Pr} (hle : PLe Ψ Ψ') {t : Ty} {x : t.den} {cs : List AV} {vs : List Value} (hd : single h t cs = some x) (hr : RelL Ψ β cs vs) (h1 : ∀ u ∈ vs, u.oneCell' = true) (hk : Reading Ψ' β h (refsL cs)) : reads Ψ' t x vs := by
    unfold single at hd
    split at hd
    · obtain ⟨v, vs', e, hv, hl⟩ := hr
      simp only [RelL] at hl
      subst hl e
      exact rv_one (asD1_rv hle hd hv (hk.sub fun k hm => by simp [refsL, hm])) (h1 _ (by simp))
    · cases hd
  refsL_take : ∀ (n : Nat) (cs : List AV) (k : Nat), k ∈ refsL (cs.take n) → k ∈ refsL cs
    | 0, _, _, hm => by simp [refsL] at hm
    | n + 1, [], _, hm => by simpa using hm
    | n + 1, c :: cs, k, hm => by
      simp only [List.take_succ_cons, refsL, List.mem_append] at hm ⊢
      exact hm.imp id (refsL_take n cs k)
  refsL_drop : ∀ (n : Nat) (cs : List AV) (k : Nat), k ∈ refsL (cs.drop n) → k ∈ refsL cs
    | 0, _, _, hm => by simpa using hm
    | n + 1, [], _, hm => by simpa using hm
    | n + 1, c :: cs, k, hm => by
      simp only [List.drop_succ_cons] at hm
      simp only [refsL, List.mem_append]
      exact .inr (refsL_drop n cs k hm)

theorem asD_rv {Ψ' : Pr} (hle : PLe Ψ Ψ') {t : Ty} {x : t.den} {av : AV} {v : Value} (hd : asD h t av = some x) (hr : RelV Ψ β av v) (hk : Reading Ψ' β h (refs av)) : rv Ψ' t x v := by
  unfold asD at hd
  split at hd
  · rename_i cs
    split at hd
    · rename_i ha
      obtain ⟨vs, rfl, hl, h1⟩ := hr
      exact ⟨vs, asCells_rv hle hd hl h1 hk, by rw [ha]; rfl⟩
    · cases hd
  · rename_i hn
    exact asD1_rv hle hd hr (by
      have : refs av = refs1 av := by cases av <;> first | rfl | exact absurd rfl (hn _)
      rwa [this] at hk)

theorem Reading.nil {Ψ' : Pr} : Reading Ψ' β h [] := fun _ hm => by cases hm

/-! ### Fields, elements -/
theorem fieldOf_spec {t : TypeId} {f : Nat} {fd : Field} (hf : fieldOf C t f = some fd) : ∃ fs, C.P.underlying t = some (.struct fs) ∧ fs[f]? = some fd := by
  unfold fieldOf at hf
  split at hf
  · rename_i fs hu; exact ⟨fs, hu, hf⟩
  · cases hf

theorem subD_rv : ∀ {t : Ty} {x : t.den} {off sz : Nat} {ag : Bool} {av : AV} {cs : List Value}, subD t x off sz ag = some av → reads Ψ t x cs →
    ∃ t' x', av = .d t' x' ∧ t'.isAgg = ag ∧ t'.cells = sz ∧ off + sz ≤ cs.length ∧ reads Ψ t' x' ((cs.drop off).take sz)
  | .pair a b, x, off, sz, ag, av, cs, hs, hr => by
    obtain ⟨u, v, rfl, hu, hv⟩ := hr
    have lu := reads_len a _ _ hu
    have lv := reads_len b _ _ hv
    unfold subD at hs
    split at hs
    · rename_i hc
      simp only [Bool.and_eq_true, Nat.beq_eq] at hc
      obtain ⟨⟨rfl, h2⟩, rfl⟩ := hc
      simp at hs
      subst hs
      refine ⟨_, _, rfl, rfl, by simp [Ty.cells, h2], by simp; omega, ?_⟩
      rw [List.drop_zero, List.take_of_length_le (by simp; omega)]
      exact ⟨u, v, rfl, hu, hv⟩
    · split at hs
      · rename_i hc
        simp only [Nat.ble_eq] at hc
        obtain ⟨t', x', e, h1, h2, h3, h4⟩ := subD_rv hs hu
        refine ⟨t', x', e, h1, h2, by simp; omega, ?_⟩
        rw [List.drop_append_of_le_length (by omega), List.take_append_of_le_length (by simp; omega)]
        exact h4
      · split at hs
        · rename_i hc
          simp only [Nat.ble_eq] at hc
          obtain ⟨t', x', e, h1, h2, h3, h4⟩ := subD_rv hs hv
          refine ⟨t', x', e, h1, h2, by simp; omega, ?_⟩
          have : off = u.length + (off - a.cells) := by omega
          rw [this, drop_len_add]
          exact h4
        · cases hs
  | .rose a b, x, off, sz, ag, av, cs, hs, hr => by
    obtain ⟨u, s, v, rfl, hu, hv, hy⟩ := (reads_rose x cs).1 hr
    have lu := reads_len a _ _ hu
    have lv := reads_len b _ _ hv
    unfold subD at hs
    split at hs
    · rename_i hc
      simp only [Bool.and_eq_true, Nat.beq_eq] at hc
      obtain ⟨⟨rfl, h2⟩, rfl⟩ := hc
      simp at hs
      subst hs
      refine ⟨_, _, rfl, rfl, by simp [Ty.cells, h2], by simp; omega, ?_⟩
      rw [List.drop_zero, List.take_of_length_le (by simp; omega)]
      exact hr
    · split at hs
      · rename_i hc
        simp only [Nat.ble_eq] at hc
        obtain ⟨t', x', e, h1, h2, h3, h4⟩ := subD_rv hs hu
        refine ⟨t', x', e, h1, h2, by simp; omega, ?_⟩
        rw [List.drop_append_of_le_length (by omega), List.take_append_of_le_length (by simp; omega)]
        exact h4
      · split at hs
        · rename_i hc
          simp only [Bool.and_eq_true, Nat.beq_eq, Bool.not_eq_true'] at hc
          obtain ⟨⟨rfl, rfl⟩, rfl⟩ := hc
          simp at hs
          subst hs
          refine ⟨_, _, rfl, rfl, rfl, by simp; omega, ?_⟩
          rw [← lu, List.drop_left]
          exact hy
        · split at hs
          · rename_i hc
            simp only [Nat.ble_eq] at hc
            obtain ⟨t', x', e, h1, h2, h3, h4⟩ := subD_rv hs hv
            refine ⟨t', x', e, h1, h2, by simp; omega, ?_⟩
            have : off = u.length + ((off - (a.cells + 1)) + 1) := by omega
            rw [this, drop_len_add, List.drop_succ_cons]
            exact h4
          · cases hs
  | .int k, x, off, sz, ag, av, cs, hs, hr => subD_rv.leaf hs hr
  | .bool, x, off, sz, ag, av, cs, hs, hr => subD_rv.leaf hs hr
  | .fnc, x, off, sz, ag, av, cs, hs, hr => subD_rv.leaf hs hr
  | .any, x, off, sz, ag, av, cs, hs, hr => subD_rv.leaf hs hr
  | .str, x, off, sz, ag, av, cs, hs, hr => subD_rv.leaf hs hr
  | .arr _, x, off, sz, ag, av, cs, hs, hr => subD_rv.leaf hs hr
  | .vec _ _, x, off, sz, ag, av, cs, hs, hr => subD_rv.leaf hs hr
  | .unit, x, off, sz, ag, av, cs, hs, hr => subD_rv.leaf hs hr
where
  leaf {t : Ty} {x : t.den} {off sz : Nat} {ag : Bool} {av : AV} {cs : List Value} (hs : (if Nat.beq off 0 && Nat.beq t.cells sz && (t.isAgg == ag) then some (AV.d t x) else none) = some av) (hr : reads Ψ t x cs) :
      ∃ t' x', av = .d t' x' ∧ t'.isAgg = ag ∧ t'.cells = sz ∧ off + sz ≤ cs.length ∧ reads Ψ t' x' ((cs.drop off).take sz) := by
    have lc := reads_len t _ _ hr
    split at hs
    · rename_i hc
      simp only [Bool.and_eq_true, Nat.beq_eq, beq_iff_eq] at hc
      obtain ⟨⟨rfl, h2⟩, h3⟩ := hc
      simp at hs
      subst hs
      refine ⟨t, x, rfl, h3, h2, by omega, ?_⟩
      rw [List.drop_zero, List.take_of_length_le (by omega)]
      exact hr
    · cases hs

/-- What peel leaves is the same cells. -/
theorem peel_rv (off : Nat) {t : Ty} {x : t.den} {cs : List Value} (hr : reads Ψ t x cs) : ∃ t' x', peel off (.d t x) = .d t' x' ∧ t'.isAgg = t.isAgg ∧ t'.cells = t.cells ∧ reads Ψ t' x' cs := by
  unfold peel
  split
  · rename_i a y heq
    simp only [AV.d.injEq] at heq
    obtain ⟨rfl, heq⟩ := heq
    cases heq
    cases hc : (Nat.ble 1 off && a.isAgg)
    · exact ⟨_, _, rfl, rfl, rfl, hr⟩
    · simp only [Bool.and_eq_true] at hc
      obtain ⟨u, v, rfl, hu, hv⟩ := hr
      have hv : v = [] := hv
      subst hv
      refine ⟨a, _, rfl, hc.2, by simp [Ty.cells], ?_⟩
      rw [List.append_nil]
      exact hu
  · exact ⟨_, _, rfl, rfl, rfl, hr⟩
theorem subP_rv {t : Ty} {x : t.den} {off sz : Nat} {ag : Bool} {av : AV} {cs : List Value} (hs : subP t x off sz ag = some av) (hr : reads Ψ t x cs) :
    ∃ t' x', av = .d t' x' ∧ t'.isAgg = ag ∧ t'.cells = sz ∧ off + sz ≤ cs.length ∧ reads Ψ t' x' ((cs.drop off).take sz) := by
  unfold subP at hs
  split at hs
  · rename_i v hv
    obtain ⟨t', x', rfl, h1, h2, h3, h4⟩ := subD_rv hv hr
    obtain ⟨t2, x2, e, k1, k2, k4⟩ := peel_rv off h4
    simp only [Option.some.injEq] at hs
    rw [e] at hs
    exact ⟨t2, x2, hs.symm, k1.trans h1, k2.trans h2, h3, k4⟩
  · cases hs

theorem run_part {t : TypeId} {ag : Bool} {n off : Nat} {vs : List Value} (hl : C.lay t = some (ag, n)) (hle : off + n ≤ vs.length) :
    (part t vs.toArray off).run C.P w = .ok (valOf ag ((vs.drop off).take n)) w := by
  obtain ⟨hs, ha, h1⟩ := lay_spec hl
  cases ag with
  | true =>
    simp [part, ha, run_sizeOf hs, valOf]
  | false =>
    have := h1 rfl
    subst this
    have hlt : off < vs.length := by omega
    simp [part, ha, valOf, List.getElem?_eq_getElem hlt, List.getD_eq_getElem?_getD, List.getElem?_drop]

theorem field_ok {t : TypeId} {f : Nat} {av : AV} {v : Value} {r : Out} (hx : RelV Ψ β av v) (hr : afield C h t av f = some r) :
    r.heap = h ∧ r.kill = none ∧ r.need = none ∧ NOk C Ψ β w (Instr.field t v f) r.v := by
  unfold afield at hr
  split at hr
  · rename_i fd hfd
    obtain ⟨fs, hu, hfs⟩ := fieldOf_spec hfd
    split at hr
    · rename_i ag sz hlay
      split at hr
      · rename_i cs
        split at hr
        · rename_i v' hl
          have := ok0_inv hr; subst this
          obtain ⟨vs, rfl, hrel, h1⟩ := hx
          obtain ⟨ag', n, hlay', hle, hrv⟩ := loadOwn_ok hl hrel h1
          refine ⟨rfl, rfl, rfl, NOk.of_run ?_ hrv⟩
          have hp := run_part (w := w) hlay' hle
          simp [Instr.field, run_underlying hu, hfs, asAgg, hp]
        · cases hr
      · rename_i u y
        split at hr
        · rename_i hag
          split at hr
          · rename_i v' hsub
            have := ok0_inv hr; subst this
            obtain ⟨cs, hcs, e⟩ := hx
            rw [hag] at e
            simp at e
            subst e
            obtain ⟨t', x', rfl, h1, h2, h3, h4⟩ := subP_rv hsub hcs
            refine ⟨rfl, rfl, rfl, NOk.of_run ?_ (valOf_rv h4 h1.symm (fun hf => ?_))⟩
            · have hp := run_part (w := w) hlay h3
              simp [Instr.field, run_underlying hu, hfs, asAgg, hp]
            · have := (lay_spec hlay).2.2 hf
              rw [reads_len t' _ _ h4]
              omega
          · cases hr
        · cases hr
      · cases hr
    · cases hr
  · cases hr

theorem fieldAddr_ok {t : TypeId} {f : Nat} {av : AV} {v : Value} {r : Out} (hx : RelV Ψ β av v) (hr : afieldAddr C h t av f = some r) :
    r.heap = h ∧ r.kill = none ∧ r.need = none ∧ NOk C Ψ β w (Instr.fieldAt t v f) r.v := by
  unfold afieldAddr at hr
  split at hr
  · rename_i fd hfd
    obtain ⟨fs, hu, hfs⟩ := fieldOf_spec hfd
    split at hr
    · rename_i ag sz hlay
      split at hr
      · rename_i k off
        split at hr
        · rename_i hsz
          have hs := run_sizeOf (lay_spec hlay).1
          have hsz' : sz ≠ 0 := by simp only [Nat.ble_eq] at hsz; omega
          have := ok0_inv hr; subst this
          obtain ⟨g, hβ, rfl⟩ := hx
          refine ⟨rfl, rfl, rfl, NOk.of_run (v := .pointer (some ⟨g, off + fd.offset, none⟩)) ?_ ⟨g, hβ, rfl⟩⟩
          simp [Instr.fieldAt, run_underlying hu, hfs, Instr.sureAddr, fieldPlace, Addr.add_lit, hs, hsz']
        · cases hr
      · rename_i u y
        split at hr
        · rename_i hsz
          have hs := run_sizeOf (lay_spec hlay).1
          have hsz' : sz ≠ 0 := by simp only [Nat.ble_eq] at hsz; omega
          split at hr
          · rename_i u' y' hsub
            have := ok0_inv hr; subst this
            obtain ⟨g, off, cs, rfl, hcs, hp⟩ := hx
            obtain ⟨t', x', e, h1, h2, h3, h4⟩ := subP_rv hsub hcs
            simp only [AV.d.injEq] at e
            obtain ⟨rfl, e⟩ := e
            cases e
            refine ⟨rfl, rfl, rfl, NOk.of_run (v := .pointer (some ⟨g, off + fd.offset, none⟩)) ?_ ⟨g, off + fd.offset, _, rfl, h4, fun j u hj => ?_⟩⟩
            · simp [Instr.fieldAt, run_underlying hu, hfs, Instr.sureAddr, fieldPlace, Addr.add_lit, hs, hsz']
            · have := hp _ _ (sub_of_drop_take hj)
              rwa [← Nat.add_assoc] at this
          · cases hr
        · cases hr
      · cases hr
    · cases hr
  · cases hr

/-- .. it is the same in whatever world. -/
theorem fieldAddr_pure {t : TypeId} {f : Nat} {av : AV} {v : Value} {r : Out} (hx : RelV Ψ β av v) (hr : afieldAddr C h t av f = some r) :
    ∃ v', (∀ w, (Instr.fieldAt t v f).run C.P w = .ok v' w) ∧ RelV Ψ β r.v v' := by
  unfold afieldAddr at hr
  split at hr
  · rename_i fd hfd
    obtain ⟨fs, hu, hfs⟩ := fieldOf_spec hfd
    split at hr
    · rename_i ag sz hlay
      split at hr
      · rename_i k off
        split at hr
        · rename_i hsz
          have hsz' : sz ≠ 0 := by simp only [Nat.ble_eq] at hsz; omega
          have := ok0_inv hr; subst this
          obtain ⟨g, hβ, rfl⟩ := hx
          refine ⟨.pointer (some ⟨g, off + fd.offset, none⟩), fun w => ?_, ⟨g, hβ, rfl⟩⟩
          have hs := run_sizeOf (w := w) (lay_spec hlay).1
          simp [Instr.fieldAt, run_underlying hu, hfs, Instr.sureAddr, fieldPlace, Addr.add_lit, hs, hsz']
        · cases hr
      · rename_i u y
        split at hr
        · rename_i hsz
          have hsz' : sz ≠ 0 := by simp only [Nat.ble_eq] at hsz; omega
          split at hr
          · rename_i u' y' hsub
            have := ok0_inv hr; subst this
            obtain ⟨g, off, cs, rfl, hcs, hp⟩ := hx
            obtain ⟨t', x', e, h1, h2, h3, h4⟩ := subP_rv hsub hcs
            simp only [AV.d.injEq] at e
            obtain ⟨rfl, e⟩ := e
            cases e
            refine ⟨.pointer (some ⟨g, off + fd.offset, none⟩), fun w => ?_, ⟨g, off + fd.offset, _, rfl, h4, fun j u hj => ?_⟩⟩
            · have hs := run_sizeOf (w := w) (lay_spec hlay).1
              simp [Instr.fieldAt, run_underlying hu, hfs, Instr.sureAddr, fieldPlace, Addr.add_lit, hs, hsz']
            · have := hp _ _ (sub_of_drop_take hj)
              rwa [← Nat.add_assoc] at this
          · cases hr
        · cases hr
      · cases hr
    · cases hr
  · cases hr

/-! ### Equality -/
def litsD : (t : Ty) → t.den → List Lit
  | .int k, x => [.int k x]
  | .bool, x => [.bool x]
  | .str, x => [.string (strOf x).data.toList]
  | .vec _ (.int k), x => List.map (fun n : Int => Lit.int k n) x
  | .pair a b, x => litsD a x.1 ++ litsD b x.2
  | _, _ => []

theorem rdL_ints' {k : IntKind} : ∀ (l : List Int) (cs : List Value), rdL (reads Ψ (.int k)) l cs → cs = l.map (Value.int k) ∧ ∀ c ∈ l, k.has c
  | [], cs, h => by simp only [rdL] at h; subst h; simp
  | x :: l, cs, ⟨c, vs', e, ⟨hc, hk⟩, hl⟩ => by
    obtain ⟨h1, h2⟩ := rdL_ints' l vs' hl
    subst e hc h1
    refine ⟨rfl, fun c hm => ?_⟩
    rcases List.mem_cons.1 hm with rfl | hm
    · exact hk
    · exact h2 c hm

theorem has_wf {k : IntKind} {n : Int} (h : k.has n) : (Lit.int k n).wf = true := by
  unfold IntKind.has at h
  simpa [Lit.wf] using h

theorem mapM_some_of {α β' : Type} {f : α → Option β'} {g : α → β'} : ∀ (l : List α), (∀ x ∈ l, f x = some (g x)) → l.mapM f = some (l.map g)
  | [], _ => rfl
  | x :: l, h => by
    rw [List.mapM_cons, h x (by simp), mapM_some_of l (fun y hy => h y (by simp [hy]))]
    rfl

mutual
theorem keyLits_rd {P : Program} : ∀ (ty : Ty) {D : Nat} {t : TypeId} {x : ty.den} {cs : List Value}, eqOk ty = true → okT P ty t = true → P.keyTypeAt D t = true → reads Ψ ty x cs → P.keyLits D t cs = some (litsD ty x)
  | ty, 0, t, x, cs, _, _, hk, _ => by simp [Program.keyTypeAt] at hk
  | .int k, D + 1, t, x, cs, _, ht, hk, hr => by
    unfold okT at ht
    split at ht
    · rename_i k' hu
      have : k' = k := by simpa using ht
      subst this
      obtain ⟨rfl, hh⟩ := hr
      simp [Program.keyLits, hu, has_wf hh, litsD]
    · cases ht
  | .bool, D + 1, t, x, cs, _, ht, hk, hr => by
    unfold okT at ht
    split at ht
    · rename_i hu
      simp only [reads] at hr
      subst hr
      simp [Program.keyLits, hu, litsD]
    · cases ht
  | .str, D + 1, t, x, cs, _, ht, hk, hr => by
    unfold okT at ht
    split at ht
    · rename_i hu
      obtain ⟨rfl, _, hl⟩ := hr
      simp [Program.keyLits, hu, litsD, strOf_size, hl]
    · cases ht
  | .arr e, D + 1, t, x, cs, he, ht, hk, hr => by simp [eqOk] at he
  | .unit, D + 1, t, x, cs, he, ht, hk, hr => by simp [okT] at ht
  | .fnc, D + 1, t, x, cs, he, ht, hk, hr => by simp [okT] at ht
  | .rose _ _, D + 1, t, x, cs, he, ht, hk, hr => by simp [eqOk] at he
  | .any, D + 1, t, x, cs, he, ht, hk, hr => by simp [okT] at ht
  | .vec n e, D + 1, t, x, cs, he, ht, hk, hr => by
    cases e with
    | fnc => simp [eqOk] at he
    | rose _ _ => simp [eqOk] at he
    | any => simp [eqOk] at he
    | int k =>
      unfold okT at ht
      split at ht
      · rename_i m et hu
        simp only [Bool.and_eq_true] at ht
        obtain ⟨⟨⟨hm, hc⟩, hs⟩, hoe⟩ := ht
        have hm := Nat.eq_of_beq_eq_true hm
        have hc := Nat.eq_of_beq_eq_true hc
        have hs := Nat.eq_of_beq_eq_true hs
        subst hm
        obtain ⟨hlen, hd⟩ := hr
        obtain ⟨rfl, hh⟩ := rdL_ints' (Ψ := Ψ) x cs hd
        simp only [Ty.cells] at hc hs
        have hke : P.keyTypeAt D et = true := by simpa [Program.keyTypeAt, hu] using hk
        have hl : (List.map (Value.int k) x).length = P.cellsOf t := by rw [List.length_map, hs, Nat.mul_one]; exact hlen
        have hone : ∀ i ∈ List.range m, P.keyLits D et (((List.map (Value.int k) x).drop (i * P.cellsOf et)).take (P.cellsOf et)) = some [.int k (List.getD x i 0)] := by
          intro i hi
          have hi : i < List.length x := by rw [hlen]; simpa using hi
          have h2 := keyLits_rd (.int k) (D := D) (t := et) (x := (List.getD x i 0 : Int)) (cs := [.int k (List.getD x i 0)]) (by rfl) hoe hke ⟨rfl, by
            have := hh x[i] (List.getElem_mem hi)
            simpa [List.getD_eq_getElem?_getD, List.getElem?_eq_getElem hi] using this⟩
          rw [hc, Nat.mul_one]
          have e1 : ((List.map (Value.int k) x).drop i).take 1 = [.int k (List.getD x i 0)] := by
            rw [List.drop_eq_getElem_cons (by simpa using hi)]
            simp [List.getD_eq_getElem?_getD, List.getElem?_eq_getElem hi]
          rw [e1]
          exact h2
        simp only [Program.keyLits, hu, if_pos hl, mapM_some_of _ hone, Option.map_some, litsD]
        congr 1
        rw [← hlen]
        clear hone hl hd hh hlen hke hs hc hoe hu hk he
        have key : ∀ (l : List Int), ((List.range l.length).map fun i => [Lit.int k (l.getD i 0)]).flatten = l.map fun n => Lit.int k n := by
          intro l
          induction l with
          | nil => rfl
          | cons a l ih =>
            rw [List.length_cons, List.range_succ_eq_map]
            simp only [List.map_cons, List.map_map, List.flatten_cons, Function.comp_def, List.getD_cons_succ, List.getD_cons_zero]
            rw [← ih]
            rfl
        exact key x
      · cases ht
    | bool => simp [eqOk] at he
    | str => simp [eqOk] at he
    | arr _ => simp [eqOk] at he
    | vec _ _ => simp [eqOk] at he
    | unit => simp [eqOk] at he
    | pair _ _ => simp [eqOk] at he
  | .pair a b, D + 1, t, x, cs, he, ht, hk, hr => by
    unfold okT at ht
    split at ht
    · rename_i fs hu
      split at ht
      · rename_i f fs' hfs
        simp only [Bool.and_eq_true] at ht
        obtain ⟨⟨⟨⟨hs, ho⟩, hc⟩, ha⟩, hb⟩ := ht
        have hs := Nat.eq_of_beq_eq_true hs
        have ho := Nat.eq_of_beq_eq_true ho
        have hc := Nat.eq_of_beq_eq_true hc
        simp only [eqOk, Bool.and_eq_true] at he
        have hl := reads_len (.pair a b) _ _ hr
        simp only [Program.keyTypeAt, hu, Bool.and_eq_true, Array.all_eq_true'] at hk
        have hkf : ∀ f ∈ fs.toList, f.name ≠ "_" ∧ P.keyTypeAt D f.type = true := fun f hf => by
          have := hk.1.1 f (by simpa using hf)
          simpa using this
        obtain ⟨u, v, rfl, hu1, hv1⟩ := hr
        have hul := reads_len a _ _ hu1
        have h1 := keyLits_rd a (D := D) he.1 ha (hkf f (by rw [hfs]; simp)).2 hu1
        obtain ⟨ls, h2, h3⟩ := keyFields_rd (P := P) b (D := D) (fs := fs') (off := a.cells) (cs := u ++ v) he.2 hb (fun g hg => (hkf g (by rw [hfs]; simp [hg])).2) (x := x.2) (by rw [← hul]; simpa using hv1)
        have hall : fs.all (fun f => f.name != "_") = true := by
          rw [Array.all_eq_true']
          intro f hf
          simpa using (hkf f (by simpa using hf)).1
        simp only [Program.keyLits, hu]
        rw [if_pos ⟨by rw [hl, hs]; rfl, hall⟩, hfs, List.mapM_cons, ho, hc, List.drop_zero, ← hul, List.take_left, h1, h2]
        simp [h3, litsD]
      · cases ht
    · cases ht
theorem keyFields_rd {P : Program} : ∀ (ty : Ty) {D : Nat} {fs : List Field} {off : Nat} {cs : List Value} {x : ty.den}, eqOk ty = true → okF P ty fs off = true → (∀ f ∈ fs, P.keyTypeAt D f.type = true) → reads Ψ ty x (cs.drop off) →
    ∃ ls, fs.mapM (fun f => P.keyLits D f.type ((cs.drop f.offset).take (P.cellsOf f.type))) = some ls ∧ ls.flatten = litsD ty x
  | .pair a b, D, fs, off, cs, x, he, ho, hk, hr => by
    cases fs with
    | nil => simp [okF] at ho
    | cons f fs =>
      simp only [okF, Bool.and_eq_true] at ho
      obtain ⟨⟨⟨hf, hc⟩, ha⟩, hb⟩ := ho
      have hf := Nat.eq_of_beq_eq_true hf
      have hc := Nat.eq_of_beq_eq_true hc
      simp only [eqOk, Bool.and_eq_true] at he
      obtain ⟨u, v, hcs, hu1, hv1⟩ := hr
      have hul := reads_len a _ _ hu1
      have h1 := keyLits_rd a (D := D) he.1 ha (hk f (by simp)) hu1
      have hv' : cs.drop (off + a.cells) = v := by rw [← List.drop_drop, hcs, ← hul, List.drop_left]
      obtain ⟨ls, h2, h3⟩ := keyFields_rd (P := P) b (D := D) (fs := fs) (off := off + a.cells) (cs := cs) he.2 hb (fun g hg => hk g (by simp [hg])) (x := x.2) (by rw [hv']; exact hv1)
      refine ⟨litsD a x.1 :: ls, ?_, by simp [h3, litsD]⟩
      rw [List.mapM_cons, hf, hc, hcs, ← hul, List.take_left, h1, h2]
      rfl
  | .unit, D, fs, off, cs, x, he, ho, hk, hr => by
    cases fs with
    | nil => exact ⟨[], rfl, rfl⟩
    | cons f fs => simp [okF] at ho
  | .int _, _, _, _, _, _, _, ho, _, _ => by simp [okF] at ho
  | .bool, _, _, _, _, _, _, ho, _, _ => by simp [okF] at ho
  | .fnc, _, _, _, _, _, _, ho, _, _ => by simp [okF] at ho
  | .rose _ _, _, _, _, _, _, _, ho, _, _ => by simp [okF] at ho
  | .any, _, _, _, _, _, _, ho, _, _ => by simp [okF] at ho
  | .str, _, _, _, _, _, _, ho, _, _ => by simp [okF] at ho
  | .arr _, _, _, _, _, _, _, ho, _, _ => by simp [okF] at ho
  | .vec _ _, _, _, _, _, _, _, ho, _, _ => by simp [okF] at ho
end

theorem litsD_len : ∀ (ty : Ty) (x y : ty.den) (cs ds : List Value), eqOk ty = true → reads Ψ ty x cs → reads Ψ ty y ds → (litsD ty x).length = (litsD ty y).length
  | .int _, _, _, _, _, _, _, _ => rfl
  | .bool, _, _, _, _, _, _, _ => rfl
  | .str, _, _, _, _, _, _, _ => rfl
  | .unit, _, _, _, _, _, _, _ => rfl
  | .arr _, _, _, _, _, he, _, _ => by simp [eqOk] at he
  | .fnc, _, _, _, _, he, _, _ => by simp [eqOk] at he
  | .rose _ _, _, _, _, _, he, _, _ => by simp [eqOk] at he
  | .any, _, _, _, _, he, _, _ => by simp [eqOk] at he
  | .vec n e, x, y, cs, ds, he, hx, hy => by
    cases e with
    | fnc => simp [eqOk] at he
    | rose _ _ => simp [eqOk] at he
    | any => simp [eqOk] at he
    | int k =>
      show (List.map _ x).length = (List.map _ y).length
      rw [List.length_map, List.length_map, hx.1, hy.1]
    | bool => simp [eqOk] at he
    | str => simp [eqOk] at he
    | arr _ => simp [eqOk] at he
    | vec _ _ => simp [eqOk] at he
    | unit => simp [eqOk] at he
    | pair _ _ => simp [eqOk] at he
  | .pair a b, x, y, _, _, he, ⟨_, _, _, h1, h2⟩, ⟨_, _, _, h3, h4⟩ => by
    simp only [eqOk, Bool.and_eq_true] at he
    simp only [litsD, List.length_append]
    rw [litsD_len a _ _ _ _ he.1 h1 h3, litsD_len b _ _ _ _ he.2 h2 h4]

theorem litsD_inj : ∀ (ty : Ty) (x y : ty.den) (cs ds : List Value), eqOk ty = true → reads Ψ ty x cs → reads Ψ ty y ds → (litsD ty x = litsD ty y ↔ eqD ty x y = true)
  | .int k, x, y, _, _, _, _, _ => by simp [litsD, eqD]
  | .bool, x, y, _, _, _, _, _ => by simp [litsD, eqD]
  | .str, x, y, _, _, _, hx, hy => by
    simp only [litsD, eqD, decide_eq_true_eq]
    constructor
    · intro h
      simp only [List.cons.injEq, Lit.string.injEq, and_true] at h
      refine strOf_inj hx.2.1 hy.2.1 ?_
      have : (strOf x).data = (strOf y).data := Array.toList_inj.1 h
      cases hs : strOf x
      cases ht : strOf y
      rw [hs, ht] at this
      simp only at this
      rw [this]
    · intro h; rw [h]
  | .unit, x, y, _, _, _, _, _ => by simp [litsD, eqD]
  | .arr _, _, _, _, _, he, _, _ => by simp [eqOk] at he
  | .fnc, _, _, _, _, he, _, _ => by simp [eqOk] at he
  | .rose _ _, _, _, _, _, he, _, _ => by simp [eqOk] at he
  | .any, _, _, _, _, he, _, _ => by simp [eqOk] at he
  | .vec n e, x, y, cs, ds, he, hx, hy => by
    cases e with
    | fnc => simp [eqOk] at he
    | rose _ _ => simp [eqOk] at he
    | any => simp [eqOk] at he
    | int k =>
      simp only [litsD, eqD, decide_eq_true_eq]
      constructor
      · intro h
        have hinj : Function.Injective (fun n : Int => Lit.int k n) := fun a b hab => by simpa using hab
        exact (List.map_inj_right (fun a b hab => hinj hab)).1 h
      · intro h; rw [h]
    | bool => simp [eqOk] at he
    | str => simp [eqOk] at he
    | arr _ => simp [eqOk] at he
    | vec _ _ => simp [eqOk] at he
    | unit => simp [eqOk] at he
    | pair _ _ => simp [eqOk] at he
  | .pair a b, x, y, _, _, he, ⟨_, _, _, h1, h2⟩, ⟨_, _, _, h3, h4⟩ => by
    simp only [eqOk, Bool.and_eq_true] at he
    simp only [litsD, eqD, Bool.and_eq_true]
    rw [← litsD_inj a _ _ _ _ he.1 h1 h3, ← litsD_inj b _ _ _ _ he.2 h2 h4]
    constructor
    · intro h
      exact List.append_inj h (litsD_len a _ _ _ _ he.1 h1 h3)
    · rintro ⟨e1, e2⟩
      rw [e1, e2]

theorem okT_formed {P : Program} {ty : Ty} {t : TypeId} {x : ty.den} {v : Value} (ha : ty.isAgg = true) (ht : okT P ty t = true) (hr : rv Ψ ty x v) : ∃ cs, v = .agg cs.toArray ∧ reads Ψ ty x cs ∧ v.formed P t = true := by
  obtain ⟨cs, hc, hv⟩ := hr
  rw [ha] at hv
  simp only [if_true] at hv
  have hl := reads_len ty _ _ hc
  refine ⟨cs, hv, hc, ?_⟩
  subst hv
  cases ty with
  | vec n e =>
    unfold okT at ht
    split at ht
    · rename_i m et hu
      simp only [Bool.and_eq_true] at ht
      have hs := Nat.eq_of_beq_eq_true ht.1.2
      simp [Value.formed, hu, hl, hs, Ty.cells]
    · cases ht
  | pair a b =>
    unfold okT at ht
    split at ht
    · rename_i fs hu
      split at ht
      · simp only [Bool.and_eq_true] at ht
        have hs := Nat.eq_of_beq_eq_true ht.1.1.1.1
        simp [Value.formed, hu, hl, hs, Ty.cells]
      · cases ht
    · cases ht
  | rose a b =>
    unfold okT at ht
    split at ht
    · rename_i fs hu
      simp only [Bool.and_eq_true] at ht
      have hs := Nat.eq_of_beq_eq_true ht.1
      simp [Value.formed, hu, hl, hs, Ty.cells]
    · cases ht
  | unit => simp [okT] at ht
  | fnc => simp [Ty.isAgg] at ha
  | any => simp [Ty.isAgg] at ha
  | int _ => simp [Ty.isAgg] at ha
  | bool => simp [Ty.isAgg] at ha
  | str => simp [Ty.isAgg] at ha
  | arr _ => simp [Ty.isAgg] at ha

theorem binAgg_ok {op : BinOp} {xt : TypeId} {x y : Operand} {av bv : AV} {u v : Value} {r : Out} (hx : RelV Ψ β av u) (hy : RelV Ψ β bv v) (hr : abinAgg C h op xt av bv = some r) :
    r.heap = h ∧ r.kill = none ∧ r.need = none ∧ NOk C Ψ β w (do eqGuard op xt x y u v; binOp op xt u v) r.v := by
  unfold abinAgg at hr
  split at hr
  · rename_i ty hty
    split at hr
    · rename_i hc
      simp only [Bool.and_eq_true] at hc
      obtain ⟨⟨⟨⟨⟨hagg, heq⟩, hok⟩, hkt⟩, hgd⟩, hnr⟩ := hc
      have hgd : C.P.eqGuardType C.P.depth xt = false := by simpa using hgd
      have hrefs : refsA [av, bv] = [] := by
        unfold noRefs' at hnr
        split at hnr
        · assumption
        · cases hnr
      simp only [refsA, List.append_eq_nil_iff] at hrefs
      split at hr
      · rename_i a b hda hdb
        have ra : rv Ψ ty a u := asD_rv (PLe.refl _) hda hx (by rw [hrefs.1]; exact Reading.nil)
        have rb : rv Ψ ty b v := asD_rv (PLe.refl _) hdb hy (by rw [hrefs.2.1]; exact Reading.nil)
        obtain ⟨cs, rfl, hcs, hfa⟩ := okT_formed hagg hok ra
        obtain ⟨ds, rfl, hds, hfb⟩ := okT_formed hagg hok rb
        have ka := keyLits_rd (P := C.P) ty (D := 100) heq hok hkt hcs
        have kb := keyLits_rd (P := C.P) ty (D := 100) heq hok hkt hds
        obtain ⟨q, hq, hiff⟩ := run_equalIn_deep (P := C.P) 9900 100 xt hkt w 100 100 _ _ _ _ hfa hfb (by simpa [Value.cells] using ka) (by simpa [Value.cells] using kb)
        have hqe : q = eqD ty a b := by
          rw [litsD_inj ty a b cs ds heq hcs hds] at hiff
          cases q <;> cases hqq : eqD ty a b <;> simp_all
        subst hqe
        split at hr
        · have := ok0_inv hr; subst this
          exact ⟨rfl, rfl, rfl, NOk.of_run (v := .bool (eqD ty a b)) (by simp only [Sem.run_bind, run_eqGuard_agg (P := C.P) w _ xt x y cs.toArray ds.toArray hgd, Result.andThen_ok]; rw [run_eql_struct, hq]; rfl) (boolAV_rel _)⟩
        · have := ok0_inv hr; subst this
          exact ⟨rfl, rfl, rfl, NOk.of_run (v := .bool (!eqD ty a b)) (by simp only [Sem.run_bind, run_eqGuard_agg (P := C.P) w _ xt x y cs.toArray ds.toArray hgd, Result.andThen_ok]; rw [run_neq_struct, hq]; rfl) (boolAV_rel _)⟩
        · cases hr
      · cases hr
    · cases hr
  · cases hr

end Go.AM
namespace Go.AM
set_option linter.unusedVariables false
open Go.RowKit

variable {B : Nat → Prop} {w0 : World} {C : Ctx} {Ψ : Pr} {β : List Value} {h : List Blk} {w : World} {fr : List AV} {a : Act}

theorem run_indexAt {t tid : TypeId} {sz : Nat} (he : elemOf C t = some tid) (hs : C.size tid = some sz) {ad : Addr} {len cap : Nat} {k : IntKind} {i : Int} (h0 : 0 ≤ i) (h1 : i < len) :
    (Instr.indexAt t (.slice (some ad) len cap) (.int k i)).run C.P w = .ok (.pointer (some (ad.add (i.toNat * sz)))) w := by
  simp [Instr.indexAt, run_underlying (underlying_slice he), asIntOf, h0, h1, run_sizeOf hs]

theorem run_indexArr {t et : TypeId} {n sz : Nat} (ha : arrayOf C t = some (n, et)) (hs : C.size et = some sz) {ad : Addr} {k : IntKind} {i : Int} (h0 : 0 ≤ i) (h1 : i < n) :
    (Instr.indexAt t (.pointer (some ad)) (.int k i)).run C.P w = .ok (.pointer (some (ad.add (i.toNat * sz)))) w := by
  simp [Instr.indexAt, run_underlying (arrayOf_spec ha), asIntOf, Instr.sureAddr, h0, h1, run_sizeOf hs]

theorem indexArr_ok {t : TypeId} {av : AV} {v : Value} {k : IntKind} {i : Int} {r : Out} (hx : RelV Ψ β av v) (hr : aindexArr C h t av i = some r) (hp : ∀ p, r.need = some p → p) :
    r.heap = h ∧ r.kill = none ∧ NOk C Ψ β w (Instr.indexAt t v (.int k i)) r.v := by
  unfold aindexArr at hr
  split at hr
  · rename_i n et ha
    split at hr
    · rename_i sz hs
      split at hr
      · rename_i k' off
        have := okP_inv hr; subst this
        obtain ⟨h0, h1⟩ : (0 : Int) ≤ i ∧ i < (n : Int) := hp _ rfl
        obtain ⟨g, hβ, rfl⟩ := hx
        refine ⟨rfl, rfl, NOk.of_run (v := .pointer (some ⟨g, off + i.toNat * sz, none⟩)) ?_ ⟨g, hβ, rfl⟩⟩
        rw [run_indexArr ha hs h0 h1, Addr.add_lit]
      · rename_i m e xs
        split at hr
        · rename_i hc
          simp only [Bool.and_eq_true, Nat.beq_eq] at hc
          obtain ⟨hsz, rfl⟩ := hc
          have := okP_inv hr; subst this
          obtain ⟨h0, h1⟩ : (0 : Int) ≤ i ∧ i < (m : Int) := hp _ rfl
          obtain ⟨g, off, cs, rfl, ⟨hlen, hd⟩, hpr⟩ := hx
          have hlt : i.toNat < xs.length := by omega
          obtain ⟨us, hus, hget⟩ := rdL_get (reads_len e) _ _ hd i.toNat xs[i.toNat] (List.getElem?_eq_getElem hlt)
          have hD : xs.getD i.toNat (dflt e) = xs[i.toNat] := by simp [List.getD_eq_getElem?_getD, List.getElem?_eq_getElem hlt]
          refine ⟨rfl, rfl, NOk.of_run (v := .pointer (some ⟨g, off + i.toNat * sz, none⟩)) ?_ ⟨g, off + i.toNat * sz, us, rfl, by rw [hD]; exact hus, fun j u hj => ?_⟩⟩
          · rw [run_indexArr ha hs h0 h1, Addr.add_lit]
          · have := hpr _ _ (hget j u hj)
            rw [← hsz]
            rwa [← Nat.add_assoc] at this
        · cases hr
      · cases hr
    · cases hr
  · cases hr

theorem indexAddr_ok {t : TypeId} {av iv : AV} {v u : Value} {r : Out} (hi : InvH C.P B w0 Ψ β h w) (hx : RelV Ψ β av v) (hu : RelV Ψ β iv u) (hr : aindexAddr C h t av iv = some r) (hp : ∀ p, r.need = some p → p) :
    r.heap = h ∧ r.kill = none ∧ NOk C Ψ β w (Instr.indexAt t v u) r.v := by
  unfold aindexAddr at hr
  split at hr
  · rename_i tid _ i0 he
    obtain ⟨i, rfl⟩ : ∃ i : Int, i = i0 := ⟨i0, rfl⟩
    obtain ⟨rfl, hik⟩ := rv_int.1 hu
    split at hr
    · rename_i sz hs
      split at hr
      · rename_i k
        split at hr
        · rename_i tid' e xs hg
          split at hr
          · rename_i hc
            have hsz : e.cells = sz := by simpa [Nat.beq_eq] using hc
            have := okP_inv hr; subst this
            obtain ⟨h0, h1⟩ : (0 : Int) ≤ i ∧ i < (xs.length : Int) := hp _ rfl
            have hv : β[k]? = some v := hx.1
            rcases hi.blk k _ (hget_some hg (by simp)) with ⟨ad, hβ, rfl⟩ | ⟨g, cap, cur, hβ, hz, hB, hh, hn, hcm, hcs, hd⟩
            · simp at h1
              omega
            · rw [hβ] at hv
              simp at hv
              subst hv
              refine ⟨rfl, rfl, NOk.of_run (v := .pointer (some ⟨g, i.toNat * sz, none⟩)) ?_ ⟨g, _, cap, hβ, h0, h1, rfl⟩⟩
              rw [run_indexAt he hs h0 h1, Addr.add_lit]
              simp
          · cases hr
        · cases hr
      · rename_i hnsl
        split at hr
        · rename_i e xs hl
          split at hr
          · rename_i hc
            have hsz : e.cells = sz := by simpa [Nat.beq_eq] using hc
            have := okP_inv hr; subst this
            obtain ⟨h0, h1⟩ : (0 : Int) ≤ i ∧ i < (xs.length : Int) := hp _ rfl
            obtain ⟨ad, cap, rfl, _, _, h3⟩ := rv_arr.1 (asList_rv hx hl (fun k e => hnsl k e))
            have hlt : i.toNat < xs.length := by omega
            rcases h3 with rfl | ⟨cells, hd, g, off, rfl, hc'⟩
            · simp at hlt
            · obtain ⟨us, hus, hget⟩ := rdL_get (reads_len e) _ _ hd i.toNat xs[i.toNat] (List.getElem?_eq_getElem hlt)
              have hD : xs.getD i.toNat (dflt e) = xs[i.toNat] := by simp [List.getD_eq_getElem?_getD, List.getElem?_eq_getElem hlt]
              refine ⟨rfl, rfl, NOk.of_run (v := .pointer (some ⟨g, off + i.toNat * sz, none⟩)) ?_ ⟨g, off + i.toNat * sz, us, rfl, by rw [hD]; exact hus, fun j u hj => ?_⟩⟩
              · rw [run_indexAt he hs h0 h1, Addr.add_lit]
              · have := hc' _ _ (hget j u hj)
                rw [← hsz]
                rwa [← Nat.add_assoc] at this
          · cases hr
        · cases hr
    · cases hr
  · rename_i i0 he
    obtain ⟨rfl, _⟩ := rv_int.1 hu
    exact indexArr_ok hx hr hp
  · cases hr

theorem strOf_get {l : List Int} (hl : ∀ c ∈ l, 0 ≤ c ∧ c ≤ 255) {i : Nat} (hi : i < l.length) : ∃ b, (strOf l)[i]? = some b ∧ (b.toNat : Int) = l.getD i 0 ∧ IntKind.u8.has (l.getD i 0) := by
  have hsz : i < (strOf l).size := by rw [strOf_size]; exact hi
  have h1 : l.getD i 0 = l[i] := by simp [List.getD_eq_getElem?_getD, List.getElem?_eq_getElem hi]
  have h2 := hl l[i] (List.getElem_mem hi)
  refine ⟨(strOf l)[i], by simp [hsz], ?_, ?_⟩
  · rw [h1]
    have : (strOf l)[i] = UInt8.ofNat l[i].toNat := by
      show (strOf l).data[i] = _
      simp [strOf]
    rw [this]
    simp
    omega
  · rw [h1]
    unfold IntKind.has
    simp [IntKind.min, IntKind.max, IntKind.bits, IntKind.signed]
    omega

theorem index_ok {t : TypeId} {av iv : AV} {v u : Value} {r : Out} (hx : RelV Ψ β av v) (hu : RelV Ψ β iv u) (hr : aindex C h t av iv = some r) (hp : ∀ p, r.need = some p → p) :
    r.heap = h ∧ r.kill = none ∧ NOk C Ψ β w (Instr.index t v u) r.v := by
  unfold aindex at hr
  split at hr
  · rename_i s _ i0 hut
    obtain ⟨i, rfl⟩ : ∃ i : Int, i = i0 := ⟨i0, rfl⟩
    obtain ⟨rfl, hik⟩ := rv_int.1 hu
    obtain ⟨rfl, hs, hs'⟩ := rv_str.1 hx
    have := okP_inv hr; subst this
    obtain ⟨h0, h1⟩ : (0 : Int) ≤ i ∧ i < (List.length (α := Int) s : Int) := hp _ rfl
    obtain ⟨b, hb, hbn, hk⟩ := strOf_get hs (i := i.toNat) (by omega)
    refine ⟨rfl, rfl, NOk.of_run (v := .int .u8 (s.getD i.toNat 0)) ?_ (rv_int.2 ⟨rfl, hk⟩)⟩
    rw [← hbn]
    simp [Instr.index, run_underlying hut, asIntOf, h0, hb]
  · cases hr

theorem extract_ok {av : AV} {v : Value} {i : Nat} {r : Out} (hx : RelV Ψ β av v) (hr : aextract h av i = some r) :
    r.heap = h ∧ r.kill = none ∧ r.need = none ∧ NOk C Ψ β w (Instr.extract v i) r.v := by
  unfold aextract at hr
  split at hr
  · rename_i cs
    split at hr
    · rename_i hc
      have := ok0_inv hr; subst this
      obtain ⟨vs, rfl, hl⟩ := hx
      obtain ⟨u, hu, hrel⟩ := RelL_get? _ _ hl i (by simp only [Nat.ble_eq, listLen_eq] at hc; omega)
      exact ⟨rfl, rfl, rfl, NOk.of_run (v := u) (by simp [Instr.extract, hu]) hrel⟩
    · cases hr
  · cases hr

theorem rdL_ints_inv {k : IntKind} : ∀ (l : List Int) (cs : List Value), rdL (reads Ψ (.int k)) l cs → cs = l.map (Value.int k) ∧ ∀ c ∈ l, k.has c
  | [], cs, h => by simp only [rdL] at h; subst h; simp
  | x :: l, cs, ⟨c, vs', e, ⟨hc, hk⟩, hl⟩ => by
    obtain ⟨h1, h2⟩ := rdL_ints_inv l vs' hl
    subst e hc h1
    refine ⟨rfl, fun c hm => ?_⟩
    rcases List.mem_cons.1 hm with rfl | hm
    · exact hk
    · exact h2 c hm

theorem u8_bounds {c : Int} (h : IntKind.u8.has c) : 0 ≤ c ∧ c ≤ 255 := by
  unfold IntKind.has at h
  simpa [IntKind.min, IntKind.max, IntKind.bits, IntKind.signed] using h

theorem convert_ok {src dst : TypeId} {av : AV} {v : Value} {r : Out} (hi : InvH C.P B w0 Ψ β h w) (hx : RelV Ψ β av v) (hr : aconvert C h src dst av = some r) :
    r.heap = h ∧ r.kill = none ∧ r.need = none ∧ NOk C Ψ β w (convert src dst v) r.v := by
  unfold aconvert at hr
  split at hr
  · rename_i k0 k hsrc hdst
    split at hr
    · rename_i j n
      obtain ⟨rfl, hn⟩ := rv_int.1 hx
      have hrun : (convert src dst (.int j n)).run C.P w = .ok (.int k (k.wrap n)) w := by
        simp [convert, run_underlying hsrc, run_underlying hdst, Conv.intToInt]
      split at hr
      · have := ok0_inv hr; subst this
        exact ⟨rfl, rfl, rfl, NOk.of_run (by rw [hrun, wrap_has hn]) (rv_int.2 ⟨rfl, hn⟩)⟩
      · have := ok0_inv hr; subst this
        exact ⟨rfl, rfl, rfl, NOk.of_run hrun (rv_int.2 ⟨rfl, has_wrap _ _⟩)⟩
    · cases hr
  · rename_i et hsrc hdst
    split at hr
    · rename_i he
      have empty : ∀ ad cap, (convert src dst (.slice ad 0 cap)).run C.P w = .ok (.string (strOf [])) w := by
        intro ad cap
        rw [run_convert_bytes_string w src dst et ad 0 cap hsrc he hdst]
        cases ad with
        | none => simp [Conv.bytesToString]; rfl
        | some ad =>
          have hl : (loadCells ad 0).run C.P w = .ok (([] : List Int).map (Value.int .u8)).toArray w := run_loadCells_list w ad [] (by simp)
          rw [run_bytesToString w ad 0 cap [] hl]
          rfl
      have hnil : RelV Ψ β (.d .str []) (.string (strOf [])) := rv_str.2 ⟨rfl, by simp, by simp [maxLen]⟩
      split at hr
      · have := ok0_inv hr; subst this
        have hv : v = .slice none 0 0 := hx
        subst hv
        exact ⟨rfl, rfl, rfl, NOk.of_run (empty none 0) hnil⟩
      · split at hr
        · rename_i e xs hl
          split at hr
          · rename_i ys hc
            obtain ⟨hee, rfl⟩ := cast?_spec hc
            simp only [Ty.arr.injEq] at hee
            subst hee
            have := ok0_inv hr; subst this
            obtain ⟨ad, cap, rfl, h1, h2, h3⟩ := asList_rel hi hx hl
            rcases h3 with rfl | ⟨cells, g, off, hd, rfl, hcell⟩
            · exact ⟨rfl, rfl, rfl, NOk.of_run (empty ad cap) hnil⟩
            · obtain ⟨rfl, hk⟩ := rdL_ints_inv (Ψ := Ψ) xs _ hd
              refine ⟨rfl, rfl, rfl, NOk.of_run (v := .string (strOf xs)) ?_ (rv_str.2 ⟨rfl, fun c hc => u8_bounds (hk c hc), Nat.le_trans h1 h2⟩)⟩
              exact run_convert_bytes_arg w src et hsrc he g off xs.length cap xs rfl (fun i hi' => hcell i _ (by rw [List.getElem?_map, List.getElem?_eq_getElem hi']; simp [List.getD_eq_getElem?_getD, List.getElem?_eq_getElem hi'])) dst hdst
          · cases hr
        · cases hr
    · cases hr
  · cases hr

theorem arrayAt_ok {t : TypeId} {av : AV} {v : Value} {r : Out} (hx : RelV Ψ β av v) (hr : aarrayAt C h t av = some r) (hp : ∀ p, r.need = some p → p) :
    r.heap = h ∧ r.kill = none ∧ NOk C Ψ β w (Instr.arrayAt t v) r.v := by
  unfold aarrayAt at hr
  split at hr
  · rename_i n et ha
    split at hr
    · rename_i sz hs
      split at hr
      · cases hr
      · rename_i hnsl
        split at hr
        · rename_i e xs hl
          split at hr
          · rename_i hc
            simp only [Bool.and_eq_true, Nat.beq_eq, Nat.ble_eq] at hc
            obtain ⟨hsz, h1⟩ := hc
            have := okP_inv hr; subst this
            have hlen : (n : Int) ≤ xs.length := hp _ rfl
            obtain ⟨ad, cap, rfl, _, _, h3⟩ := rv_arr.1 (asList_rv hx hl (fun k e => hnsl k e))
            rcases h3 with rfl | ⟨cells, hd, g, off, rfl, hcell⟩
            · simp at hlen; omega
            · refine ⟨rfl, rfl, NOk.of_run (v := .pointer (some ⟨g, off, none⟩)) ?_ ⟨g, off, cells.take (n * e.cells), rfl, ⟨by simp; omega, rdL_take (reads_len e) _ _ n hd⟩, fun j u hj => hcell j u ?_⟩⟩
              · have : ¬ xs.length < n := by omega
                simp [Instr.arrayAt, run_underlying (arrayOf_spec ha), this]
              · rw [List.getElem?_take] at hj
                split at hj
                · exact hj
                · cases hj
          · cases hr
        · cases hr
    · cases hr
  · cases hr

theorem setCells_eq (cs : List AV) (off : Nat) (l : List AV) (hle : off + l.length ≤ cs.length) : setCells cs off l = cs.take off ++ l ++ cs.drop (off + l.length) := by
  induction l generalizing cs off with
  | nil => simp [setCells]
  | cons v l ih =>
    simp only [List.length_cons] at hle
    rw [setCells, ih _ _ (by rw [fset_eq, List.length_set]; omega), fset_eq]
    rw [List.take_set, List.drop_set]
    have h1 : (cs.take (off + 1)).set off v = cs.take off ++ [v] := by
      rw [List.set_eq_take_append_cons_drop, if_pos (by simp; omega)]
      simp [List.take_take]
    rw [h1, if_pos (by omega)]
    simp [List.append_assoc]
    congr 1
    omega

theorem RelL_setCells {cs l : List AV} {vs us : List Value} {off : Nat} (hr : RelL Ψ β cs vs) (hl : RelL Ψ β l us) (hle : off + l.length ≤ cs.length) :
    RelL Ψ β (setCells cs off l) (vs.take off ++ us ++ vs.drop (off + us.length)) := by
  rw [setCells_eq cs off l hle]
  have e := RelL_len _ _ hl
  rw [e]
  exact RelL_append _ _ _ _ (RelL_append _ _ _ _ (RelL_take _ _ _ hr) hl) (RelL_drop _ _ _ hr)

theorem splitD_rel : ∀ {t : Ty} {x : t.den} {l : List AV} {cs : List Value}, splitD t x = some l → reads Ψ t x cs → RelL Ψ β l cs
  | .pair a b, x, l, cs, hs, hr => by
    unfold splitD at hs
    split at hs
    · rename_i la ha
      split at hs
      · rename_i lb hb
        simp at hs
        subst hs
        obtain ⟨u, v, rfl, hu, hv⟩ := hr
        exact RelL_append _ _ _ _ (splitD_rel ha hu) (splitD_rel hb hv)
      · cases hs
    · cases hs
  | .rose a b, x, l, cs, hs, hr => by
    unfold splitD at hs
    split at hs
    · rename_i la ha
      split at hs
      · rename_i lb hb
        simp only [Option.some.injEq] at hs
        subst hs
        obtain ⟨u, s, v, rfl, hu, hv, hy⟩ := (reads_rose x cs).1 hr
        exact RelL_append _ _ _ _ (splitD_rel ha hu) ⟨s, v, rfl, ⟨[s], hy, rfl⟩, splitD_rel hb hv⟩
      · cases hs
    · cases hs
  | .unit, x, l, cs, hs, hr => by
    simp only [splitD, Option.some.injEq] at hs
    subst hs
    exact hr
  | .vec n e, x, l, cs, hs, hr => by
    unfold splitD at hs
    split at hs
    · rename_i hsm
      obtain ⟨h1, h2⟩ := small_spec hsm
      simp at hs
      subst hs
      obtain ⟨hlen, hd⟩ := hr
      have key : ∀ (m i : Nat) (cs : List Value), i + m = n → rdL (reads Ψ e) (List.drop i x) cs → RelL Ψ β (vecCells e x i m) cs := by
        intro m
        induction m with
        | zero =>
          intro i cs hi hd
          rw [List.drop_eq_nil_of_le (by omega)] at hd
          exact hd
        | succ m ih =>
          intro i cs hi hd
          have hlt : i < List.length x := by omega
          rw [List.drop_eq_getElem_cons hlt] at hd
          obtain ⟨c, vs', rfl, hc, hl⟩ := hd
          have hc1 := reads_len e _ _ hc
          rw [h1] at hc1
          obtain ⟨u, rfl⟩ := List.length_eq_one_iff.1 hc1
          refine ⟨u, vs', rfl, ⟨[u], ?_, by rw [h2]; rfl⟩, ih (i + 1) vs' (by omega) hl⟩
          have hD : List.getD x i (dflt e) = x[i] := by simp [List.getD_eq_getElem?_getD, List.getElem?_eq_getElem hlt]
          rw [hD]
          exact hc
      exact key n 0 cs (by omega) (by simpa using hd)
    · cases hs
  | .int k, x, l, cs, hs, hr => by
    simp only [splitD, Option.some.injEq] at hs
    subst hs
    obtain ⟨rfl, hk⟩ := hr
    exact ⟨_, [], rfl, rv_int.2 ⟨rfl, hk⟩, rfl⟩
  | .fnc, x, l, cs, hs, hr => by
    simp only [splitD, Option.some.injEq] at hs
    subst hs
    simp only [reads] at hr
    subst hr
    exact ⟨_, [], rfl, ⟨_, rfl, rfl⟩, rfl⟩
  | .any, x, l, cs, hs, hr => by
    simp only [splitD, Option.some.injEq] at hs
    subst hs
    obtain ⟨v, rfl, h1⟩ := hr
    exact ⟨_, [], rfl, ⟨[v], ⟨v, rfl, h1⟩, rfl⟩, rfl⟩
  | .bool, x, l, cs, hs, hr => by
    simp only [splitD, Option.some.injEq] at hs
    subst hs
    simp only [reads] at hr
    subst hr
    exact ⟨_, [], rfl, rv_bool.2 rfl, rfl⟩
  | .str, x, l, cs, hs, hr => by
    simp only [splitD, Option.some.injEq] at hs
    subst hs
    obtain ⟨rfl, hk⟩ := hr
    exact ⟨_, [], rfl, rv_str.2 ⟨rfl, hk⟩, rfl⟩
  | .arr e, x, l, cs, hs, hr => by
    simp only [splitD, Option.some.injEq] at hs
    subst hs
    obtain ⟨ad, cap, rfl, hk⟩ := hr
    exact ⟨_, [], rfl, rv_arr.2 ⟨ad, cap, rfl, hk⟩, rfl⟩

/-- The cells of a value. -/
theorem cellsOf'_rel (hone : ∀ (k : Nat) (u : Value), β[k]? = some u → u.oneCell' = true) {av : AV} {v : Value} {l : List AV} (hc : cellsOf' av = some l) (hr : RelV Ψ β av v) : RelL Ψ β l v.cells.toList ∧ (∀ u ∈ v.cells.toList, u.oneCell' = true) := by
  have single : ∀ {av : AV} {v : Value}, RelV Ψ β av v → v.oneCell' = true → RelL Ψ β [av] v.cells.toList ∧ (∀ u ∈ v.cells.toList, u.oneCell' = true) := by
    intro av v hr h1
    have hv : v.cells = #[v] := by cases v <;> first | rfl | simp [Value.oneCell'] at h1
    rw [hv]
    exact ⟨⟨v, [], rfl, hr, rfl⟩, fun u hu => by simp at hu; subst hu; exact h1⟩
  cases av with
  | d t x =>
    simp only [cellsOf'] at hc
    obtain ⟨cs, hcs, e⟩ := hr
    cases ht : t.isAgg with
    | true =>
      rw [ht] at e; simp at e; subst e
      simp only [Value.cells]
      exact ⟨splitD_rel hc hcs, reads_one t _ _ hcs⟩
    | false =>
      rw [ht] at e; simp at e; subst e
      have h1 := reads_one t _ _ hcs v (by simp)
      have hv : v.cells = #[v] := by cases v <;> first | rfl | simp [Value.oneCell'] at h1
      rw [hv]
      exact ⟨splitD_rel hc hcs, fun u hu => by simp at hu; subst hu; exact h1⟩
  | agg cs =>
    simp only [cellsOf', cellsOf, Option.some.injEq] at hc
    subst hc
    obtain ⟨vs, rfl, hl, h1⟩ := hr
    simp only [Value.cells]
    exact ⟨hl, h1⟩
  | junk => simp [cellsOf', cellsOf] at hc
  | und => simp [cellsOf', cellsOf] at hc
  | tup cs => simp [cellsOf', cellsOf] at hc
  | tt => simp only [cellsOf', cellsOf, Option.some.injEq] at hc; subst hc; have : v = _ := hr; subst this; exact single rfl rfl
  | ff => simp only [cellsOf', cellsOf, Option.some.injEq] at hc; subst hc; have : v = _ := hr; subst this; exact single rfl rfl
  | nils => simp only [cellsOf', cellsOf, Option.some.injEq] at hc; subst hc; have : v = _ := hr; subst this; exact single rfl rfl
  | nilf => simp only [cellsOf', cellsOf, Option.some.injEq] at hc; subst hc; have : v = _ := hr; subst this; exact single rfl rfl
  | nilp => simp only [cellsOf', cellsOf, Option.some.injEq] at hc; subst hc; have : v = _ := hr; subst this; exact single rfl rfl
  | fs e xs => simp only [cellsOf', cellsOf, Option.some.injEq] at hc; subst hc; have hr' := hr; obtain ⟨ad, rfl, _⟩ := hr'; exact single hr rfl
  | fn f cs => simp only [cellsOf', cellsOf, Option.some.injEq] at hc; subst hc; have hr' := hr; obtain ⟨ad, rfl, _⟩ := hr'; exact single hr rfl
  | bnd f cs => simp only [cellsOf', cellsOf, Option.some.injEq] at hc; subst hc; have hr' := hr; obtain ⟨ad, rfl, _⟩ := hr'; exact single hr rfl
  | sv k sz lo hi => simp only [cellsOf', cellsOf, Option.some.injEq] at hc; subst hc; have hr' := hr; obtain ⟨_, _, _, _, _, _, _, rfl⟩ := hr'; exact single hr rfl
  | own k off => simp only [cellsOf', cellsOf, Option.some.injEq] at hc; subst hc; have hr' := hr; obtain ⟨ad, _, rfl⟩ := hr'; exact single hr rfl
  | slp k sz i => simp only [cellsOf', cellsOf, Option.some.injEq] at hc; subst hc; have hr' := hr; obtain ⟨_, _, _, _, _, _, rfl⟩ := hr'; exact single hr rfl
  | rp t x => simp only [cellsOf', cellsOf, Option.some.injEq] at hc; subst hc; have hr' := hr; obtain ⟨_, _, _, rfl, _⟩ := hr'; exact single hr rfl
  | sl k => simp only [cellsOf', cellsOf, Option.some.injEq] at hc; subst hc; exact single hr (hone k v hr.1)
  | yld k => simp only [cellsOf', cellsOf, Option.some.injEq] at hc; subst hc; exact single hr (by obtain ⟨l', _, rfl⟩ := hr; rfl)

/-! ### Aggregates -/
def setV (cs : List Value) (off : Nat) : List Value → List Value
  | [] => cs
  | v :: vs => setV (cs.set off v) (off + 1) vs

theorem setV_eq (cs : List Value) (off : Nat) (l : List Value) (hle : off + l.length ≤ cs.length) : setV cs off l = cs.take off ++ l ++ cs.drop (off + l.length) := by
  induction l generalizing cs off with
  | nil => simp [setV]
  | cons v l ih =>
    simp only [List.length_cons] at hle
    rw [setV, ih _ _ (by rw [List.length_set]; omega)]
    rw [List.take_set, List.drop_set]
    have h1 : (cs.take (off + 1)).set off v = cs.take off ++ [v] := by
      rw [List.set_eq_take_append_cons_drop, if_pos (by simp; omega)]
      simp [List.take_take]
    rw [h1, if_pos (by omega)]
    simp [List.append_assoc]
    congr 1
    omega

theorem fold_setV (off : Nat) : ∀ (l : List Value) (n : Nat) (cells : Array Value),
    ((l.zipIdx n).foldl (fun cs (p : Value × Nat) => cs.setIfInBounds (off + p.2) p.1) cells).toList = setV cells.toList (off + n) l
  | [], _, _ => rfl
  | v :: l, n, cells => by
    rw [List.zipIdx_cons, List.foldl_cons, fold_setV off l (n + 1)]
    simp [setV, Nat.add_assoc]

/-- Parts that are filled in, and their values. -/
def RelP (Ψ : Pr) (β : List Value) : List (Nat × AV) → List (Nat × Value) → Prop
  | [], ps => ps = []
  | (i, av) :: r, ps => ∃ v ps', ps = (i, v) :: ps' ∧ RelV Ψ β av v ∧ RelP Ψ β r ps'

theorem evParts_rel : ∀ (l : List (Nat × Operand)) (_ : ∀ p ∈ l, RelV Ψ β (ev fr p.2) (a.eval p.2)), RelP Ψ β (evParts fr l) (l.map fun (i, x) => (i, a.eval x))
  | [], _ => rfl
  | (i, x) :: l, hev => ⟨a.eval x, _, rfl, hev (i, x) (by simp), evParts_rel l fun p hp => hev p (by simp [hp])⟩

theorem fill_rel (hone : ∀ (k : Nat) (u : Value), β[k]? = some u → u.oneCell' = true) (place : Nat → Option (Nat × Nat)) : ∀ (parts : List (Nat × AV)) (ps : List (Nat × Value)) (cs out : List AV) (cells : Array Value),
    fillA place cs parts = some out → RelP Ψ β parts ps → RelL Ψ β cs cells.toList → (∀ u ∈ cells.toList, u.oneCell' = true) →
    ∃ arr, Instr.fill place cells ps = some arr ∧ RelL Ψ β out arr.toList ∧ (∀ u ∈ arr.toList, u.oneCell' = true)
  | [], ps, cs, out, cells, hf, hp, hr, h1 => by
    simp only [fillA, Option.some.injEq] at hf
    simp only [RelP] at hp
    subst hf hp
    exact ⟨cells, rfl, hr, h1⟩
  | (_, av) :: parts, _, cs, out, cells, hf, ⟨v, ps', rfl, hv, hp⟩, hr, h1 => by
    unfold fillA at hf
    split at hf
    · cases hf
    · rename_i off size hpl
      split at hf
      · cases hf
      · rename_i l hc
        split at hf
        · rename_i hb
          simp only [Bool.and_eq_true, Nat.beq_eq, Nat.ble_eq, listLen_eq] at hb
          obtain ⟨hb1, hb2⟩ := hb
          obtain ⟨hl, hl1⟩ := cellsOf'_rel hone hc hv
          have hlen := RelL_len _ _ hl
          have hcl := RelL_len _ _ hr
          have hvs : v.cells.size = size := by rw [← Array.length_toList]; omega
          have hcs : off + v.cells.size ≤ cells.size := by rw [← Array.length_toList (xs := cells)]; omega
          have hfold : (v.cells.zipIdx.foldl (fun cs (p : Value × Nat) => cs.setIfInBounds (off + p.2) p.1) cells).toList = cells.toList.take off ++ v.cells.toList ++ cells.toList.drop (off + v.cells.toList.length) := by
            rw [← setV_eq _ _ _ (by rw [Array.length_toList, Array.length_toList]; exact hcs)]
            have := fold_setV off v.cells.toList 0 cells
            rw [Nat.add_zero] at this
            rw [← this, ← Array.toList_zipIdx, Array.foldl_toList]
          obtain ⟨arr, ha, hrel, hone'⟩ := fill_rel hone place parts ps' _ out (v.cells.zipIdx.foldl (fun cs (p : Value × Nat) => cs.setIfInBounds (off + p.2) p.1) cells) hf hp
            (by rw [hfold]; exact RelL_setCells hr hl (by omega))
            (by
              rw [hfold]
              intro u hu
              simp only [List.mem_append] at hu
              rcases hu with (hu | hu) | hu
              · exact h1 u (List.mem_of_mem_take hu)
              · exact hl1 u hu
              · exact h1 u (List.mem_of_mem_drop hu))
          refine ⟨arr, ?_, hrel, hone'⟩
          unfold Instr.fill
          simp only [hpl]
          rw [if_neg (by simp; omega)]
          exact ha
        · cases hf

theorem zero_spec {t : TypeId} {z : AV} (hz : C.zero t = some z) : ∃ i v, C.P.info? t = some i ∧ i.zero = some v ∧ z = ofV v := by
  unfold Ctx.zero at hz
  split at hz
  · rename_i i hi
    split at hz
    · rename_i v hv
      exact ⟨i, v, hi, hv, by simpa using hz.symm⟩
    · cases hz
  · cases hz

theorem build_ok {t : TypeId} {parts : Array (Nat × Operand)} {r : Out} (hone : ∀ (k : Nat) (u : Value), β[k]? = some u → u.oneCell' = true) (hev : ∀ p ∈ parts.toList, RelV Ψ β (ev fr p.2) (a.eval p.2)) (hr : abuild C h t (evParts fr parts.toList) = some r) :
    r.heap = h ∧ r.kill = none ∧ r.need = none ∧ NOk C Ψ β w (Instr.build t (parts.map fun (i, x) => (i, a.eval x))) r.v := by
  unfold abuild at hr
  split at hr
  · rename_i fs hu
    split at hr
    · rename_i zs ps hz hps
      split at hr
      · rename_i cs hf
        have := ok0_inv hr; subst this
        obtain ⟨i, z, hi, hiz, hzv⟩ := zero_spec hz
        have hzr : RelV Ψ β (.agg zs) z := by rw [hzv]; exact ofV_rel z
        obtain ⟨vs, rfl, hl, h1⟩ := hzr
        obtain ⟨arr, ha, hrel, h1'⟩ := fill_rel hone _ _ _ _ _ vs.toArray hf (evParts_rel parts.toList hev) (by simpa using hl) (by simpa using h1)
        have hb : C.P.built t (parts.map fun (i, x) => (i, a.eval x)).toList = some arr := by
          unfold Program.built
          simp only [hi, hu, hiz]
          unfold placesOf at hps
          simp only [hps]
          simpa [Value.cells] using ha
        refine ⟨rfl, rfl, rfl, NOk.of_run (run_build w t _ arr hb) ⟨arr.toList, by simp, hrel, h1'⟩⟩
      · cases hr
    · cases hr
  · rename_i n et hu
    split at hr
    · rename_i zs sz hz hs
      split at hr
      · rename_i cs hf
        have := ok0_inv hr; subst this
        obtain ⟨i, z, hi, hiz, hzv⟩ := zero_spec hz
        obtain ⟨ie, hie, hsz⟩ := size_of hs
        have hzr : RelV Ψ β (.agg zs) z := by rw [hzv]; exact ofV_rel z
        obtain ⟨vs, rfl, hl, h1⟩ := hzr
        obtain ⟨arr, ha, hrel, h1'⟩ := fill_rel hone _ _ _ _ _ vs.toArray hf (evParts_rel parts.toList hev) (by simpa using hl) (by simpa using h1)
        have hb : C.P.built t (parts.map fun (i, x) => (i, a.eval x)).toList = some arr := by
          unfold Program.built
          simp only [hi, hu, hiz, hie, hsz]
          simpa [Value.cells] using ha
        refine ⟨rfl, rfl, rfl, NOk.of_run (run_build w t _ arr hb) ⟨arr.toList, by simp, hrel, h1'⟩⟩
      · cases hr
    · cases hr
  · cases hr

/-! ### Literals of slices -/
theorem Step.alloc (Ψ : Pr) (w : World) (c : Array Value) (t : TypeId) (Ψ' : Pr) (hle : PLe Ψ Ψ') (hnew : ∀ ad v, Ψ' ad = some v → Ψ ad = some v ∨ (ad.block = w.heap.size ∧ ad.spot = none ∧ c[ad.off]? = some v)) :
    Step Ψ w Ψ' (w.alloc (.cells c t)) where
  below := (Below.refl _ _).alloc (Nat.le_refl _) _
  le := hle
  new := fun ad v hv => (hnew ad v hv).imp id fun ⟨h1, h2, h3⟩ => ⟨by omega, h2, by
    obtain ⟨b, o, s⟩ := ad
    simp only at h1 h2 h3
    subst h1 h2
    rw [World.cell?_alloc_new]
    exact h3⟩

/-- Promises of a new block. -/
def withBlock (Ψ : Pr) (n : Nat) (c : List Value) : Pr := fun ad => if ad.block = n ∧ ad.spot = none then c[ad.off]? else Ψ ad

theorem withBlock_le {Ψ : Pr} {w : World} {c : List Value} (hp : ∀ ad v, Ψ ad = some v → Pm w ad v) : PLe Ψ (withBlock Ψ w.heap.size c) := by
  intro ad v hv
  unfold withBlock
  rw [if_neg]
  · exact hv
  · rintro ⟨hb, _⟩
    have := Pm_lt (hp ad v hv)
    omega

theorem withBlock_at {Ψ : Pr} {n : Nat} {c : List Value} (i : Nat) : withBlock Ψ n c ⟨n, i, none⟩ = c[i]? := by simp [withBlock]

theorem step_block (hi : InvH C.P B w0 Ψ β h w) (c : List Value) (t : TypeId) : Step Ψ w (withBlock Ψ w.heap.size c) (w.alloc (.cells c.toArray t)) :=
  Step.alloc Ψ w c.toArray t _ (withBlock_le hi.prom) fun ad v hv => by
    unfold withBlock at hv
    split at hv
    · rename_i hc
      exact .inr ⟨hc.1, hc.2, by simpa using hv⟩
    · exact .inl hv

theorem rv_cells {t : Ty} {x : t.den} {v : Value} (hr : rv Ψ t x v) : reads Ψ t x v.cells.toList := by
  obtain ⟨cs, hc, e⟩ := hr
  cases ht : t.isAgg with
  | true => rw [ht] at e; simp at e; subst e; simpa [Value.cells] using hc
  | false =>
    rw [ht] at e; simp at e; subst e
    have h1 := reads_one t _ _ hc v (by simp)
    have hv : v.cells = #[v] := by cases v <;> first | rfl | simp [Value.oneCell'] at h1
    rw [hv]
    exact hc

theorem fill_all {e : Ty} : ∀ (xs : List e.den) (vs : List Value) (n : Nat) (parts : List (Nat × Value)) (cells : Array Value), parts.map (·.2) = vs → parts.map (·.1) = List.range' n vs.length →
    xs.length = vs.length → (∀ (i : Nat) (x : e.den) (v : Value), xs[i]? = some x → vs[i]? = some v → rv Ψ e x v) → (n + vs.length) * e.cells ≤ cells.size →
    ∃ arr us, Instr.fill (fun i => some (i * e.cells, e.cells)) cells parts = some arr ∧ rdL (reads Ψ e) xs us ∧ arr.toList = cells.toList.take (n * e.cells) ++ us ++ cells.toList.drop (n * e.cells + us.length)
  | [], [], n, parts, cells, hp, _, _, _, _ => by
    have : parts = [] := by simpa using hp
    subst this
    exact ⟨cells, [], rfl, rfl, by simp⟩
  | x :: xs, v :: vs, n, parts, cells, hp, hn, hl, hrv, hsz => by
    match parts, hp with
    | (i, v') :: parts, hp1 =>
    simp only [List.map_cons, List.cons.injEq] at hp1
    obtain ⟨rfl, hp1⟩ := hp1
    simp only [List.map_cons, List.length_cons, List.range'_succ, List.cons.injEq] at hn
    obtain ⟨rfl, hn⟩ := hn
    have hr := rv_cells (hrv 0 x v' rfl rfl)
    have hlen := reads_len e _ _ hr
    have hvs : v'.cells.size = e.cells := by rw [← hlen, Array.length_toList]
    simp only [List.length_cons] at hsz
    have hsz1 : i * e.cells + v'.cells.size ≤ cells.size := by
      rw [hvs]
      have : (i + 1) * e.cells ≤ (i + (vs.length + 1)) * e.cells := Nat.mul_le_mul_right _ (by omega)
      rw [Nat.succ_mul] at this
      omega
    have hfold : (v'.cells.zipIdx.foldl (fun cs (p : Value × Nat) => cs.setIfInBounds (i * e.cells + p.2) p.1) cells).toList = cells.toList.take (i * e.cells) ++ v'.cells.toList ++ cells.toList.drop (i * e.cells + v'.cells.toList.length) := by
      rw [← setV_eq _ _ _ (by rw [Array.length_toList, Array.length_toList]; exact hsz1)]
      have := fold_setV (i * e.cells) v'.cells.toList 0 cells
      rw [Nat.add_zero] at this
      rw [← this, ← Array.toList_zipIdx, Array.foldl_toList]
    have hsize : (v'.cells.zipIdx.foldl (fun cs (p : Value × Nat) => cs.setIfInBounds (i * e.cells + p.2) p.1) cells).size = cells.size := by
      rw [← Array.length_toList, hfold]
      simp
      omega
    obtain ⟨arr, us, h1, h2, h3⟩ := fill_all xs vs (i + 1) parts _ hp1 hn (by simpa using hl) (fun j x v hx hv => hrv (j + 1) x v (by simpa using hx) (by simpa using hv)) (by rw [hsize]; rw [show i + 1 + vs.length = i + (vs.length + 1) by omega]; exact hsz)
    refine ⟨arr, v'.cells.toList ++ us, ?_, ⟨_, us, rfl, hr, h2⟩, ?_⟩
    · unfold Instr.fill
      simp only []
      rw [if_neg (by simp [hvs]; omega)]
      exact h1
    · rw [h3, hfold]
      have e1 : (i + 1) * e.cells = i * e.cells + v'.cells.toList.length := by rw [Nat.succ_mul, hlen]
      have ht : (cells.toList.take (i * e.cells)).length = i * e.cells := by simp; omega
      rw [e1, List.append_assoc (cells.toList.take (i * e.cells)) v'.cells.toList]
      have k1 : (cells.toList.take (i * e.cells) ++ (v'.cells.toList ++ cells.toList.drop (i * e.cells + v'.cells.toList.length))).take (i * e.cells + v'.cells.toList.length) = cells.toList.take (i * e.cells) ++ v'.cells.toList := by
        conv => lhs; arg 1; rw [← ht]
        rw [take_len_add]
        simp
      have k2 : (cells.toList.take (i * e.cells) ++ (v'.cells.toList ++ cells.toList.drop (i * e.cells + v'.cells.toList.length))).drop (i * e.cells + v'.cells.toList.length + us.length) = cells.toList.drop (i * e.cells + (v'.cells.toList ++ us).length) := by
        conv => lhs; arg 1; rw [← ht]
        rw [Nat.add_assoc, drop_len_add, drop_len_add, List.drop_drop, List.length_append]
        congr 1
        omega
      rw [k1, k2]
      simp [List.append_assoc]

theorem partsOf_rel {e : Ty} : ∀ {avs : List AV} {vs : List Value} {xs : List e.den}, partsOf e h avs = some xs → RelL Ψ β avs vs → refsA avs = [] → xs.length = vs.length ∧ ∀ (i : Nat) (x : e.den) (v : Value), xs[i]? = some x → vs[i]? = some v → rv Ψ e x v
  | [], vs, xs, hp, hr, _ => by
    simp only [partsOf, Option.some.injEq] at hp
    simp only [RelL] at hr
    subst hp hr
    exact ⟨rfl, fun i x v hx => by simp at hx⟩
  | av :: avs, vs, xs, hp, hr, hn => by
    obtain ⟨v, vs', rfl, hv, hl⟩ := hr
    unfold partsOf at hp
    split at hp
    · rename_i y hy
      split at hp
      · rename_i ys hys
        simp at hp
        subst hp
        simp only [refsA, List.append_eq_nil_iff] at hn
        obtain ⟨h1, h2⟩ := partsOf_rel hys hl hn.2
        refine ⟨by simp [h1], fun i x u hx hu => ?_⟩
        cases i with
        | zero =>
          simp at hx hu
          subst hx hu
          exact asD_rv (PLe.refl _) hy hv (by rw [hn.1]; exact Reading.nil)
        | succ i => exact h2 i x u (by simpa using hx) (by simpa using hu)
      · cases hp
    · cases hp

theorem evs_rel : ∀ (l : List Operand) (_ : ∀ x ∈ l, RelV Ψ β (ev fr x) (a.eval x)), RelL Ψ β (evs fr l) (l.map a.eval)
  | [], _ => rfl
  | x :: l, hev => ⟨a.eval x, _, rfl, hev x (by simp), evs_rel l fun y hy => hev y (by simp [hy])⟩

theorem seconds_eq (l : List (Nat × Operand)) : seconds l = l.map (·.2) := by
  induction l with
  | nil => rfl
  | cons p l ih => obtain ⟨i, o⟩ := p; simp [seconds, ih]

theorem inOrder_eq : ∀ (n : Nat) (l : List (Nat × Operand)), inOrder n l = true → l.map (·.1) = List.range' n l.length
  | _, [], _ => rfl
  | n, (i, o) :: l, h => by
    simp only [inOrder, Bool.and_eq_true, Nat.beq_eq] at h
    simp [List.range'_succ, h.1, inOrder_eq (n + 1) l h.2]

theorem noRefs_eq {l : List AV} (h : noRefs l = true) : refsA l = [] := by
  unfold noRefs at h
  split at h
  · assumption
  · cases h

theorem buildSlice_run {t : TypeId} {len : Nat} {parts : Array (Nat × Operand)} {r : Out} (hi : InvH C.P B w0 Ψ β h w) (hev : ∀ p ∈ parts.toList, RelV Ψ β (ev fr p.2) (a.eval p.2)) (hr : abuildSlice C h t len parts.toList (evs fr (seconds parts.toList)) = some r) :
    ∃ (e : Ty) (xs : List e.den) (us : List Value) (tid : TypeId), r = ⟨none, .fs e xs, h, none⟩ ∧ elemOf C t = some tid ∧ (Instr.buildSlice t len (parts.map fun (i, x) => (i, a.eval x))).run C.P w = .ok (.slice (some ⟨w.heap.size, 0, none⟩) len len) (w.alloc (.cells us.toArray tid)) ∧
      rdL (reads Ψ e) xs us ∧ xs.length = len ∧ us.length = len * e.cells ∧ len ≤ maxLen := by
  unfold abuildSlice at hr
  split at hr
  · rename_i tid he
    split at hr
    · rename_i e sz hty hsz
      split at hr
      · rename_i hc
        simp only [Bool.and_eq_true, Nat.beq_eq, Nat.ble_eq, listLen_eq] at hc
        obtain ⟨⟨⟨⟨⟨hec, hord⟩, hlen⟩, hbd⟩, hbd'⟩, hnr⟩ := hc
        subst hec
        split at hr
        · rename_i xs z hxs hz
          have := ok0_inv hr; subst this
          obtain ⟨i, zv, hi', hiz, _⟩ := zero_spec hz
          have hrel := evs_rel (Ψ := Ψ) (β := β) (fr := fr) (a := a) (seconds parts.toList) (fun x hx => by
            rw [seconds_eq] at hx
            obtain ⟨p, hp, rfl⟩ := List.mem_map.1 hx
            exact hev p hp)
          obtain ⟨hxl, hxr⟩ := partsOf_rel hxs hrel (noRefs_eq hnr)
          have hvl : ((seconds parts.toList).map a.eval).length = len := by rw [RelL_len _ _ hrel]; exact hlen
          have hpl : parts.toList.length = len := by rw [← hvl, seconds_eq]; simp
          -- whatever the fresh row holds
          have hfill : ∀ cells : Array Value, cells.size = len * e.cells → ∃ arr us, Instr.fill (fun i => some (i * e.cells, e.cells)) cells (parts.toList.map fun (i, x) => (i, a.eval x)) = some arr ∧ rdL (reads Ψ e) xs us ∧ arr.toList = us := by
            intro cells hcs
            obtain ⟨arr, us, h1, h2, h3⟩ := fill_all (Ψ := Ψ) xs ((seconds parts.toList).map a.eval) 0 (parts.toList.map fun (i, x) => (i, a.eval x)) cells (by rw [seconds_eq]; simp [Function.comp_def]) (by
              have := inOrder_eq 0 _ hord
              rw [hvl, ← hpl, ← this]
              simp [Function.comp_def]) hxl hxr (by rw [hvl, hcs]; simp)
            refine ⟨arr, us, h1, h2, ?_⟩
            rw [h3]
            have hul := rdL_len (reads_len e) _ _ h2
            rw [hxl, hvl] at hul
            rw [List.drop_of_length_le (by rw [Array.length_toList]; omega)]
            simp
          have hns : ¬ (len * e.cells > 2 ^ 24) := by omega
          obtain ⟨arr, us, h1, h2, h3⟩ := hfill ((Array.range (len * e.cells)).map ((if len * e.cells = 0 then #[] else zv.cells)[· % (if len * e.cells = 0 then #[] else zv.cells).size]!)) (by simp)
          have hrun : (Instr.buildSlice t len (parts.map fun (i, x) => (i, a.eval x))).run C.P w = .ok (.slice (some ⟨w.heap.size, 0, none⟩) len len) (w.alloc (.cells us.toArray tid)) := by
            have harr : arr = us.toArray := by rw [← h3]
            subst harr
            by_cases h0 : len * e.cells = 0
            · simp only [if_pos h0] at h1
              simp [Instr.buildSlice, run_underlying (underlying_slice he), run_sizeOf hsz, h0, newRow]
              rw [h0] at h1
              have hz0 : ∀ f : Nat → Value, (Array.range 0).map f = #[] := by intro f; simp [Array.range_zero']
              rw [hz0] at h1 ⊢
              rw [h1]
              simp
            · simp only [if_neg h0] at h1
              have hns' : ¬ (16777216 < len * e.cells) := by omega
              simp [Instr.buildSlice, run_underlying (underlying_slice he), run_sizeOf hsz, h0, newRow, zeroValue, typeInfo, hi', hiz, hns']
              rw [h1]
              simp
          have hus := rdL_len (reads_len e) _ _ h2
          exact ⟨e, xs, us, tid, rfl, he, hrun, h2, by rw [hxl, hvl], by rw [hus, hxl, hvl], by simp only [maxLen]; omega⟩
        · cases hr
      · cases hr
    · cases hr
  · cases hr

theorem buildSlice_ok {t : TypeId} {len : Nat} {parts : Array (Nat × Operand)} {r : Out} (hi : InvH C.P B w0 Ψ β h w) (hev : ∀ p ∈ parts.toList, RelV Ψ β (ev fr p.2) (a.eval p.2)) (hr : abuildSlice C h t len parts.toList (evs fr (seconds parts.toList)) = some r) :
    r.heap = h ∧ r.kill = none ∧ r.need = none ∧ NOk C Ψ β w (Instr.buildSlice t len (parts.map fun (i, x) => (i, a.eval x))) r.v := by
  obtain ⟨e, xs, us, tid, rfl, he, hrun, h2, hxl, hus, hle⟩ := buildSlice_run hi hev hr
  refine ⟨rfl, rfl, rfl, _, _, _, hrun, step_block hi us tid, ⟨_, by rw [hxl], ?_⟩⟩
  exact rv_arr (β := β).2 ⟨_, _, by rw [hxl], by rw [hxl]; exact Nat.le_refl _, hle, .inr ⟨us, rdL_mono (reads_mono (withBlock_le hi.prom) e) _ _ h2, w.heap.size, 0, rfl, fun j u hj => by rw [withBlock_at, Nat.zero_add]; exact hj⟩⟩

end Go.AM
namespace Go.AM
set_option linter.unusedVariables false
open Go.RowKit

variable {B : Nat → Prop} {w0 : World} {C : Ctx} {Ψ : Pr} {β : List Value} {h : List Blk} {w : World} {fr : List AV} {a : Act}

/-- What is shown of an operation as a whole. -/
def NOp (C : Ctx) (Ψ : Pr) (β : List Value) (w : World) (s : Sem Next) (av : AV) : Prop :=
  ∃ v Ψ' w', s.run C.P w = .ok (.value v) w' ∧ Step Ψ w Ψ' w' ∧ RelV Ψ' β av v

theorem NOk.op {s : Sem Value} {av : AV} (hk : NOk C Ψ β w s av) : NOp C Ψ β w (do pure (.value (← s))) av := by
  obtain ⟨v, Ψ', w', h1, h2, h3⟩ := hk
  exact ⟨v, Ψ', w', by simp [h1], h2, h3⟩

theorem pick_ok {av bv cv : AV} {u v c : Value} {r : Out} (hc : RelV Ψ β cv c) (hx : RelV Ψ β av u) (hy : RelV Ψ β bv v) (hr : apick h cv av bv = some r) :
    r.heap = h ∧ r.kill = none ∧ NOp C Ψ β w (do pure (.value (if ← asBool c then u else v))) r.v := by
  unfold apick at hr
  split at hr
  · have := ok0_inv hr; subst this
    have : c = .bool true := hc
    subst this
    exact ⟨rfl, rfl, u, Ψ, w, by simp [asBool], Step.refl _ _, hx⟩
  · have := ok0_inv hr; subst this
    have : c = .bool false := hc
    subst this
    exact ⟨rfl, rfl, v, Ψ, w, by simp [asBool], Step.refl _ _, hy⟩
  · rename_i x
    rw [rv_bool.1 hc]
    split at hr
    · rename_i y z hy' hz'
      have e1 := RelV_bool hx hy'; have e2 := RelV_bool hy hz'
      subst e1 e2
      have := ok0_inv hr; subst this
      refine ⟨rfl, rfl, .bool (bif x then y else z), Ψ, w, ?_, Step.refl _ _, boolAV_rel _⟩
      cases x <;> simp [asBool]
    · cases hr
  · cases hr

theorem nil_ok {av : AV} {v : Value} {r : Out} (hx : RelV Ψ β av v) (hr : anil h av = some r) : r.heap = h ∧ r.kill = none ∧ r.need = none ∧ RelV Ψ β r.v v ∧ ∃ ad, v = .pointer (some ad) := by
  unfold anil at hr
  split at hr
  · have := ok0_inv hr; subst this
    have hx' := hx
    obtain ⟨g, _, rfl⟩ := hx'
    exact ⟨rfl, rfl, rfl, hx, _, rfl⟩
  · have := ok0_inv hr; subst this
    have hx' := hx
    obtain ⟨g, off, cs, rfl, _⟩ := hx'
    exact ⟨rfl, rfl, rfl, hx, _, rfl⟩
  · have := ok0_inv hr; subst this
    have hx' := hx
    obtain ⟨g, n, c, _, _, _, rfl⟩ := hx'
    exact ⟨rfl, rfl, rfl, hx, _, rfl⟩
  · cases hr

theorem map_list {α β : Type} (f : α → β) (xs : Array α) : xs.map f = (xs.toList.map f).toArray := by
  apply Array.ext'; simp

theorem builtin_len_ok {ts : Array TypeId} {ty : TypeId} {args : Array Operand} {r : Out} (hi : InvH C.P B w0 Ψ β h w) (hev : ∀ x ∈ args.toList, RelV Ψ β (ev fr x) (a.eval x))
    (hr : abuiltin C h .len ts.toList (evs fr args.toList) = some r) (hp : ∀ p, r.need = some p → p) : r.heap = h ∧ r.kill = none ∧ NOk C Ψ β w (Builtin.len_ ts ty (args.map a.eval)) r.v := by
  have hrel := evs_rel (Ψ := Ψ) (β := β) args.toList hev
  rw [map_list]
  generalize evs fr args.toList = l at *
  generalize args.toList.map a.eval = vs at *
  unfold abuiltin at hr
  split at hr <;> first | (rename_i hb; cases hb; done) | skip
  · rename_i x hb
    obtain ⟨v, vs', rfl, hv, hl⟩ := hrel
    simp only [RelL] at hl
    subst hl
    split at hr
    · rename_i t ht
      have hts : ts = #[t] := by rw [← Array.toArray_toList (xs := ts), ht]
      subst hts
      exact len_ok hi hv hr hp
    · cases hr
  · cases hr

theorem builtin_min_ok {ts : Array TypeId} {ty : TypeId} {args : Array Operand} {r : Out} (hev : ∀ x ∈ args.toList, RelV Ψ β (ev fr x) (a.eval x))
    (hr : abuiltin C h .min ts.toList (evs fr args.toList) = some r) (_hp : ∀ p, r.need = some p → p) : r.heap = h ∧ r.kill = none ∧ NOk C Ψ β w (Builtin.min_ ts ty (args.map a.eval)) r.v := by
  have hrel := evs_rel (Ψ := Ψ) (β := β) args.toList hev
  rw [map_list]
  generalize evs fr args.toList = l at *
  generalize args.toList.map a.eval = vs at *
  unfold abuiltin at hr
  split at hr <;> first | (rename_i hb; cases hb; done) | skip
  · rename_i kd n l' hb
    obtain ⟨v, vs', rfl, hv, hl⟩ := hrel
    obtain ⟨rfl, hn⟩ := rv_int.1 hv
    split at hr
    · rename_i m hm
      have := ok0_inv hr; subst this
      obtain ⟨h1, h2⟩ := foldMin_ok (C := C) (w := w) _ _ _ _ hm hl hn
      exact ⟨rfl, rfl, NOk.of_run (by simpa [Builtin.min_] using h1) (rv_int.2 ⟨rfl, h2⟩)⟩
    · cases hr
  · cases hr

theorem builtin_max_ok {ts : Array TypeId} {ty : TypeId} {args : Array Operand} {r : Out} (hev : ∀ x ∈ args.toList, RelV Ψ β (ev fr x) (a.eval x))
    (hr : abuiltin C h .max ts.toList (evs fr args.toList) = some r) (_hp : ∀ p, r.need = some p → p) : r.heap = h ∧ r.kill = none ∧ NOk C Ψ β w (Builtin.max_ ts ty (args.map a.eval)) r.v := by
  have hrel := evs_rel (Ψ := Ψ) (β := β) args.toList hev
  rw [map_list]
  generalize evs fr args.toList = l at *
  generalize args.toList.map a.eval = vs at *
  unfold abuiltin at hr
  split at hr <;> first | (rename_i hb; cases hb; done) | skip
  · rename_i kd n l' hb
    obtain ⟨v, vs', rfl, hv, hl⟩ := hrel
    obtain ⟨rfl, hn⟩ := rv_int.1 hv
    split at hr
    · rename_i m hm
      have := ok0_inv hr; subst this
      obtain ⟨h1, h2⟩ := foldMax_ok (C := C) (w := w) _ _ _ _ hm hl hn
      exact ⟨rfl, rfl, NOk.of_run (by simpa [Builtin.max_] using h1) (rv_int.2 ⟨rfl, h2⟩)⟩
    · cases hr
  · cases hr

theorem neutral_sound {o : Oper} {r : Out} (hi : InvH C.P B w0 Ψ β h w) (hev : ∀ x ∈ o.op.operands, RelV Ψ β (ev fr x) (a.eval x)) (hn : neutral o.op = true)
    (hr : aop C fr h o.op = some r) (hp : ∀ p, r.need = some p → p) : r.heap = h ∧ r.kill = none ∧ NOp C Ψ β w (execOp a.eval o) r.v := by
  obtain ⟨dst, op, ty, pos, after, guard⟩ := o
  simp only at hev hn hr
  cases op <;> simp only [neutral, Bool.false_eq_true] at hn
  case move x =>
    have := ok0_inv hr; subst this
    exact ⟨rfl, rfl, _, Ψ, w, rfl, Step.refl _ _, hev x (by simp [Op.operands])⟩
  case assign x =>
    have := ok0_inv hr; subst this
    exact ⟨rfl, rfl, _, Ψ, w, rfl, Step.refl _ _, hev x (by simp [Op.operands])⟩
  case pick c x y =>
    exact pick_ok (hev c (by simp [Op.operands])) (hev x (by simp [Op.operands])) (hev y (by simp [Op.operands])) hr
  case build t parts =>
    obtain ⟨h1, h2, _, h3⟩ := build_ok (C := C) (w := w) hi.one (fun p hp => hev p.2 (by simp only [Op.operands, List.mem_toArray]; exact List.mem_map_of_mem hp)) hr
    exact ⟨h1, h2, h3.op⟩
  case buildSlice t len parts =>
    obtain ⟨h1, h2, _, h3⟩ := buildSlice_ok (C := C) hi (fun p hp => hev p.2 (by simp only [Op.operands, List.mem_toArray]; exact List.mem_map_of_mem hp)) hr
    exact ⟨h1, h2, h3.op⟩
  case load t x =>
    obtain ⟨h1, h2, _, h3⟩ := load_ok hi (hev x (by simp [Op.operands])) hr
    exact ⟨h1, h2, h3.op⟩
  case nilCheck x =>
    obtain ⟨h1, h2, _, h3, ad, h4⟩ := nil_ok (hev x (by simp [Op.operands])) hr
    refine ⟨h1, h2, a.eval x, Ψ, w, ?_, Step.refl _ _, h3⟩
    simp [execOp, h4]
  case binOp op xt x y yt =>
    simp only [aop] at hr
    split at hr
    · rename_i r' hb
      simp at hr
      subst hr
      obtain ⟨h1, h2, _, h3⟩ := binAgg_ok (C := C) (w := w) (hev x (by simp [Op.operands])) (hev y (by simp [Op.operands])) hb
      exact ⟨h1, h2, h3.op⟩
    obtain ⟨h1, h2, h3⟩ := binop_ok (C := C) (w := w) (x := x) (y := y) (hev x (by simp [Op.operands])) (hev y (by simp [Op.operands])) hr hp
    exact ⟨h1, h2, h3.op⟩
  case unOp op xt x =>
    obtain ⟨h1, h2, h3⟩ := unop_ok (C := C) (w := w) (hev x (by simp [Op.operands])) hr hp
    exact ⟨h1, h2, h3.op⟩
  case convert src dst x =>
    obtain ⟨h1, h2, _, h3⟩ := convert_ok hi (hev x (by simp [Op.operands])) hr
    exact ⟨h1, h2, h3.op⟩
  case makeFunc f first caps =>
    cases f <;> simp only [aop, reduceCtorEq] at hr
    split at hr
    · rename_i f' hf
      have hf' : first = #[] := Array.eq_empty_of_size_eq_zero (by simpa [Nat.beq_eq] using hf)
      subst hf'
      have := ok0_inv hr; subst this
      refine ⟨rfl, rfl, .func (.func f') #[] (caps.map a.eval), Ψ, w, by simp [execOp, Instr.makeFunc], Step.refl _ _, caps.toList.map a.eval, by rw [map_list], ?_⟩
      exact evs_rel _ fun x hx => hev x (by simp [Op.operands]; simpa using hx)
    · rename_i f' hf
      split at hr
      · rename_i hc
        have hc' : caps = #[] := Array.eq_empty_of_size_eq_zero (by simpa [Nat.beq_eq] using hc)
        subst hc'
        have := ok0_inv hr; subst this
        refine ⟨rfl, rfl, .func (.func f') (first.map a.eval) #[], Ψ, w, by simp [execOp, Instr.makeFunc], Step.refl _ _, first.toList.map a.eval, by rw [map_list], ?_⟩
        exact evs_rel _ fun x hx => hev x (by simp [Op.operands]; simpa using hx)
      · cases hr
  case sliceToArrayPointer t x =>
    obtain ⟨h1, h2, h3⟩ := arrayAt_ok (w := w) (hev x (by simp [Op.operands])) hr hp
    exact ⟨h1, h2, h3.op⟩
  case slice t x lo hi' mx =>
    obtain ⟨h1, h2, h3⟩ := slice_ok (w := w) hi (hev x (by simp [Op.operands])) (RelO_of lo fun y hy => hev y (by simp only [Op.operands, Array.mem_append]; exact .inl (.inl (.inr hy))))
      (RelO_of hi' fun y hy => hev y (by simp only [Op.operands, Array.mem_append]; exact .inl (.inr hy))) (RelO_of mx fun y hy => hev y (by simp only [Op.operands, Array.mem_append]; exact .inr hy)) hr hp
    exact ⟨h1, h2, h3.op⟩
  case fieldAddr t x f =>
    obtain ⟨h1, h2, _, h3⟩ := fieldAddr_ok (C := C) (w := w) (hev x (by simp [Op.operands])) hr
    exact ⟨h1, h2, h3.op⟩
  case field t x f =>
    obtain ⟨h1, h2, _, h3⟩ := field_ok (C := C) (w := w) (hev x (by simp [Op.operands])) hr
    exact ⟨h1, h2, h3.op⟩
  case indexAddr t x ix =>
    obtain ⟨h1, h2, h3⟩ := indexAddr_ok hi (hev x (by simp [Op.operands])) (hev ix (by simp [Op.operands])) hr hp
    exact ⟨h1, h2, h3.op⟩
  case index t x ix =>
    obtain ⟨h1, h2, h3⟩ := index_ok (C := C) (w := w) (hev x (by simp [Op.operands])) (hev ix (by simp [Op.operands])) hr hp
    exact ⟨h1, h2, h3.op⟩
  case extract x i =>
    obtain ⟨h1, h2, _, h3⟩ := extract_ok (C := C) (w := w) (hev x (by simp [Op.operands])) hr
    exact ⟨h1, h2, h3.op⟩
  case call c =>
    obtain ⟨callee, args, ats⟩ := c
    have hargs : ∀ x ∈ args.toList, RelV Ψ β (ev fr x) (a.eval x) := fun x hx => hev x (by simp only [Op.operands, Call.operands, Array.mem_append]; exact .inr (by simpa using hx))
    cases callee with
    | value f => simp at hn
    | invoke r m => simp at hn
    | builtin b =>
    cases b <;> first | (simp at hn; done) | skip
    case len =>
      obtain ⟨h1, h2, h3⟩ := builtin_len_ok (ty := ty) hi hargs hr hp
      refine ⟨h1, h2, ?_⟩
      obtain ⟨v, Ψ', w', e1, e2, e3⟩ := h3
      exact ⟨v, Ψ', w', by simp [execOp, resolve, invoke, builtin, e1], e2, e3⟩
    case max =>
      obtain ⟨h1, h2, h3⟩ := builtin_max_ok (w := w) (ty := ty) hargs hr hp
      refine ⟨h1, h2, ?_⟩
      obtain ⟨v, Ψ', w', e1, e2, e3⟩ := h3
      exact ⟨v, Ψ', w', by simp [execOp, resolve, invoke, builtin, e1], e2, e3⟩
    case min =>
      obtain ⟨h1, h2, h3⟩ := builtin_min_ok (w := w) (ty := ty) hargs hr hp
      refine ⟨h1, h2, ?_⟩
      obtain ⟨v, Ψ', w', e1, e2, e3⟩ := h3
      exact ⟨v, Ψ', w', by simp [execOp, resolve, invoke, builtin, e1], e2, e3⟩

end Go.AM
namespace Go.AM
set_option linter.unusedVariables false
open Go.RowKit

variable {B : Nat → Prop} {w0 : World} {C : Ctx} {Ψ : Pr} {β : List Value} {h : List Blk} {w w' : World} {fr : List AV} {a : Act}

/-! ### A new block of our own -/
theorem getElem?_snoc {α : Type} {l : List α} {x y : α} {k : Nat} (hk : (l ++ [x])[k]? = some y) : l[k]? = some y ∨ (k = l.length ∧ y = x) := by
  rcases Nat.lt_or_ge k l.length with hlt | hge
  · left; rwa [List.getElem?_append_left hlt] at hk
  · right
    rw [List.getElem?_append_right hge] at hk
    have : k - l.length = 0 := by
      rcases Nat.eq_zero_or_pos (k - l.length) with h0 | h0
      · exact h0
      · rw [List.getElem?_eq_none (by simp; omega)] at hk; cases hk
    rw [this] at hk
    simp at hk
    exact ⟨by omega, hk.symm⟩

theorem snoc_mono {l : List Value} (u : Value) : ∀ (k : Nat) (v : Value), l[k]? = some v → (l ++ [u])[k]? = some v := by
  intro k v hk
  have hlt : k < l.length := by
    rcases Nat.lt_or_ge k l.length with h' | h'
    · exact h'
    · rw [List.getElem?_eq_none h'] at hk; cases hk
  rw [List.getElem?_append_left hlt]
  exact hk

theorem BlkR_snoc {b : Blk} {k : Nat} (u : Value) (hb : BlkR C.P B Ψ β w k b) : BlkR C.P B Ψ (β ++ [u]) w k b := by
  cases b with
  | gone => trivial
  | log ys Y own xs => exact BlkR_log hb (fun _ h => snoc_mono u _ _ h) (PLe.refl _).m (Nat.le_refl _) fun _ _ => rfl
  | lof ys Y own => exact BlkR_lof hb (fun _ h => snoc_mono u _ _ h) (PLe.refl _).m (Nat.le_refl _) fun _ _ => rfl
  | cells cs =>
    obtain ⟨g, c, e, h1, h2, h3, h4, h5⟩ := hb
    exact ⟨g, c, e, snoc_mono u _ _ h1, h2, h3, RelL_mono (PLe.refl _) (snoc_mono u) _ _ h4, h5⟩
  | grow tid e xs =>
    rcases hb with ⟨ad, h1, h2⟩ | ⟨g, cap, cur, h1, r⟩
    · exact .inl ⟨ad, snoc_mono u _ _ h1, h2⟩
    · exact .inr ⟨g, cap, cur, snoc_mono u _ _ h1, r⟩
  | kmap es =>
    obtain ⟨g, ms, cl, h1, r⟩ := hb
    exact ⟨g, ms, cl, snoc_mono u _ _ h1, r⟩
  | dmap e m =>
    obtain ⟨g, ms, cl, h1, r⟩ := hb
    exact ⟨g, ms, cl, snoc_mono u _ _ h1, r⟩
  | diter e last left =>
    obtain ⟨g, gm, ms, cl, seen, h1, r⟩ := hb
    exact ⟨g, gm, ms, cl, seen, snoc_mono u _ _ h1, r⟩
  | loop f p ph ts =>
    obtain ⟨l, r, h1, h2, h3, h4, h5, h6⟩ := hb
    exact ⟨l, r, snoc_mono u _ _ h1, h2, h3, h4, RelL_mono (PLe.refl _) (snoc_mono u) _ _ h5, h6⟩

theorem claims_snoc {b : Blk} {k g : Nat} {u : Value} (hl : k < β.length) (hc : claims (β ++ [u]) k g b) : claims β k g b := by
  cases b with
  | gone => exact hc
  | log ys Y own xs => exact hc
  | lof ys Y own => exact hc
  | cells cs =>
    simp only [claims] at *
    rwa [List.getElem?_append_left hl] at hc
  | grow tid e xs =>
    obtain ⟨n, cap, h1, h2⟩ := hc
    rw [List.getElem?_append_left hl] at h2
    exact ⟨n, cap, h1, h2⟩
  | kmap es =>
    simp only [claims] at *
    rwa [List.getElem?_append_left hl] at hc
  | dmap e m =>
    simp only [claims] at *
    rwa [List.getElem?_append_left hl] at hc
  | diter e last left =>
    simp only [claims] at *
    rwa [List.getElem?_append_left hl] at hc
  | loop f p ph ts =>
    simp only [claims] at *
    rwa [List.getElem?_append_left hl] at hc

theorem InvH.push {b : Blk} {u : Value} (hi : InvH C.P B w0 Ψ β h w) (hb : Below w.heap.size w w') (hone : u.oneCell' = true) (hnew : BlkR C.P B Ψ (β ++ [u]) w' h.length b)
    (hcl : ∀ g, claims (β ++ [u]) h.length g b → w.heap.size ≤ g) : InvH C.P B w0 Ψ (β ++ [u]) (h ++ [b]) w' := by
  have hi' : InvH C.P B w0 Ψ β h w' := hi.step ⟨hb, PLe.refl _, fun _ _ h => .inl h⟩
  have lt : ∀ {k : Nat} {b : Blk}, h[k]? = some b → k < β.length := fun {k b} hk => by
    rw [hi.len]
    rcases Nat.lt_or_ge k h.length with h' | h'
    · exact h'
    · rw [List.getElem?_eq_none h'] at hk; cases hk
  have old : ∀ {k g : Nat} {b : Blk}, h[k]? = some b → claims β k g b → g < w.heap.size := fun hk hc => (claims_lt (hi.blk _ _ hk) hc).2
  refine ⟨hi'.low, hi'.size, hi'.prom, hi'.own, by simp [hi.len], ?_, ?_, ?_, ?_⟩
  · intro k v hk
    rcases getElem?_snoc hk with h1 | ⟨_, rfl⟩
    · exact hi.one k v h1
    · exact hone
  · intro k b' hk
    rcases getElem?_snoc hk with h1 | ⟨rfl, rfl⟩
    · exact BlkR_snoc u (hi'.blk k b' h1)
    · exact hnew
  · intro k b' g hk hc ad had hsp
    rcases getElem?_snoc hk with h1 | ⟨rfl, rfl⟩
    · exact hi'.free k b' g h1 (claims_snoc (lt h1) hc) ad had hsp
    · cases hp : Ψ ad with
      | none => rfl
      | some v =>
        have := Pm_lt (hi.prom ad v hp)
        have := hcl g hc
        omega
  · intro j k bj bk g hjk hj hk hcj hck
    rcases getElem?_snoc hj with h1 | ⟨e1, rfl⟩ <;> rcases getElem?_snoc hk with h2 | ⟨e2, rfl⟩
    · exact hi.sep j k bj bk g hjk h1 h2 (claims_snoc (lt h1) hcj) (claims_snoc (lt h2) hck)
    · subst e2
      have := old h1 (claims_snoc (lt h1) hcj)
      have := hcl g hck
      omega
    · subst e1
      have := old h2 (claims_snoc (lt h2) hck)
      have := hcl g hcj
      omega
    · omega

/-- What is shown of an operation that may lay blocks of our own or write them. -/
def EOp (C : Ctx) (B : Nat → Prop) (w0 : World) (Ψ : Pr) (w : World) (s : Sem Next) (r : Out) (fs : List (List AV)) (acts : List Act) : Prop :=
  ∃ n v β' w', s.run C.P w = .ok n w' ∧ (n = .value v ∨ (n = .skip ∧ v = undef)) ∧ InvH C.P B w0 Ψ β' (match r.kill with | none => r.heap | some k => subH k .junk r.heap) w' ∧
    RelF Ψ β' (match r.kill with | none => fs | some k => subF k .junk fs) acts ∧ RelV Ψ β' r.v v

theorem alloc_own {cs : List AV} {c : Array Value} (hi : InvH C.P B w0 Ψ β h w) (t : TypeId) (hl : RelL Ψ β cs c.toList) (h1 : ∀ u ∈ c.toList, u.oneCell' = true) :
    InvH C.P B w0 Ψ (β ++ [.pointer (some ⟨w.heap.size, 0, none⟩)]) (h ++ [.cells cs]) (w.alloc (.cells c t)) := by
  have hn : (β ++ [Value.pointer (some ⟨w.heap.size, 0, none⟩)])[h.length]? = some (.pointer (some ⟨w.heap.size, 0, none⟩)) := by
    rw [← hi.len]; simp
  refine hi.push ((Below.refl _ _).alloc (Nat.le_refl _) _) rfl ⟨w.heap.size, c, t, hn, heap_alloc_new w _, out_new hi.size, RelL_mono (PLe.refl _) (snoc_mono _) _ _ hl, h1⟩ ?_
  intro g hc
  simp only [claims] at hc
  rw [hn] at hc
  simp at hc
  omega

theorem alloc_ok {t : TypeId} {r : Out} {fs : List (List AV)} {acts : List Act} (hi : InvH C.P B w0 Ψ β h w) (hf : RelF Ψ β fs acts) (hr : aalloc C h t = some r) :
    EOp C B w0 Ψ w (do pure (.value (← Instr.alloc t true (.tuple #[])))) r fs acts := by
  unfold aalloc at hr
  split at hr
  · rename_i z hz
    obtain ⟨i, v, hii, hiz, rfl⟩ := zero_spec hz
    split at hr
    · rename_i cs hc
      simp at hr
      subst hr
      obtain ⟨hl, h1⟩ := cellsOf'_rel hi.one hc (ofV_rel v)
      refine ⟨.value (.pointer (some ⟨w.heap.size, 0, none⟩)), _, _, w.alloc (.cells v.cells t), ?_, .inl rfl, alloc_own hi t hl h1, RelF_mono (PLe.refl _) (snoc_mono _) _ _ hf, ?_⟩
      · simp [Instr.alloc, zeroValue, typeInfo, hii, hiz, newVar, newRow]
      · rw [hlen_eq]
        exact ⟨w.heap.size, by rw [← hi.len]; simp, rfl⟩
    · split at hr
      · rename_i hz1
        simp at hr
        subst hr
        have h1' : v.oneCell' = true := by
          unfold zeroOne at hz1
          rw [hii] at hz1
          simp only [hiz] at hz1
          exact hz1
        have hcl : v.cells = #[v] := by cases v <;> first | rfl | (simp [Value.oneCell'] at h1')
        have hl : RelL Ψ β [.junk] v.cells.toList := by rw [hcl]; exact ⟨v, [], rfl, trivial, rfl⟩
        have h1 : ∀ u ∈ v.cells.toList, u.oneCell' = true := by rw [hcl]; intro u hu; simp at hu; rw [hu]; exact h1'
        refine ⟨.value (.pointer (some ⟨w.heap.size, 0, none⟩)), _, _, w.alloc (.cells v.cells t), ?_, .inl rfl, alloc_own hi t hl h1, RelF_mono (PLe.refl _) (snoc_mono _) _ _ hf, ?_⟩
        · simp [Instr.alloc, zeroValue, typeInfo, hii, hiz, newVar, newRow]
        · rw [hlen_eq]
          exact ⟨w.heap.size, by rw [← hi.len]; simp, rfl⟩
      · cases hr
  · cases hr

theorem box_ok {t : TypeId} {av : AV} {v : Value} {r : Out} {fs : List (List AV)} {acts : List Act} (hi : InvH C.P B w0 Ψ β h w) (hf : RelF Ψ β fs acts) (hx : RelV Ψ β av v) (hr : abox h av = some r) :
    EOp C B w0 Ψ w (do pure (.value (← Instr.box t v))) r fs acts := by
  unfold abox at hr
  split at hr
  · rename_i cs hc
    simp at hr
    subst hr
    obtain ⟨hl, h1⟩ := cellsOf'_rel hi.one hc hx
    refine ⟨.value (.pointer (some ⟨w.heap.size, 0, none⟩)), _, _, w.alloc (.cells v.cells t), ?_, .inl rfl, alloc_own hi t hl h1, RelF_mono (PLe.refl _) (snoc_mono _) _ _ hf, ?_⟩
    · simp [Instr.box, newVar, newRow]
    · rw [hlen_eq]
      exact ⟨w.heap.size, by rw [← hi.len]; simp, rfl⟩
  · cases hr

/-! ### append -/
theorem byteCells_strOf {l : List Int} (hl : ∀ c ∈ l, 0 ≤ c ∧ c ≤ 255) : byteCells (strOf l) = l.map (Value.int .u8) := by
  unfold byteCells
  rw [strOf_toList, List.map_map]
  apply List.map_congr_left
  intro c hc
  have := hl c hc
  simp
  omega

theorem rdL_ints {k : IntKind} : ∀ (l : List Int), (∀ c ∈ l, k.has c) → rdL (reads Ψ (.int k)) l (l.map (Value.int k))
  | [], _ => rfl
  | c :: l, h => ⟨[.int k c], l.map (Value.int k), rfl, ⟨rfl, h c (by simp)⟩, rdL_ints l fun d hd => h d (by simp [hd])⟩

theorem has_u8 {c : Int} (h : 0 ≤ c ∧ c ≤ 255) : IntKind.u8.has c := by
  unfold IntKind.has
  simp [IntKind.min, IntKind.max, IntKind.bits, IntKind.signed]
  omega

theorem tail_src {e : Ty} {ys : List e.den} {tx : TypeId} {y : AV} {v : Value} (hi : InvH C.P B w0 Ψ β h w) (hy : RelV Ψ β y v) (ht : asTail C h e tx y = some ys) :
    ∃ news, Src C.P e.cells tx v ys.length news w ∧ rdL (reads Ψ e) ys news := by
  unfold asTail at ht
  split at ht
  · rename_i u hu
    simp at ht
    subst ht
    have : v = .slice none 0 0 := hy
    subst this
    exact ⟨[], Src.ofNil w hu 0, rfl⟩
  · rename_i l hu
    obtain ⟨he, rfl⟩ := cast?_spec ht
    simp only [Ty.arr.injEq] at he
    subst he
    obtain ⟨rfl, hl, hl'⟩ := rv_str.1 hy
    refine ⟨byteCells (strOf l), ?_, ?_⟩
    · have := Src.ofString w hu (strOf l)
      rw [strOf_size] at this
      exact this
    · rw [byteCells_strOf hl]
      exact rdL_ints l fun c hc => has_u8 (hl c hc)
  · rename_i u x hu hx
    split at ht
    · rename_i e' xs hl
      obtain ⟨he, rfl⟩ := cast?_spec ht
      simp only [Ty.arr.injEq] at he
      subst he
      obtain ⟨ad, cap, rfl, h1, h2, h3⟩ := asList_rel hi hy hl
      rcases h3 with rfl | ⟨cells, g, off, hd, rfl, hc⟩
      · refine ⟨[], ?_, rfl⟩
        cases ad with
        | none => exact Src.ofNil w hu cap
        | some ad => exact Src.ofSlice w hu ad 0 cap [] (by simp) (by simp) (by simp)
      · refine ⟨cells, Src.ofSlice w hu ⟨g, off, none⟩ xs.length cap cells (rdL_len (reads_len e') _ _ hd) (fun j u hj => ?_) (rdL_one (reads_one e') _ _ hd), hd⟩
        rw [Addr.add_lit]
        exact hc j u hj
    · cases ht
  · cases ht

theorem zeroOk_spec {e : Ty} {v : Value} (hz : zeroOk e (ofV v) = true) : v.cells.size = e.cells := by
  unfold zeroOk at hz
  split at hz
  · rename_i l hc
    obtain ⟨hl, _⟩ := cellsOf'_rel (Ψ := fun _ => none) (β := []) (by simp) hc (ofV_rel v)
    have := RelL_len _ _ hl
    rw [← Array.length_toList, this, ← listLen_eq]
    simpa [Nat.beq_eq] using hz
  · cases hz

/-- What the type's row says, for an append. -/
structure AppT (C : Ctx) (t tid : TypeId) (e : Ty) (i : TypeInfo) (z : Value) : Prop where
  ht : C.P.underlying t = some (.slice tid)
  hi : C.P.info? tid = some i
  hz : i.zero = some z
  hs : i.size = e.cells
  hc : z.cells.size = e.cells

/-- The row of a slice that had to be laid anew. -/
def newRowOf (w : World) (n cap0 : Nat) (tid : TypeId) (z : Value) (vs : List Value) : Array Value :=
  vs.toArray ++ Builtin.zeroCells z.cells (grownCap w n cap0 tid - n)

theorem append_new {t tx ty tid : TypeId} {e : Ty} {i : TypeInfo} {z : Value} (hT : AppT C t tid e i z) (base : Option Addr) (n cap0 : Nat) (olds : List Value) (hol : olds.length = n * e.cells)
    (hold : (Builtin.firstCells e.cells n (.slice base n cap0)).run C.P w.drew = .ok olds.toArray w.drew) {x : Value} {m : Nat} {news : List Value} (hs : Src C.P e.cells tx x m news w)
    (hg : cap0 < n + m) (hroom : roomP C tid (n + m)) :
    (Builtin.append_ #[t, tx] ty #[.slice base n cap0, x]).run C.P w =
      .ok (.slice (some ⟨w.heap.size, 0, none⟩) (n + m) (grownCap w (n + m) cap0 tid)) (w.drew.alloc (.cells (newRowOf w (n + m) cap0 tid z (olds ++ news)) tid)) ∧
    n + m ≤ grownCap w (n + m) cap0 tid ∧ grownCap w (n + m) cap0 tid ≤ maxLen ∧ (newRowOf w (n + m) cap0 tid z (olds ++ news)).size = grownCap w (n + m) cap0 tid * e.cells ∧
    (newRowOf w (n + m) cap0 tid z (olds ++ news)).toList.take ((n + m) * e.cells) = olds ++ news := by
  obtain ⟨h1, h2⟩ := hroom
  have hb : C.P.bytesOf tid = i.bytes := by simp [Program.bytesOf, hT.hi]
  rw [hb] at h1
  have hlen : (olds ++ news).length = (n + m) * e.cells := by rw [List.length_append, hol, hs.newsLen, Nat.add_mul]
  have hge := grownCap_ge w (n + m) cap0 tid
  have hle := grownCap_le_maxLen w (n + m) cap0 tid (by simp only [maxLen]; omega)
  refine ⟨?_, hge, hle, ?_, ?_⟩
  · exact run_append_grow_src w t tx ty tid i z hT.ht hT.hi hT.hz base n cap0 olds (by rw [hT.hs]; exact hold) x m news (by rw [hT.hs]; exact hs) hg (by omega) (growslice_fits hg h1)
  · simp only [newRowOf, Array.size_append, List.size_toArray, size_zeroCells, hT.hc, hlen, ← Nat.add_mul]
    congr 1
    omega
  · simp only [newRowOf, Array.toList_append]
    rw [← hlen]
    exact List.take_left

theorem grownCap_pos {w : World} {n cap0 : Nat} {tid : TypeId} (h : 0 < n) : grownCap w n cap0 tid ≠ 0 := by
  have := grownCap_ge w n cap0 tid
  omega

theorem BelowS.grown {w1 w2 : World} {row : Option Nat} (h : BelowS B w0 w1) (hg : w1.grownBy w2 row) (hs : ∀ k, B k → k < w1.heap.size) (hr : ∀ g, row = some g → ¬ B g) : BelowS B w0 w2 :=
  h.trans ⟨hg.os, hg.tape, hg.output, hg.size, fun k hk => hg.block k (hs k hk) fun e => hr k e.symm hk⟩
theorem below_new (w : World) (o : Obj) : Below w.heap.size w (w.drew.alloc o) := ((Below.refl _ w).drew).alloc (Nat.le_refl _) o

/-- The new row is a slice of our own. -/
theorem blk_new {e : Ty} {xs : List e.den} {tid : TypeId} {z : Value} {k n cap0 : Nat} {vs : List Value} (hB : (∀ k, B k → k < w.heap.size)) (hn : xs.length = n) (h0 : 0 < n)
    (hge : n ≤ grownCap w n cap0 tid) (hle : grownCap w n cap0 tid ≤ maxLen) (hsz : (newRowOf w n cap0 tid z vs).size = grownCap w n cap0 tid * e.cells) (htk : (newRowOf w n cap0 tid z vs).toList.take (n * e.cells) = vs)
    (hd : rdL (reads Ψ e) xs vs) (hβ : β[k]? = some (.slice (some ⟨w.heap.size, 0, none⟩) n (grownCap w n cap0 tid))) :
    BlkR C.P B Ψ β (w.drew.alloc (.cells (newRowOf w n cap0 tid z vs) tid)) k (.grow tid e xs) := by
  subst hn
  exact .inr ⟨w.heap.size, _, _, hβ, grownCap_pos h0, out_new hB, heap_alloc_new w.drew _, hge, hle, hsz, by rw [htk]; exact hd⟩

/-- append to an empty slice whose capacity is 0. -/
theorem append_empty {t tx ty tid : TypeId} {e : Ty} {i : TypeInfo} {z : Value} (hT : AppT C t tid e i z) (base : Option Addr) {x : Value} {ys : List e.den} {news : List Value} (hs : Src C.P e.cells tx x ys.length news w)
    (hd : rdL (reads Ψ e) ys news) (hB : (∀ k, B k → k < w.heap.size)) (hroom : roomP C tid ys.length) :
    ∃ u w', (Builtin.append_ #[t, tx] ty #[.slice base 0 0, x]).run C.P w = .ok u w' ∧ Below w.heap.size w w' ∧ u.oneCell' = true ∧
      (∀ (β' : List Value) (k : Nat), β'[k]? = some u → BlkR C.P B Ψ β' w' k (.grow tid e ys)) ∧ (∀ (β' : List Value) (k g : Nat), β'[k]? = some u → claims β' k g (.grow tid e ys) → w.heap.size ≤ g) := by
  by_cases h0 : ys.length = 0
  · have hys : ys = [] := List.eq_nil_of_length_eq_zero h0
    subst hys
    have hnews : news = [] := List.eq_nil_of_length_eq_zero (by simpa using hs.newsLen)
    subst hnews
    refine ⟨.slice base 0 0, w, ?_, Below.refl _ _, rfl, fun β' k hk => .inl ⟨base, hk, rfl⟩, fun β' k g hk hc => ?_⟩
    · have hcells := hs.cells
      rw [← hT.hs] at hcells
      simp only [List.length_nil] at hcells
      rcases hs.kind with ⟨e', hk⟩ | hk <;> cases base <;> simp [Builtin.append_, run_underlying hT.ht, run_underlying hk, sizeOf, typeInfo, hT.hi, hs.len, hcells, storeCells]
    · obtain ⟨n, cap, hz, hc⟩ := hc
      rw [hk] at hc
      simp at hc
      omega
  · have hn := append_new (ty := ty) hT base 0 0 [] (by simp) (by
      cases base <;> simp [Builtin.firstCells, loadCells, loadCellsFrom]) hs (by omega) (by rw [Nat.zero_add]; exact hroom)
    simp only [Nat.zero_add, List.nil_append] at hn
    obtain ⟨hrun, hge, hle, hsz, htk⟩ := hn
    refine ⟨_, _, hrun, below_new w _, rfl, fun β' k hk => blk_new hB rfl (by omega) hge hle hsz htk hd hk, fun β' k g hk hc => ?_⟩
    obtain ⟨n, cap, hz, hc⟩ := hc
    rw [hk] at hc
    simp at hc
    omega

/-- append to an own row that is not empty or has room. -/
theorem append_row {t tx ty tid : TypeId} {e : Ty} {i : TypeInfo} {z : Value} (hT : AppT C t tid e i z) {g cap : Nat} {cur : Array Value} {xs : List e.den} (hz : cap ≠ 0) (hBg : ¬ B g) (hh : w.heap[g]? = some (.cells cur tid (0, 0)))
    (_hn : xs.length ≤ cap) (hcm : cap ≤ maxLen) (hcs : cur.size = cap * e.cells) (hdx : rdL (reads Ψ e) xs (cur.toList.take (xs.length * e.cells))) {x : Value} {ys : List e.den} {news : List Value} (hs : Src C.P e.cells tx x ys.length news w)
    (hd : rdL (reads Ψ e) ys news) (hB : (∀ k, B k → k < w.heap.size)) (hroom : roomP C tid (xs.length + ys.length)) :
    ∃ u w', (Builtin.append_ #[t, tx] ty #[.slice (some ⟨g, 0, none⟩) xs.length cap, x]).run C.P w = .ok u w' ∧ w.grownBy w' (some g) ∧ u.oneCell' = true ∧
      (∀ (β' : List Value) (k : Nat), β'[k]? = some u → BlkR C.P B Ψ β' w' k (.grow tid e (xs ++ ys))) ∧ (∀ (β' : List Value) (k g' : Nat), β'[k]? = some u → claims β' k g' (.grow tid e (xs ++ ys)) → g' = g ∨ w.heap.size ≤ g') := by
  have hlx : (cur.toList.take (xs.length * e.cells)).length = xs.length * e.cells := rdL_len (reads_len e) _ _ hdx
  by_cases hr : xs.length + ys.length ≤ cap
  · -- in place
    have hfit : 0 + xs.length * e.cells + news.length ≤ cur.size := by
      rw [hs.newsLen, hcs, Nat.zero_add, ← Nat.add_mul]
      exact Nat.mul_le_mul_right _ hr
    have hst := run_storeCells_at C.P g (xs.length * e.cells) tid news 0 cur w hh (by simp only [Nat.add_zero]; omega) hs.one
    simp only [Nat.add_zero] at hst
    have hcells := hs.cells
    refine ⟨.slice (some ⟨g, 0, none⟩) (xs.length + ys.length) cap, w.setRow g (cur.toList.take (xs.length * e.cells) ++ news ++ cur.toList.drop (xs.length * e.cells + news.length)).toArray, ?_,
      ⟨rfl, rfl, rfl, by simp, fun k _ hk => setRow_other w g k _ (fun e => hk (by simp [e]))⟩, rfl, fun β' k hk => ?_, fun β' k g' hk hc => ?_⟩
    · rw [← hT.hs] at hst hcells
      rw [← hT.hs]
      rcases hs.kind with ⟨e', hk⟩ | hk <;> simp [Builtin.append_, run_underlying hT.ht, run_underlying hk, sizeOf, typeInfo, hT.hi, hs.len, hr, hcells, Addr.add_lit, hst]
    · refine .inr ⟨g, cap, _, by rw [hk]; simp, hz, hBg, setRow_heap w g cur _ tid _ hh, by simpa using hr, hcm, ?_, ?_⟩
      · simp only [List.size_toArray, List.length_append, hlx, List.length_drop, Array.length_toList]
        omega
      · simp only [List.length_append]
        have e1 : (xs.length + ys.length) * e.cells = (cur.toList.take (xs.length * e.cells) ++ news).length + 0 := by
          rw [List.length_append, hlx, hs.newsLen, Nat.add_mul, Nat.add_zero]
        rw [e1, take_len_add]
        simp only [List.take_zero, List.append_nil]
        exact rdL_append _ _ _ _ hdx hd
    · left
      obtain ⟨n, cap', hz', hc⟩ := hc
      rw [hk] at hc
      simp at hc
      exact hc.1.symm
  · -- a new row
    have hold : (Builtin.firstCells e.cells xs.length (.slice (some ⟨g, 0, none⟩) xs.length cap)).run C.P w.drew = .ok (cur.toList.take (xs.length * e.cells)).toArray w.drew := by
      refine run_firstCells_some (P := C.P) w.drew e.cells xs.length ⟨g, 0, none⟩ xs.length cap _ hlx (fun j v hj => ?_)
      rw [Addr.add_lit, World.cell?_drew, cell_of_heap hh, Nat.zero_add]
      rw [List.getElem?_take] at hj
      split at hj
      · simpa using hj
      · cases hj
    obtain ⟨hrun, hge, hle, hsz, htk⟩ := append_new (ty := ty) hT (some ⟨g, 0, none⟩) xs.length cap _ hlx hold hs (by omega) hroom
    refine ⟨_, _, hrun, ⟨rfl, rfl, rfl, by simp, fun k hk _ => Below.heap_alloc w.drew _ k hk⟩, rfl, fun β' k hk => ?_, fun β' k g' hk hc => ?_⟩
    · exact blk_new hB (by simp) (by omega) hge hle hsz htk (rdL_append _ _ _ _ hdx hd) hk
    · right
      obtain ⟨n, cap', hz', hc⟩ := hc
      rw [hk] at hc
      simp at hc
      omega

theorem subH_get (k : Nat) (r : AV) : ∀ (h : List Blk) (j : Nat) (b : Blk), (subH k r h)[j]? = some b → ∃ b', h[j]? = some b' ∧ b = subB k r b'
  | [], j, b, hj => by simp [subH] at hj
  | b0 :: h, 0, b, hj => by
    refine ⟨b0, rfl, ?_⟩
    cases b0 <;> simp [subH] at hj <;> simp [subB, hj]
  | b0 :: h, j + 1, b, hj => by
    have : (subH k r (b0 :: h))[j + 1]? = (subH k r h)[j]? := by cases b0 <;> simp [subH]
    rw [this] at hj
    simpa using subH_get k r h j b hj

theorem subH_len (k : Nat) (r : AV) : ∀ h : List Blk, (subH k r h).length = h.length
  | [] => rfl
  | b :: h => by cases b <;> simp [subH, subH_len k r h]

theorem subF_rel {Ψ' : Pr} {β' : List Value} (k : Nat) (r : AV) (hle : PLe Ψ Ψ') (hr : ∀ v : Value, β[k]? = some v → RelV Ψ' β' r v) (hb : ∀ (j : Nat) (v : Value), j ≠ k → β[j]? = some v → β'[j]? = some v)
    (hp : ∀ g : Nat, β[k]? = some (.pointer (some ⟨g, 0, none⟩)) → β'[k]? = some (.pointer (some ⟨g, 0, none⟩))) (hy : ∀ l : Nat, β[k]? = some (yldV l) → β'[k]? = some (yldV l)) :
    ∀ (fs : List (List AV)) (as : List Act), RelF Ψ β fs as → RelF Ψ' β' (subF k r fs) as
  | [], _, h => h
  | _ :: fs, _, ⟨a, as', e, ⟨h1, h2⟩, h3⟩ => ⟨a, as', e, ⟨Dok_mono hle h1, subL_rel k r hle hr hb hp hy _ _ h2⟩, subF_rel k r hle hr hb hp hy fs as' h3⟩

theorem grow_not_ptr {k : Nat} {tid : TypeId} {e : Ty} {xs : List e.den} {g : Nat} (hb : BlkR C.P B Ψ β w k (.grow tid e xs)) : β[k]? ≠ some (.pointer (some ⟨g, 0, none⟩)) := by
  rcases hb with ⟨ad, h1, _⟩ | ⟨g', cap, cur, h1, _⟩ <;> rw [h1] <;> simp

theorem grow_not_yld {k : Nat} {tid : TypeId} {e : Ty} {xs : List e.den} {l : Nat} (hb : BlkR C.P B Ψ β w k (.grow tid e xs)) : β[k]? ≠ some (yldV l) := by
  rcases hb with ⟨ad, h1, _⟩ | ⟨g', cap, cur, h1, _⟩ <;> rw [h1] <;> simp [yldV]

theorem set_get_ne {l : List Value} {k j : Nat} {u v : Value} (hj : j ≠ k) (h : l[j]? = some v) : (l.set k u)[j]? = some v := by
  rw [List.getElem?_set_ne (Ne.symm hj)]; exact h

/-- An own slice has another content, perhaps in another row; its name's copies are forgotten. -/
theorem InvH.regrow {k : Nat} {tid : TypeId} {e : Ty} {xs ys : List e.den} {u : Value} {row : Option Nat} (hi : InvH C.P B w0 Ψ β h w) (hk : h[k]? = some (.grow tid e xs)) (hg : w.grownBy w' row)
    (hrow : ∀ g, row = some g → claims β k g (.grow tid e xs)) (hone : u.oneCell' = true) (hnew : BlkR C.P B Ψ (β.set k u) w' k (.grow tid e ys)) (hcl : ∀ g, claims (β.set k u) k g (.grow tid e ys) → row = some g ∨ w.heap.size ≤ g) :
    InvH C.P B w0 Ψ (β.set k u) (subH k .junk (h.set k (.grow tid e ys))) w' := by
  have hkl : k < h.length := by
    rcases Nat.lt_or_ge k h.length with h' | h'
    · exact h'
    · rw [List.getElem?_eq_none h'] at hk; cases hk
  have hB := hi.blk k _ hk
  have hrowB : ∀ g, row = some g → ¬ B g := fun g hg' => (claims_lt hB (hrow g hg')).1
  have notrow : ∀ {g : Nat}, (∀ j b, j ≠ k → h[j]? = some b → claims β j g b → row ≠ some g) := fun {g} j b hjk hj hc e => hi.sep j k b _ g hjk hj hk hc (hrow g e)
  have prom : ∀ ad v, Ψ ad = some v → Pm w' ad v := fun ad v hv => by
    have h1 := hi.prom ad v hv
    refine Pm_of_block (hg.block ad.block (Pm_lt h1) ?_) h1
    intro e
    rw [hi.free' hk (hrow _ e.symm) rfl ad rfl] at hv
    cases hv
  have blkOther : ∀ j b, j ≠ k → h[j]? = some b → BlkR C.P B Ψ (β.set k u) w' j (subB k .junk b) := by
    intro j b hjk hj
    have hb := hi.blk j b hj
    cases b with
    | gone => trivial
    | log ys Y own xs => exact BlkR_log hb (fun _ h => set_get_ne hjk h) (PLe.refl _).m hg.size fun g ho => hg.block g (hb.2.2.1 g ho).2 (fun e => notrow j _ hjk hj ho e.symm)
    | lof ys Y own => exact BlkR_lof hb (fun _ h => set_get_ne hjk h) (PLe.refl _).m hg.size fun g ho => hg.block g (hb.2.2.1 g ho).2 (fun e => notrow j _ hjk hj ho e.symm)
    | cells cs =>
      obtain ⟨g, c, e', h1, h2, h3, h4, h5⟩ := hb
      refine ⟨g, c, e', set_get_ne hjk h1, (hg.block g (heap_lt h2) (fun e => notrow j _ hjk hj h1 e.symm)).trans h2, h3, ?_, h5⟩
      exact subL_rel k .junk (PLe.refl _) (fun _ _ => trivial) (fun i v hik hv => set_get_ne hik hv) (fun g hp => absurd hp (grow_not_ptr hB)) (fun l hy => absurd hy (grow_not_yld hB)) _ _ h4
    | grow tid' e' xs' =>
      rcases hb with ⟨ad, h1, h2⟩ | ⟨g, cap, cur, h1, h2, h3, h4, h5⟩
      · exact .inl ⟨ad, set_get_ne hjk h1, h2⟩
      · exact .inr ⟨g, cap, cur, set_get_ne hjk h1, h2, h3, (hg.block g (heap_lt h4) (fun e => notrow j _ hjk hj ⟨_, _, h2, h1⟩ e.symm)).trans h4, h5⟩
    | kmap es =>
      obtain ⟨g, ms, cl, h1, h2, h3, h4⟩ := hb
      exact ⟨g, ms, cl, set_get_ne hjk h1, (hg.block g (heap_lt h2) (fun e => notrow j _ hjk hj h1 e.symm)).trans h2, h3, h4⟩
    | dmap e m =>
      obtain ⟨g, ms, cl, h1, h2, h3, h4⟩ := hb
      exact ⟨g, ms, cl, set_get_ne hjk h1, (hg.block g (heap_lt h2) (fun e => notrow j _ hjk hj h1 e.symm)).trans h2, h3, h4⟩
    | diter e last left =>
      obtain ⟨g, gm, ms, cl, seen, h1, h2, h3, h4⟩ := hb
      exact ⟨g, gm, ms, cl, seen, set_get_ne hjk h1, (hg.block g (heap_lt h2) (fun e => notrow j _ hjk hj h1 e.symm)).trans h2, h3, h4⟩
    | loop f p ph ts =>
      obtain ⟨l, r, h1, h2, h3, h4, h5, h6⟩ := hb
      exact ⟨l, r, set_get_ne hjk h1, (hg.block l (heap_lt h2) (fun e => notrow j _ hjk hj h1 e.symm)).trans h2, h3, h4,
        subL_rel k .junk (PLe.refl _) (fun _ _ => trivial) (fun i v hik hv => set_get_ne hik hv) (fun g hp => absurd hp (grow_not_ptr hB)) (fun l hy => absurd hy (grow_not_yld hB)) _ _ h5, h6⟩
  have claimsOther : ∀ {j g : Nat} {b : Blk}, j ≠ k → claims (β.set k u) j g (subB k .junk b) → claims β j g b := by
    intro j g b hjk hc
    cases b with
    | gone => exact hc
    | log ys Y own xs => exact hc
    | lof ys Y own => exact hc
    | cells cs => simp only [claims, subB] at *; rwa [List.getElem?_set_ne (Ne.symm hjk)] at hc
    | grow tid' e' xs' => obtain ⟨n, cap, h1, h2⟩ := hc; rw [List.getElem?_set_ne (Ne.symm hjk)] at h2; exact ⟨n, cap, h1, h2⟩
    | kmap es => simp only [claims, subB] at *; rwa [List.getElem?_set_ne (Ne.symm hjk)] at hc
    | dmap e m => simp only [claims, subB] at *; rwa [List.getElem?_set_ne (Ne.symm hjk)] at hc
    | diter e last left => simp only [claims, subB] at *; rwa [List.getElem?_set_ne (Ne.symm hjk)] at hc
    | loop f p ph ts => simp only [claims, subB] at *; rwa [List.getElem?_set_ne (Ne.symm hjk)] at hc
  have at_k : ∀ {b : Blk}, (subH k .junk (h.set k (.grow tid e ys)))[k]? = some b → b = .grow tid e ys := by
    intro b hb
    obtain ⟨b', h1, h2⟩ := subH_get _ _ _ _ _ hb
    rw [List.getElem?_set_self (by simpa using hkl)] at h1
    simp at h1
    subst h1
    exact h2
  have at_j : ∀ {j : Nat} {b : Blk}, j ≠ k → (subH k .junk (h.set k (.grow tid e ys)))[j]? = some b → ∃ b', h[j]? = some b' ∧ b = (subB k .junk b') := by
    intro j b hjk hb
    obtain ⟨b', h1, h2⟩ := subH_get _ _ _ _ _ hb
    rw [List.getElem?_set_ne (Ne.symm hjk)] at h1
    exact ⟨b', h1, h2⟩
  refine ⟨?_, fun k hk => Nat.lt_of_lt_of_le (hi.size k hk) hg.size, prom, hi.own, by rw [subH_len]; simp [hi.len], ?_, ?_, ?_, ?_⟩
  · exact hi.low.grown hg hi.size hrowB
  · intro j v hj
    by_cases hjk : j = k
    · subst hjk
      rw [List.getElem?_set_self (by rw [hi.len]; exact hkl)] at hj
      simp at hj
      subst hj
      exact hone
    · rw [List.getElem?_set_ne (Ne.symm hjk)] at hj
      exact hi.one j v hj
  · intro j b hb
    by_cases hjk : j = k
    · subst hjk
      rw [at_k hb]
      exact hnew
    · obtain ⟨b', h1, rfl⟩ := at_j hjk hb
      exact blkOther j b' hjk h1
  · intro j b g hb hc ad had hsp
    by_cases hjk : j = k
    · subst hjk
      rw [at_k hb] at hc
      rcases hcl g hc with e1 | e1
      · exact hi.free j _ g hk (hrow g e1) ad had hsp
      · cases hp : Ψ ad with
        | none => rfl
        | some v =>
          have := Pm_lt (hi.prom ad v hp)
          omega
    · obtain ⟨b', h1, rfl⟩ := at_j hjk hb
      exact hi.free j b' g h1 (claimsOther hjk hc) ad had hsp
  · have mixed : ∀ {j g : Nat} {b bk : Blk}, j ≠ k → (subH k .junk (h.set k (.grow tid e ys)))[j]? = some b → (subH k .junk (h.set k (.grow tid e ys)))[k]? = some bk → claims (β.set k u) j g b → claims (β.set k u) k g bk → False := by
      intro j g b bk hjk hb hbk hc hck
      rw [at_k hbk] at hck
      obtain ⟨b', h1, rfl⟩ := at_j hjk hb
      have hc' := claimsOther hjk hc
      rcases hcl g hck with e1 | e1
      · exact notrow j b' hjk h1 hc' e1
      · have := (claims_lt (hi.blk j b' h1) hc').2
        omega
    intro i j bi bj g hij hbi hbj hci hcj
    by_cases hik : i = k
    · subst hik
      exact mixed (Ne.symm hij) hbj hbi hcj hci
    · by_cases hjk : j = k
      · subst hjk
        exact mixed hij hbi hbj hci hcj
      · obtain ⟨bi', h1, rfl⟩ := at_j hik hbi
        obtain ⟨bj', h2, rfl⟩ := at_j hjk hbj
        exact hi.sep i j bi' bj' g hij h1 h2 (claimsOther hik hci) (claimsOther hjk hcj)

theorem grownBy_none {w w' : World} (hg : w.grownBy w' none) : Below w.heap.size w w' := ⟨hg.os, hg.tape, hg.output, hg.size, fun k hk => hg.block k hk (by simp)⟩

theorem elem_spec {t tid : TypeId} (he : elemOf C t = some tid) : C.P.underlying t = some (.slice tid) := underlying_slice he

theorem appT {t tid : TypeId} {sz : Nat} {z : AV} {e : Ty} (he : elemOf C t = some tid) (hs : C.size tid = some sz) (hz : C.zero tid = some z) (hsz : e.cells = sz) (hzo : zeroOk e z = true) : ∃ i v, AppT C t tid e i v := by
  obtain ⟨i, v, hi, hiz, rfl⟩ := zero_spec hz
  obtain ⟨i', hi', hsi⟩ := size_of hs
  rw [hi] at hi'
  simp at hi'
  subst hi'
  exact ⟨i, v, underlying_slice he, hi, hiz, by omega, zeroOk_spec hzo⟩

theorem append_ok {t tx ty : TypeId} {x y : AV} {u v : Value} {r : Out} {fs : List (List AV)} {acts : List Act} (hi : InvH C.P B w0 Ψ β h w) (hf : RelF Ψ β fs acts) (hx : RelV Ψ β x u) (hy : RelV Ψ β y v)
    (hr : aappend C h t tx x y = some r) (hp : ∀ p, r.need = some p → p) :
    EOp C B w0 Ψ w (do pure (.value (← Builtin.append_ #[t, tx] ty #[u, v]))) r fs acts := by
  unfold aappend at hr
  split at hr
  · cases hr
  · rename_i tid he
    split at hr
    · rename_i sz z hsz hz
      unfold aappendTo at hr
      -- a new own slice at the heap's end
      have fresh : ∀ {e : Ty} {ys : List e.den} {u' : Value} {w' : World}, (Builtin.append_ #[t, tx] ty #[u, v]).run C.P w = .ok u' w' → Below w.heap.size w w' → u'.oneCell' = true →
          (∀ (β' : List Value) (k : Nat), β'[k]? = some u' → BlkR C.P B Ψ β' w' k (.grow tid e ys)) → (∀ (β' : List Value) (k g : Nat), β'[k]? = some u' → claims β' k g (.grow tid e ys) → w.heap.size ≤ g) →
          ∀ p, EOp C B w0 Ψ w (do pure (.value (← Builtin.append_ #[t, tx] ty #[u, v]))) ⟨p, .sl (hlen h), h ++ [.grow tid e ys], none⟩ fs acts := by
        intro e ys u' w' hrun hb hone hblk hcl p
        have hn : (β ++ [u'])[h.length]? = some u' := by rw [← hi.len]; simp
        refine ⟨.value u', u', β ++ [u'], w', by simp [hrun], .inl rfl, hi.push hb hone (hblk _ _ hn) (fun g hc => hcl _ _ g hn hc), RelF_mono (PLe.refl _) (snoc_mono _) _ _ hf, ?_⟩
        refine ⟨?_, fun e0 => ?_⟩
        · rw [hlen_eq]
          exact hn
        · have hb0 := hblk _ _ hn
          rcases hb0 with ⟨ad, h1, _⟩ | ⟨g, cap, cur, h1, _⟩
          · rw [hn, e0] at h1; simp [hole] at h1
          · rw [hn, e0] at h1; simp [hole] at h1
      split at hr
      · -- nil
        split at hr
        · cases hr
        · rename_i e hty
          split at hr
          · rename_i ys hys
            split at hr
            · rename_i hc
              simp only [Bool.and_eq_true, Nat.beq_eq] at hc
              simp at hr
              subst hr
              have hu : u = .slice none 0 0 := hx
              subst hu
              obtain ⟨i, zv, hT⟩ := appT he hsz hz hc.1 hc.2
              obtain ⟨news, hs, hd⟩ := tail_src hi hy hys
              obtain ⟨u', w', hrun, hb, hone, hblk, hcl⟩ := append_empty (ty := ty) hT none hs hd hi.size (hp _ rfl)
              exact fresh hrun hb hone hblk hcl _
            · cases hr
          · cases hr
      · -- our own
        rename_i k
        split at hr
        · rename_i tid' e xs hg
          split at hr
          · rename_i ys hys
            split at hr
            · rename_i hc
              simp only [Bool.and_eq_true, Nat.beq_eq] at hc
              obtain ⟨⟨rfl, hc1⟩, hc2⟩ := hc
              simp at hr
              subst hr
              have hβ : β[k]? = some u := hx.1
              have hhk := hget_some hg (by simp)
              have hkl : k < β.length := by
                rcases Nat.lt_or_ge k β.length with h' | h'
                · exact h'
                · rw [List.getElem?_eq_none h'] at hβ; cases hβ
              obtain ⟨i, zv, hT⟩ := appT he hsz hz hc1 hc2
              obtain ⟨news, hs, hd⟩ := tail_src hi hy hys
              have done : ∀ {u' : Value} {w' : World} {row : Option Nat}, (Builtin.append_ #[t, tx] ty #[u, v]).run C.P w = .ok u' w' → w.grownBy w' row → (∀ g, row = some g → claims β k g (.grow tid e xs)) → u'.oneCell' = true →
                  (∀ (β' : List Value) (k : Nat), β'[k]? = some u' → BlkR C.P B Ψ β' w' k (.grow tid e (xs ++ ys))) → (∀ (β' : List Value) (k g : Nat), β'[k]? = some u' → claims β' k g (.grow tid e (xs ++ ys)) → row = some g ∨ w.heap.size ≤ g) →
                  EOp C B w0 Ψ w (do pure (.value (← Builtin.append_ #[t, tx] ty #[u, v]))) ⟨some (roomP C tid (xs.length + ys.length)), .sl k, hset h k (.grow tid e (xs ++ ys)), some k⟩ fs acts := by
                intro u' w' row hrun hgb hrow hone hblk hcl
                have hn : (β.set k u')[k]? = some u' := by rw [List.getElem?_set_self hkl]
                refine ⟨.value u', u', β.set k u', w', by simp [hrun], .inl rfl, ?_, ?_, ⟨hn, grow_not_hole (hblk _ _ hn) hn⟩⟩
                · simp only [hset_eq]
                  exact hi.regrow hhk hgb hrow hone (hblk _ _ hn) (fun g hc => hcl _ _ g hn hc)
                · exact subF_rel k .junk (PLe.refl _) (fun _ _ => trivial) (fun j v hjk hv => set_get_ne hjk hv) (fun g hp => absurd hp (grow_not_ptr (hi.blk k _ hhk))) (fun l hy => absurd hy (grow_not_yld (hi.blk k _ hhk))) _ _ hf
              rcases hi.blk k _ hhk with ⟨ad, hb1, rfl⟩ | ⟨g, cap, cur, hb1, hz', hB, hh, hn, hcm, hcs, hdx⟩
              · rw [hβ] at hb1
                simp at hb1
                subst hb1
                have hroom := hp _ rfl
                simp only [List.length_nil, Nat.zero_add] at hroom
                obtain ⟨u', w', hrun, hb, hone, hblk, hcl⟩ := append_empty (ty := ty) hT ad hs hd hi.size hroom
                exact done (row := none) hrun ⟨hb.os, hb.tape, hb.output, hb.size, fun k hk _ => hb.block k hk⟩ (by simp) hone (by simpa using hblk) (fun β' k g hk hc => .inr (hcl β' k g hk (by simpa using hc)))
              · rw [hβ] at hb1
                simp at hb1
                subst hb1
                obtain ⟨u', w', hrun, hgb, hone, hblk, hcl⟩ := append_row (ty := ty) hT hz' hB hh hn hcm hcs hdx hs hd hi.size (hp _ rfl)
                exact done hrun hgb (fun g' e => by cases e; exact ⟨_, _, hz', hβ⟩) hone hblk (fun β' k g' hk hc => (hcl β' k g' hk hc).imp (fun e => by rw [e]) id)
            · cases hr
          · cases hr
        · cases hr
      · -- a read-only slice of full capacity
        rename_i e xs
        split at hr
        · rename_i ys hys
          split at hr
          · rename_i hc
            simp only [Bool.and_eq_true, Nat.beq_eq] at hc
            obtain ⟨i, zv, hT⟩ := appT he hsz hz hc.1 hc.2
            obtain ⟨news, hs, hd⟩ := tail_src hi hy hys
            obtain ⟨ad, rfl, hrv⟩ := hx
            have more : ∀ (x0 : e.den) (xs0 : List e.den) (y0 : e.den) (ys0 : List e.den), xs = x0 :: xs0 → ys = y0 :: ys0 → roomP C tid ((x0 :: xs0).length + (y0 :: ys0).length) → ∀ p,
                EOp C B w0 Ψ w (do pure (.value (← Builtin.append_ #[t, tx] ty #[.slice ad xs.length xs.length, v]))) ⟨p, .sl (hlen h), h ++ [.grow tid e (x0 :: xs0 ++ y0 :: ys0)], none⟩ fs acts := by
              intro x0 xs0 y0 ys0 ex ey hroom p
              subst ex ey
              obtain ⟨ad', cap, e1, h1, h2, h3⟩ := rv_arr (β := β).1 hrv
              simp at e1
              obtain ⟨rfl, rfl⟩ := e1
              rcases h3 with h3 | ⟨cells, hdx, g, off, rfl, hc'⟩
              · cases h3
              · have hlx := rdL_len (reads_len e) _ _ hdx
                have hold : (Builtin.firstCells e.cells (x0 :: xs0).length (.slice (some ⟨g, off, none⟩) (x0 :: xs0).length (x0 :: xs0).length)).run C.P w.drew = .ok cells.toArray w.drew := by
                  refine run_firstCells_some (P := C.P) w.drew e.cells _ ⟨g, off, none⟩ _ _ _ hlx (fun j v hj => ?_)
                  rw [Addr.add_lit, World.cell?_drew]
                  exact hi.prom _ _ (hc' j v hj)
                obtain ⟨hrun, hge, hle, hsz', htk⟩ := append_new (ty := ty) hT (some ⟨g, off, none⟩) (x0 :: xs0).length (x0 :: xs0).length _ hlx hold hs (by simp) hroom
                refine fresh (e := e) (ys := x0 :: xs0 ++ y0 :: ys0) hrun (below_new w _) rfl (fun β' k hk => ?_) (fun β' k g' hk hc => ?_) p
                · exact blk_new hi.size List.length_append (Nat.add_pos_left (Nat.succ_pos _) _) hge hle hsz' htk (rdL_append _ _ _ _ hdx hd) hk
                · obtain ⟨n, cap', hz', hc⟩ := hc
                  rw [hk] at hc
                  simp at hc
                  omega
            cases htf : C.tailFirst with
            | true =>
              rw [htf] at hr
              simp only [cond_true] at hr
              split at hr
              · simp only [Option.some.injEq] at hr
                subst hr
                have hnl : news = [] := List.eq_nil_of_length_eq_zero (by rw [hs.newsLen]; simp)
                subst hnl
                have hcells := hs.cells
                have hl0 := hs.len
                refine ⟨.value (.slice ad xs.length xs.length), _, β, w, ?_, .inl rfl, hi, hf, ⟨ad, rfl, hrv⟩⟩
                rw [← hT.hs] at hcells
                have hcells : (Builtin.firstCells i.size 0 v).run C.P w = .ok #[] w := hcells
                rcases hs.kind with ⟨e', hk⟩ | hk <;> cases ad <;> simp [Builtin.append_, run_underlying hT.ht, run_underlying hk, sizeOf, typeInfo, hT.hi, hl0, hcells, storeCells]
              · rename_i y0 ys0
                simp only [Option.some.injEq] at hr
                subst hr
                have hroom := hp _ rfl
                cases xs with
                | nil =>
                  obtain ⟨u', w', hrun, hb, hone, hblk, hcl⟩ := append_empty (ty := ty) hT ad hs hd hi.size (by simpa using hroom)
                  exact fresh hrun hb hone hblk hcl _
                | cons x0 xs0 => exact more x0 xs0 y0 ys0 rfl rfl hroom _
            | false =>
              rw [htf] at hr
              simp only [cond_false] at hr
              split at hr
              · simp at hr
                subst hr
                obtain ⟨u', w', hrun, hb, hone, hblk, hcl⟩ := append_empty (ty := ty) hT ad hs hd hi.size (hp _ rfl)
                exact fresh hrun hb hone hblk hcl _
              · rename_i x0 xs0 y0 ys0
                simp at hr
                subst hr
                exact more x0 xs0 y0 ys0 rfl rfl (hp _ rfl) _
              · cases hr
          · cases hr
        · cases hr
      · cases hr
    · cases hr

end Go.AM
namespace Go.AM
set_option linter.unusedVariables false
open Go.RowKit Go.MapKept

variable {B : Nat → Prop} {w0 : World} {C : Ctx} {Ψ : Pr} {β : List Value} {h : List Blk} {w w' : World} {fr : List AV} {a : Act} {As : List Act}

theorem then_skip {s : Sem Unit} (hr : s.run C.P w = .ok () w') : (do s; pure .skip : Sem Next).run C.P w = .ok .skip w' := by simp [hr]
theorem then_value {s : Sem Value} {v : Value} (hr : s.run C.P w = .ok v w') : (do pure (.value (← s)) : Sem Next).run C.P w = .ok (.value v) w' := by simp [hr]

/-! ### make -/
theorem flat_get {c : List Value} {n : Nat} : ∀ (m j : Nat), c.length = n → j < m * n → ((List.replicate m c).flatten)[j]? = c[j % n]?
  | 0, j, _, hj => by simp at hj
  | m + 1, j, hc, hj => by
    rw [List.replicate_succ, List.flatten_cons]
    rcases Nat.lt_or_ge j n with h | h
    · rw [List.getElem?_append_left (by omega), Nat.mod_eq_of_lt h]
    · rw [List.getElem?_append_right (by omega), hc, flat_get m (j - n) hc (by rw [Nat.succ_mul] at hj; omega), Nat.mod_eq_sub_mod h]

theorem made_eq (z : Array Value) (m : Nat) (n : Nat) (hn : z.size = n) : (madeCells z (m * n)).toList = (List.replicate m z.toList).flatten := by
  apply List.ext_getElem?
  intro j
  rcases Nat.lt_or_ge j (m * n) with h | h
  · rw [flat_get m j (by simpa using hn) h]
    have hpos : 0 < n := by
      rcases Nat.eq_zero_or_pos n with h0 | h0
      · subst h0; omega
      · exact h0
    have hlt : j % n < z.size := by rw [hn]; exact Nat.mod_lt _ hpos
    simp only [madeCells, Array.getElem?_toList, Array.getElem?_map, Array.getElem?_range, h, if_true, Option.map_some, hn]
    rw [Array.getElem?_eq_getElem hlt, getElem!_pos z (j % n) hlt]
  · rw [List.getElem?_eq_none (by rw [Array.length_toList, size_madeCells]; exact h), List.getElem?_eq_none (by simp [hn]; exact h)]

theorem make_ok {t : TypeId} {x y : AV} {u v : Value} {r : Out} {fs : List (List AV)} {acts : List Act} (hi : InvH C.P B w0 Ψ β h w) (hf : RelF Ψ β fs acts) (hx : RelV Ψ β x u) (hy : RelV Ψ β y v)
    (hr : amake C h t x y = some r) (hp : ∀ p, r.need = some p → p) : EOp C B w0 Ψ w (do pure (.value (← Instr.makeSlice t u v))) r fs acts := by
  unfold amake at hr
  split at hr
  · rename_i tid he
    split at hr
    · rename_i e sz z n0 m0 hty hsz hz
      obtain ⟨n, rfl⟩ : ∃ n : Int, n = n0 := ⟨n0, rfl⟩
      obtain ⟨m, rfl⟩ : ∃ m : Int, m = m0 := ⟨m0, rfl⟩
      split at hr
      · rename_i hc
        simp only [Bool.and_eq_true, Nat.beq_eq] at hc
        split at hr
        · rename_i x0 hx0
          simp at hr
          subst hr
          obtain ⟨hn0, hnm, hb1, hb2⟩ : (0 : Int) ≤ n ∧ n ≤ m ∧ m.toNat * C.P.bytesOf tid ≤ 140737488355328 ∧ m.toNat ≤ 9223372036854775807 := hp _ rfl
          obtain ⟨rfl, hnk⟩ := rv_int.1 hx
          obtain ⟨rfl, hmk⟩ := rv_int.1 hy
          obtain ⟨i, zv, hT⟩ := appT he hsz hz hc.1 hc.2
          obtain ⟨i', zv', hi', hiz', hzz⟩ := zero_spec hz
          have : i' = i := by have := hT.hi; rw [hi'] at this; simpa using this
          subst this
          have : zv' = zv := by have := hT.hz; rw [hiz'] at this; simpa using this
          subst this
          have hbytes : (i'.bytes : Int) * m ≤ 281474976710656 := by
            have hb : C.P.bytesOf tid = i'.bytes := by simp [Program.bytesOf, hi']
            rw [hb] at hb1
            have : ((m.toNat * i'.bytes : Nat) : Int) ≤ 140737488355328 := by omega
            rw [Int.natCast_mul, Int.toNat_of_nonneg (by omega), Int.mul_comm] at this
            omega
          have hrun := run_make (P := C.P) w t tid i' zv' hT.ht hT.hi hT.hz .i64 .i64 n m hn0 hnm hbytes (by omega)
          rw [hT.hs] at hrun
          have hrv : reads Ψ e x0 zv'.cells.toList := rv_cells (asD_rv (h := []) (β := β) (PLe.refl Ψ) hx0 (by rw [hzz]; exact ofV_rel zv') (fun k _ tid e xs hg => by simp [hget] at hg))
          have hxl : ((List.replicate n.toNat x0).length) = n.toNat := by simp
          refine ⟨.value (.slice (some ⟨w.heap.size, 0, none⟩) n.toNat m.toNat), .slice (some ⟨w.heap.size, 0, none⟩) n.toNat m.toNat, β ++ [.slice (some ⟨w.heap.size, 0, none⟩) n.toNat m.toNat], _, then_value hrun, .inl rfl,
            hi.push ((Below.refl _ _).alloc (Nat.le_refl _) _) rfl ?_ ?_, RelF_mono (PLe.refl _) (snoc_mono _) _ _ hf, ?_⟩
          · have hk : (β ++ [Value.slice (some ⟨w.heap.size, 0, none⟩) n.toNat m.toNat])[h.length]? = some (.slice (some ⟨w.heap.size, 0, none⟩) n.toNat m.toNat) := by
              rw [← hi.len]; simp
            by_cases hm0 : m.toNat = 0
            · left
              have : n.toNat = 0 := by omega
              rw [hm0, this] at hk
              exact ⟨_, by rw [hm0, this]; exact hk, by rw [this]; rfl⟩
            · right
              refine ⟨w.heap.size, m.toNat, _, by rw [hxl]; exact hk, hm0, out_new hi.size, heap_alloc_new w _, by rw [hxl]; omega, by simp only [maxLen]; omega, size_madeCells _ _, ?_⟩
              rw [hxl, made_eq _ _ _ hT.hc]
              have : (List.replicate m.toNat zv'.cells.toList).flatten.take (n.toNat * e.cells) = (List.replicate n.toNat zv'.cells.toList).flatten := by
                have hsplit : m.toNat = n.toNat + (m.toNat - n.toNat) := by omega
                rw [hsplit, ← List.replicate_append_replicate, List.flatten_append, List.take_append_of_le_length (by simp [hT.hc]), List.take_of_length_le (by simp [hT.hc])]
              rw [this]
              exact rdL_replicate x0 _ hrv _
          · intro g hcl
            obtain ⟨n', cap', hz', hcl⟩ := hcl
            rw [← hi.len] at hcl
            simp at hcl
            omega
          · refine ⟨?_, by simp [hole]⟩
            rw [hlen_eq, ← hi.len]
            simp
        · cases hr
      · cases hr
    · cases hr
  · cases hr

/-! ### store -/
theorem run_storeAt {t : TypeId} {n g off : Nat} {v : Value} {cur : Array Value} {e : TypeId} (hs : C.size t = some n) (hn : v.cells.size = n) (hh : w.heap[g]? = some (.cells cur e (0, 0))) (hle : off + n ≤ cur.size) (h1 : ∀ u ∈ v.cells.toList, u.oneCell' = true) :
    (Instr.storeAt t (.pointer (some ⟨g, off, none⟩)) v).run C.P w = .ok () (w.setRow g (cur.toList.take off ++ v.cells.toList ++ cur.toList.drop (off + v.cells.toList.length)).toArray) := by
  have hst := run_storeCells_at C.P g off e v.cells.toList 0 cur w hh (by simp; omega) h1
  simp only [Nat.add_zero] at hst
  simp [Instr.storeAt, Instr.sureAddr, storeVar, run_sizeOf hs, hn, hst]

/-- One of our own blocks has another content; nothing else turns. -/
theorem InvH.rewriteL {k g : Nat} {b b' : Blk} (hi : InvH C.P B w0 Ψ β h w) (hk : h[k]? = some b) (hc : claims β k g b) (hgb : w.grownBy w' (some g))
    (hprom : ∀ ad v, Ψ ad = some v → ad.block = g → Pm w' ad v) (hcl : ∀ g', claims β k g' b' → claims β k g' b) (hnew : BlkR C.P B Ψ β w' k b') : InvH C.P B w0 Ψ β (h.set k b') w' := by
  have hBg := (claims_lt (hi.blk k b hk) hc).1
  have at_ : ∀ {j : Nat} {b1 : Blk}, (h.set k b')[j]? = some b1 → (j = k ∧ b1 = b') ∨ (j ≠ k ∧ h[j]? = some b1) := by
    intro j b1 hj
    by_cases hjk : j = k
    · subst hjk
      rw [List.getElem?_set_self (by
        rcases Nat.lt_or_ge j h.length with h' | h'
        · exact h'
        · rw [List.getElem?_eq_none h'] at hk; cases hk)] at hj
      simp at hj
      exact .inl ⟨rfl, hj.symm⟩
    · rw [List.getElem?_set_ne (Ne.symm hjk)] at hj
      exact .inr ⟨hjk, hj⟩
  have notg : ∀ {j : Nat} {b1 : Blk}, j ≠ k → h[j]? = some b1 → ∀ g', claims β j g' b1 → some g' ≠ some g := fun hjk hj g' hc' e => hi.sep _ k _ b g hjk hj hk (by cases e; exact hc') hc
  refine ⟨hi.low.grown hgb hi.size (fun g' e => by cases e; exact hBg), fun k hk => Nat.lt_of_lt_of_le (hi.size k hk) hgb.size, fun ad v hv => ?_, hi.own, by simp [hi.len], hi.one, fun j b1 hj => ?_, fun j b1 g' hj hc' ad had hsp => ?_, fun i j bi bj g' hij hbi hbj hci hcj => ?_⟩
  · by_cases e : ad.block = g
    · exact hprom ad v hv e
    · have h1 := hi.prom ad v hv
      exact Pm_of_block (hgb.block ad.block (Pm_lt h1) (fun e' => e (by simpa using e'))) h1
  · rcases at_ hj with ⟨rfl, rfl⟩ | ⟨hjk, hj'⟩
    · exact hnew
    · have hb := hi.blk j b1 hj'
      cases b1 with
      | gone => trivial
      | log ys Y own xs => exact BlkR_log hb (fun _ h => h) (PLe.refl _).m hgb.size fun g' ho => hgb.block g' (hb.2.2.1 g' ho).2 (notg hjk hj' g' ho)
      | lof ys Y own => exact BlkR_lof hb (fun _ h => h) (PLe.refl _).m hgb.size fun g' ho => hgb.block g' (hb.2.2.1 g' ho).2 (notg hjk hj' g' ho)
      | cells cs =>
        obtain ⟨g', c, e', h1, h2, h3, h4⟩ := hb
        exact ⟨g', c, e', h1, (hgb.block g' (heap_lt h2) (notg hjk hj' g' h1)).trans h2, h3, h4⟩
      | grow tid e' xs' =>
        rcases hb with hb | ⟨g', cap, cur1, h1, h2, h3, h4, h5⟩
        · exact .inl hb
        · exact .inr ⟨g', cap, cur1, h1, h2, h3, (hgb.block g' (heap_lt h4) (notg hjk hj' g' ⟨_, _, h2, h1⟩)).trans h4, h5⟩
      | kmap es =>
        obtain ⟨g', ms, cl, h1, h2, h3, h4⟩ := hb
        exact ⟨g', ms, cl, h1, (hgb.block g' (heap_lt h2) (notg hjk hj' g' h1)).trans h2, h3, h4⟩
      | dmap e m =>
        obtain ⟨g', ms, cl, h1, h2, h3, h4⟩ := hb
        exact ⟨g', ms, cl, h1, (hgb.block g' (heap_lt h2) (notg hjk hj' g' h1)).trans h2, h3, h4⟩
      | diter e last left =>
        obtain ⟨g', gm, ms, cl, seen, h1, h2, h3, h4⟩ := hb
        exact ⟨g', gm, ms, cl, seen, h1, (hgb.block g' (heap_lt h2) (notg hjk hj' g' h1)).trans h2, h3, h4⟩
      | loop f p ph ts =>
        obtain ⟨l, r, h1, h2, h3⟩ := hb
        exact ⟨l, r, h1, (hgb.block l (heap_lt h2) (notg hjk hj' l h1)).trans h2, h3⟩
  · rcases at_ hj with ⟨rfl, rfl⟩ | ⟨hjk, hj'⟩
    · exact hi.free _ b g' hk (hcl g' hc') ad had hsp
    · exact hi.free j b1 g' hj' hc' ad had hsp
  · rcases at_ hbi with ⟨rfl, rfl⟩ | ⟨hik, hbi'⟩ <;> rcases at_ hbj with ⟨rfl, rfl⟩ | ⟨hjk, hbj'⟩
    · exact hij rfl
    · exact hi.sep _ j b bj g' hij hk hbj' (hcl g' hci) hcj
    · exact hi.sep i _ bi b g' hij hbi' hk hci (hcl g' hcj)
    · exact hi.sep i j bi bj g' hij hbi' hbj' hci hcj

theorem InvH.rewriteG {k g : Nat} {b b' : Blk} (hi : InvH C.P B w0 Ψ β h w) (hk : h[k]? = some b) (hn : b.isLoop = false) (hc : claims β k g b) (hgb : w.grownBy w' (some g))
    (hcl : ∀ g', claims β k g' b' → claims β k g' b) (hnew : BlkR C.P B Ψ β w' k b') : InvH C.P B w0 Ψ β (h.set k b') w' :=
  hi.rewriteL hk hc hgb (fun ad v hv e => by rw [hi.free' hk hc hn ad e] at hv; cases hv) hcl hnew

theorem InvH.rewrite {k g : Nat} {b b' : Blk} {cur cur' : Array Value} {e : TypeId} (hi : InvH C.P B w0 Ψ β h w) (hk : h[k]? = some b) (hn : b.isLoop = false) (hc : claims β k g b) (hh : w.heap[g]? = some (.cells cur e (0, 0)))
    (hcl : ∀ g', claims β k g' b' → claims β k g' b) (hnew : BlkR C.P B Ψ β (w.setRow g cur') k b') : InvH C.P B w0 Ψ β (h.set k b') (w.setRow g cur') :=
  hi.rewriteG hk hn hc ⟨rfl, rfl, rfl, by simp, fun j _ hj => setRow_other w g j _ (fun e => hj (by rw [e]))⟩ hcl hnew

theorem store_same {t : TypeId} {av xv : AV} {ad v : Value} {r : Out} (hi : InvH C.P B w0 Ψ β h w) (ha : RelV Ψ β av ad) (hx : RelV Ψ β xv v)
    (hr : astore C h t av xv = some r) : ∃ w', (Instr.storeAt t ad v).run C.P w = .ok () w' ∧ r.kill = none ∧ r.v = .und ∧ InvH C.P B w0 Ψ β r.heap w' := by
  unfold astore at hr
  split at hr
  · -- a variable of our own
    rename_i k off
    split at hr
    · rename_i cs hg
      split at hr
      · rename_i l sz hc hsz
        split at hr
        · rename_i hb
          simp only [Bool.and_eq_true, Nat.beq_eq, Nat.ble_eq, listLen_eq] at hb
          simp at hr
          subst hr
          obtain ⟨g, c, e, hβ, rfl, hh, hB, hrel, h1⟩ := own_blk hi hg ha
          obtain ⟨hl, hl1⟩ := cellsOf'_rel hi.one hc hx
          have e1 := RelL_len _ _ hrel
          have e2 := RelL_len _ _ hl
          have hrun := run_storeAt (v := v) hsz (by rw [← Array.length_toList]; omega) hh (off := off) (by rw [← Array.length_toList]; omega) hl1
          refine ⟨_, hrun, rfl, rfl, ?_⟩
          simp only [hset_eq]
          refine hi.rewrite (hget_some hg (by simp)) rfl (g := g) hβ hh (fun g' h' => h') ⟨g, _, e, hβ, setRow_heap w g c _ e _ hh, hB, ?_, ?_⟩
          · exact RelL_setCells hrel hl (by omega)
          · intro u hu
            simp only [List.mem_append] at hu
            rcases hu with (hu | hu) | hu
            · exact h1 u (List.mem_of_mem_take hu)
            · exact hl1 u hu
            · exact h1 u (List.mem_of_mem_drop hu)
        · cases hr
      · cases hr
    · cases hr
  · -- an element of an own slice
    rename_i k sz i
    split at hr
    · rename_i tid e xs hg
      split at hr
      · rename_i y n hy hsz
        split at hr
        · rename_i hb
          simp only [Bool.and_eq_true, Nat.beq_eq] at hb
          obtain ⟨⟨hn, hsz'⟩, hnr⟩ := hb
          simp at hr
          subst hr
          obtain ⟨g, c, cur, hβ, rfl, h0, hlt, hh, hlc, hcm, hcz, hB, hcs, hd⟩ := slp_cells hi hg ha (by omega)
          have hrefs : refs xv = [] := by
            have := noRefs_eq hnr
            simpa [refsA] using this
          have hrv := rv_cells (asD_rv (PLe.refl _) hy hx (by rw [hrefs]; exact Reading.nil))
          have hlv := reads_len e _ _ hrv
          have hmul : i.toNat * e.cells + e.cells ≤ xs.length * e.cells := by
            rw [← Nat.succ_mul]; exact Nat.mul_le_mul_right _ (by omega)
          have hmul2 : xs.length * e.cells ≤ c * e.cells := Nat.mul_le_mul_right _ hlc
          have hsze : sz = e.cells := by omega
          have hrun := run_storeAt (v := v) hsz (by rw [← Array.length_toList]; omega) hh (off := i.toNat * sz) (by rw [hsze]; omega) (reads_one e _ _ hrv)
          refine ⟨_, hrun, rfl, rfl, ?_⟩
          simp only [hset_eq]
          refine hi.rewrite (hget_some hg (by simp)) rfl (g := g) ⟨_, _, hcz, hβ⟩ hh (fun g' h' => h') (.inr ⟨g, c, _, by simpa using hβ, hcz, hB, setRow_heap w g cur _ tid _ hh, by simpa using hlc, hcm, ?_, ?_⟩)
          · have hvs : v.cells.size = e.cells := by rw [← Array.length_toList]; exact hlv
            simp only [List.size_toArray, List.length_append, List.length_take, List.length_drop, Array.length_toList, hsze]
            omega
          · simp only [List.length_set, hsze]
            have := rdL_set (reads_len e) y _ hrv xs _ hd i.toNat hlt
            have e1 : (cur.toList.take (i.toNat * e.cells) ++ v.cells.toList ++ cur.toList.drop (i.toNat * e.cells + v.cells.toList.length)).take (xs.length * e.cells) =
                (cur.toList.take (xs.length * e.cells)).take (i.toNat * e.cells) ++ v.cells.toList ++ (cur.toList.take (xs.length * e.cells)).drop (i.toNat * e.cells + e.cells) := by
              have hcl : cur.toList.length = c * e.cells := by rw [Array.length_toList]; exact hcs
              rw [List.take_take, Nat.min_eq_left (by omega), hlv]
              have hta : (cur.toList.take (i.toNat * e.cells)).length = i.toNat * e.cells := by rw [List.length_take]; omega
              rw [List.append_assoc]
              have hsplit : xs.length * e.cells = (cur.toList.take (i.toNat * e.cells)).length + (v.cells.toList.length + (xs.length * e.cells - (i.toNat * e.cells + e.cells))) := by
                rw [hta, hlv]; omega
              conv => lhs; rw [hsplit, take_len_add, take_len_add]
              rw [List.append_assoc, List.drop_take]
            rw [e1]
            exact this
        · cases hr
      · cases hr
    · cases hr
  · cases hr

theorem store_ok {t : TypeId} {av xv : AV} {ad v : Value} {r : Out} {fs : List (List AV)} {acts : List Act} (hi : InvH C.P B w0 Ψ β h w) (hf : RelF Ψ β fs acts) (ha : RelV Ψ β av ad) (hx : RelV Ψ β xv v)
    (hr : astore C h t av xv = some r) : EOp C B w0 Ψ w (do Instr.storeAt t ad v; pure .skip) r fs acts := by
  obtain ⟨w', hrun, hk, hv, hi'⟩ := store_same hi ha hx hr
  refine ⟨.skip, undef, β, w', then_skip hrun, .inr ⟨rfl, rfl⟩, ?_, ?_, ?_⟩
  · rw [hk]; exact hi'
  · rw [hk]; exact hf
  · rw [hv]; rfl

/-! ### copy -/
theorem src_ok {av : AV} {v : Value} {e : Ty} {ys : List e.den} (hi : InvH C.P B w0 Ψ β h w) (hx : RelV Ψ β av v) (hs : asSrc h av = some ⟨e, ys⟩) (hne : 0 < ys.length) (he1 : e.cells = 1) :
    ∃ g off cap cells, v = .slice (some ⟨g, off, none⟩) ys.length cap ∧ rdL (reads Ψ e) ys cells ∧ ∀ j u, cells[j]? = some u → w.cell? ⟨g, off + j, none⟩ = some u := by
  unfold asSrc at hs
  split at hs
  · rename_i k sz lo hi'
    split at hs
    · rename_i tid e' xs hg
      split at hs
      case isFalse => cases hs
      rename_i hsz
      simp only [Option.some.injEq, Sigma.mk.injEq] at hs
      obtain ⟨rfl, hs⟩ := hs
      have hs := eq_of_heq hs
      subst hs
      obtain ⟨g, n, c, hβ, h0, h1, h2, rfl⟩ := hx
      have hsz : sz = 1 := by simpa [Nat.beq_eq] using hsz
      subst hsz
      rcases hi.blk k _ (hget_some hg (by simp)) with ⟨ad, h3, hxs⟩ | ⟨g', cap, cur, hβ', hz, hB, hcell, hlc, hcm, hcs, hd⟩
      · subst hxs
        simp at hne
      · rw [hβ] at hβ'
        simp at hβ'
        obtain ⟨rfl, rfl, rfl⟩ := hβ'
        have hln : ((xs.drop lo.toNat).take (hi'.toNat - lo.toNat)).length = hi'.toNat - lo.toNat := by simp; omega
        refine ⟨g, lo.toNat * 1, _, _, by rw [hln], rdL_take (reads_len e') _ _ (hi'.toNat - lo.toNat) (rdL_drop (reads_len e') _ _ lo.toNat hd), fun j u hj => ?_⟩
        have hj2 := sub_of_drop_take hj
        rw [he1, List.getElem?_take] at hj2
        split at hj2
        · rw [cell_of_heap hcell]
          simpa using hj2
        · cases hj2
    · cases hs
  · obtain ⟨ad, cap, rfl, _, _, h3⟩ := asList_rel hi hx hs
    rcases h3 with rfl | ⟨cells, g, off, hd, rfl, hc⟩
    · simp at hne
    · exact ⟨g, off, cap, cells, rfl, hd, hc⟩

theorem copy_ok {t t' ty : TypeId} {xv yv : AV} {x y : Value} {r : Out} {fs : List (List AV)} {acts : List Act} (hi : InvH C.P B w0 Ψ β h w) (hf : RelF Ψ β fs acts) (hx : RelV Ψ β xv x) (hy : RelV Ψ β yv y)
    (hr : acopy C h t xv yv = some r) (hp : ∀ p, r.need = some p → p) : EOp C B w0 Ψ w (do pure (.value (← Builtin.copy_ #[t, t'] ty #[x, y]))) r fs acts := by
  unfold acopy at hr
  split at hr
  · rename_i tid k lo hi' u ys0 he hd hs
    split at hr
    · rename_i sz tid' e xs hsz hg
      split at hr
      · rename_i ys hcast
        split at hr
        · rename_i hc
          simp only [Bool.and_eq_true, Nat.beq_eq] at hc
          obtain ⟨hs1, hc1⟩ := hc
          simp only [Option.some.injEq] at hr
          subst hr
          obtain ⟨p1, p2, p3, p5, p4⟩ := hp _ rfl
          have hue : Ty.arr u = Ty.arr e := by
            unfold cast? at hcast
            split at hcast
            · assumption
            · cases hcast
          cases hue
          have hcast' : ys0 = ys := by
            unfold cast? at hcast
            split at hcast
            · simpa using hcast
            · cases hcast
          subst hcast'
          have hu := underlying_slice he
          rcases hi.blk k _ (hget_some hg (by simp)) with ⟨ad, _, hxs⟩ | ⟨g, cap, cur, hβ, hz, hB, hcell, hlc, hcm, hcs, hrd⟩
          · subst hxs
            simp at p1
          have hdst : ∃ c, x = .slice (some ⟨g, lo.toNat, none⟩) (hi'.toNat - lo.toNat) c := by
            unfold asDst at hd
            split at hd
            · rename_i k'
              split at hd
              · rename_i t1 e1 xs1 hg1
                simp only [Option.some.injEq, Prod.mk.injEq] at hd
                obtain ⟨rfl, rfl, rfl⟩ := hd
                rw [hg] at hg1
                cases hg1
                have hv := hx.1
                rw [hβ] at hv
                simp only [Option.some.injEq] at hv
                exact ⟨cap, by rw [← hv]; simp⟩
              · cases hd
            · rename_i k' sz' a b
              split at hd
              · rename_i hsz'
                simp only [Option.some.injEq, Prod.mk.injEq] at hd
                obtain ⟨rfl, rfl, rfl⟩ := hd
                obtain ⟨g', n, c, hβ', h0, h1, h2, rfl⟩ := hx
                rw [hβ] at hβ'
                simp only [Option.some.injEq, Value.slice.injEq, Addr.mk.injEq, and_true] at hβ'
                obtain ⟨rfl, rfl, rfl⟩ := hβ'
                have hsz' : sz' = 1 := by simpa [Nat.beq_eq] using hsz'
                subst hsz'
                exact ⟨_, by rw [Nat.mul_one]⟩
              · cases hd
            · cases hd
          obtain ⟨c, rfl⟩ := hdst
          obtain ⟨g2, off2, cap2, cells, rfl, hsr, hcs2⟩ := src_ok hi hy hs p2 hc1
          have hcl : cells.length = ys0.length := by
            have := rdL_len (reads_len u) _ _ hsr
            rw [this, hc1, Nat.mul_one]
          generalize hN : min (hi'.toNat - lo.toNat) ys0.length = N
          have hNl : N ≤ ys0.length := by omega
          have hcur : cur.toList.length = cap := by rw [Array.length_toList, hcs, hc1, Nat.mul_one]
          have hinfo : (C.P.info? tid).map (·.size) = some 1 := by
            obtain ⟨i, h1, h2⟩ := size_of hsz
            simp [h1, h2, hs1]
          have hfit : lo.toNat + N ≤ xs.length := by omega
          have hrun := run_copy_row C.P w t t' ty tid g lo.toNat (hi'.toNat - lo.toNat) c ⟨g2, off2, none⟩ ys0.length cap2 cur tid' (cells.take N) hu hinfo hcell
            (by rw [List.length_take, hcl, Nat.min_eq_left hNl, ← hN]; exact Nat.min_comm _ _) (fun j v hj => by
              rw [Addr.add_lit]
              rw [List.getElem?_take] at hj
              split at hj
              · exact hcs2 j v hj
              · cases hj) (by rw [List.length_take, hcl, ← Array.length_toList, hcur]; omega) (fun v hv => rdL_one (reads_one u) _ _ hsr v (List.mem_of_mem_take hv))
          have htl : (cells.take N).length = N := by rw [List.length_take, hcl]; omega
          rw [htl] at hrun
          refine ⟨.value (goInt N), goInt N, β, _, then_value hrun, .inl rfl, ?_, hf, rv_int.2 ⟨rfl, ?_⟩⟩
          · simp only [hset_eq]
            have hlen' : (xs.take lo.toNat ++ ys0.take N ++ xs.drop (lo.toNat + N)).length = xs.length := by
              simp only [List.length_append, List.length_take, List.length_drop]
              omega
            refine hi.rewrite (hget_some hg (by simp)) rfl (g := g) ⟨_, _, hz, hβ⟩ hcell (fun g' h' => h') (.inr ⟨g, cap, _, by rw [hlen']; exact hβ, hz, hB, setRow_heap w g cur _ tid' _ hcell, by rw [hlen']; exact hlc, hcm, ?_, ?_⟩)
            · simp only [List.size_toArray, List.length_append, List.length_take, List.length_drop, hcur, hc1]
              omega
            · rw [hlen', hc1, Nat.mul_one]
              rw [hc1, Nat.mul_one] at hrd
              have e1 : (cur.toList.take lo.toNat ++ cells.take N ++ cur.toList.drop (lo.toNat + N)).take xs.length = (cur.toList.take xs.length).take (lo.toNat * u.cells) ++ cells.take (N * u.cells) ++ (cur.toList.take xs.length).drop ((lo.toNat + N) * u.cells) := by
                rw [hc1, Nat.mul_one, Nat.mul_one, Nat.mul_one, List.take_take, Nat.min_eq_left (by omega), List.drop_take]
                have hta : (cur.toList.take lo.toNat ++ cells.take N).length = lo.toNat + N := by rw [List.length_append, htl, List.length_take]; omega
                conv => lhs; rw [show xs.length = (cur.toList.take lo.toNat ++ cells.take N).length + (xs.length - (lo.toNat + N)) by rw [hta]; omega, take_len_add]
              rw [e1]
              exact rdL_append _ _ _ _ (rdL_append _ _ _ _ (rdL_take (reads_len u) _ _ _ hrd) (rdL_take (reads_len u) _ _ _ hsr)) (rdL_drop (reads_len u) _ _ _ hrd)
          · rw [has_i64]
            unfold isI64
            simp only [maxLen] at hcm
            omega
        · cases hr
      · cases hr
    · cases hr
  · cases hr

/-! ### Maps from integers to functions -/
theorem intMap_spec {t et : TypeId} (hm : intMap C t = some et) : ∃ kt, C.P.underlying t = some (.map kt et) ∧ C.P.underlying kt = some (.int .i64) := by
  unfold intMap at hm
  split at hm
  · rename_i kt et' hu
    split at hm
    · rename_i hk
      simp at hm
      subst hm
      exact ⟨kt, hu, hk⟩
    · cases hm
  · cases hm

theorem findNow_k (x : Int) : ∀ (es : List (Int × FuncId)) (l : List MapEntry) (i : Nat), l.map (fun e => (e.key, e.val)) = es.map (fun p => (Value.int .i64 p.1, fnV p.2)) →
    ∃ r, Instr.findNow (.int .i64) (.int .i64 x) l i = some r ∧ (notInK x es = true → r = none) ∧
      ∀ (k : AV → Prop) (z : AV), forkK x k z es → match r with | none => k z | some (_, v) => ∃ f, v = fnV f ∧ k (.fn f [])
  | [], l, i, h => by
    simp only [List.map_nil, List.map_eq_nil_iff] at h
    subst h
    exact ⟨none, rfl, fun _ => rfl, fun k z hk => hk⟩
  | (n, f) :: es, [], i, h => by simp at h
  | (n, f) :: es, e :: l, i, h => by
    simp only [List.map_cons, List.cons.injEq, Prod.mk.injEq] at h
    obtain ⟨⟨hk, hv⟩, hl⟩ := h
    by_cases hx : x = n
    · subst hx
      refine ⟨some (i, e.val), by simp [Instr.findNow, Instr.sameNow, hk], fun hn => by simp [notInK] at hn, fun k z hf => ⟨f, hv, hf.1 rfl⟩⟩
    · obtain ⟨r, h1, h2, h3⟩ := findNow_k x es l (i + 1) hl
      have hb : (x == n) = false := by simpa using hx
      refine ⟨r, by simp only [Instr.findNow, hk, Instr.sameNow, if_true, hb]; exact h1, fun hn => h2 ?_, fun k z hf => h3 k z (hf.2 hx)⟩
      simp [notInK] at hn
      exact hn.2

theorem kmap_at {k : Nat} {es : List (Int × FuncId)} {v : Value} (hi : InvH C.P B w0 Ψ β h w) (hg : hget h k = .kmap es) (hv : RelV Ψ β (.sl k) v) :
    ∃ g ms cl, v = .map (some g) ∧ β[k]? = some (.map (some g)) ∧ w.heap[g]? = some (.map ms cl) ∧ ¬ B g ∧ ms.toList.map (fun e => (e.key, e.val)) = es.map (fun p => (Value.int .i64 p.1, fnV p.2)) := by
  obtain ⟨g, ms, cl, h1, h2, h3, h4⟩ := hi.blk k _ (hget_some hg (by simp))
  have hv : β[k]? = some v := hv.1
  rw [h1] at hv
  simp at hv
  exact ⟨g, ms, cl, hv.symm, h1, h2, h3, h4⟩

theorem makeMap_ok {t et : TypeId} {fs : List (List AV)} {acts : List Act} (hi : InvH C.P B w0 Ψ β h w) (hf : RelF Ψ β fs acts) (hm : intMap C t = some et) :
    EOp C B w0 Ψ w (do pure (.value (← Instr.makeMap t none))) ⟨none, .sl (hlen h), h ++ [.kmap []], none⟩ fs acts := by
  have hn : (β ++ [Value.map (some w.heap.size)])[h.length]? = some (.map (some w.heap.size)) := by rw [← hi.len]; simp
  refine ⟨.value (.map (some w.heap.size)), _, β ++ [.map (some w.heap.size)], w.alloc (.map #[] 0), then_value rfl, .inl rfl, ?_, RelF_mono (PLe.refl _) (snoc_mono _) _ _ hf, ?_⟩
  · refine hi.push ((Below.refl _ _).alloc (Nat.le_refl _) _) rfl ⟨w.heap.size, #[], 0, hn, heap_alloc_new w _, out_new hi.size, rfl⟩ (fun g hc => ?_)
    simp only [claims] at hc
    rw [hn] at hc
    simp at hc
    omega
  · refine ⟨?_, by simp [hole]⟩
    rw [hlen_eq]; exact hn

theorem insert_ok {t : TypeId} {m key v : AV} {mv kv vv : Value} {r : Out} {fs : List (List AV)} {acts : List Act} (hi : InvH C.P B w0 Ψ β h w) (hf : RelF Ψ β fs acts) (hm : RelV Ψ β m mv) (hk : RelV Ψ β key kv) (hv : RelV Ψ β v vv)
    (hr : ainsert C h t m key v = some r) : EOp C B w0 Ψ w (do Instr.mapUpdate t mv kv vv; pure .skip) r fs acts := by
  unfold ainsert at hr
  split at hr
  · rename_i et k n f him
    split at hr
    · rename_i es hg
      split at hr
      · rename_i hnot
        simp only [Option.some.injEq] at hr
        subst hr
        obtain ⟨kt, hu, hku⟩ := intMap_spec him
        obtain ⟨g, ms, cl, rfl, hβ, hh, hB, hes⟩ := kmap_at hi hg hm
        obtain ⟨rfl, hn⟩ := rv_int.1 hk
        obtain ⟨us, rfl, hus⟩ := hv
        simp only [RelL] at hus
        subst hus
        obtain ⟨r', hfind, hnone, _⟩ := findNow_k n es ms.toList 0 hes
        have := hnone hnot
        subst this
        refine ⟨.skip, undef, β, { w with heap := w.heap.setIfInBounds g (.map (ms.push { key := .int .i64 n, val := fnV f, born := cl }) (cl + 1)) }, ?_, .inr ⟨rfl, rfl⟩, ?_, hf, rfl⟩
        · exact then_skip (by simp [Instr.mapUpdate, run_underlying hu, MapKept.run_getObj_map hh, run_checkKey hku (k := .int .i64 n) rfl, run_findKey hku hfind, MapKept.run_setObj_map _ hh, Result.andThen, fnV])
        · simp only [hset_eq]
          have hlt := heap_lt hh
          refine hi.rewriteG (hget_some hg (by simp)) rfl (g := g) hβ ⟨rfl, rfl, rfl, by simp, fun j _ hj => (MapKept.heap_set (o' := _) hh).2 j (fun e => hj (by rw [e]))⟩ (fun g' h' => h') ⟨g, _, _, hβ, (MapKept.heap_set hh).1, hB, ?_⟩
          simp [hes]
      · cases hr
    · cases hr
  · cases hr

theorem findNow_d {e : Ty} (x : Int) : ∀ (m : List (Int × e.den)) (l : List MapEntry) (i : Nat), mapR Ψ e m l →
    (mget m x = none ∧ Instr.findNow (.int .i64) (.int .i64 x) l i = some none ∧ ∀ y, mput m x y = m ++ [(x, y)]) ∨
    ∃ j y u, mget m x = some y ∧ Instr.findNow (.int .i64) (.int .i64 x) l i = some (some (i + j, u.val)) ∧ l[j]? = some u ∧ u.key = .int .i64 x ∧ rv Ψ e y u.val ∧
      ∀ (y' : e.den) (v' : Value), IntKind.i64.has x → rv Ψ e y' v' → mapR Ψ e (mput m x y') (l.set j { u with key := .int .i64 x, val := v' })
  | [], l, i, h => .inl ⟨rfl, by
      have h : l = [] := h
      subst h
      rfl, fun _ => rfl⟩
  | p :: m, _, i, ⟨u, l, rfl, hk, hh, hv, hl⟩ => by
    by_cases hx : p.1 = x
    · refine .inr ⟨0, p.2, u, by simp [mget, hx], by simp [Instr.findNow, Instr.sameNow, hk, hx], rfl, by rw [hk, hx], hv, fun y' v' hn hv' => ?_⟩
      simp only [mput, hx, if_true, List.set_cons_zero]
      exact ⟨_, l, rfl, rfl, hn, hv', hl⟩
    · have hb : (x == p.1) = false := by simpa using fun h => hx h.symm
      rcases findNow_d x m l (i + 1) hl with ⟨h1, h2, h3⟩ | ⟨j, y, u', h1, h2, h3, h4, h5, h6⟩
      · exact .inl ⟨by simp only [mget, hx, if_false]; exact h1, by simp only [Instr.findNow, hk, Instr.sameNow, if_true, hb]; exact h2, fun y => by simp only [mput, hx, if_false, h3 y, List.cons_append]⟩
      · refine .inr ⟨j + 1, y, u', by simp only [mget, hx, if_false]; exact h1, ?_, by simpa using h3, h4, h5, fun y' v' hn hv' => ?_⟩
        · simp only [Instr.findNow, hk, Instr.sameNow, if_true, hb]
          rw [h2, show i + 1 + j = i + (j + 1) by omega]
        · simp only [mput, hx, if_false, List.set_cons_succ]
          exact ⟨u, _, rfl, hk, hh, hv, h6 y' v' hn hv'⟩

theorem modify_set {α : Type} (f : α → α) : ∀ (l : List α) (j : Nat) (e : α), l[j]? = some e → l.modify j f = l.set j (f e)
  | [], _, _, h => by simp at h
  | _ :: _, 0, _, h => by simp at h; simp [h]
  | _ :: l, j + 1, e, h => by simp [modify_set f l j e (by simpa using h)]
theorem mapR_snoc {e : Ty} {x : Int} {y : e.den} {u : MapEntry} (hk : u.key = .int .i64 x) (hx : IntKind.i64.has x) (hv : rv Ψ e y u.val) : ∀ {m : List (Int × e.den)} {l : List MapEntry}, mapR Ψ e m l → mapR Ψ e (m ++ [(x, y)]) (l ++ [u])
  | [], l, h => by
    have h : l = [] := h
    subst h
    exact ⟨u, [], rfl, hk, hx, hv, rfl⟩
  | _ :: _, _, ⟨u', l', rfl, h1, h2, h3, h4⟩ => ⟨u', l' ++ [u], rfl, h1, h2, h3, mapR_snoc hk hx hv h4⟩
theorem mput_mem {α : Type} {n : Int} {x : α} : ∀ {m : List (Int × α)} {k : Int}, k ∈ (mput m n x).map Prod.fst → k ∈ m.map Prod.fst ∨ k = n
  | [], k, h => .inr (by simpa [mput] using h)
  | p :: m, k, h => by
    unfold mput at h
    split at h
    · rename_i hp
      simp only [List.map_cons, List.mem_cons] at h ⊢
      rcases h with h | h
      · exact .inr h
      · exact .inl (.inr h)
    · simp only [List.map_cons, List.mem_cons] at h ⊢
      rcases h with h | h
      · exact .inl (.inl h)
      · exact (mput_mem h).imp .inr id
theorem mput_nodup {α : Type} {n : Int} {x : α} : ∀ {m : List (Int × α)}, (m.map Prod.fst).Nodup → ((mput m n x).map Prod.fst).Nodup
  | [], _ => by simp [mput]
  | p :: m, h => by
    simp only [List.map_cons, List.nodup_cons] at h
    unfold mput
    split
    · rename_i hp
      simp only [List.map_cons, List.nodup_cons]
      rw [← hp]
      exact h
    · rename_i hp
      simp only [List.map_cons, List.nodup_cons]
      exact ⟨fun hm => (mput_mem hm).elim h.1 fun e => hp e, mput_nodup h.2⟩

theorem dmap_at {k : Nat} {e : Ty} {m : List (Int × e.den)} {v : Value} (hi : InvH C.P B w0 Ψ β h w) (hg : hget h k = .dmap e m) (hv : RelV Ψ β (.sl k) v) :
    ∃ g ms cl, v = .map (some g) ∧ β[k]? = some (.map (some g)) ∧ w.heap[g]? = some (.map ms cl) ∧ ¬ B g ∧ mapR Ψ e m ms.toList ∧ (m.map Prod.fst).Nodup ∧ (ms.toList.map (·.born)).Nodup ∧ (∀ x ∈ ms.toList, x.born < cl) := by
  obtain ⟨g, ms, cl, h1, h2, h3, h4⟩ := hi.blk k _ (hget_some hg (by simp))
  have hv : β[k]? = some v := hv.1
  rw [h1] at hv
  simp at hv
  exact ⟨g, ms, cl, hv.symm, h1, h2, h3, h4⟩

theorem makeDmap_ok {t et : TypeId} {e : Ty} {fs : List (List AV)} {acts : List Act} (hi : InvH C.P B w0 Ψ β h w) (hf : RelF Ψ β fs acts) (hm : intMap C t = some et) :
    EOp C B w0 Ψ w (do pure (.value (← Instr.makeMap t none))) ⟨none, .sl (hlen h), h ++ [.dmap e []], none⟩ fs acts := by
  have hn : (β ++ [Value.map (some w.heap.size)])[h.length]? = some (.map (some w.heap.size)) := by rw [← hi.len]; simp
  refine ⟨.value (.map (some w.heap.size)), _, β ++ [.map (some w.heap.size)], w.alloc (.map #[] 0), then_value rfl, .inl rfl, ?_, RelF_mono (PLe.refl _) (snoc_mono _) _ _ hf, ?_⟩
  · refine hi.push ((Below.refl _ _).alloc (Nat.le_refl _) _) rfl ⟨w.heap.size, #[], 0, hn, heap_alloc_new w _, out_new hi.size, rfl, List.nodup_nil, List.nodup_nil, fun x hx => by simp at hx⟩ (fun g hc => ?_)
    simp only [claims] at hc
    rw [hn] at hc
    simp at hc
    omega
  · refine ⟨?_, by simp [hole]⟩
    rw [hlen_eq]; exact hn

theorem dinsert_ok {t : TypeId} {m key v : AV} {mv kv vv : Value} {r : Out} {fs : List (List AV)} {acts : List Act} (hi : InvH C.P B w0 Ψ β h w) (hf : RelF Ψ β fs acts) (hm : RelV Ψ β m mv) (hk : RelV Ψ β key kv) (hv : RelV Ψ β v vv)
    (hr : dinsert C h t m key v = some r) : EOp C B w0 Ψ w (do Instr.mapUpdate t mv kv vv; pure .skip) r fs acts := by
  unfold dinsert at hr
  split at hr
  · rename_i et k n him
    split at hr
    · rename_i e mm hg
      split at hr
      · rename_i x hx
        split at hr
        · rename_i hnr
          simp only [Option.some.injEq] at hr
          subst hr
          obtain ⟨kt, hu, hku⟩ := intMap_spec him
          obtain ⟨g, ms, cl, rfl, hβ, hh, hB, hmr, hnd, hbn, hbc⟩ := dmap_at hi hg hm
          obtain ⟨rfl, hn⟩ := rv_int.1 hk
          have hnr0 : refs v = [] := by
            have := noRefs_eq hnr
            simpa [refsA] using this
          have hxv : rv Ψ e x vv := asD_rv (PLe.refl Ψ) hx hv (by rw [hnr0]; exact Reading.nil)
          rcases findNow_d n mm ms.toList 0 hmr with ⟨h1, h2, h3⟩ | ⟨j, y, u, h1, h2, h3, h4, h5, h6⟩
          · refine ⟨.skip, undef, β, { w with heap := w.heap.setIfInBounds g (.map (ms.push { key := .int .i64 n, val := vv, born := cl }) (cl + 1)) }, ?_, .inr ⟨rfl, rfl⟩, ?_, hf, rfl⟩
            · exact then_skip (by simp [Instr.mapUpdate, run_underlying hu, MapKept.run_getObj_map hh, run_checkKey hku (k := .int .i64 n) rfl, run_findKey hku h2, MapKept.run_setObj_map _ hh, Result.andThen])
            · simp only [hset_eq]
              refine hi.rewriteG (hget_some hg (by simp)) rfl (g := g) hβ ⟨rfl, rfl, rfl, by simp, fun j _ hj => (MapKept.heap_set (o' := _) hh).2 j (fun e => hj (by rw [e]))⟩ (fun g' h' => h') ⟨g, _, _, hβ, (MapKept.heap_set hh).1, hB, ?_, mput_nodup hnd, ?_, ?_⟩
              · rw [h3, Array.toList_push]
                exact mapR_snoc rfl hn hxv hmr
              · rw [Array.toList_push, List.map_append, List.nodup_append]
                refine ⟨hbn, by simp, fun a ha b hb => ?_⟩
                simp only [List.map_cons, List.map_nil, List.mem_singleton] at hb
                obtain ⟨z, hz, rfl⟩ := List.mem_map.1 ha
                have := hbc z hz
                omega
              · intro z hz
                rw [Array.toList_push] at hz
                rcases List.mem_append.1 hz with hz | hz
                · have := hbc z hz; omega
                · simp only [List.mem_singleton] at hz
                  subst hz
                  exact Nat.lt_succ_self _
          · have hlt : j < ms.toList.length := by
              rcases Nat.lt_or_ge j ms.toList.length with h' | h'
              · exact h'
              · rw [List.getElem?_eq_none h'] at h3; cases h3
            have hmj : ms[j]? = some u := by simpa using h3
            have hlist : (ms.modify j (fun e' => { e' with key := .int .i64 n, val := vv })).toList = ms.toList.set j { u with key := .int .i64 n, val := vv } := by
              rw [Array.toList_modify, modify_set _ _ _ _ h3]
            have hborn : (ms.toList.set j { u with key := .int .i64 n, val := vv }).map (·.born) = ms.toList.map (·.born) := by
              rw [List.map_set]
              refine List.ext_getElem? fun i => ?_
              rw [List.getElem?_set]
              split
              · rename_i hij
                subst hij
                split
                · rw [List.getElem?_map, h3]; rfl
                · rename_i hc; exact absurd (by simpa using hlt) hc
              · rfl
            refine ⟨.skip, undef, β, { w with heap := w.heap.setIfInBounds g (.map (ms.modify j (fun e' => { e' with key := .int .i64 n, val := vv })) cl) }, ?_, .inr ⟨rfl, rfl⟩, ?_, hf, rfl⟩
            · rw [Nat.zero_add] at h2
              exact then_skip (by simp [Instr.mapUpdate, run_underlying hu, MapKept.run_getObj_map hh, run_checkKey hku (k := .int .i64 n) rfl, run_findKey hku h2, MapKept.run_setObj_map _ hh, Result.andThen, hmj, h4, Instr.keyThatStays, Instr.sameBits])
            · simp only [hset_eq]
              refine hi.rewriteG (hget_some hg (by simp)) rfl (g := g) hβ ⟨rfl, rfl, rfl, by simp, fun j _ hj => (MapKept.heap_set (o' := _) hh).2 j (fun e => hj (by rw [e]))⟩ (fun g' h' => h') ⟨g, _, _, hβ, (MapKept.heap_set hh).1, hB, ?_, mput_nodup hnd, ?_, ?_⟩
              · rw [hlist]
                exact h6 x vv hn hxv
              · rw [hlist, hborn]; exact hbn
              · intro z hz
                rw [hlist] at hz
                have hz' : z.born ∈ (ms.toList.set j { u with key := .int .i64 n, val := vv }).map (·.born) := List.mem_map.2 ⟨z, hz, rfl⟩
                rw [hborn] at hz'
                obtain ⟨z', hz1, hz2⟩ := List.mem_map.1 hz'
                have := hbc z' hz1
                omega
        · cases hr
      · cases hr
    · cases hr
  · cases hr

theorem dlookup_ok {t : TypeId} {m key : AV} {mv kv : Value} {ok : Bool} {r : Out} {fs : List (List AV)} {acts : List Act} (hi : InvH C.P B w0 Ψ β h w) (hf : RelF Ψ β fs acts) (hm : RelV Ψ β m mv) (hk : RelV Ψ β key kv)
    (hr : dlookup C h t m key ok = some r) : EOp C B w0 Ψ w (do pure (.value (← Instr.lookup t mv kv ok))) r fs acts := by
  unfold dlookup at hr
  split at hr
  · rename_i et k n him
    split at hr
    · rename_i e mm z hg hz
      split at hr
      · rename_i x hx
        split at hr
        · rename_i hnr
          have := ok0_inv hr; subst this
          obtain ⟨kt, hu, hku⟩ := intMap_spec him
          obtain ⟨g, ms, cl, rfl, hβ, hh, hB, hmr, hnd, hbn, hbc⟩ := dmap_at hi hg hm
          obtain ⟨rfl, hn⟩ := rv_int.1 hk
          obtain ⟨ti, zv, hti, htz, rfl⟩ := zero_spec hz
          have hnr0 : refs (ofV zv) = [] := by
            have := noRefs_eq hnr
            simpa [refsA] using this
          have hzv : rv Ψ e x zv := asD_rv (β := β) (h := h) (PLe.refl Ψ) hx (ofV_rel zv) (by rw [hnr0]; exact Reading.nil)
          have fin : ∀ (vv : Value) (b : Bool) (y : e.den), (mget mm n).getD x = y → (mget mm n).isSome = b → rv Ψ e y vv → (do pure (.value (← Instr.lookup t (.map (some g)) (.int .i64 n) ok)) : Sem Next).run C.P w = .ok (.value (if ok then .tuple #[vv, .bool b] else vv)) w →
              EOp C B w0 Ψ w (do pure (.value (← Instr.lookup t (.map (some g)) (.int .i64 n) ok))) ⟨none, if ok then .tup [.d e ((mget mm n).getD x), .d .bool (mget mm n).isSome] else .d e ((mget mm n).getD x), h, none⟩ fs acts := fun vv b y e1 e2 hv hrun => by
            refine ⟨_, _, β, w, hrun, .inl rfl, hi, hf, ?_⟩
            rw [e1, e2]
            cases ok with
            | true => exact ⟨[vv, .bool b], rfl, vv, _, rfl, hv, .bool b, [], rfl, rv_bool.2 rfl, rfl⟩
            | false => exact hv
          rcases findNow_d n mm ms.toList 0 hmr with ⟨h1, h2, h3⟩ | ⟨j, y, u, h1, h2, h3, h4, h5, h6⟩
          · refine fin zv false x (by rw [h1]; rfl) (by rw [h1]; rfl) hzv ?_
            cases ok <;> simp [Instr.lookup, run_underlying hu, MapKept.run_getObj_map hh, run_checkKey hku (k := .int .i64 n) rfl, run_findKey hku h2, zeroValue, typeInfo, hti, htz, Result.andThen]
          · refine fin u.val true y (by rw [h1]; rfl) (by rw [h1]; rfl) h5 ?_
            cases ok <;> simp [Instr.lookup, run_underlying hu, MapKept.run_getObj_map hh, run_checkKey hku (k := .int .i64 n) rfl, run_findKey hku h2, Result.andThen]
        · cases hr
      · cases hr
    · cases hr
  · cases hr

/-- More is promised, of blocks from B on. -/
theorem Ext.refl (B : Nat → Prop) (Ψ : Pr) : Ext B Ψ Ψ := ⟨PLe.refl _, fun _ _ h => .inl h⟩
theorem Ext.trans {B : Nat → Prop} {Ψ Ψ' Ψ'' : Pr} (h : Ext B Ψ Ψ') (h' : Ext B Ψ' Ψ'') : Ext B Ψ Ψ'' :=
  ⟨fun a v hv => h'.1 a v (h.1 a v hv), fun ad v hv => (h'.2 ad v hv).elim (h.2 ad v) .inr⟩
theorem Step.ext {Ψ' : Pr} (hs : Step Ψ w Ψ' w') (hB : (∀ k, B k → k < w.heap.size)) : Ext B Ψ Ψ' :=
  ⟨hs.le, fun ad v hv => (hs.new ad v hv).imp id fun h => out_ge hB h.1⟩

theorem hget_lt {l : List Blk} {k : Nat} {b : Blk} (h : l[k]? = some b) : k < l.length := by
  rcases Nat.lt_or_ge k l.length with h' | h'
  · exact h'
  · rw [List.getElem?_eq_none h'] at h; cases h

theorem grow_reading {Ψ' : Pr} (hi : InvH C.P B w0 Ψ β h w) (hle : PLe Ψ Ψ') {k : Nat} {tid : TypeId} {e : Ty} {xs : List e.den} (hg : hget h k = .grow tid e xs)
    (hp : ∀ g n cap, cap ≠ 0 → β[k]? = some (.slice (some ⟨g, 0, none⟩) n cap) → ∀ i v, w.cell? ⟨g, i, none⟩ = some v → Ψ' ⟨g, i, none⟩ = some v) {u : Value} (hu : β[k]? = some u) : rv Ψ' (.arr e) xs u := by
  rcases hi.blk k _ (hget_some hg (by simp)) with ⟨ad, h1, rfl⟩ | ⟨g, cap, cur, h1, hz, hB, hh, hn, hcm, hcs, hd⟩
  · rw [hu] at h1
    simp at h1
    subst h1
    exact ⟨_, ⟨ad, 0, rfl, Nat.le_refl _, by simp [maxLen], .inl rfl⟩, rfl⟩
  · have hp' := hp g _ cap hz h1
    rw [hu] at h1
    simp at h1
    subst h1
    refine ⟨_, ⟨_, cap, rfl, hn, hcm, .inr ⟨_, rdL_mono (reads_mono hle e) _ _ hd, g, 0, rfl, fun j v hj => hp' _ v ?_⟩⟩, rfl⟩
    rw [cell_of_heap hh, Nat.zero_add]
    rw [List.getElem?_take] at hj
    split at hj
    · simpa using hj
    · cases hj

/-! ### Giving an own slice away -/
open Classical in
noncomputable def given (Ψ : Pr) (β : List Value) (w : World) (k : Nat) : Pr := fun ad =>
  if (∃ n cap, cap ≠ 0 ∧ β[k]? = some (.slice (some ⟨ad.block, 0, none⟩) n cap)) ∧ ad.spot = none then w.cell? ad else Ψ ad

theorem given_in {k g n cap : Nat} (hz : cap ≠ 0) (hβ : β[k]? = some (.slice (some ⟨g, 0, none⟩) n cap)) (i : Nat) : given Ψ β w k ⟨g, i, none⟩ = w.cell? ⟨g, i, none⟩ := by
  unfold given
  rw [if_pos ⟨⟨n, cap, hz, hβ⟩, rfl⟩]

theorem freeze_sound {s : St} (hi : InvH C.P B w0 Ψ β s.heap w) (hf : RelF Ψ β (s.top :: s.below) As) (k : Nat) :
    ∃ Ψ', Ext B Ψ Ψ' ∧ InvH C.P B w0 Ψ' β (s.freeze k).heap w ∧ RelF Ψ' β ((s.freeze k).top :: (s.freeze k).below) As ∧ Reading Ψ' β s.heap [k] ∧
      ∀ (j : Nat) (tid : TypeId) (e : Ty) (xs : List e.den), j ≠ k → hget s.heap j = .grow tid e xs → hget (s.freeze k).heap j = .grow tid e xs := by
  unfold St.freeze
  split
  · rename_i tid e xs hg
    have hk := hget_some hg (by simp)
    have hle : PLe Ψ (given Ψ β w k) := by
      intro ad v hv
      have h1 := hi.prom ad v hv
      unfold given
      split
      · rename_i hc; exact Pm_plain hc.2 h1
      · exact hv
    have hrd : ∀ u : Value, β[k]? = some u → rv (given Ψ β w k) (.arr e) xs u := fun u hu =>
      grow_reading hi hle hg (fun g n cap hz hβ i v hv => by rw [given_in hz hβ]; exact hv) hu
    have hptr : ∀ g : Nat, β[k]? = some (.pointer (some ⟨g, 0, none⟩)) → β[k]? = some (.pointer (some ⟨g, 0, none⟩)) := fun _ h => h
    have hget' : ∀ {j : Nat} {b : Blk}, ((subH k (.d (.arr e) xs) s.heap).set k .gone)[j]? = some b → (j = k ∧ b = .gone) ∨ (j ≠ k ∧ ∃ b', s.heap[j]? = some b' ∧ b = (subB k (.d (.arr e) xs) b')) := by
      intro j b hb
      by_cases hjk : j = k
      · subst hjk
        have hlt : j < (subH j (.d (.arr e) xs) s.heap).length := by rw [subH_len]; exact hget_lt hk
        rw [List.getElem?_set_self hlt] at hb
        simp at hb
        exact .inl ⟨rfl, hb.symm⟩
      · rw [List.getElem?_set_ne (Ne.symm hjk)] at hb
        exact .inr ⟨hjk, subH_get _ _ _ _ _ hb⟩
    have hcl : ∀ {j g : Nat} {b b' : Blk}, b = (subB k (.d (.arr e) xs) b') → claims β j g b → claims β j g b' := by
      intro j g b b' hb hc
      subst hb
      cases b' <;> exact hc
    have hclk : ∀ {g n cap : Nat}, cap ≠ 0 → β[k]? = some (.slice (some ⟨g, 0, none⟩) n cap) → claims β k g (.grow tid e xs) := fun hz hβ => ⟨_, _, hz, hβ⟩
    refine ⟨given Ψ β w k, ⟨hle, fun ad v hv => ?_⟩, ?_, ?_, ?_, ?_⟩
    · unfold given at hv
      split at hv
      · rename_i hc
        obtain ⟨⟨n, cap, hz, hβ⟩, _⟩ := hc
        exact .inr (claims_lt (hi.blk k _ hk) (hclk hz hβ)).1
      · exact .inl hv
    · show InvH C.P B w0 (given Ψ β w k) β (hset (subH k (.d (.arr e) xs) s.heap) k .gone) w
      rw [hset_eq]
      refine ⟨hi.low, hi.size, fun ad v hv => ?_, fun ad v hv hsp => ?_, by simp [subH_len, hi.len], hi.one, fun j b hb => ?_, fun j b g hb hc ad had hsp => ?_, fun i j bi bj g hij hbi hbj hci hcj => ?_⟩
      · unfold given at hv
        split at hv
        · rename_i hc
          exact Pm_mk hc.2 hv
        · exact hi.prom ad v hv
      · unfold given at hv
        split at hv
        · rename_i hc
          rw [hc.2] at hsp; cases hsp
        · exact hi.own ad v hv hsp
      · rcases hget' hb with ⟨_, rfl⟩ | ⟨hjk, b', hb', rfl⟩
        · trivial
        · have hB := hi.blk j _ hb'
          cases b' with
          | gone => trivial
          | log ys Y own xs => exact BlkR_log hB (fun _ h => h) hle.m (Nat.le_refl _) fun _ _ => rfl
          | lof ys Y own => exact BlkR_lof hB (fun _ h => h) hle.m (Nat.le_refl _) fun _ _ => rfl
          | cells cs =>
            obtain ⟨g, c, e', h1, h2, h3, h4, h5⟩ := hB
            exact ⟨g, c, e', h1, h2, h3, subL_rel k _ hle hrd (fun _ _ _ h => h) hptr (fun _ h => h) _ _ h4, h5⟩
          | grow tid' e' xs' =>
            refine hB.imp id ?_
            rintro ⟨g, cap, cur, h1, h2, h3, h4, h5, h6, h7, h8⟩
            exact ⟨g, cap, cur, h1, h2, h3, h4, h5, h6, h7, rdL_mono (reads_mono hle e') _ _ h8⟩
          | kmap es => exact hB
          | dmap e' m =>
            obtain ⟨g, ms, cl, h1, h2, h3, h4, h5⟩ := hB
            exact ⟨g, ms, cl, h1, h2, h3, mapR_mono hle h4, h5⟩
          | diter e' last left =>
            obtain ⟨g, gm, ms, cl, seen, h1, h2, h3, h4, h5, h6⟩ := hB
            exact ⟨g, gm, ms, cl, seen, h1, h2, h3, hle _ _ h4, mapR_mono hle h5, h6.1, h6.2.1, h6.2.2.imp id fun ⟨p, x, s', a1, a2, a3, a4, a5, a6⟩ => ⟨p, x, s', a1, a2, a3, a4, a5, rv_le hle a6⟩⟩
          | loop f p ph ts =>
            obtain ⟨l, r, h1, h2, h3, h4, h5, h6, h7, h8⟩ := hB
            exact ⟨l, r, h1, h2, h3, h4, subL_rel k _ hle hrd (fun _ _ _ h => h) hptr (fun _ h => h) _ _ h5, hle _ _ h6, fun i v hv => hle _ _ (h7 i v hv), h8⟩
      · rcases hget' hb with ⟨_, rfl⟩ | ⟨hjk, b', hb', hbe⟩
        · exact hc.elim
        · have hc' := hcl hbe hc
          unfold given
          split
          · rename_i hcond
            obtain ⟨⟨n, cap, hz, hβ⟩, _⟩ := hcond
            rw [had] at hβ
            exact (hi.sep j k _ _ g hjk hb' hk hc' (hclk hz hβ)).elim
          · exact hi.free j _ g hb' hc' ad had hsp
      · rcases hget' hbi with ⟨_, rfl⟩ | ⟨_, bi', hbi', hbie⟩
        · exact hci.elim
        · rcases hget' hbj with ⟨_, rfl⟩ | ⟨_, bj', hbj', hbje⟩
          · exact hcj.elim
          · exact hi.sep i j _ _ g hij hbi' hbj' (hcl hbie hci) (hcl hbje hcj)
    · exact subF_rel k _ hle hrd (fun _ _ _ h => h) hptr (fun _ h => h) (s.top :: s.below) As hf
    · intro k' hk' tid' e' xs' hg' u hu
      simp only [List.mem_singleton] at hk'
      subst hk'
      rw [hg] at hg'
      cases hg'
      exact hrd u hu
    · intro j tid' e' xs' hjk hg'
      show hget (hset (subH k (.d (.arr e) xs) s.heap) k .gone) j = _
      rw [hset_eq]
      have h1 := hget_some hg' (by simp)
      have h2 : (subH k (.d (.arr e) xs) s.heap)[j]? = some (.grow tid' e' xs') := by
        have hlt : j < (subH k (.d (.arr e) xs) s.heap).length := by rw [subH_len]; exact hget_lt h1
        have h3 := List.getElem?_eq_getElem hlt
        obtain ⟨b', hb', hbe⟩ := subH_get _ _ _ _ _ h3
        rw [h1] at hb'
        simp at hb'
        subst hb'
        rw [h3, hbe]
        rfl
      exact hget_of (by rw [List.getElem?_set_ne (Ne.symm hjk)]; exact h2)
  · rename_i hng
    refine ⟨Ψ, Ext.refl _ _, hi, hf, fun k' hk' tid e xs hg u hu => ?_, fun _ _ _ _ _ h => h⟩
    simp only [List.mem_singleton] at hk'
    subst hk'
    exact absurd hg (hng _ _ _)
where
  hget_of : ∀ {h : List Blk} {j : Nat} {b : Blk}, h[j]? = some b → hget h j = b
    | [], _, _, hb => by simp at hb
    | b0 :: h, 0, _, hb => by simpa [hget] using hb
    | b0 :: h, j + 1, _, hb => by
      simp only [hget]
      exact hget_of (by simpa using hb)

/-- Every operation that is no call of a function. -/
theorem op_sound {o : Oper} {r : Out} {fs : List (List AV)} {acts : List Act} (hi : InvH C.P B w0 Ψ β h w) (hf : RelF Ψ β fs acts) (hev : ∀ x ∈ o.op.operands, RelV Ψ β (ev fr x) (a.eval x))
    (hr : aop C fr h o.op = some r) (hp : ∀ p, r.need = some p → p) :
    ∃ n v Ψ' β' w', (execOp a.eval o).run C.P w = .ok n w' ∧ (n = .value v ∨ (n = .skip ∧ v = undef)) ∧ Ext B Ψ Ψ' ∧ InvH C.P B w0 Ψ' β' (match r.kill with | none => r.heap | some k => subH k .junk r.heap) w' ∧
      RelF Ψ' β' (match r.kill with | none => fs | some k => subF k .junk fs) acts ∧ RelV Ψ' β' r.v v := by
  by_cases hn : neutral o.op = true
  · obtain ⟨h1, h2, v, Ψ', w', e1, e2, e3⟩ := neutral_sound hi hev hn hr hp
    rw [h1, h2]
    exact ⟨.value v, v, Ψ', β, w', e1, .inl rfl, e2.ext hi.size, hi.step e2, RelF_mono e2.le (fun _ _ h => h) _ _ hf, e3⟩
  · by_cases hbx : ∃ bt y r', o.op = .box bt y ∧ abox' C h bt (ev fr y) = some r'
    · obtain ⟨bt, y, r', ho, hb⟩ := hbx
      obtain ⟨dst, op, ty, pos, after, guard⟩ := o
      simp only at ho hev hr
      subst ho
      simp only [aop, hb, Option.some.injEq] at hr
      subst hr
      have hx := hev y (by simp [Op.operands])
      generalize ev fr y = av at hb hx
      obtain ⟨u, z, hr', hz⟩ : ∃ (u : Ty) (z : u.den), ok0 h (.rp u z) = some r' ∧ rv Ψ u z (a.eval y) := by
        unfold abox' at hb
        split at hb
        · rename_i u z
          split at hb
          · exact ⟨u, z, hb, hx⟩
          · cases hb
        · rename_i cs
          split at hb
          · split at hb
            · rename_i hrf
              split at hb
              · rename_i u hu
                split at hb
                · rename_i z hz
                  exact ⟨u, z, hb, asD_rv (PLe.refl _) hz hx (by rw [hrf]; exact Reading.nil)⟩
                · cases hb
              · cases hb
            · cases hb
          · cases hb
        · cases hb
      have := ok0_inv hr'; subst this
      obtain ⟨cs, hcs, hv⟩ := hz
      have hone : ∀ v : Value, v.oneCell' = true → v.cells = #[v] := by
        intro v h
        cases v <;> first | rfl | simp [Value.oneCell'] at h
      have hv : (a.eval y).cells = cs.toArray := by
        cases ht : u.isAgg with
        | true => rw [ht] at hv; simp at hv; rw [hv]; rfl
        | false =>
          rw [ht] at hv
          simp at hv
          have h1 := reads_one u z cs hcs (a.eval y) (by simp [hv])
          rw [hone _ h1, hv]
      have hst := step_block hi cs bt
      refine ⟨.value (.pointer (some ⟨w.heap.size, 0, none⟩)), _, _, β, _, ?_, .inl rfl, hst.ext hi.size, hi.step hst, RelF_mono hst.le (fun _ _ h => h) _ _ hf, ⟨w.heap.size, 0, cs, rfl, reads_mono hst.le u z cs hcs, fun j v' hj => ?_⟩⟩
      · simp [execOp, Instr.box, newVar, newRow, hv]
      · rw [withBlock_at]; simpa using hj
    have key : EOp C B w0 Ψ w (execOp a.eval o) r fs acts → ∃ n v Ψ' β' w', (execOp a.eval o).run C.P w = .ok n w' ∧ (n = .value v ∨ (n = .skip ∧ v = undef)) ∧ Ext B Ψ Ψ' ∧ InvH C.P B w0 Ψ' β' (match r.kill with | none => r.heap | some k => subH k .junk r.heap) w' ∧
      RelF Ψ' β' (match r.kill with | none => fs | some k => subF k .junk fs) acts ∧ RelV Ψ' β' r.v v :=
      fun ⟨n, v, β', w', e1, e2, e3, e4, e5⟩ => ⟨n, v, Ψ, β', w', e1, e2, Ext.refl _ _, e3, e4, e5⟩
    apply key
    obtain ⟨dst, op, ty, pos, after, guard⟩ := o
    simp only at hev hn hr
    cases op <;> first | (simp [neutral] at hn; done) | (simp [aop] at hr; done) | skip
    case alloc t => exact alloc_ok hi hf hr
    case box t x =>
      have hnone : abox' C h t (ev fr x) = none := by
        cases hq : abox' C h t (ev fr x) with
        | none => rfl
        | some r' => exact absurd ⟨t, x, r', rfl, hq⟩ hbx
      simp only [aop, hnone] at hr
      exact box_ok hi hf (hev x (by simp [Op.operands])) hr
    case store t x y => exact store_ok hi hf (hev x (by simp [Op.operands])) (hev y (by simp [Op.operands])) hr
    case makeMap t res =>
      cases res with
      | some _ => simp [aop] at hr
      | none =>
        simp only [aop] at hr
        split at hr
        · rename_i et hm
          split at hr
          · simp only [Option.some.injEq] at hr
            subst hr
            exact makeDmap_ok hi hf hm
          · simp only [Option.some.injEq] at hr
            subst hr
            exact makeMap_ok hi hf hm
        · cases hr
    case insert t m kx v =>
      simp only [aop] at hr
      split at hr
      · rename_i r' hr'
        simp only [Option.some.injEq] at hr
        subst hr
        exact insert_ok hi hf (hev m (by simp [Op.operands])) (hev kx (by simp [Op.operands])) (hev v (by simp [Op.operands])) hr'
      · exact dinsert_ok hi hf (hev m (by simp [Op.operands])) (hev kx (by simp [Op.operands])) (hev v (by simp [Op.operands])) hr
    case mapUpdate t m kx v => exact dinsert_ok hi hf (hev m (by simp [Op.operands])) (hev kx (by simp [Op.operands])) (hev v (by simp [Op.operands])) hr
    case lookup t m kx ok => exact dlookup_ok hi hf (hev m (by simp [Op.operands])) (hev kx (by simp [Op.operands])) hr
    case makeSlice t x y => exact make_ok hi hf (hev x (by simp [Op.operands])) (hev y (by simp [Op.operands])) hr hp
    case call c =>
      obtain ⟨callee, args, ats⟩ := c
      have hargs : ∀ x ∈ args.toList, RelV Ψ β (ev fr x) (a.eval x) := fun x hx => hev x (by simp only [Op.operands, Call.operands, Array.mem_append]; exact .inr (by simpa using hx))
      cases callee with
      | value f => simp [aop] at hr
      | invoke r m => simp [aop] at hr
      | builtin b =>
      have hrel := evs_rel (Ψ := Ψ) (β := β) args.toList hargs
      have hmap := map_list a.eval args
      have hr' : abuiltin C h b ats.toList (evs fr args.toList) = some r := hr
      generalize evs fr args.toList = l at *
      generalize args.toList.map a.eval = vs at *
      unfold abuiltin at hr'
      split at hr' <;> first | (simp [neutral] at hn; done) | (cases hr'; done) | skip
      · rename_i x y
        split at hr'
        · rename_i t tx hts
          obtain ⟨u, vs', rfl, hu, hl⟩ := hrel
          obtain ⟨v, vs'', rfl, hv, hl⟩ := hl
          simp only [RelL] at hl
          subst hl
          have hats : ats = #[t, tx] := by rw [← Array.toArray_toList (xs := ats), hts]
          subst hats
          obtain ⟨n, v', β', w', e1, e2, e3, e4, e5⟩ := append_ok (ty := ty) hi hf hu hv hr' hp
          refine ⟨n, v', β', w', ?_, e2, e3, e4, e5⟩
          rw [← e1]
          simp [execOp, resolve, invoke, builtin, hmap]
        · cases hr'
      · rename_i x y
        split at hr'
        · rename_i t tx hts
          obtain ⟨u, vs', rfl, hu, hl⟩ := hrel
          obtain ⟨v, vs'', rfl, hv, hl⟩ := hl
          simp only [RelL] at hl
          subst hl
          have hats : ats = #[t, tx] := by rw [← Array.toArray_toList (xs := ats), hts]
          subst hats
          obtain ⟨n, v', β', w', e1, e2, e3, e4, e5⟩ := copy_ok (t' := tx) (ty := ty) hi hf hu hv hr' hp
          refine ⟨n, v', β', w', ?_, e2, e3, e4, e5⟩
          rw [← e1]
          simp [execOp, resolve, invoke, builtin, hmap]
        · cases hr'

end Go.AM
