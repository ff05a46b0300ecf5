import Derived.Test.YtgneefndofeoaaaAmp
import Derived.ProofKit
import Derived.OpenShut
import Derived.Carry
import Derived.Test.YtgneefndofeoaaaRows
namespace Go.AM
open Go.Proofs.Ytgneefndofeoaaa
set_option linter.unusedVariables false
open Go.ChangeShapes Go.WideShapes Go.ChangeAt Go.RowKit

/-! ### How much a value holds -/
def wt : (t : Ty) → t.den → Nat
  | .int _, _ => 1
  | .bool, _ => 1
  | .str, l => (l : List Int).length + 1
  | .arr e, xs => ((xs : List e.den).map (wt e)).sum + 1
  | .vec _ e, xs => ((xs : List e.den).map (wt e)).sum
  | .unit, _ => 0
  | .pair a b, x => wt a x.1 + wt b x.2

def wts : (ts : List Ty) → dens ts → Nat
  | [], _ => 0
  | [t], x => wt t x
  | t :: u :: ts, x => wt t x.1 + wts (u :: ts) x.2

/-! ### Arguments that can be read as data are data -/
/-- The cells of a world. -/
def cellsPr (w : World) : Pr := fun a => w.cell? a

theorem cellsPr_prom (w : World) (a : Addr) (v : Value) (h : cellsPr w a = some v) : a.spot = none ∧ w.cell? a = some v := ⟨World.cell?_spot h, h⟩

section
variable {H : Type} {enc : TypeId × Value → H} {P : Program} {w : World} {spare : Nat → Bool} {held : Bool}

theorem rows_read {α : Type} {R : α → List Value → Prop} {g off ce : Nat} {rd : List Value → Option (DataW H × List MemPlace)} {wf : α → Nat}
    (ih : ∀ cs x, rd cs = some x → cs.length = ce → ∃ y, R y cs ∧ wf y ≤ Rows.uptoBulk x.1) :
    ∀ (n i0 : Nat) (elems : List (DataW H × List MemPlace)), elems.length = n →
      (∀ i, i < n → (w.cells? 0 (Addr.add ⟨g, off, none⟩ ((i0 + i) * ce)) ce).bind rd = elems[i]?) →
      ∃ (ys : List α) (cells : List Value), ys.length = n ∧ rdL R ys cells ∧ cells.length = n * ce ∧ (∀ j u, cells[j]? = some u → w.cell? ⟨g, off + (i0 * ce + j), none⟩ = some u) ∧
        (ys.map wf).sum ≤ Rows.uptoBulkAll (elems.map (·.1)) := by
  intro n
  induction n with
  | zero => intro i0 elems hl _; exact ⟨[], [], rfl, rfl, by simp, by simp, by simp⟩
  | succ n ihn =>
    intro i0 elems hl hel
    cases elems with
    | nil => simp at hl
    | cons x xs =>
      have h0 := hel 0 (by omega)
      simp only [List.getElem?_cons_zero, Option.bind_eq_some_iff] at h0
      obtain ⟨cs, hc, hx⟩ := h0
      obtain ⟨_, hlen, hcell⟩ := World.cells?_some hc
      obtain ⟨y, hy, hw⟩ := ih cs x hx hlen
      obtain ⟨ys, cells, h1, h2, h3, h4, h5⟩ := ihn (i0 + 1) xs (by simpa using hl) (fun i hi => by
        have := hel (i + 1) (by omega)
        rw [show i0 + (i + 1) = i0 + 1 + i by omega] at this
        simpa using this)
      refine ⟨y :: ys, cs ++ cells, by simp [h1], ⟨cs, cells, rfl, hy, h2⟩, by simp [h3, hlen, Nat.add_mul]; omega, fun j u hj => ?_, by simp only [List.map_cons, List.sum_cons, Rows.uptoBulkAll]; omega⟩
      by_cases hjc : j < ce
      · rw [List.getElem?_append_left (by omega)] at hj
        have := hcell j hjc
        rw [hj, add_plain, add_plain] at this
        simpa [Nat.add_assoc] using this
      · rw [List.getElem?_append_right (by omega), hlen] at hj
        have := h4 (j - ce) u hj
        rw [← this]
        congr 2
        rw [Nat.add_mul]
        omega

mutual
theorem reads_of_trod : ∀ (ty : Ty) {t : TypeId} {fuel : Nat} {cs : List Value} {x : DataW H × List MemPlace}, okT P ty t = true →
    DataW.trod enc P w 0 spare held fuel t cs = some x → ∃ d : ty.den, reads (cellsPr w) ty d cs ∧ cs.length = ty.cells ∧ wt ty d ≤ Rows.uptoBulk x.1
  | .int k, t, fuel, cs, x, ht, h => by
    unfold okT at ht
    split at ht
    · rename_i k' hk
      have : k' = k := by simpa using ht
      subst this
      obtain ⟨n, rfl, rfl, hw⟩ := DataW.trod_int hk h
      simp only [Lit.wf, Bool.and_eq_true, decide_eq_true_eq] at hw
      exact ⟨n, ⟨rfl, by unfold IntKind.has; simpa using hw⟩, rfl, by simp [wt, Rows.uptoBulk]⟩
    · cases ht
  | .bool, t, fuel, cs, x, ht, h => by
    unfold okT at ht
    split at ht
    · rename_i hk
      obtain ⟨b, rfl, rfl⟩ := DataW.trod_bool hk h
      exact ⟨b, rfl, rfl, by simp [wt, Rows.uptoBulk]⟩
    · cases ht
  | .str, t, fuel, cs, x, ht, h => by
    unfold okT at ht
    split at ht
    · rename_i hk
      obtain ⟨s, rfl, rfl, hs⟩ := DataW.trod_string hk h
      refine ⟨bytesOf s, ⟨?_, ?_, ?_⟩, rfl, by simp [wt, Rows.uptoBulk, bytesOf]⟩
      · congr 2
        unfold strOf bytesOf
        cases s with | mk d => simp [Function.comp_def]
      · intro c hc
        simp only [bytesOf, List.mem_map] at hc
        obtain ⟨b, _, rfl⟩ := hc
        have := b.toNat_lt
        omega
      · simpa [bytesOf] using hs
    · cases ht
  | .arr e, t, fuel, cs, x, ht, h => by
    unfold okT at ht
    split at ht
    · rename_i et hk
      simp only [Bool.and_eq_true] at ht
      obtain ⟨⟨hc, h1⟩, he⟩ := ht
      have hc := Nat.eq_of_beq_eq_true hc
      have h1 := Nat.le_of_ble_eq_true h1
      rcases DataW.trod_slice hk h with ⟨rfl, rfl⟩ | ⟨a, len, cap, elems, rest, n, rfl, rfl, rfl, hb, hl, hm, hlen, hel, _, _⟩
      · exact ⟨([] : List e.den), ⟨none, 0, rfl, Nat.le_refl _, Nat.zero_le _, .inl rfl⟩, rfl, by simp [wt, Rows.uptoBulk]⟩
      · by_cases h0 : len = 0
        · subst h0
          exact ⟨([] : List e.den), ⟨some a, cap, rfl, hl, hm, .inl rfl⟩, rfl, by simp [wt, Rows.uptoBulk]⟩
        · have hsp : a.spot = none := by
            have := hel 0 (by omega)
            rw [List.getElem?_eq_getElem (by omega), Option.bind_eq_some_iff] at this
            obtain ⟨cs, hcs, _⟩ := this
            obtain ⟨_, hcl, hcell⟩ := World.cells?_some hcs
            have := hcell 0 (by omega)
            rw [List.getElem?_eq_getElem (by omega)] at this
            have := World.cell?_spot this
            unfold Addr.add at this
            split at this <;> simp_all
          obtain ⟨g, off, sp⟩ := a
          simp only at hsp
          subst hsp
          obtain ⟨ys, cells, y1, y2, y3, y4, y5⟩ := rows_read (wf := wt e) (w := w) (g := g) (off := off) (ce := e.cells) (R := reads (cellsPr w) e) (rd := DataW.trod enc P w 0 spare held n et)
            (fun cs x hx _ => let ⟨d, hd, _, hw⟩ := reads_of_trod e he hx; ⟨d, hd, hw⟩) len 0 elems hlen (fun i hi => by
              have := hel i hi
              rw [hc] at this
              simpa using this)
          exact ⟨ys, ⟨some ⟨g, off, none⟩, cap, by rw [y1], by omega, hm, .inr ⟨cells, y2, g, off, rfl, fun j u hj => by simpa [cellsPr] using y4 j u hj⟩⟩, rfl, by simp only [wt, Rows.uptoBulk]; omega⟩
    · cases ht
  | .vec n e, t, fuel, cs, x, ht, h => by
    unfold okT at ht
    split at ht
    · rename_i m et hk
      simp only [Bool.and_eq_true] at ht
      obtain ⟨⟨⟨hm, hc⟩, hs⟩, he⟩ := ht
      have hc := Nat.eq_of_beq_eq_true hc
      have hs := Nat.eq_of_beq_eq_true hs
      have hm := Nat.eq_of_beq_eq_true hm
      subst hm
      obtain ⟨xs, k, rfl, rfl, hl, hx, hel⟩ := DataW.trod_array hk h
      rw [hs] at hl
      have key : ∀ (r i : Nat), i + r = m → ∃ ys : List e.den, ys.length = r ∧ rdL (reads (cellsPr w) e) ys (cs.drop (i * e.cells)) ∧ (ys.map (wt e)).sum ≤ Rows.uptoBulkAll ((xs.drop i).map (·.1)) := by
        intro r
        induction r with
        | zero =>
          intro i hi
          refine ⟨[], rfl, ?_, by simp⟩
          show cs.drop (i * e.cells) = []
          rw [List.drop_eq_nil_iff, hl, ← hi]
          simp
        | succ r ihr =>
          intro i hi
          obtain ⟨ys, h1, h2, h3⟩ := ihr (i + 1) (by omega)
          have := hel i (by omega)
          rw [List.getElem?_eq_getElem (by omega), hc] at this
          obtain ⟨y, hy, _, hw⟩ := reads_of_trod e he this
          refine ⟨y :: ys, by simp [h1], ⟨(cs.drop (i * e.cells)).take e.cells, cs.drop ((i + 1) * e.cells), ?_, hy, h2⟩, by
            rw [List.drop_eq_getElem_cons (by omega)]
            simp only [List.map_cons, List.sum_cons, Rows.uptoBulkAll]
            omega⟩
          rw [Nat.add_mul, Nat.one_mul, ← List.drop_drop, List.take_append_drop]
      obtain ⟨ys, h1, h2, h3⟩ := key m 0 (by omega)
      exact ⟨ys, ⟨h1, by simpa using h2⟩, hl, by simp only [wt, Rows.uptoBulk]; simp only [List.drop_zero] at h3; omega⟩
    · cases ht
  | .unit, t, fuel, cs, x, ht, h => by unfold okT at ht; cases ht
  | .pair a b, t, fuel, cs, x, ht, h => by
    unfold okT at ht
    split at ht
    · rename_i fs hk
      split at ht
      · rename_i f fs' hfs
        simp only [Bool.and_eq_true] at ht
        obtain ⟨⟨⟨⟨hs, ho⟩, hc⟩, ha⟩, hb⟩ := ht
        have hs := Nat.eq_of_beq_eq_true hs
        have ho := Nat.eq_of_beq_eq_true ho
        have hc := Nat.eq_of_beq_eq_true hc
        obtain ⟨xs, n, rfl, rfl, hl, hx, hel⟩ := DataW.trod_struct hk h
        have hfl : ∀ i : Nat, fs[i]? = (f :: fs')[i]? := fun i => by rw [← hfs]; simp
        have hsz : fs.size = fs'.length + 1 := by rw [← Array.length_toList, hfs]; simp
        have h0 := hel 0 f (by rw [hfl]; rfl)
        rw [ho, hc, List.getElem?_eq_getElem (by omega)] at h0
        obtain ⟨da, hda, hla, hwa⟩ := reads_of_trod a ha h0
        have hF := fields_of_trod b (n := n) (fs := fs') (xs := xs.tail) (cs := cs) (off := a.cells) hb (by rw [hl, hs]) (fun i f' hf' => by
          have := hel (i + 1) f' (by rw [hfl]; exact hf')
          rw [this]
          cases xs with
          | nil => simp
          | cons x xs => rfl) (by simp; omega)
        obtain ⟨db, hdb, hwb⟩ := hF
        refine ⟨(da, db), ⟨cs.take a.cells, cs.drop a.cells, (List.take_append_drop _ _).symm, by simpa using hda, hdb⟩, by rw [hl, hs]; rfl, ?_⟩
        cases xs with
        | nil => simp at hx; omega
        | cons x xs =>
          simp only [wt, Rows.uptoBulk, List.map_cons, Rows.uptoBulkAll]
          simp only [List.getElem_cons_zero, List.tail_cons] at hwa hwb
          omega
      · cases ht
    · cases ht
theorem fields_of_trod : ∀ (ty : Ty) {n : Nat} {fs : List Field} {xs : List (DataW H × List MemPlace)} {cs : List Value} {off : Nat}, okF P ty fs off = true → cs.length = off + ty.cells →
    (∀ (i : Nat) (f : Field), fs[i]? = some f → DataW.trod enc P w 0 spare held n f.type ((cs.drop f.offset).take (P.cellsOf f.type)) = xs[i]?) → xs.length = fs.length →
    ∃ d : ty.den, reads (cellsPr w) ty d (cs.drop off) ∧ wt ty d ≤ Rows.uptoBulkAll (xs.map (·.1))
  | .pair a b, n, fs, xs, cs, off, ht, hl, hel, hx => by
    cases fs with
    | nil => simp [okF] at ht
    | cons f fs =>
      simp only [okF, Bool.and_eq_true] at ht
      obtain ⟨⟨⟨ho, hc⟩, ha⟩, hb⟩ := ht
      have ho := Nat.eq_of_beq_eq_true ho
      have hc := Nat.eq_of_beq_eq_true hc
      cases xs with
      | nil => simp at hx
      | cons x xs =>
        have h0 := hel 0 f rfl
        rw [ho, hc] at h0
        obtain ⟨da, hda, _, hwa⟩ := reads_of_trod a ha (by simpa using h0)
        obtain ⟨db, hdb, hwb⟩ := fields_of_trod b (n := n) (fs := fs) (xs := xs) (cs := cs) (off := off + a.cells) hb (by rw [hl]; simp [Ty.cells]; omega) (fun i f' hf' => by
          have := hel (i + 1) f' (by simpa using hf')
          rw [this]; rfl) (by simpa using hx)
        refine ⟨(da, db), ⟨(cs.drop off).take a.cells, cs.drop (off + a.cells), ?_, hda, hdb⟩, by simp only [wt, List.map_cons, Rows.uptoBulkAll]; omega⟩
        rw [← List.drop_drop, List.take_append_drop]
  | .unit, n, fs, xs, cs, off, ht, hl, hel, hx => ⟨(), by
      show cs.drop off = []
      rw [List.drop_eq_nil_iff, hl]
      simp [Ty.cells], by simp [wt]⟩
  | .int _, _, _, _, _, _, ht, _, _, _ => by simp [okF] at ht
  | .bool, _, _, _, _, _, ht, _, _, _ => by simp [okF] at ht
  | .str, _, _, _, _, _, ht, _, _, _ => by simp [okF] at ht
  | .arr _, _, _, _, _, _, ht, _, _, _ => by simp [okF] at ht
  | .vec _ _, _, _, _, _, _, ht, _, _, _ => by simp [okF] at ht
end

/-- An argument. -/
theorem rv_of_trod (ty : Ty) {r : Reach} {b0 : Nat} {t : TypeId} {v : Value} {d : DataW H} {ps : List MemPlace} (ht : okT P ty t = true) (hval : Value.okWide P w r b0 t v)
    (h : DataW.Trod enc P w 0 spare held t v d ps) : ∃ x : ty.den, rv (cellsPr w) ty x v ∧ wt ty x ≤ Rows.uptoBulk d := by
  obtain ⟨fuel, h⟩ := h
  obtain ⟨x, hx, _, hwt⟩ := reads_of_trod ty ht h
  refine ⟨x, ⟨v.cells.toList, hx, ?_⟩, hwt⟩
  unfold Value.okWide at hval
  cases ty with
  | int k =>
    unfold okT at ht
    split at ht
    · rename_i k' hk
      obtain ⟨n, rfl⟩ := okWide_int hk (by unfold Value.okWide; rw [hk] at hval ⊢; exact hval)
      rfl
    · cases ht
  | bool =>
    unfold okT at ht
    split at ht
    · rename_i hk
      obtain ⟨n, rfl⟩ := okWide_bool hk (by unfold Value.okWide; rw [hk] at hval ⊢; exact hval)
      rfl
    · cases ht
  | str =>
    unfold okT at ht
    split at ht
    · rename_i hk
      obtain ⟨n, rfl⟩ := okWide_string hk (by unfold Value.okWide; rw [hk] at hval ⊢; exact hval)
      rfl
    · cases ht
  | arr e =>
    unfold okT at ht
    split at ht
    · rename_i hk
      obtain ⟨a, l, c, rfl⟩ := okWide_slice hk (by unfold Value.okWide; rw [hk] at hval ⊢; exact hval)
      rfl
    · cases ht
  | vec n e =>
    unfold okT at ht
    split at ht
    · rename_i hk
      rw [hk] at hval
      obtain ⟨cs, rfl, _⟩ := hval
      simp [Ty.isAgg, Value.cells]
    · cases ht
  | unit => unfold okT at ht; cases ht
  | pair a b =>
    unfold okT at ht
    split at ht
    · rename_i hk
      rw [hk] at hval
      obtain ⟨cs, rfl, _⟩ := hval
      simp [Ty.isAgg, Value.cells]
    · cases ht

theorem rels_of_trod : ∀ (tys : List Ty) {r : Reach} {b0 : Nat} {ts : List TypeId} {vs : List Value} {ds : List (DataW H)} {ps : List MemPlace}, okTs P tys ts = true →
    (∀ (j : Nat) t v, ts[j]? = some t → vs[j]? = some v → Value.okWide P w r b0 t v) → DataW.TrodAll enc P w 0 spare held ts vs ds ps →
    ∃ x : dens tys, RelL (cellsPr w) [] (outs tys x) vs ∧ wts tys x ≤ Rows.uptoBulkAll ds
  | [], _, _, ts, vs, ds, ps, ht, hval, h => by
    cases ts with
    | cons t ts => simp [okTs] at ht
    | nil =>
      obtain ⟨rfl, _, _⟩ := trodAll_nil h
      exact ⟨(), rfl, by simp [wts]⟩
  | ty :: tys, _, _, ts, vs, ds, ps, ht, hval, h => by
    cases ts with
    | nil => simp [okTs] at ht
    | cons t ts =>
      simp only [okTs, Bool.and_eq_true] at ht
      obtain ⟨v, vs, d, ds, p, q, rfl, rfl, rfl, h1, h2⟩ := trodAll_cons h
      obtain ⟨x, hx, hwx⟩ := rv_of_trod ty ht.1 (hval 0 t v rfl rfl) h1
      obtain ⟨y, hy, hwy⟩ := rels_of_trod tys ht.2 (fun j t v hj hv => hval (j + 1) t v (by simpa using hj) (by simpa using hv)) h2
      cases tys with
      | nil => exact ⟨x, ⟨v, vs, rfl, hx, hy⟩, by simp only [wts, Rows.uptoBulkAll]; omega⟩
      | cons u us => exact ⟨(x, y), ⟨v, vs, rfl, hx, hy⟩, by simp only [wts, Rows.uptoBulkAll]; omega⟩

theorem trodAll_below {ts : List TypeId} (hl : laidOutB P = true) (hr : ∀ t ∈ ts, P.readableRec t = true ∧ t < P.types.size) {W W' : World} {sp : Nat → Bool} (hb : Below W.heap.size W W') :
    ∀ {ts' : List TypeId} {vs : List Value} {ds : List (DataW H)} {ps : List MemPlace}, (∀ t ∈ ts', t ∈ ts) → DataW.TrodAll enc P W 0 (fun _ => true) true ts' vs ds ps →
      (∀ x ∈ ps, x.block < W.heap.size) → (∀ x ∈ ps, sp x.block = true) → DataW.TrodAll enc P W' 0 sp true ts' vs ds ps
  | [], [], [], _, _, h, _, _ => h
  | t :: ts', _ :: _, _ :: _, _, hm, ⟨p, q, h1, h2, e⟩, hlt, hsp =>
    ⟨p, q, WideElems.Trod_stays hl (hr t (hm t (by simp))).1 (hr t (hm t (by simp))).2 h1 (fun x hx => hb.same (hlt x (by rw [e]; simp [hx]))) (fun x hx => hsp x (by rw [e]; simp [hx])),
      trodAll_below hl hr hb (fun t ht => hm t (by simp [ht])) h2 (fun x hx => hlt x (by rw [e]; simp [hx])) (fun x hx => hsp x (by rw [e]; simp [hx])), e⟩

theorem post_below {f : Func} {s : ChangeSpec} {apart fresh handsOn again : Bool} {W W' : World} {args : Array Value} {v : Value} {ds gs : List (DataW H)} {before pa pv : List MemPlace}
    (hW : DataW.Whole enc P f.params.toList s.vars apart W args.toList ds gs before)
    (hres : ∀ (b : Nat) (sp : Nat → Bool) (hd : Bool), DataW.TrodAll enc P W' b sp hd f.resultTypes.toList (v.resultList f.resultTypes.size) (s.fn H (ds ++ gs)).results [])
    (hargs : ∀ sp : Nat → Bool, (∀ p ∈ before, sp p.block = true) → DataW.TrodAll enc P W' 0 sp true f.params.toList args.toList (s.fn H (ds ++ gs)).args pa)
    (hvars : ∀ sp : Nat → Bool, (∀ p ∈ before, sp p.block = true) → DataW.TrodVars enc P W' sp s.vars (s.fn H (ds ++ gs)).vars pv)
    (hps : before = pa ++ pv) (hb : Below W.heap.size W W')
    (hok : ∀ (j : Nat) (t : TypeId) (r : Value), f.resultTypes[j]? = some t → (v.resultList f.resultTypes.size)[j]? = some r → Value.okWide P W' .any 0 t r) :
    s.post enc P f apart fresh handsOn again W args v W' := by
  have hlt : ∀ p ∈ before, p.block < W.heap.size := fun p hp => by simpa using hW.lt p hp
  have hold : ∀ p ∈ before, (fun b => decide (b < W.heap.size)) p.block = true := fun p hp => by simpa using hW.lt p hp
  refine ⟨ds, gs, before, [], pa, pv, hW, hres _ _ _, hargs _ hold, hvars _ hold, hb.frame _, fun _ => ?_⟩
  obtain ⟨_, _, _, _, _, hz, hn⟩ := hW
  refine ⟨hok, _, _, ([] ++ pa) ++ pv, ⟨[] ++ pa, pv, trodAll_append (hargs _ (fun _ _ => rfl)) (hres _ _ _), hvars _ (fun _ _ => rfl), rfl, ?_, ?_⟩, ?_⟩
  · intro b off hp
    have hp' : MemPlace.cell b off ∈ before := by rw [hps]; simpa using hp
    rw [hb.frozen (p := ⟨b, off, none⟩) (hlt _ hp')]
    exact hz b off hp'
  · intro ha
    have := hn ha
    rw [hps] at this
    simpa using this
  · intro p hp _
    rw [hps]
    simpa using hp

/-! ### Contracts by a table -/
def look : List (FuncId × FSpec) → FuncId → Option FSpec
  | [], _ => none
  | p :: l, f => if Nat.beq f p.1 then some p.2 else look l f

def AllSat (P : Program) : List (FuncId × FSpec) → Prop
  | [] => True
  | p :: l => Sat P p.1 p.2 ∧ AllSat P l

def lookG : List (FuncId × GSpec) → FuncId → Option GSpec
  | [], _ => none
  | p :: l, f => if Nat.beq f p.1 then some p.2 else lookG l f
def AllSatG (P : Program) : List (FuncId × GSpec) → Prop
  | [] => True
  | p :: l => SatG P p.1 p.2 ∧ AllSatG P l
theorem lookG_sound {P : Program} : ∀ (l : List (FuncId × GSpec)), AllSatG P l → ∀ g sp, lookG l g = some sp → SatG P g sp
  | [], _, g, sp, h => by simp [lookG] at h
  | p :: l, hl, g, sp, h => by
    unfold lookG at h
    split at h
    · rename_i hb
      have := Nat.eq_of_beq_eq_true hb
      simp at h
      subst this; subst h
      exact hl.1
    · exact lookG_sound l hl.2 g sp h

theorem look_sound {P : Program} : ∀ (l : List (FuncId × FSpec)), AllSat P l → ∀ g sp, look l g = some sp → Sat P g sp
  | [], _, g, sp, h => by simp [look] at h
  | p :: l, hl, g, sp, h => by
    unfold look at h
    split at h
    · rename_i hb
      have := Nat.eq_of_beq_eq_true hb
      simp at h
      subst this; subst h
      exact hl.1
    · exact look_sound l hl.2 g sp h

/-- What is the same in all contexts of a seat: types of elements, boxes that are only read. -/
structure Base where
  P : Program
  ty : TypeId → Option Ty
  ro : TypeId → Bool

def hint0 (loops : FuncId → Nat → List LA) (f : FuncId) : Hint := ⟨loops f, fun _ => .split, fun _ => .split, fun _ => 0⟩

/-- A context: contracts, contracts of functions that hand back slices of their own, hints. -/
def mkctx (b : Base) (l : List (FuncId × FSpec)) (g : List (FuncId × GSpec)) (hint : FuncId → Hint) : Ctx := ⟨b.P, look l, hint, b.ty, lookG g, b.ro⟩
theorem mkctx_sound {b : Base} {l : List (FuncId × FSpec)} {g : List (FuncId × GSpec)} {hint : FuncId → Hint} (h : AllSat b.P l) (h' : AllSatG b.P g) : SpecSound (mkctx b l g hint) :=
  ⟨fun f sp hg => look_sound l h f sp hg, fun f sp hg => lookG_sound g h' f sp hg⟩

/-- Hints for one law: in these regions tests are shown to let the operations behind them run. -/
def hintY (f : FuncId) (ys : List Nat) (g : FuncId) : Hint := ⟨fun _ => [], fun r => bif Nat.beq g f && memN r ys then .yes else .split, fun _ => .split, fun _ => 0⟩

/-- All is reckoned by the kernel: loops go round by round. -/
def hintC (_ : FuncId) : Hint := ⟨fun _ => [], fun _ => .force, fun _ => .force, fun _ => 200⟩

def lawSp (ps : List Ty) : FSpec := ⟨ps, [.bool], fun _ => True, fun _ => true⟩
/-- A law that is asked where what it reads is small. -/
def lawSpU (ps : List Ty) : FSpec := ⟨ps, [.bool], fun x => wts ps x ≤ 1048576, fun _ => true⟩

theorem law_contract0 {f : FuncId} {fn : Func} {s : ChangeSpec} {tys : List Ty} {pre : dens tys → Prop} {bt : TypeId} {W : World} {r : Reach} {base : Nat} {args : Array Value} {ds gs : List (DataW H)} {before : List MemPlace}
    (hsat : Sat P f ⟨tys, [.bool], pre, fun _ => true⟩) (hpre : ∀ x, wts tys x ≤ Rows.uptoBulkAll ds → pre x) (hl : laidOutB P = true)
    (hr : (fn.params.toList.all fun t => P.readableRec t && decide (t < P.types.size)) = true) (hty : okTs P tys fn.params.toList = true)
    (hvars : s.vars = []) (hs : ∀ ds : List (DataW H), ds.length = fn.params.size → s.fn H (ds ++ []) = { results := [.lit (.bool true)], args := ds })
    (hres : fn.resultTypes = #[bt]) (hbt : P.underlying bt = some .bool)
    (hval : ∀ (j : Nat) t v, fn.params[j]? = some t → args[j]? = some v → Value.okWide P W r base t v)
    (hW : DataW.Whole enc P fn.params.toList s.vars false W args.toList ds gs before) :
    Calls P f args W fun e W' => ∃ v, e = .returned v ∧ s.post enc P fn false true false false W args v W' := by
  have hW' := hW
  obtain ⟨p, q, hA, hV, rfl, hfz, hnd⟩ := hW
  rw [hvars] at hV
  obtain ⟨rfl, rfl⟩ := trodVars_none hV
  obtain ⟨x, hx, hwx⟩ := rels_of_trod tys hty (fun j t v hj hv => hval j t v (by simpa using hj) (by simpa using hv)) hA
  have hds : ds.length = fn.params.size := by
    have : ∀ {ts : List TypeId} {vs : List Value} {ds : List (DataW H)} {ps : List MemPlace}, DataW.TrodAll enc P W 0 (fun _ => true) true ts vs ds ps → ds.length = ts.length := by
      intro ts
      induction ts with
      | nil => intro vs ds ps h; obtain ⟨_, rfl, _⟩ := trodAll_nil h; rfl
      | cons t ts ih => intro vs ds ps h; obtain ⟨v, vs, d, ds, p, q, rfl, rfl, rfl, h1, h2⟩ := trodAll_cons h; simp [ih h2]
    simpa using this hA
  have hlt : ∀ y ∈ p, y.block < W.heap.size := fun y hy => by simpa using hW'.lt y (by simpa using hy)
  refine (hsat (cellsPr W) W x args.toList (cellsPr_prom W) hx (hpre x hwx)).mono fun e W' ⟨v, Ψ', he, hb, _, _, hv⟩ => ?_
  have hv : rv Ψ' .bool true v := hv
  obtain ⟨cs, hcs, hcv⟩ := hv
  have hcs : cs = [.bool true] := hcs
  have hcv : cs = [v] := hcv
  have e2 : v = .bool true := by rw [hcs] at hcv; simpa using hcv.symm
  subst e2
  have hr' : ∀ t ∈ fn.params.toList, P.readableRec t = true ∧ t < P.types.size := fun t ht => by
    have := List.all_eq_true.1 hr t ht
    simpa using this
  refine ⟨_, he, post_below (pa := p) (pv := []) hW' (fun b sp hd => ?_) (fun sp hsp => ?_) (fun sp _ => ?_) (by simp) hb (ok_one hres rfl (okWide_bool_mk hbt _))⟩
  · rw [hs ds hds, hres]
    exact trodAll_cons_mk (shut_bool hbt _) trodAll_mk0
  · rw [hs ds hds]
    exact trodAll_below hl hr' hb (fun t ht => ht) hA hlt (fun y hy => hsp y (by simpa using hy))
  · rw [hs ds hds, hvars]
    rfl

/-- What a law's contract gives the form. -/
theorem law_contract {f : FuncId} {fn : Func} {s : ChangeSpec} {tys : List Ty} {bt : TypeId} {W : World} {r : Reach} {base : Nat} {args : Array Value} {ds gs : List (DataW H)} {before : List MemPlace}
    (hsat : Sat P f (lawSp tys)) (hl : laidOutB P = true) (hr : (fn.params.toList.all fun t => P.readableRec t && decide (t < P.types.size)) = true) (hty : okTs P tys fn.params.toList = true)
    (hvars : s.vars = []) (hs : ∀ ds : List (DataW H), ds.length = fn.params.size → s.fn H (ds ++ []) = { results := [.lit (.bool true)], args := ds })
    (hres : fn.resultTypes = #[bt]) (hbt : P.underlying bt = some .bool)
    (hval : ∀ (j : Nat) t v, fn.params[j]? = some t → args[j]? = some v → Value.okWide P W r base t v)
    (hW : DataW.Whole enc P fn.params.toList s.vars false W args.toList ds gs before) :
    Calls P f args W fun e W' => ∃ v, e = .returned v ∧ s.post enc P fn false true false false W args v W' :=
  law_contract0 hsat (fun _ _ => trivial) hl hr hty hvars hs hres hbt hval hW

/-- .. where what is read is small. -/
theorem law_contractU {f : FuncId} {fn : Func} {s : ChangeSpec} {tys : List Ty} {bt : TypeId} {W : World} {r : Reach} {base : Nat} {args : Array Value} {ds gs : List (DataW H)} {before : List MemPlace}
    (hsat : Sat P f (lawSpU tys)) (hl : laidOutB P = true) (hr : (fn.params.toList.all fun t => P.readableRec t && decide (t < P.types.size)) = true) (hty : okTs P tys fn.params.toList = true)
    (hvars : s.vars = []) (hs : ∀ ds : List (DataW H), ds.length = fn.params.size → s.fn H (ds ++ []) = { results := [.lit (.bool true)], args := ds })
    (hres : fn.resultTypes = #[bt]) (hbt : P.underlying bt = some .bool)
    (hval : ∀ (j : Nat) t v, fn.params[j]? = some t → args[j]? = some v → Value.okWide P W r base t v)
    (hW : DataW.Whole enc P fn.params.toList s.vars false W args.toList ds gs before) (hk : Rows.uptoSmall H (ds ++ gs) = true) :
    Calls P f args W fun e W' => ∃ v, e = .returned v ∧ s.post enc P fn false true false false W args v W' :=
  law_contract0 hsat (fun x hx => by
    have h := of_decide_eq_true hk
    have : ∀ (a b : List (DataW H)), Rows.uptoBulkAll a ≤ Rows.uptoBulkAll (a ++ b) := by
      intro a b
      induction a with
      | nil => simp [Rows.uptoBulkAll]
      | cons y a ih => simp only [List.cons_append, Rows.uptoBulkAll]; omega
    exact Nat.le_trans (Nat.le_trans hx (this ds gs)) h) hl hr hty hvars hs hres hbt hval hW
end
end Go.AM
