/- The contracts of WireConcat and WireTruncated where no string and no slice is longer than a machine holds, and what gives them to the form. -/
import Derived.Test.YtgneefndofeoaaaWv
import Derived.SizedLaws
namespace Go.AM
open Go.Proofs.Ytgneefndofeoaaa
set_option linter.unusedVariables false
open Go.ChangeShapes Go.WideShapes Go.ChangeAt Go.RowKit

/-- No string and no slice is longer than 2^47. -/
def sz : (t : Ty) → t.den → Prop
  | .int _, _ => True
  | .bool, _ => True
  | .str, l => (l : List Int).length ≤ 140737488355328
  | .arr e, xs => (xs : List e.den).length ≤ 140737488355328 ∧ ∀ y ∈ (xs : List e.den), sz e y
  | .vec _ _, _ => True
  | .unit, _ => True
  | .pair _ _, _ => True

def szs : (ts : List Ty) → dens ts → Prop
  | [], _ => True
  | [t], x => sz t x
  | t :: u :: ts, x => sz t x.1 ∧ szs (u :: ts) x.2

/-- Elements of slices take at least a byte. -/
def okZ (P : Program) : Ty → TypeId → Bool
  | .arr e, t => match P.underlying t with
    | some (.slice et) => Nat.ble 1 (P.bytesOf et) && okZ P e et
    | _ => false
  | _, _ => true
def okZs (P : Program) : List Ty → List TypeId → Bool
  | ty :: tys, t :: ts => okZ P ty t && okZs P tys ts
  | _, _ => true

section
variable {H : Type} {enc : TypeId × Value → H} {P : Program} {w : World} {spare : Nat → Bool} {held : Bool}

theorem rows_readz {α : Type} {R : α → List Value → Prop} {Z : α → Prop} {et : TypeId} {g off ce : Nat} {rd : List Value → Option (DataW H × List MemPlace)}
    (ih : ∀ cs x, rd cs = some x → cs.length = ce → ∃ y, R y cs ∧ ((∀ n ∈ DataW.weights P et x.1, n ≤ reachBytes) → Z y)) :
    ∀ (n i0 : Nat) (elems : List (DataW H × List MemPlace)), elems.length = n →
      (∀ i, i < n → (w.cells? 0 (Addr.add ⟨g, off, none⟩ ((i0 + i) * ce)) ce).bind rd = elems[i]?) →
      ∃ (ys : List α) (cells : List Value), ys.length = n ∧ rdL R ys cells ∧ cells.length = n * ce ∧ (∀ j u, cells[j]? = some u → w.cell? ⟨g, off + (i0 * ce + j), none⟩ = some u) ∧
        ((∀ n ∈ DataW.weightsAll P et (elems.map (·.1)), n ≤ reachBytes) → ∀ y ∈ ys, Z y) := by
  intro n
  induction n with
  | zero => intro i0 elems hl _; exact ⟨[], [], rfl, rfl, by simp, by simp, by simp⟩
  | succ n ihn =>
    intro i0 elems hl hel
    cases elems with
    | nil => simp at hl
    | cons x xs =>
      have h0 := hel 0 (by omega)
      simp only [List.getElem?_cons_zero, Option.bind_eq_some_iff] at h0
      obtain ⟨cs, hc, hx⟩ := h0
      obtain ⟨_, hlen, hcell⟩ := World.cells?_some hc
      obtain ⟨y, hy, hw⟩ := ih cs x hx hlen
      obtain ⟨ys, cells, h1, h2, h3, h4, h5⟩ := ihn (i0 + 1) xs (by simpa using hl) (fun i hi => by
        have := hel (i + 1) (by omega)
        rw [show i0 + (i + 1) = i0 + 1 + i by omega] at this
        simpa using this)
      refine ⟨y :: ys, cs ++ cells, by simp [h1], ⟨cs, cells, rfl, hy, h2⟩, by simp [h3, hlen, Nat.add_mul]; omega, fun j u hj => ?_, fun hz v hv => ?_⟩
      · by_cases hjc : j < ce
        · rw [List.getElem?_append_left (by omega)] at hj
          have := hcell j hjc
          rw [hj, add_plain, add_plain] at this
          simpa [Nat.add_assoc] using this
        · rw [List.getElem?_append_right (by omega), hlen] at hj
          have := h4 (j - ce) u hj
          rw [← this]
          congr 2
          rw [Nat.add_mul]
          omega
      · simp only [List.map_cons, DataW.weightsAll, List.mem_append] at hz
        cases hv with
        | head => exact hw fun n hn => hz n (.inl hn)
        | tail _ hv => exact h5 (fun n hn => hz n (.inr hn)) v hv

theorem reach_le {n : Nat} (h : n ≤ reachBytes) : n ≤ 140737488355328 := Nat.le_trans h (by decide)

theorem readz : ∀ (ty : Ty) {t : TypeId} {fuel : Nat} {cs : List Value} {x : DataW H × List MemPlace}, okT P ty t = true → okZ P ty t = true →
    DataW.trod enc P w 0 spare held fuel t cs = some x → ∃ d : ty.den, reads (cellsPr w) ty d cs ∧ cs.length = ty.cells ∧ ((∀ n ∈ DataW.weights P t x.1, n ≤ reachBytes) → sz ty d)
  | .int k, t, fuel, cs, x, ht, _, h => let ⟨d, h1, h2, _⟩ := reads_of_trod (.int k) ht h; ⟨d, h1, h2, fun _ => trivial⟩
  | .bool, t, fuel, cs, x, ht, _, h => let ⟨d, h1, h2, _⟩ := reads_of_trod .bool ht h; ⟨d, h1, h2, fun _ => trivial⟩
  | .vec m e, t, fuel, cs, x, ht, _, h => let ⟨d, h1, h2, _⟩ := reads_of_trod (.vec m e) ht h; ⟨d, h1, h2, fun _ => trivial⟩
  | .unit, t, fuel, cs, x, ht, _, h => let ⟨d, h1, h2, _⟩ := reads_of_trod .unit ht h; ⟨d, h1, h2, fun _ => trivial⟩
  | .pair a b, t, fuel, cs, x, ht, _, h => let ⟨d, h1, h2, _⟩ := reads_of_trod (.pair a b) ht h; ⟨d, h1, h2, fun _ => trivial⟩
  | .str, t, fuel, cs, x, ht, _, h => by
    unfold okT at ht
    split at ht
    · rename_i hk
      obtain ⟨s, rfl, rfl, hs⟩ := DataW.trod_string hk h
      refine ⟨bytesOf s, ⟨?_, ?_, ?_⟩, rfl, fun hz => ?_⟩
      · congr 2
        unfold strOf bytesOf
        cases s with | mk d => simp [Function.comp_def]
      · intro c hc
        simp only [bytesOf, List.mem_map] at hc
        obtain ⟨b, _, rfl⟩ := hc
        have := b.toNat_lt
        omega
      · simpa [bytesOf] using hs
      · have h1 := hz s.data.toList.length (by simp [DataW.weights])
        have h2 : (bytesOf s).length = s.data.toList.length := by simp [bytesOf]
        show (bytesOf s).length ≤ 140737488355328
        rw [h2]
        exact reach_le h1
    · cases ht
  | .arr e, t, fuel, cs, x, ht, hz0, h => by
    unfold okT at ht
    split at ht
    · rename_i et hk
      simp only [Bool.and_eq_true] at ht
      obtain ⟨⟨hc, h1⟩, he⟩ := ht
      have hc := Nat.eq_of_beq_eq_true hc
      have h1 := Nat.le_of_ble_eq_true h1
      unfold okZ at hz0
      rw [hk] at hz0
      simp only [Bool.and_eq_true] at hz0
      have hb1 := Nat.le_of_ble_eq_true hz0.1
      rcases DataW.trod_slice hk h with ⟨rfl, rfl⟩ | ⟨a, len, cap, elems, rest, n, rfl, rfl, rfl, hb, hl, hm, hlen, hel, _, _⟩
      · exact ⟨([] : List e.den), ⟨none, 0, rfl, Nat.le_refl _, Nat.zero_le _, .inl rfl⟩, rfl, fun _ => ⟨Nat.zero_le _, fun _ hy => nomatch hy⟩⟩
      · by_cases h0 : len = 0
        · subst h0
          exact ⟨([] : List e.den), ⟨some a, cap, rfl, hl, hm, .inl rfl⟩, rfl, fun _ => ⟨Nat.zero_le _, fun _ hy => nomatch hy⟩⟩
        · have hsp : a.spot = none := by
            have := hel 0 (by omega)
            rw [List.getElem?_eq_getElem (by omega), Option.bind_eq_some_iff] at this
            obtain ⟨cs, hcs, _⟩ := this
            obtain ⟨_, hcl, hcell⟩ := World.cells?_some hcs
            have := hcell 0 (by omega)
            rw [List.getElem?_eq_getElem (by omega)] at this
            have := World.cell?_spot this
            unfold Addr.add at this
            split at this <;> simp_all
          obtain ⟨g, off, sp⟩ := a
          simp only at hsp
          subst hsp
          obtain ⟨ys, cells, y1, y2, y3, y4, y5⟩ := rows_readz (P := P) (et := et) (Z := sz e) (w := w) (g := g) (off := off) (ce := e.cells) (R := reads (cellsPr w) e) (rd := DataW.trod enc P w 0 spare held n et)
            (fun cs x hx _ => let ⟨d, hd, _, hw⟩ := readz e he hz0.2 hx; ⟨d, hd, hw⟩) len 0 elems hlen (fun i hi => by
              have := hel i hi
              rw [hc] at this
              simpa using this)
          refine ⟨ys, ⟨some ⟨g, off, none⟩, cap, by rw [y1], by omega, hm, .inr ⟨cells, y2, g, off, rfl, fun j u hj => by simpa [cellsPr] using y4 j u hj⟩⟩, rfl, fun hz => ?_⟩
          simp only [DataW.weights, hk, List.mem_cons, List.mem_append] at hz
          have q := hz _ (.inl rfl)
          refine ⟨?_, y5 fun n hn => hz n (.inr (.inl hn))⟩
          have q2 := Nat.le_mul_of_pos_right ((elems.map (·.1)).length + (rest.map (·.1)).length) hb1
          have q3 := reach_le (Nat.le_trans q2 q)
          rw [List.length_map] at q3
          show ys.length ≤ 140737488355328
          omega
    · cases ht

/-- An argument. -/
theorem rvz_of_trod (ty : Ty) {r : Reach} {b0 : Nat} {t : TypeId} {v : Value} {d : DataW H} {ps : List MemPlace} (ht : okT P ty t = true) (hz : okZ P ty t = true) (hval : Value.okWide P w r b0 t v)
    (h : DataW.Trod enc P w 0 spare held t v d ps) : ∃ x : ty.den, rv (cellsPr w) ty x v ∧ ((∀ n ∈ DataW.weights P t d, n ≤ reachBytes) → sz ty x) := by
  obtain ⟨y, ⟨cs, hy, hcs⟩, _⟩ := rv_of_trod ty ht hval h
  obtain ⟨fuel, h⟩ := h
  obtain ⟨x, hx, hlen, hwt⟩ := readz ty ht hz h
  refine ⟨x, ⟨v.cells.toList, hx, ?_⟩, hwt⟩
  unfold Value.okWide at hval
  cases ty with
  | int k =>
    unfold okT at ht
    split at ht
    · rename_i k' hk
      obtain ⟨n, rfl⟩ := okWide_int hk (by unfold Value.okWide; rw [hk] at hval ⊢; exact hval)
      rfl
    · cases ht
  | bool =>
    unfold okT at ht
    split at ht
    · rename_i hk
      obtain ⟨n, rfl⟩ := okWide_bool hk (by unfold Value.okWide; rw [hk] at hval ⊢; exact hval)
      rfl
    · cases ht
  | str =>
    unfold okT at ht
    split at ht
    · rename_i hk
      obtain ⟨n, rfl⟩ := okWide_string hk (by unfold Value.okWide; rw [hk] at hval ⊢; exact hval)
      rfl
    · cases ht
  | arr e =>
    unfold okT at ht
    split at ht
    · rename_i hk
      obtain ⟨a, l, c, rfl⟩ := okWide_slice hk (by unfold Value.okWide; rw [hk] at hval ⊢; exact hval)
      rfl
    · cases ht
  | vec n e =>
    unfold okT at ht
    split at ht
    · rename_i hk
      rw [hk] at hval
      obtain ⟨cs, rfl, _⟩ := hval
      simp [Ty.isAgg, Value.cells]
    · cases ht
  | unit => unfold okT at ht; cases ht
  | pair a b =>
    unfold okT at ht
    split at ht
    · rename_i hk
      rw [hk] at hval
      obtain ⟨cs, rfl, _⟩ := hval
      simp [Ty.isAgg, Value.cells]
    · cases ht

theorem relz_of_trod : ∀ (tys : List Ty) {r : Reach} {b0 : Nat} {ts : List TypeId} {vs : List Value} {ds : List (DataW H)} {ps : List MemPlace}, okTs P tys ts = true → okZs P tys ts = true →
    (∀ (j : Nat) t v, ts[j]? = some t → vs[j]? = some v → Value.okWide P w r b0 t v) → DataW.TrodAll enc P w 0 spare held ts vs ds ps →
    ∃ x : dens tys, RelL (cellsPr w) [] (outs tys x) vs ∧ ((∀ n ∈ DataW.weightsEach P ts ds, n ≤ reachBytes) → szs tys x)
  | [], _, _, ts, vs, ds, ps, ht, _, hval, h => by
    cases ts with
    | cons t ts => simp [okTs] at ht
    | nil =>
      obtain ⟨rfl, _, _⟩ := trodAll_nil h
      exact ⟨(), rfl, fun _ => trivial⟩
  | ty :: tys, _, _, ts, vs, ds, ps, ht, hz, hval, h => by
    cases ts with
    | nil => simp [okTs] at ht
    | cons t ts =>
      simp only [okTs, Bool.and_eq_true] at ht
      simp only [okZs, Bool.and_eq_true] at hz
      obtain ⟨v, vs, d, ds, p, q, rfl, rfl, rfl, h1, h2⟩ := trodAll_cons h
      obtain ⟨x, hx, hwx⟩ := rvz_of_trod ty ht.1 hz.1 (hval 0 t v rfl rfl) h1
      obtain ⟨y, hy, hwy⟩ := relz_of_trod tys ht.2 hz.2 (fun j t v hj hv => hval (j + 1) t v (by simpa using hj) (by simpa using hv)) h2
      have e : ∀ n, n ∈ DataW.weightsEach P (t :: ts) (d :: ds) ↔ n ∈ DataW.weights P t d ∨ n ∈ DataW.weightsEach P ts ds := fun n => by simp only [DataW.weightsEach, List.mem_append]
      cases tys with
      | nil => exact ⟨x, ⟨v, vs, rfl, hx, hy⟩, fun hn => hwx fun n hm => hn n ((e n).2 (.inl hm))⟩
      | cons u us => exact ⟨(x, y), ⟨v, vs, rfl, hx, hy⟩, fun hn => ⟨hwx fun n hm => hn n ((e n).2 (.inl hm)), hwy fun n hm => hn n ((e n).2 (.inr hm))⟩⟩

theorem weights_pre : ∀ (ts us : List TypeId) (ds gs : List (DataW H)) (n : Nat), n ∈ DataW.weightsEach P ts ds → n ∈ DataW.weightsEach P (ts ++ us) (ds ++ gs)
  | t :: ts, us, d :: ds, gs, n, h => by
    simp only [DataW.weightsEach, List.mem_append, List.cons_append] at h ⊢
    exact h.imp id (weights_pre ts us ds gs n)
  | [], _, _, _, _, h => by simp [DataW.weightsEach] at h
  | _ :: _, _, [], _, _, h => by simp [DataW.weightsEach] at h

/-- A law where no string and no slice is longer than a machine holds. -/
def lawSpZ (ps : List Ty) : FSpec := ⟨ps, [.bool], fun x => szs ps x, fun _ => true⟩

theorem sat_nfZ {C : Ctx} (hsp : SpecSound C) {n : Nat} {f : FuncId} {ps : List Ty} {Q : dens ps → Prop} (hQ : ∀ x, fnwp C n f (lawSpU ps) x = Q x) (h : ∀ x, okds ps x → szs ps x → Q x) : Sat C.P f (lawSpZ ps) :=
  sat_nf (sp := lawSpZ ps) hsp (fun x => (show fnwp C n f (lawSpZ ps) x = fnwp C n f (lawSpU ps) x by kernel_rfl).trans (hQ x)) h

theorem law_contractZ {f : FuncId} {fn : Func} {s : ChangeSpec} {tys : List Ty} {bt : TypeId} {W : World} {r : Reach} {base : Nat} {args : Array Value} {ds gs : List (DataW H)} {before : List MemPlace}
    (hsat : Sat P f (lawSpZ tys)) (hl : laidOutB P = true)
    (hr : (fn.params.toList.all fun t => P.readableRec t && decide (t < P.types.size)) = true) (hty : okTs P tys fn.params.toList = true) (htz : okZs P tys fn.params.toList = true)
    (hvars : s.vars = []) (hs : ∀ ds : List (DataW H), ds.length = fn.params.size → s.fn H (ds ++ []) = { results := [.lit (.bool true)], args := ds })
    (hres : fn.resultTypes = #[bt]) (hbt : P.underlying bt = some .bool)
    (hval : ∀ (j : Nat) t v, fn.params[j]? = some t → args[j]? = some v → Value.okWide P W r base t v)
    (hW : DataW.Whole enc P fn.params.toList s.vars false W args.toList ds gs before)
    (hz : (DataW.weightsEach P (fn.params.toList ++ s.plain.varTypes P) (ds ++ gs)).all (· ≤ reachBytes) = true) :
    Calls P f args W fun e W' => ∃ v, e = .returned v ∧ s.post enc P fn false true false false W args v W' := by
  have hW' := hW
  obtain ⟨p, q, hA, hV, rfl, hfz, hnd⟩ := hW
  rw [hvars] at hV
  obtain ⟨rfl, rfl⟩ := trodVars_none hV
  have hz' : ∀ n ∈ DataW.weightsEach P fn.params.toList ds, n ≤ reachBytes := fun n hn => by
    simpa using List.all_eq_true.1 hz n (weights_pre _ _ _ _ n hn)
  obtain ⟨x, hx, hwx⟩ := relz_of_trod tys hty htz (fun j t v hj hv => hval j t v (by simpa using hj) (by simpa using hv)) hA
  have hds : ds.length = fn.params.size := by
    have : ∀ {ts : List TypeId} {vs : List Value} {ds : List (DataW H)} {ps : List MemPlace}, DataW.TrodAll enc P W 0 (fun _ => true) true ts vs ds ps → ds.length = ts.length := by
      intro ts
      induction ts with
      | nil => intro vs ds ps h; obtain ⟨_, rfl, _⟩ := trodAll_nil h; rfl
      | cons t ts ih => intro vs ds ps h; obtain ⟨v, vs, d, ds, p, q, rfl, rfl, rfl, h1, h2⟩ := trodAll_cons h; simp [ih h2]
    simpa using this hA
  have hlt : ∀ y ∈ p, y.block < W.heap.size := fun y hy => by simpa using hW'.lt y (by simpa using hy)
  refine (hsat (cellsPr W) W x args.toList (cellsPr_prom W) hx (hwx hz')).mono fun e W' ⟨v, Ψ', he, hb, _, _, hv⟩ => ?_
  have hv : rv Ψ' .bool true v := hv
  obtain ⟨cs, hcs, hcv⟩ := hv
  have hcs : cs = [.bool true] := hcs
  have hcv : cs = [v] := hcv
  have e2 : v = .bool true := by rw [hcs] at hcv; simpa using hcv.symm
  subst e2
  have hr' : ∀ t ∈ fn.params.toList, P.readableRec t = true ∧ t < P.types.size := fun t ht => by
    have := List.all_eq_true.1 hr t ht
    simpa using this
  refine ⟨_, he, post_below (pa := p) (pv := []) hW' (fun b sp hd => ?_) (fun sp hsp => ?_) (fun sp _ => ?_) (by simp) hb (ok_one hres rfl (okWide_bool_mk hbt _))⟩
  · rw [hs ds hds, hres]
    exact trodAll_cons_mk (shut_bool hbt _) trodAll_mk0
  · rw [hs ds hds]
    exact trodAll_below hl hr' hb (fun t ht => ht) hA hlt (fun y hy => hsp y (by simpa using hy))
  · rw [hs ds hds, hvars]
    rfl
end
end Go.AM
namespace Go.PL
open Go.AM
theorem sum_reach : ∀ {x : List (List Int)}, (∀ s ∈ x, s.length ≤ 140737488355328) → (x.map List.length).sum ≤ x.length * 140737488355328
  | [], _ => by simp
  | s :: x, h => by
    have h1 := h s (by simp)
    have h2 := sum_reach (x := x) fun t ht => h t (by simp [ht])
    simp only [List.map_cons, List.sum_cons, List.length_cons]
    omega
end Go.PL
namespace Go.Proofs.Ytgneefndofeoaaa
open Go.AM Go.PL
set_option linter.unusedVariables false

set_option maxRecDepth 100000 in
theorem sat_law8Z : Sat Try.prog 10 (lawSpZ [.str, L]) := by
  refine sat_nfZ (C := XG) (mkctx_sound ⟨sat_sanity, satW⟩ ⟨sat_bytes, trivial⟩) (fun y => law8_nf y.1 y.2) fun (⟨s, l⟩ : List Int × List Int) hk hp => ?_
  dsimp only
  have hi : ∀ x ∈ l, isI64 x := fun x hx => has_i64.1 (hk.2.2 x hx)
  have hw : s.length ≤ 140737488355328 ∧ l.length ≤ 140737488355328 := ⟨hp.1, hp.2.1⟩
  refine ⟨i64_iff.2 (by omega), fun _ => ⟨trivial, rfl⟩, fun hs => ?_⟩
  have hs := of_decide_eq_false hs
  have e1 := decBytes_enc (s := s) (r := encList encI l) (by omega)
  have e2 := ints_enc (l := l) (r := []) (by omega) hi
  rw [List.append_nil] at e2
  have l1 := bytes_len s
  have l2 := ints_len l
  have e3 : List.take ((encBytes s ++ encList encI l).length - ((encBytes s).length : Int).toNat) (List.drop ((encBytes s).length : Int).toNat (encBytes s ++ encList encI l)) = encList encI l := by
    rw [show ((encBytes s).length : Int).toNat = (encBytes s).length by omega, List.drop_left]
    exact List.take_of_length_le (by rw [List.length_append]; omega)
  have q1 : small2 l := by unfold small2; omega
  have t1 : (decBytes (encBytes s ++ encList encI l)).triple [] = (s, ((encBytes s).length : Int), 0) := by rw [e1]; rfl
  have t2 : (decList 1 decI (encList encI l)).triple [] = (l, ((encList encI l).length : Int), 0) := by rw [e2]; rfl
  simp only [t1, e3, t2]
  have hL : ((encBytes s ++ encList encI l).length : Int) = (encBytes s).length + (encList encI l).length := by rw [List.length_append]; omega
  refine ⟨by omega, q1, roomU bytesU (by omega), trivial, fun h => by simp at h, fun _ => ⟨fun h => absurd (of_decide_eq_true h) (by omega), fun _ => ⟨fun h => absurd (of_decide_eq_true h) (by omega), fun _ => ⟨⟨by omega, by omega⟩, by unfold small2; omega, trivial,
    fun _ => ⟨fun _ => ⟨trivial, fun _ => ⟨fun _ => ⟨i64_iff.2 (by omega), yes (by omega)⟩, no' (yes trivial)⟩, no' (yes trivial)⟩, no' (yes trivial)⟩, fun h => by cases h⟩⟩⟩⟩

set_option maxRecDepth 100000 in
theorem sat_law7Z : Sat Try.prog 9 (lawSpZ [I, .str, L, .arr .str, .arr DG]) := by
  refine sat_nfZ (C := XT) (mkctx_sound ⟨sat_sanity, satW⟩ trivial) (fun y => law7_nf y.1 y.2.1 y.2.2.1 y.2.2.2.1 y.2.2.2.2) fun (⟨n, s, l, x, d⟩ : Int × List Int × List Int × List (List Int) × List (List Int)) hk hp => ?_
  dsimp only
  have hn : isI64 n := has_i64.1 hk.1
  have hi : ∀ y ∈ l, isI64 y := fun y hy => has_i64.1 (hk.2.2.1.2 y hy)
  have hd : ∀ y ∈ d, y.length = 16 := fun y hy => (hk.2.2.2.2.2 y hy).1
  have w1 : s.length ≤ 140737488355328 := hp.2.1
  have w2 : l.length ≤ 140737488355328 := hp.2.2.1.1
  have w3 : x.length ≤ 140737488355328 ∧ ∀ y ∈ x, y.length ≤ 140737488355328 := hp.2.2.2.1
  have w4 : d.length ≤ 140737488355328 := hp.2.2.2.2.1
  refine ⟨i64_iff.2 (by omega), i64_iff.2 (by omega), i64_iff.2 (by omega), i64_iff.2 (by omega), fun _ => ⟨trivial, rfl⟩, fun hs => ⟨fun _ => ⟨trivial, rfl⟩, fun h40 => ?_⟩⟩
  have h40 := of_decide_eq_false h40
  have hf : fewP x := by
    have := sum_reach w3.2
    unfold fewP fewN
    have h2 : x.length ≤ 40 := by omega
    have h3 := Nat.mul_le_mul_right 140737488355328 h2
    omega
  refine ⟨hf, fun _ => ⟨trivial, rfl⟩, fun hx => ?_⟩
  have hs := of_decide_eq_false hs
  have hx := few_of hx
  have hx2 := sum_le_of_few hx
  have q1 : small2 l := by unfold small2; omega
  have q2 : small2 d := by unfold small2; omega
  have q3 : (∀ s ∈ x, s.length ≤ 100000) ∧ small2 x := ⟨fun s hs => by have := hx2.2 s hs; omega, by unfold small2; omega⟩
  have l2 := ints_len l
  have l3 := digests_len hd
  have l4 := strings_len hx
  have sm : ∀ (b : List Int) (i : Nat), b.length ≤ 40000 → small2 (b.take i) := fun b i hb => by unfold small2; rw [List.length_take]; omega
  have hs' : s.length ≤ 9223372036854775807 := by omega
  have hl' : l.length ≤ 9223372036854775807 := by omega
  have hd' : d.length ≤ 9223372036854775807 := by omega
  have hx' : x.length ≤ 9223372036854775807 := by omega
  refine ⟨trivial, by omega, q1, q3, q2, ⟨by omega, by simp⟩, ?_⟩
  refine cut_loop (encI n) (fun c => (decO (decI c)).snd.snd) (fun _ => True) (fun i h => by rw [decI_cut hn h]; rfl) (fun _ _ => trivial) ⟨i64_iff.2 (by omega), ⟨by omega, by simp⟩, ?_⟩
  refine cut_loop (encBytes s) (fun c => ((decBytes c).triple []).snd.snd) (fun _ => True) (fun i h => by rw [decBytes_cut hs' h]; rfl) (fun _ _ => trivial) ⟨i64_iff.2 (by omega), ⟨by omega, by simp⟩, ?_⟩
  refine cut_loop (encList encI l) (fun c => ((decList 1 decI c).triple []).snd.snd) (fun c => small2 c) (fun i h => by
    rw [decList_cut hl' (fun y hy r => dec_enc (hi y hy) r) (fun y hy i h => decI_cut (hi y hy) h) h]; rfl) (fun i _ => sm _ i (by omega)) ⟨i64_iff.2 (by omega), ⟨by omega, by simp⟩, ?_⟩
  refine cut_loop (encList encBytes x) (fun c => ((decList 1 decBytes c).triple []).snd.snd) (fun c => small2 c) (fun i h => by
    rw [decList_cut hx' (fun y hy r => decBytes_enc (by have := hx2.2 y hy; omega)) (fun y hy i h => decBytes_cut (by have := hx2.2 y hy; omega) h) h]; rfl) (fun i _ => sm _ i (by omega)) ⟨i64_iff.2 (by omega), ⟨by omega, by simp⟩, ?_⟩
  exact cut_loop (encList (fun (x : List Int) => x) d) (fun c => ((decList 16 decDigest c).triple []).snd.snd) (fun c => small2 c) (fun i h => by
    rw [digests_cut hd' hd h]; rfl) (fun i _ => sm _ i (by omega)) ⟨i64_iff.2 (by omega), trivial, rfl⟩
end Go.Proofs.Ytgneefndofeoaaa
