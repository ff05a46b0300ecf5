import Derived.Test.YtgneefndofeoaaaAmc
namespace Go.AM
set_option linter.unusedVariables false
open Go.RowKit

variable {B : Nat} {w0 : World} {C : Ctx} {Ψ : Pr} {β : List Value} {h : List Blk} {w : World} {fr : List AV} {a : Act}

theorem foldMin_cons {c : AV} {l : List AV} {n m : Int} (hf : foldMin (c :: l) n = some m) : ∃ k : Int, c = .d (.int .i64) k ∧ foldMin l (min n k) = some m := by
  unfold foldMin at hf
  split at hf
  · rename_i he; cases he
  · rename_i he
    simp only [List.cons.injEq] at he
    obtain ⟨rfl, rfl⟩ := he
    exact ⟨_, rfl, hf⟩
  · cases hf

theorem foldMin_ok : ∀ (l : List AV) (n m : Int) (vs : List Value), foldMin l n = some m → RelL Ψ β l vs → IntKind.i64.has n →
    (vs.foldlM Builtin.min2 (.int .i64 n)).run C.P w = .ok (.int .i64 m) w ∧ IntKind.i64.has m
  | [], n, m, vs, hf, hl, hn => by
    simp only [foldMin, Option.some.injEq] at hf
    simp only [RelL] at hl
    subst hf hl
    exact ⟨rfl, hn⟩
  | c :: l, n, m, vs, hf, ⟨v, vs', e, hv, hl⟩, hn => by
    obtain ⟨k, rfl, hf'⟩ := foldMin_cons hf
    obtain ⟨rfl, hk⟩ := rv_int.1 hv
    subst e
    have hm : IntKind.i64.has (min n k) := by unfold IntKind.has at *; omega
    obtain ⟨h1, h2⟩ := foldMin_ok l _ m vs' hf' hl hm
    refine ⟨?_, h2⟩
    have e1 : Builtin.min2 (.int .i64 n) (.int .i64 k) = pure (.int .i64 (min n k)) := by
      simp only [Builtin.min2]
      congr 2
      split <;> omega
    rw [List.foldlM_cons, e1]
    exact h1

theorem foldMax_cons {c : AV} {l : List AV} {n m : Int} (hf : foldMax (c :: l) n = some m) : ∃ k : Int, c = .d (.int .i64) k ∧ foldMax l (max n k) = some m := by
  unfold foldMax at hf
  split at hf
  · rename_i he; cases he
  · rename_i he
    simp only [List.cons.injEq] at he
    obtain ⟨rfl, rfl⟩ := he
    exact ⟨_, rfl, hf⟩
  · cases hf

theorem foldMax_ok : ∀ (l : List AV) (n m : Int) (vs : List Value), foldMax l n = some m → RelL Ψ β l vs → IntKind.i64.has n →
    (vs.foldlM Builtin.max2 (.int .i64 n)).run C.P w = .ok (.int .i64 m) w ∧ IntKind.i64.has m
  | [], n, m, vs, hf, hl, hn => by
    simp only [foldMax, Option.some.injEq] at hf
    simp only [RelL] at hl
    subst hf hl
    exact ⟨rfl, hn⟩
  | c :: l, n, m, vs, hf, ⟨v, vs', e, hv, hl⟩, hn => by
    obtain ⟨k, rfl, hf'⟩ := foldMax_cons hf
    obtain ⟨rfl, hk⟩ := rv_int.1 hv
    subst e
    have hm : IntKind.i64.has (max n k) := by unfold IntKind.has at *; omega
    obtain ⟨h1, h2⟩ := foldMax_ok l _ m vs' hf' hl hm
    refine ⟨?_, h2⟩
    have e1 : Builtin.max2 (.int .i64 n) (.int .i64 k) = pure (.int .i64 (max n k)) := by
      simp only [Builtin.max2]
      congr 2
      split <;> omega
    rw [List.foldlM_cons, e1]
    exact h1

theorem sliceBound_ok {k : IntKind} {i : Int} {y : Nat} {code : BoundsCode} (h0 : 0 ≤ i) (h1 : i ≤ y) :
    (Instr.sliceBound (.int k i) y code).run C.P w = .ok i.toNat w := by
  simp [Instr.sliceBound, asIntOf, h0, h1]

theorem optInt {x : Option AV} {v : Option Value} {n : Int} (hr : match x, v with | none, none => True | some av, some u => RelV Ψ β av u | _, _ => False)
    (hx : ∃ k, x = some (.d (.int k) n)) : ∃ k, v = some (.int k n) := by
  obtain ⟨k, rfl⟩ := hx
  cases v with
  | none => exact hr.elim
  | some u => exact ⟨k, by rw [(rv_int.1 hr).1]⟩

/-- An option of an operand, and its value. -/
def RelO (Ψ : Pr) (β : List Value) : Option AV → Option Value → Prop
  | none, v => v = none
  | some av, v => ∃ u, v = some u ∧ RelV Ψ β av u

theorem RelO.int {Ψ : Pr} {β : List Value} {k : IntKind} {n : Int} {v : Option Value} (hr : RelO Ψ β (some (.d (.int k) n)) v) : v = some (.int k n) := by
  obtain ⟨u, rfl, hu⟩ := hr
  rw [(rv_int.1 hu).1]

theorem sliceBounds_ok {isSlice : Bool} {len cap : Nat} {lo hi mx : Option AV} {l h' m : Option Value} (hl : RelO Ψ β lo l) (hh : RelO Ψ β hi h') (hm : RelO Ψ β mx m)
    {x : Int} {y z : Option Int} (he : ainterp lo hi mx = some (x, y, z)) (hx : 0 ≤ x) (hxy : x ≤ y.getD len) (hyz : ∀ n, y = some n → n ≤ z.getD cap) (hz : ∀ n, z = some n → n ≤ cap) (_hlc : len ≤ cap) :
    (Instr.sliceBounds isSlice len cap l h' m).run C.P w = .ok (x.toNat, (y.map Int.toNat).getD len, (z.map Int.toNat).getD cap) w ∧ (z.isSome → y.isSome) := by
  unfold ainterp at he
  split at he <;> simp only [Option.some.injEq, Prod.mk.injEq, reduceCtorEq] at he
  · obtain ⟨rfl, rfl, rfl⟩ := he
    simp only [RelO] at hl hh hm
    subst hl hh hm
    simp [Instr.sliceBounds]
  · obtain ⟨rfl, rfl, rfl⟩ := he
    simp only [RelO] at hh hm
    subst hh hm
    rw [hl.int]
    simp only [Option.getD_none] at hxy
    simp [Instr.sliceBounds, sliceBound_ok hx hxy]
  · obtain ⟨rfl, rfl, rfl⟩ := he
    simp only [RelO] at hl hm
    subst hl hm
    rw [hh.int]
    simp only [Option.getD_some] at hxy
    have := hyz _ rfl
    simp only [Option.getD_none] at this
    simp [Instr.sliceBounds, sliceBound_ok hxy this]
  · obtain ⟨rfl, rfl, rfl⟩ := he
    simp only [RelO] at hm
    subst hm
    rw [hh.int, hl.int]
    simp only [Option.getD_some] at hxy
    have h1 := hyz _ rfl
    simp only [Option.getD_none] at h1
    rename_i k n k' n'
    have hn' : 0 ≤ n' := Int.le_trans hx hxy
    have h2 : n ≤ ((n'.toNat : Nat) : Int) := by rw [Int.toNat_of_nonneg hn']; exact hxy
    simp [Instr.sliceBounds, sliceBound_ok hn' h1, sliceBound_ok hx h2]
  · obtain ⟨rfl, rfl, rfl⟩ := he
    simp only [RelO] at hl
    subst hl
    rw [hh.int, hm.int]
    simp only [Option.getD_some] at hxy
    have h1 := hyz _ rfl
    have h3 := hz _ rfl
    simp only [Option.getD_some] at h1
    rename_i k n k' n'
    have h0 : 0 ≤ n' := Int.le_trans hxy h1
    have h2 : n ≤ ((n'.toNat : Nat) : Int) := by rw [Int.toNat_of_nonneg h0]; exact h1
    simp [Instr.sliceBounds, sliceBound_ok h0 h3, sliceBound_ok hxy h2]
  · obtain ⟨rfl, rfl, rfl⟩ := he
    rw [hh.int, hm.int, hl.int]
    simp only [Option.getD_some] at hxy
    have h1 := hyz _ rfl
    have h3 := hz _ rfl
    simp only [Option.getD_some] at h1
    rename_i k n k' n' k'' n''
    have h00 : 0 ≤ n' := Int.le_trans hx hxy
    have h0 : 0 ≤ n'' := Int.le_trans h00 h1
    have h2 : n' ≤ ((n''.toNat : Nat) : Int) := by rw [Int.toNat_of_nonneg h0]; exact h1
    have h4 : n ≤ ((n'.toNat : Nat) : Int) := by rw [Int.toNat_of_nonneg h00]; exact hxy
    simp [Instr.sliceBounds, sliceBound_ok h0 h3, sliceBound_ok h00 h2, sliceBound_ok hx h4]

theorem sub_of_drop_take {l : List Value} {i n j : Nat} {u : Value} (hj : ((l.drop i).take n)[j]? = some u) : l[i + j]? = some u := by
  rw [List.getElem?_take] at hj
  split at hj
  · rwa [List.getElem?_drop] at hj
  · cases hj

/-- A part of a row of cells, as a slice. -/
theorem part_row {e : Ty} {xs : List e.den} {cells : List Value} {g off sz : Nat} (hd : rdL (reads Ψ e) xs cells) (hc : ∀ j u, cells[j]? = some u → Ψ ⟨g, off + j, none⟩ = some u) (hsz : sz = e.cells) (i n : Nat) :
    (xs.drop i).take n = [] ∨ ∃ cells', rdL (reads Ψ e) ((xs.drop i).take n) cells' ∧ rowAt Ψ (some ((⟨g, off, none⟩ : Addr).add (i * sz))) cells' := by
  subst hsz
  refine .inr ⟨(cells.drop (i * e.cells)).take (n * e.cells), rdL_take (reads_len e) _ _ n (rdL_drop (reads_len e) _ _ i hd), g, off + i * e.cells, ?_, ?_⟩
  · rw [Addr.add_lit]
  · intro j u hj
    have := hc _ _ (sub_of_drop_take hj)
    rwa [← Nat.add_assoc] at this

theorem drop_take_rv {e : Ty} {xs : List e.den} {v : Value} (hx : RelV Ψ β (.d (.arr e) xs) v) {sz : Nat} (hsz : sz = e.cells) {l n : Nat} (hln : l ≤ n) (hn : n ≤ xs.length) :
    ∃ ad cap, v = .slice ad xs.length cap ∧ xs.length ≤ cap ∧ cap ≤ maxLen ∧ (∀ m, n ≤ m → m ≤ cap → RelV Ψ β (.d (.arr e) ((xs.drop l).take (n - l))) (.slice (if m = l then ad else ad.map (·.add (l * sz))) (n - l) (m - l))) := by
  obtain ⟨ad, cap, e1, h1, h2, h3⟩ := rv_arr.1 hx
  refine ⟨ad, cap, e1, h1, h2, fun m hnm hmc => ?_⟩
  have hlen : ((xs.drop l).take (n - l)).length = n - l := by simp; omega
  rw [rv_arr]
  refine ⟨_, _, by rw [hlen], by rw [hlen]; omega, by omega, ?_⟩
  by_cases hml : m = l
  · left
    have : n - l = 0 := by omega
    rw [this]; rfl
  · rw [if_neg hml]
    rcases h3 with rfl | ⟨cells, hd, g, off, rfl, hc⟩
    · left; simp
    · exact part_row hd hc hsz l (n - l)

theorem RelO_of {fr : List AV} {a : Act} (o : Option Operand) (hev : ∀ x ∈ o.toArray, RelV Ψ β (ev fr x) (a.eval x)) : RelO Ψ β (optEv fr o) (o.map a.eval) := by
  cases o with
  | none => rfl
  | some x => exact ⟨_, rfl, hev x (by simp)⟩

theorem strOf_extract {l : List Int} (i n : Nat) : (strOf l).extract i n = strOf ((l.drop i).take (n - i)) := by
  apply ByteArray.ext
  apply Array.ext'
  simp [strOf, ByteArray.data_extract, List.map_drop, List.map_take]

theorem str_part {l : List Int} (hx : (∀ c ∈ l, 0 ≤ c ∧ c ≤ 255) ∧ l.length ≤ maxLen) (i n : Nat) : RelV Ψ β (.d .str ((l.drop i).take n)) (.string (strOf ((l.drop i).take n))) := by
  refine rv_str.2 ⟨rfl, fun c hc => hx.1 c (List.mem_of_mem_drop (List.mem_of_mem_take hc)), ?_⟩
  have := hx.2
  rw [List.length_take, List.length_drop]
  omega

theorem asList_rv {av : AV} {v : Value} {e : Ty} {xs : List e.den} (hr : RelV Ψ β av v) (hl : asList h av = some ⟨e, xs⟩) (hn : ∀ k, av ≠ .sl k) : RelV Ψ β (.d (.arr e) xs) v := by
  unfold asList at hl
  split at hl
  · simp at hl
    obtain ⟨rfl, hl⟩ := hl
    simp at hl
    subst hl
    exact hr
  · simp at hl
    obtain ⟨rfl, hl⟩ := hl
    simp at hl
    subst hl
    exact hr.choose_spec.2
  · exact absurd rfl (hn _)
  · cases hl

theorem size_of {t : TypeId} {n : Nat} (hs : C.size t = some n) : ∃ i, C.P.info? t = some i ∧ i.size = n := by
  unfold Ctx.size at hs
  split at hs
  · rename_i i hi
    exact ⟨i, hi, by simpa using hs⟩
  · cases hs

theorem run_sizeOf {t : TypeId} {n : Nat} (hs : C.size t = some n) (w : World) : (sizeOf t).run C.P w = .ok n w := by
  obtain ⟨i, hi, rfl⟩ := size_of hs
  simp [sizeOf, typeInfo, hi]

theorem arrayOf_spec {t e : TypeId} {n : Nat} (h : arrayOf C t = some (n, e)) : C.P.underlying t = some (.array n e) := by
  unfold arrayOf at h
  split at h
  · rename_i n' e' hu
    simp at h
    obtain ⟨rfl, rfl⟩ := h
    exact hu
  · cases h

theorem sliceArr_ok {t : TypeId} {av : AV} {v : Value} {lo hi mx : Option AV} {l h' m : Option Value} {r : Out} (hx : RelV Ψ β av v) (hl : RelO Ψ β lo l) (hh : RelO Ψ β hi h') (hm : RelO Ψ β mx m)
    (hr : asliceArr C h t av lo hi mx = some r) : r.heap = h ∧ r.kill = none ∧ NOk C Ψ β w (Instr.sliceAt t v l h' m) r.v := by
  unfold asliceArr at hr
  split at hr
  · rename_i n et ha
    simp only [RelO] at hl hh hm
    subst hl hh hm
    split at hr
    · rename_i sz k e xs hs
      split at hr
      · rename_i hc
        simp only [Bool.and_eq_true, Nat.beq_eq, Nat.ble_eq] at hc
        obtain ⟨⟨hsz, rfl⟩, hn⟩ := hc
        have := ok0_inv hr; subst this
        obtain ⟨g, off, cs, rfl, ⟨hlen, hd⟩, hp⟩ := hx
        refine ⟨rfl, rfl, NOk.of_run (v := .slice (some ⟨g, off, none⟩) k k) ?_ ⟨_, by rw [hlen], ⟨_, ⟨some ⟨g, off, none⟩, k, by rw [hlen], by omega, by simp [maxLen]; omega, .inr ⟨cs, hd, g, off, rfl, hp⟩⟩, rfl⟩⟩⟩
        simp [Instr.sliceAt, run_underlying (arrayOf_spec ha), Instr.sureAddr, Instr.sliceBounds, run_sizeOf hs]
        try (intro _; simp [Addr.add])
      · cases hr
    · cases hr
  · cases hr

theorem slice_ok0 {t : TypeId} {av : AV} {v : Value} {lo hi mx : Option AV} {l h' m : Option Value} {r : Out} (hx : RelV Ψ β av v) (hl : RelO Ψ β lo l) (hh : RelO Ψ β hi h') (hm : RelO Ψ β mx m)
    (hr : aslice0 C h t av lo hi mx = some r) (hp : ∀ p, r.need = some p → p) :
    r.heap = h ∧ r.kill = none ∧ NOk C Ψ β w (Instr.sliceAt t v l h' m) r.v := by
  unfold aslice0 at hr
  split at hr
  · cases hr
  · rename_i x y z he
    split at hr
    · -- a string
      rename_i s hu
      obtain ⟨rfl, hs1, hs2⟩ := rv_str.1 hx
      have hat : ∀ w, (Instr.sliceAt t (.string (strOf s)) l h' m).run C.P w = (Instr.slice t (.string (strOf s)) l h' m).run C.P w := by
        intro w; simp [Instr.sliceAt, run_underlying hu]
      split at hr
      · have := okP_inv hr; subst this
        obtain ⟨h0, h1⟩ := hp _ rfl
        have hmn : m = none := by
          unfold ainterp at he
          split at he <;> simp_all [RelO]
        subst hmn
        obtain ⟨hb, _⟩ := sliceBounds_ok (C := C) (w := w) (isSlice := false) (len := (strOf s).size) (cap := (strOf s).size) hl hh hm he h0 (by simp [strOf_size]; exact h1) (by simp) (by simp) (Nat.le_refl _)
        refine ⟨rfl, rfl, NOk.of_run (v := .string (strOf (s.drop x.toNat))) ?_ ?_⟩
        · rw [hat]
          simp only [Option.map_none, Option.getD_none, strOf_size] at hb
          simp [Instr.slice, run_underlying hu, strOf_size, hb, strOf_extract, ← List.length_drop, List.take_length]
        · have := str_part (Ψ := Ψ) (β := β) ⟨hs1, hs2⟩ x.toNat s.length
          rwa [List.take_of_length_le (by simp)] at this
      · rename_i n
        have := okP_inv hr; subst this
        obtain ⟨h0, h1, h2⟩ := hp _ rfl
        have hmn : m = none := by
          unfold ainterp at he
          split at he <;> simp_all [RelO]
        subst hmn
        obtain ⟨hb, _⟩ := sliceBounds_ok (C := C) (w := w) (isSlice := false) (len := (strOf s).size) (cap := (strOf s).size) hl hh hm he h0 (by simpa using h1) (by simp [strOf_size]; exact h2) (by simp) (Nat.le_refl _)
        refine ⟨rfl, rfl, NOk.of_run (v := .string (strOf ((s.drop x.toNat).take (n.toNat - x.toNat)))) ?_ (str_part ⟨hs1, hs2⟩ _ _)⟩
        rw [hat]
        simp only [Option.map_none, Option.getD_none, Option.map_some, Option.getD_some, strOf_size] at hb
        simp [Instr.slice, run_underlying hu, strOf_size, hb, strOf_extract]
      · cases hr
    · cases hr
    · -- a slice
      rename_i tid hu hnsl
      split at hr
      · rename_i e xs sz hl' hsz
        split at hr
        · rename_i hc
          have hc' : sz = e.cells := by simpa [Nat.beq_eq] using hc
          have hrv := asList_rv hx hl' (by intro k e; subst e; simp at hnsl)
          have hat : ∀ v' w, (Instr.sliceAt t v' l h' m).run C.P w = (Instr.slice t v' l h' m).run C.P w := by
            intro v' w; simp [Instr.sliceAt, run_underlying hu]
          split at hr
          · have := okP_inv hr; subst this
            obtain ⟨h0, h1⟩ := hp _ rfl
            obtain ⟨ad, cap, rfl, hlc, hcm, hout⟩ := drop_take_rv hrv hc' (l := x.toNat) (n := xs.length) (by omega) (Nat.le_refl _)
            obtain ⟨hb, _⟩ := sliceBounds_ok (C := C) (w := w) (isSlice := true) (len := xs.length) (cap := cap) hl hh hm he h0 (by simpa using h1) (by simp) (by simp) hlc
            simp only [Option.map_none, Option.getD_none] at hb
            refine ⟨rfl, rfl, NOk.of_run (v := _) ?_ (hout cap hlc (Nat.le_refl _))⟩
            rw [hat]
            simp [Instr.slice, run_underlying hu, hb, run_sizeOf hsz]
          · rename_i n
            have := okP_inv hr; subst this
            obtain ⟨h0, h1, h2⟩ := hp _ rfl
            have hn0 : 0 ≤ n := Int.le_trans h0 h1
            obtain ⟨ad, cap, rfl, hlc, hcm, hout⟩ := drop_take_rv hrv hc' (l := x.toNat) (n := n.toNat) (by omega) (by omega)
            obtain ⟨hb, _⟩ := sliceBounds_ok (C := C) (w := w) (isSlice := true) (len := xs.length) (cap := cap) hl hh hm he h0 (by simpa using h1) (by simp; omega) (by simp) hlc
            simp only [Option.map_none, Option.getD_none, Option.map_some, Option.getD_some] at hb
            refine ⟨rfl, rfl, NOk.of_run (v := _) ?_ (hout cap (by omega) (Nat.le_refl _))⟩
            rw [hat]
            simp [Instr.slice, run_underlying hu, hb, run_sizeOf hsz]
          · rename_i n m'
            have := okP_inv hr; subst this
            obtain ⟨h0, h1, h2, h3⟩ := hp _ rfl
            subst h3
            have hn0 : 0 ≤ m' := Int.le_trans h0 h1
            obtain ⟨ad, cap, rfl, hlc, hcm, hout⟩ := drop_take_rv hrv hc' (l := x.toNat) (n := m'.toNat) (by omega) (by omega)
            obtain ⟨hb, _⟩ := sliceBounds_ok (C := C) (w := w) (isSlice := true) (len := xs.length) (cap := cap) hl hh hm he h0 (by simpa using h1) (by simp) (by simp; omega) hlc
            simp only [Option.map_some, Option.getD_some] at hb
            have hlen : ((xs.drop x.toNat).take (m'.toNat - x.toNat)).length = m'.toNat - x.toNat := by simp; omega
            refine ⟨rfl, rfl, NOk.of_run (v := _) ?_ ⟨_, by rw [hlen], hout m'.toNat (Nat.le_refl _) (by omega)⟩⟩
            rw [hat]
            simp [Instr.slice, run_underlying hu, hb, run_sizeOf hsz]
          · cases hr
        · cases hr
      · cases hr
    · cases hr

theorem slice_ok {t : TypeId} {av : AV} {v : Value} {lo hi mx : Option AV} {l h' m : Option Value} {r : Out} (hx : RelV Ψ β av v) (hl : RelO Ψ β lo l) (hh : RelO Ψ β hi h') (hm : RelO Ψ β mx m)
    (hr : aslice C h t av lo hi mx = some r) (hp : ∀ p, r.need = some p → p) :
    r.heap = h ∧ r.kill = none ∧ NOk C Ψ β w (Instr.sliceAt t v l h' m) r.v := by
  unfold aslice at hr
  split at hr
  · exact sliceArr_ok hx hl hh hm hr
  · exact slice_ok0 hx hl hh hm hr hp

end Go.AM
