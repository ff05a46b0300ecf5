import Derived.Test.YtgneefndofeoaaaAmb
namespace Go.AM
set_option linter.unusedVariables false
open Go.RowKit

variable {B : Nat} {w0 : World} {C : Ctx} {Ψ : Pr} {β : List Value} {h : List Blk} {w : World} {fr : List AV} {a : Act}

theorem rv_int {k : IntKind} {n : Int} {v : Value} : RelV Ψ β (.d (.int k) n) v ↔ v = .int k n ∧ k.has n := by
  constructor
  · rintro ⟨cs, ⟨h1, h2⟩, e⟩
    subst h1
    simp [Ty.isAgg] at e
    exact ⟨e.symm, h2⟩
  · rintro ⟨rfl, h2⟩
    exact ⟨_, ⟨rfl, h2⟩, rfl⟩

theorem rv_bool {b : Bool} {v : Value} : RelV Ψ β (.d .bool b) v ↔ v = .bool b := by
  constructor
  · rintro ⟨cs, h1, e⟩
    simp only [reads] at h1
    subst h1
    simp [Ty.isAgg] at e
    exact e.symm
  · rintro rfl
    exact ⟨_, rfl, rfl⟩

theorem rv_str {l : List Int} {v : Value} : RelV Ψ β (.d .str l) v ↔ v = .string (strOf l) ∧ (∀ c ∈ l, 0 ≤ c ∧ c ≤ 255) ∧ l.length ≤ maxLen := by
  constructor
  · rintro ⟨cs, ⟨h1, h2⟩, e⟩
    subst h1
    simp [Ty.isAgg] at e
    exact ⟨e.symm, h2⟩
  · rintro ⟨rfl, h2⟩
    exact ⟨_, ⟨rfl, h2⟩, rfl⟩

theorem rv_arr {e : Ty} {xs : List e.den} {v : Value} : RelV Ψ β (.d (.arr e) xs) v ↔ ∃ ad cap, v = .slice ad xs.length cap ∧ xs.length ≤ cap ∧ cap ≤ maxLen ∧ (xs = [] ∨ ∃ cells, rdL (reads Ψ e) xs cells ∧ rowAt Ψ ad cells) := by
  constructor
  · rintro ⟨cs, ⟨ad, cap, h1, h2⟩, e⟩
    subst h1
    simp [Ty.isAgg] at e
    exact ⟨ad, cap, e.symm, h2⟩
  · rintro ⟨ad, cap, rfl, h2⟩
    exact ⟨_, ⟨ad, cap, rfl, h2⟩, rfl⟩

theorem RelV_bool {av : AV} {v : Value} {b : Bool} (hr : RelV Ψ β av v) (hb : asB av = some b) : v = .bool b := by
  unfold asB at hb
  split at hb <;> simp at hb
  · subst hb; exact hr
  · subst hb; exact hr
  · subst hb; exact rv_bool.1 hr

theorem boolAV_rel (b : Bool) : RelV Ψ β (boolAV b) (.bool b) := rv_bool.2 rfl

theorem strOf_bytesOf (s : ByteArray) : strOf (bytesOf s) = s := by
  unfold strOf bytesOf
  have : ((s.data.toList.map fun b => (b.toNat : Int)).map fun n => UInt8.ofNat n.toNat) = s.data.toList := by
    rw [List.map_map]
    conv => rhs; rw [← List.map_id s.data.toList]
    apply List.map_congr_left
    intro b _
    simp
  rw [this]

theorem bytesOf_bd (s : ByteArray) : ∀ c ∈ bytesOf s, 0 ≤ c ∧ c ≤ 255 := by
  intro c hc
  obtain ⟨b, _, rfl⟩ := List.mem_map.1 hc
  have := b.toNat_lt
  omega

theorem bytesOf_len (s : ByteArray) : (bytesOf s).length = s.size := by
  simp [bytesOf]

theorem ofV1_rel (v : Value) : RelV Ψ β (ofV1 v) v := by
  unfold ofV1
  split
  · rfl
  · rfl
  · split
    · rename_i hk; exact rv_int.2 ⟨rfl, by simpa [inKind, IntKind.has] using hk⟩
    · trivial
  · split
    · rename_i hs; exact rv_str.2 ⟨by rw [strOf_bytesOf], bytesOf_bd _, by rw [bytesOf_len]; exact hs⟩
    · trivial
  · rfl
  · rfl
  · rfl
  · trivial

theorem ofVs_rel : ∀ vs : List Value, RelL Ψ β (ofVs vs) vs
  | [] => rfl
  | v :: vs => ⟨v, vs, rfl, ofV1_rel v, ofVs_rel vs⟩

theorem ofV_rel (v : Value) : RelV Ψ β (ofV v) v := by
  unfold ofV
  split
  · split
    · rename_i cs hc
      exact ⟨cs.toList, by simp, ofVs_rel _, fun u hu => List.all_eq_true.1 hc u hu⟩
    · trivial
  · exact ofV1_rel v

theorem ev_rel (hf : RelFr Ψ β fr a) (x : Operand) : RelV Ψ β (ev fr x) (a.eval x) := by
  cases x with
  | tmp t =>
    have := RelL_get _ _ hf.2 t
    simpa [ev, Act.eval, Array.getD_eq_getD_getElem?, List.getD_eq_getElem?_getD] using this
  | const v => exact ofV_rel v
  | global g => trivial
  | func f => exact ⟨[], rfl, rfl⟩

/-! ### Operations that leave the heap alone -/
/-- What is shown of one operation that leaves the heap alone. -/
def NOk (C : Ctx) (Ψ : Pr) (β : List Value) (w : World) (s : Sem Value) (av : AV) : Prop :=
  ∃ v Ψ' w', s.run C.P w = .ok v w' ∧ Step Ψ w Ψ' w' ∧ RelV Ψ' β av v

theorem NOk.of_run {s : Sem Value} {av : AV} {v : Value} (hr : s.run C.P w = .ok v w) (hv : RelV Ψ β av v) : NOk C Ψ β w s av :=
  ⟨v, Ψ, w, hr, Step.refl _ _, hv⟩

theorem has_wrap (k : IntKind) (n : Int) : k.has (k.wrap n) := by
  unfold IntKind.has
  cases k <;> simp [IntKind.wrap, IntKind.min, IntKind.max, IntKind.bits, IntKind.signed] <;> omega

theorem wrap_i64 {n : Int} (h : isI64 n) : IntKind.i64.wrap n = n := by
  unfold isI64 at h
  simp [IntKind.wrap, IntKind.bits, IntKind.signed]
  omega

theorem has_i64 {n : Int} : IntKind.i64.has n ↔ isI64 n := by
  unfold IntKind.has isI64
  simp [IntKind.min, IntKind.max, IntKind.bits, IntKind.signed]

theorem wrap_has {k : IntKind} {n : Int} (h : k.has n) : k.wrap n = n := by
  unfold IntKind.has at h
  cases k <;> simp [IntKind.wrap, IntKind.min, IntKind.max, IntKind.bits, IntKind.signed] at * <;> omega

def outOk (r : Out) (h : List Blk) : Prop := r.heap = h ∧ r.kill = none

theorem ok0_inv {h : List Blk} {v : AV} {r : Out} (e : ok0 h v = some r) : r = ⟨none, v, h, none⟩ := by simpa [ok0] using e.symm
theorem okP_inv {h : List Blk} {p : Prop} {v : AV} {r : Out} (e : okP h p v = some r) : r = ⟨some p, v, h, none⟩ := by simpa [okP] using e.symm

theorem arith_inv {k : IntKind} {n : Int} {r : Out} (e : arith h k n = some r) (hp : ∀ p, r.need = some p → p) :
    r.heap = h ∧ r.kill = none ∧ RelV Ψ β r.v (.int k (k.wrap n)) := by
  unfold arith at e
  split at e
  · have := okP_inv e; subst this
    have hn : isI64 n := hp _ rfl
    exact ⟨rfl, rfl, rv_int.2 ⟨by rw [wrap_i64 hn], has_i64.2 hn⟩⟩
  · have := ok0_inv e; subst this
    exact ⟨rfl, rfl, rv_int.2 ⟨rfl, has_wrap _ _⟩⟩

theorem strOf_toList (l : List Int) : (strOf l).data.toList = l.map fun n => UInt8.ofNat n.toNat := by simp [strOf]

theorem strOf_inj {l m : List Int} (hl : ∀ c ∈ l, 0 ≤ c ∧ c ≤ 255) (hm : ∀ c ∈ m, 0 ≤ c ∧ c ≤ 255) (e : strOf l = strOf m) : l = m := by
  have h1 := congrArg (fun s => bytesOf s) e
  have key : ∀ l : List Int, (∀ c ∈ l, 0 ≤ c ∧ c ≤ 255) → bytesOf (strOf l) = l := by
    intro l hl
    unfold bytesOf
    rw [strOf_toList, List.map_map]
    conv => rhs; rw [← List.map_id l]
    apply List.map_congr_left
    intro c hc
    have := hl c hc
    simp
    omega
  simp only [key l hl, key m hm] at h1
  exact h1

theorem strOf_size (l : List Int) : (strOf l).size = l.length := by
  show (strOf l).data.size = _
  simp [strOf]

theorem bytesOf_strOf {l : List Int} (hl : ∀ c ∈ l, 0 ≤ c ∧ c ≤ 255) : bytesOf (strOf l) = l :=
  strOf_inj (bytesOf_bd _) hl (strOf_bytesOf _)

theorem shl_ok (k yk : IntKind) (x y : Int) (h0 : 0 ≤ y) (h1 : y ≤ k.bits) : (Op.shift .shl k x yk y).run C.P w = .ok (.int k (k.wrap (x * 2 ^ y.toNat))) w := by
  rw [shift_shl k yk x y h0 h1]; rfl
theorem shr_ok (k yk : IntKind) (x y : Int) (h0 : 0 ≤ y) (h1 : y ≤ k.bits) : (Op.shift .shr k x yk y).run C.P w = .ok (.int k (x / 2 ^ y.toNat)) w := by
  rw [shift_shr k yk x y h0 h1]; rfl

theorem has_div {k : IntKind} {x : Int} (h : k.has x) (n : Nat) : k.has (x / 2 ^ n) := by
  have hpos : (0 : Int) < 2 ^ n := Int.pow_pos (by decide)
  unfold IntKind.has at *
  have hmin : k.min ≤ 0 := by cases k <;> simp [IntKind.min, IntKind.bits, IntKind.signed]
  have hmax : 0 ≤ k.max := by cases k <;> simp [IntKind.max, IntKind.bits, IntKind.signed]
  constructor
  · rcases Int.lt_or_le x 0 with hx | hx
    · have : x ≤ x / 2 ^ n := by
        have h1 : x * 2 ^ n ≤ x := by
          have : x * 2 ^ n ≤ x * 1 := Int.mul_le_mul_of_nonpos_left (by omega) (by omega)
          omega
        exact (Int.le_ediv_iff_mul_le hpos).2 h1
      omega
    · have := Int.ediv_nonneg hx (Int.le_of_lt hpos); omega
  · rcases Int.lt_or_le x 0 with hx | hx
    · have := Int.ediv_neg_of_neg_of_pos hx hpos; omega
    · have := Int.ediv_le_self (2 ^ n) hx; omega

theorem emod_le_self {x y : Int} (h : 0 ≤ x) : x % y ≤ x := by
  obtain ⟨n, rfl⟩ := Int.eq_ofNat_of_zero_le h
  rcases Int.natAbs_eq y with hy | hy
  · rw [hy, ← Int.natCast_emod]
    have := Nat.mod_le n y.natAbs
    omega
  · rw [hy, Int.emod_neg, ← Int.natCast_emod]
    have := Nat.mod_le n y.natAbs
    omega

theorem has_tmod {k : IntKind} {x y : Int} (hx : k.has x) (_hy : k.has y) : k.has (x.tmod y) := by
  unfold IntKind.has at *
  have hmin : k.min ≤ 0 := by cases k <;> simp [IntKind.min, IntKind.bits, IntKind.signed]
  have hmax : 0 ≤ k.max := by cases k <;> simp [IntKind.max, IntKind.bits, IntKind.signed]
  rcases Int.lt_or_le x 0 with h | h
  · have e : x.tmod y = -((-x).tmod y) := by rw [Int.neg_tmod]; omega
    have h1 : 0 ≤ (-x).tmod y := Int.tmod_nonneg _ (by omega)
    have h2 : (-x).tmod y ≤ -x := by rw [Int.tmod_eq_emod_of_nonneg (by omega)]; exact emod_le_self (by omega)
    omega
  · have h1 : 0 ≤ x.tmod y := Int.tmod_nonneg _ h
    have h2 : x.tmod y ≤ x := by rw [Int.tmod_eq_emod_of_nonneg h]; exact emod_le_self h
    omega

theorem bits_ok (op : BinOp) (k : IntKind) (x y : Int) (ho : op = .and ∨ op = .or ∨ op = .xor ∨ op = .andNot) : (Op.intBits op k x y).run C.P w = .ok (.int k (bitsOp op k x y)) w := by
  rcases ho with rfl | rfl | rfl | rfl <;> rfl

theorem ibin_ok {op : BinOp} {xt : TypeId} {k k' : IntKind} {m n : Int} {r : Out} (hm : k.has m) (hn : k'.has n)
    (hr : ibin h op k k' m n = some r) (hp : ∀ p, r.need = some p → p) :
    r.heap = h ∧ r.kill = none ∧ NOk C Ψ β w (binOp op xt (.int k m) (.int k' n)) r.v := by
  unfold ibin at hr
  split at hr
  · -- shl
    split at hr
    · have := okP_inv hr; subst this
      obtain ⟨h0, h1, h2⟩ := hp _ rfl
      refine ⟨rfl, rfl, NOk.of_run (v := .int .i64 (m * 2 ^ n.toNat)) ?_ (rv_int.2 ⟨rfl, has_i64.2 h2⟩)⟩
      rw [binOp_shl, shl_ok _ _ _ _ h0 (by simp [IntKind.bits]; omega), wrap_i64 h2]
    · have := okP_inv hr; subst this
      obtain ⟨h0, h1⟩ := hp _ rfl
      refine ⟨rfl, rfl, NOk.of_run (v := .int k (k.wrap (m * 2 ^ n.toNat))) ?_ (rv_int.2 ⟨rfl, has_wrap _ _⟩)⟩
      rw [binOp_shl, shl_ok _ _ _ _ h0 h1]
  · -- shr
    have := okP_inv hr; subst this
    obtain ⟨h0, h1⟩ := hp _ rfl
    refine ⟨rfl, rfl, NOk.of_run (v := .int k (m / 2 ^ n.toNat)) ?_ (rv_int.2 ⟨rfl, has_div hm _⟩)⟩
    rw [binOp_shr, shr_ok _ _ _ _ h0 h1]
  · split at hr
    · rename_i hk
      subst hk
      have hboo : ∀ b : Bool, ok0 h (boolAV b) = some r → (binOp op xt (.int k m) (.int k n)).run C.P w = .ok (.bool b) w →
          r.heap = h ∧ r.kill = none ∧ NOk C Ψ β w (binOp op xt (.int k m) (.int k n)) r.v := by
        intro b e hb
        have := ok0_inv e; subst this
        exact ⟨rfl, rfl, NOk.of_run hb (boolAV_rel b)⟩
      split at hr
      · obtain ⟨h1, h2, h3⟩ := arith_inv (Ψ := Ψ) (β := β) hr hp
        exact ⟨h1, h2, NOk.of_run (by rw [binOp_add]; rfl) h3⟩
      · obtain ⟨h1, h2, h3⟩ := arith_inv (Ψ := Ψ) (β := β) hr hp
        exact ⟨h1, h2, NOk.of_run (by rw [binOp_sub]; rfl) h3⟩
      · obtain ⟨h1, h2, h3⟩ := arith_inv (Ψ := Ψ) (β := β) hr hp
        exact ⟨h1, h2, NOk.of_run (by rw [binOp_mul]; rfl) h3⟩
      · -- quo
        split at hr
        · have := okP_inv hr; subst this
          obtain ⟨h0, h1⟩ := hp _ rfl
          refine ⟨rfl, rfl, NOk.of_run (v := .int .i64 (m.tdiv n)) ?_ (rv_int.2 ⟨rfl, has_i64.2 h1⟩)⟩
          rw [binOp_quo]; simp [Op.intDiv, h0, wrap_i64 h1]
        · have := okP_inv hr; subst this
          have h0 := hp _ rfl
          refine ⟨rfl, rfl, NOk.of_run (v := .int k (k.wrap (m.tdiv n))) ?_ (rv_int.2 ⟨rfl, has_wrap _ _⟩)⟩
          rw [binOp_quo]; simp [Op.intDiv, h0]
      · have := okP_inv hr; subst this
        have h0 := hp _ rfl
        refine ⟨rfl, rfl, NOk.of_run (v := .int k (m.tmod n)) ?_ (rv_int.2 ⟨rfl, has_tmod hm hn⟩)⟩
        rw [binOp_rem]; simp [Op.intDiv, h0]
      · have := ok0_inv hr; subst this
        exact ⟨rfl, rfl, NOk.of_run (by rw [binOp_and]; exact bits_ok _ _ _ _ (.inl rfl)) (rv_int.2 ⟨rfl, has_wrap _ _⟩)⟩
      · have := ok0_inv hr; subst this
        exact ⟨rfl, rfl, NOk.of_run (by rw [binOp_or]; exact bits_ok _ _ _ _ (.inr (.inl rfl))) (rv_int.2 ⟨rfl, has_wrap _ _⟩)⟩
      · have := ok0_inv hr; subst this
        exact ⟨rfl, rfl, NOk.of_run (by rw [binOp_xor]; exact bits_ok _ _ _ _ (.inr (.inr (.inl rfl)))) (rv_int.2 ⟨rfl, has_wrap _ _⟩)⟩
      · have := ok0_inv hr; subst this
        exact ⟨rfl, rfl, NOk.of_run (by rw [binOp_andNot]; exact bits_ok _ _ _ _ (.inr (.inr (.inr rfl)))) (rv_int.2 ⟨rfl, has_wrap _ _⟩)⟩
      · exact hboo _ hr (by rw [binOp_eql]; rfl)
      · exact hboo _ hr (by rw [binOp_neq]; rfl)
      · exact hboo _ hr (by rw [binOp_lss]; rfl)
      · exact hboo _ hr (by rw [binOp_leq]; rfl)
      · exact hboo _ hr (by rw [binOp_gtr]; rfl)
      · exact hboo _ hr (by rw [binOp_geq]; rfl)
      · cases hr
    · cases hr

theorem equalIn_bool {xt : TypeId} (hu : C.P.underlying xt = some .bool) (b c : Bool) (d : Nat) : (Op.equalIn (d + 1) xt (.bool b) (.bool c)).run C.P w = .ok (b == c) w := by
  simp [Op.equalIn, run_underlying hu]

theorem equal_bool {xt : TypeId} (hb : isBoolT C xt = true) (b c : Bool) : (Op.equal xt (.bool b) (.bool c)).run C.P w = .ok (b == c) w := by
  unfold isBoolT at hb
  split at hb
  · rename_i hu
    exact equalIn_bool hu b c 9999
  · cases hb

theorem binop_ok {op : BinOp} {xt : TypeId} {x y : Operand} {av bv : AV} {u v : Value} {r : Out} (hx : RelV Ψ β av u) (hy : RelV Ψ β bv v)
    (hr : abin C h op xt av bv = some r) (hp : ∀ p, r.need = some p → p) :
    r.heap = h ∧ r.kill = none ∧ NOk C Ψ β w (do eqGuard op xt x y u v; binOp op xt u v) r.v := by
  have hrun : ∀ s : Sem Value, ((pure () : Sem Unit) >>= fun _ => s) = s := fun _ => rfl
  unfold abin at hr
  split at hr
  · -- integers
    rename_i k m k' n
    obtain ⟨rfl, hm⟩ := rv_int.1 hx
    obtain ⟨rfl, hn⟩ := rv_int.1 hy
    rw [eqGuard_at_int, hrun]
    exact ibin_ok hm hn hr hp
  · -- strings
    rename_i l m
    obtain ⟨rfl, hl, hl'⟩ := rv_str.1 hx
    obtain ⟨rfl, hm, hm'⟩ := rv_str.1 hy
    rw [eqGuard_at_string, hrun]
    have heq : ((strOf l).toList == (strOf m).toList) = decide (l = m) := by
      rw [Bool.eq_iff_iff]
      simp only [beq_iff_eq, decide_eq_true_eq]
      constructor
      · intro e
        refine strOf_inj hl hm ?_
        have e1 : (strOf l).toList = (strOf l).data.toList := ByteArray.toList_eq _
        have e2 : (strOf m).toList = (strOf m).data.toList := ByteArray.toList_eq _
        rw [e1, e2] at e
        exact ByteArray.ext (Array.ext' e)
      · rintro rfl; rfl
    split at hr
    · have := ok0_inv hr; subst this
      refine ⟨rfl, rfl, NOk.of_run (v := .bool (decide (l = m))) ?_ (boolAV_rel _)⟩
      show (Op.stringOp .eql _ _).run C.P w = _
      simp [Op.stringOp, heq]
    · have := ok0_inv hr; subst this
      refine ⟨rfl, rfl, NOk.of_run (v := .bool (!decide (l = m))) ?_ (boolAV_rel _)⟩
      show (Op.stringOp .neq _ _).run C.P w = _
      simp [Op.stringOp, heq]
    · cases hr
  · split at hr
    · rename_i hbt
      split at hr
      · rename_i b c hb hc
        have e1 := RelV_bool hx hb; have e2 := RelV_bool hy hc
        subst e1 e2
        rw [eqGuard_at_bool, hrun]
        have := ok0_inv hr; subst this
        refine ⟨rfl, rfl, NOk.of_run (v := .bool (b == c)) ?_ (boolAV_rel _)⟩
        simp [binOp, equal_bool hbt]
      · rename_i b c hb hc
        have e1 := RelV_bool hx hb; have e2 := RelV_bool hy hc
        subst e1 e2
        rw [eqGuard_at_bool, hrun]
        have := ok0_inv hr; subst this
        refine ⟨rfl, rfl, NOk.of_run (v := .bool (b != c)) ?_ (boolAV_rel _)⟩
        simp [binOp, equal_bool hbt, bne]
      · cases hr
    · cases hr

theorem unop_ok {op : UnOp} {av : AV} {u : Value} {r : Out} (hx : RelV Ψ β av u) (hr : aun h op av = some r) (hp : ∀ p, r.need = some p → p) :
    r.heap = h ∧ r.kill = none ∧ NOk C Ψ β w (Op.unary op u) r.v := by
  unfold aun at hr
  split at hr
  · have := ok0_inv hr; subst this
    have : u = .bool true := hx
    subst this
    exact ⟨rfl, rfl, NOk.of_run (v := .bool false) rfl rfl⟩
  · have := ok0_inv hr; subst this
    have : u = .bool false := hx
    subst this
    exact ⟨rfl, rfl, NOk.of_run (v := .bool true) rfl rfl⟩
  · have := ok0_inv hr; subst this
    rw [rv_bool.1 hx]
    exact ⟨rfl, rfl, NOk.of_run rfl (boolAV_rel _)⟩
  · obtain ⟨rfl, hm⟩ := rv_int.1 hx
    obtain ⟨h1, h2, h3⟩ := arith_inv (Ψ := Ψ) (β := β) hr hp
    exact ⟨h1, h2, NOk.of_run rfl h3⟩
  · cases hr

/-! ### Slices, lengths -/
theorem asList_rel {av : AV} {v : Value} {e : Ty} {xs : List e.den} (hi : InvH B w0 Ψ β h w) (hr : RelV Ψ β av v) (hl : asList h av = some ⟨e, xs⟩) :
    ∃ ad cap, v = .slice ad xs.length cap ∧ xs.length ≤ cap ∧ cap ≤ maxLen ∧ (xs = [] ∨ ∃ cells g off, rdL (reads Ψ e) xs cells ∧ ad = some ⟨g, off, none⟩ ∧ ∀ j u, cells[j]? = some u → w.cell? ⟨g, off + j, none⟩ = some u) := by
  have key : ∀ {e : Ty} {xs : List e.den} {v : Value}, rv Ψ (.arr e) xs v → ∃ ad cap, v = .slice ad xs.length cap ∧ xs.length ≤ cap ∧ cap ≤ maxLen ∧ (xs = [] ∨ ∃ cells g off, rdL (reads Ψ e) xs cells ∧ ad = some ⟨g, off, none⟩ ∧ ∀ j u, cells[j]? = some u → w.cell? ⟨g, off + j, none⟩ = some u) := by
    intro e xs v hv
    obtain ⟨ad, cap, e1, h1, h2, h3⟩ := rv_arr (β := β).1 hv
    refine ⟨ad, cap, e1, h1, h2, h3.imp id ?_⟩
    rintro ⟨cells, hd, g, off, e2, hc⟩
    exact ⟨cells, g, off, hd, e2, fun j u hj => (hi.prom _ _ (hc j u hj)).2⟩
  unfold asList at hl
  split at hl
  · simp at hl
    obtain ⟨rfl, hl⟩ := hl
    simp at hl
    subst hl
    exact key hr
  · simp at hl
    obtain ⟨rfl, hl⟩ := hl
    simp at hl
    subst hl
    exact key hr.choose_spec.2
  · rename_i k
    split at hl
    · rename_i tid e' xs' hg
      simp at hl
      obtain ⟨rfl, hl⟩ := hl
      simp at hl
      subst hl
      have h4 : β[k]? = some v := hr
      rcases hi.blk k _ (hget_some hg (by simp)) with ⟨ad, h1, rfl⟩ | ⟨g, cap, cur, h1, _, hB, hh, hn, hcap, hsz, hd⟩
      · rw [h1] at h4
        simp at h4
        subst h4
        exact ⟨ad, 0, rfl, Nat.le_refl _, by simp [maxLen], .inl rfl⟩
      · rw [h1] at h4
        simp at h4
        subst h4
        refine ⟨_, cap, rfl, hn, hcap, .inr ⟨_, g, 0, hd, rfl, fun j u hj => ?_⟩⟩
        have hcell : w.cell? ⟨g, 0 + j, none⟩ = cur[0 + j]? := by simp [World.cell?, hh]
        rw [hcell, Nat.zero_add]
        rw [List.getElem?_take] at hj
        split at hj
        · simpa using hj
        · cases hj
    · cases hl
  · cases hl

theorem underlying_slice {t tid : TypeId} (he : elemOf C t = some tid) : C.P.underlying t = some (.slice tid) := by
  unfold elemOf at he
  split at he
  · rename_i hu; simp at he; subst he; exact hu
  · cases he

theorem has_len {n : Nat} (hn : n ≤ maxLen) : IntKind.i64.has (n : Int) := by
  rw [has_i64]
  unfold isI64
  simp [maxLen] at hn
  omega

/-- 'len' of a slice or a string: what the type is makes no difference where the value says it. -/
theorem len_ok {av : AV} {v : Value} {r : Out} {t ty : TypeId} (hi : InvH B w0 Ψ β h w) (hx : RelV Ψ β av v) (hr : alen C h t av = some r) :
    r.heap = h ∧ r.kill = none ∧ NOk C Ψ β w (Builtin.len_ #[t] ty #[v]) r.v := by
  unfold alen at hr
  split at hr
  · rename_i l hu
    obtain ⟨rfl, hl, hl'⟩ := rv_str.1 hx
    have := ok0_inv hr; subst this
    refine ⟨rfl, rfl, NOk.of_run (v := .int .i64 l.length) ?_ (rv_int.2 ⟨rfl, has_len hl'⟩)⟩
    simp [Builtin.len_, run_underlying hu, goInt, strOf_size]
  · rename_i hu
    have : v = .slice none 0 0 := hx
    subst this
    have := ok0_inv hr; subst this
    refine ⟨rfl, rfl, NOk.of_run (v := .int .i64 0) ?_ (rv_int.2 ⟨rfl, has_len (n := 0) (by simp [maxLen])⟩)⟩
    simp [Builtin.len_, run_underlying hu, goInt]
  · rename_i e hu _
    split at hr
    · rename_i e' xs hl
      obtain ⟨ad, cap, rfl, h1, h2, _⟩ := asList_rel hi hx hl
      have := ok0_inv hr; subst this
      refine ⟨rfl, rfl, NOk.of_run (v := .int .i64 xs.length) ?_ (rv_int.2 ⟨rfl, has_len (by omega)⟩)⟩
      simp [Builtin.len_, run_underlying hu, goInt]
    · cases hr
  · cases hr

end Go.AM
