/-
  Texts laid together: THE OPERATIONS; THE OPERATIONS, second part; THE OPERATIONS, third part; THE OPERATIONS, fourth part; THE OPERATIONS, fifth part; THE OPERATIONS, sixth part; THE OPERATIONS, seventh part; THE OPERATIONS, eighth part. Conditions: as each theorem states.
-/
import Derived.Laws.StructEq
import Derived.Laws.CopyRow
import Derived.Laws.Rows
import Derived.ChangeKeysEq
import Derived.Test.YtgeheffhdpeddaaDoorXExA
import Derived.Laws.BytesString
import Derived.Lib.ConvBytes
import Derived.Great.BuildSlice
import Derived.Deep.AppendSrc
import Derived.Deep.Upon
/- THE OPERATIONS: what the executor tells of one operation is what the machine does with it. First part: values. Conditions: as each theorem states. -/
namespace Go.Proofs.YtgeheffhdpeddaaDoor.VX
open Go Go.RowKit

theorem rawCell_eq (v : Value) : rawCell v = v.oneCell' := by cases v <;> rfl

section
variable {P : Program} {st : Cells} {w : World} {ι : Inj} {T : Labs}

theorem ofS_rel (v : Value) : VRel st w ι (ofS v) v := by
  unfold ofS
  split
  · rename_i n
    cases h1 : Nat.ble n.toNat 255 <;> cases h2 : decide (0 ≤ n) <;> simp only [h1, h2, Bool.and_self, Bool.and_false, Bool.false_and, cond_true, cond_false] <;> try exact rfl
    have h1 := Nat.le_of_ble_eq_true h1
    have h2 := of_decide_eq_true h2
    show Value.int .u8 n = .int .u8 (UInt8.ofNat n.toNat).toNat
    rw [UInt8.toNat_ofNat_of_lt' (by show n.toNat < 256; omega)]
    congr 1; omega
  · rfl
  · rfl
  · rename_i s
    show Value.string s = .string ⟨s.data.toList.toArray⟩
    simp
  · rfl
theorem ofSs_rel : ∀ (us : List Value), VRels st w ι (us.map ofS) us
  | [] => rfl
  | u :: us => ⟨u, us, rfl, ofS_rel u, ofSs_rel us⟩
theorem ofV_rel (v : Value) : VRel st w ι (ofV v) v := by
  cases v with
  | agg cs =>
    show VRel st w ι (bif cs.toList.all rawCell then .agg (cs.toList.map ofS) else .raw (.agg cs)) _
    cases h : cs.toList.all rawCell with
    | false => exact rfl
    | true =>
      refine ⟨cs, rfl, fun u hu => ?_, ofSs_rel _⟩
      rw [← rawCell_eq]; exact List.all_eq_true.mp h u hu
  | tuple vs =>
    obtain ⟨l⟩ := vs
    cases l with
    | nil => exact ⟨#[], rfl, rfl⟩
    | cons x l => exact rfl
  | _ => simp only [ofV]; exact ofS_rel _

/-- A value's cells are cells. -/
theorem cells_rel {v : AV} {u : Value} {cs : List AV} (hv : VRel st w ι v u) (hc : v.cells = some cs) : VRels st w ι cs u.cells.toList ∧ (∀ x ∈ u.cells.toList, x.oneCell' = true) ∧ u.cells.size = cs.length := by
  have one : ∀ {x : AV}, v = x → cs = [x] → u.cells = #[u] → u.oneCell' = true → VRels st w ι cs u.cells.toList ∧ (∀ x ∈ u.cells.toList, x.oneCell' = true) ∧ u.cells.size = cs.length := by
    intro x e1 e2 e3 e4
    subst e1; subst e2; rw [e3]
    exact ⟨VRels.one hv, by simpa using e4, rfl⟩
  cases v with
  | agg ds =>
    cases hc
    obtain ⟨us, rfl, ho, h⟩ := hv
    exact ⟨h, ho, h.length⟩
  | raw r =>
    obtain rfl : u = r := hv
    simp only [AV.cells] at hc
    cases hr : rawCell u with
    | false => rw [hr] at hc; cases hc
    | true =>
      rw [hr] at hc
      exact one rfl (Option.some.inj hc).symm (by cases u <;> first | rfl | (simp [rawCell] at hr)) (by rw [← rawCell_eq]; exact hr)
  | int k n => obtain rfl := hv; exact one rfl (Option.some.inj hc).symm rfl rfl
  | u8 b => obtain rfl := hv; exact one rfl (Option.some.inj hc).symm rfl rfl
  | bool b => obtain rfl := hv; exact one rfl (Option.some.inj hc).symm rfl rfl
  | str s => obtain rfl := hv; exact one rfl (Option.some.inj hc).symm rfl rfl
  | tup vs => cases hc
  | view sz xs => obtain ⟨a, cap, rfl, _⟩ := hv; exact one rfl (Option.some.inj hc).symm rfl rfl
  | part sz xs ys => obtain ⟨a, cap, rfl, _⟩ := hv; exact one rfl (Option.some.inj hc).symm rfl rfl
  | ptr id off => obtain ⟨b, _, rfl⟩ := hv; exact one rfl (Option.some.inj hc).symm rfl rfl
  | cptr ds off => obtain ⟨b, o, rfl, _⟩ := hv; exact one rfl (Option.some.inj hc).symm rfl rfl
  | fn f l c => obtain ⟨l', c', rfl, _⟩ := hv; exact one rfl (Option.some.inj hc).symm rfl rfl
  | iface t x => obtain ⟨y, rfl, _⟩ := hv; exact one rfl (Option.some.inj hc).symm rfl rfl
  | top => cases hc
end

/-! ### an operation's end -/
def Post (B : Base) (g : Key → Ent) (ex : Exs) (res : Res) (u : Value) (w' : World) : Prop :=
  ∃ ι T st, Inv B ι T st (ovr res.ws g) (fun v lab u' => ex v lab u' ∨ (v = res.val ∧ lab = res.lab ∧ u' = u)) w'
/-- The machine comes to a value, or to none. -/
def Does (P : Program) (s : Sem Next) (w : World) (R : Value → World → Prop) : Prop :=
  ∃ u w', (s.run P w = .ok (.value u) w' ∨ (s.run P w = .ok .skip w' ∧ u = undef)) ∧ R u w'

section
variable {P : Program} {B : Base} {ι : Inj} {T : Labs} {st : Cells} {g : Key → Ent} {ex : Exs} {w : World} {cf : FuncId → List AV → Option AV} {a : Act}

theorem Post.val (hI : Inv B ι T st g ex w) {v : AV} {lab : Option Nat} {u : Value} (h : VRel st w ι v u) (hl : LabRel T lab v u) : Post B g ex { val := v, lab := lab } u w :=
  ⟨ι, T, st, hI.exs fun _ _ _ x => x.elim .inl fun ⟨e1, e2, e3⟩ => .inr ⟨by rw [e1, e3]; exact h, by rw [e1, e2, e3]; exact hl⟩⟩
theorem Does.val {s : Sem Next} {u : Value} {R : Value → World → Prop} (h : s.run P w = .ok (.value u) w) (hR : R u w) : Does P s w R := ⟨u, w, .inl h, hR⟩
theorem Does.sem {s : Sem Value} {u : Value} {w' : World} {R : Value → World → Prop} (h : s.run P w = .ok u w') (hR : R u w') : Does P (do pure (.value (← s))) w R :=
  ⟨u, w', .inl (by simp [h]), hR⟩

/-- Which temporaries are told. -/
def Tmps (g : Key → Ent) (a : Act) (ex : Exs) : Prop := ∀ t v lab, g (.t t) = .av v lab → ex v lab (a.tmps.getD t undef)

theorem ev_ok (hI : Inv B ι T st g ex w) (ht : Tmps g a ex) {x : Operand} {v : AV} {lab : Option Nat} (h : Rd.val cf g (ev x) = some (v, lab)) : VRel st w ι v (a.eval x) ∧ LabRel T lab v (a.eval x) := by
  cases x with
  | tmp t =>
    simp only [ev, Rd.val] at h
    cases hg : g (.t t) with
    | av v' l' => rw [hg] at h; cases h; exact hI.live _ _ _ (ht t v lab hg)
    | _ => rw [hg] at h; cases h; exact ⟨trivial, trivial⟩
  | const c => cases h; exact ⟨ofV_rel _, trivial⟩
  | global i => cases h; exact ⟨rfl, trivial⟩
  | func f => cases h; exact ⟨⟨#[], #[], rfl, rfl, rfl⟩, trivial⟩
theorem evs_ok (hI : Inv B ι T st g ex w) (ht : Tmps g a ex) : ∀ {xs : List Operand} {vs : List AV}, Rd.val cf g (evs xs) = some vs → VRels st w ι vs (xs.map a.eval)
  | [], _, h => by cases h; rfl
  | x :: xs, vs, h => by
    simp only [evs, Rd.val_bind', Rd.val_pure, Option.bind_eq_some_iff, Option.some.injEq, Prod.exists] at h
    obtain ⟨v, l, h1, ws, h2, rfl⟩ := h
    exact ⟨_, _, rfl, (ev_ok hI ht h1).1, evs_ok hI ht h2⟩
/-- Parts at their places. -/
def PRels (st : Cells) (w : World) (ι : Inj) : List (Nat × AV) → List (Nat × Value) → Prop
  | [], us => us = []
  | (i, c) :: cs, us => ∃ v vs, us = (i, v) :: vs ∧ VRel st w ι c v ∧ PRels st w ι cs vs
theorem evps_ok (hI : Inv B ι T st g ex w) (ht : Tmps g a ex) : ∀ {xs : List (Nat × Operand)} {vs : List (Nat × AV)}, Rd.val cf g (evps xs) = some vs → PRels st w ι vs (xs.map fun (i, x) => (i, a.eval x))
  | [], _, h => by cases h; rfl
  | (i, x) :: xs, vs, h => by
    simp only [evps, Rd.val_bind', Rd.val_pure, Option.bind_eq_some_iff, Option.some.injEq, Prod.exists] at h
    obtain ⟨v, l, h1, ws, h2, rfl⟩ := h
    exact ⟨_, _, rfl, (ev_ok hI ht h1).1, evps_ok hI ht h2⟩

/-! ### reads of a row of cells -/
theorem isAggT_run {t : TypeId} {b : Bool} (h : isAggT P t = some b) (w : World) : (isAgg t).run P w = .ok b w := by
  unfold isAggT at h
  unfold isAgg
  cases hu : P.underlying t with
  | none => rw [hu] at h; cases h
  | some d =>
    rw [hu] at h
    rw [Sem.run_bind, run_underlying hu w]
    cases d <;> cases h <;> rfl
theorem szOf_run {t : TypeId} {n : Nat} (h : szOf P t = some n) (w : World) : (sizeOf t).run P w = .ok n w := by
  unfold szOf at h
  cases hi : P.info? t with
  | none => rw [hi] at h; cases h
  | some i => rw [hi] at h; cases h; simp [sizeOf, typeInfo, hi]
theorem add_none (b o n : Nat) : (⟨b, o, none⟩ : Addr).add n = ⟨b, o + n, none⟩ := by unfold Addr.add; split <;> simp_all

/-- Loading a variable whose cells are known. -/
theorem loadVar_run {t : TypeId} {b o : Nat} {us : List Value} (hu : ∀ i v, us[i]? = some v → w.cell? ⟨b, o + i, none⟩ = some v) :
    (∀ n, isAggT P t = some true → szOf P t = some n → us.length = n → (loadVar t ⟨b, o, none⟩).run P w = .ok (.agg us.toArray) w) ∧
    (∀ v, isAggT P t = some false → us[0]? = some v → (loadVar t ⟨b, o, none⟩).run P w = .ok v w) := by
  constructor
  · intro n h1 h2 h3
    have hl := run_loadCells_list (P := P) w ⟨b, o, none⟩ us (fun j v hj => by rw [add_none]; exact hu j v hj)
    rw [h3] at hl
    simp [loadVar, isAggT_run h1, szOf_run h2, hl]
  · intro v h1 h2
    have := hu 0 v h2
    simp only [Nat.add_zero] at this
    simp [loadVar, isAggT_run h1, this]

theorem VRels.ones {cs : List AV} {us : List Value} (h : VRels st w ι cs us) : us.length = cs.length := h.length

theorem partC_eq {t : TypeId} {cs : List AV} {off : Nat} : Rd.val cf g (partC P t cs off) = Rd.val cf g (partC0 P t cs off) := by
  unfold partC partC0
  split
  · rfl
  · rename_i h
    simp only [Rd.val, List.getD_eq_getElem?_getD]
    by_cases hl : off < cs.length
    · rw [Nat.blt_eq.mpr hl, List.getElem?_eq_getElem hl]; rfl
    · have : Nat.blt off cs.length = false := by
        cases hb : Nat.blt off cs.length with
        | false => rfl
        | true => exact absurd (Nat.blt_eq.mp hb) hl
      rw [this, List.getElem?_eq_none (by omega)]; rfl
  · rfl
/-- What is read at a place of cells that stay. -/
theorem partC_ok {t : TypeId} {cs : List AV} {b o off : Nat} {v : AV} {lab : Option Nat} (hc : CsRel st w cs b o) (h : Rd.val cf g (partC P t cs off) = some (v, lab)) :
    lab = none ∧ ∃ u, (loadVar t ⟨b, o + off, none⟩).run P w = .ok u w ∧ VRel st w nop v u := by
  rw [partC_eq] at h
  unfold partC0 at h
  split at h
  · rename_i n h1 h2
    simp only [Rd.val] at h
    cases hle : Nat.ble (off + n) cs.length with
    | false => rw [hle] at h; cases h
    | true =>
      rw [hle] at h; cases h
      have hle := Nat.le_of_ble_eq_true hle
      have hd := hc.drop off (by omega)
      have ht := hd.take n
      -- the values of the cells
      have key : ∀ (ds : List AV) (b o : Nat), CsRel st w ds b o → ∃ us : List Value, us.length = ds.length ∧ (∀ i v, us[i]? = some v → w.cell? ⟨b, o + i, none⟩ = some v) ∧ (∀ v ∈ us, v.oneCell' = true) ∧ VRels st w nop ds us := by
        intro ds
        induction ds with
        | nil => intro b o _; exact ⟨[], rfl, by simp, by simp, rfl⟩
        | cons d ds ih =>
          intro b o h
          obtain ⟨⟨v, h1, h2, h3, h4⟩, h5⟩ := h
          obtain ⟨us, k1, k2, k3, k4⟩ := ih b (o + 1) h5
          refine ⟨v :: us, by simp [k1], fun i x hx => ?_, ?_, ⟨v, us, rfl, h4, k4⟩⟩
          · cases i with
            | zero => simp at hx; subst hx; exact h2
            | succ i => simp at hx; have := k2 i x hx; rwa [Nat.add_assoc, Nat.add_comm 1 i] at this
          · intro x hx; simp at hx; rcases hx with rfl | hx
            · exact h3
            · exact k3 x hx
      obtain ⟨us, k1, k2, k3, k4⟩ := key _ _ _ ht
      refine ⟨rfl, .agg us.toArray, (loadVar_run k2).1 n h1 h2 (by rw [k1]; simp; omega), us.toArray, rfl, by simpa using k3, by simpa using k4⟩
  · rename_i h1
    split at h
    · rename_i x hx
      cases h
      obtain ⟨u, _, h2, _, h3⟩ := hc.get hx
      exact ⟨rfl, u, (loadVar_run (us := [u]) (by intro i v hi; cases i with | zero => simp at hi; subst hi; exact h2 | succ i => simp at hi)).2 u h1 rfl, h3⟩
    · cases h
  · cases h
end
end Go.Proofs.YtgeheffhdpeddaaDoor.VX

/- THE OPERATIONS, second part: numbers, tests, conversions, bounds. Conditions: as each theorem states. -/
namespace Go.Proofs.YtgeheffhdpeddaaDoor.VX
open Go Go.RowKit

section
variable {P : Program} {st : Cells} {w : World} {ι : Inj}

theorem u8_lt (a b : UInt8) : decide ((a.toNat : Int) < b.toNat) = decide (a < b) := by
  rw [decide_eq_decide, UInt8.lt_iff_toNat_lt]; omega
theorem u8_le (a b : UInt8) : decide ((a.toNat : Int) ≤ b.toNat) = decide (a ≤ b) := by
  rw [decide_eq_decide, UInt8.le_iff_toNat_le]; omega
theorem u8_beq (a b : UInt8) : ((a.toNat : Int) == b.toNat) = (a == b) := by
  rw [Bool.eq_iff_iff, beq_iff_eq, beq_iff_eq, ← UInt8.toNat_inj]; omega
theorem toList_mk (s : List UInt8) : (⟨s.toArray⟩ : ByteArray).toList = s := by rw [ByteArray.toList_eq]
theorem lessS_eq : ∀ (x y : List UInt8), Op.bytesLess x y = lessS x y
  | _, [] => by cases ‹List UInt8› <;> rfl
  | [], _ :: _ => rfl
  | a :: x, b :: y => by
    show (decide (a < b) || (a == b && Op.bytesLess x y)) = _
    rw [lessS_eq x y]; rfl

theorem wrap_u8 (n : Int) : IntKind.u8.wrap n = n % 256 := by
  show (let m := n % (2 ^ 8 : Int); if false && m ≥ (2 ^ 7 : Int) then m - 2 ^ 8 else m) = _
  simp
theorem u8_of (n : Nat) : ((UInt8.ofNat n).toNat : Int) = (n : Int) % 256 := by
  rw [UInt8.toNat_ofNat']; omega
theorem u8_add (a b : UInt8) : IntKind.u8.wrap ((a.toNat : Int) + b.toNat) = (a + b).toNat := by
  rw [wrap_u8, UInt8.toNat_add]; omega
theorem u8_sub (a b : UInt8) : IntKind.u8.wrap ((a.toNat : Int) - b.toNat) = (a - b).toNat := by
  rw [wrap_u8, UInt8.toNat_sub]
  have := a.toNat_lt; have := b.toNat_lt; omega
theorem u8_mul (a b : UInt8) : IntKind.u8.wrap ((a.toNat : Int) * b.toNat) = (a * b).toNat := by
  rw [wrap_u8, UInt8.toNat_mul, ← Int.natCast_mul]; omega
theorem u8_bits (a : UInt8) : BitVec.ofInt 8 (a.toNat : Int) = a.toBitVec := by
  apply BitVec.eq_of_toNat_eq
  rw [BitVec.toNat_ofInt]
  have := a.toNat_lt
  show ((a.toNat : Int) % ((2 ^ 8 : Nat) : Int)).toNat = a.toBitVec.toNat
  rw [show a.toBitVec.toNat = a.toNat from rfl]; omega
theorem u8_and (a b : UInt8) : IntKind.u8.wrap ((BitVec.ofInt 8 (a.toNat : Int) &&& BitVec.ofInt 8 (b.toNat : Int)).toNat) = (a &&& b).toNat := by
  rw [u8_bits, u8_bits, wrap_u8]
  have := (a &&& b).toNat_lt
  rw [show (a.toBitVec &&& b.toBitVec).toNat = (a &&& b).toNat from rfl]; omega
theorem u8_or (a b : UInt8) : IntKind.u8.wrap ((BitVec.ofInt 8 (a.toNat : Int) ||| BitVec.ofInt 8 (b.toNat : Int)).toNat) = (a ||| b).toNat := by
  rw [u8_bits, u8_bits, wrap_u8]
  have := (a ||| b).toNat_lt
  rw [show (a.toBitVec ||| b.toBitVec).toNat = (a ||| b).toNat from rfl]; omega
theorem u8_xor (a b : UInt8) : IntKind.u8.wrap ((BitVec.ofInt 8 (a.toNat : Int) ^^^ BitVec.ofInt 8 (b.toNat : Int)).toNat) = (a ^^^ b).toNat := by
  rw [u8_bits, u8_bits, wrap_u8]
  have := (a ^^^ b).toNat_lt
  rw [show (a.toBitVec ^^^ b.toBitVec).toNat = (a ^^^ b).toNat from rfl]; omega

/-! ### binary operations -/
theorem cmpI_run {op : BinOp} {a b : Int} {c : Bool} (h : cmpI op a b = some c) (w : World) : (Op.intCmp op a b).run P w = .ok (.bool c) w := by
  cases op <;> cases h <;> rfl
theorem cmpB_run {op : BinOp} {a b : UInt8} {c : Bool} (h : cmpB op a b = some c) (w : World) : (Op.intCmp op a.toNat b.toNat).run P w = .ok (.bool c) w := by
  cases op <;> cases h <;> simp [Op.intCmp, ← u8_lt, ← u8_le, ← u8_beq, bne]
theorem cmpS_run {op : BinOp} {a b : List UInt8} {c : Bool} (h : cmpS op a b = some c) (w : World) : (Op.stringOp op ⟨a.toArray⟩ ⟨b.toArray⟩).run P w = .ok (.bool c) w := by
  cases op <;> cases h <;> simp [Op.stringOp, toList_mk, lessS_eq]
theorem arithI_run {op : BinOp} {k : IntKind} {a b : Int} {v : AV} (h : arithI op k a b = some v) (t : TypeId) (w : World) : ∃ u, (binOp op t (.int k a) (.int k b)).run P w = .ok u w ∧ VRel st w ι v u := by
  cases op <;> cases h <;> exact ⟨_, by simp [binOp, Op.intArith, Op.intBits], rfl⟩
theorem arithB_run {op : BinOp} {a b : UInt8} {v : AV} (h : arithB op a b = some v) (t : TypeId) (w : World) : ∃ u, (binOp op t (.int .u8 a.toNat) (.int .u8 b.toNat)).run P w = .ok u w ∧ VRel st w ι v u := by
  cases op <;> cases h <;> refine ⟨_, rfl, ?_⟩ <;> show Value.int _ _ = Value.int _ _
  · rw [u8_add]
  · rw [u8_sub]
  · rw [u8_mul]
  · exact congrArg _ (u8_and a b)
  · exact congrArg _ (u8_or a b)
  · exact congrArg _ (u8_xor a b)

/-- A field of a row of cells is the part that the machine takes. -/
theorem fieldA_run {f : Field} {xs : List AV} {us : Array Value} {v : AV} (hx : VRels st w ι xs us.toList) (ho : ∀ u ∈ us.toList, u.oneCell' = true) (h : eqField P f xs = some v) :
    ∃ u, (part f.type us f.offset).run P w = .ok u w ∧ VRel st w ι v u := by
  unfold eqField at h
  split at h
  · rename_i n h1 h2
    cases hle : Nat.ble (f.offset + n) xs.length with
    | false => rw [hle] at h; cases h
    | true =>
      rw [hle] at h; cases h
      refine ⟨.agg (us.extract f.offset (f.offset + n)), by simp [part, isAggT_run h1, szOf_run h2], us.extract f.offset (f.offset + n), rfl, ?_, ?_⟩
      · intro u hu
        simp only [Array.toList_extract] at hu
        exact ho u (List.mem_of_mem_drop (List.mem_of_mem_take hu))
      · simp only [Array.toList_extract, List.extract_eq_take_drop, Nat.add_sub_cancel_left]
        exact (hx.drop f.offset).take n
  · rename_i h1
    obtain ⟨u, h2, h3⟩ := hx.get h
    refine ⟨u, ?_, h3⟩
    have : us[f.offset]? = some u := by simpa using h2
    simp [part, isAggT_run h1, this]
  · cases h

theorem eqA_run : ∀ (n : Nat) (D : Nat) {t : TypeId} {x y : AV} {u v : Value} {c : Bool}, n ≤ D → VRel st w ι x u → VRel st w ι y v → eqA P n t x y = some c → (Op.equalIn D t u v).run P w = .ok c w := by
  intro n
  induction n with
  | zero => intro D t x y u v c _ _ _ h; simp [eqA] at h
  | succ n ih =>
    intro D t x y u v c hn hx hy h
    obtain ⟨D, rfl⟩ : ∃ m, D = m + 1 := ⟨D - 1, by omega⟩
    have hn : n ≤ D := by omega
    have many : ∀ {xs ys : List AV} {us vs : Array Value}, VRels st w ι xs us.toList → (∀ u ∈ us.toList, u.oneCell' = true) → VRels st w ι ys vs.toList → (∀ u ∈ vs.toList, u.oneCell' = true) →
        ∀ (fs : List Field) (c : Bool), eqFsG P (eqA P n) fs xs ys = some c → (Op.eqFields D us vs fs).run P w = .ok c w := by
      intro xs ys us vs hx ho hy ho' fs
      induction fs with
      | nil => intro c h; simp only [eqFsG] at h; cases h; rfl
      | cons f fs ihf =>
        intro c h
        simp only [eqFsG] at h
        cases hf : f.name == "_" with
        | true => rw [hf] at h; cases h
        | false =>
          rw [hf] at h
          simp only [cond_false] at h
          cases ha : eqField P f xs with
          | none => rw [ha] at h; cases h
          | some p =>
            cases hb : eqField P f ys with
            | none => rw [ha, hb] at h; cases h
            | some q =>
              rw [ha, hb] at h
              simp only at h
              cases he : eqA P n f.type p q with
              | none => rw [he] at h; cases h
              | some c1 =>
                cases hr : eqFsG P (eqA P n) fs xs ys with
                | none => rw [he, hr] at h; cases h
                | some c2 =>
                  rw [he, hr] at h; cases h
                  obtain ⟨u1, r1, s1⟩ := fieldA_run hx ho ha
                  obtain ⟨v1, r2, s2⟩ := fieldA_run hy ho' hb
                  have e1 := ih D hn s1 s2 he
                  have e2 := ihf c2 hr
                  have hne : f.name ≠ "_" := by simpa using hf
                  simp only [Op.eqFields, if_pos hne, Sem.run_bind, r1, r2, Result.andThen_ok, e1]
                  cases c1
                  · simp
                  · simpa using e2
    unfold eqA at h
    split at h
    case h_17 fs xs ys ht =>
      obtain ⟨us, rfl, ho, hus⟩ := hx
      obtain ⟨vs, rfl, ho', hvs⟩ := hy
      cases hp : P.stoodInHeld t with
      | true => rw [hp] at h; cases h
      | false =>
        rw [hp] at h
        have hf : P.fieldsOf t = fs := by unfold Program.fieldsOf; rw [ht]
        rw [run_equalIn_struct w D t us vs (by rw [hf]; exact ht) hp, hf]
        exact many hus ho hvs ho' fs.toList c h
    case h_1 ht => obtain rfl := hx; obtain rfl := hy; cases h; simp [Op.equalIn, run_underlying ht]
    case h_2 ht =>
      obtain rfl := hx; obtain rfl := hy
      rename_i j a k b
      by_cases hjk : j = k
      · subst hjk; simp at h; subst h; simp [Op.equalIn, run_underlying ht]
      · simp [hjk] at h
    case h_3 ht => obtain rfl := hx; obtain rfl := hy; cases h; simp [Op.equalIn, run_underlying ht, u8_beq]
    case h_4 ht => obtain rfl := hx; obtain rfl := hy; cases h; simp [Op.equalIn, run_underlying ht, beq_toListBytes]
    case h_5 ht => obtain ⟨b, _, rfl⟩ := hx; obtain rfl := hy; cases h; simp [Op.equalIn, run_underlying ht]
    case h_6 ht => obtain rfl := hx; obtain ⟨b, _, rfl⟩ := hy; cases h; simp [Op.equalIn, run_underlying ht]
    case h_7 ht => obtain ⟨b, o, rfl, _⟩ := hx; obtain rfl := hy; cases h; simp [Op.equalIn, run_underlying ht]
    case h_8 ht => obtain rfl := hx; obtain ⟨b, o, rfl, _⟩ := hy; cases h; simp [Op.equalIn, run_underlying ht]
    case h_9 ht => obtain rfl := hx; obtain rfl := hy; cases h; simp [Op.equalIn, run_underlying ht]
    case h_10 ht => obtain ⟨b, rfl, _⟩ := hx; obtain rfl := hy; cases h; simp [Op.equalIn, run_underlying ht]
    case h_11 ht => obtain rfl := hx; obtain ⟨b, rfl, _⟩ := hy; cases h; simp [Op.equalIn, run_underlying ht]
    case h_12 ht => obtain rfl := hx; obtain rfl := hy; cases h; simp [Op.equalIn, run_underlying ht]
    case h_13 ht => obtain ⟨l, c', rfl, _⟩ := hx; obtain rfl := hy; cases h; simp [Op.equalIn, run_underlying ht]
    case h_14 ht => obtain rfl := hx; obtain ⟨l, c', rfl, _⟩ := hy; cases h; simp [Op.equalIn, run_underlying ht]
    case h_15 ht => obtain rfl := hx; obtain rfl := hy; cases h; simp [Op.equalIn, run_underlying ht]
    case h_16 ht =>
      obtain ⟨a, cap, rfl, _, hh⟩ := hx; obtain rfl := hy; cases h
      cases a with
      | none => cases hh
      | some ad => simp [Op.equalIn, run_underlying ht]
    case h_18 => cases h

theorem of_nilIface {x : AV} (h : VRel st w ι x .nilIface) : x = .raw .nilIface ∨ x = .top := by
  cases x <;> simp [VRel] at h <;> simp_all
theorem of_agg {x : AV} {us : Array Value} (h : VRel st w ι x (.agg us)) : (∃ cs, x = .agg cs) ∨ x = .raw (.agg us) ∨ x = .top := by
  cases x <;> simp [VRel] at h <;> simp_all
theorem guardA_run {op : BinOp} {t : TypeId} {xo yo : Operand} {x y : AV} {u v : Value} (hx : VRel st w ι x u) (hy : VRel st w ι y v) (h : guardA P op t xo yo x y = true) :
    (eqGuard op t xo yo u v).run P w = .ok () w := by
  have main : op = .eql ∨ op = .neq → (eqGuard op t xo yo u v).run P w = .ok () w := by
    intro ho
    have h' : guardE P t xo yo x y = true := by rcases ho with rfl | rfl <;> exact h
    by_cases h1 : u = .nilIface ∧ v = .nilIface
    · obtain ⟨rfl, rfl⟩ := h1
      rcases of_nilIface hx with rfl | rfl
      · rcases of_nilIface hy with rfl | rfl
        · simp only [guardE] at h'
          clear h
          cases xo <;> cases yo <;> first | (exfalso; revert h'; simp [Region.isConst]; done) | (rcases ho with rfl | rfl <;> simp [eqGuard])
        · simp [guardE] at h'
      · simp [guardE] at h'
    by_cases h2 : ∃ us vs, u = .agg us ∧ v = .agg vs
    · obtain ⟨us, vs, rfl, rfl⟩ := h2
      have hm : P.eqGuardType P.depth t = false := by
        rcases of_agg hx with ⟨cs, rfl⟩ | rfl | rfl <;> rcases of_agg hy with ⟨ds, rfl⟩ | rfl | rfl <;> simp_all [guardE]
      exact run_eqGuard_agg w op t xo yo us vs hm
    rcases ho with rfl | rfl <;>
    · unfold eqGuard
      simp only [Bool.not_true, Bool.false_eq_true, if_false]
      split
      · exact absurd ⟨rfl, rfl⟩ h1
      · exact absurd ⟨_, _, rfl, rfl⟩ h2
      · rfl
  cases op <;> first
    | exact main (.inl rfl)
    | exact main (.inr rfl)
    | rfl

theorem shl8 (a : UInt8) (m : Nat) : IntKind.u8.wrap ((a.toNat : Int) * 2 ^ m) = (UInt8.ofNat (a.toNat * 2 ^ m)).toNat := by
  rw [wrap_u8, u8_of, Int.natCast_mul, Int.natCast_pow]; rfl
theorem shr8 (a : UInt8) (m : Nat) : (a.toNat : Int).fdiv (2 ^ m) = (UInt8.ofNat (a.toNat / 2 ^ m)).toNat := by
  have h1 : a.toNat / 2 ^ m < 256 := Nat.lt_of_le_of_lt (Nat.div_le_self _ _) a.toNat_lt
  rw [UInt8.toNat_ofNat_of_lt' h1]
  have : (2 : Int) ^ m = ((2 ^ m : Nat) : Int) := by rw [Int.natCast_pow]; rfl
  rw [this, Int.fdiv_eq_ediv_of_nonneg _ (Int.natCast_nonneg _)]
  exact (Int.natCast_ediv _ _).symm
theorem quo8 (a b : UInt8) : IntKind.u8.wrap ((a.toNat : Int).tdiv b.toNat) = (a / b).toNat := by
  rw [wrap_u8, UInt8.toNat_div, ← Int.ofNat_tdiv]
  have : a.toNat / b.toNat < 256 := Nat.lt_of_le_of_lt (Nat.div_le_self _ _) a.toNat_lt
  exact Int.emod_eq_of_lt (Int.natCast_nonneg _) (Int.ofNat_lt.mpr this)
theorem rem8 (a b : UInt8) : (a.toNat : Int).tmod b.toNat = (a % b).toNat := by
  rw [UInt8.toNat_mod, ← Int.ofNat_tmod]

theorem cmpI_bin {op : BinOp} {k : IntKind} {a b : Int} {c : Bool} (h : cmpI op a b = some c) (t : TypeId) (w : World) : (binOp op t (.int k a) (.int k b)).run P w = .ok (.bool c) w := by
  have := cmpI_run (P := P) h w
  cases op <;> first | (cases h; done) | (simpa [binOp] using this)
theorem cmpB_bin {op : BinOp} {a b : UInt8} {c : Bool} (h : cmpB op a b = some c) (t : TypeId) (w : World) : (binOp op t (.int .u8 a.toNat) (.int .u8 b.toNat)).run P w = .ok (.bool c) w := by
  have := cmpB_run (P := P) h w
  cases op <;> first | (cases h; done) | (simpa [binOp] using this)
theorem cmpS_bin {op : BinOp} {a b : List UInt8} {c : Bool} (h : cmpS op a b = some c) (t : TypeId) (w : World) : (binOp op t (.string ⟨a.toArray⟩) (.string ⟨b.toArray⟩)).run P w = .ok (.bool c) w := by
  have := cmpS_run (P := P) h w
  cases op <;> first | (cases h; done) | exact this
/-- An equation of values that are neither two numbers nor two texts. -/
theorem eql_form {n : Nat} {t : TypeId} {x y : AV} {u v : Value} {c : Bool} (hx : VRel st w ι x u) (hy : VRel st w ι y v) (h : eqA P n t x y = some c)
    (h1 : ∀ k a j b, x = .int k a → y = .int j b → False) (h2 : ∀ a b, x = .u8 a → y = .u8 b → False) (h3 : ∀ a b, x = .str a → y = .str b → False) :
    binOp .eql t u v = (do pure (.bool (← Op.equal t u v))) ∧ binOp .neq t u v = (do pure (.bool (!(← Op.equal t u v)))) := by
  cases n with
  | zero => simp [eqA] at h
  | succ n =>
    unfold eqA at h
    split at h
    case h_1 ht => obtain rfl := hx; obtain rfl := hy; exact ⟨rfl, rfl⟩
    case h_2 ht => exact (h1 _ _ _ _ rfl rfl).elim
    case h_3 ht => exact (h2 _ _ rfl rfl).elim
    case h_4 ht => exact (h3 _ _ rfl rfl).elim
    case h_5 ht => obtain ⟨b, _, rfl⟩ := hx; obtain rfl := hy; exact ⟨rfl, rfl⟩
    case h_6 ht => obtain rfl := hx; obtain ⟨b, _, rfl⟩ := hy; exact ⟨rfl, rfl⟩
    case h_7 ht => obtain ⟨b, o, rfl, _⟩ := hx; obtain rfl := hy; exact ⟨rfl, rfl⟩
    case h_8 ht => obtain rfl := hx; obtain ⟨b, o, rfl, _⟩ := hy; exact ⟨rfl, rfl⟩
    case h_9 ht => obtain rfl := hx; obtain rfl := hy; exact ⟨rfl, rfl⟩
    case h_10 ht => obtain ⟨b, rfl, _⟩ := hx; obtain rfl := hy; exact ⟨rfl, rfl⟩
    case h_11 ht => obtain rfl := hx; obtain ⟨b, rfl, _⟩ := hy; exact ⟨rfl, rfl⟩
    case h_12 ht => obtain rfl := hx; obtain rfl := hy; exact ⟨rfl, rfl⟩
    case h_13 ht => obtain ⟨l, c', rfl, _⟩ := hx; obtain rfl := hy; exact ⟨rfl, rfl⟩
    case h_14 ht => obtain rfl := hx; obtain ⟨l, c', rfl, _⟩ := hy; exact ⟨rfl, rfl⟩
    case h_15 ht => obtain rfl := hx; obtain rfl := hy; exact ⟨rfl, rfl⟩
    case h_16 ht => obtain ⟨a, cap, rfl, _, hh⟩ := hx; obtain rfl := hy; exact ⟨rfl, rfl⟩
    case h_17 ht => obtain ⟨us, rfl, ho, hus⟩ := hx; obtain ⟨vs, rfl, ho', hvs⟩ := hy; exact ⟨rfl, rfl⟩
    case h_18 => cases h

theorem binA_ok {cf : FuncId → List AV → Option AV} {g : Key → Ent} {op : BinOp} {t : TypeId} {x y v : AV} {u u' : Value} (hx : VRel st w ι x u) (hy : VRel st w ι y u') (h : Rd.val cf g (binA P op t x y) = some v) :
    ∃ r, (binOp op t u u').run P w = .ok r w ∧ VRel st w ι v r := by
  unfold binA at h
  split at h
  case h_1 k a j b =>
    obtain rfl := hx; obtain rfl := hy
    simp only [Rd.val] at h
    cases hb : decide (0 ≤ b) <;> rw [hb] at h <;> cases h
    have hb := of_decide_eq_true hb
    exact ⟨_, by simp [binOp, Op.shift, Int.not_lt.mpr hb], rfl⟩
  case h_2 k a j b =>
    obtain rfl := hx; obtain rfl := hy
    simp only [Rd.val] at h
    cases hb : decide (0 ≤ b) <;> rw [hb] at h <;> cases h
    have hb := of_decide_eq_true hb
    exact ⟨_, by simp [binOp, Op.shift, Int.not_lt.mpr hb], rfl⟩
  case h_3 a j b =>
    obtain rfl := hx; obtain rfl := hy
    simp only [Rd.val] at h
    cases hb : decide (0 ≤ b) <;> rw [hb] at h <;> cases h
    have hb := of_decide_eq_true hb
    exact ⟨_, by simp [binOp, Op.shift, Int.not_lt.mpr hb]; rfl, congrArg _ (shl8 a _)⟩
  case h_4 a j b =>
    obtain rfl := hx; obtain rfl := hy
    simp only [Rd.val] at h
    cases hb : decide (0 ≤ b) <;> rw [hb] at h <;> cases h
    have hb := of_decide_eq_true hb
    exact ⟨_, by simp [binOp, Op.shift, Int.not_lt.mpr hb]; rfl, congrArg _ (shr8 a _)⟩
  case h_5 k a j b =>
    obtain rfl := hx; obtain rfl := hy
    by_cases hjk : j = k
    · subst hjk
      simp only [decide_true, cond_true, Rd.val] at h
      cases hb : (b == 0) <;> rw [hb] at h <;> cases h
      have hb : b ≠ 0 := by simpa using hb
      exact ⟨_, by simp [binOp, Op.intDiv, hb], rfl⟩
    · simp [hjk, Rd.val] at h
  case h_6 k a j b =>
    obtain rfl := hx; obtain rfl := hy
    by_cases hjk : j = k
    · subst hjk
      simp only [decide_true, cond_true, Rd.val] at h
      cases hb : (b == 0) <;> rw [hb] at h <;> cases h
      have hb : b ≠ 0 := by simpa using hb
      exact ⟨_, by simp [binOp, Op.intDiv, hb], rfl⟩
    · simp [hjk, Rd.val] at h
  case h_7 a b =>
    obtain rfl := hx; obtain rfl := hy
    simp only [Rd.val] at h
    cases hb : (b == 0) <;> rw [hb] at h <;> cases h
    have hb : b.toNat ≠ 0 := by
      have : b ≠ 0 := by simpa using hb
      intro e; exact this (UInt8.toNat_inj.mp (by simpa using e))
    exact ⟨_, by simp [binOp, Op.intDiv, hb], congrArg _ (quo8 a b)⟩
  case h_8 a b =>
    obtain rfl := hx; obtain rfl := hy
    simp only [Rd.val] at h
    cases hb : (b == 0) <;> rw [hb] at h <;> cases h
    have hb : b.toNat ≠ 0 := by
      have : b ≠ 0 := by simpa using hb
      intro e; exact this (UInt8.toNat_inj.mp (by simpa using e))
    exact ⟨_, by simp [binOp, Op.intDiv, hb], congrArg _ (rem8 a b)⟩
  case h_9 k a j b h1 h2 h3 h4 =>
    obtain rfl := hx; obtain rfl := hy
    by_cases hjk : j = k
    · subst hjk
      simp only [decide_true, cond_true] at h
      split at h
      · rename_i c hc
        cases h
        exact ⟨.bool c, cmpI_bin hc t w, rfl⟩
      · rename_i hc
        rw [Rd.val_need] at h
        exact arithI_run h t w
    · simp [hjk, Rd.val] at h
  case h_10 a b h1 h2 h3 h4 =>
    obtain rfl := hx; obtain rfl := hy
    split at h
    · rename_i c hc
      cases h
      exact ⟨.bool c, cmpB_bin hc t w, rfl⟩
    · rename_i hc
      rw [Rd.val_need] at h
      exact arithB_run h t w
  case h_11 a b =>
    obtain rfl := hx; obtain rfl := hy
    simp only [Rd.val] at h
    cases hb : Nat.ble (a.length + b.length) 9223372036854775807 <;> rw [hb] at h <;> cases h
    have hb : decide (((a.length + b.length : Nat) : Int) ≤ IntKind.i64.max) = true := by
      have := Nat.le_of_ble_eq_true hb
      have e : IntKind.i64.max = 9223372036854775807 := rfl
      rw [e]; exact decide_eq_true (by omega)
    have hb := of_decide_eq_true hb
    have hs : ∀ l : List UInt8, (⟨l.toArray⟩ : ByteArray).size = l.length := fun l => by show l.toArray.size = _; simp
    refine ⟨.string (⟨a.toArray⟩ ++ ⟨b.toArray⟩), ?_, ?_⟩
    · simp only [binOp, Op.stringOp, hs]
      rw [if_neg (by omega)]
      rfl
    · show Value.string _ = .string _
      congr 1
  case h_12 a b h1 =>
    obtain rfl := hx; obtain rfl := hy
    split at h
    · rename_i c hc
      cases h
      exact ⟨.bool c, cmpS_bin hc t w, rfl⟩
    · cases h
  case h_13 x y h1 h2 h3 =>
    split at h
    · rename_i c hc
      cases h
      have e := eqA_run (w := w) 64 10000 (by decide) hx hy hc
      refine ⟨.bool c, ?_, rfl⟩
      rw [(eql_form hx hy hc h1 h2 h3).1]
      simp only [Sem.run_bind, Op.equal, Op.maxDepth, e, Result.andThen_ok, Sem.run_pure]
    · cases h
  case h_14 x y h1 h2 h3 =>
    split at h
    · rename_i c hc
      cases h
      have e := eqA_run (w := w) 64 10000 (by decide) hx hy hc
      refine ⟨.bool (!c), ?_, rfl⟩
      rw [(eql_form hx hy hc h1 h2 h3).2]
      simp only [Sem.run_bind, Op.equal, Op.maxDepth, e, Result.andThen_ok, Sem.run_pure]
    · cases h
  case h_15 => cases h
end
end Go.Proofs.YtgeheffhdpeddaaDoor.VX

/- THE OPERATIONS, third part: rows of cells, conversions, bounds, reads. Conditions: as each theorem states. -/
namespace Go.Proofs.YtgeheffhdpeddaaDoor.VX
open Go Go.RowKit

/-- The cells of elements, one behind the other. -/
def flatA : List AV → List AV
  | [] => []
  | x :: xs => x.cells.getD [] ++ flatA xs
theorem flatA_app : ∀ (xs ys : List AV), flatA (xs ++ ys) = flatA xs ++ flatA ys
  | [], _ => rfl
  | x :: xs, ys => by simp [flatA, flatA_app xs ys]
/-- Each element has so many cells. -/
def EachSz (sz : Nat) (xs : List AV) : Prop := ∀ x ∈ xs, ∃ cs, x.cells = some cs ∧ cs.length = sz
theorem flatA_length {sz : Nat} : ∀ {xs : List AV}, EachSz sz xs → (flatA xs).length = xs.length * sz
  | [], _ => by simp [flatA]
  | x :: xs, h => by
    obtain ⟨cs, e, hl⟩ := h x (by simp)
    have := flatA_length (xs := xs) fun y hy => h y (by simp [hy])
    simp [flatA, e, this, hl, Nat.succ_mul, Nat.add_comm]

/-- These values lie from a place on. -/
def LieAt (w : World) (b o : Nat) (us : List Value) : Prop := ∀ i v, us[i]? = some v → w.cell? ⟨b, o + i, none⟩ = some v
section
variable {P : Program} {st : Cells} {w : World} {ι : Inj}

theorem LieAt.left {b o : Nat} {us vs : List Value} (h : LieAt w b o (us ++ vs)) : LieAt w b o us := fun i v e =>
  h i v (by rw [List.getElem?_append_left (List.getElem?_eq_some_iff.mp e).1]; exact e)
theorem LieAt.right {b o : Nat} {us vs : List Value} (h : LieAt w b o (us ++ vs)) : LieAt w b (o + us.length) vs := fun i v e => by
  have := h (us.length + i) v (by rw [List.getElem?_append_right (by omega), Nat.add_sub_cancel_left]; exact e)
  rwa [← Nat.add_assoc] at this
theorem LieAt.app {b o : Nat} {us vs : List Value} (h : LieAt w b o us) (k : LieAt w b (o + us.length) vs) : LieAt w b o (us ++ vs) := fun i v e => by
  by_cases hi : i < us.length
  · rw [List.getElem?_append_left hi] at e; exact h i v e
  · rw [List.getElem?_append_right (by omega)] at e
    have := k (i - us.length) v e
    rwa [Nat.add_assoc, Nat.add_sub_cancel' (by omega)] at this
theorem LieAt.row {b o : Nat} {us : List Value} {cs : Array Value} {ty : TypeId} {fz : Nat × Nat} (h : w.heap[b]? = some (.cells cs ty fz)) (hu : ∀ i v, us[i]? = some v → cs[o + i]? = some v) : LieAt w b o us := fun i v e => by
  rw [cell_of_row w b (o + i) cs ty fz h]; exact hu i v e

theorem VRels.split : ∀ {cs ds : List AV} {us : List Value}, VRels st w ι (cs ++ ds) us → ∃ vs ws, us = vs ++ ws ∧ VRels st w ι cs vs ∧ VRels st w ι ds ws
  | [], ds, us, h => ⟨[], us, rfl, rfl, h⟩
  | c :: cs, ds, us, h => by
    obtain ⟨v, vs, rfl, h1, h2⟩ := h
    obtain ⟨xs, ys, rfl, h3, h4⟩ := h2.split
    exact ⟨v :: xs, ys, rfl, ⟨v, xs, rfl, h1, h3⟩, h4⟩

theorem CsRel.mk : ∀ {cs : List AV} {us : List Value} {b o : Nat}, VRels st w nop cs us → (∀ v ∈ us, v.oneCell' = true) → LieAt w b o us → (∀ i, i < us.length → st b (o + i)) → CsRel st w cs b o
  | [], _, _, _, _, _, _, _ => trivial
  | c :: cs, _, b, o, h, h1, h2, h3 => by
    obtain ⟨v, vs, rfl, h4, h5⟩ := h
    refine ⟨⟨v, h3 0 (by simp), h2 0 v rfl, h1 v (by simp), h4⟩, CsRel.mk h5 (fun x hx => h1 x (by simp [hx])) (fun i x e => ?_) (fun i hi => ?_)⟩
    · have := h2 (i + 1) x (by simpa using e); rwa [← Nat.add_assoc, Nat.add_right_comm] at this
    · have := h3 (i + 1) (by simp; omega); rwa [← Nat.add_assoc, Nat.add_right_comm] at this
theorem EsRel.mk {sz : Nat} : ∀ {xs : List AV} {us : List Value} {b o : Nat}, EachSz sz xs → VRels st w nop (flatA xs) us → (∀ v ∈ us, v.oneCell' = true) → LieAt w b o us → (∀ i, i < us.length → st b (o + i)) → EsRel st w sz xs b o
  | [], _, _, _, _, _, _, _, _ => trivial
  | x :: xs, us, b, o, hs, h, h1, h2, h3 => by
    obtain ⟨cs, e, hl⟩ := hs x (by simp)
    simp only [flatA, e, Option.getD_some] at h
    obtain ⟨vs, ws, rfl, h4, h5⟩ := h.split
    have hvl : vs.length = sz := by rw [h4.length, hl]
    rw [EsRel.cells]
    refine ⟨⟨cs, e, hl, CsRel.mk h4 (fun y hy => h1 y (by simp [hy])) h2.left (fun i hi => h3 i (by simp; omega))⟩,
      EsRel.mk (fun y hy => hs y (by simp [hy])) h5 (fun y hy => h1 y (by simp [hy])) (by rw [← hvl]; exact h2.right) (fun i hi => ?_)⟩
    have := h3 (sz + i) (by simp; omega)
    rwa [← Nat.add_assoc] at this
theorem CsRel.vals : ∀ {cs : List AV} {b o : Nat}, CsRel st w cs b o → ∃ us, VRels st w nop cs us ∧ (∀ v ∈ us, v.oneCell' = true) ∧ LieAt w b o us ∧ ∀ i, i < us.length → st b (o + i)
  | [], _, _, _ => ⟨[], rfl, by simp, by intro i v e; simp at e, by simp⟩
  | c :: cs, b, o, h => by
    obtain ⟨⟨v, h1, h2, h3, h4⟩, h5⟩ := h
    obtain ⟨us, k1, k2, k3, k4⟩ := h5.vals
    refine ⟨v :: us, ⟨v, us, rfl, h4, k1⟩, ?_, fun i x e => ?_, fun i hi => ?_⟩
    · intro x hx; simp at hx; rcases hx with rfl | hx
      · exact h3
      · exact k2 x hx
    · cases i with
      | zero => simp at e; subst e; exact h2
      | succ i => simp at e; have := k3 i x e; rwa [Nat.add_right_comm] at this
    · cases i with
      | zero => exact h1
      | succ i => have := k4 i (by simp at hi; omega); rwa [Nat.add_right_comm] at this
theorem EsRel.vals {sz : Nat} : ∀ {xs : List AV} {b o : Nat}, EsRel st w sz xs b o → EachSz sz xs ∧ ∃ us, VRels st w nop (flatA xs) us ∧ (∀ v ∈ us, v.oneCell' = true) ∧ LieAt w b o us ∧ ∀ i, i < us.length → st b (o + i)
  | [], _, _, _ => ⟨by intro x hx; simp at hx, [], rfl, by simp, by intro i v e; simp at e, by simp⟩
  | x :: xs, b, o, h => by
    rw [EsRel.cells] at h
    obtain ⟨⟨cs, e, hl, hc⟩, h⟩ := h
    obtain ⟨k0, us, k1, k2, k3, k4⟩ := h.vals
    obtain ⟨vs, j1, j2, j3, j4⟩ := hc.vals
    have hvl : vs.length = sz := by rw [j1.length, hl]
    refine ⟨?_, vs ++ us, by simp only [flatA, e, Option.getD_some]; exact j1.app k1, ?_, LieAt.app j3 (by rw [hvl]; exact k3), fun i hi => ?_⟩
    · intro y hy; simp at hy; rcases hy with rfl | hy
      · exact ⟨cs, e, hl⟩
      · exact k0 y hy
    · intro y hy; simp at hy; rcases hy with hy | hy
      · exact j2 y hy
      · exact k2 y hy
    · by_cases hi' : i < vs.length
      · exact j4 i hi'
      · have := k4 (i - vs.length) (by simp at hi; omega)
        rwa [← hvl, Nat.add_assoc, Nat.add_sub_cancel' (by omega)] at this
theorem EsRel.take {sz : Nat} {xs : List AV} {b o : Nat} (n : Nat) (h : EsRel st w sz xs b o) : EsRel st w sz (xs.take n) b o := by
  have e := List.take_append_drop n xs
  rw [← e, EsRel.app] at h
  exact h.1
theorem EsRel.drop {sz : Nat} {xs : List AV} {b o : Nat} (n : Nat) (h : EsRel st w sz xs b o) (hn : n ≤ xs.length) : EsRel st w sz (xs.drop n) b (o + n * sz) := by
  have e := List.take_append_drop n xs
  rw [← e, EsRel.app, List.length_take, Nat.min_eq_left hn] at h
  exact h.2

/-! ### bytes -/
theorem u8s_vals (s : List UInt8) : VRels st w ι (s.map .u8) (s.map fun b => Value.int .u8 b.toNat) := by
  induction s with
  | nil => rfl
  | cons b s ih => exact ⟨_, _, rfl, rfl, ih⟩
theorem u8s_each (s : List UInt8) : EachSz 1 (s.map .u8) := by
  intro x hx
  obtain ⟨b, _, rfl⟩ := List.mem_map.mp hx
  exact ⟨_, rfl, rfl⟩
theorem u8s_flat (s : List UInt8) : flatA (s.map .u8) = s.map .u8 := by
  induction s with
  | nil => rfl
  | cons b s ih => simp [flatA, ih, AV.cells, AV.cells?]
theorem flat_u8 : ∀ {xs : List AV}, xs.all isU8 = true → xs = (xs.map toU8).map .u8
  | [], _ => rfl
  | x :: xs, h => by
    rw [List.all_cons, Bool.and_eq_true] at h
    obtain ⟨h1, h2⟩ := h
    cases x <;> first | (cases h1; done) | skip
    simp only [List.map_cons, toU8]
    rw [← flat_u8 h2]
theorem u8s_of : ∀ {s : List UInt8} {us : List Value}, VRels st w ι (s.map .u8) us → us = (s.map fun b => (b.toNat : Int)).map (Value.int .u8)
  | [], _, h => h
  | b :: s, _, h => by
    obtain ⟨v, vs, rfl, h1, h2⟩ := h
    obtain rfl := h1
    rw [u8s_of h2]; rfl
theorem push_bytes : ∀ (s : List UInt8) (r : ByteArray), (s.map fun b => (b.toNat : Int)).foldl (fun r n => r.push (UInt8.ofNat n.toNat)) r = ⟨(r.data.toList ++ s).toArray⟩
  | [], r => by simp
  | b :: s, r => by
    simp only [List.map_cons, List.foldl_cons]
    rw [push_bytes s]
    simp [ByteArray.push]

/-- The world grows: blocks are made, none is changed. -/
structure Grows (st : Cells) (w : World) (st' : Cells) (w' : World) : Prop where
  below : Below w.heap.size w w'
  sub : ∀ b o, st b o → st' b o
  new : ∀ b o, st' b o → st b o ∨ w.heap.size ≤ b
  lt : ∀ b o, st' b o → b < w'.heap.size
theorem Grows.same {st : Cells} {w : World} (h : ∀ b o, st b o → b < w.heap.size) : Grows st w st w := ⟨Below.refl _ _, fun _ _ x => x, fun _ _ x => .inl x, h⟩

theorem spot_cells {w : World} {us : List Value} {bl of_ cap k n : Nat} {sp : Option Nat} (hsp : cap = 0 ∨ sp = none) (hc : k ≤ cap) (hl : us.length = k * n) (h : ∀ j v, us[j]? = some v → w.cell? ⟨bl, of_ + j, none⟩ = some v) :
    ∀ (j : Nat) (v : Value), us[j]? = some v → w.cell? ((⟨bl, of_, sp⟩ : Addr).add j) = some v := fun j v hj => by
  rcases hsp with h0 | rfl
  · have hk : k = 0 := by omega
    subst hk
    rw [Nat.zero_mul] at hl
    rw [List.eq_nil_of_length_eq_zero hl] at hj
    simp at hj
  · rw [add_none]; exact h j v hj
theorem conv_int {src dst : TypeId} {s : TypeDesc} {k : IntKind} (hs : P.underlying src = some s) (hd : P.underlying dst = some (.int k)) (j : IntKind) (n : Int) : (convert src dst (.int j n)).run P w = .ok (.int k (k.wrap n)) w := by
  simp [convert, run_underlying hs, run_underlying hd, Conv.intToInt]
theorem wrap_big {k : IntKind} (h8 : k ≠ .u8) (hi : k ≠ .i8) (b : UInt8) : k.wrap (b.toNat : Int) = b.toNat := by
  have := b.toNat_lt
  cases k <;> first | (exact absurd rfl h8) | (exact absurd rfl hi) | skip
  all_goals
    simp only [IntKind.wrap, IntKind.bits, IntKind.signed, Bool.true_and, Bool.false_and, decide_eq_true_eq, Bool.false_eq_true, if_false]
    try split
  all_goals first | omega | (rename_i h; have h := of_decide_eq_true h; omega)
theorem convA_ok {cf : FuncId → List AV → Option AV} {g : Key → Ent} {src dst : TypeId} {x v : AV} {u : Value} (hlt : ∀ b o, st b o → b < w.heap.size) (hx : VRel st w ι x u)
    (h : Rd.val cf g (convA P src dst x) = some v) : ∃ r w' st', (convert src dst u).run P w = .ok r w' ∧ Grows st w st' w' ∧ VRel st' w' ι v r := by
  have same : ∀ {r : Value}, (convert src dst u).run P w = .ok r w → VRel st w ι v r → ∃ r w' st', (convert src dst u).run P w = .ok r w' ∧ Grows st w st' w' ∧ VRel st' w' ι v r :=
    fun h1 h2 => ⟨_, w, st, h1, Grows.same hlt, h2⟩
  unfold convA at h
  split at h
  case h_1 n hs hd =>
    cases h; obtain rfl := hx
    refine same (conv_int hs hd _ _) ?_
    show Value.int _ _ = .int _ _
    rw [wrap_u8, u8_of]; congr 1
    have := Int.emod_nonneg n (show (256 : Int) ≠ 0 by decide)
    omega
  case h_2 b hs hd =>
    cases h; obtain rfl := hx
    refine same (conv_int hs hd _ _) ?_
    show Value.int _ _ = .int _ _
    rw [wrap_u8]; congr 1
    have := b.toNat_lt; omega
  case h_3 b hs hd =>
    cases h; obtain rfl := hx
    exact same (conv_int hs hd _ _) rfl
  case h_4 k b h1 h2 hs hd =>
    cases h; obtain rfl := hx
    refine same (conv_int hs hd _ _) ?_
    show Value.int _ _ = .int _ _
    rw [wrap_big (fun e => ?_) (fun e => ?_)]
    · subst e; exact h1 rfl
    · subst e; exact h2 rfl
  case h_5 h1 hs hd =>
    cases h; obtain rfl := hx
    exact same (conv_int hs hd _ _) rfl
  case h_6 s hs hd =>
    cases h; obtain rfl := hx
    refine same (r := .string ⟨s.toArray⟩) (by simp [convert, run_underlying hs, run_underlying hd]) rfl
  case h_7 e s hs hd =>
    obtain rfl := hx
    split at h
    · rename_i he
      cases h
      have hr := Lib.run_convert_string_bytes (P := P) w src dst e ⟨s.toArray⟩ hs hd he
      have hnew := Lib.bytesWorld_at_new w e ⟨s.toArray⟩
      have hsz := Lib.bytesWorld_size w e ⟨s.toArray⟩
      refine ⟨_, _, fun b o => st b o ∨ (b = w.heap.size ∧ o < s.length), hr, ⟨⟨rfl, rfl, rfl, by omega, fun j hj => Lib.bytesWorld_at_old w e _ j hj⟩, fun _ _ x => .inl x, fun b o x => x.elim .inl fun y => .inr (by omega), fun b o x => x.elim (fun y => by have := hlt b o y; omega) fun y => by omega⟩, ?_⟩
      have hss : (⟨s.toArray⟩ : ByteArray).size = s.length := by show s.toArray.size = _; simp
      refine ⟨some ⟨w.heap.size, 0, none⟩, _, by rw [hss, List.length_map], ?_, .inr rfl, ?_⟩
      · rw [List.length_map, ← hss]; exact grownCap_ge w _ 0 e
      · refine EsRel.mk (us := s.map fun b => Value.int .u8 b.toNat) (u8s_each s) (by rw [u8s_flat]; exact u8s_vals s) ?_ ?_ ?_
        · intro v hv; obtain ⟨b, _, rfl⟩ := List.mem_map.mp hv; rfl
        · refine LieAt.row hnew fun i v hv => ?_
          rw [List.getElem?_map] at hv
          simp only [Lib.bytesCells, Nat.zero_add]
          rw [Array.getElem?_append_left]
          · simpa using hv
          · simp; have := (List.getElem?_eq_some_iff.mp (Option.map_eq_some_iff.mp hv).choose_spec.1).1; simpa using this
        · intro i hi; exact .inr ⟨rfl, by simpa using hi⟩
    · cases h
  case h_8 e sz xs hs hd =>
    obtain ⟨a, cap, rfl, hc, hh⟩ := hx
    split at h
    · rename_i he
      simp only [Rd.val] at h
      cases ha : xs.all isU8 <;> rw [ha] at h <;> cases h
      have hr := run_convert_bytes_string (P := P) w src dst e a xs.length cap hs he hd
      cases a with
      | none =>
        subst hh
        refine same (r := .string .empty) (by rw [hr]; rfl) rfl
      | some ad =>
        obtain ⟨hsp, hE⟩ := hh
        obtain ⟨k0, us, k1, k2, k3, k4⟩ := hE.vals
        rw [flat_u8 ha, u8s_flat] at k1
        have hus := u8s_of k1
        have hlen : us.length = xs.length := by rw [hus]; simp
        obtain ⟨bl, of_, sp⟩ := ad
        have hload := run_loadCells_list (P := P) w ⟨bl, of_, sp⟩ us (spot_cells hsp hc (n := 1) (by rw [hlen, Nat.mul_one]) k3)
        rw [hlen] at hload
        rw [hus] at hload
        have := run_bytesToString (P := P) w ⟨bl, of_, sp⟩ xs.length cap _ hload
        rw [push_bytes] at this
        exact same (hr.trans this) (by show Value.string _ = .string _; congr 2)
    · cases h
  case h_9 e sz xs ys hs hd =>
    obtain ⟨a, cap, rfl, hc, hh⟩ := VRel.weak _ _ hx
    split at h
    · rename_i he
      simp only [Rd.val] at h
      cases ha : xs.all isU8 <;> rw [ha] at h <;> cases h
      have hr := run_convert_bytes_string (P := P) w src dst e a xs.length cap hs he hd
      cases a with
      | none =>
        subst hh
        refine same (r := .string .empty) (by rw [hr]; rfl) rfl
      | some ad =>
        obtain ⟨hsp, hE⟩ := hh
        obtain ⟨k0, us, k1, k2, k3, k4⟩ := hE.vals
        rw [flat_u8 ha, u8s_flat] at k1
        have hus := u8s_of k1
        have hlen : us.length = xs.length := by rw [hus]; simp
        obtain ⟨bl, of_, sp⟩ := ad
        have hload := run_loadCells_list (P := P) w ⟨bl, of_, sp⟩ us (spot_cells hsp hc (n := 1) (by rw [hlen, Nat.mul_one]) k3)
        rw [hlen] at hload
        rw [hus] at hload
        have := run_bytesToString (P := P) w ⟨bl, of_, sp⟩ xs.length cap _ hload
        rw [push_bytes] at this
        exact same (hr.trans this) (by show Value.string _ = .string _; congr 2)
    · cases h
  case h_10 e hs hd =>
    obtain rfl := hx
    split at h
    · rename_i he
      cases h
      exact same (r := .string .empty) (by rw [run_convert_bytes_string (P := P) w src dst e none 0 0 hs he hd]; rfl) rfl
    · cases h
  case h_11 => cases h
end
end Go.Proofs.YtgeheffhdpeddaaDoor.VX

/- THE OPERATIONS, fourth part: slices, indices, fields, loads. Conditions: as each theorem states. -/
namespace Go.Proofs.YtgeheffhdpeddaaDoor.VX
open Go Go.RowKit

section
variable {P : Program} {st : Cells} {w : World} {ι : Inj} {T : Labs} {cf : FuncId → List AV → Option AV} {g : Key → Ent}

theorem boundA_run {x : Option AV} {v : AV} {u : Value} {n : Int} (hx : x = some v) (hv : VRel st w ι v u) (h : boundA x = some n) : ∃ k, u = .int k n := by
  subst hx
  cases v <;> simp [boundA] at h
  · obtain rfl := hv; subst h; exact ⟨_, rfl⟩
  · obtain rfl := hv; subst h; exact ⟨_, rfl⟩
theorem sliceBound_run {u : Value} {k : IntKind} {n : Int} (hu : u = .int k n) {y : Nat} {c : BoundsCode} (h0 : 0 ≤ n) (h1 : n ≤ y) : (Instr.sliceBound u y c).run P w = .ok n.toNat w := by
  subst hu
  simp [Instr.sliceBound, asIntOf, h0, h1]

/-- An option's operand. -/
def ORel (st : Cells) (w : World) (ι : Inj) : Option AV → Option Value → Prop
  | none, u => u = none
  | some v, u => ∃ x, u = some x ∧ VRel st w ι v x

def hiA (n : Nat) : Option AV → Option Int
  | none => some n
  | some h => boundA (some h)
def loA : Option AV → Option Int
  | none => some 0
  | some a => boundA (some a)
theorem bounds_run {lo hi : Option AV} {lo' hi' : Option Value} {len cap : Nat} {sl : Bool} {h a : Int} (hl : ORel st w ι lo lo') (hh : ORel st w ι hi hi')
    (e1 : hiA len hi = some h) (e2 : loA lo = some a)
    (h0 : 0 ≤ a) (h1 : a ≤ h) (h2 : h ≤ len) (hc : len ≤ cap) : (Instr.sliceBounds sl len cap lo' hi' none).run P w = .ok (a.toNat, h.toNat, cap) w := by
  have hhi : (hi' = none ∧ h = len) ∨ ∃ x, hi' = some x ∧ ∀ c, (Instr.sliceBound x cap c).run P w = .ok h.toNat w := by
    cases hi with
    | none => cases e1; exact .inl ⟨hh, rfl⟩
    | some v =>
      obtain ⟨x, rfl, hx⟩ := hh
      obtain ⟨k, hk⟩ := boundA_run rfl hx e1
      exact .inr ⟨x, rfl, fun c => sliceBound_run hk (by omega) (by omega)⟩
  have hlo : (lo' = none ∧ a = 0) ∨ ∃ x, lo' = some x ∧ ∀ c, (Instr.sliceBound x h.toNat c).run P w = .ok a.toNat w := by
    cases lo with
    | none => cases e2; exact .inl ⟨hl, rfl⟩
    | some v =>
      obtain ⟨x, rfl, hx⟩ := hl
      obtain ⟨k, hk⟩ := boundA_run rfl hx e2
      exact .inr ⟨x, rfl, fun c => sliceBound_run hk h0 (by omega)⟩
  rcases hhi with ⟨rfl, rfl⟩ | ⟨x, rfl, hx⟩ <;> rcases hlo with ⟨rfl, rfl⟩ | ⟨y, rfl, hy⟩ <;> simp [Instr.sliceBounds, *]
  have := hy .sliceB
  simpa using congrArg (fun r : Result Nat => r.andThen fun l w' => Result.ok (l, len, cap) w') this

theorem bounds_run2 {lo : Option AV} {v : AV} {lo' : Option Value} {x : Value} {len cap : Nat} {sl : Bool} {h a : Int} (hl : ORel st w ι lo lo') (hx : VRel st w ι v x)
    (e1 : boundA (some v) = some h) (e2 : loA lo = some a)
    (h0 : 0 ≤ a) (h1 : a ≤ h) (h2 : h ≤ cap) : (Instr.sliceBounds sl len cap lo' (some x) none).run P w = .ok (a.toNat, h.toNat, cap) w := by
  obtain ⟨k, hk⟩ := boundA_run rfl hx e1
  have hh : ∀ c, (Instr.sliceBound x cap c).run P w = .ok h.toNat w := fun c => sliceBound_run hk (by omega) h2
  have hlo : (lo' = none ∧ a = 0) ∨ ∃ x, lo' = some x ∧ ∀ c, (Instr.sliceBound x h.toNat c).run P w = .ok a.toNat w := by
    cases lo with
    | none => cases e2; exact .inl ⟨hl, rfl⟩
    | some v =>
      obtain ⟨x, rfl, hx⟩ := hl
      obtain ⟨k, hk⟩ := boundA_run rfl hx e2
      exact .inr ⟨x, rfl, fun c => sliceBound_run hk h0 (by omega)⟩
  clear hk hx e1
  rcases hlo with ⟨rfl, rfl⟩ | ⟨y, rfl, hy⟩
  · simp [Instr.sliceBounds, hh]
  · simp [Instr.sliceBounds, hh]
    have := hy .sliceB
    simpa using congrArg (fun r : Result Nat => r.andThen fun l w' => Result.ok (l, h.toNat, cap) w') this

theorem extract_list (s : List UInt8) (l h : Nat) : (⟨s.toArray⟩ : ByteArray).extract l h = ⟨((s.take h).drop l).toArray⟩ := by
  apply ByteArray.ext
  rw [ByteArray.data_extract]
  simp [List.extract_eq_take_drop, List.drop_take]

theorem sliceA_ok {t : TypeId} {x v : AV} {lo hi : Option AV} {u : Value} {lo' hi' : Option Value} (hx : VRel st w ι x u) (hl : ORel st w ι lo lo') (hh : ORel st w ι hi hi')
    (h : Rd.val cf g (sliceA P t x lo hi) = some v) : ∃ r, (Instr.sliceAt t u lo' hi' none).run P w = .ok r w ∧ VRel st w ι v r := by
  have go : ∀ {β : Type} (l : List β) (mk : List β → AV), Rd.val cf g (sliceL lo hi l mk) = some v →
      ∃ h a : Int, hiA l.length hi = some h ∧ loA lo = some a ∧
        0 ≤ a ∧ a ≤ h ∧ h ≤ l.length ∧ v = mk ((l.take h.toNat).drop a.toNat) := by
    intro β l mk h
    simp only [sliceL, Rd.val_bind', Option.bind_eq_some_iff] at h
    obtain ⟨q, e1, a, e2, h⟩ := h
    refine ⟨q, a, ?_, ?_, ?_⟩
    · cases hi with
      | none => exact e1
      | some y => rw [Rd.val_need] at e1; exact e1
    · cases lo with
      | none => exact e2
      | some y => rw [Rd.val_need] at e2; exact e2
    · simp only [Rd.val] at h
      cases h0 : decide (0 ≤ a) <;> rw [h0] at h <;> try (cases h; done)
      simp only [cond_true] at h
      cases h1 : decide (a ≤ q) <;> rw [h1] at h <;> try (cases h; done)
      simp only [cond_true] at h
      cases h2 : decide (q ≤ (l.length : Int)) <;> rw [h2] at h <;> cases h
      exact ⟨of_decide_eq_true h0, of_decide_eq_true h1, of_decide_eq_true h2, rfl⟩
  unfold sliceA at h
  split at h
  case h_1 s hu =>
    obtain ⟨q, a, e1, e2, h0, h1, h2, rfl⟩ := go s .str h
    obtain rfl := hx
    have hss : (⟨s.toArray⟩ : ByteArray).size = s.length := by show s.toArray.size = _; simp
    have hb := bounds_run (P := P) (sl := false) (cap := s.length) hl hh e1 e2 h0 h1 h2 (Nat.le_refl _)
    refine ⟨.string (((⟨s.toArray⟩ : ByteArray)).extract a.toNat q.toNat), ?_, by rw [extract_list]; rfl⟩
    simp only [Instr.sliceAt, Instr.slice, Sem.run_bind, run_underlying hu, Result.andThen_ok, Option.isSome_none, Bool.false_eq_true, if_false, hss, hb, Sem.run_pure]
  case h_2 e sz xs hu =>
    by_cases hsz : szOf P e = some sz
    · simp only [hsz, decide_true, cond_true] at h
      split at h
      · -- a front of bytes
        rename_i hv hb1
        obtain rfl : sz = 1 := Nat.eq_of_beq_eq_true hb1
        simp only [partL, Rd.val_bind', Option.bind_eq_some_iff] at h
        obtain ⟨q, e1, h⟩ := h
        rw [Rd.val_need] at e1
        simp only [Rd.val] at h
        cases h0 : decide (0 ≤ q) <;> rw [h0] at h <;> try (cases h; done)
        simp only [cond_true] at h
        cases h2 : decide (q ≤ (xs.length : Int)) <;> rw [h2] at h <;> cases h
        replace h0 := of_decide_eq_true h0
        replace h2 := of_decide_eq_true h2
        obtain ⟨ad, cap, rfl, hc, hm⟩ := hx
        obtain ⟨x', rfl, hx'⟩ := hh
        have hb := bounds_run2 (P := P) (sl := true) (len := xs.length) (cap := cap) hl hx' e1 rfl (Int.le_refl 0) h0 (by omega)
        refine ⟨.slice (if cap = 0 then ad else ad.map (·.add (0 * 1))) (q.toNat - 0) (cap - 0), ?_, ?_⟩
        · simp only [Instr.sliceAt, Instr.slice, Sem.run_bind, run_underlying hu, Result.andThen_ok, hb, szOf_run hsz, Sem.run_pure]
          rfl
        · refine ⟨_, _, by rw [List.length_take]; congr 1; omega, by rw [List.length_take, List.length_drop]; omega, ?_⟩
          cases ad with
          | none =>
            have hm : xs = [] := hm
            subst hm
            split
            · simp
            · rename_i hn; split at hn <;> cases hn
          | some ad =>
            obtain ⟨hsp, hE⟩ := hm
            have ht : (xs.take q.toNat).length = q.toNat := by rw [List.length_take]; omega
            split
            · rename_i hn; split at hn <;> cases hn
            · rename_i hn
              obtain ⟨bl, of_, sp⟩ := ad
              split at hn
              · rename_i hcap
                cases hn
                have hx0 : xs = [] := List.length_eq_zero_iff.mp (by omega)
                subst hx0
                exact ⟨.inl (by omega), by simp only [List.take_nil]; trivial, by simp only [List.drop_nil]; trivial⟩
              · rename_i hcap
                obtain rfl : sp = none := hsp.resolve_left fun h => hcap (by omega)
                simp only [Option.map_some, Option.some.injEq] at hn
                rw [add_none] at hn
                subst hn
                refine ⟨.inr rfl, hE.take q.toNat, ?_⟩
                rw [ht]
                exact hE.drop q.toNat (by omega)
      · have hx := hx
        obtain ⟨q, a, e1, e2, h0, h1, h2, rfl⟩ := go xs (.view sz) h
        obtain ⟨ad, cap, rfl, hc, hm⟩ := hx
        have hb := bounds_run (P := P) (sl := true) (cap := cap) hl hh e1 e2 h0 h1 h2 hc
        have hlen : ((xs.take q.toNat).drop a.toNat).length = q.toNat - a.toNat := by simp; omega
        refine ⟨.slice (if cap = a.toNat then ad else ad.map (·.add (a.toNat * sz))) (q.toNat - a.toNat) (cap - a.toNat), ?_, ?_⟩
        · simp only [Instr.sliceAt, Instr.slice, Sem.run_bind, run_underlying hu, Result.andThen_ok, hb, szOf_run hsz, Sem.run_pure]
        · refine ⟨_, _, by rw [hlen], by rw [hlen]; omega, ?_⟩
          cases ad with
          | none =>
            have hm : xs = [] := hm
            subst hm
            split
            · rename_i hn; simp
            · rename_i hn
              split at hn <;> cases hn
          | some ad =>
            obtain ⟨hsp, hE⟩ := hm
            have hE' : EsRel st w sz ((xs.take q.toNat).drop a.toNat) ad.block (ad.off + a.toNat * sz) := (hE.take q.toNat).drop a.toNat (by simp; omega)
            split
            · rename_i hn; split at hn <;> cases hn
            · rename_i hn
              obtain ⟨bl, of_, sp⟩ := ad
              split at hn
              · rename_i hcap
                cases hn
                refine ⟨hsp.imp_left fun h => by omega, ?_⟩
                have : (xs.take q.toNat).drop a.toNat = [] := List.drop_eq_nil_of_le (by simp; omega)
                rw [this]; trivial
              · rename_i hcap
                obtain rfl : sp = none := hsp.resolve_left fun h => hcap (by omega)
                simp only [Option.map_some, Option.some.injEq] at hn
                rw [add_none] at hn
                subst hn
                exact ⟨.inr rfl, hE'⟩
    · simp [hsz, Rd.val] at h
  case h_3 e sz xs ys hu =>
    by_cases hsz : szOf P e = some sz
    · simp only [hsz, decide_true, cond_true] at h
      split at h
      · rename_i hv
        obtain ⟨q, a, e1, e2, h0, h1, h2, rfl⟩ := go (xs ++ ys) (.view sz) h
        obtain ⟨ad, cap, rfl, hc, hm⟩ := hx
        obtain ⟨x', rfl, hx'⟩ := hh
        rw [List.length_append] at h2
        have hb := bounds_run2 (P := P) (sl := true) (len := xs.length) (cap := cap) hl hx' e1 e2 h0 h1 (by omega)
        have hlen : (((xs ++ ys).take q.toNat).drop a.toNat).length = q.toNat - a.toNat := by simp; omega
        refine ⟨.slice (if cap = a.toNat then ad else ad.map (·.add (a.toNat * sz))) (q.toNat - a.toNat) (cap - a.toNat), ?_, ?_⟩
        · simp only [Instr.sliceAt, Instr.slice, Sem.run_bind, run_underlying hu, Result.andThen_ok, hb, szOf_run hsz, Sem.run_pure]
        · refine ⟨_, _, by rw [hlen], by rw [hlen]; omega, ?_⟩
          cases ad with
          | none =>
            obtain ⟨hm1, hm2⟩ : xs = [] ∧ ys = [] := hm
            subst hm1 hm2
            split
            · simp
            · rename_i hn; split at hn <;> cases hn
          | some ad =>
            obtain ⟨hsp, hE1, hE2⟩ := hm
            have hE : EsRel st w sz (xs ++ ys) ad.block ad.off := EsRel.app.mpr ⟨hE1, hE2⟩
            have hE' : EsRel st w sz (((xs ++ ys).take q.toNat).drop a.toNat) ad.block (ad.off + a.toNat * sz) := (hE.take q.toNat).drop a.toNat (by simp; omega)
            split
            · rename_i hn; split at hn <;> cases hn
            · rename_i hn
              obtain ⟨bl, of_, sp⟩ := ad
              split at hn
              · rename_i hcap
                cases hn
                refine ⟨hsp.imp_left fun h => by omega, ?_⟩
                have : ((xs ++ ys).take q.toNat).drop a.toNat = [] := List.drop_eq_nil_of_le (by simp; omega)
                rw [this]; trivial
              · rename_i hcap
                obtain rfl : sp = none := hsp.resolve_left fun h => hcap (by omega)
                simp only [Option.map_some, Option.some.injEq] at hn
                rw [add_none] at hn
                subst hn
                exact ⟨.inr rfl, hE'⟩
      · cases h
    · simp [hsz, Rd.val] at h
  case h_4 => cases h

theorem idxOf_run {v : AV} {u : Value} {n : Int} (hv : VRel st w ι v u) (h : idxOf v = some n) : ∃ k, u = .int k n := boundA_run rfl hv h

/-- An address moved on. -/
theorem addrA_run {x v : AV} {u : Value} {n : Nat} (hx : VRel st w ι x u) (h : addrA x n = some v) : ∃ b o, u = .pointer (some ⟨b, o, none⟩) ∧ VRel st w ι v (.pointer (some ⟨b, o + n, none⟩)) := by
  unfold addrA at h
  split at h
  · cases h; obtain ⟨b, hb, rfl⟩ := hx; exact ⟨b, _, rfl, b, hb, rfl⟩
  · cases h; obtain ⟨b, o, rfl, hc⟩ := hx; exact ⟨b, _, rfl, b, o, by rw [Nat.add_assoc], hc⟩
  · cases h; obtain rfl := hx; exact ⟨_, _, rfl, rfl⟩
  · cases h

theorem indexAddrA_ok {t : TypeId} {x i v : AV} {u u' : Value} (hx : VRel st w ι x u) (hi : VRel st w ι i u') (h : Rd.val cf g (indexAddrA P t x i) = some v) :
    ∃ r, (Instr.indexAt t u u').run P w = .ok r w ∧ VRel st w ι v r := by
  unfold indexAddrA at h
  split at h
  case h_1 e sz xs n hu hn =>
    obtain ⟨k, rfl⟩ := idxOf_run hi hn
    by_cases hsz : szOf P e = some sz
    · simp only [hsz, decide_true, cond_true, Rd.val] at h
      cases h0 : decide (0 ≤ n) <;> rw [h0] at h <;> try (cases h; done)
      simp only [cond_true] at h
      cases h1 : decide (n < (xs.length : Int)) <;> rw [h1] at h <;> cases h
      have h0 := of_decide_eq_true h0; have h1 := of_decide_eq_true h1
      obtain ⟨ad, cap, rfl, hc, hm⟩ := hx
      cases ad with
      | none => have hm : xs = [] := hm; subst hm; simp at h1; omega
      | some ad =>
        obtain ⟨hsp, hE⟩ := hm
        obtain ⟨bl, of_, sp⟩ := ad
        obtain rfl : sp = none := hsp.resolve_left fun h => by omega
        have hlt : n.toNat < xs.length := by omega
        obtain ⟨cs, e1, e2, e3⟩ := hE.get (i := n.toNat) (x := xs[n.toNat]) (by simp [hlt])
        refine ⟨.pointer (some ⟨bl, of_ + n.toNat * sz, none⟩), ?_, bl, of_ + n.toNat * sz, rfl, ?_⟩
        · simp [Instr.indexAt, asIntOf, run_underlying hu, szOf_run hsz, h0, h1, add_none]
        · rw [List.getD_eq_getElem?_getD, List.getElem?_eq_getElem hlt, Option.getD_some, e1]; exact e3
    · simp [hsz, Rd.val] at h
  case h_2 len e n hu hn =>
    obtain ⟨k, rfl⟩ := idxOf_run hi hn
    split at h
    · rename_i sz hsz
      simp only [Rd.val, Rd.val_need] at h
      cases h0 : decide (0 ≤ n) <;> rw [h0] at h <;> try (cases h; done)
      simp only [cond_true] at h
      cases h1 : decide (n < (len : Int)) <;> rw [h1] at h <;> try (cases h; done)
      simp only [cond_true] at h
      have h0 := of_decide_eq_true h0; have h1 := of_decide_eq_true h1
      obtain ⟨b, o, rfl, hv⟩ := addrA_run hx h
      refine ⟨_, ?_, hv⟩
      simp [Instr.indexAt, Instr.sureAddr, asIntOf, run_underlying hu, szOf_run hsz, h0, h1, add_none]
    · cases h
  case h_3 => cases h

theorem indexA_ok {t : TypeId} {x i v : AV} {u u' : Value} (hx : VRel st w ι x u) (hi : VRel st w ι i u') (h : Rd.val cf g (indexA P t x i) = some v) :
    ∃ r, (Instr.index t u u').run P w = .ok r w ∧ VRel st w ι v r := by
  unfold indexA at h
  split at h
  case h_1 s n hu hn =>
    obtain ⟨k, rfl⟩ := idxOf_run hi hn
    simp only [Rd.val] at h
    cases h0 : decide (0 ≤ n) <;> rw [h0] at h <;> try (cases h; done)
    simp only [cond_true] at h
    cases h1 : decide (n < (s.length : Int)) <;> rw [h1] at h <;> cases h
    have h0 := of_decide_eq_true h0; have h1 := of_decide_eq_true h1
    obtain rfl := hx
    have hlt : n.toNat < s.length := by omega
    refine ⟨.int .u8 (s.getD n.toNat 0).toNat, ?_, rfl⟩
    have hg : (⟨s.toArray⟩ : ByteArray)[n.toNat]? = some (s.getD n.toNat 0) := by
      have hsz : n.toNat < (⟨s.toArray⟩ : ByteArray).size := by show n.toNat < s.toArray.size; simpa using hlt
      rw [getElem?_pos (⟨s.toArray⟩ : ByteArray) n.toNat hsz, List.getD_eq_getElem?_getD, List.getElem?_eq_getElem hlt]
      show some (s.toArray[n.toNat]) = some s[n.toNat]
      simp
    simp [Instr.index, asIntOf, run_underlying hu, h0, hg]
  case h_2 len e cs n hu hn =>
    obtain ⟨k, rfl⟩ := idxOf_run hi hn
    obtain ⟨us, rfl, ho, hus⟩ := hx
    split at h
    · rename_i ha hs
      simp only [Rd.val] at h
      cases h0 : decide (0 ≤ n) <;> rw [h0] at h <;> try (cases h; done)
      simp only [cond_true] at h
      cases h1 : decide (n < (len : Int)) <;> rw [h1] at h <;> try (cases h; done)
      simp only [cond_true] at h
      cases h2 : decide (n < (cs.length : Int)) <;> rw [h2] at h <;> cases h
      have h0 := of_decide_eq_true h0; have h1 := of_decide_eq_true h1; have h2 := of_decide_eq_true h2
      have hlt : n.toNat < cs.length := by omega
      obtain ⟨v, e1, e2⟩ := hus.get (i := n.toNat) (c := cs[n.toNat]) (by simp [hlt])
      have e1 : us[n.toNat]? = some v := by simpa using e1
      refine ⟨v, by simp [Instr.index, asIntOf, run_underlying hu, h0, h1, szOf_run hs, part, isAggT_run ha, e1], ?_⟩
      rw [List.getD_eq_getElem?_getD, List.getElem?_eq_getElem hlt]; exact e2
    · rename_i k' ha hs
      simp only [Rd.val] at h
      cases h0 : decide (0 ≤ n) <;> rw [h0] at h <;> try (cases h; done)
      simp only [cond_true] at h
      cases h1 : decide (n < (len : Int)) <;> rw [h1] at h <;> try (cases h; done)
      simp only [cond_true] at h
      cases h2 : Nat.ble (len * k') cs.length <;> rw [h2] at h <;> cases h
      have h0 := of_decide_eq_true h0; have h1 := of_decide_eq_true h1
      refine ⟨.agg (us.extract (n.toNat * k') (n.toNat * k' + k')), by simp [Instr.index, asIntOf, run_underlying hu, h0, h1, szOf_run hs, part, isAggT_run ha], _, rfl, ?_, ?_⟩
      · intro y hy
        simp only [Array.toList_extract] at hy
        exact ho y (List.mem_of_mem_drop (List.mem_of_mem_take hy))
      · simp only [Array.toList_extract, List.extract_eq_take_drop, Nat.add_sub_cancel_left]
        exact (hus.drop _).take _
    · cases h
  case h_3 => cases h
end
end Go.Proofs.YtgeheffhdpeddaaDoor.VX

/- THE OPERATIONS, fifth part: blocks of the call's own, parts laid together. Conditions: as each theorem states. -/
namespace Go.Proofs.YtgeheffhdpeddaaDoor.VX
open Go Go.RowKit

section
variable {P : Program} {st : Cells} {w : World} {ι : Inj} {T : Labs} {cf : FuncId → List AV → Option AV} {g : Key → Ent}

theorem LRels.vals : ∀ {cs : List (AV × Option Nat)} {us : List Value}, LRels st w ι T cs us → VRels st w ι (cs.map (·.1)) us ∧ (∀ u ∈ us, u.oneCell' = true)
  | [], _, h => by rw [show _ = [] from h]; exact ⟨rfl, by simp⟩
  | (c, l) :: cs, _, h => by
    obtain ⟨v, vs, rfl, h0, h1, h2, h3⟩ := h
    obtain ⟨k1, k2⟩ := h3.vals
    exact ⟨⟨v, vs, rfl, h1, k1⟩, fun u hu => (List.mem_cons.mp hu).elim (fun e => e ▸ h0) (k2 u)⟩
theorem LRels.length {cs : List (AV × Option Nat)} {us : List Value} (h : LRels st w ι T cs us) : us.length = cs.length := by
  have := h.vals.1.length; simpa using this
theorem LRels.get : ∀ {cs : List (AV × Option Nat)} {us : List Value}, LRels st w ι T cs us → ∀ {i : Nat} {c : AV} {l : Option Nat}, cs[i]? = some (c, l) → ∃ v, us[i]? = some v ∧ VRel st w ι c v ∧ LabRel T l c v
  | [], _, _, _, _, _, e => by simp at e
  | (c, l) :: cs, _, h, i, x, l', e => by
    obtain ⟨v, vs, rfl, h0, h1, h2, h3⟩ := h
    cases i with
    | zero => simp at e; obtain ⟨rfl, rfl⟩ := e; exact ⟨v, rfl, h1, h2⟩
    | succ i => simp at e; simpa using h3.get e
theorem LRels.app : ∀ {cs ds : List (AV × Option Nat)} {us vs : List Value}, LRels st w ι T cs us → LRels st w ι T ds vs → LRels st w ι T (cs ++ ds) (us ++ vs)
  | [], _, _, _, h, k => by rw [show _ = [] from h]; exact k
  | (c, l) :: cs, _, _, _, h, k => by
    obtain ⟨v, vs, rfl, h0, h1, h2, h3⟩ := h
    exact ⟨v, _, rfl, h0, h1, h2, h3.app k⟩
theorem LRels.take : ∀ {cs : List (AV × Option Nat)} {us : List Value} (n : Nat), LRels st w ι T cs us → LRels st w ι T (cs.take n) (us.take n)
  | [], us, n, h => by rw [show us = [] from h]; simp [LRels]
  | c :: cs, _, 0, h => by simp [LRels]
  | (c, l) :: cs, _, n + 1, h => by
    obtain ⟨v, vs, rfl, h0, h1, h2, h3⟩ := h
    exact ⟨v, _, rfl, h0, h1, h2, h3.take n⟩
theorem LRels.drop : ∀ {cs : List (AV × Option Nat)} {us : List Value} (n : Nat), LRels st w ι T cs us → LRels st w ι T (cs.drop n) (us.drop n)
  | [], us, n, h => by rw [show us = [] from h]; simp [LRels]
  | c :: cs, _, 0, h => h
  | (c, l) :: cs, _, n + 1, h => by
    obtain ⟨v, vs, rfl, h0, h1, h2, h3⟩ := h
    exact h3.drop n
theorem LRels.plain : ∀ {cs : List AV} {us : List Value}, VRels st w ι cs us → (∀ u ∈ us, u.oneCell' = true) → LRels st w ι T (cs.map fun c => (c, none)) us
  | [], _, h, _ => h
  | c :: cs, _, h, ho => by
    obtain ⟨v, vs, rfl, h1, h2⟩ := h
    exact ⟨v, vs, rfl, ho v (by simp), h1, trivial, LRels.plain h2 fun u hu => ho u (by simp [hu])⟩

/-- What is read of a block of the call's own. -/
theorem partA_ok {t : TypeId} {cs : List (AV × Option Nat)} {b off : Nat} {us : Array Value} {ty : TypeId} {fz : Nat × Nat} {v : AV} {lab : Option Nat} (hh : w.heap[b]? = some (.cells us ty fz)) (hc : LRels st w ι T cs us.toList)
    (h : Rd.val cf g (partA P t cs off) = some (v, lab)) : ∃ u, (loadVar t ⟨b, off, none⟩).run P w = .ok u w ∧ VRel st w ι v u ∧ LabRel T lab v u := by
  unfold partA at h
  split at h
  · rename_i n h1 h2
    simp only [Rd.val] at h
    cases hle : Nat.ble (off + n) cs.length with
    | false => rw [hle] at h; cases h
    | true =>
      rw [hle] at h; cases h
      have hle := Nat.le_of_ble_eq_true hle
      have hd := (hc.drop off).take n
      obtain ⟨k1, k2⟩ := hd.vals
      have hl : (List.take n (List.drop off us.toList)).length = n := by rw [hd.length]; simp; omega
      have hlie : LieAt w b off (List.take n (List.drop off us.toList)) := LieAt.row hh fun i x hx => by
        rw [List.getElem?_take] at hx
        split at hx
        · rw [List.getElem?_drop] at hx; simpa using hx
        · cases hx
      exact ⟨_, (loadVar_run hlie).1 n h1 h2 hl, ⟨_, rfl, by simpa using k2, by simpa using k1⟩, trivial⟩
  · rename_i h1
    split at h
    · rename_i x hx
      cases h
      obtain ⟨u, h2, h3, h4⟩ := hc.get hx
      have h2 : us[off]? = some u := by simpa using h2
      refine ⟨u, (loadVar_run (us := [u]) (by
        intro i y hi
        cases i with
        | zero => simp at hi; subst hi; rw [Nat.add_zero, cell_of_row w b off us ty fz hh]; exact h2
        | succ i => simp at hi)).2 u h1 rfl, h3, h4⟩
    · cases h
  · cases h

/-- The part of a row of cells. -/
theorem partC_part {t : TypeId} {cs : List AV} {us : Array Value} {off : Nat} {v : AV} {lab : Option Nat} (hx : VRels st w ι cs us.toList) (ho : ∀ u ∈ us.toList, u.oneCell' = true) (h : Rd.val cf g (partC P t cs off) = some (v, lab)) :
    lab = none ∧ ∃ u, (part t us off).run P w = .ok u w ∧ VRel st w ι v u := by
  rw [partC_eq] at h
  unfold partC0 at h
  split at h
  · rename_i n h1 h2
    simp only [Rd.val] at h
    cases hle : Nat.ble (off + n) cs.length with
    | false => rw [hle] at h; cases h
    | true =>
      rw [hle] at h; cases h
      refine ⟨rfl, .agg (us.extract off (off + n)), by simp [part, isAggT_run h1, szOf_run h2], us.extract off (off + n), rfl, ?_, ?_⟩
      · intro u hu
        simp only [Array.toList_extract] at hu
        exact ho u (List.mem_of_mem_drop (List.mem_of_mem_take hu))
      · simp only [Array.toList_extract, List.extract_eq_take_drop, Nat.add_sub_cancel_left]
        exact (hx.drop off).take n
  · rename_i h1
    split at h
    · rename_i x hxx
      cases h
      obtain ⟨u, h2, h3⟩ := hx.get hxx
      have : us[off]? = some u := by simpa using h2
      exact ⟨rfl, u, by simp [part, isAggT_run h1, this], h3⟩
    · cases h
  · cases h

/-! ### parts laid together -/
theorem fill_step (off size : Nat) (cells : Array Value) (vs : Array Value) (h : vs.size = size) (hle : off + size ≤ cells.size) :
    vs.zipIdx.foldl (fun cs (x : Value × Nat) => cs.setIfInBounds (off + x.2) x.1) cells = (cells.toList.take off ++ (vs.toList ++ cells.toList.drop (off + size))).toArray := by
  have e := Great.foldl_set off vs.toList 0 cells
  have e0 : vs.zipIdx.foldl (fun cs (x : Value × Nat) => cs.setIfInBounds (off + x.2) x.1) cells = (vs.toList.zipIdx 0).foldl (fun cs (x : Value × Nat) => cs.setIfInBounds (off + x.2) x.1) cells := by
    rw [← Array.foldl_toList, Array.toList_zipIdx]
  rw [e0]
  obtain ⟨e1, e2⟩ := e
  apply Array.ext'
  apply List.ext_getElem?
  intro k
  have hk := e2 k
  rw [← Array.getElem?_toList] at hk
  rw [hk]
  simp only [Nat.add_zero, Array.length_toList, List.toList_toArray]
  by_cases h1 : k < off
  · rw [if_neg (by omega), List.getElem?_append_left (by simp; omega), List.getElem?_take_of_lt h1]; simp
  · by_cases h2 : k < off + size
    · rw [if_pos (by omega), List.getElem?_append_right (by simp; omega), List.getElem?_append_left (by simp; omega)]
      congr 1; simp; omega
    · rw [if_neg (by omega), List.getElem?_append_right (by simp; omega), List.getElem?_append_right (by simp; omega), List.getElem?_drop]
      simp only [List.length_take, Array.length_toList, h]
      rw [show off + size + (k - min off cells.size - size) = k by omega]; simp

theorem fillA_run {place : Nat → Option (Nat × Nat)} : ∀ {ps : List (Nat × AV)} {qs : List (Nat × Value)} {cells cells' : List AV} {us : Array Value}, PRels st w ι ps qs → VRels st w ι cells us.toList → (∀ u ∈ us.toList, u.oneCell' = true) →
    fillA place cells ps = some cells' → ∃ us', Instr.fill place us qs = some us' ∧ VRels st w ι cells' us'.toList ∧ (∀ u ∈ us'.toList, u.oneCell' = true)
  | [], _, cells, _, us, hp, hc, ho, h => by rw [show _ = [] from hp]; cases h; exact ⟨us, rfl, hc, ho⟩
  | (i, v) :: ps, _, cells, cells', us, hp, hc, ho, h => by
    obtain ⟨u, qs, rfl, hv, hp⟩ := hp
    unfold fillA at h
    split at h
    · rename_i off size cs hpl hcs
      cases hb : (Nat.beq cs.length size && Nat.ble (off + size) cells.length) with
      | false => rw [hb] at h; cases h
      | true =>
        rw [hb] at h
        simp only [cond_true] at h
        rw [Bool.and_eq_true] at hb
        have hb1 := Nat.eq_of_beq_eq_true hb.1
        have hb2 := Nat.le_of_ble_eq_true hb.2
        obtain ⟨c1, c2, c3⟩ := cells_rel hv hcs
        have hul : us.size = cells.length := by have := hc.length; simpa using this
        have hsz : u.cells.size = size := by rw [c3, hb1]
        have hstep := fill_step off size us u.cells hsz (by omega)
        have hrel : VRels st w ι (cells.take off ++ (cs ++ cells.drop (off + size))) (us.toList.take off ++ (u.cells.toList ++ us.toList.drop (off + size))) :=
          (hc.take off).app (c1.app (hc.drop (off + size)))
        have hone : ∀ x ∈ (us.toList.take off ++ (u.cells.toList ++ us.toList.drop (off + size))), x.oneCell' = true := by
          intro x hx
          rcases List.mem_append.mp hx with hx | hx
          · exact ho x (List.mem_of_mem_take hx)
          · rcases List.mem_append.mp hx with hx | hx
            · exact c2 x hx
            · exact ho x (List.mem_of_mem_drop hx)
        obtain ⟨us', f1, f2, f3⟩ := fillA_run (us := (us.toList.take off ++ (u.cells.toList ++ us.toList.drop (off + size))).toArray) hp (by simpa using hrel) (by simpa using hone) h
        refine ⟨us', ?_, f2, f3⟩
        unfold Instr.fill
        simp only [hpl]
        rw [if_neg (by simp; omega)]
        have : (u.cells.zipIdx.foldl (fun cs (c, j) => cs.setIfInBounds (off + j) c) us) = (us.toList.take off ++ (u.cells.toList ++ us.toList.drop (off + size))).toArray := hstep
        rw [this]; exact f1
    · cases h

/-! ### a new block of the call's own -/
theorem below_alloc1 (w : World) (o : Obj) : Below w.heap.size w (w.alloc o) := (Below.refl _ _).alloc (Nat.le_refl _) o
theorem heap_alloc_new (w : World) (o : Obj) : (w.alloc o).heap[w.heap.size]? = some o := by simp [World.alloc, -World.alloc_eq]
theorem size_alloc (w : World) (o : Obj) : (w.alloc o).heap.size = w.heap.size + 1 := by simp [World.alloc, -World.alloc_eq]

variable {B : Base} {ex : Exs}
/-- 'box' and 'alloc'. -/
theorem newObj_ok (hI : Inv B ι T st g ex w) {id : Nat} {cs : List AV} {us : Array Value} {ty : TypeId} (hlo : id < HID) (hg : g (.o id) = .none) (hgy : g (.y id) = .none) (hc : VRels st w ι cs us.toList) (ho : ∀ u ∈ us.toList, u.oneCell' = true) :
    Post B g ex { val := .ptr id 0, ws := [(.o id, .obj (cs.map fun c => (c, none))), (.y id, .num ty)] } (.pointer (some ⟨w.heap.size, 0, none⟩)) (w.alloc (.cells us ty (0, 0))) := by
  have hb := below_alloc1 w (.cells us ty (0, 0))
  have h1 := hI.grow0 hb
  have hno : ∀ i, ι i ≠ some w.heap.size := fun i e => Nat.lt_irrefl _ (hI.dom i _ e).2
  have hs := hI.stays hb
  have hι : ι id = none := hI.no_ι hlo (fun x => by rw [hg] at x; exact x)
  have h2 := h1.newObj (id := id) (b := w.heap.size) (us := us) (ty := ty) (cs := cs.map fun c => (c, none)) hlo (fun x => by rw [hg] at x; exact x) (fun t e => by rw [hgy] at e; cases e) (heap_alloc_new w _) (fun x => absurd (Nat.lt_of_lt_of_le (hI.oldlt _ x) hI.below.size) (Nat.lt_irrefl _))
    (fun o x => by have := hI.lt _ _ x; omega) hno
    (fun l x e e' s => by
      obtain ⟨u, sz, e1, a, n, cap, eu, hc', hr⟩ := hI.lab l e
      rw [e'] at e1; cases e1
      obtain ⟨o, n', cap', es, hlt⟩ := s
      simp only at es
      rw [eu] at es; injection es with ea en ec
      subst en; subst ec
      obtain ⟨b, o', us', ty', ea', hh, _⟩ := hr hlt
      rw [ea] at ea'; cases ea'
      have := lt_of_heap hh; omega)
    (LRels.plain (VRels.mono hs (setι_le _ hι) _ _ hc) ho)
  have h3 := h2.setTy (setι_same _ _ _) (heap_alloc_new w _)
  have hk : ovr [((.o id : Key), Ent.obj (cs.map fun c => (c, none))), (.y id, .num ty)] g = setK (setK g (.o id) (.obj (cs.map fun c => (c, none)))) (.y id) (.num ty) := by
    funext κ
    simp only [ovr, setK]
    cases h1 : (Key.o id).same κ with
    | true =>
      have := Key.same_iff.mp h1; subst this
      simp [Key.same]
    | false => rfl
  refine ⟨_, _, _, (hk ▸ h3.exs fun v lab u x => ?_)⟩
  rcases x with x | ⟨rfl, rfl, rfl⟩
  · exact .inl x
  · exact .inr ⟨⟨_, ⟨setι_same _ _ _, hlo⟩, rfl⟩, trivial⟩

/-- 'alloc' of a strings.Builder. -/
theorem newBld_ok (hI : Inv B ι T st g ex w) {id : Nat} (hlo : id < HID) (hg : g (.o id) = .none) (hgy : g (.y id) = .none) :
    Post B g ex { val := .ptr id 0, ws := [(.o id, .bld [])] } (.pointer (some ⟨w.heap.size, 0, none⟩)) (w.alloc (.cells #[.pointer none, .slice none 0 0] bldT (0, 0))) := by
  have hb := below_alloc1 w (.cells #[.pointer none, .slice none 0 0] bldT (0, 0))
  have h1 := hI.grow0 hb
  have hno : ∀ i, ι i ≠ some w.heap.size := fun i e => Nat.lt_irrefl _ (hI.dom i _ e).2
  have hold : ¬ B.old w.heap.size := fun x => absurd (Nat.lt_of_lt_of_le (hI.oldlt _ x) hI.below.size) (Nat.lt_irrefl _)
  have hst : ∀ o, ¬ st w.heap.size o := fun o x => by have := hI.lt _ _ x; omega
  have hn := heap_alloc_new w (.cells #[.pointer none, .slice none 0 0] bldT (0, 0))
  have h2 := h1.newBlk (id := id) (b := w.heap.size) (e0 := .bld []) trivial hlo (fun x => by rw [hg] at x; exact x) (fun t e => by rw [hgy] at e; cases e) hn hold hst hno
    (fun l x e e' s => by
      obtain ⟨u, sz, e1, a, n, cap, eu, hc', hr⟩ := hI.lab l e
      rw [e'] at e1; cases e1
      obtain ⟨o, n', cap', es, hlt⟩ := s
      simp only at es
      rw [eu] at es; injection es with ea en ec
      subst en; subst ec
      obtain ⟨b, o', us', ty', ea', hh, _⟩ := hr hlt
      rw [ea] at ea'; cases ea'
      have := lt_of_heap hh; omega)
    (fun _ e => by cases e) (fun bs e => by cases e; exact ⟨_, _, hn, .inl rfl, hold, hst, rfl, rfl⟩)
  have hk : ovr [((.o id : Key), Ent.bld [])] g = setK g (.o id) (.bld []) := by
    funext κ
    rfl
  refine ⟨_, _, _, (hk ▸ h2.exs fun v lab u x => ?_)⟩
  rcases x with x | ⟨rfl, rfl, rfl⟩
  · exact .inl x
  · exact .inr ⟨⟨_, ⟨setι_same _ _ _, hlo⟩, rfl⟩, trivial⟩

theorem box_run (u : Value) (t : TypeId) : (Instr.box t u).run P w = .ok (.pointer (some ⟨w.heap.size, 0, none⟩)) (w.alloc (.cells u.cells t (0, 0))) := by
  simp [Instr.box, newVar, newRow, World.alloc, -World.alloc_eq]
theorem alloc_run {t : TypeId} {z : Value} (h : (P.info? t).bind (·.zero) = some z) : (Instr.alloc t true (.tuple #[])).run P w = .ok (.pointer (some ⟨w.heap.size, 0, none⟩)) (w.alloc (.cells z.cells t (0, 0))) := by
  cases hi : P.info? t with
  | none => rw [hi] at h; cases h
  | some i =>
    rw [hi] at h
    simp only [Option.bind_some] at h
    simp [Instr.alloc, zeroValue, typeInfo, hi, h, newVar, newRow, World.alloc, -World.alloc_eq]

/-! ### a store -/
theorem storeVar_run {t : TypeId} {b off : Nat} {us : Array Value} {ty : TypeId} {u : Value} {n : Nat} (hh : w.heap[b]? = some (.cells us ty (0, 0))) (hs : szOf P t = some n) (hn : u.cells.size = n) (hle : off + n ≤ us.size) (ho : ∀ x ∈ u.cells.toList, x.oneCell' = true) :
    (storeVar t ⟨b, off, none⟩ u).run P w = .ok () (w.setRow b (us.toList.take off ++ u.cells.toList ++ us.toList.drop (off + n)).toArray) := by
  have := run_storeCells_at P b off ty u.cells.toList 0 us w hh (by simp; omega) ho
  simp only [Nat.add_zero, Array.length_toList, hn] at this
  simp [storeVar, szOf_run hs, hn, this]
theorem only_setRow (w : World) (b : Nat) (cs : Array Value) : OnlyBlock b w (w.setRow b cs) :=
  ⟨rfl, rfl, rfl, setRow_size w b cs, fun k hk => setRow_other w b k cs hk⟩

theorem store_ok (hI : Inv B ι T st g ex w) {t : TypeId} {id off : Nat} {os : List (AV × Option Nat)} {x : AV} {l : Option Nat} {u u' : Value} {cs : List AV} {ag : Bool} {n : Nat} (hg : g (.o id) = .obj os)
    (hp : VRel st w ι (.ptr id off) u') (hx : VRel st w ι x u) (hl : LabRel T l x u) (hc : x.cells = some cs) (ha : isAggT P t = some ag) (hs : szOf P t = some n) (hn : cs.length = n) (hle : off + n ≤ os.length) (h1 : ag = false → n = 1 ∧ cs = [x]) :
    Does P (do Instr.storeAt t u' u; pure .skip) w (Post B g ex { val := .tup [], ws := [(.o id, .obj (os.take off ++ ((cs.map fun c => (c, bif ag then none else l)) ++ os.drop (off + n))))] }) := by
  obtain ⟨b, ⟨hb, _⟩, rfl⟩ := hp
  obtain ⟨b', us, ty, e1, hh, hr, hw, hst⟩ := hI.obj id os hg
  rw [hb] at e1; cases e1
  obtain ⟨c1, c2, c3⟩ := cells_rel hx hc
  have husz : us.size = os.length := by have := hr.length; simpa using this
  have hrun := storeVar_run (P := P) (u := u) (off := off) hh hs (by rw [c3, hn]) (by omega) c2
  refine ⟨undef, _, .inr ⟨by simp only [Instr.storeAt, Instr.sureAddr, Sem.run_bind, Sem.run_pure, Result.andThen_ok, hrun]; rfl, rfl⟩, ?_⟩
  have hone := only_setRow w b (us.toList.take off ++ u.cells.toList ++ us.toList.drop (off + n)).toArray
  have hs' : Stays st w st (w.setRow b (us.toList.take off ++ u.cells.toList ++ us.toList.drop (off + n)).toArray) := ⟨fun _ _ x => x, fun k o x => hone.cell (fun e => hst o (e ▸ x))⟩
  have hmid : LRels st w ι T (cs.map fun c => (c, bif ag then none else l)) u.cells.toList := by
    cases ag with
    | true => exact LRels.plain c1 c2
    | false =>
      obtain ⟨rfl, rfl⟩ := h1 rfl
      obtain ⟨v, vs, e, h3, h4⟩ := c1
      obtain rfl : vs = [] := h4
      have hu : u.cells = #[v] := by apply Array.ext'; simpa using e
      have huv : u = v := by
        cases u <;> simp [Value.cells] at hu <;> first | exact hu | skip
        rename_i ws
        subst hu
        cases x <;> first | (simp [VRel] at hx; done) | skip
        · simp only [AV.cells] at hc
          obtain rfl := hx
          simp [rawCell] at hc
        · simp only [AV.cells, AV.cells?, Option.some.injEq] at hc
          rename_i ds
          have := congrArg (fun l : List AV => SizeOf.sizeOf l) hc
          simp at this
          omega
        · cases hc
      subst huv
      rw [hu]
      exact ⟨u, [], rfl, c2 u (by rw [hu]; simp), h3, hl, rfl⟩
  have h2 := hI.setObj (w' := w.setRow b (us.toList.take off ++ u.cells.toList ++ us.toList.drop (off + n)).toArray) hg hb hone (fun us0 t0 e => by rw [hh] at e; cases e; rfl) (setRow_heap w b us _ ty (0, 0) hh) (cs' := os.take off ++ ((cs.map fun c => (c, bif ag then none else l)) ++ os.drop (off + n)))
    (by
      have := LRels.mono hs' (ιLe.refl ι) (fun _ _ x => x) ((hr.take off).app (hmid.app (hr.drop (off + n))))
      simpa using this)
  exact ⟨_, _, _, h2.exs fun v lab u'' x => x.elim .inl fun ⟨e1, e2, e3⟩ => .inr ⟨by rw [e1, e3]; exact ⟨#[], rfl, rfl⟩, by rw [e2]; trivial⟩⟩
end
end Go.Proofs.YtgeheffhdpeddaaDoor.VX

/- THE OPERATIONS, sixth part: slice literals and appends. Conditions: as each theorem states. -/
namespace Go.Proofs.YtgeheffhdpeddaaDoor.VX
open Go Go.RowKit

section
variable {P : Program} {st : Cells} {w w' : World} {ι : Inj} {T : Labs} {cf : FuncId → List AV → Option AV} {g : Key → Ent} {B : Base} {ex : Exs}

theorem pure_ofS (v : Value) : pureAV (ofS v) = true := by
  unfold ofS
  split
  · rename_i n
    cases (Nat.ble n.toNat 255 && decide (0 ≤ n)) <;> rfl
  all_goals rfl
theorem pures_ofS : ∀ (l : List Value), pureAV.pures (l.map ofS) = true
  | [] => rfl
  | v :: l => by simp only [List.map_cons, pureAV.pures, pure_ofS v, pures_ofS l, Bool.and_self]
theorem pure_ofV (v : Value) : pureAV (ofV v) = true := by
  cases v with
  | agg cs =>
    show pureAV (bif cs.toList.all rawCell then .agg (cs.toList.map ofS) else .raw (.agg cs)) = true
    cases cs.toList.all rawCell with
    | false => rfl
    | true => simp only [cond_true, pureAV]; exact pures_ofS _
  | tuple vs =>
    obtain ⟨l⟩ := vs
    cases l <;> rfl
  | _ => simp only [ofV]; exact pure_ofS _
theorem pures_cells {v : AV} {cs : List AV} (h : pureAV v = true) (hc : v.cells = some cs) : pureAV.pures cs = true := by
  cases v <;> simp only [AV.cells, AV.cells?, Option.some.injEq, reduceCtorEq, cond_eq_ite, Option.ite_none_right_eq_some] at hc <;> first
    | (subst hc; simp only [pureAV] at h; exact h)
    | (subst hc; simp only [pureAV.pures, h, Bool.and_self])
    | (obtain ⟨_, hc⟩ := hc; subst hc; simp only [pureAV.pures, pureAV, Bool.and_self])
theorem pures_app : ∀ {xs ys : List AV}, pureAV.pures (xs ++ ys) = (pureAV.pures xs && pureAV.pures ys)
  | [], ys => by simp [pureAV.pures]
  | x :: xs, ys => by simp only [List.cons_append, pureAV.pures, pures_app, Bool.and_assoc]
theorem pures_flat {sz : Nat} : ∀ {xs : List AV}, EachSz sz xs → (∀ x ∈ xs, pureAV x = true) → pureAV.pures (flatA xs) = true
  | [], _, _ => rfl
  | x :: xs, h, hp => by
    obtain ⟨cs, e, _⟩ := h x (by simp)
    simp only [flatA, e, Option.getD_some, pures_app, pures_cells (hp x (by simp)) e, pures_flat (xs := xs) (fun y hy => h y (List.mem_cons_of_mem _ hy)) (fun y hy => hp y (List.mem_cons_of_mem _ hy)), Bool.and_self]

/-- A new row whose first cells stay. -/
theorem newRow_grow (hI : Inv B ι T st g ex w) (hb : Below w.heap.size w w') {us : Array Value} {ty : TypeId} {fz : Nat × Nat} (hn : w'.heap[w.heap.size]? = some (.cells us ty fz)) {sz : Nat} {xs : List AV} {vs : List Value} (hs : EachSz sz xs)
    (hv : VRels st w nop (flatA xs) vs) (ho : ∀ v ∈ vs, v.oneCell' = true) (hl : ∀ (i : Nat) (v : Value), vs[i]? = some v → us[i]? = some v) {cap : Nat} (hc : xs.length ≤ cap) :
    ∃ st', Inv B ι T st' g ex w' ∧ VRel st' w' ι (.view sz xs) (.slice (some ⟨w.heap.size, 0, none⟩) xs.length cap) ∧ (∀ o, xs.length * sz ≤ o → ¬ st' w.heap.size o) ∧ (∀ b o, st' b o → st b o ∨ b = w.heap.size) := by
  have hlt : w.heap.size < w'.heap.size := lt_of_heap hn
  have hg := hI.grow hb (st' := fun b o => st b o ∨ (b = w.heap.size ∧ o < vs.length)) (fun _ _ x => .inl x) (fun b o x => x.elim .inl fun y => .inr (by omega)) (fun b o x => x.elim (fun y => by have := hI.lt b o y; omega) fun y => by omega)
  have hst : Stays st w (fun b o => st b o ∨ (b = w.heap.size ∧ o < vs.length)) w' := ⟨fun _ _ x => .inl x, (hI.stays hb).cell⟩
  have hvl : vs.length = xs.length * sz := by rw [hv.length, flatA_length hs]
  refine ⟨_, hg, ⟨_, cap, rfl, hc, .inr rfl, ?_⟩, fun o ho' x => ?_, fun b o x => x.elim .inl fun y => .inr y.1⟩
  · exact EsRel.mk hs (VRels.mono hst (ιLe.refl nop) _ _ hv) ho (LieAt.row hn fun i v e => by simpa using hl i v e) (fun i hi => .inr ⟨rfl, by simpa using hi⟩)
  · rcases x with x | ⟨_, x⟩
    · have := hI.lt _ _ x; omega
    · omega

theorem setAt_flat {sz : Nat} {v : AV} {cs : List AV} (hv : v.cells = some cs) (hl : cs.length = sz) : ∀ {xs : List AV} {i : Nat}, EachSz sz xs → i < xs.length →
    flatA (setAt xs i v) = (flatA xs).take (i * sz) ++ (cs ++ (flatA xs).drop (i * sz + sz)) ∧ EachSz sz (setAt xs i v) ∧ (setAt xs i v).length = xs.length
  | [], i, _, hi => by simp at hi
  | x :: xs, 0, h, _ => by
    obtain ⟨ds, e, hd⟩ := h x (by simp)
    refine ⟨?_, fun y hy => ?_, rfl⟩
    · simp only [setAt, flatA, hv, e, Option.getD_some, Nat.zero_mul, List.take_zero, List.nil_append, Nat.zero_add]
      rw [← hd, List.drop_left]
    · simp only [setAt, List.mem_cons] at hy
      rcases hy with rfl | hy
      · exact ⟨cs, hv, hl⟩
      · exact h y (by simp [hy])
  | x :: xs, i + 1, h, hi => by
    obtain ⟨ds, e, hd⟩ := h x (by simp)
    obtain ⟨k1, k2, k3⟩ := setAt_flat hv hl (xs := xs) (i := i) (fun y hy => h y (by simp [hy])) (by simpa using hi)
    refine ⟨?_, fun y hy => ?_, by simp [setAt, k3]⟩
    · simp only [setAt, flatA, e, Option.getD_some, k1]
      have e1 : (i + 1) * sz = ds.length + i * sz := by rw [Nat.succ_mul, hd, Nat.add_comm]
      rw [e1, List.take_length_add_append, Nat.add_assoc, List.drop_length_add_append, List.append_assoc]
    · simp only [setAt, List.mem_cons] at hy
      rcases hy with rfl | hy
      · exact ⟨ds, e, hd⟩
      · exact k2 y hy
theorem setAt_mem {v y : AV} : ∀ {xs : List AV} {i : Nat}, y ∈ setAt xs i v → y = v ∨ y ∈ xs
  | [], _, h => by simp [setAt] at h
  | x :: xs, 0, h => by simp [setAt] at h ⊢; rcases h with h | h <;> simp [h]
  | x :: xs, i + 1, h => by
    simp [setAt] at h ⊢
    rcases h with h | h
    · simp [h]
    · rcases setAt_mem h with h | h <;> simp [h]

theorem fillE_flat {sz n : Nat} {a : Bool} : ∀ {ps : List (Nat × AV)} {xs ys : List AV}, fillE sz a n xs ps = some ys → EachSz sz xs → xs.length = n → (∀ x ∈ xs, pureAV x = true) →
    fillA (fun i => some (i * sz, sz)) (flatA xs) ps = some (flatA ys) ∧ EachSz sz ys ∧ ys.length = n ∧ (∀ y ∈ ys, pureAV y = true)
  | [], xs, ys, h, h1, h2, h3 => by cases h; exact ⟨rfl, h1, h2, h3⟩
  | (i, v) :: ps, xs, ys, h, h1, h2, h3 => by
    unfold fillE at h
    split at h
    · rename_i cs hcs hp
      cases hb : (Nat.beq cs.length sz && Nat.blt i n) with
      | false => rw [hb] at h; cases h
      | true =>
        rw [hb] at h
        simp only [cond_true] at h
        rw [Bool.and_eq_true] at hb
        have hb1 := Nat.eq_of_beq_eq_true hb.1
        have hb2 : i < n := Nat.le_of_ble_eq_true hb.2
        have hpv : pureAV v = true := (Bool.and_eq_true _ _ ▸ hp).2
        obtain ⟨k1, k2, k3⟩ := setAt_flat hcs hb1 h1 (by rw [h2]; exact hb2)
        obtain ⟨j1, j2, j3, j4⟩ := fillE_flat h k2 (by rw [k3, h2]) (fun y hy => (setAt_mem hy).elim (fun e => e ▸ hpv) (h3 y))
        refine ⟨?_, j2, j3, j4⟩
        unfold fillA
        simp only [hcs]
        have hfl := flatA_length h1
        have hle : i * sz + sz ≤ (flatA xs).length := by
          rw [hfl, h2, ← Nat.succ_mul]; exact Nat.mul_le_mul_right _ hb2
        have e1 : Nat.beq cs.length sz = true := hb.1
        have e2 : Nat.ble (i * sz + sz) (flatA xs).length = true := Nat.ble_eq_true_of_le hle
        rw [e1, e2]
        simp only [Bool.and_self, cond_true]
        rw [← k1]; exact j1
    · cases h

/-- Copies of a zero value, cell by cell. -/
theorem zeros_rel {z : Value} {zc : List AV} (hz : VRels st w ι zc z.cells.toList) {s : Nat} (hs : z.cells.size = s) (h0 : 1 ≤ s) : ∀ (n : Nat), VRels st w ι ((List.replicate n zc).flatten) (((Array.range (n * s)).map (z.cells[· % z.cells.size]!)).toList) ∧
    ∀ u ∈ (((Array.range (n * s)).map (z.cells[· % z.cells.size]!)).toList), u ∈ z.cells.toList := by
  intro n
  have key : ∀ n, ((Array.range (n * s)).map (z.cells[· % z.cells.size]!)).toList = (List.replicate n z.cells.toList).flatten := by
    intro n
    induction n with
    | zero => simp
    | succ n ih =>
      rw [List.replicate_succ, List.flatten_cons, ← ih]
      apply List.ext_getElem?
      intro k
      simp only [Array.toList_map, Array.toList_range, List.getElem?_map]
      by_cases hk : k < s
      · rw [List.getElem?_append_left (by simp; omega), List.getElem?_range (by rw [Nat.succ_mul]; omega)]
        have hk' : k < z.cells.size := by omega
        simp only [hs, Nat.mod_eq_of_lt hk, Option.map_some, Array.getElem?_toList]
        rw [getElem!_pos z.cells k hk', getElem?_pos z.cells k hk']
      · rw [List.getElem?_append_right (by simp; omega)]
        simp only [Array.length_toList, hs, List.getElem?_map]
        by_cases hk2 : k < (n + 1) * s
        · rw [List.getElem?_range hk2, List.getElem?_range (by rw [Nat.succ_mul] at hk2; omega)]
          simp only [Option.map_some]
          congr 2
          rw [Nat.mod_eq_sub_mod (by omega)]
        · rw [List.getElem?_eq_none (by simp; omega), List.getElem?_eq_none (by rw [Nat.succ_mul] at hk2; simp; omega)]
  rw [key]
  constructor
  · clear key
    induction n with
    | zero => exact rfl
    | succ n ih => simp only [List.replicate_succ, List.flatten_cons]; exact hz.app ih
  · intro u hu
    simp only [List.mem_flatten, List.mem_replicate] at hu
    obtain ⟨l, ⟨_, rfl⟩, hu⟩ := hu
    exact hu

theorem flat_replicate {z : AV} {zc : List AV} (hz : z.cells = some zc) : ∀ (n : Nat), flatA (List.replicate n z) = (List.replicate n zc).flatten
  | 0 => rfl
  | n + 1 => by simp only [List.replicate_succ, flatA, hz, Option.getD_some, List.flatten_cons, flat_replicate hz n]

/-- A slice literal. -/
theorem buildSlice_ok (hI : Inv B ι T st g ex w) {t e : TypeId} {n s : Nat} {a : Bool} {z : AV} {zc xs : List AV} {ps : List (Nat × AV)} {qs : Array (Nat × Value)} (hu : P.underlying t = some (.slice e)) (hsz : szOf P e = some s) (hz : zeroOf P e = some z) (hzc : z.cells = some zc)
    (h24 : n * s ≤ 2 ^ 24) (h1 : 1 ≤ s) (hzl : zc.length = s) (hp : PRels st w ι ps qs.toList) (h : fillE s a n (List.replicate n z) ps = some xs) :
    Does P (do pure (.value (← Instr.buildSlice t n qs))) w (Post B g ex { val := .view s xs, lab := some 0 }) := by
  unfold szOf at hsz
  unfold zeroOf at hz
  cases hi : P.info? e with
  | none => rw [hi] at hsz; cases hsz
  | some inf =>
    rw [hi] at hsz hz
    simp only [Option.map_some, Option.some.injEq] at hsz
    simp only [Option.bind_some] at hz
    cases hzv : inf.zero with
    | none => rw [hzv] at hz; cases hz
    | some zv =>
      rw [hzv] at hz
      simp only [Option.map_some, Option.some.injEq] at hz
      subst hz
      obtain ⟨c1, c2, c3⟩ := cells_rel (ofV_rel (st := st) (w := w) (ι := ι) zv) hzc
      have hzsz : zv.cells.size = s := by rw [c3, hzl]
      obtain ⟨r1, r2⟩ := zeros_rel (st := st) (w := w) (ι := ι) c1 hzsz h1 n
      obtain ⟨f1, f2, f3, f4⟩ := fillE_flat h (fun x hx => ⟨zc, by rw [List.eq_of_mem_replicate hx]; exact hzc, hzl⟩) (by simp) (fun x hx => by rw [List.eq_of_mem_replicate hx]; exact pure_ofV zv)
      rw [flat_replicate hzc] at f1
      obtain ⟨us, g1, g2, g3⟩ := fillA_run (us := (Array.range (n * s)).map (zv.cells[· % zv.cells.size]!)) hp r1 (fun u hu => c2 u (r2 u hu)) f1
      have hrun : (Instr.buildSlice t n qs).run P w = .ok (.slice (some ⟨w.heap.size, 0, none⟩) n n) (w.alloc (.cells us e)) := by
        by_cases hn : n = 0
        · subst hn
          simp only [Nat.zero_mul] at g1
          simp [Instr.buildSlice, run_underlying hu, sizeOf, typeInfo, zeroValue, hi, hsz, newRow]
          have e0 : ∀ f : Nat → Value, Array.map f (Array.range 0) = #[] := fun f => by simp
          rw [e0] at g1 ⊢
          rw [g1]
          simp [World.alloc, -World.alloc_eq]
        · exact run_buildSlice w t e n qs us inf zv hu hi hzv (by rw [hsz]; omega) (by rw [hsz]; exact Nat.mul_ne_zero hn (by omega)) (by rw [hsz]; exact g1)
      have hb := below_alloc1 w (.cells us e)
      have hnp : VRels st w nop (flatA xs) us.toList := VRels.pure _ _ (pures_flat f2 f4) g2
      obtain ⟨st', k1, k2, _, _⟩ := newRow_grow hI hb (heap_alloc_new w _) f2 hnp g3 (fun i v e => by simpa using e) (cap := n) (by omega)
      rw [f3] at k2
      exact Does.sem hrun ⟨_, _, _, k1.exs fun v lab u x => x.elim .inl fun ⟨e1, e2, e3⟩ => .inr ⟨by rw [e1, e3]; exact k2, by rw [e1, e2, e3]; exact ⟨s, xs, rfl, _, _, rfl⟩⟩⟩
end
end Go.Proofs.YtgeheffhdpeddaaDoor.VX

/- THE OPERATIONS, seventh part: append. Conditions: as each theorem states. -/
namespace Go.Proofs.YtgeheffhdpeddaaDoor.VX
open Go Go.RowKit

section
variable {P : Program} {st : Cells} {w w' : World} {ι : Inj} {T : Labs} {cf : FuncId → List AV → Option AV} {g : Key → Ent} {B : Base} {ex : Exs}

theorem u8s_byteCells (s : List UInt8) : byteCells ⟨s.toArray⟩ = s.map fun b => Value.int .u8 b.toNat := by simp [byteCells]

/-- What is appended, as the machine finds it. -/
theorem moreA_run {sz : Nat} {x : AV} {u : Value} {tx : TypeId} {ys : List AV} (hx : VRel st w ι x u) (hk : listArg P tx = true) (h : moreA sz (Nat.beq sz 1) x = some ys) :
    ∃ vs, Src P sz tx u ys.length vs w ∧ EachSz sz ys ∧ VRels st w nop (flatA ys) vs := by
  have hk' : (∃ e', P.underlying tx = some (.slice e')) ∨ P.underlying tx = some .string := by
    unfold listArg at hk
    split at hk
    · rename_i e he; exact .inl ⟨e, he⟩
    · rename_i he; exact .inr he
    · cases hk
  unfold moreA at h
  split at h
  · rename_i n zs
    cases hb : Nat.beq n sz with
    | false => rw [hb] at h; cases h
    | true =>
      rw [hb] at h; cases h
      obtain rfl := Nat.eq_of_beq_eq_true hb
      obtain ⟨a, cap, rfl, hc, hm⟩ := hx
      cases a with
      | none =>
        have hm : ys = [] := hm
        subst hm
        exact ⟨[], ⟨hk', fun _ => rfl, run_firstCells_none w n 0 0 cap, run_firstCells_none w.drew n 0 0 cap, by simp, by simp⟩, by intro x hx; simp at hx, rfl⟩
      | some ad =>
        obtain ⟨hsp, hE⟩ := hm
        obtain ⟨bl, of_, sp⟩ := ad
        obtain ⟨k0, us, k1, k2, k3, k4⟩ := hE.vals
        have hl : us.length = ys.length * n := by rw [k1.length, flatA_length k0]
        have hcell := spot_cells hsp hc hl k3
        exact ⟨us, ⟨hk', fun _ => rfl, run_firstCells_some w n _ _ _ _ us hl hcell, run_firstCells_some w.drew n _ _ _ _ us hl (by simpa using hcell), hl, k2⟩, k0, k1⟩
  · cases h
    obtain rfl := hx
    exact ⟨[], ⟨hk', fun _ => rfl, run_firstCells_none w sz 0 0 0, run_firstCells_none w.drew sz 0 0 0, by simp, by simp⟩, by intro x hx; simp at hx, rfl⟩
  · rename_i s
    cases hb : Nat.beq sz 1 with
    | false => rw [hb] at h; cases h
    | true =>
      rw [hb] at h; cases h
      obtain rfl := Nat.eq_of_beq_eq_true hb
      obtain rfl := hx
      have hss : (⟨s.toArray⟩ : ByteArray).size = s.length := by show s.toArray.size = _; simp
      have f1 := firstCells_string (P := P) ⟨s.toArray⟩ w
      have f2 := firstCells_string (P := P) ⟨s.toArray⟩ w.drew
      rw [hss] at f1 f2
      refine ⟨byteCells ⟨s.toArray⟩, ⟨hk', fun _ => ?_, ?_, ?_, ?_, ?_⟩, u8s_each s, ?_⟩
      · simp [Builtin.lenOf, hss]
      · rw [List.length_map]; exact f1
      · rw [List.length_map]; exact f2
      · rw [u8s_byteCells]; simp
      · rw [u8s_byteCells]; intro y hy; obtain ⟨_, _, rfl⟩ := List.mem_map.mp hy; rfl
      · rw [u8s_flat, u8s_byteCells]; exact u8s_vals s
  · cases h

/-- What is appended to, as the machine finds it. -/
theorem baseA_run {sz : Nat} {v : AV} {lab : Option Nat} {u : Value} {xs : List AV} {l : Nat} (hv : VRel st w ι v u) (hl : LabRel T lab v u) (h : baseA sz (v, lab) = some (xs, l)) :
    ∃ a cap, u = .slice a xs.length cap ∧ xs.length ≤ cap ∧ (match a with | none => xs = [] | some ad => (cap = 0 ∨ ad.spot = none) ∧ EsRel st w sz xs ad.block ad.off) ∧ (l = 0 → cap = xs.length) ∧ (∀ k, l = k + 1 → T (k + 1) = some (u, sz)) := by
  unfold baseA at h
  split at h
  · rename_i n ys lb heq
    cases heq
    cases hb : Nat.beq n sz with
    | false => rw [hb] at h; cases h
    | true =>
      rw [hb] at h; cases h
      obtain rfl := Nat.eq_of_beq_eq_true hb
      obtain ⟨a, cap, rfl, hc, hm⟩ := hv
      refine ⟨a, cap, rfl, hc, hm, fun e => ?_, fun k e => ?_⟩
      · subst e
        obtain ⟨s', x', _, a', n', e'⟩ := hl
        injection e' with e1 e2 e3; omega
      · subst e
        obtain ⟨s', x', e1, e2⟩ := hl
        cases e1; exact e2
  · rename_i lb heq
    cases heq
    cases h
    obtain rfl := hv
    exact ⟨none, 0, rfl, Nat.le_refl _, rfl, fun _ => rfl, fun k e => by cases e⟩
  · cases h

theorem setCells_setRow {b o : Nat} {vs : List Value} {cur : Array Value} {ty : TypeId} (hg : w.heap[b]? = some (.cells cur ty (0, 0))) (hle : o + vs.length ≤ cur.size) (h1 : ∀ v ∈ vs, v.oneCell' = true) :
    w.setCells b o vs = w.setRow b (cur.toList.take o ++ vs ++ cur.toList.drop (o + vs.length)).toArray := by
  have e1 := run_storeCells_at default b o ty vs 0 cur w hg (by simpa using hle) h1
  have hcell : ∀ j, j < vs.length → (w.cell? ⟨b, o + 0 + j, none⟩).isSome = true := fun j hj => by
    rw [cell_of_row w b _ cur ty (0, 0) hg, Array.getElem?_eq_getElem (by omega)]; rfl
  have hfro : ∀ j, j < vs.length → w.frozen? ⟨b, o + 0 + j, none⟩ = false := fun j hj => by simp [World.frozen?, hg]
  have e2 := run_storeCells_cells (P := default) b o vs 0 w hcell hfro h1
  rw [e1] at e2
  simpa using (Result.ok.inj e2).2.symm

/-- The old label dies (if there is one), a new one is laid. -/
theorem relabel (hI : Inv B ι T st g ex w) {fresh l sz : Nat} {u : Value} {ws : List (Key × Ent)} (hf : g (.l fresh) = .none) (hws : (l = 0 ∧ ws = []) ∨ (∃ k, l = k + 1 ∧ (∃ b, g (.l (k + 1)) = .flag b) ∧ ws = [(.l (k + 1), .flag false)]))
    (ho : Own B.old ι st w u sz) (h1 : ∀ i x b, (∀ k, l = k + 1 → i ≠ k + 1) → g (.l i) = .flag true → T i = some x → Spare x.1 b → ¬ Spare u b) :
    Inv B ι (setT T fresh (u, sz)) st (ovr ((.l fresh, .flag true) :: ws) g) ex w ∧ ∀ i x, T i = some x → setT T fresh (u, sz) i = some x := by
  have hle := setT_le (T := T) (u, sz) (hI.no_T (l := fresh) (fun b e => by rw [hf] at e; cases e))
  refine ⟨?_, hle⟩
  rcases hws with ⟨rfl, rfl⟩ | ⟨k, rfl, ⟨b0, hb0⟩, rfl⟩
  · exact hI.newLab (fun b e => by rw [hf] at e; cases e) ho (fun i x b e e' s => h1 i x b (fun k hk => by cases hk) e e' s)
  · have hne : fresh ≠ k + 1 := fun e => by rw [e, hb0] at hf; cases hf
    have hk := hI.kill (l := k + 1) ⟨b0, hb0⟩
    refine hk.newLab (fun b e => ?_) ho (fun i x b e e' s => ?_)
    · rw [setK_ne _ _ (by simpa using hne.symm), hf] at e; cases e
    · by_cases hik : i = k + 1
      · subst hik; rw [setK_same] at e; cases e
      · rw [setK_ne _ _ (by simpa using Ne.symm hik)] at e
        exact h1 i x b (fun k' hk' => by cases hk'; exact hik) e e' s

/-- APPEND. -/
theorem append_ok (hI : Inv B ι T st g ex w) {sT xT e ty : TypeId} {inf : TypeInfo} {zc : List AV} {fresh : Nat} {v x : AV} {lab : Option Nat} {u u' : Value} {xs ys : List AV} {l : Nat} {ws : List (Key × Ent)}
    (hu : P.underlying sT = some (.slice e)) (hi : P.info? e = some inf) (hz : (zeroOf P e).bind (·.cells) = some zc) (hzl : zc.length = inf.size) (h1 : 1 ≤ inf.size) (hk : listArg P xT = true)
    (hv : VRel st w ι v u) (hl : LabRel T lab v u) (hx : VRel st w ι x u') (hxs : baseA inf.size (v, lab) = some (xs, l)) (hys : moreA inf.size (Nat.beq inf.size 1) x = some ys)
    (hr : roomA (xs.length + ys.length) inf.bytes = true) (hf0 : 1 ≤ fresh) (hf : g (.l fresh) = .none) (hws : (l = 0 ∧ ws = []) ∨ (∃ k, l = k + 1 ∧ g (.l (k + 1)) = .flag true ∧ ws = [(.l (k + 1), .flag false)])) :
    Does P (do pure (.value (← Builtin.append_ #[sT, xT] ty #[u, u']))) w (Post B g ex { val := .view inf.size (xs ++ ys), lab := some fresh, ws := (.l fresh, .flag true) :: ws }) := by
  obtain ⟨a, cap, rfl, hc, hm, hl0, hl1⟩ := baseA_run hv hl hxs
  obtain ⟨vs, hsrc, hEy, hVy⟩ := moreA_run hx hk hys
  have hroom : xs.length + ys.length ≤ 2 ^ 39 ∧ inf.bytes ≤ 128 := by
    unfold roomA at hr
    rw [Bool.and_eq_true] at hr
    exact ⟨Nat.le_of_ble_eq_true hr.1, Nat.le_of_ble_eq_true hr.2⟩
  -- the zero value
  obtain ⟨zv, hzv, hzs⟩ : ∃ zv, inf.zero = some zv ∧ zv.cells.size = inf.size := by
    unfold zeroOf at hz
    rw [hi] at hz
    simp only [Option.bind_some] at hz
    cases hzv : inf.zero with
    | none => rw [hzv] at hz; cases hz
    | some zv =>
      rw [hzv] at hz
      simp only [Option.map_some, Option.bind_some] at hz
      exact ⟨zv, rfl, by rw [(cells_rel (ofV_rel (st := st) (w := w) (ι := ι) zv) hz).2.2, hzl]⟩
  have hws' : (l = 0 ∧ ws = []) ∨ (∃ k, l = k + 1 ∧ (∃ b, g (.l (k + 1)) = .flag b) ∧ ws = [(.l (k + 1), .flag false)]) :=
    hws.imp id fun ⟨k, e1, e2, e3⟩ => ⟨k, e1, ⟨true, e2⟩, e3⟩
  have labnew : ∀ {T' : Labs} {l' sz : Nat} {u : Value} {xs : List AV}, l' ≠ 0 → T' l' = some (u, sz) → LabRel T' (some l') (.view sz xs) u := by
    intro T' l' sz u xs h0 h
    cases l' with
    | zero => exact absurd rfl h0
    | succ k => exact ⟨sz, xs, rfl, h⟩
  by_cases hfit : xs.length + ys.length ≤ cap
  · -- in place
    by_cases hy0 : ys.length = 0
    · -- nothing is appended
      obtain rfl : ys = [] := List.eq_nil_of_length_eq_zero hy0
      obtain rfl : vs = [] := hVy
      have hrun := run_append_nothing w sT xT ty e inf hu hi a xs.length cap hc u' hsrc
      have ho : Own B.old ι st w (.slice a xs.length cap) inf.size := by
        rcases hws with ⟨rfl, _⟩ | ⟨k, rfl, hk, _⟩
        · exact ⟨a, _, cap, rfl, hc, fun h => by have := hl0 rfl; omega⟩
        · obtain ⟨u0, sz0, e0, ho⟩ := hI.lab _ hk
          rw [hl1 k rfl] at e0; cases e0; exact ho
      obtain ⟨k1, k2⟩ := relabel hI hf hws' ho (fun i x b hne e e' s s' => by
        rcases hws with ⟨rfl, _⟩ | ⟨k, rfl, hk, _⟩
        · obtain ⟨o, n, c, es, hlt⟩ := s'
          injection es with ea en ec
          have := hl0 rfl; omega
        · exact hne k rfl (hI.one i (k + 1) x _ b e hk e' (hl1 k rfl) s s'))
      refine Does.sem hrun ⟨_, _, _, k1.exs fun v lab u x => x.elim .inl fun ⟨e1, e2, e3⟩ => .inr ⟨?_, ?_⟩⟩
      · rw [e1, e3, List.append_nil]; exact ⟨a, cap, rfl, hc, hm⟩
      · rw [e1, e2, e3, List.append_nil]
        exact labnew (by omega) (setT_same _ _ _)
    · -- behind what is there
      obtain ⟨k, rfl, hk2, rfl⟩ : ∃ k, l = k + 1 ∧ g (.l (k + 1)) = .flag true ∧ ws = [(.l (k + 1), .flag false)] := by
        rcases hws with ⟨rfl, _⟩ | h
        · have := hl0 rfl; omega
        · exact h
      have hT := hl1 k rfl
      obtain ⟨u0, sz0, e0, a0, n0, cap0, eu, hc0, hr0⟩ := hI.lab _ hk2
      rw [hT] at e0; cases e0
      injection eu with ea en ec; subst ea; subst en; subst ec
      have hlt : xs.length < cap := by clear hws' hr0; omega
      clear hws'
      obtain ⟨b, o, us, ty0, rfl, hh, hw0, hi0, ho0, hs0⟩ := hr0 hlt
      have hvl : vs.length = ys.length * inf.size := hsrc.newsLen
      have hle : o + xs.length * inf.size + vs.length ≤ us.size := by
        have := Nat.mul_le_mul_right inf.size hfit
        rw [Nat.add_mul] at this; omega
      have hrun := run_append_room_src w sT xT ty e inf hu hi b o xs.length cap u' ys.length vs hsrc hfit
        (fun j hj => by rw [cell_of_row w b _ us ty0 (0, 0) hh, Array.getElem?_eq_getElem (by omega)]; rfl) (fun j hj => by simp [World.frozen?, hh])
      rw [setCells_setRow hh hle hsrc.one] at hrun
      generalize hcs : (us.toList.take (o + xs.length * inf.size) ++ vs ++ us.toList.drop (o + xs.length * inf.size + vs.length)).toArray = cs at hrun
      have hcsz : cs.size = us.size := by rw [← hcs]; simp; omega
      have hcold : ∀ i, i < o + xs.length * inf.size → cs[i]? = us[i]? := fun i hi' => by
        rw [← hcs, List.getElem?_toArray, List.append_assoc, List.getElem?_append_left (by simp; omega), List.getElem?_take_of_lt hi']; simp
      have hcnew : ∀ (i : Nat) (v : Value), vs[i]? = some v → cs[o + xs.length * inf.size + i]? = some v := fun i v hv' => by
        obtain ⟨hlt', _⟩ := List.getElem?_eq_some_iff.mp hv'
        rw [← hcs, List.getElem?_toArray, List.append_assoc, List.getElem?_append_right (by simp; omega), List.getElem?_append_left (by simp; omega)]
        rw [← hv']; congr 1; simp; omega
      have hone := only_setRow w b cs
      have hh' := setRow_heap w b us cs ty0 (0, 0) hh
      have hP := hI.putOwn (w' := w.setRow b cs) (m := ys.length) hk2 hT hlt hone hh hh' hcsz hcold
      have hf' : setK g (.l (k + 1)) (.flag false) (.l fresh) = .none := by
        rw [setK_ne _ _ (by intro e; cases e; rw [hk2] at hf; cases hf)]; exact hf
      have hO : Own B.old ι (fun k j => st k j ∨ (k = b ∧ o + xs.length * inf.size ≤ j ∧ j < o + (xs.length + ys.length) * inf.size)) (w.setRow b cs) (.slice (some ⟨b, o, none⟩) (xs.length + ys.length) cap) inf.size :=
        ⟨_, _, cap, rfl, hfit, fun _ => ⟨b, o, cs, ty0, rfl, hh', hw0, hi0, by rw [hcsz]; exact ho0, fun j hj x => by
          have hle2 := Nat.mul_le_mul_right inf.size (Nat.le_add_right xs.length ys.length)
          rcases x with x | ⟨_, _, x⟩
          · exact hs0 j (by omega) x
          · omega⟩⟩
      obtain ⟨k1, k2⟩ := relabel (l := 0) (ws := []) hP hf' (.inl ⟨rfl, rfl⟩) hO (fun i x b' _ e e' s s' => by
        obtain ⟨o1, n1, c1, es, hlt1⟩ := s'
        injection es with ea en ec
        cases ea
        by_cases hik : i = k + 1
        · subst hik; rw [setK_same] at e; cases e
        · rw [setK_ne _ _ (by simpa using Ne.symm hik)] at e
          exact hik (hI.one i (k + 1) x _ b e hk2 e' hT s ⟨o, _, cap, rfl, hlt⟩))
      have hval : VRel (fun k j => st k j ∨ (k = b ∧ o + xs.length * inf.size ≤ j ∧ j < o + (xs.length + ys.length) * inf.size)) (w.setRow b cs) ι (.view inf.size (xs ++ ys)) (.slice (some ⟨b, o, none⟩) (xs.length + ys.length) cap) := by
        refine ⟨some ⟨b, o, none⟩, cap, by rw [List.length_append], by rw [List.length_append]; exact hfit, .inr rfl, ?_⟩
        rw [EsRel.app]
        constructor
        · have hst : Stays st w (fun k j => st k j ∨ (k = b ∧ o + xs.length * inf.size ≤ j ∧ j < o + (xs.length + ys.length) * inf.size)) (w.setRow b cs) := ⟨fun _ _ x => .inl x, fun k' j x => by
            by_cases hkb : k' = b
            · subst hkb
              have hj : j < o + xs.length * inf.size := Nat.lt_of_not_le fun hle => hs0 j hle x
              rw [cell_of_row w k' j us ty0 (0, 0) hh, cell_of_row _ k' j cs ty0 (0, 0) hh', hcold j hj]
            · exact hone.cell hkb⟩
          exact EsRel.mono hst xs _ _ hm.2
        · have hst : Stays st w (fun k j => st k j ∨ (k = b ∧ o + xs.length * inf.size ≤ j ∧ j < o + (xs.length + ys.length) * inf.size)) (w.setRow b cs) := ⟨fun _ _ x => .inl x, fun k' j x => by
            by_cases hkb : k' = b
            · subst hkb
              have hj : j < o + xs.length * inf.size := Nat.lt_of_not_le fun hle => hs0 j hle x
              rw [cell_of_row w k' j us ty0 (0, 0) hh, cell_of_row _ k' j cs ty0 (0, 0) hh', hcold j hj]
            · exact hone.cell hkb⟩
          exact EsRel.mk hEy (VRels.mono hst (ιLe.refl nop) _ _ hVy) hsrc.one (LieAt.row hh' hcnew) (fun i hi' => .inr (by
            show b = b ∧ o + xs.length * inf.size ≤ o + xs.length * inf.size + i ∧ o + xs.length * inf.size + i < o + (xs.length + ys.length) * inf.size
            have e9 : (xs.length + ys.length) * inf.size = xs.length * inf.size + ys.length * inf.size := Nat.add_mul _ _ _
            exact ⟨rfl, Nat.le_add_right _ _, by rw [e9]; omega⟩))
      refine Does.sem hrun ⟨_, _, _, k1.exs fun v lab u x => x.elim .inl fun ⟨e1, e2, e3⟩ => .inr ⟨by rw [e1, e3]; exact hval, ?_⟩⟩
      rw [e1, e2, e3]
      exact labnew (by omega) (setT_same _ _ _)
  · -- a new row
    obtain ⟨olds, o1, o2, o3, o4⟩ : ∃ olds, VRels st w nop (flatA xs) olds ∧ (∀ v ∈ olds, v.oneCell' = true) ∧ EachSz inf.size xs ∧ (Builtin.firstCells inf.size xs.length (.slice a xs.length cap)).run P w.drew = .ok olds.toArray w.drew := by
      cases a with
      | none =>
        have hm : xs = [] := hm
        subst hm
        exact ⟨[], rfl, by simp, by intro x hx; simp at hx, run_firstCells_none w.drew inf.size _ _ cap⟩
      | some ad =>
        obtain ⟨hsp, hE⟩ := hm
        obtain ⟨bl, of_, sp⟩ := ad
        obtain ⟨k0, us, k1, k2, k3, k4⟩ := hE.vals
        have hl' : us.length = xs.length * inf.size := by rw [k1.length, flatA_length k0]
        have hcell := spot_cells hsp hc hl' k3
        exact ⟨us, k1, k2, k0, run_firstCells_some w.drew _ _ _ _ _ us hl' (by simpa using hcell)⟩
    have hbytes : (xs.length + ys.length) * inf.bytes ≤ 140737488355328 := by
      have := Nat.mul_le_mul hroom.1 hroom.2
      have e : (2 : Nat) ^ 39 * 128 = 70368744177664 := by decide
      omega
    have hrun := run_append_grow_src w sT xT ty e inf zv hu hi hzv a xs.length cap olds o4 u' ys.length vs hsrc (by omega) (by have := hroom.1; have e : (2 : Nat) ^ 39 = 549755813888 := (by decide); omega) (growslice_fits (by omega) hbytes)
    generalize hncap : grownCap w (xs.length + ys.length) cap e = ncap at hrun
    have hge : xs.length + ys.length ≤ ncap := by rw [← hncap]; exact grownCap_ge w _ _ _
    generalize hus : (olds ++ vs).toArray ++ Builtin.zeroCells zv.cells (ncap - (xs.length + ys.length)) = us at hrun
    have hb : Below w.heap.size w (w.drew.alloc (.cells us e (0, 0))) := (Below.refl _ _).drew.alloc (by simp) _
    have hnew : (w.drew.alloc (.cells us e (0, 0))).heap[w.heap.size]? = some (.cells us e (0, 0)) := by
      have := heap_alloc_new w.drew (.cells us e (0, 0))
      simpa using this
    have hEach : EachSz inf.size (xs ++ ys) := fun x hx => (List.mem_append.mp hx).elim (o3 x) (hEy x)
    obtain ⟨st', k1, k2, k3, k4⟩ := newRow_grow hI hb hnew hEach (by rw [flatA_app]; exact o1.app hVy) (fun v hv => (List.mem_append.mp hv).elim (o2 v) (hsrc.one v))
      (fun i v hv => by
        rw [← hus, Array.getElem?_append_left (by simpa using (List.getElem?_eq_some_iff.mp hv).1)]
        simpa using hv) (cap := ncap) (by simpa using hge)
    rw [List.length_append] at k2 k3
    have hussz : ncap * inf.size ≤ us.size := by
      rw [← hus]
      have e1 : olds.length = xs.length * inf.size := by rw [o1.length, flatA_length o3]
      have e2 := hsrc.newsLen
      simp only [Array.size_append, List.size_toArray, List.length_append, size_zeroCells, hzs, e1, e2]
      rw [← Nat.add_mul, ← Nat.add_mul]
      exact Nat.mul_le_mul_right _ (by omega)
    have hno : ∀ i, ι i ≠ some w.heap.size := fun i e => Nat.lt_irrefl _ (hI.dom i _ e).2
    have hO : Own B.old ι st' (w.drew.alloc (.cells us e (0, 0))) (.slice (some ⟨w.heap.size, 0, none⟩) (xs.length + ys.length) ncap) inf.size :=
      ⟨_, _, ncap, rfl, hge, fun _ => ⟨_, 0, us, e, rfl, hnew, (fun x => absurd (Nat.lt_of_lt_of_le (hI.oldlt _ x) hI.below.size) (Nat.lt_irrefl _)), hno, by omega, fun o' ho' => k3 o' (by omega)⟩⟩
    obtain ⟨j1, j2⟩ := relabel k1 hf hws' hO (fun i x b _ e e' s s' => by
      obtain ⟨o1, n1, c1, es, hlt1⟩ := s'
      injection es with ea en ec
      cases ea
      obtain ⟨u1, sz1, e1, a1, n2, cap1, eu, hc1, hr1⟩ := hI.lab i e
      rw [e'] at e1; cases e1
      obtain ⟨o2, n3, c3, es3, hlt3⟩ := s
      simp only at es3
      rw [eu] at es3; injection es3 with ea3 en3 ec3
      subst en3; subst ec3
      obtain ⟨b4, o5, us5, ty5, ea5, hh5, _⟩ := hr1 hlt3
      rw [ea3] at ea5; cases ea5
      have := lt_of_heap hh5; omega)
    refine Does.sem hrun ⟨_, _, _, j1.exs fun v lab u x => x.elim .inl fun ⟨e1, e2, e3⟩ => .inr ⟨by rw [e1, e3]; exact k2, ?_⟩⟩
    rw [e1, e2, e3]
    exact labnew (by omega) (setT_same _ _ _)
end
end Go.Proofs.YtgeheffhdpeddaaDoor.VX

/- THE OPERATIONS, eighth part: one law for all of them. Conditions: as each theorem states. -/
namespace Go.Proofs.YtgeheffhdpeddaaDoor.VX
open Go Go.RowKit

/-- The global variables that are told hold what is told. -/
def GlobOK (G : Globs) (w : World) : Prop := ∀ i cs, G i = some cs → ∃ us ty fz, w.heap[i]? = some (.cells us ty fz) ∧ (∀ u ∈ us.toList, u.oneCell' = true) ∧ VRels (fun _ _ => False) w nop cs us.toList

section
variable {P : Program} {st : Cells} {w w' : World} {ι : Inj} {T : Labs} {cf : FuncId → List AV → Option AV} {g : Key → Ent} {B : Base} {ex : Exs} {G : Globs} {a : Act}

theorem GlobOK.below (h : GlobOK G w) (hb : Below w.heap.size w w') : GlobOK G w' := fun i cs e => by
  obtain ⟨us, ty, fz, h1, h2, h3⟩ := h i cs e
  exact ⟨us, ty, fz, (hb.block i (lt_of_heap h1)).trans h1, h2, VRels.mono ⟨fun _ _ x => x, fun _ _ x => x.elim⟩ (ιLe.refl nop) _ _ h3⟩
theorem partC_partA {t : TypeId} {cs : List AV} {off : Nat} : Rd.val cf g (partA P t (cs.map fun c => (c, none)) off) = Rd.val cf g (partC P t cs off) := by
  rw [partC_eq]
  unfold partA partC0
  split
  · simp [Rd.val, List.map_drop, List.map_take, Function.comp_def]
  · rw [List.getElem?_map]
    cases cs[off]? <;> rfl
  · rfl

theorem loadA_ok (hI : Inv B ι T st g ex w) (hG : GlobOK G w) {t : TypeId} {x : AV} {u : Value} {v : AV} {lab : Option Nat} (hx : VRel st w ι x u) (h : Rd.val cf g (loadA P G t x) = some (v, lab)) :
    ∃ r, (Instr.loadAt t u).run P w = .ok r w ∧ VRel st w ι v r ∧ LabRel T lab v r := by
  unfold loadA at h
  split at h
  · rename_i id off
    simp only [Rd.val] at h
    split at h
    · rename_i cs hg
      obtain ⟨b, ⟨hb, _⟩, rfl⟩ := hx
      obtain ⟨b', us, ty, e1, hh, hr, _⟩ := hI.obj id cs hg
      rw [hb] at e1; cases e1
      obtain ⟨r, h1, h2, h3⟩ := partA_ok hh hr h
      exact ⟨r, by simp [Instr.loadAt, Instr.sureAddr, h1], h2, h3⟩
    · cases h
  · rename_i cs off
    obtain ⟨b, o, rfl, hc⟩ := hx
    obtain ⟨rfl, r, h1, h2⟩ := partC_ok hc h
    exact ⟨r, by simp [Instr.loadAt, Instr.sureAddr, h1], VRel.mono (Stays.refl st w) (nop_le ι) _ _ h2, trivial⟩
  · rename_i i off
    obtain rfl := hx
    split at h
    · rename_i cs hcs
      obtain ⟨us, ty, fz, h1, h2, h3⟩ := hG i cs hcs
      have h3' : VRels st w ι cs us.toList := VRels.mono ⟨fun _ _ x => x.elim, fun _ _ x => x.elim⟩ (nop_le ι) _ _ h3
      rw [← partC_partA] at h
      obtain ⟨r, k1, k2, k3⟩ := partA_ok (T := T) h1 (LRels.plain h3' h2) h
      exact ⟨r, by simp [Instr.loadAt, Instr.sureAddr, k1], k2, k3⟩
    · cases h
  · cases h

theorem placesA_run : ∀ {fs : List Field} {l : List (Nat × Nat)}, placesA P fs = some l → fs.mapM (fun f => (P.info? f.type).map fun i => (f.offset, i.size)) = some l
  | [], _, h => by cases h; rfl
  | f :: fs, l, h => by
    simp only [placesA, szOf, Option.bind_eq_some_iff, Option.map_eq_some_iff] at h
    obtain ⟨n, ⟨i, h1, rfl⟩, l', h2, rfl⟩ := h
    simp [List.mapM_cons, h1, placesA_run h2]

theorem build_ok {t : TypeId} {z : List AV} {ps : List (Nat × AV)} {qs : Array (Nat × Value)} (hz : (zeroOf P t).bind (·.cells) = some z) (hq : PRels st w ι ps qs.toList) :
    (∀ {fs : Array Field} {places : List (Nat × Nat)} {cs : List AV}, P.underlying t = some (.struct fs) → placesA P fs.toList = some places → fillA (fun i => places[i]?) z ps = some cs → ∃ r, (Instr.build t qs).run P w = .ok r w ∧ VRel st w ι (.agg cs) r) ∧
    (∀ {n : Nat} {e : TypeId} {s : Nat} {cs : List AV}, P.underlying t = some (.array n e) → szOf P e = some s → fillA (fun i => some (i * s, s)) z ps = some cs → ∃ r, (Instr.build t qs).run P w = .ok r w ∧ VRel st w ι (.agg cs) r) := by
  unfold zeroOf at hz
  cases hi : P.info? t with
  | none => rw [hi] at hz; cases hz
  | some it =>
    rw [hi] at hz
    simp only [Option.bind_some] at hz
    cases hzv : it.zero with
    | none => rw [hzv] at hz; cases hz
    | some zv =>
      rw [hzv] at hz
      simp only [Option.map_some, Option.bind_some] at hz
      obtain ⟨c1, c2, c3⟩ := cells_rel (ofV_rel (st := st) (w := w) (ι := ι) zv) hz
      constructor
      · intro fs places cs hu hpl hf
        obtain ⟨us, g1, g2, g3⟩ := fillA_run (us := zv.cells) hq c1 c2 hf
        refine ⟨.agg us, run_build w t qs us ?_, us, rfl, g3, g2⟩
        unfold Program.built
        simp only [hi, hu, hzv, placesA_run hpl]
        have e : (fun i : Nat => places.toArray[i]?) = fun i : Nat => places[i]? := by funext i; simp
        rw [e]; exact g1
      · intro n e s cs hu hs hf
        obtain ⟨us, g1, g2, g3⟩ := fillA_run (us := zv.cells) hq c1 c2 hf
        refine ⟨.agg us, run_build w t qs us ?_, us, rfl, g3, g2⟩
        unfold szOf at hs
        cases hie : P.info? e with
        | none => rw [hie] at hs; cases hs
        | some ie =>
          rw [hie] at hs
          simp only [Option.map_some, Option.some.injEq] at hs
          unfold Program.built
          simp only [hi, hu, hzv, hie, hs]
          exact g1

theorem PRels_of (hI : Inv B ι T st g ex w) (ht : Tmps g a ex) {ps : Array (Nat × Operand)} {vs : List (Nat × AV)} (h : Rd.val cf g (evps ps.toList) = some vs) : PRels st w ι vs (ps.map fun (i, x) => (i, a.eval x)).toList := by
  have := evps_ok hI ht h
  simpa using this

theorem fieldOff_run {s : TypeId} {f off : Nat} {t : TypeId} (h : fieldOff P s f = some (off, t)) : ∃ fs : Array Field, ∃ fd, P.underlying s = some (.struct fs) ∧ fs[f]? = some fd ∧ fd.offset = off ∧ fd.type = t := by
  unfold fieldOff at h
  split at h
  · rename_i fs hu
    cases hf : fs[f]? with
    | none => rw [hf] at h; cases h
    | some fd => rw [hf] at h; cases h; exact ⟨fs, fd, hu, hf, rfl, rfl⟩
  · cases h

theorem Post.of_val (hI : Inv B ι T st g ex w) {v : AV} {u : Value} (h : VRel st w ι v u) : Post B g ex { val := v } u w := Post.val hI h trivial

/-- ONE OPERATION: what the executor tells is what the machine does. -/
theorem opA_ok (hI : Inv B ι T st g ex w) (ht : Tmps g a ex) (hG : GlobOK G w) {o : Oper} {fresh : Nat} {res : Res} (h : Rd.val cf g (opA P G o fresh) = some res) : Does P (execOp a.eval o) w (Post B g ex res) := by
  obtain ⟨dst, op, type, pos, after, guard⟩ := o
  cases op
  case move x =>
    simp only [opA, Rd.val_bind', Rd.val_pure, Option.bind_eq_some_iff, Option.some.injEq, Prod.exists] at h
    obtain ⟨v, l, h1, rfl⟩ := h
    obtain ⟨k1, k2⟩ := ev_ok hI ht h1
    exact Does.val (by simp [execOp]) (Post.val hI k1 k2)
  case assign x =>
    simp only [opA, Rd.val_bind', Rd.val_pure, Option.bind_eq_some_iff, Option.some.injEq, Prod.exists] at h
    obtain ⟨v, l, h1, rfl⟩ := h
    obtain ⟨k1, k2⟩ := ev_ok hI ht h1
    exact Does.val (by simp [execOp]) (Post.val hI k1 k2)
  case pick c x y =>
    simp only [opA, Rd.val_bind', Option.bind_eq_some_iff, Prod.exists] at h
    obtain ⟨v, l, h1, h⟩ := h
    split at h
    · rename_i b
      simp only [Rd.val, Rd.val_bind', Rd.val_pure] at h
      have hb : a.eval c = .bool b := (ev_ok hI ht h1).1
      cases b
      · simp only [cond_false, Option.bind_eq_some_iff, Option.some.injEq, Prod.exists] at h
        obtain ⟨v, l, h1, rfl⟩ := h
        obtain ⟨k1, k2⟩ := ev_ok hI ht h1
        exact Does.val (by simp [execOp, hb, asBool]) (Post.val hI k1 k2)
      · simp only [cond_true, Option.bind_eq_some_iff, Option.some.injEq, Prod.exists] at h
        obtain ⟨v, l, h1, rfl⟩ := h
        obtain ⟨k1, k2⟩ := ev_ok hI ht h1
        exact Does.val (by simp [execOp, hb, asBool]) (Post.val hI k1 k2)
    · cases h
  case alloc t =>
    simp only [opA, Rd.val_bind', Option.bind_eq_some_iff, Rd.val_need] at h
    obtain ⟨cs, h1, h⟩ := h
    obtain ⟨z, hz, hc⟩ := h1
    unfold zeroOf at hz
    obtain ⟨zv, hzv, rfl⟩ := Option.map_eq_some_iff.mp hz
    obtain ⟨c1, c2, _⟩ := cells_rel (ofV_rel (st := st) (w := w) (ι := ι) zv) hc
    cases hbt : Nat.beq t bldT with
    | true =>
      obtain rfl := Nat.eq_of_beq_eq_true hbt
      rw [hbt] at h
      simp only [cond_true] at h
      split at h
      · simp only [Rd.val] at h
        cases hlt : Nat.blt fresh HID with
        | false => rw [hlt] at h; cases h
        | true =>
          rw [hlt] at h
          simp only [cond_true] at h
          split at h
          · rename_i hf
            simp only [Rd.val] at h
            split at h
            · rename_i hfy
              cases h
              obtain ⟨v1, vs, e1, r1, v2, vs2, e2, r2, r3⟩ := c1
              subst e2
              obtain rfl := r3
              have ez : zv.cells = #[.pointer none, .slice none 0 0] := by
                apply Array.ext'
                rw [e1, show v1 = _ from r1, show v2 = _ from r2]
              have hr := alloc_run (P := P) (w := w) hzv
              rw [ez] at hr
              exact Does.sem hr (newBld_ok hI (Nat.le_of_ble_eq_true hlt) hf hfy)
            · cases h
          · cases h
      · cases h
    | false =>
      rw [hbt] at h
      simp only [cond_false, Rd.val] at h
      cases hlt : Nat.blt fresh HID with
      | false => rw [hlt] at h; cases h
      | true =>
        rw [hlt] at h
        simp only [cond_true] at h
        split at h
        · rename_i hf
          simp only [Rd.val] at h
          split at h
          case h_2 => cases h
          rename_i hfy
          cases h
          exact Does.sem (alloc_run hzv) (newObj_ok hI (Nat.le_of_ble_eq_true hlt) hf hfy c1 c2)
        · cases h
  case box t x =>
    simp only [opA, Rd.val_bind', Option.bind_eq_some_iff, Rd.val_need, Rd.val, Prod.exists] at h
    obtain ⟨v, l, h0, cs, h1, h⟩ := h
    cases hlt : Nat.blt fresh HID with
    | false => rw [hlt] at h; cases h
    | true =>
      rw [hlt] at h
      simp only [cond_true] at h
      split at h
      · rename_i hf
        simp only [Rd.val] at h
        split at h
        case h_2 => cases h
        rename_i hfy
        cases h
        obtain ⟨c1, c2, _⟩ := cells_rel (ev_ok hI ht h0).1 h1
        exact Does.sem (box_run _ t) (newObj_ok hI (Nat.le_of_ble_eq_true hlt) hf hfy c1 c2)
      · cases h
  case build t ps =>
    simp only [opA, Rd.val_bind', Option.bind_eq_some_iff, Rd.val_need] at h
    obtain ⟨vs, h1, z, hz, h⟩ := h
    have hq := PRels_of hI ht h1
    obtain ⟨b1, b2⟩ := build_ok (P := P) (st := st) (w := w) (ι := ι) (t := t) (Option.bind_eq_some_iff.mpr hz) hq
    split at h
    · rename_i fs hu
      simp only [Rd.val_bind', Option.bind_eq_some_iff, Rd.val_need, Rd.val_pure, Option.some.injEq] at h
      obtain ⟨pl, hpl, v, ⟨cs, hcs, rfl⟩, rfl⟩ := h
      obtain ⟨r, k1, k2⟩ := b1 hu hpl hcs
      exact Does.sem k1 (Post.of_val hI k2)
    · rename_i n e hu
      split at h
      · rename_i s hs
        simp only [Rd.val_bind', Option.bind_eq_some_iff, Rd.val_need, Rd.val_pure, Option.some.injEq] at h
        obtain ⟨v, ⟨cs, hcs, rfl⟩, rfl⟩ := h
        obtain ⟨r, k1, k2⟩ := b2 hu hs hcs
        exact Does.sem k1 (Post.of_val hI k2)
      · cases h
    · cases h
  case buildSlice t n ps =>
    simp only [opA, Rd.val_bind', Option.bind_eq_some_iff] at h
    obtain ⟨vs, h1, h⟩ := h
    have hq := PRels_of hI ht h1
    split at h
    · rename_i e hu
      split at h
      · rename_i s b z hs ha hz
        split at h
        · rename_i zc hzc
          cases hb : (Nat.ble (n * s) (2 ^ 24) && Nat.ble 1 s && Nat.beq zc.length s) with
          | false => rw [hb] at h; cases h
          | true =>
            rw [hb] at h
            simp only [Bool.and_eq_true] at hb
            simp only [cond_true, Rd.val_bind', Option.bind_eq_some_iff, Rd.val_need, Rd.val_pure, Option.some.injEq] at h
            obtain ⟨xs, hx, rfl⟩ := h
            exact buildSlice_ok hI hu hs hz hzc (Nat.le_of_ble_eq_true hb.1.1) (Nat.le_of_ble_eq_true hb.1.2) (Nat.eq_of_beq_eq_true hb.2) hq hx
        · cases h
      · cases h
    · cases h
  case load t x =>
    simp only [opA, Rd.val_bind', Rd.val_pure, Option.bind_eq_some_iff, Option.some.injEq, Prod.exists] at h
    obtain ⟨v, l, h1, v', l', h2, rfl⟩ := h
    obtain ⟨r, k1, k2, k3⟩ := loadA_ok hI hG (ev_ok hI ht h1).1 h2
    exact Does.sem k1 (Post.val hI k2 k3)
  case store t x y =>
    simp only [opA, Rd.val_bind', Option.bind_eq_some_iff, Prod.exists] at h
    obtain ⟨p, l, h1, v, l', h2, h⟩ := h
    split at h
    · rename_i id off cs ag n hcs hag hn
      simp only [Rd.val] at h
      split at h
      · rename_i os hos
        cases hb : (Nat.beq cs.length n && Nat.ble (off + n) os.length && (ag || (Nat.beq n 1 && oneA v))) with
        | false => rw [hb] at h; cases h
        | true =>
          rw [hb] at h; cases h
          simp only [Bool.and_eq_true] at hb
          have hn' := Nat.eq_of_beq_eq_true hb.1.1
          refine store_ok hI hos (ev_ok hI ht h1).1 (ev_ok hI ht h2).1 (ev_ok hI ht h2).2 hcs hag hn hn' (Nat.le_of_ble_eq_true hb.1.2) (fun e => ?_)
          subst e
          simp only [Bool.false_or, Bool.and_eq_true] at hb
          refine ⟨Nat.eq_of_beq_eq_true hb.2.1, ?_⟩
          have h1' := hb.2.2
          cases v <;> simp only [AV.cells, AV.cells?, Option.some.injEq, reduceCtorEq, cond_eq_ite, Option.ite_none_right_eq_some, oneA, Bool.false_eq_true] at hcs h1' <;> first
            | exact hcs.symm
            | exact hcs.2.symm
      · cases h
    · cases h
  case nilCheck x =>
    simp only [opA, Rd.val_bind', Option.bind_eq_some_iff, Prod.exists] at h
    obtain ⟨v, l, h1, h⟩ := h
    obtain ⟨k1, k2⟩ := ev_ok hI ht h1
    split at h
    · simp only [Rd.val_bind', Rd.val_pure, Rd.val, Option.bind_some, Option.some.injEq] at h
      subst h
      obtain ⟨b, hb, e⟩ := k1
      exact Does.val (u := a.eval x) (by simp [execOp, e]) (Post.of_val hI ⟨b, hb, e⟩)
    · simp only [Rd.val_bind', Rd.val_pure, Rd.val, Option.bind_some, Option.some.injEq] at h
      subst h
      obtain ⟨b, o, e, hc⟩ := k1
      exact Does.val (u := a.eval x) (by simp [execOp, e]) (Post.of_val hI ⟨b, o, e, hc⟩)
    · simp only [Rd.val_bind', Rd.val_pure, Rd.val, Option.bind_some, Option.some.injEq] at h
      subst h
      have e : a.eval x = _ := k1
      exact Does.val (u := a.eval x) (by simp [execOp, e]) (Post.of_val hI k1)
    · simp only [Rd.val_bind', Rd.val_pure, Rd.val, Option.bind_some, Option.some.injEq] at h
      subst h
      obtain ⟨l', c', e, hc⟩ := k1
      exact Does.val (u := a.eval x) (by simp [execOp, e]) (Post.of_val hI ⟨l', c', e, hc⟩)
    · cases h
  case binOp op t x y yt =>
    simp only [opA, Rd.val_bind', Option.bind_eq_some_iff, Prod.exists] at h
    obtain ⟨v, l, h1, v', l', h2, h⟩ := h
    cases hg : guardA P op t x y v v' with
    | false => rw [hg] at h; cases h
    | true =>
      rw [hg] at h
      simp only [cond_true, Rd.val_bind', Option.bind_eq_some_iff, Rd.val_pure, Option.some.injEq] at h
      obtain ⟨r, h3, rfl⟩ := h
      have e1 := (ev_ok hI ht h1).1
      have e2 := (ev_ok hI ht h2).1
      obtain ⟨u, k1, k2⟩ := binA_ok e1 e2 h3
      exact Does.sem (s := do eqGuard op t x y (a.eval x) (a.eval y); Go.binOp op t (a.eval x) (a.eval y)) (by rw [Sem.run_bind, guardA_run e1 e2 hg]; exact k1) (Post.of_val hI k2)
  case unOp op t x =>
    simp only [opA, Rd.val_bind', Option.bind_eq_some_iff, Prod.exists] at h
    obtain ⟨v, l, h1, h⟩ := h
    have e1 := (ev_ok hI ht h1).1
    split at h
    · simp only [Rd.val_bind', Rd.val_pure, Rd.val, Option.bind_some, Option.some.injEq] at h
      subst h
      have e : a.eval x = _ := e1
      exact Does.sem (s := Op.unary .not (a.eval x)) (by rw [e]; rfl) (Post.of_val hI rfl)
    · simp only [Rd.val_bind', Rd.val_pure, Rd.val, Option.bind_some, Option.some.injEq] at h
      subst h
      have e : a.eval x = _ := e1
      exact Does.sem (s := Op.unary .neg (a.eval x)) (by rw [e]; rfl) (Post.of_val hI rfl)
    · cases h
  case convert s d x =>
    simp only [opA, Rd.val_bind', Option.bind_eq_some_iff, Prod.exists, Rd.val_pure, Option.some.injEq] at h
    obtain ⟨v, l, h1, r, h2, rfl⟩ := h
    obtain ⟨u, w', st', k1, k2, k3⟩ := convA_ok hI.lt (ev_ok hI ht h1).1 h2
    refine Does.sem k1 ⟨_, _, _, (hI.grow k2.below k2.sub k2.new k2.lt).exs fun v lab u x => x.elim .inl fun ⟨e1, e2, e3⟩ => .inr ⟨by rw [e1, e3]; exact k3, by rw [e2]; trivial⟩⟩
  case makeInterface t x =>
    simp only [opA, Rd.val_bind', Option.bind_eq_some_iff, Prod.exists] at h
    obtain ⟨v, l, h1, h⟩ := h
    have e1 := (ev_ok hI ht h1).1
    split at h
    · cases h
    · cases h
    · rename_i hn1 hn2
      simp only [Rd.val_bind', Rd.val_pure, Rd.val, Option.bind_some, Option.some.injEq] at h
      subst h
      cases hu : P.underlying t with
      | none => exact absurd hu (by simpa using hn2)
      | some d =>
        refine Does.sem (s := Instr.makeInterface t (a.eval x)) (u := .iface t (a.eval x)) ?_ (Post.of_val hI ⟨_, rfl, e1⟩)
        unfold Instr.makeInterface
        rw [Sem.run_bind, run_underlying hu]
        cases d <;> first | rfl | exact absurd hu (by simpa using hn1 _)
  case makeFunc f first cap =>
    simp only [opA, Rd.val_bind', Option.bind_eq_some_iff, Rd.val_pure, Rd.val, Option.bind_some, Option.some.injEq] at h
    obtain ⟨as, h1, cs, h2, rfl⟩ := h
    exact Does.sem (s := Instr.makeFunc f (first.map a.eval) (cap.map a.eval)) rfl (Post.of_val hI ⟨_, _, rfl, by simpa using evs_ok hI ht h1, by simpa using evs_ok hI ht h2⟩)
  case slice t x lo hi mx =>
    cases mx with
    | some m => simp [opA, Rd.val] at h
    | none =>
      simp only [opA, Rd.val_bind', Option.bind_eq_some_iff, Prod.exists, Rd.val_pure, Option.some.injEq] at h
      obtain ⟨v, l, h1, lo', h2, hi', h3, r, h4, rfl⟩ := h
      have hl : ORel st w ι lo' (lo.map a.eval) := by
        cases lo with
        | none => cases h2; exact rfl
        | some o =>
          simp only [Rd.val_bind', Option.bind_eq_some_iff, Prod.exists, Rd.val_pure, Option.some.injEq] at h2
          obtain ⟨v, l, h5, rfl⟩ := h2
          exact ⟨_, rfl, (ev_ok hI ht h5).1⟩
      have hh : ORel st w ι hi' (hi.map a.eval) := by
        cases hi with
        | none => cases h3; exact rfl
        | some o =>
          simp only [Rd.val_bind', Option.bind_eq_some_iff, Prod.exists, Rd.val_pure, Option.some.injEq] at h3
          obtain ⟨v, l, h5, rfl⟩ := h3
          exact ⟨_, rfl, (ev_ok hI ht h5).1⟩
      obtain ⟨u, k1, k2⟩ := sliceA_ok (ev_ok hI ht h1).1 hl hh h4
      exact Does.sem k1 (Post.of_val hI k2)
  case fieldAddr s x f =>
    simp only [opA, Rd.val_bind', Option.bind_eq_some_iff, Prod.exists] at h
    obtain ⟨v, l, h1, h⟩ := h
    split at h
    · rename_i off t hf
      split at h
      · rename_i n hn
        simp only [Rd.val_bind', Option.bind_eq_some_iff, Rd.val_need, Rd.val_pure, Option.some.injEq] at h
        obtain ⟨r, h2, rfl⟩ := h
        obtain ⟨fs, fd, hu, hfd, rfl, rfl⟩ := fieldOff_run hf
        obtain ⟨b, o, e, k2⟩ := addrA_run (ev_ok hI ht h1).1 h2
        refine Does.sem (s := Instr.fieldAt s (a.eval x) f) (u := .pointer (some ⟨b, o + fd.offset, none⟩)) ?_ (Post.of_val hI k2)
        simp [Instr.fieldAt, run_underlying hu, hfd, e, Instr.sureAddr, fieldPlace, szOf_run hn, add_none]
      · cases h
    · cases h
  case field s x f =>
    simp only [opA, Rd.val_bind', Option.bind_eq_some_iff, Prod.exists] at h
    obtain ⟨v, l, h1, h⟩ := h
    split at h
    · rename_i off t cs hf
      simp only [Rd.val_bind', Option.bind_eq_some_iff, Prod.exists, Rd.val_pure, Option.some.injEq] at h
      obtain ⟨r, l', h2, rfl⟩ := h
      obtain ⟨fs, fd, hu, hfd, rfl, rfl⟩ := fieldOff_run hf
      obtain ⟨us, e, ho, hus⟩ := (ev_ok hI ht h1).1
      obtain ⟨rfl, u, k1, k2⟩ := partC_part hus ho h2
      refine Does.sem (s := Instr.field s (a.eval x) f) (u := u) ?_ (Post.of_val hI k2)
      simp [Instr.field, run_underlying hu, hfd, e, asAgg, k1]
    · cases h
  case indexAddr t x i =>
    simp only [opA, Rd.val_bind', Option.bind_eq_some_iff, Prod.exists, Rd.val_pure, Option.some.injEq] at h
    obtain ⟨v, l, h1, v', l', h2, r, h3, rfl⟩ := h
    obtain ⟨u, k1, k2⟩ := indexAddrA_ok (ev_ok hI ht h1).1 (ev_ok hI ht h2).1 h3
    exact Does.sem k1 (Post.of_val hI k2)
  case index t x i =>
    simp only [opA, Rd.val_bind', Option.bind_eq_some_iff, Prod.exists, Rd.val_pure, Option.some.injEq] at h
    obtain ⟨v, l, h1, v', l', h2, r, h3, rfl⟩ := h
    obtain ⟨u, k1, k2⟩ := indexA_ok (ev_ok hI ht h1).1 (ev_ok hI ht h2).1 h3
    exact Does.sem k1 (Post.of_val hI k2)
  case extract x i =>
    simp only [opA, Rd.val_bind', Option.bind_eq_some_iff, Prod.exists] at h
    obtain ⟨v, l, h1, h⟩ := h
    split at h
    · rename_i vs
      simp only [Rd.val_bind', Option.bind_eq_some_iff, Rd.val_need, Rd.val_pure, Option.some.injEq] at h
      obtain ⟨r, h2, rfl⟩ := h
      obtain ⟨us, e, hus⟩ := (ev_ok hI ht h1).1
      obtain ⟨u, k1, k2⟩ := hus.get h2
      have k1 : us[i]? = some u := by simpa using k1
      exact Does.sem (s := Instr.extract (a.eval x) i) (u := u) (by rw [e]; simp [Instr.extract, k1]) (Post.of_val hI k2)
    · cases h
  case call c =>
    obtain ⟨callee, args, ats⟩ := c
    simp only [opA] at h
    split at h
    · -- len
      split at h
      · rename_i x t more hx hta
        simp only [Rd.val_bind', Option.bind_eq_some_iff, Prod.exists, Rd.val_pure, Option.some.injEq] at h
        obtain ⟨v, l, h1, r, h2, rfl⟩ := h
        have e1 := (ev_ok hI ht h1).1
        have hargs : args = #[x] := by apply Array.ext'; simpa using hx
        have hts : ats[0]? = some t := by rw [← Array.getElem?_toList, hta]; rfl
        have key : ∃ u, (Builtin.len_ ats type #[a.eval x]).run P w = .ok u w ∧ VRel st w ι r u := by
          unfold lenA at h2
          split at h2
          · rename_i s hu
            cases h2
            have e : a.eval x = _ := e1
            exact ⟨.int .i64 s.length, by
              have : (⟨s.toArray⟩ : ByteArray).size = s.length := by show s.toArray.size = _; simp
              simp [Builtin.len_, hts, e, run_underlying hu, goInt, this], rfl⟩
          · rename_i e' sz xs hu
            cases h2
            obtain ⟨ad, cap, e, _⟩ := e1
            exact ⟨.int .i64 xs.length, by simp [Builtin.len_, hts, e, run_underlying hu, goInt], rfl⟩
          · rename_i e' sz xs ys hu
            cases h2
            obtain ⟨ad, cap, e, _⟩ := e1
            exact ⟨.int .i64 xs.length, by simp [Builtin.len_, hts, e, run_underlying hu, goInt], rfl⟩
          · rename_i e' hu
            cases h2
            have e : a.eval x = _ := e1
            exact ⟨.int .i64 0, by simp [Builtin.len_, hts, e, run_underlying hu, goInt], rfl⟩
          · rename_i n e' hu
            cases h2
            exact ⟨.int .i64 n, by
              cases hx' : a.eval x <;> simp [Builtin.len_, hts, run_underlying hu, goInt], rfl⟩
          · cases h2
        obtain ⟨u, k1, k2⟩ := key
        refine Does.sem (s := Builtin.len_ ats type #[a.eval x]) k1 (Post.of_val hI k2) |> fun hD => ?_
        obtain ⟨u', w', hr, hp⟩ := hD
        exact ⟨u', w', by simpa [execOp, resolve, invoke, builtin, hargs] using hr, hp⟩
      · cases h
    · -- append
      split at h
      · rename_i s x hx
        simp only [Rd.val_bind', Option.bind_eq_some_iff, Prod.exists] at h
        obtain ⟨v, l, h1, v', l', h2, h⟩ := h
        have hargs : args = #[s, x] := by apply Array.ext'; simpa using hx
        unfold appendA at h
        split at h
        · rename_i sT xT hts
          have hats : ats = #[sT, xT] := by apply Array.ext'; simpa using hts
          split at h
          · rename_i e hu
            split at h
            · rename_i inf zc hi hz
              cases hb : (Nat.beq zc.length inf.size && Nat.ble 1 inf.size && listArg P xT && Nat.ble 1 fresh) with
              | false => rw [hb] at h; cases h
              | true =>
                rw [hb] at h
                simp only [Bool.and_eq_true] at hb
                simp only [cond_true, Rd.val_bind', Option.bind_eq_some_iff, Rd.val_need, Prod.exists] at h
                obtain ⟨xs, lb, h3, ys, h4, h⟩ := h
                simp only [Rd.val] at h
                have fin : ∀ {ws : List (Key × Ent)}, g (.l fresh) = .none → ((lb = 0 ∧ ws = []) ∨ (∃ k, lb = k + 1 ∧ g (.l (k + 1)) = .flag true ∧ ws = [(.l (k + 1), .flag false)])) →
                    (bif roomA (xs.length + ys.length) inf.bytes then some { val := AV.view inf.size (xs ++ ys), lab := some fresh, ws := (Key.l fresh, Ent.flag true) :: ws } else none) = some res →
                    Does P (execOp a.eval ⟨dst, .call ⟨.builtin .append, args, ats⟩, type, pos, after, guard⟩) w (Post B g ex res) := by
                  intro ws hf hws hr
                  cases hroom : roomA (xs.length + ys.length) inf.bytes with
                  | false => rw [hroom] at hr; cases hr
                  | true =>
                    rw [hroom] at hr; cases hr
                    have hD := append_ok (P := P) (ty := type) hI hu hi hz (Nat.eq_of_beq_eq_true hb.1.1.1) (Nat.le_of_ble_eq_true hb.1.1.2) hb.1.2 (ev_ok hI ht h1).1 (ev_ok hI ht h1).2 (ev_ok hI ht h2).1 h3 h4 hroom (Nat.le_of_ble_eq_true hb.2) hf hws
                    obtain ⟨u', w', hr', hp⟩ := hD
                    exact ⟨u', w', by simpa [execOp, resolve, invoke, builtin, hargs, hats] using hr', hp⟩
                split at h
                · rename_i hf
                  split at h
                  · exact fin hf (.inl ⟨rfl, rfl⟩) h
                  · rename_i k
                    simp only [Rd.val] at h
                    split at h
                    · rename_i hk
                      exact fin hf (.inr ⟨k, rfl, hk, rfl⟩) h
                    · cases h
                · cases h
            · cases h
          · cases h
        · cases h
      · cases h
    · cases h
  all_goals (simp [opA, Rd.val] at h)
end

/-! ### values told by their types -/
section
variable {P : Program} {cf : FuncId → List AV → Option AV} {g : Key → Ent} {G : Globs}
theorem eta1_ok {t : TypeId} {v : AV} (h : (eta1 P t v).2 = true) : (eta1 P t v).1 = v := by
  unfold eta1 at h ⊢
  split at h
  · rename_i he; cases v <;> first | rfl | (simp [isU8] at h)
  · rename_i k hk he
    cases v <;> first | (simp [isI] at h; done) | skip
    rename_i j n
    simp only [isI, decide_eq_true_eq] at h
    subst h; rfl
  · cases v <;> first | rfl | (simp [isB] at h)
  · cases v <;> first | rfl | (simp [isS] at h)
  · rfl
theorem etaL_ok {cs : List AV} : ∀ {ts : List TypeId} {j : Nat}, etaOK P cs j ts = true → j + ts.length = cs.length → etaL P cs j ts = cs.drop j
  | [], j, _, hl => by simp only [etaL]; rw [List.drop_eq_nil_of_le (by simp at hl; omega)]
  | t :: ts, j, h, hl => by
    simp only [etaOK, Bool.and_eq_true] at h
    simp only [List.length_cons] at hl
    have hj : j < cs.length := by omega
    rw [etaL, etaL_ok h.2 (by omega), eta1_ok h.1, List.drop_eq_getElem_cons hj]
    congr 1
    simp [List.getD_eq_getElem?_getD, hj]
theorem etaP_ok {t : TypeId} {v : AV} (h : (etaP P t v).2 = true) : (etaP P t v).1 = v := by
  unfold etaP at h ⊢
  split at h
  · split at h
    · rename_i ts hts
      simp only [Bool.and_eq_true] at h
      obtain ⟨⟨h1, h2⟩, h3⟩ := h
      cases v <;> first | (simp [isA] at h1; done) | skip
      rename_i cs
      simp only [cellsL] at h2 h3 ⊢
      rw [etaL_ok h3 (by rw [Nat.zero_add]; exact (Nat.eq_of_beq_eq_true h2).symm)]
      rfl
    · rfl
  · exact eta1_ok h
theorem val_opE {o : Oper} {fresh : Nat} {res : Res} (h : Rd.val cf g (opE P G o fresh) = some res) : Rd.val cf g (opA P G o fresh) = some res := by
  have key : Rd.val cf g ((opA P G o fresh).bind fun r => .test (etaP P o.type r.val).2 (.ret { r with val := (etaP P o.type r.val).1 })) = some res → Rd.val cf g (opA P G o fresh) = some res := by
    intro h
    rw [Rd.val_bind, Option.bind_eq_some_iff] at h
    obtain ⟨r, h1, h2⟩ := h
    simp only [Rd.val] at h2
    cases ht : (etaP P o.type r.val).2 with
    | false => rw [ht] at h2; cases h2
    | true =>
      rw [ht] at h2
      simp only [cond_true, Option.some.injEq] at h2
      rw [h1, ← h2, etaP_ok ht]
  unfold opE at h
  split at h
  · exact key h
  · exact key h
  · exact h
end
end Go.Proofs.YtgeheffhdpeddaaDoor.VX
