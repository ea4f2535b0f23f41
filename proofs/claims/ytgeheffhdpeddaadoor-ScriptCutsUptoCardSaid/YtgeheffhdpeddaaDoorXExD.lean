/-
  Texts laid together: ROWS OF CALLS THAT SHARE THEIR CALLER's BLOCKS; ROWS OF CALLS THAT SHARE BLOCKS ARE SO, if the runs in the one form are; A RUN THAT BEGINS AT A LOOP's HEAD; WHICH TEMPORARIES LIVE at the loops' heads (told by the tool; a wrong one would ; THE PROGRAM is one that the executor's law holds of; PLAIN; PLAIN; WHAT IS KNOWN OF FUNCTIONS; THE ADDRESS OF A FIELD; THE TABLE HOLDS, row by row; PLAIN. Conditions: as each theorem states.
-/
import Derived.Test.YtgeheffhdpeddaaDoorXExA
import Derived.Test.YtgeheffhdpeddaaDoorXExC
import Derived.Test.YtgeheffhdpeddaaDoorTie
import Derived.Test.YtgeheffhdpeddaaDoorXTok
import Derived.Lib.Bytealg
import Derived.Lib.ItoaNum
import Derived.Lib.ParseIntB
import Derived.Test.YtgeheffhdpeddaaDoorXScr
/- ROWS OF CALLS THAT SHARE THEIR CALLER's BLOCKS: the blocks that a call can reach, told in one form; its answer laid back into the caller's state. Definitions alone. Conditions: none. -/
namespace Go.Proofs.YtgeheffhdpeddaaDoor.VX
open Go

/-- A number's place among those that are named, from k on. -/
def idxIn : List Nat → Nat → Nat → Option Nat
  | [], _, _ => none
  | i :: l, k, id => bif Nat.beq i id then some k else idxIn l (k + 1) id
/-- What stands at a place, counted from one. -/
def nthOf : List Nat → Nat → Option Nat
  | [], _ => none
  | _ :: _, 0 => none
  | i :: _, 1 => some i
  | _ :: l, k + 2 => nthOf l (k + 1)
/-- The blocks' numbers turned; what is not named is told no more. -/
def renA (g : Nat → Option Nat) : AV → AV
  | .ptr id off => (match g id with | some i => .ptr i off | none => .top)
  | .agg cs => .agg (all cs)
  | .tup cs => .tup (all cs)
  | .fn f a c => .fn f (all a) (all c)
  | .iface t x => .iface t (renA g x)
  | v => v
  where all : List AV → List AV
  | [] => []
  | c :: cs => renA g c :: all cs
def renL (h : Nat → Option Nat) : Option Nat → Option Nat
  | none => none
  | some 0 => some 0
  | some (l + 1) => h (l + 1)
def renC (g h : Nat → Option Nat) : List (AV × Option Nat) → List (AV × Option Nat)
  | [] => []
  | (v, l) :: cs => (renA g v, renL h l) :: renC g h cs
/-- The blocks that a value names. -/
def idsA : AV → List Nat → List Nat
  | .ptr id _, acc => acc ++ [id]
  | .agg cs, acc => all cs acc
  | .tup cs, acc => all cs acc
  | .fn _ a c, acc => all c (all a acc)
  | .iface _ x, acc => idsA x acc
  | _, acc => acc
  where all : List AV → List Nat → List Nat
  | [], acc => acc
  | c :: cs, acc => all cs (idsA c acc)
def idsC : List (AV × Option Nat) → List Nat → List Nat
  | [], acc => acc
  | (v, _) :: cs, acc => idsC cs (idsA v acc)
/-- What can be reached, in the order in which it is met. -/
def reach (S : St) : Nat → List Nat → List Nat → List Nat
  | 0, _, acc => acc
  | _ + 1, [], acc => acc
  | n + 1, id :: todo, acc =>
    bif acc.any (Nat.beq id) then reach S n todo acc
    else match S.at (.o id) with
      | .obj cs => reach S n (todo ++ idsC cs []) (acc ++ [id])
      | _ => reach S n todo acc
def labsC (S : St) : List (AV × Option Nat) → List Nat → List Nat
  | [], acc => acc
  | (_, some (l + 1)) :: cs, acc => labsC S cs (bif liveL S (l + 1) && !acc.any (Nat.beq (l + 1)) then acc ++ [l + 1] else acc)
  | _ :: cs, acc => labsC S cs acc
def labsO (S : St) : List Nat → List Nat → List Nat
  | [], acc => acc
  | id :: ids, acc => labsO S ids (labsC S (cellsO S id) acc)
def isObj (S : St) (id : Nat) : Bool := match S.at (.o id) with | .obj _ => true | _ => false
/-- No strings.Builder. -/
def noBld : St → Bool
  | [] => true
  | (_, .bld _) :: _ => false
  | _ :: S => noBld S
def nodupB : List Nat → Bool
  | [] => true
  | i :: l => !l.any (Nat.beq i) && nodupB l
def canonO (S : St) (g h : Nat → Option Nat) : List Nat → Nat → St
  | [], _ => []
  | id :: ids, k => (.o k, .obj (renC g h (cellsO S id))) :: canonO S g h ids (k + 1)
def canonY (S : St) : List Nat → Nat → St
  | [], _ => []
  | id :: ids, k => (.y k, S.at (.y id)) :: canonY S ids (k + 1)
def canonF : List Nat → Nat → St
  | [], _ => []
  | _ :: ls, k => (.l k, .flag true) :: canonF ls (k + 1)
/-- The reachable blocks alone, numbered from one on; so their labels. -/
def canonS (S : St) (ids labs : List Nat) : St := (.x, .num (1 + max ids.length labs.length)) :: (canonO S (idxIn ids 1) (idxIn labs 1) ids 1 ++ (canonF labs 1 ++ canonY S ids 1))
def upTo : Nat → List Nat
  | 0 => []
  | n + 1 => upTo n ++ [n + 1]
/-- What is seen of a call's end: the blocks that it was given, in the one form. -/
def obs (k : Nat) (c : Oc) (S : St) : Option (Oc × St) := bif refsIn (upTo k) c.val && noBld (canA [] (upTo k) 1 1 S) then some (c, canA [] (upTo k) 1 1 S) else none
def renOc (g : Nat → Option Nat) : Oc → Oc
  | .ret v => .ret (renA g v)
  | .pan v => .pan (renA g v)
def backO (S2 : St) (g h : Nat → Option Nat) : List Nat → Nat → St
  | [], _ => []
  | id :: ids, k => (.o id, .obj (renC g h (cellsO S2 k))) :: backO S2 g h ids (k + 1)
def backY (S2 : St) : List Nat → Nat → St
  | [], _ => []
  | id :: ids, k => (.y id, S2.at (.y k)) :: backY S2 ids (k + 1)
def backF (x : Nat) : St → St
  | [] => []
  | (.l l, e) :: S => (.l (l + x), e) :: backF x S
  | _ :: S => backF x S
def killF : List Nat → St
  | [] => []
  | l :: ls => (.l l, .flag false) :: killF ls
/-- A call's end laid back into the caller's state. -/
def graft (ids labs : List Nat) (x m : Nat) (S2 S : St) : St := (.x, .num (m + x)) :: (backO S2 (nthOf ids) (fun l => some (l + x)) ids 1 ++ (backY S2 ids 1 ++ (backF x S2 ++ (killF labs ++ S))))
/-- A row for a call that shares blocks, out of what it does in the one form. -/
def rowOf (k : Nat) (spec : List AV → St → Ans (Oc × St)) (args : List AV) (S : St) : Ans (Oc × St) :=
  match nxOf S with
  | none => .no
  | some x =>
    let ids := reach S 40 (idsA.all args []) []
    let labs := labsO S ids []
    bif Nat.beq ids.length k && (ids.all (isObj S) && nodupB ids) && (labs.all (liveL S) && nodupB labs) && (labsBelow x S && Nat.ble 1 x && (noBld S && Nat.blt k HID)) then
      (spec (renA.all (idxIn ids 1) args) (canonS S ids labs)).map fun p => (renOc (nthOf ids) p.1, graft ids labs x ((nxOf p.2).getD 0) p.2 (nonT S))
    else .no
/-- A call's run in the one form. -/
noncomputable def runO (P : Program) (X : Cx) (n k : Nat) (f : FuncId) (args : List AV) (S : St) : Option (Oc × St) := runI P X n (Oc × St) f args S (obs k)
end Go.Proofs.YtgeheffhdpeddaaDoor.VX

/- ROWS OF CALLS THAT SHARE BLOCKS ARE SO, if the runs in the one form are. Conditions: as each theorem states. -/
namespace Go.Proofs.YtgeheffhdpeddaaDoor.VX
open Go Go.RowKit

/-! ### numbers turned -/
section
variable {st : Cells} {w : World} {ι ι' : Inj} {g : Nat → Option Nat}
mutual
theorem VRel.ren (hg : ∀ id i b, g id = some i → id < HID → ι id = some b → ι' i = some b ∧ i < HID) : ∀ (v : AV) (u : Value), VRel st w ι v u → VRel st w ι' (renA g v) u
  | .int _ _, _, h => h
  | .u8 _, _, h => h
  | .bool _, _, h => h
  | .str _, _, h => h
  | .raw _, _, h => h
  | .top, _, _ => trivial
  | .view _ _, _, h => h
  | .part _ _ _, _, h => h
  | .cptr _ _, _, h => h
  | .ptr id off, u, h => by
    obtain ⟨b, hb, e⟩ := h
    simp only [renA]
    cases hi : g id with
    | none => trivial
    | some i => exact ⟨b, hg _ _ _ hi hb.2 hb.1, e⟩
  | .agg cs, _, h => by
    obtain ⟨us, e, o, h⟩ := h
    exact ⟨us, e, o, VRels.ren hg cs _ h⟩
  | .tup cs, _, h => by
    obtain ⟨us, e, h⟩ := h
    exact ⟨us, e, VRels.ren hg cs _ h⟩
  | .fn _ l c, _, h => by
    obtain ⟨l', c', e, h1, h2⟩ := h
    exact ⟨l', c', e, VRels.ren hg l _ h1, VRels.ren hg c _ h2⟩
  | .iface _ x, _, h => by
    obtain ⟨v, e, h⟩ := h
    exact ⟨v, e, VRel.ren hg x _ h⟩
theorem VRels.ren (hg : ∀ id i b, g id = some i → id < HID → ι id = some b → ι' i = some b ∧ i < HID) : ∀ (cs : List AV) (us : List Value), VRels st w ι cs us → VRels st w ι' (renA.all g cs) us
  | [], _, h => h
  | c :: cs, _, h => by
    obtain ⟨v, vs, e, h1, h2⟩ := h
    exact ⟨v, vs, e, VRel.ren hg c _ h1, VRels.ren hg cs _ h2⟩
end
theorem LabRel.ren {T T' : Labs} {h : Nat → Option Nat} (hh : ∀ l j x, h (l + 1) = some j → T (l + 1) = some x → j ≠ 0 ∧ T' j = some x) {lab : Option Nat} {v : AV} {u : Value} (k : LabRel T lab v u) : LabRel T' (renL h lab) (renA g v) u := by
  unfold LabRel at k
  split at k
  · exact trivial
  · obtain ⟨sz, xs, rfl, hf⟩ := k
    exact ⟨sz, xs, rfl, hf⟩
  · rename_i l
    obtain ⟨sz, xs, rfl, hT⟩ := k
    simp only [renL]
    cases hj : h (l + 1) with
    | none => trivial
    | some j =>
      obtain ⟨h0, h1⟩ := hh _ _ _ hj hT
      cases j with
      | zero => exact absurd rfl h0
      | succ j => exact ⟨sz, xs, rfl, h1⟩
theorem LRels.ren {T T' : Labs} {h : Nat → Option Nat} (hg : ∀ id i b, g id = some i → id < HID → ι id = some b → ι' i = some b ∧ i < HID) (hh : ∀ l j x, h (l + 1) = some j → T (l + 1) = some x → j ≠ 0 ∧ T' j = some x) :
    ∀ {cs : List (AV × Option Nat)} {us : List Value}, LRels st w ι T cs us → LRels st w ι' T' (renC g h cs) us
  | [], _, k => k
  | (c, l) :: cs, _, k => by
    obtain ⟨v, vs, e, h0, h1, h2, h3⟩ := k
    exact ⟨v, vs, e, h0, VRel.ren hg _ _ h1, h2.ren hh, h3.ren hg hh⟩
end

/-! ### places -/
theorem idxIn_some : ∀ {ids : List Nat} {k id i : Nat}, idxIn ids k id = some i → k ≤ i ∧ ids[i - k]? = some id
  | [], _, _, _, h => by cases h
  | a :: l, k, id, i, h => by
    unfold idxIn at h
    cases e : Nat.beq a id with
    | true => rw [e] at h; cases h; exact ⟨Nat.le_refl _, by rw [Nat.sub_self, Nat.eq_of_beq_eq_true e]; rfl⟩
    | false =>
      rw [e] at h
      obtain ⟨h1, h2⟩ := idxIn_some (ids := l) h
      refine ⟨by omega, ?_⟩
      rw [show i - k = (i - (k + 1)) + 1 by omega]; exact h2
theorem idxIn_get : ∀ {ids : List Nat} {k j id : Nat}, nodupB ids = true → ids[j]? = some id → idxIn ids k id = some (k + j)
  | [], _, _, _, _, h => by simp at h
  | a :: l, k, j, id, hn, h => by
    simp only [nodupB, Bool.and_eq_true, Bool.not_eq_true'] at hn
    unfold idxIn
    cases j with
    | zero => simp at h; subst h; simp
    | succ j =>
      have h : l[j]? = some id := by simpa using h
      have hne : Nat.beq a id = false := by
        cases e : Nat.beq a id with
        | false => rfl
        | true =>
          have := List.any_eq_false.mp hn.1 id (List.mem_of_getElem? h)
          exact absurd e this
      rw [hne]
      have := idxIn_get (k := k + 1) hn.2 h
      rw [show k + (j + 1) = k + 1 + j by omega]; exact this
theorem nthOf_eq : ∀ (l : List Nat) (k : Nat), nthOf l (k + 1) = l[k]?
  | [], _ => rfl
  | _ :: _, 0 => rfl
  | _ :: l, k + 1 => by
    show nthOf l (k + 1) = _
    rw [nthOf_eq l k]; rfl
theorem nthOf_zero (l : List Nat) : nthOf l 0 = none := by cases l <;> rfl
theorem upTo_mem {n i : Nat} : i ∈ upTo n ↔ 1 ≤ i ∧ i ≤ n := by
  induction n with
  | zero => simp [upTo]; omega
  | succ n ih => simp only [upTo, List.mem_append, ih, List.mem_singleton]; omega
theorem isObj_some {S : St} {id : Nat} (h : isObj S id = true) : S.at (.o id) = .obj (cellsO S id) := by
  unfold isObj at h
  unfold cellsO
  split at h
  · rename_i cs e; rw [e]
  · cases h
theorem nodupB_get : ∀ {l : List Nat} {i j x : Nat}, nodupB l = true → l[i]? = some x → l[j]? = some x → i = j := by
  intro l i j x h h1 h2
  have e1 := idxIn_get (k := 0) h h1
  have e2 := idxIn_get (k := 0) h h2
  rw [e1] at e2; simpa using e2

/-! ### the one form's entries -/
theorem canonO_at {S : St} {g h : Nat → Option Nat} : ∀ {ids : List Nat} {k : Nat} {T : St} {i : Nat}, (canonO S g h ids k ++ T).at (.o i) = (match (bif Nat.ble k i then ids[i - k]? else none) with | some id => .obj (renC g h (cellsO S id)) | none => T.at (.o i))
  | [], k, T, i => by
    simp only [canonO, List.nil_append]
    cases Nat.ble k i <;> simp
  | id :: ids, k, T, i => by
    simp only [canonO, List.cons_append, St.at]
    by_cases hk : k = i
    · subst hk
      have e : Nat.ble k k = true := Nat.ble_eq_true_of_le (Nat.le_refl _)
      simp only [Key.same_self, cond_true, e, Nat.sub_self]; rfl
    · rw [Key.same_ne (by simpa using hk)]
      simp only [cond_false]
      rw [canonO_at (ids := ids)]
      rcases Nat.lt_or_ge k i with hlt | hge
      · have e1 : Nat.ble (k + 1) i = true := Nat.ble_eq_true_of_le hlt
        have e2 : Nat.ble k i = true := Nat.ble_eq_true_of_le (by omega)
        rw [e1, e2, show i - k = (i - (k + 1)) + 1 by omega]
        rfl
      · have e1 : Nat.ble (k + 1) i = false := by cases e : Nat.ble (k + 1) i with | false => rfl | true => have := Nat.le_of_ble_eq_true e; omega
        have e2 : Nat.ble k i = false := by cases e : Nat.ble k i with | false => rfl | true => have := Nat.le_of_ble_eq_true e; omega
        rw [e1, e2]; rfl
theorem canonO_l {S : St} {g h : Nat → Option Nat} : ∀ {ids : List Nat} {k : Nat} {T : St} {l : Nat}, (canonO S g h ids k ++ T).at (.l l) = T.at (.l l)
  | [], _, _, _ => rfl
  | _ :: ids, k, T, l => by
    simp only [canonO, List.cons_append, St.at]
    rw [Key.same_ne (by simp)]
    exact canonO_l (ids := ids)
theorem canonF_at : ∀ {ls : List Nat} {k l : Nat} {T : St}, (canonF ls k ++ T).at (.l l) = (bif Nat.ble k l && Nat.blt l (k + ls.length) then .flag true else T.at (.l l))
  | [], k, l, T => by
    have : (Nat.ble k l && Nat.blt l (k + 0)) = false := by
      cases e : Nat.ble k l with
      | false => rfl
      | true =>
        have := Nat.le_of_ble_eq_true e
        cases e2 : Nat.blt l (k + 0) with
        | false => rfl
        | true => have := Nat.blt_eq.mp e2; omega
    simp only [canonF, List.nil_append, List.length_nil, this, cond_false]
  | _ :: ls, k, l, T => by
    simp only [canonF, List.cons_append, St.at]
    by_cases hk : k = l
    · subst hk
      have : (Nat.ble k k && Nat.blt k (k + (ls.length + 1))) = true := by
        rw [Bool.and_eq_true]; exact ⟨Nat.ble_eq_true_of_le (Nat.le_refl _), Nat.blt_eq.mpr (by omega)⟩
      simp only [Key.same_self, cond_true, List.length_cons, this]
    · rw [Key.same_ne (by simpa using hk)]
      simp only [cond_false]
      rw [canonF_at (ls := ls)]
      congr 1
      rw [Bool.eq_iff_iff]
      simp only [Bool.and_eq_true, Nat.ble_eq, Nat.blt_eq, List.length_cons]
      omega
theorem canonF_o {T : St} {κ : Key} (hκ : ∀ l, κ ≠ .l l) : ∀ {ls : List Nat} {k : Nat}, (canonF ls k ++ T).at κ = T.at κ
  | [], _ => rfl
  | _ :: ls, k => by
    simp only [canonF, List.cons_append, St.at]
    rw [Key.same_ne (Ne.symm (hκ k))]
    exact canonF_o hκ (ls := ls)
theorem canonO_y {S : St} {g h : Nat → Option Nat} : ∀ {ids : List Nat} {k : Nat} {T : St} {i : Nat}, (canonO S g h ids k ++ T).at (.y i) = T.at (.y i)
  | [], _, _, _ => rfl
  | _ :: ids, k, T, l => by
    simp only [canonO, List.cons_append, St.at]
    rw [Key.same_ne (by simp)]
    exact canonO_y (ids := ids)
theorem canonY_no {S : St} {κ : Key} (hκ : ∀ i, κ ≠ .y i) : ∀ {ids : List Nat} {k : Nat}, St.at (canonY S ids k) κ = .none
  | [], _ => rfl
  | _ :: ids, k => by
    simp only [canonY, St.at]
    rw [Key.same_ne (Ne.symm (hκ k))]
    exact canonY_no hκ (ids := ids)
theorem canonY_at {S : St} : ∀ {ids : List Nat} {k i : Nat}, St.at (canonY S ids k) (.y i) = (match (bif Nat.ble k i then ids[i - k]? else none) with | some id => S.at (.y id) | none => .none)
  | [], k, i => by
    simp only [canonY, St.at]
    cases Nat.ble k i <;> simp
  | id :: ids, k, i => by
    simp only [canonY, St.at]
    by_cases hk : k = i
    · subst hk
      have e : Nat.ble k k = true := Nat.ble_eq_true_of_le (Nat.le_refl _)
      simp only [Key.same_self, cond_true, e, Nat.sub_self]; rfl
    · rw [Key.same_ne (by simpa using hk)]
      simp only [cond_false]
      rw [canonY_at (ids := ids)]
      rcases Nat.lt_or_ge k i with hlt | hge
      · have e1 : Nat.ble (k + 1) i = true := Nat.ble_eq_true_of_le hlt
        have e2 : Nat.ble k i = true := Nat.ble_eq_true_of_le (by omega)
        rw [e1, e2, show i - k = (i - (k + 1)) + 1 by omega]
        rfl
      · have e1 : Nat.ble (k + 1) i = false := by cases e : Nat.ble (k + 1) i with | false => rfl | true => have := Nat.le_of_ble_eq_true e; omega
        have e2 : Nat.ble k i = false := by cases e : Nat.ble k i with | false => rfl | true => have := Nat.le_of_ble_eq_true e; omega
        rw [e1, e2]; rfl
theorem canonS_o {S : St} {ids labs : List Nat} {i : Nat} : (canonS S ids labs).at (.o i) = (match nthOf ids i with | some id => .obj (renC (idxIn ids 1) (idxIn labs 1) (cellsO S id)) | none => .none) := by
  unfold canonS
  show St.at (_ :: _) _ = _
  rw [St.at, Key.same_ne (by simp), cond_false, canonO_at]
  cases i with
  | zero =>
    have e : Nat.ble 1 0 = false := rfl
    rw [e, nthOf_zero]
    exact (canonF_o (by simp)).trans (canonY_no (by simp))
  | succ i =>
    have e : Nat.ble 1 (i + 1) = true := Nat.ble_eq_true_of_le (by omega)
    rw [e, nthOf_eq, Nat.add_sub_cancel]
    simp only [cond_true]
    cases ids[i]? with
    | none => exact (canonF_o (by simp)).trans (canonY_no (by simp))
    | some id => rfl
theorem canonS_l {S : St} {ids labs : List Nat} {l : Nat} : (canonS S ids labs).at (.l l) = (match nthOf labs l with | some _ => .flag true | none => .none) := by
  unfold canonS
  show St.at (_ :: _) _ = _
  rw [St.at, Key.same_ne (by simp), cond_false, canonO_l, canonF_at]
  cases l with
  | zero =>
    have e : Nat.ble 1 0 = false := rfl
    rw [e, nthOf_zero]
    exact canonY_no (by simp)
  | succ l =>
    have e : Nat.ble 1 (l + 1) = true := Nat.ble_eq_true_of_le (by omega)
    rw [e, nthOf_eq, Bool.true_and]
    rcases Nat.lt_or_ge l labs.length with h | h
    · have e2 : Nat.blt (l + 1) (1 + labs.length) = true := Nat.blt_eq.mpr (by omega)
      rw [e2, List.getElem?_eq_getElem h]; rfl
    · have e2 : Nat.blt (l + 1) (1 + labs.length) = false := by
        cases e : Nat.blt (l + 1) (1 + labs.length) with
        | false => rfl
        | true => have := Nat.blt_eq.mp e; omega
      rw [e2, List.getElem?_eq_none h]; exact canonY_no (by simp)
theorem canonS_y {S : St} {ids labs : List Nat} {i : Nat} : (canonS S ids labs).at (.y i) = (match nthOf ids i with | some id => S.at (.y id) | none => .none) := by
  unfold canonS
  show St.at (_ :: _) _ = _
  rw [St.at, Key.same_ne (by simp), cond_false, canonO_y, canonF_o (by simp), canonY_at]
  cases i with
  | zero =>
    have e : Nat.ble 1 0 = false := rfl
    rw [e, nthOf_zero]; rfl
  | succ i =>
    have e : Nat.ble 1 (i + 1) = true := Nat.ble_eq_true_of_le (by omega)
    rw [e, nthOf_eq, Nat.add_sub_cancel]; rfl
theorem backY_no {S2 : St} {κ : Key} (hκ : ∀ i, κ ≠ .y i) : ∀ {ids : List Nat} {k : Nat} {T : St}, (backY S2 ids k ++ T).at κ = T.at κ
  | [], _, _ => rfl
  | a :: ids, k, T => by
    simp only [backY, List.cons_append, St.at]
    rw [Key.same_ne (Ne.symm (hκ a))]
    exact backY_no hκ (ids := ids)
theorem backY_at {S2 : St} : ∀ {ids : List Nat} {k : Nat} {T : St} {id : Nat}, (backY S2 ids k ++ T).at (.y id) = (match idxIn ids k id with | some i => S2.at (.y i) | none => T.at (.y id))
  | [], _, _, _ => rfl
  | a :: ids, k, T, id => by
    simp only [backY, List.cons_append, St.at, idxIn]
    cases e : Nat.beq a id with
    | true =>
      rw [Nat.eq_of_beq_eq_true e]
      simp [Key.same_self]
    | false =>
      have hne : (Key.y a) ≠ .y id := fun e' => by cases e'; simp at e
      rw [Key.same_ne hne]
      simp only [cond_false]
      exact backY_at (ids := ids)
theorem backO_at {S2 : St} {g h : Nat → Option Nat} : ∀ {ids : List Nat} {k : Nat} {T : St} {id : Nat}, (backO S2 g h ids k ++ T).at (.o id) = (match idxIn ids k id with | some i => .obj (renC g h (cellsO S2 i)) | none => T.at (.o id))
  | [], _, _, _ => rfl
  | a :: ids, k, T, id => by
    simp only [backO, List.cons_append, St.at, idxIn]
    cases e : Nat.beq a id with
    | true =>
      rw [Nat.eq_of_beq_eq_true e]
      simp [Key.same_self]
    | false =>
      have hne : (Key.o a) ≠ .o id := fun e' => by cases e'; simp at e
      rw [Key.same_ne hne]
      simp only [cond_false]
      exact backO_at (ids := ids)
theorem backO_y {S2 : St} {g h : Nat → Option Nat} : ∀ {ids : List Nat} {k : Nat} {T : St} {l : Nat}, (backO S2 g h ids k ++ T).at (.y l) = T.at (.y l)
  | [], _, _, _ => rfl
  | a :: ids, k, T, l => by
    simp only [backO, List.cons_append, St.at]
    rw [Key.same_ne (by simp)]
    exact backO_y (ids := ids)
theorem backO_l {S2 : St} {g h : Nat → Option Nat} : ∀ {ids : List Nat} {k : Nat} {T : St} {l : Nat}, (backO S2 g h ids k ++ T).at (.l l) = T.at (.l l)
  | [], _, _, _ => rfl
  | a :: ids, k, T, l => by
    simp only [backO, List.cons_append, St.at]
    rw [Key.same_ne (by simp)]
    exact backO_l (ids := ids)
theorem backF_o {x : Nat} {κ : Key} (hκ : ∀ l, κ ≠ .l l) : ∀ {S2 T : St}, (backF x S2 ++ T).at κ = T.at κ
  | [], _ => rfl
  | (k, e) :: S2, T => by
    cases k with
    | l l =>
      simp only [backF, List.cons_append, St.at]
      rw [Key.same_ne (Ne.symm (hκ _))]
      exact backF_o hκ (S2 := S2)
    | _ => exact backF_o hκ (S2 := S2)
theorem backF_lt {x : Nat} : ∀ {S2 T : St} {l : Nat}, l < x → (backF x S2 ++ T).at (.l l) = T.at (.l l)
  | [], _, _, _ => rfl
  | (k, e) :: S2, T, l, h => by
    cases k with
    | l j =>
      simp only [backF, List.cons_append, St.at]
      rw [Key.same_ne (by simp; omega)]
      exact backF_lt (S2 := S2) h
    | _ => exact backF_lt (S2 := S2) h
theorem backF_ge {x : Nat} : ∀ {S2 T : St} {l : Nat}, (∀ e, (Key.l l, e) ∉ S2) ∧ (backF x S2 ++ T).at (.l (l + x)) = T.at (.l (l + x)) ∨ (backF x S2 ++ T).at (.l (l + x)) = S2.at (.l l)
  | [], _, _ => .inl ⟨by simp, rfl⟩
  | (k, e) :: S2, T, l => by
    cases k with
    | l j =>
      simp only [backF, List.cons_append, St.at]
      by_cases hj : j = l
      · subst hj; right; simp [Key.same_self]
      · rw [Key.same_ne (by simpa using hj), Key.same_ne (by simp; omega)]
        simp only [cond_false]
        rcases backF_ge (x := x) (S2 := S2) (T := T) (l := l) with ⟨h1, h2⟩ | h
        · exact .inl ⟨fun e' he => by
            rcases List.mem_cons.mp he with h | h
            · cases h; exact hj rfl
            · exact h1 e' h, h2⟩
        · exact .inr h
    | _ =>
      simp only [backF, St.at]
      rw [Key.same_ne (by simp)]
      simp only [cond_false]
      rcases backF_ge (x := x) (S2 := S2) (T := T) (l := l) with ⟨h1, h2⟩ | h
      · exact .inl ⟨fun e' he => by
          rcases List.mem_cons.mp he with h | h
          · cases h
          · exact h1 e' h, h2⟩
      · exact .inr h
theorem killF_o {κ : Key} (hκ : ∀ l, κ ≠ .l l) : ∀ {ls : List Nat} {T : St}, (killF ls ++ T).at κ = T.at κ
  | [], _ => rfl
  | l :: ls, T => by
    simp only [killF, List.cons_append, St.at]
    rw [Key.same_ne (Ne.symm (hκ _))]
    exact killF_o hκ (ls := ls)
theorem killF_at : ∀ {ls : List Nat} {T : St} {l : Nat}, (killF ls ++ T).at (.l l) = (bif ls.any (Nat.beq l) then .flag false else T.at (.l l))
  | [], _, _ => rfl
  | a :: ls, T, l => by
    simp only [killF, List.cons_append, St.at, List.any_cons]
    cases e : Nat.beq l a with
    | true => rw [Nat.eq_of_beq_eq_true e]; simp [Key.same_self]
    | false =>
      have hne : (Key.l a) ≠ .l l := fun e' => by cases e'; simp at e
      rw [Key.same_ne hne]
      simp only [cond_false, Bool.false_or]
      exact killF_at (ls := ls)
theorem graft_o {ids labs : List Nat} {x m : Nat} {S2 S : St} {id : Nat} : (graft ids labs x m S2 S).at (.o id) = (match idxIn ids 1 id with | some i => .obj (renC (nthOf ids) (fun l => some (l + x)) (cellsO S2 i)) | none => S.at (.o id)) := by
  unfold graft
  show St.at (_ :: _) _ = _
  rw [St.at, Key.same_ne (by simp), cond_false, backO_at]
  cases idxIn ids 1 id with
  | some i => rfl
  | none => simp only; rw [backY_no (by simp), backF_o (by simp), killF_o (by simp)]
theorem graft_y {ids labs : List Nat} {x m : Nat} {S2 S : St} {id : Nat} : (graft ids labs x m S2 S).at (.y id) = (match idxIn ids 1 id with | some i => S2.at (.y i) | none => S.at (.y id)) := by
  unfold graft
  show St.at (_ :: _) _ = _
  rw [St.at, Key.same_ne (by simp), cond_false, backO_y, backY_at]
  cases idxIn ids 1 id with
  | some i => rfl
  | none => simp only; rw [backF_o (by simp), killF_o (by simp)]
theorem graft_lt {ids labs : List Nat} {x m : Nat} {S2 S : St} {l : Nat} (h : l < x) : (graft ids labs x m S2 S).at (.l l) = (bif labs.any (Nat.beq l) then .flag false else S.at (.l l)) := by
  unfold graft
  show St.at (_ :: _) _ = _
  rw [St.at, Key.same_ne (by simp), cond_false, backO_l, backY_no (by simp), backF_lt h, killF_at]
theorem graft_ge {ids labs : List Nat} {x m : Nat} {S2 S : St} {l : Nat} (h1 : ∀ l ∈ labs, l < x) (h2 : ∀ l, x ≤ l → S.at (.l l) = .none) : (graft ids labs x m S2 S).at (.l (l + x)) = S2.at (.l l) := by
  unfold graft
  show St.at (_ :: _) _ = _
  rw [St.at, Key.same_ne (by simp), cond_false, backO_l, backY_no (by simp)]
  rcases backF_ge (x := x) (S2 := S2) (T := killF labs ++ S) (l := l) with ⟨k1, k2⟩ | h
  · rw [k2, killF_at]
    have : labs.any (Nat.beq (l + x)) = false := by
      rw [List.any_eq_false]
      intro y hy e
      have := h1 y hy
      have := Nat.eq_of_beq_eq_true e
      omega
    rw [this, cond_false, h2 _ (by omega)]
    cases e : S2.at (.l l) with
    | none => rfl
    | _ => exact absurd (at_mem e (by simp)) (k1 _)
  · exact h
theorem graft_noT {ids labs : List Nat} {x m : Nat} {S2 S : St} (hS : NoT S) : NoT (graft ids labs x m S2 S) := by
  have h1 : ∀ (ids : List Nat) (k : Nat), NoT (backO S2 (nthOf labs) (fun l => some (l + x)) ids k) := by
    intro ids
    induction ids with
    | nil => intro k p hp; cases hp
    | cons a ids ih =>
      intro k p hp
      rcases List.mem_cons.mp hp with rfl | hp
      · rfl
      · exact ih _ p hp
  have h1 : ∀ (g h : Nat → Option Nat) (ids : List Nat) (k : Nat), NoT (backO S2 g h ids k) := by
    intro g h ids
    induction ids with
    | nil => intro k p hp; cases hp
    | cons a ids ih =>
      intro k p hp
      rcases List.mem_cons.mp hp with rfl | hp
      · rfl
      · exact ih _ p hp
  have h1y : ∀ (ids : List Nat) (k : Nat), NoT (backY S2 ids k) := by
    intro ids
    induction ids with
    | nil => intro k p hp; cases hp
    | cons a ids ih =>
      intro k p hp
      rcases List.mem_cons.mp hp with rfl | hp
      · rfl
      · exact ih _ p hp
  have h2 : ∀ S2 : St, NoT (backF x S2) := by
    intro S2
    induction S2 with
    | nil => intro p hp; cases hp
    | cons q S2 ih =>
      obtain ⟨k, e⟩ := q
      cases k with
      | l l =>
        intro p hp
        rcases List.mem_cons.mp hp with rfl | hp
        · rfl
        · exact ih p hp
      | _ => exact ih
  have h3 : ∀ ls : List Nat, NoT (killF ls) := by
    intro ls
    induction ls with
    | nil => intro p hp; cases hp
    | cons a ls ih =>
      intro p hp
      rcases List.mem_cons.mp hp with rfl | hp
      · rfl
      · exact ih p hp
  intro p hp
  unfold graft at hp
  simp only [List.mem_cons, List.mem_append] at hp
  rcases hp with rfl | hp | hp | hp | hp | hp
  · rfl
  · exact h1 _ _ _ _ p hp
  · exact h1y _ _ p hp
  · exact h2 _ p hp
  · exact h3 _ p hp
  · exact hS p hp
theorem NoT.live {S : St} (h : NoT S) {tm : Array Value} {susp : Exs} {v : AV} {lab : Option Nat} {u : Value} (hl : Live S.at tm susp v lab u) : susp v lab u := by
  rcases hl with ⟨t, ht, _⟩ | hl
  · rw [h.at rfl] at ht; cases ht
  · exact hl

theorem noBld_at : ∀ {S : St} {κ : Key} {bs : List UInt8}, noBld S = true → S.at κ ≠ .bld bs
  | [], _, _, _, e => by cases e
  | (k, e0) :: S, κ, bs, h, e => by
    unfold St.at at e
    cases hk : k.same κ with
    | true => rw [hk] at e; simp only [cond_true] at e; subst e; simp [noBld] at h
    | false =>
      rw [hk] at e
      simp only [cond_false] at e
      refine noBld_at ?_ e
      cases e0 <;> first | exact h | (simp [noBld] at h)
theorem Inv.plain {B : Base} {ι : Inj} {T : Labs} {st : Cells} {ex : Exs} {w : World} {S : St} (hI : Inv B ι T st S.at ex w) (hn : noBld S = true) {id b : Nat} (e : ι id = some b) : ∃ cs, S.at (.o id) = .obj cs := by
  rcases (hI.dom id b e).1 with x | ⟨i, bs, _, x⟩
  · cases hx : S.at (.o id) with
    | obj cs => exact ⟨cs, rfl⟩
    | bld bs => exact absurd hx (noBld_at hn)
    | none => rw [hx] at x; exact x.elim
    | av v l => rw [hx] at x; exact x.elim
    | flag b => rw [hx] at x; exact x.elim
    | num n => rw [hx] at x; exact x.elim
  · exact absurd x (noBld_at hn)
/-- THE FRAME. -/
theorem frame_ok {P : Program} {W : World → Prop} {f : FuncId} {args : List AV} {S S1 S2 : St} {o : Oc} {ids labs : List Nat} {x m k : Nat}
    (h : InlOK P W f (renA.all (idxIn ids 1) args) (canonS S ids labs) o S1) (hob : obs k o S1 = some (o, S2)) (hk : ids.length = k)
    (hi : ids.all (isObj S) = true) (hin : nodupB ids = true) (hl : labs.all (liveL S) = true) (hln : nodupB labs = true) (hx : labsBelow x S = true) (hx1 : 1 ≤ x) (hnb : noBld S = true) (hkH : k < HID) :
    InlOK P W f args S (renOc (nthOf ids) o) (graft ids labs x m S2 (nonT S)) := by
  obtain ⟨hfn, hnt1, hcall⟩ := h
  refine ⟨hfn, graft_noT (NoT.nonT S), fun B susp ι T st w vals hS hB hI hv => ?_⟩
  rw [List.all_eq_true] at hi hl
  -- what is seen of the end
  have hobs : refsIn (upTo k) o.val = true ∧ noBld (canA [] (upTo k) 1 1 S1) = true ∧ S2 = canA [] (upTo k) 1 1 S1 := by
    unfold obs at hob
    cases hr : refsIn (upTo k) o.val with
    | false => rw [hr] at hob; cases hob
    | true =>
      rw [hr] at hob
      cases hr2 : noBld (canA [] (upTo k) 1 1 S1) with
      | false => rw [hr2] at hob; cases hob
      | true => rw [hr2] at hob; simp only [Bool.and_self, cond_true, Option.some.injEq, Prod.mk.injEq] at hob; exact ⟨rfl, rfl, hob.2.symm⟩
  obtain ⟨hrefs, hnb2, rfl⟩ := hobs
  -- names
  have hid : ∀ {i id : Nat}, nthOf ids i = some id → 1 ≤ i ∧ i ≤ k ∧ idxIn ids 1 id = some i ∧ S.at (.o id) = .obj (cellsO S id) := by
    intro i id e
    cases i with
    | zero => rw [nthOf_zero] at e; cases e
    | succ i =>
      rw [nthOf_eq] at e
      have hlt := (List.getElem?_eq_some_iff.mp e).1
      refine ⟨by omega, by omega, ?_, isObj_some (hi id (List.mem_of_getElem? e))⟩
      rw [idxIn_get hin e, Nat.add_comm]
  have hix : ∀ {i id : Nat}, idxIn ids 1 id = some i → nthOf ids i = some id := by
    intro i id e
    obtain ⟨h1, h2⟩ := idxIn_some e
    obtain ⟨j, rfl⟩ : ∃ j, i = j + 1 := ⟨i - 1, by omega⟩
    rw [nthOf_eq]; simpa using h2
  have hlx : ∀ {j l : Nat}, idxIn labs 1 l = some j → nthOf labs j = some l := by
    intro i id e
    obtain ⟨h1, h2⟩ := idxIn_some e
    obtain ⟨j, rfl⟩ : ∃ j, i = j + 1 := ⟨i - 1, by omega⟩
    rw [nthOf_eq]; simpa using h2
  have hld : ∀ {j l : Nat}, nthOf labs j = some l → j ≠ 0 ∧ l ∈ labs ∧ S.at (.l l) = .flag true := by
    intro j l e
    cases j with
    | zero => rw [nthOf_zero] at e; cases e
    | succ j =>
      rw [nthOf_eq] at e
      have hm := List.mem_of_getElem? e
      exact ⟨by omega, hm, liveL_iff.mp (hl l hm)⟩
  have hlinj : ∀ {j j' l : Nat}, nthOf labs j = some l → nthOf labs j' = some l → j = j' := by
    intro j j' l e e'
    cases j with
    | zero => rw [nthOf_zero] at e; cases e
    | succ j =>
      cases j' with
      | zero => rw [nthOf_zero] at e'; cases e'
      | succ j' =>
        rw [nthOf_eq] at e e'
        rw [nodupB_get hln e e']
  -- the callee's view
  let ι0 : Inj := fun i => (nthOf ids i).bind ι
  let T0 : Labs := fun j => (nthOf labs j).bind T
  let old0 : Nat → Prop := fun b => b < w.heap.size ∧ (∀ i, ι0 i ≠ some b) ∧ ∀ j y, T0 j = some y → ¬ Spare y.1 b
  let ex0 : Exs := fun v lab u => lab = none ∧ ((∃ i b, 1 ≤ i ∧ i ≤ k ∧ ι0 i = some b ∧ v = .ptr i 0 ∧ u = .pointer (some ⟨b, 0, none⟩)) ∨ (∃ b o' y, st b o' ∧ w.cell? ⟨b, o', none⟩ = some y ∧ y.oneCell' = true ∧ v = .cptr [.raw y] 0 ∧ u = .pointer (some ⟨b, o', none⟩)))
  have hι0 : ∀ {i id b : Nat}, nthOf ids i = some id → (ι0 i = some b ↔ ι id = some b) := fun {i id b} e => by
    show (nthOf ids i).bind ι = some b ↔ _
    rw [e]; rfl
  have hι0' : ∀ {i b : Nat}, ι0 i = some b → ∃ id, nthOf ids i = some id ∧ ι id = some b := fun {i b} e => Option.bind_eq_some_iff.mp e
  have hT0' : ∀ {j : Nat} {y : Value × Nat}, T0 j = some y → ∃ l, nthOf labs j = some l ∧ T l = some y := fun {j y} e => Option.bind_eq_some_iff.mp e
  have hg : ∀ id i b, idxIn ids 1 id = some i → id < HID → ι id = some b → ι0 i = some b ∧ i < HID := fun id i b e _ e' => ⟨(hι0 (hix e)).mpr e', Nat.lt_of_le_of_lt (hid (hix e)).2.1 hkH⟩
  have hh : ∀ l j y, idxIn labs 1 (l + 1) = some j → T (l + 1) = some y → j ≠ 0 ∧ T0 j = some y := fun l j y e e' => by
    have := hlx e
    refine ⟨(hld this).1, ?_⟩
    show (nthOf labs j).bind T = _
    rw [this]; exact e'
  have hsize := hI.below.size
  have holdB : ∀ b, B.old b → old0 b := by
    intro b hb
    refine ⟨Nat.lt_of_lt_of_le (hI.oldlt b hb) hsize, fun i e => ?_, fun j y e hs => ?_⟩
    · obtain ⟨id, e1, e2⟩ := hι0' e
      obtain ⟨b', us, ty, e3, _, _, e4, _⟩ := hI.obj id _ (hid e1).2.2.2
      rw [e2] at e3; cases e3
      exact e4 hb
    · obtain ⟨l, e1, e2⟩ := hT0' e
      obtain ⟨u, sz, e3, a, n, cap, eu, _, hr⟩ := hI.lab l (hld e1).2.2
      rw [e2] at e3; cases e3
      obtain ⟨o', n', cap', es, hlt⟩ := hs
      simp only at es
      rw [eu] at es; cases es
      obtain ⟨b', o1, us, ty, ea, _, hno, _⟩ := hr hlt
      cases ea
      exact hno hb
  -- other blocks are old for the callee
  have hfar : ∀ id b, ι id = some b → idxIn ids 1 id = none → old0 b := by
    intro id b e hn
    obtain ⟨cs, hc⟩ := hI.plain hnb e
    obtain ⟨b', us, ty, e1, hh1, _, _, _⟩ := hI.obj id cs hc
    rw [e] at e1; cases e1
    refine ⟨lt_of_heap hh1, fun i e' => ?_, fun j y e' hs => ?_⟩
    · obtain ⟨id', e3, e4⟩ := hι0' e'
      have := hI.inj _ _ _ e4 e
      subst this
      rw [(hid e3).2.2.1] at hn; cases hn
    · obtain ⟨l, e3, e4⟩ := hT0' e'
      obtain ⟨u, sz, e5, a, n, cap, eu, _, hr⟩ := hI.lab l (hld e3).2.2
      rw [e4] at e5; cases e5
      obtain ⟨o', n', cap', es, hlt⟩ := hs
      simp only at es
      rw [eu] at es; cases es
      obtain ⟨b', o1, us', ty', ea, _, _, hno, _⟩ := hr hlt
      cases ea
      exact hno id e
  have hfarL : ∀ l y b, S.at (.l l) = .flag true → l ∉ labs → T l = some y → Spare y.1 b → old0 b := by
    intro l y b hfl hnl e hs
    obtain ⟨u, sz, e5, a, n, cap, eu, _, hr⟩ := hI.lab l hfl
    rw [e] at e5; cases e5
    have hs' := hs
    obtain ⟨o', n', cap', es, hlt⟩ := hs
    simp only at es
    rw [eu] at es; cases es
    obtain ⟨b', o1, us', ty', ea, hh1, _, hno, _⟩ := hr hlt
    cases ea
    refine ⟨lt_of_heap hh1, fun i e' => ?_, fun j y' e' hs2 => ?_⟩
    · obtain ⟨id', _, e4⟩ := hι0' e'
      exact hno id' e4
    · obtain ⟨l', e3, e4⟩ := hT0' e'
      have := hI.one l l' _ _ b hfl (hld e3).2.2 e e4 hs' hs2
      subst this
      exact hnl (hld e3).2.1
  have hWB0 : WB W ⟨w, st, old0⟩ := ⟨hB.2 w hI.below, fun w' hk => hB.2 w' (hI.below.trans (hk.mono holdB))⟩
  have hI0 : Inv ⟨w, st, old0⟩ ι0 T0 st (canonS S ids labs).at ex0 w := by
    refine ⟨Keeps.refl _ _, fun b hb => hb.1, fun _ _ h => h, fun _ _ h => .inl h, hI.lt, ?_, ?_, ?_, ?_, ?_, ?_, ?_, ?_, ?_, ?_⟩
    · rintro v lab u ⟨rfl, ⟨i, b, _, hik, e, rfl, rfl⟩ | ⟨b, o', y, h1, h2, h3, rfl, rfl⟩⟩
      · exact ⟨⟨b, ⟨e, Nat.lt_of_le_of_lt hik hkH⟩, rfl⟩, trivial⟩
      · exact ⟨⟨b, o', by rw [Nat.add_zero], ⟨y, h1, h2, h3, rfl⟩, trivial⟩, trivial⟩
    · intro i cs e
      rw [canonS_o] at e
      split at e
      · rename_i id hn
        cases e
        obtain ⟨b, us, ty, e1, e2, e3, e4, e5⟩ := hI.obj id _ (hid hn).2.2.2
        exact ⟨b, us, ty, (hι0 hn).mpr e1, e2, e3.ren hg hh, fun hb => hb.2.1 i ((hι0 hn).mpr e1), e5⟩
      · cases e
    · intro i b e
      obtain ⟨id, e1, e2⟩ := hι0' e
      exact ⟨.inl (by rw [canonS_o, e1]; trivial), (hI.dom id b e2).2⟩
    · intro i e
      rw [canonS_o] at e
      split at e
      · rename_i id hn
        exact Nat.lt_of_le_of_lt (hid hn).2.1 hkH
      · exact e.elim
    · intro i bs e
      rw [canonS_o] at e
      split at e <;> cases e
    · intro i t b hlo e e'
      obtain ⟨id, e1, e2⟩ := hι0' e'
      rw [canonS_y, e1] at e
      exact hI.ty id t b (hI.lo id (by rw [(hid e1).2.2.2]; trivial)) e e2
    · intro i i' b e e'
      obtain ⟨id, e1, e2⟩ := hι0' e
      obtain ⟨id', e3, e4⟩ := hι0' e'
      have := hI.inj _ _ _ e2 e4
      subst this
      have h1 := (hid e1).2.2.1
      rw [(hid e3).2.2.1] at h1; cases h1; rfl
    · intro j e
      rw [canonS_l] at e
      split at e
      · rename_i l hn
        obtain ⟨u, sz, e1, a, n, cap, eu, hc, hr⟩ := hI.lab l (hld hn).2.2
        have eT : T0 j = some (u, sz) := by show (nthOf labs j).bind T = _; rw [hn]; exact e1
        refine ⟨u, sz, eT, a, n, cap, eu, hc, fun hlt => ?_⟩
        obtain ⟨b, o1, us, ty, ea, h1, _, h3, h4⟩ := hr hlt
        refine ⟨b, o1, us, ty, ea, h1, fun hb => hb.2.2 j _ eT ⟨o1, n, cap, by rw [eu, ea], hlt⟩, fun i e' => ?_, h4⟩
        obtain ⟨id, _, e4⟩ := hι0' e'
        exact h3 id e4
      · cases e
    · intro j y e
      obtain ⟨l, e1, _⟩ := hT0' e
      exact ⟨true, by rw [canonS_l, e1]⟩
    · intro j j' y y' b e e' t t' s s'
      obtain ⟨l, e1, e2⟩ := hT0' t
      obtain ⟨l', e3, e4⟩ := hT0' t'
      have := hI.one l l' _ _ b (hld e1).2.2 (hld e3).2.2 e2 e4 s s'
      subst this
      exact hlinj e1 e3
  refine Calls.mono (hcall ⟨w, st, old0⟩ ex0 ι0 T0 st w vals ?_ hWB0 hI0 (VRels.ren hg _ _ hv)) ?_
  · intro p hp
    unfold canonS at hp
    simp only [List.mem_cons, List.mem_append] at hp
    have h1 : ∀ (g h : Nat → Option Nat) (ids : List Nat) (k : Nat), NoT (canonO S g h ids k) := by
      intro g h ids
      induction ids with
      | nil => intro k p hp; cases hp
      | cons a ids ih =>
        intro k p hp
        rcases List.mem_cons.mp hp with rfl | hp
        · rfl
        · exact ih _ p hp
    have h2 : ∀ (ls : List Nat) (k : Nat), NoT (canonF ls k) := by
      intro ls
      induction ls with
      | nil => intro k p hp; cases hp
      | cons a ids ih =>
        intro k p hp
        rcases List.mem_cons.mp hp with rfl | hp
        · rfl
        · exact ih _ p hp
    have h3 : ∀ (ids : List Nat) (k : Nat), NoT (canonY S ids k) := by
      intro ids
      induction ids with
      | nil => intro k p hp; cases hp
      | cons a ids ih =>
        intro k p hp
        rcases List.mem_cons.mp hp with rfl | hp
        · rfl
        · exact ih _ p hp
    rcases hp with rfl | hp | hp | hp
    · rfl
    · exact h1 _ _ _ _ p hp
    · exact h2 _ _ p hp
    · exact h3 _ _ p hp
  rintro e w' ⟨u, hend, ι1, T1, st1, hI1⟩
  have hend' : (renOc (nthOf ids) o).ends u e := by cases o <;> exact hend
  obtain ⟨ι2, T2, hI2⟩ := canA_inv (hint := []) (keep := upTo k) (tm := #[]) (fl := 1) (n0 := 1) (susp := fun v' lab u' => ex0 v' lab u' ∨ (v' = o.val ∧ lab = none ∧ u' = u)) (hI1.exs fun v lab u hh => .inl (hnt1.live hh)) (Nat.le_refl _) (Nat.le_refl _) (by
    rintro v lab u' (⟨rfl, ⟨i, b, h1, h2, _, rfl, _⟩ | ⟨b, o', y, _, _, _, rfl, _⟩⟩ | ⟨rfl, rfl, _⟩)
    · exact ⟨List.any_eq_true.mpr ⟨i, upTo_mem.mpr ⟨h1, h2⟩, by simp⟩, fun l h => by cases h⟩
    · exact ⟨rfl, fun l h => by cases h⟩
    · exact ⟨hrefs, fun l h => by cases h⟩)
  have hlive2 : ∀ v u', ex0 v none u' ∨ (v = o.val ∧ u' = u) → VRel st1 w' ι2 v u' := by
    intro v u' hh
    exact (hI2.live v none u' (.inr (hh.imp id fun h => ⟨h.1, rfl, h.2⟩))).1
  have hι2 : ∀ {i b : Nat}, ι0 i = some b → ι2 i = some b := by
    intro i b e
    obtain ⟨id, e1, _⟩ := hι0' e
    obtain ⟨b', k1, k2⟩ := hlive2 (.ptr i 0) (.pointer (some ⟨b, 0, none⟩)) (.inl ⟨rfl, .inl ⟨i, b, (hid e1).1, (hid e1).2.1, e, rfl, rfl⟩⟩)
    cases k2
    exact k1.1
  have hst : StaysW st w st1 w' := by
    refine ⟨hI2.sub, fun b o' y h1 h2 h3 => ?_⟩
    obtain ⟨b1, o1, k1, ⟨y', _, k2, _, k3⟩, _⟩ := hlive2 (.cptr [.raw y] 0) (.pointer (some ⟨b, o', none⟩)) (.inl ⟨rfl, .inr ⟨b, o', y, h1, h2, h3, rfl, rfl⟩⟩)
    cases k1
    rw [Nat.add_zero] at *
    rw [k2]; exact congrArg some k3
  have hkept : ∀ b, old0 b → w'.heap[b]? = w.heap[b]? := fun b hb => hI2.below.block b hb
  have hstnew : ∀ b o', st1 b o' → st b o' ∨ ¬ old0 b := hI2.new
  have hlabx : ∀ l, x ≤ l → S.at (.l l) = .none := by
    intro l hl
    cases e : S.at (.l l) with
    | none => rfl
    | _ => exact absurd (labsBelow_mem hx (at_mem e (by simp))) (by omega)
  have hlablt : ∀ l ∈ labs, l < x := by
    intro l hm
    rcases Nat.lt_or_ge l x with h | h
    · exact h
    · have := liveL_iff.mp (hl l hm)
      rw [hlabx l h] at this; cases this
  have hlabx' : ∀ l, x ≤ l → (nonT S).at (.l l) = .none := fun l h => by rw [nonT_at rfl]; exact hlabx l h
  let TF : Labs := fun l => if x ≤ l then T2 (l - x) else T l
  have hTlt : ∀ {l : Nat} {y : Value × Nat}, T l = some y → l < x := by
    intro l y e
    obtain ⟨b, hb⟩ := hI.labd l y e
    rcases Nat.lt_or_ge l x with h | h
    · exact h
    · rw [hlabx l h] at hb; cases hb
  have hTF : ∀ l y, T l = some y → TF l = some y := fun l y e => by
    show (if x ≤ l then _ else _) = _
    rw [if_neg (by have := hTlt e; omega)]; exact e
  have hTF2 : ∀ l, TF (l + x) = T2 l := fun l => by
    show (if x ≤ l + x then T2 (l + x - x) else _) = _
    rw [if_pos (by omega), Nat.add_sub_cancel]
  have hgb : ∀ i id b, nthOf ids i = some id → i < HID → ι2 i = some b → ι id = some b ∧ id < HID := by
    intro i id b e _ e'
    obtain ⟨b', us, ty, e1, _⟩ := hI.obj id _ (hid e).2.2.2
    have := hι2 ((hι0 e).mpr e1)
    rw [e'] at this; cases this
    exact ⟨e1, hI.lo id (by rw [(hid e).2.2.2]; trivial)⟩
  have hfar2 : ∀ b, (∃ i, ι2 i = some b) → ¬ old0 b := by
    rintro b ⟨i, e⟩
    exact (hI2.own e).1
  refine ⟨u, hend', ι, TF, st1, ?_⟩
  refine ⟨hI.below.trans (hI2.below.mono holdB), hI.oldlt, fun b o' h => hI2.sub b o' (hI.sub b o' h), fun b o' h => ?_, hI2.lt, ?_, ?_, ?_, ?_, ?_, ?_, hI.inj, ?_, ?_, ?_⟩
  · rcases hstnew b o' h with h | h
    · exact hI.new b o' h
    · exact .inr fun hb => h (holdB b hb)
  · rintro v lab u' (hs | ⟨rfl, rfl, rfl⟩)
    · obtain ⟨k1, k2⟩ := hI.live v lab u' hs
      exact ⟨VRel.monoW hst (ιLe.refl ι) _ _ k1, k2.mono hTF⟩
    · refine ⟨?_, trivial⟩
      have : (renOc (nthOf ids) o).val = renA (nthOf ids) o.val := by cases o <;> rfl
      rw [this]
      exact VRel.ren hgb _ _ (hlive2 o.val u' (.inr ⟨rfl, rfl⟩))
  · intro id cs e
    rw [graft_o] at e
    split at e
    · rename_i i hn
      cases e
      have hni := hix hn
      obtain ⟨b, us, ty, e1, _⟩ := hI.obj id _ (hid hni).2.2.2
      have e2 := hι2 ((hι0 hni).mpr e1)
      obtain ⟨cs2, hc2⟩ := hI2.plain hnb2 e2
      obtain ⟨b', us2, ty2, k1, k2, k3, k4, k5⟩ := hI2.obj i cs2 hc2
      rw [e2] at k1; cases k1
      have : cellsO (canA [] (upTo k) 1 1 S1) i = cs2 := by unfold cellsO; rw [hc2]
      rw [this]
      exact ⟨b, us2, ty2, e1, k2, k3.ren hgb fun l j y ej et => by
        cases ej
        exact ⟨by omega, by rw [hTF2]; exact et⟩, fun hb => k4 (holdB b hb), k5⟩
    · rename_i hn
      rw [nonT_at rfl] at e
      obtain ⟨b, us, ty, e1, e2, e3, e4, e5⟩ := hI.obj id cs e
      have hold := hfar id b e1 hn
      exact ⟨b, us, ty, e1, (hkept b hold).trans e2, LRels.monoW hst (ιLe.refl ι) hTF e3, e4, fun o' h => (hstnew b o' h).elim (e5 o') fun h => h hold⟩
  · intro id b e
    obtain ⟨cs, hc⟩ := hI.plain hnb e
    refine ⟨.inl ?_, ?_⟩
    · rw [graft_o]
      cases hn : idxIn ids 1 id with
      | some i => trivial
      | none => simp only; rw [nonT_at rfl, hc]; trivial
    · have := hI2.below.size
      exact Nat.lt_of_lt_of_le (hI.dom id b e).2 this
  · intro id e
    rw [graft_o] at e
    cases hn : idxIn ids 1 id with
    | some i => exact hI.lo id (by rw [(hid (hix hn)).2.2.2]; trivial)
    | none => rw [hn] at e; simp only at e; rw [nonT_at rfl] at e; exact hI.lo id e
  · intro id bs e
    rw [graft_o] at e
    cases hn : idxIn ids 1 id with
    | some i => rw [hn] at e; cases e
    | none => rw [hn] at e; simp only at e; rw [nonT_at rfl] at e; exact absurd e (noBld_at hnb)
  · intro id t b hlo e e'
    rw [graft_y] at e
    cases hn : idxIn ids 1 id with
    | some i =>
      rw [hn] at e
      exact hI2.ty i t b (Nat.lt_of_le_of_lt (hid (hix hn)).2.1 hkH) e (hι2 ((hι0 (hix hn)).mpr e'))
    | none =>
      rw [hn] at e
      simp only at e
      rw [nonT_at rfl] at e
      obtain ⟨us, hh⟩ := hI.ty id t b hlo e e'
      exact ⟨us, (hkept b (hfar id b e' hn)).trans hh⟩
  · intro l e
    rcases Nat.lt_or_ge l x with hlt | hge
    · rw [graft_lt hlt] at e
      cases hm : labs.any (Nat.beq l) with
      | true => rw [hm] at e; cases e
      | false =>
        rw [hm] at e
        simp only [cond_false] at e
        rw [nonT_at rfl] at e
        have hnl : l ∉ labs := fun h => by
          have := List.any_eq_false.mp hm l h
          simp at this
        obtain ⟨u', sz, e1, a, n, cap, eu, hc, hr⟩ := hI.lab l e
        refine ⟨u', sz, hTF _ _ e1, a, n, cap, eu, hc, fun hlt' => ?_⟩
        obtain ⟨b, o1, us, ty, ea, h1, h2, h3, h4, h5⟩ := hr hlt'
        have hold := hfarL l _ b e hnl e1 ⟨o1, n, cap, by rw [eu, ea], hlt'⟩
        exact ⟨b, o1, us, ty, ea, (hkept b hold).trans h1, h2, h3, h4, fun o' ho h => (hstnew b o' h).elim (h5 o' ho) fun h => h hold⟩
    · obtain ⟨l, rfl⟩ : ∃ j, l = j + x := ⟨l - x, by omega⟩
      rw [graft_ge hlablt hlabx'] at e
      obtain ⟨u', sz, e1, a, n, cap, eu, hc, hr⟩ := hI2.lab l e
      refine ⟨u', sz, by rw [hTF2]; exact e1, a, n, cap, eu, hc, fun hlt' => ?_⟩
      obtain ⟨b, o1, us, ty, ea, h1, h2, h3, h4, h5⟩ := hr hlt'
      refine ⟨b, o1, us, ty, ea, h1, fun hb => h2 (holdB b hb), fun id e' => ?_, h4, h5⟩
      cases hn : idxIn ids 1 id with
      | none => exact h2 (hfar id b e' hn)
      | some i => exact h3 i (hι2 ((hι0 (hix hn)).mpr e'))
  · intro l y e
    rcases Nat.lt_or_ge l x with hlt | hge
    · have e : T l = some y := by
        have e : (if x ≤ l then T2 (l - x) else T l) = some y := e
        rwa [if_neg (by omega)] at e
      rw [graft_lt hlt]
      obtain ⟨b, hb⟩ := hI.labd l y e
      cases hm : labs.any (Nat.beq l) with
      | true => exact ⟨false, rfl⟩
      | false => exact ⟨b, by rw [cond_false, nonT_at rfl]; exact hb⟩
    · obtain ⟨l, rfl⟩ : ∃ j, l = j + x := ⟨l - x, by omega⟩
      rw [hTF2] at e
      rw [graft_ge hlablt hlabx']
      exact hI2.labd l y e
  · have lo : ∀ {l : Nat} {y : Value × Nat} {b : Nat}, l < x → (graft ids labs x m (canA [] (upTo k) 1 1 S1) (nonT S)).at (.l l) = .flag true → TF l = some y → Spare y.1 b → S.at (.l l) = .flag true ∧ T l = some y ∧ old0 b := by
      intro l y b hlt e t s
      rw [graft_lt hlt] at e
      cases hm : labs.any (Nat.beq l) with
      | true => rw [hm] at e; cases e
      | false =>
        rw [hm] at e
        simp only [cond_false] at e
        rw [nonT_at rfl] at e
        have hnl : l ∉ labs := fun h => by
          have := List.any_eq_false.mp hm l h
          simp at this
        have t : T l = some y := by
          have t : (if x ≤ l then T2 (l - x) else T l) = some y := t
          rwa [if_neg (by omega)] at t
        exact ⟨e, t, hfarL l y b e hnl t s⟩
    have hi2 : ∀ {l : Nat} {y : Value × Nat} {b : Nat}, x ≤ l → (graft ids labs x m (canA [] (upTo k) 1 1 S1) (nonT S)).at (.l l) = .flag true → TF l = some y → Spare y.1 b → (canA [] (upTo k) 1 1 S1).at (.l (l - x)) = .flag true ∧ T2 (l - x) = some y ∧ ¬ old0 b := by
      intro l y b hge e t s
      obtain ⟨l, rfl⟩ : ∃ j, l = j + x := ⟨l - x, by omega⟩
      rw [graft_ge hlablt hlabx'] at e
      rw [hTF2] at t
      rw [Nat.add_sub_cancel]
      refine ⟨e, t, ?_⟩
      obtain ⟨u', sz, e1, a, n, cap, eu, hc, hr⟩ := hI2.lab l e
      rw [t] at e1; cases e1
      obtain ⟨o', n', cap', es, hlt⟩ := s
      simp only at es
      rw [eu] at es; cases es
      obtain ⟨b', o1, us, ty, ea, _, h2, _⟩ := hr hlt
      cases ea
      exact h2
    intro l l' y y' b e e' t t' s s'
    rcases Nat.lt_or_ge l x with h | h <;> rcases Nat.lt_or_ge l' x with h' | h'
    · have a1 := lo h e t s
      have a2 := lo h' e' t' s'
      exact hI.one l l' y y' b a1.1 a2.1 a1.2.1 a2.2.1 s s'
    · exact absurd (lo h e t s).2.2 (hi2 h' e' t' s').2.2
    · exact absurd (lo h' e' t' s').2.2 (hi2 h e t s).2.2
    · have a1 := hi2 h e t s
      have a2 := hi2 h' e' t' s'
      have := hI2.one _ _ y y' b a1.1 a2.1 a1.2.1 a2.2.1 s s'
      omega

/-- A ROW OF CALLS THAT SHARE BLOCKS. -/
theorem rowOf_ok {P : Program} {W : World → Prop} {X : Cx} (hP : ProgOK P) (hG : ∀ w, W w → GlobOK X.G w) (hWW : WW W) (hX : TableOK P W X) (hR : RowsOK P W X) {k : Nat} {f : FuncId} {spec : List AV → St → Ans (Oc × St)}
    (h : ∀ args S o S2, (spec args S).val = some (o, S2) → ∃ n, runO P X n k f args S = some (o, S2)) : ∀ args S c S', (rowOf k spec args S).val = some (c, S') → InlOK P W f args S c S' := by
  intro args S c S' hr
  unfold rowOf at hr
  split at hr
  · cases hr
  rename_i x hx
  simp only at hr
  generalize hids : reach S 40 (idsA.all args []) [] = ids at hr
  generalize hlabs : labsO S ids [] = labs at hr
  cases hc : (Nat.beq ids.length k && (ids.all (isObj S) && nodupB ids) && (labs.all (liveL S) && nodupB labs) && (labsBelow x S && Nat.ble 1 x && (noBld S && Nat.blt k HID))) with
  | false => rw [hc] at hr; cases hr
  | true =>
    rw [hc] at hr
    simp only [Bool.and_eq_true] at hc
    obtain ⟨⟨⟨h0, h1, h2⟩, h3, h4⟩, ⟨h5, h6⟩, h7, h8⟩ := hc
    simp only [cond_true, Ans.val_map, Option.map_eq_some_iff] at hr
    obtain ⟨⟨o, S2⟩, hs, hr⟩ := hr
    simp only [Prod.mk.injEq] at hr
    obtain ⟨rfl, rfl⟩ := hr
    obtain ⟨n, hn⟩ := h _ _ _ _ hs
    obtain ⟨o1, S1, k1, k2⟩ := runI_ok hP hG hWW hX hR n _ _ _ _ _ _ hn
    have : o1 = o := by
      unfold obs at k1
      cases hr : (refsIn (upTo k) o1.val && noBld (canA [] (upTo k) 1 1 S1)) with
      | false => rw [hr] at k1; cases k1
      | true => rw [hr] at k1; simp only [cond_true, Option.some.injEq, Prod.mk.injEq] at k1; exact k1.1
    subst this
    exact frame_ok k2 k1 (Nat.eq_of_beq_eq_true h0) h1 h2 h3 h4 h5 (Nat.le_of_ble_eq_true h6) h7 (Nat.le_of_ble_eq_true h8)
end Go.Proofs.YtgeheffhdpeddaaDoor.VX

/- A RUN THAT BEGINS AT A LOOP's HEAD: what the equations of loops are told with; which temporaries live at a loop's head. Definitions alone. Conditions: none. -/
namespace Go.Proofs.YtgeheffhdpeddaaDoor.VX
open Go

/-! ### what lives at a loop's head -/
def usesOf (os : List Operand) : List Nat := os.filterMap fun | .tmp t => some t | _ => none
def addTo : List Nat → List Nat → List Nat
  | [], s => s
  | x :: l, s => addTo l (bif s.any (Nat.beq x) then s else x :: s)
def lessT (s : List Nat) : Option Nat → List Nat
  | none => s
  | some d => s.filter fun x => !Nat.beq x d
def liveOps (all : List Oper) (out : List Nat) : List Oper → List Nat
  | [] => out
  | o :: ops => addTo (usesOf o.op.operands.toList ++ (match o.guard with | some (g, _) => (match (all[g]?).bind (·.dst) with | some t => [t] | none => []) | none => [])) (lessT (liveOps all out ops) o.dst)
def outAt (id : Nat) : List (Nat × List Nat) → List Nat
  | [] => []
  | (j, l) :: r => bif Nat.beq j id then l else outAt id r
/-- What lives ahead of a piece of code; the loops' heads are gathered. -/
def liveC (ret : List Nat) : Code → List Nat → List (Nat × List Nat) → List (Nat × List Nat) → List Nat × List (Nat × List Nat)
  | .skip, out, _, acc => (out, acc)
  | .region _ ops _, out, _, acc => (liveOps ops.toList out ops.toList, acc)
  | .seq a b, out, exs, acc => let (l, acc) := liveC ret b out exs acc; liveC ret a l exs acc
  | .cond c a b, out, exs, acc =>
    let (l1, acc) := liveC ret a out exs acc
    let (l2, acc) := liveC ret b out exs acc
    (addTo (usesOf [c]) (addTo l1 l2), acc)
  | .block id c, out, exs, acc =>
    match c with
    | .loop c =>
      let exs := (id, out) :: exs
      let l0 := (liveC ret c [] exs []).1
      let l1 := (liveC ret c l0 exs []).1
      let (l2, acc) := liveC ret c l1 exs acc
      (l2, (id, l2) :: acc)
    | c => liveC ret c out ((id, out) :: exs) acc
  | .exit id, _, exs, acc => (outAt id exs, acc)
  | .ret, _, _, acc => (ret, acc)
  | .scope c, out, exs, acc => liveC ret c out exs acc
  | _, out, _, acc => (out, acc)
def retsOf : List ResultVar → List Nat
  | [] => []
  | .tmp t :: r => t :: retsOf r
  | .cell a _ :: r => a :: retsOf r
def hintsOf (fn : Func) : List (Nat × List Nat) :=
  match fn.body with
  | some c => (liveC (retsOf fn.results.toList) c (retsOf fn.results.toList) [] []).2
  | none => []

/-! ### from a loop's head on -/
/-- Does the loop of this number stand in the code? -/
def hasLoop (b : Nat) : Code → Bool
  | .seq x y => hasLoop b x || hasLoop b y
  | .cond _ x y => hasLoop b x || hasLoop b y
  | .block id c => (match c with | .loop c => Nat.beq id b || hasLoop b c | c => hasLoop b c)
  | .scope c => hasLoop b c
  | _ => false

/-- Each loop with the loops around it, the outermost first. -/
def nests : List Nat → Code → List (Nat × List Nat)
  | ps, .seq x y => nests ps x ++ nests ps y
  | ps, .cond _ x y => nests ps x ++ nests ps y
  | ps, .block id c => (match c with | .loop c => (id, ps) :: nests (ps ++ [id]) c | c => nests ps c)
  | ps, .scope c => nests ps c
  | _, _ => []
def nestsOf (fn : Func) : List (Nat × List Nat) :=
  match fn.body with
  | some c => nests [] c
  | none => []

/-- A loop that is under way: its number, the rounds that may still come, the blocks kept, the first label. -/
structure Way where
  id : Nat
  m : Nat
  keep : List Nat
  n0 : Nat

section
variable (P : Program) {R : Type} (cf : FuncId → List AV → (AV → Option R) → Option R) (ci : FuncId → List AV → St → (Oc → St → Option R) → Option R) (inl : FuncId → Option Bool)
noncomputable def enterA (it : (St → (Ex → St → Option R) → Option R) → (St → St) → Nat → St → (Ex → St → Option R) → Option R) (G : Globs) (hint : Nat → List Nat) (fl n : Nat) : List Way → Code → St → (Ex → St → Option R) → Option R
  | [], _, _, _ => none
  | y :: ys, .seq a b, S, K => bif hasLoop y.id a then enterA it G hint fl n (y :: ys) a S fun e S => match e with | .normal => execA P cf ci inl G hint fl n b S K | e => K e S else enterA it G hint fl n (y :: ys) b S K
  | y :: ys, .cond _ a b, S, K => bif hasLoop y.id a then enterA it G hint fl n (y :: ys) a S K else enterA it G hint fl n (y :: ys) b S K
  | y :: ys, .block id c, S, K =>
    let K' : Ex → St → Option R := fun e S => match e with | .exit j => bif Nat.beq j id then K .normal S else K e S | e => K e S
    match c with
    | .loop c =>
      let can := canA (hint id) y.keep y.n0 fl
      let body : St → (Ex → St → Option R) → Option R := fun S K => execA P cf ci inl G hint fl n c S K
      match ys with
      | [] => it body can y.m S K'
      | _ :: _ => enterA it G hint fl n ys c S fun e S => match e with | .normal => iterO body can y.m (can S) K' | e => K' e S
    | c => enterA it G hint fl n (y :: ys) c S K'
  | y :: ys, .scope c, S, K => enterA it G hint fl n (y :: ys) c S K
  | _, _, _, _ => none
end
/-- A call from a loop's head on. -/
noncomputable def runLK (P : Program) (X : Cx) (R : Type) (it : (St → (Ex → St → Option R) → Option R) → (St → St) → Nat → St → (Ex → St → Option R) → Option R) (n fl : Nat) (f : FuncId) (ys : List Way) (S : St) (K : Oc → St → Option R) : Option R :=
  match P.funcs[f]? with
  | none => none
  | some fn =>
    match fn.body with
    | some c =>
      enterA P (R := R) (fun f args K => bif pureAV.pures args then (match X.table f with | some g => askT (g args) K | none => (runI P X n AV f args [(.x, .num 1)] letGo).bind K) else (match X.pj f with | some g => askT (g args) K | none => none))
          (fun f args S K => match X.rows f with | some g => askT (g args S) fun p => K p.1 p.2 | none => runI P X n R f args S K) X.inl it X.G (X.hints f) fl n ys c S fun e S =>
            match e with
            | .exit _ => none
            | .pan v => K (.pan v) (nonT S)
            | _ => (resA P X.G fn.results.toList fn.resultTypes.toList).go (fun _ _ => none) S [] fun vs _ => K (.ret (tupA vs)) (nonT S)
    | _ => none
/-- A call of plain arguments from a loop's head on. -/
noncomputable def runL (P : Program) (X : Cx) (n : Nat) (f : FuncId) (ys : List Way) (S : St) : Option AV := runLK P X AV iterO n 1 f ys S letGo
/-- A call that shares blocks, in the one form, from a loop's head on. -/
noncomputable def runLO (P : Program) (X : Cx) (n fl k : Nat) (f : FuncId) (ys : List Way) (S : St) : Option (Oc × St) := runLK P X (Oc × St) iterO n fl f ys S (obs k)
/-- The loop's first round opened. -/
noncomputable def runLR (P : Program) (X : Cx) (n : Nat) (f : FuncId) (ys : List Way) (S : St) : Option AV := runLK P X AV roundA n 1 f ys S letGo
theorem runL_round (P : Program) (X : Cx) (n : Nat) (f : FuncId) (ys : List Way) (S : St) : runL P X n f ys S = runLR P X n f ys S := by unfold runL runLR; rw [← roundA_eq]
noncomputable def runLOR (P : Program) (X : Cx) (n fl k : Nat) (f : FuncId) (ys : List Way) (S : St) : Option (Oc × St) := runLK P X (Oc × St) roundA n fl f ys S (obs k)
theorem runLO_round (P : Program) (X : Cx) (n fl k : Nat) (f : FuncId) (ys : List Way) (S : St) : runLO P X n fl k f ys S = runLOR P X n fl k f ys S := by unfold runLO runLOR; rw [← roundA_eq]
end Go.Proofs.YtgeheffhdpeddaaDoor.VX

/- WHICH TEMPORARIES LIVE at the loops' heads (told by the tool; a wrong one would cost an equation, never a law). Conditions: none. -/
namespace Go.Proofs.YtgeheffhdpeddaaDoor.VX
open Go
def hintL : List (Nat × List (Nat × List Nat)) := [
  (6, [(0, [0, 6, 5, 1])]),
  (9, [(0, [4, 3, 5])]),
  (10, [(0, [0, 5, 3, 4])]),
  (18, [(0, [0, 7, 6, 5]), (3, [0, 7, 6, 5])]),
  (12, [(0, [1, 12, 11]), (2, [31, 1, 30, 32, 7, 6])]),
  (13, [(0, [1, 4, 5]), (2, [5, 4, 1, 7, 6])]),
  (15, [(0, [66, 65, 67, 4, 10, 6, 9, 2, 3])]),
  (22, [(0, [0, 4, 3])]),
  (25, [(0, [5, 4, 0, 3])]),
  (26, [(0, [1, 0, 5])]),
  (51, [(0, [0, 3])]),
  (161, [(0, [0, 4, 3])]),
  (28, [(1, [40, 39, 41, 5, 0, 1]), (3, [64, 1, 63, 65, 8])]),
  (34, [(0, [0, 6, 7, 2])]),
  (36, [(0, [1, 0, 5])]),
  (48, [(0, [0, 4, 3])]),
  (55, [(0, [0, 7, 6, 1, 4, 5])]),
  (46, [(0, [1, 2, 5])]),
  (58, [(0, [0, 1])]),
  (69, [(0, [0, 1])]),
  (73, [(0, [0, 6, 4, 5])]),
  (74, [(0, [0, 6, 1, 7, 4, 5])]),
  (87, [(0, [1, 4, 0])]),
  (88, [(2, [17, 13, 1, 3, 4, 11, 0, 12, 10]), (0, [15, 14, 16, 13, 1, 3, 4, 11, 0, 12, 10])]),
  (89, [(3, [101, 100, 10, 1, 11, 8, 99, 12, 9, 13])]),
  (101, [(0, [0, 5, 4, 3])]),
  (999999, [])]
def hintAt (f b : Nat) : List Nat := outAt b (hintFn f hintL)
  where hintFn (f : Nat) : List (Nat × List (Nat × List Nat)) → List (Nat × List Nat)
  | [] => []
  | (g, l) :: r => bif Nat.beq g f then l else hintFn f r
/-- No table yet. -/
def X0 : Cx := { G := fun _ => none, table := fun _ => none, hints := hintAt }
end Go.Proofs.YtgeheffhdpeddaaDoor.VX

/- THE PROGRAM is one that the executor's law holds of. Conditions: none. -/
namespace Go.Proofs.YtgeheffhdpeddaaDoor.VX
open Go Go.RowKit

def okFn (fn : Func) : Bool := !(fn.name == "runtime.NumGoroutine") && (match fn.body with | some c => dstsOK fn.ntmps c | none => true)
theorem progOK_of {P : Program} (h : P.funcs.toList.all okFn = true) (hm : P.follows .mixedOrders = true) : ProgOK P := by
  rw [List.all_eq_true] at h
  have hf : ∀ (f : FuncId) (fn : Func), P.funcs[f]? = some fn → okFn fn = true := fun f fn hfn => h fn (by
    have : P.funcs.toList[f]? = some fn := by simpa using hfn
    exact List.mem_of_getElem? this)
  refine ⟨fun f fn hfn => ?_, fun f fn c hfn hc => ?_, hm⟩
  · have := hf f fn hfn
    simp only [okFn, Bool.and_eq_true, Bool.not_eq_true'] at this
    exact this.1
  · have := hf f fn hfn
    simp only [okFn, Bool.and_eq_true, hc] at this
    exact this.2
theorem progOK : ProgOK Tryd.prog := progOK_of (by kernel_rfl) (by kernel_rfl)
end Go.Proofs.YtgeheffhdpeddaaDoor.VX

/- PLAIN: what the functions of package tokens and of the document's own answer, chapter 04, come to, in plain values. Definitions alone. Conditions: none. -/
namespace Go.Proofs.YtgeheffhdpeddaaDoor.VX
open Go Go.Proofs.YtgeheffhdpeddaaDoor
namespace Sp
def ints (s : List UInt8) : List Int := s.map fun b => (b.toNat : Int)
def tb (l : List Int) : List UInt8 := l.map fun n => UInt8.ofNat n.toNat
/-- Texts that the rows speak of. -/
def short (s : List UInt8) : Bool := decide (s.length < 68719476736)
def sm (b : UInt8) : Bool := Tk.sm b.toNat
def gr (b : UInt8) : Bool := Tk.gr b.toNat
def dg (b : UInt8) : Bool := Tk.dg b.toNat
def run (s : List UInt8) : Int := (Tk.run (ints s)).length
def word (s : List UInt8) : Bool := Tk.word (ints s)
def quote (s : List UInt8) : List UInt8 := tb (Tk.quote (ints s))
def hx (b : UInt8) : Int := Tk.hx b.toNat
def escB (s : List UInt8) : UInt8 := UInt8.ofNat (Tk.esc (ints s)).1.toNat
def escN (s : List UInt8) : Int := (Tk.esc (ints s)).2
/-- At a place of the text. -/
def at_ (s : List UInt8) (a : Int) : Bool := short s && (decide (0 ≤ a) && decide (a < (s.length : Int)))
def atE (s : List UInt8) (a : Int) : Bool := short s && (decide (0 ≤ a) && decide (a ≤ (s.length : Int)))
structure Out where
  t : Tk.Tok
  e : Int
  p : Int
def zeroT : Tk.Tok := ⟨0, [], 0, 0, 0⟩
def qO (a : Int) : Tk.Qr → Out
  | .ok m n => ⟨⟨3, m, 0, a, a + 1 + n⟩, 0, 0⟩
  | .bad n => ⟨zeroT, 44, a + 1 + n⟩
  | .opn => ⟨zeroT, 43, a⟩
def quoted (s : List UInt8) (a : Int) : Out := qO a (Tk.quot 0 (ints (s.drop (a.toNat + 1))))
def lO (a : Int) (n : Nat) : Tk.Lx → Out
  | .tok k t v len => ⟨⟨k, t, v, a, a + len⟩, 0, 0⟩
  | .bad e off => ⟨bif e == 45 then ⟨4, [], 0, a, a + 1 + n⟩ else bif e == 42 then ⟨0, [], 0, a, 0⟩ else zeroT, e, a + off⟩
def lexO (a : Int) : List Int → Out
  | [] => ⟨zeroT, 0, 0⟩
  | c :: r => lO a (Tk.run r).length (Tk.lex c r)
def token (s : List UInt8) (a : Int) : Out := lexO a (ints (s.drop a.toNat))
def sign (b : UInt8) : Int := Tk.sign1 b.toNat
def sgO (a : Int) : List Int → Out
  | [] => ⟨zeroT, 0, 0⟩
  | c :: r => lO a 0 (Tk.signs c r)
def signs (s : List UInt8) (a : Int) : Out := sgO a (ints s)
def idx (s : List UInt8) (c : UInt8) : Int := Lib.indexByte s c
def pOk (s : List UInt8) : Bool := match Lib.parseIntB 64 s with | .ok _ => true | _ => false
def pV (s : List UInt8) : Int := match Lib.parseIntB 64 s with | .ok v => v | .range => Lib.intSat 64 s | _ => 0
def itoa (n : Int) : List UInt8 := Lib.itoa n
def i64 (n : Int) : Bool := decide (-9223372036854775808 ≤ n) && decide (n ≤ 9223372036854775807)
def numV (s : List UInt8) : Int := pV s
def numOk (s : List UInt8) : Bool := pOk s && (itoa (pV s) == s)
/-- What Cut hands back: the tokens, the error, its place. -/
def cut (s : List UInt8) (most : Int) : Tk.Res := Tk.Cut (ints s) most
def cutL (s : List UInt8) (most : Int) : List Tk.Tok := bif (cut s most).e == 0 then (cut s most).l else []
def signOf (k : Int) : List UInt8 := tb (bif decide (5 ≤ k) && decide (k ≤ 16) then Tk.signOf k else [])
def spOk (k : Int) (t : List UInt8) (n : Int) : Bool := (Tk.spell k (ints t) n).isSome
def spT (k : Int) (t : List UInt8) (n : Int) : List UInt8 := tb ((Tk.spell k (ints t) n).getD [])
def apart (k k' n' : Int) : Bool := Tk.apart k k' n'
/-! the document's own answer -/
def rrun (s : List UInt8) (i : Int) : Int := i + run (s.drop i.toNat)
def rEscB (s : List UInt8) (i : Int) : UInt8 := escB (s.drop (i.toNat + 1))
def rEscN (s : List UInt8) (i : Int) : Int := bif escN (s.drop (i.toNat + 1)) == 0 then 0 else escN (s.drop (i.toNat + 1)) + 1
def rNumOk (s : List UInt8) : Bool := (Tk.num (ints s)).isSome
def rNumV (s : List UInt8) : Int := (Tk.num (ints s)).getD 0
def rlO (a : Int) : Tk.Lx → Out
  | .tok k t v len => ⟨⟨k, t, v, a, a + len⟩, 0, 0⟩
  | .bad e off => ⟨zeroT, e, a + off⟩
def rlexO (a : Int) : List Int → Out
  | [] => ⟨zeroT, 0, 0⟩
  | c :: r => rlO a (Tk.lex c r)
def one (s : List UInt8) (a : Int) : Out := rlexO a (ints (s.drop a.toNat))
/-- Not negative, of so many digits at most. -/
def decOK (m : Nat) (n : Int) : Bool := Nat.blt 0 m && decide (0 ≤ n) && decide (n < 10 ^ m) && decide (n ≤ 9223372036854775807)
def rsp (k : Int) (t : List UInt8) (n : Int) : List UInt8 := bif k == 1 || k == 2 then t else bif k == 3 then quote t else bif k == 4 then itoa n else signOf k
def tok? : AV → Option Tk.Tok
  | .agg [.int .i64 k, .str t, .int .i64 n, .int .i64 a, .int .i64 e] => some ⟨k, ints t, n, a, e⟩
  | _ => none
def toks? : List AV → Option (List Tk.Tok)
  | [] => some []
  | x :: xs => match tok? x, toks? xs with
    | some t, some l => some (t :: l)
    | _, _ => none
def toks (xs : List AV) : List Tk.Tok := (toks? xs).getD []
/-- All spellings together, and a blank behind each. -/
def weigh : List Tk.Tok → Nat
  | [] => 0
  | t :: l => 4 * t.t.length + 24 + weigh l
def fineB (t : Tk.Tok) : Bool := i64 t.n
def toksOK (xs : List AV) : Bool := (toks? xs).isSome && ((toks xs).all fineB && decide (weigh (toks xs) < 68719476736))
def joinB (xs : List AV) : Bool := (Tk.join (toks xs)).isSome
def joinS (xs : List AV) : List UInt8 := tb ((Tk.join (toks xs)).getD [])
def sameL (xs ys : List AV) : Bool := decide (toks? xs = toks? ys)
/-- A text whose spelling is short. -/
def light (s : List UInt8) : Bool := decide (4 * s.length + 24 < 68719476736)
/-! values that are read, told by their types -/
def cs (a b : Nat) (v : AV) : List AV := List.take a (List.drop b (v.cells.getD []))
def wide (n : Nat) (v : AV) : Bool := Nat.ble n (v.cells.getD []).length
inductive Kd where
  | i (k : IntKind) | u | b | s | o
def kdOK : Kd → AV → Bool
  | .i k, v => isI k v
  | .u, v => isU8 v
  | .b, v => isB v
  | .s, v => isS v
  | .o, _ => true
def shpL (l : List AV) : Nat → List Kd → Bool
  | _, [] => true
  | j, k :: ks => kdOK k (l.getD j .top) && shpL l (j + 1) ks
def shp (ks : List Kd) (l : List AV) : Bool := true && l.length.beq ks.length && shpL l 0 ks
def fI (a b j : Nat) (v : AV) : Int := toI ((cs a b v).getD j .top)
def fS (a b j : Nat) (v : AV) : List UInt8 := toS ((cs a b v).getD j .top)
def fU8 (a b j : Nat) (v : AV) : UInt8 := toU8 ((cs a b v).getD j .top)
def fB (a b j : Nat) (v : AV) : Bool := toB ((cs a b v).getD j .top)
end Sp
def tokA (t : Tk.Tok) : AV := .agg [.int .i64 t.k, .str (Sp.tb t.t), .int .i64 t.n, .int .i64 t.at_, .int .i64 t.e]
def faultA (e p : Int) : AV := .agg [.int .i64 e, .int .i64 p]
def toksA (l : List Tk.Tok) : AV := .view 5 (l.map tokA)
def outA (o : Sp.Out) : AV := .tup [tokA o.t, faultA o.e o.p]
end Go.Proofs.YtgeheffhdpeddaaDoor.VX

/- PLAIN: what the functions of package script and of the document's own answer, chapter 25, come to, in the executor's values. Definitions alone. Conditions: none. -/
namespace Go.Proofs.YtgeheffhdpeddaaDoor.VX
open Go Go.Proofs.YtgeheffhdpeddaaDoor
def sdo25 (d : Scr.D) : AV := .agg [.int .i64 d.kind, .str (Sp.tb d.who), .str (Sp.tb d.to), .str (Sp.tb d.text), .view 1 ((Sp.tb d.bytes).map .u8), .int .i64 d.n, .int .i64 d.m, .int .i64 d.k]
/-- The rows of the script's table: a name, a kind, the function that tells the parts. -/
def rowsL : List (List UInt8 × Int × Nat) := [
  ([101, 110, 114, 111, 108, 108], 1, 126), ([97, 115, 115, 101, 114, 116], 2, 128), ([114, 101, 116, 114, 97, 99, 116], 3, 130),
  ([101, 120, 112, 111, 114, 116], 4, 131), ([105, 109, 112, 111, 114, 116], 5, 133), ([102, 111, 114, 103, 101, 116], 6, 134),
  ([113, 117, 101, 114, 121], 7, 135), ([97, 115, 107], 8, 136), ([119, 97, 116, 99, 104], 9, 137), ([110, 101, 119, 115], 10, 138),
  ([119, 104, 121], 11, 139), ([108, 111, 115, 115], 12, 140), ([112, 114, 111, 118, 101], 13, 142), ([115, 104, 111, 119], 14, 143),
  ([99, 108, 97, 117, 115, 101, 115], 15, 144), ([114, 101, 100, 117, 110, 100, 97, 110, 116], 24, 145), ([100, 114, 111, 112], 16, 146),
  ([99, 111, 112, 121], 17, 147), ([115, 119, 97, 112], 18, 148), ([102, 108, 105, 112], 19, 150), ([99, 117, 116], 20, 152),
  ([102, 111, 114, 103, 101], 21, 153), ([119, 97, 105, 116, 105, 110, 103], 22, 155), ([99, 114, 97, 115, 104], 23, 156)]
def rowCells : List (List UInt8 × Int × Nat) → List AV
  | [] => []
  | (n, k, f) :: l => .str n :: .int .i64 k :: .fn (.func f) [] [] :: rowCells l
/-- The script's table, as the package-level variable holds it. -/
def rowsG : List AV := rowCells rowsL
def nameP (f : Nat) : List AV := [.fn (.func 171) [] [.cptr [.fn (.func f) [] []] 0], .fn (.func 172) [] [.cptr [.fn (.func f) [] []] 0], .fn (.func 174) [] [.cptr [.fn (.func f) [] []] 0]]
def numP (f : Nat) : List AV := [.fn (.func 175) [] [.cptr [.fn (.func f) [] []] 0], .fn (.func 176) [] [.cptr [.fn (.func f) [] []] 0], .fn (.func 178) [] [.cptr [.fn (.func f) [] []] 0]]
/-- The functions of a part: how it is taken, said, cleared. -/
def partP : Scr.P → List AV
  | .w => nameP 158
  | .o => nameP 165
  | .t => [.fn (.func 159) [] [], .fn (.func 160) [] [], .fn (.func 162) [] []]
  | .b => [.fn (.func 168) [] [], .fn (.func 169) [] [], .fn (.func 170) [] []]
  | .n => numP 164
  | .m => numP 166
  | .k => numP 167
def partsV (ps : List Scr.P) : AV := .view 3 (ps.map fun p => .agg (partP p))
def byAns (s : List UInt8) : List (List UInt8 × Int × Nat) → Ans AV
  | [] => .one (.tup [.agg [.str [], .int .i64 0, .raw .nilFunc], .bool false])
  | (n, k, f) :: l => .br (n == s) (.one (.tup [.agg [.str n, .int .i64 k, .fn (.func f) [] []], .bool true])) (byAns s l)
/-- The document's own table: names, kinds, letters. -/
def refL : List (List UInt8 × Int × List UInt8) := [
  ([101, 110, 114, 111, 108, 108], 1, [119]),
  ([97, 115, 115, 101, 114, 116], 2, [119, 116]),
  ([114, 101, 116, 114, 97, 99, 116], 3, [119, 116]),
  ([101, 120, 112, 111, 114, 116], 4, [119, 116, 110]),
  ([105, 109, 112, 111, 114, 116], 5, [119, 110]),
  ([102, 111, 114, 103, 101, 116], 6, [119, 116]),
  ([113, 117, 101, 114, 121], 7, [119, 116, 110]),
  ([97, 115, 107], 8, [119, 116]),
  ([119, 97, 116, 99, 104], 9, [119, 116]),
  ([110, 101, 119, 115], 10, [119, 110]),
  ([119, 104, 121], 11, [119, 116]),
  ([108, 111, 115, 115], 12, [119, 111]),
  ([112, 114, 111, 118, 101], 13, [119, 116, 110]),
  ([115, 104, 111, 119], 14, [119, 110]),
  ([99, 108, 97, 117, 115, 101, 115], 15, [119]),
  ([100, 114, 111, 112], 16, [110]),
  ([99, 111, 112, 121], 17, [110]),
  ([115, 119, 97, 112], 18, [110, 109]),
  ([102, 108, 105, 112], 19, [110, 109, 107]),
  ([99, 117, 116], 20, [110, 109]),
  ([102, 111, 114, 103, 101], 21, [98]),
  ([119, 97, 105, 116, 105, 110, 103], 22, []),
  ([99, 114, 97, 115, 104], 23, [119, 109]),
  ([114, 101, 100, 117, 110, 100, 97, 110, 116], 24, [119])]
def refV : AV := .view 3 (refL.map fun (n, k, p) => .agg [.str n, .int .i64 k, .str p])
namespace Sp
/-! steps that are given -/
def bys (xs : List AV) : List UInt8 := xs.map toU8
def dO (kd : Int) (who to text : List UInt8) (xs : List AV) (n m k : Int) : Scr.D := ⟨kd, Sp.ints who, Sp.ints to, Sp.ints text, Sp.ints (bys xs), n, m, k⟩
/-- Texts that the rows of steps speak of. -/
def small3 (who to text : List UInt8) (xs : List AV) : Bool := decide (who.length + to.length + text.length + xs.length < 4294967296)
def okD (who to text : List UInt8) (xs : List AV) (n m k : Int) : Bool := small3 who to text xs && xs.all isU8 && (Sp.i64 n && (Sp.i64 m && Sp.i64 k))
def letter : Scr.P → UInt8
  | .w => 119
  | .o => 111
  | .t => 116
  | .b => 98
  | .n => 110
  | .m => 109
  | .k => 107
def lettersOf (k : Int) : List UInt8 := (Scr.partsOf k).map letter
def nameOf (k : Int) : List UInt8 := Sp.tb (((Scr.byKind k Scr.rows).map (·.name)).getD [])
/-- May a token of this kind stand for the part of this letter? -/
def fitsB (p : UInt8) (k : Int) : Bool := bif p == 119 || p == 111 then k == 1 || k == 3 else bif p == 116 || p == 98 then k == 3 else k == 4
def hasB (s : List UInt8) (c : UInt8) : Bool := s.any fun x => x == c
def nameB (s : List UInt8) : List UInt8 := bif Sp.word s then s else Sp.quote s
def shownB (p : UInt8) (who to text : List UInt8) (xs : List AV) (n m k : Int) : List UInt8 :=
  bif p == 119 then nameB who else bif p == 111 then nameB to else bif p == 116 then Sp.quote text else bif p == 98 then Sp.quote (bys xs) else
  bif p == 110 then Sp.itoa n else bif p == 109 then Sp.itoa m else Sp.itoa k
def cleanB (ps who to text : List UInt8) (xs : List AV) (n m k : Int) : Bool :=
  (who == [] || hasB ps 119) && ((to == [] || hasB ps 111) && ((text == [] || hasB ps 116) && ((xs.isEmpty || hasB ps 98) && ((n == 0 || hasB ps 110) && ((m == 0 || hasB ps 109) && (k == 0 || hasB ps 107))))))
def emptyB (who to text : List UInt8) (xs : List AV) (n m k : Int) : Bool := who == [] && (to == [] && (text == [] && (xs.isEmpty && (n == 0 && (m == 0 && k == 0)))))
def printT (d : Scr.D) : List UInt8 := Sp.tb ((Scr.print d).getD [])
def printOk (d : Scr.D) : Bool := (Scr.print d).isSome
/-- Texts joined by a text between each two. -/
def joinL (sep : List UInt8) : List (List UInt8) → List UInt8
  | [] => []
  | [s] => s
  | s :: t :: l => s ++ (sep ++ joinL sep (t :: l))
def strs (xs : List AV) : List (List UInt8) := xs.map toS
def sizes : List (List UInt8) → Nat
  | [] => 0
  | s :: l => s.length + sizes l
/-- A text cut at its line feeds. -/
def linesGo (acc : List UInt8) : List UInt8 → List (List UInt8)
  | [] => bif acc.isEmpty then [] else [acc]
  | c :: r => bif c == 10 then acc :: linesGo [] r else linesGo (acc ++ [c]) r
def lines (s : List UInt8) : List (List UInt8) := linesGo [] s
end Sp
def readA (s : List UInt8) : AV := .tup [sdo25 (Scr.read (Sp.ints s)).d, faultA (Scr.read (Sp.ints s)).e (Scr.read (Sp.ints s)).p]
end Go.Proofs.YtgeheffhdpeddaaDoor.VX

/- WHAT IS KNOWN OF FUNCTIONS: plain answers, as a table that the executor reads. Definitions alone. Conditions: none. -/
namespace Go.Proofs.YtgeheffhdpeddaaDoor.VX
open Go Go.Proofs.YtgeheffhdpeddaaDoor
def getRow {α : Type} (f : Nat) : List (Nat × α) → Option α
  | [] => none
  | (g, x) :: l => bif Nat.beq g f then some x else getRow f l
def r_small : List AV → Ans AV
  | [.u8 b] => .one (.bool (Sp.sm b))
  | _ => .no
def r_great : List AV → Ans AV
  | [.u8 b] => .one (.bool (Sp.gr b))
  | _ => .no
def r_digit : List AV → Ans AV
  | [.u8 b] => .one (.bool (Sp.dg b))
  | _ => .no
def r_run : List AV → Ans AV
  | [.str s] => .when (Sp.short s) (.one (.int .i64 (Sp.run s)))
  | _ => .no
def r_given : List AV → Ans AV
  | [.str s, .bool c] => .one (.tup [.str (bif c then s else []), .bool c])
  | _ => .no
def r_word : List AV → Ans AV
  | [.str s] => .when (Sp.short s) (.one (.bool (Sp.word s)))
  | _ => .no
def r_quote : List AV → Ans AV
  | [.str s] => .when (Sp.short s) (.one (.str (Sp.quote s)))
  | _ => .no
def r_hex : List AV → Ans AV
  | [.u8 b] => .one (.int .i64 (Sp.hx b))
  | _ => .no
def r_escape : List AV → Ans AV
  | [.str s] => .one (.tup [.u8 (Sp.escB s), .int .i64 (Sp.escN s)])
  | _ => .no
def r_quoted : List AV → Ans AV
  | [.str s, .int .i64 a] => .when (Sp.at_ s a) (.one (outA (Sp.quoted s a)))
  | _ => .no
def r_indexByte : List AV → Ans AV
  | [.str s, .u8 c] => .one (.int .i64 (Sp.idx s c))
  | _ => .no
def r_sign : List AV → Ans AV
  | [.u8 b] => .one (.int .i64 (Sp.sign b))
  | _ => .no
def r_signs : List AV → Ans AV
  | [.str s, .agg [.int .i64 0, .str [], .int .i64 0, .int .i64 a, .int .i64 0]] => .when (Sp.atE s 0 && (!s.isEmpty && (decide (0 ≤ a) && decide (a < 68719476736)))) (.one (outA (Sp.signs s a)))
  | _ => .no
def r_parseInt : List AV → Ans AV
  | [.str s, .int .i64 10, .int .i64 64] => .when (Sp.short s) (.br (Sp.pOk s) (.one (.tup [.int .i64 (Sp.pV s), .raw .nilIface])) (.one (.tup [.int .i64 (Sp.pV s), .iface 130 .top])))
  | _ => .no
def r_formatInt : List AV → Ans AV
  | [.int .i64 n, .int .i64 10] => .when (Sp.i64 n) (.one (.str (Sp.itoa n)))
  | _ => .no
def r_number : List AV → Ans AV
  | [.str s] => .when (Sp.short s) (.one (.tup [.int .i64 (Sp.numV s), .bool (Sp.numOk s)]))
  | _ => .no
def r_token : List AV → Ans AV
  | [.str s, .int .i64 a] => .when (Sp.at_ s a) (.one (outA (Sp.token s a)))
  | _ => .no
def r_cut : List AV → Ans AV
  | [.str s, .int .i64 m] => .when (Sp.short s) (.one (.tup [toksA (Sp.cutL s m), faultA (Sp.cut s m).e (Sp.cut s m).p]))
  | _ => .no
def r_spelling : List AV → Ans AV
  | [.int .i64 k] => .one (.str (Sp.signOf k))
  | _ => .no
def r_itoa : List AV → Ans AV
  | [.int .i64 n] => .when (Sp.i64 n) (.one (.str (Sp.itoa n)))
  | _ => .no
def r_spell : List AV → Ans AV
  | [.agg [.int .i64 k, .str t, .int .i64 n, .int .i64 _, .int .i64 _]] => .when (Sp.short t && Sp.i64 n) (.one (.tup [.str (Sp.spT k t n), .bool (Sp.spOk k t n)]))
  | _ => .no
def r_rspell : List AV → Ans AV
  | [.agg [.int .i64 k, .str t, .int .i64 n, .int .i64 _, .int .i64 _]] => .when (Sp.light t && Sp.i64 n) (.one (.tup [.str (Sp.spT k t n), .bool (Sp.spOk k t n)]))
  | _ => .no
def r_apart : List AV → Ans AV
  | [.agg [.int .i64 k, .str _, .int .i64 _, .int .i64 _, .int .i64 _], .agg [.int .i64 k', .str _, .int .i64 n', .int .i64 _, .int .i64 _]] => .one (.bool (Sp.apart k k' n'))
  | _ => .no
def r_rrun : List AV → Ans AV
  | [.str s, .int .i64 i] => .when (Sp.atE s i) (.one (.int .i64 (Sp.rrun s i)))
  | _ => .no
def r_rnumber : List AV → Ans AV
  | [.str s] => .when (Sp.short s) (.br (Sp.rNumOk s) (.one (.tup [.int .i64 (Sp.rNumV s), .bool true])) (.one (.tup [.top, .bool false])))
  | _ => .no
def r_rescape : List AV → Ans AV
  | [.str s, .int .i64 i] => .when (Sp.at_ s i) (.one (.tup [.u8 (Sp.rEscB s i), .int .i64 (Sp.rEscN s i)]))
  | _ => .no
def r_one : List AV → Ans AV
  | [.str s, .int .i64 a] => .when (Sp.at_ s a) (.one (outA (Sp.one s a)))
  | _ => .no
def r_spelled : List AV → Ans AV
  | [.agg [.int .i64 k, .str t, .int .i64 n, .int .i64 _, .int .i64 _]] => .when (Sp.short t && Sp.i64 n) (.one (.str (Sp.rsp k t n)))
  | _ => .no
def r_bare : List AV → Ans AV
  | [.agg [.int .i64 k, .str t, .int .i64 n, .int .i64 _, .int .i64 _]] => .one (.agg [.int .i64 k, .str t, .int .i64 n, .int .i64 0, .int .i64 0])
  | _ => .no
def r_join : List AV → Ans AV
  | [.view 5 xs] => .when (Sp.toksOK xs) (.one (.tup [.str (Sp.joinS xs), .bool (Sp.joinB xs)]))
  | _ => .no
def r_same : List AV → Ans AV
  | [.view 5 xs, .view 5 ys] => .when ((Sp.toks? xs).isSome && ((Sp.toks? ys).isSome && (decide (xs.length < 68719476736) && decide (ys.length < 68719476736)))) (.one (.bool (Sp.sameL xs ys)))
  | _ => .no
def r_head : List AV → Ans AV
  | [] => .one (.bool true)
  | _ => .no
def r_byName : List AV → Ans AV
  | [.str s] => byAns s rowsL
  | _ => .no
def r_name : List AV → Ans AV
  | [.fn (.func f) [] []] => .one (.agg (nameP f))
  | _ => .no
def r_numb : List AV → Ans AV
  | [.fn (.func f) [] []] => .one (.agg (numP f))
  | _ => .no
def r_c (v : AV) : List AV → Ans AV
  | [] => .one v
  | _ => .no
def partRows : List (Nat × (List AV → Ans AV)) := [
  (34, r_byName), (157, r_name), (163, r_numb), (127, r_c (.agg (partP .w))), (141, r_c (.agg (partP .o))), (129, r_c (.agg (partP .t))), (154, r_c (.agg (partP .b))),
  (132, r_c (.agg (partP .n))), (149, r_c (.agg (partP .m))), (151, r_c (.agg (partP .k))),
  (126, r_c (partsV [.w])), (128, r_c (partsV [.w, .t])), (130, r_c (partsV [.w, .t])), (131, r_c (partsV [.w, .t, .n])),
  (133, r_c (partsV [.w, .n])), (134, r_c (partsV [.w, .t])), (135, r_c (partsV [.w, .t, .n])), (136, r_c (partsV [.w, .t])),
  (137, r_c (partsV [.w, .t])), (138, r_c (partsV [.w, .n])), (139, r_c (partsV [.w, .t])), (140, r_c (partsV [.w, .o])),
  (142, r_c (partsV [.w, .t, .n])), (143, r_c (partsV [.w, .n])), (144, r_c (partsV [.w])), (145, r_c (partsV [.w])),
  (146, r_c (partsV [.n])), (147, r_c (partsV [.n])), (148, r_c (partsV [.n, .m])), (150, r_c (partsV [.n, .m, .k])),
  (152, r_c (partsV [.n, .m])), (153, r_c (partsV [.b])), (155, r_c (partsV [])), (156, r_c (partsV [.w, .m]))]
def r_sread : List AV → Ans AV
  | [.str s] => .when (Sp.short s) (.one (readA s))
  | _ => .no
def r_blank : List AV → Ans AV
  | [.str s] => .when (Sp.short s) (.one (.bool (Scr.blank (Sp.ints s))))
  | _ => .no
def r_fits : List AV → Ans AV
  | [.u8 p, .agg [.int .i64 k, .str _, .int .i64 _, .int .i64 _, .int .i64 _]] => .one (.bool (Sp.fitsB p k))
  | _ => .no
def r_put : List AV → Ans AV
  | [.agg [.int .i64 kd, .str who, .str to, .str text, .view 1 xs, .int .i64 n, .int .i64 m, .int .i64 k], .u8 p, .agg [.int .i64 _, .str t, .int .i64 v, .int .i64 _, .int .i64 _]] =>
    .one (.agg [.int .i64 kd, .str (bif p == 119 then t else who), .str (bif p == 111 then t else to), .str (bif p == 116 then t else text), .view 1 (bif p == 98 then t.map .u8 else xs), .int .i64 (bif p == 110 then v else n), .int .i64 (bif p == 109 then v else m), .int .i64 (bif p == 107 then v else k)])
  | [.agg [.int .i64 kd, .str who, .str to, .str text, .raw (.slice none 0 0), .int .i64 n, .int .i64 m, .int .i64 k], .u8 p, .agg [.int .i64 _, .str t, .int .i64 v, .int .i64 _, .int .i64 _]] =>
    .one (.agg [.int .i64 kd, .str (bif p == 119 then t else who), .str (bif p == 111 then t else to), .str (bif p == 116 then t else text), .view 1 (bif p == 98 then t.map .u8 else []), .int .i64 (bif p == 110 then v else n), .int .i64 (bif p == 109 then v else m), .int .i64 (bif p == 107 then v else k)])
  | _ => .no
def r_rname : List AV → Ans AV
  | [.str s] => .when (Sp.short s) (.one (.str (Sp.nameB s)))
  | _ => .no
def r_shown : List AV → Ans AV
  | [.agg [.int .i64 _, .str who, .str to, .str text, .view 1 xs, .int .i64 n, .int .i64 m, .int .i64 k], .u8 p] => .when (Sp.okD who to text xs n m k) (.one (.str (Sp.shownB p who to text xs n m k)))
  | _ => .no
def r_used : List AV → Ans AV
  | [.agg [.str _, .int .i64 _, .str ps], .u8 c] => .when (Sp.short ps) (.one (.bool (Sp.hasB ps c)))
  | _ => .no
def r_clean : List AV → Ans AV
  | [.agg [.str _, .int .i64 _, .str ps], .agg [.int .i64 _, .str who, .str to, .str text, .view 1 xs, .int .i64 n, .int .i64 m, .int .i64 k]] => .when (Sp.short ps) (.one (.bool (Sp.cleanB ps who to text xs n m k)))
  | _ => .no
def r_print : List AV → Ans AV
  | [.agg [.int .i64 kd, .str who, .str to, .str text, .view 1 xs, .int .i64 n, .int .i64 m, .int .i64 k]] => .when (Sp.okD who to text xs n m k) (.one (.tup [.str (Sp.printT (Sp.dO kd who to text xs n m k)), .bool (Sp.printOk (Sp.dO kd who to text xs n m k))]))
  | _ => .no
def r_empty : List AV → Ans AV
  | [.agg [.int .i64 _, .str who, .str to, .str text, .view 1 xs, .int .i64 n, .int .i64 m, .int .i64 k]] => .one (.bool (Sp.emptyB who to text xs n m k))
  | [.agg [.int .i64 _, .str who, .str to, .str text, .raw (.slice none 0 0), .int .i64 n, .int .i64 m, .int .i64 k]] => .one (.bool (Sp.emptyB who to text [] n m k))
  | _ => .no
def r_sjoin : List AV → Ans AV
  | [.view 1 xs, .str [32]] => .when (xs.all isS && decide (Sp.sizes (Sp.strs xs) + xs.length < 68719476736)) (.one (.str (Sp.joinL [32] (Sp.strs xs))))
  | _ => .no
def r_clone : List AV → Ans AV
  | [.view 1 xs] => .when (xs.all isU8 && decide (xs.length < 68719476736)) (.one (.view 1 xs))
  | _ => .no
def r_same25 : List AV → Ans AV
  | [.agg [.int .i64 kd, .str who, .str to, .str text, .view 1 xs, .int .i64 n, .int .i64 m, .int .i64 k], .agg [.int .i64 kd', .str who', .str to', .str text', .view 1 xs', .int .i64 n', .int .i64 m', .int .i64 k']] =>
    .when (xs.all isU8 && xs'.all isU8) (.one (.bool (decide (Sp.dO kd who to text xs n m k = Sp.dO kd' who' to' text' xs' n' m' k'))))
  | [.agg [.int .i64 kd, .str who, .str to, .str text, .view 1 xs, .int .i64 n, .int .i64 m, .int .i64 k], .agg [.int .i64 kd', .str who', .str to', .str text', .raw (.slice none 0 0), .int .i64 n', .int .i64 m', .int .i64 k']] =>
    .when (xs.all isU8) (.one (.bool (decide (Sp.dO kd who to text xs n m k = Sp.dO kd' who' to' text' [] n' m' k'))))
  | _ => .no
def r_parts : List AV → Ans AV
  | [.int .i64 k] => .when (decide (1 ≤ k) && decide (k ≤ 24)) (.one (.tup [.str (Sp.nameOf k), .str (Sp.lettersOf k)]))
  | _ => .no
def r_has : List AV → Ans AV
  | [.str ps, .u8 c] => .when (Sp.short ps) (.one (.bool (Sp.hasB ps c)))
  | _ => .no
def r_cut4 : List AV → Ans AV
  | [.str s] => .one (.str (s.take 4000))
  | _ => .no
def r_made : List AV → Ans AV
  | [.agg [.int .i64 kd, .str who, .str to, .str text, .view 1 xs, .int .i64 n, .int .i64 m, .int .i64 k]] => .when (xs.all isU8 && decide (xs.length < 68719476736)) (.one (sdo25 (Scr.made (Sp.dO kd who to text xs n m k))))
  | _ => .no
def r_line : List AV → Ans AV
  | [.str s] => .when (Sp.short s) (.one (.str (s.filter fun c => c != 10)))
  | _ => .no
def r_sayName : List AV → Ans AV
  | [.agg [.int .i64 _, .str who, .str to, .str _, .view 1 _, .int .i64 _, .int .i64 _, .int .i64 _], .cptr [.fn (.func f) [] []] 0] =>
    bif Nat.beq f 158 then .when (Sp.short who) (.one (.str (Sp.nameB who))) else bif Nat.beq f 165 then .when (Sp.short to) (.one (.str (Sp.nameB to))) else .no
  | _ => .no
def r_sayNum : List AV → Ans AV
  | [.agg [.int .i64 _, .str _, .str _, .str _, .view 1 _, .int .i64 n, .int .i64 m, .int .i64 k], .cptr [.fn (.func f) [] []] 0] =>
    bif Nat.beq f 164 then .when (Sp.i64 n) (.one (.str (Sp.itoa n))) else bif Nat.beq f 166 then .when (Sp.i64 m) (.one (.str (Sp.itoa m))) else bif Nat.beq f 167 then .when (Sp.i64 k) (.one (.str (Sp.itoa k))) else .no
  | _ => .no
def r_sayText : List AV → Ans AV
  | [.agg [.int .i64 _, .str _, .str _, .str text, .view 1 _, .int .i64 _, .int .i64 _, .int .i64 _]] => .when (Sp.short text) (.one (.str (Sp.quote text)))
  | _ => .no
def r_sayRaw : List AV → Ans AV
  | [.agg [.int .i64 _, .str _, .str _, .str _, .view 1 xs, .int .i64 _, .int .i64 _, .int .i64 _]] => .when (xs.all isU8 && Sp.short (Sp.bys xs)) (.one (.str (Sp.quote (Sp.bys xs))))
  | _ => .no
def r_lend : List AV → Ans AV
  | [.view 1 xs] => .when (decide (xs.length < 68719476736)) (.one (.part 1 xs [.u8 91, .u8 92]))
  | _ => .no
def r_lines : List AV → Ans AV
  | [.str s] => .when (Sp.short s) (.one (.view 1 ((Sp.lines s).map .str)))
  | _ => .no
def r_texts : List AV → Ans AV
  | [.view 1 xs, .view 1 ys] => .when (xs.all isS && (ys.all isS && (decide (xs.length < 68719476736) && decide (ys.length < 68719476736)))) (.one (.bool (Sp.strs xs == Sp.strs ys)))
  | _ => .no
def stepRows : List (Nat × (List AV → Ans AV)) := [
  (15, r_sread), (20, r_blank), (39, r_fits), (40, r_put), (30, r_c refV), (999999, fun _ => .no), (999999, fun _ => .no),
  (47, r_rname), (32, r_shown), (46, r_used), (31, r_clean), (13, r_print),
  (29, r_empty), (28, r_sjoin), (27, r_clone), (172, r_sayName), (176, r_sayNum), (160, r_sayText), (169, r_sayRaw),
  (12, r_print), (16, r_same25), (14, r_head),
  (35, r_parts), (36, r_has), (23, r_cut4), (17, r_made), (22, r_line), (11, r_lend),
  (24, r_lines), (25, r_lines), (26, r_texts)]
/-- The rows, in the order in which they are shown: a function's equation is told over the rows ahead of it ('X k': the first k). -/
def tab : List (Nat × (List AV → Ans AV)) := [
  (50, r_small), (52, r_great), (53, r_digit), (51, r_run), (179, r_given),
  (173, r_word), (161, r_quote), (82, r_hex), (67, r_escape), (55, r_quoted),
  (59, r_indexByte), (68, r_sign), (56, r_signs), (65, r_parseInt), (66, r_formatInt),
  (54, r_number), (37, r_token), (18, r_cut), (180, r_spelling), (49, r_itoa),
  (177, r_spell), (999999, fun _ => .no),
  (70, r_small), (71, r_great), (72, r_digit), (69, r_rrun), (73, r_rnumber),
  (94, r_hex), (83, r_rescape), (74, r_quoted), (999999, fun _ => .no), (999999, fun _ => .no),
  (63, r_word),
  (48, r_quote), (999999, fun _ => .no), (999999, fun _ => .no), (999999, fun _ => .no),
  (999999, fun _ => .no), (999999, fun _ => .no), (999999, fun _ => .no), (999999, fun _ => .no), (999999, fun _ => .no)]
  ++ (partRows ++ stepRows)
/-- The document's tables. -/
def signsG : List AV := [.str [58, 45], .str [33, 61], .str [60, 61], .str [40], .str [41], .str [44], .str [59], .str [46], .str [63], .str [61], .str [60]]
def kindsG : List AV := [.int .i64 11, .int .i64 14, .int .i64 16, .int .i64 6, .int .i64 7, .int .i64 8, .int .i64 9, .int .i64 10, .int .i64 12, .int .i64 13, .int .i64 15]
def globs : Globs := fun g => getRow g [(0, rowsG)]
/-! strings.Builder -/
def b_writeString : List AV → St → Ans (Oc × St)
  | [.ptr id 0, .str s], S => (match S.at (.o id) with
    | .bld bs => .when (Nat.ble (bs.length + s.length) 1099511627776) (.one (.ret (.tup [.int .i64 s.length, .raw .nilIface]), (.o id, .bld (bs ++ s)) :: nonT S))
    | _ => .no)
  | _, _ => .no
def b_writeByte : List AV → St → Ans (Oc × St)
  | [.ptr id 0, .u8 x], S => (match S.at (.o id) with
    | .bld bs => .when (Nat.ble (bs.length + 1) 1099511627776) (.one (.ret (.raw .nilIface), (.o id, .bld (bs ++ [x])) :: nonT S))
    | _ => .no)
  | _, _ => .no
def b_string : List AV → St → Ans (Oc × St)
  | [.ptr id 0], S => (match S.at (.o id) with
    | .bld bs => .when (Nat.ble bs.length 1099511627776) (.one (.ret (.str bs), (.o id, .obj [(.top, none), (.top, none)]) :: nonT S))
    | _ => .no)
  | _, _ => .no
def bldRows : List (Nat × (List AV → St → Ans (Oc × St))) := [(44, b_writeString), (45, b_string)]
/-- The address of a field: calls that touch no block. -/
def p_field (j : Nat) : List AV → Ans AV
  | [.ptr id off] => .one (.ptr id (off + j))
  | _ => .no
def ptrRows : List (Nat × (List AV → Ans AV)) := [(158, p_field 1), (165, p_field 2), (164, p_field 5), (166, p_field 6), (167, p_field 7)]
def X (k : Nat) : Cx := { G := globs, table := fun f => getRow f (tab.take k), hints := hintAt, rows := fun f => getRow f bldRows, pj := fun f => getRow f ptrRows, inl := fun f => match getRow f ptrRows with | some _ => some false | none => none }
/-- The table with a function's own row, so far as it is known. -/
def XP (k : Nat) (f : Nat) (r : List AV → Ans AV) : Cx := { X k with table := fun g => bif Nat.beq g f then some r else getRow g (tab.take k) }
def r_dec (m : Nat) : List AV → Ans AV
  | [.int .i64 n] => .when (Sp.decOK m n) (.one (.str (Sp.itoa n)))
  | _ => .no
end Go.Proofs.YtgeheffhdpeddaaDoor.VX

/- THE ADDRESS OF A FIELD: calls that touch no block. Conditions: as each theorem states. -/
namespace Go.Proofs.YtgeheffhdpeddaaDoor.VX
open Go Go.Proofs Go.RowKit
def Xz : Cx := { G := fun _ => none, table := fun _ => none, hints := fun _ _ => [] }
theorem fieldG {W : World → Prop} {f : FuncId} {j : Nat} (h : ∀ b o, ∃ n, runA Tryd.prog Xz n f [.raw (.pointer (some ⟨b, o, none⟩))] = some (.raw (.pointer (some ⟨b, o + j, none⟩)))) :
    ∀ args v, (p_field j args).val = some v → CallG Tryd.prog W f args v := by
  intro args v hv
  unfold p_field at hv
  split at hv
  · rename_i id off
    cases hv
    have hc : ∀ b o, CallOK Tryd.prog (fun _ => True) f [.raw (.pointer (some ⟨b, o, none⟩))] (.raw (.pointer (some ⟨b, o + j, none⟩))) := fun b o => by
      obtain ⟨n, hn⟩ := h b o
      exact runA_ok (X := Xz) progOK (fun _ _ i cs hi => by cases hi) (fun _ _ _ _ => trivial) (fun _ _ _ _ hi => by cases hi) ⟨fun _ _ _ _ _ _ hi => (by cases hi), fun _ _ _ _ hi => (by cases hi)⟩ hn
    refine ⟨(hc 0 0).1, fun ι st w vals _ hlt hr => ?_⟩
    obtain ⟨u, us, rfl, hu, rfl⟩ := hr
    obtain ⟨b, h1, rfl⟩ := hu
    refine ((hc b off).2 st w _ trivial hlt ⟨_, _, rfl, rfl, rfl⟩).mono ?_
    rintro e w' ⟨u, st', rfl, hg, hu⟩
    obtain rfl : u = _ := hu
    exact ⟨_, st', rfl, hg, b, h1, rfl⟩
  · cases hv
theorem getRow_mem' {α : Type} {f : Nat} {x : α} : ∀ {l : List (Nat × α)}, getRow f l = some x → (f, x) ∈ l
  | [], h => by cases h
  | (g, y) :: l, h => by
    unfold getRow at h
    cases hb : Nat.beq g f with
    | true => rw [hb] at h; cases h; rw [Nat.eq_of_beq_eq_true hb]; simp
    | false => rw [hb] at h; exact List.mem_cons_of_mem _ (getRow_mem' h)
theorem ptrRows_ok {W : World → Prop} : ∀ f g args v, getRow f ptrRows = some g → (g args).val = some v → CallG Tryd.prog W f args v := by
  intro f g args v hf hv
  have hm := getRow_mem' hf
  simp only [ptrRows, List.mem_cons, List.not_mem_nil, or_false, Prod.mk.injEq] at hm
  rcases hm with ⟨rfl, rfl⟩ | ⟨rfl, rfl⟩ | ⟨rfl, rfl⟩ | ⟨rfl, rfl⟩ | ⟨rfl, rfl⟩
  · exact fieldG (fun b o => ⟨3, by kernel_rfl⟩) args v hv
  · exact fieldG (fun b o => ⟨3, by kernel_rfl⟩) args v hv
  · exact fieldG (fun b o => ⟨3, by kernel_rfl⟩) args v hv
  · exact fieldG (fun b o => ⟨3, by kernel_rfl⟩) args v hv
  · exact fieldG (fun b o => ⟨3, by kernel_rfl⟩) args v hv
end Go.Proofs.YtgeheffhdpeddaaDoor.VX

/- THE TABLE HOLDS, row by row. Conditions: as each theorem states. -/
namespace Go.Proofs.YtgeheffhdpeddaaDoor.VX
open Go Go.Proofs Go.RowKit
/-- One row of the table is so. -/
def RowOK (W : World → Prop) (r : Nat × (List AV → Ans AV)) : Prop := ∀ args v, (r.2 args).val = some v → CallOK Tryd.prog W r.1 args v
theorem getRow_mem {α : Type} {f : Nat} {x : α} : ∀ {l : List (Nat × α)}, getRow f l = some x → (f, x) ∈ l
  | [], h => by cases h
  | (g, y) :: l, h => by
    unfold getRow at h
    cases hb : Nat.beq g f with
    | true => rw [hb] at h; cases h; rw [Nat.eq_of_beq_eq_true hb]; simp
    | false => rw [hb] at h; exact List.mem_cons_of_mem _ (getRow_mem h)
theorem tableOK_of {W : World → Prop} {k : Nat} (h : ∀ r ∈ tab.take k, RowOK W r) : TableOK Tryd.prog W (X k) := by
  intro f g args v hf hg
  exact h _ (getRow_mem hf) args v hg
/-- What the rows are shown under. -/
structure Wok (W : World → Prop) : Prop where
  glob : ∀ w, W w → GlobOK globs w
  ww : WW W
  rows : RowsOK Tryd.prog W (X 0)
theorem Wok.rowsX {W : World → Prop} (h : Wok W) (k : Nat) : RowsOK Tryd.prog W (X k) := h.rows
/-- A row is so if the run over the rows ahead of it answers as it does. -/
theorem row_ok {W : World → Prop} (hW : Wok W) {k : Nat} {r : Nat × (List AV → Ans AV)} (hX : ∀ q ∈ tab.take k, RowOK W q)
    (h : ∀ args v, (r.2 args).val = some v → ∃ n, runA Tryd.prog (X k) n r.1 args = some v) : RowOK W r := by
  intro args v hv
  obtain ⟨n, hn⟩ := h args v hv
  exact runA_ok (X := X k) progOK hW.glob hW.ww (tableOK_of hX) (hW.rowsX k) hn
theorem rows_succ {W : World → Prop} {k : Nat} {r : Nat × (List AV → Ans AV)} (h : ∀ q ∈ tab.take k, RowOK W q) (hk : tab[k]? = some r) (hr : RowOK W r) : ∀ q ∈ tab.take (k + 1), RowOK W q := by
  intro q hq
  rw [List.take_add_one, hk] at hq
  rcases List.mem_append.mp hq with hq | hq
  · exact h q hq
  · simp at hq; rw [hq]; exact hr
theorem rows_step {W : World → Prop} (hW : Wok W) {k : Nat} {f : Nat} {r : List AV → Ans AV} (h : ∀ q ∈ tab.take k, RowOK W q) (hk : tab[k]? = some (f, r)) (hr : ∀ args v, (r args).val = some v → ∃ n, runA Tryd.prog (X k) n f args = some v) : ∀ q ∈ tab.take (k + 1), RowOK W q :=
  rows_succ h hk (row_ok hW h hr)
theorem rows0 (W : World → Prop) : ∀ q ∈ tab.take 0, RowOK W q := fun q hq => by simp at hq
theorem val_when {α : Type} {c : Bool} {x : Ans α} {v : α} (h : (Ans.when c x).val = some v) : c = true ∧ x.val = some v := by
  cases c with
  | true => exact ⟨rfl, h⟩
  | false => cases h
end Go.Proofs.YtgeheffhdpeddaaDoor.VX

/- PLAIN: small laws for the equations: tests of numbers, bytes, places of a list. Conditions: as each theorem states. -/
namespace Go.Proofs.YtgeheffhdpeddaaDoor.VX
open Go Go.Proofs.YtgeheffhdpeddaaDoor
theorem wrap_id {n : Int} (h0 : -9223372036854775808 ≤ n) (h1 : n < 9223372036854775808) : IntKind.i64.wrap n = n := by
  simp only [IntKind.wrap, IntKind.bits, IntKind.signed, Bool.true_and, decide_eq_true_eq]
  have e1 : (2 : Int) ^ 64 = 18446744073709551616 := rfl
  have e2 : (2 : Int) ^ (64 - 1) = 9223372036854775808 := rfl
  split
  · rename_i h
    have h : n % 2 ^ 64 ≥ 2 ^ (64 - 1) := of_decide_eq_true h
    rw [e1, e2] at h
    rw [e1]; omega
  · rename_i h
    have h : ¬ (n % 2 ^ 64 ≥ 2 ^ (64 - 1)) := fun x => h (decide_eq_true x)
    rw [e1, e2] at h
    rw [e1]; omega
theorem lt_t {a b : Int} (h : a < b) : decide (a < b) = true := decide_eq_true h
theorem lt_f {a b : Int} (h : b ≤ a) : decide (a < b) = false := decide_eq_false (Int.not_lt.mpr h)
theorem le_t {a b : Int} (h : a ≤ b) : decide (a ≤ b) = true := decide_eq_true h
theorem le_f {a b : Int} (h : b < a) : decide (a ≤ b) = false := decide_eq_false (Int.not_le.mpr h)
theorem gt_t {a b : Int} (h : b < a) : decide (a > b) = true := decide_eq_true h
theorem gt_f {a b : Int} (h : a ≤ b) : decide (a > b) = false := decide_eq_false (Int.not_lt.mpr h)
theorem ge_t {a b : Int} (h : b ≤ a) : decide (a ≥ b) = true := decide_eq_true h
theorem ge_f {a b : Int} (h : a < b) : decide (a ≥ b) = false := decide_eq_false (Int.not_le.mpr h)
theorem eq_t {a b : Int} (h : a = b) : (a == b) = true := by simp [h]
theorem eq_f {a b : Int} (h : a ≠ b) : (a == b) = false := by simp [h]
theorem room_t {n b : Nat} (h : n ≤ 549755813888) (hb : b ≤ 128) : roomA n b = true := by
  unfold roomA
  rw [Nat.ble_eq_true_of_le (by omega), Nat.ble_eq_true_of_le hb]; rfl
theorem toNat_cast (i : Nat) : ((i : Nat) : Int).toNat = i := rfl
theorem drop_cons {s : List UInt8} {i : Nat} {c : UInt8} {r : List UInt8} (h : s.drop i = c :: r) : i < s.length ∧ s.getD i 0 = c ∧ s.drop (i + 1) = r ∧ s.length = i + 1 + r.length := by
  have hl := congrArg List.length h
  simp only [List.length_drop, List.length_cons] at hl
  have hi : i < s.length := by omega
  rw [List.drop_eq_getElem_cons hi] at h
  injection h with h1 h2
  refine ⟨hi, ?_, h2, by omega⟩
  simp [List.getD_eq_getElem?_getD, hi, h1]
theorem drop_nil {s : List UInt8} {i : Nat} (h : s.drop i = []) (hi : i ≤ s.length) : i = s.length := by
  have := congrArg List.length h
  simp only [List.length_drop, List.length_nil] at this
  omega
/-! bytes -/
theorem u8_all {p : UInt8 → Bool} (h : (List.range 256).all (fun n => p (UInt8.ofNat n)) = true) (b : UInt8) : p b = true := by
  rw [List.all_eq_true] at h
  have := h b.toNat (List.mem_range.mpr b.toNat_lt)
  simpa using this
theorem u8_eq {α : Type} [DecidableEq α] {f g : UInt8 → α} (h : (List.range 256).all (fun n => decide (f (UInt8.ofNat n) = g (UInt8.ofNat n))) = true) (b : UInt8) : f b = g b :=
  of_decide_eq_true (u8_all (p := fun b => decide (f b = g b)) h b)
theorem bif_int {c : Bool} {k : IntKind} {a b : Int} : (bif c then some (AV.int k a) else some (AV.int k b)) = some (AV.int k (bif c then a else b)) := by cases c <;> rfl
theorem bif_bool {c : Bool} {a b : Bool} : (bif c then some (AV.bool a) else some (AV.bool b)) = some (AV.bool (bif c then a else b)) := by cases c <;> rfl
theorem bif_str {c : Bool} {a b : List UInt8} : (bif c then some (AV.str a) else some (AV.str b)) = some (AV.str (bif c then a else b)) := by cases c <;> rfl
namespace Sp
theorem ints_cons (b : UInt8) (s : List UInt8) : ints (b :: s) = (b.toNat : Int) :: ints s := rfl
theorem ints_nil : ints [] = [] := rfl
theorem ints_len (s : List UInt8) : (ints s).length = s.length := by simp [ints]
theorem ints_app (s t : List UInt8) : ints (s ++ t) = ints s ++ ints t := by simp [ints]
theorem ints_drop (s : List UInt8) (n : Nat) : ints (s.drop n) = (ints s).drop n := by simp [ints]
theorem ints_take (s : List UInt8) (n : Nat) : ints (s.take n) = (ints s).take n := by simp [ints]
theorem tb_ints (s : List UInt8) : tb (ints s) = s := by
  simp [tb, ints, Function.comp_def]
theorem ints_inj {a b : List UInt8} (h : ints a = ints b) : a = b := by
  have := congrArg tb h
  rwa [tb_ints, tb_ints] at this
theorem byte_ge {b : UInt8} : 0 ≤ ((b.toNat : Nat) : Int) := Int.natCast_nonneg _
theorem short_lt {s : List UInt8} (h : short s = true) : s.length < 68719476736 := of_decide_eq_true h
/-- A byte against a number. -/
theorem beq_b (b c : UInt8) : (b == c) = decide ((b.toNat : Int) = c.toNat) := by
  rw [Bool.eq_iff_iff, beq_iff_eq, decide_eq_true_eq]
  constructor
  · rintro rfl; rfl
  · intro h; exact UInt8.toNat_inj.mp (by omega)
theorem lt_b (b c : UInt8) : decide (b < c) = decide ((b.toNat : Int) < c.toNat) := by
  rw [Bool.eq_iff_iff, decide_eq_true_eq, decide_eq_true_eq, UInt8.lt_iff_toNat_lt]; omega
theorem le_b (b c : UInt8) : decide (b ≤ c) = decide ((b.toNat : Int) ≤ c.toNat) := by
  rw [Bool.eq_iff_iff, decide_eq_true_eq, decide_eq_true_eq, UInt8.le_iff_toNat_le]; omega
end Sp
end Go.Proofs.YtgeheffhdpeddaaDoor.VX
