/-
  Texts laid together: strings; strings; strings. Conditions: as each theorem states.
-/
import Derived.Deep.AppendSrc
import Derived.Deep.Upon
import Derived.Shelf.Strings.Builder1
import Derived.WalkKit
import Derived.BigCall
import Derived.Laws.Externs
import Derived.Test.YtgeheffhdpeddaaDoorXExC
import Derived.Test.YtgeheffhdpeddaaDoorProg
import Derived.RegionTactic
import Derived.BigRegion
import Derived.Test.YtgeheffhdpeddaaDoorXExD
/- strings.Builder's CALLS: what each leaves in memory, told precisely. Conditions: as each theorem states. -/
namespace Go.Proofs.YtgeheffhdpeddaaDoor.VX
open Go Go.Proofs Go.Shelf Go.RowKit

/-- The buffer, in a world. -/
def BufW (w : World) (bs : List UInt8) : Option Nat → Value → Prop
  | none, v => v = .slice none 0 0 ∧ bs = []
  | some c, v => ∃ cap cur, v = .slice (some ⟨c, 0, none⟩) bs.length cap ∧ w.heap[c]? = some (.cells cur byteT (0, 0)) ∧ 1 ≤ cap ∧ bs.length ≤ cap ∧ cap ≤ cur.size ∧ Heads bs cur
/-- Behind an append to the buffer. -/
structure Ap (w w' : World) (k k' : Option Nat) (bs : List UInt8) (v : Value) : Prop where
  os : w'.os = w.os
  tape : w'.tape = w.tape
  output : w'.output = w.output
  size : w.heap.size ≤ w'.heap.size
  block : ∀ i, i < w.heap.size → k ≠ some i → w'.heap[i]? = w.heap[i]?
  new : ∀ c, k' = some c → k = some c ∨ w.heap.size ≤ c
  buf : BufW w' bs k' v
def byteVs (l : List UInt8) : List Value := l.map fun b => Value.int .u8 b.toNat
theorem Heads.vs {bs : List UInt8} {cur : Array Value} (h : Heads bs cur) : ∀ (j : Nat) (u : Value), (byteVs bs)[j]? = some u → cur[j]? = some u := fun j u e => by
  unfold byteVs at e
  rw [List.getElem?_map, Option.map_eq_some_iff] at e
  obtain ⟨x, e1, rfl⟩ := e
  exact h j x e1
theorem Heads.of {bs : List UInt8} {cur : Array Value} (h : ∀ (j : Nat) (u : Value), (byteVs bs)[j]? = some u → cur[j]? = some u) : Heads bs cur := fun i x e =>
  h i _ (by unfold byteVs; rw [List.getElem?_map, e]; rfl)
theorem byteVs_len (l : List UInt8) : (byteVs l).length = l.length := by simp [byteVs]
theorem byteVs_app (a b : List UInt8) : byteVs (a ++ b) = byteVs a ++ byteVs b := by simp [byteVs]

section
variable {P : Program} (w : World)
theorem run_byteApp {t u ty : TypeId} {i : TypeInfo} (ht : P.underlying t = some (.slice byteT)) (hi : P.info? byteT = some i) (hz : i.zero = some (.int .u8 0)) (hsize : i.size = 1) (hby : i.bytes = 1)
    {v x : Value} {bs more : List UInt8} {k : Option Nat} (hb : BufW w bs k v) (hs : Src P 1 u x more.length (byteVs more) w) (hroom : bs.length + more.length ≤ 1099511627776) :
    ∃ v' w' k', (Builtin.append_ #[t, u] ty #[v, x]).run P w = .ok v' w' ∧ Ap w w' k k' (bs ++ more) v' := by
  have hs' : Src P i.size u x more.length (byteVs more) w := by rw [hsize]; exact hs
  have same : ∀ {k : Option Nat} {v : Value}, BufW w bs k v → more = [] → Ap w w k k (bs ++ more) v := fun h e => by
    subst e
    exact ⟨rfl, rfl, rfl, Nat.le_refl _, fun _ _ _ => rfl, fun _ e => .inl e, by rw [List.append_nil]; exact h⟩
  have grown : ∀ (base : Option Addr) (cap : Nat) (olds : List Value), olds = byteVs bs → (Builtin.firstCells i.size bs.length (.slice base bs.length cap)).run P w.drew = .ok olds.toArray w.drew → cap < bs.length + more.length →
      ∃ v' w' k', (Builtin.append_ #[t, u] ty #[.slice base bs.length cap, x]).run P w = .ok v' w' ∧ Ap w w' k k' (bs ++ more) v' := by
    intro base cap olds ho hold hlt
    have hbytes : (bs.length + more.length) * i.bytes ≤ 140737488355328 := by rw [hby]; omega
    have hrun := run_append_grow_src w t u ty byteT i (.int .u8 0) ht hi hz base bs.length cap olds hold x more.length (byteVs more) hs' (by omega) (by omega) (growslice_fits (by omega) hbytes)
    generalize hncap : grownCap w (bs.length + more.length) cap byteT = ncap at hrun
    have hge : bs.length + more.length ≤ ncap := by rw [← hncap]; exact grownCap_ge w _ _ _
    generalize hus : (olds ++ byteVs more).toArray ++ Builtin.zeroCells (Value.int .u8 0).cells (ncap - (bs.length + more.length)) = us at hrun
    refine ⟨_, _, some w.heap.size, hrun, rfl, rfl, rfl, by simp, fun j hj _ => ?_, fun c e => ?_, ?_⟩
    · exact ((below_alloc1 w.drew (.cells us byteT (0, 0))).block j (by simpa using hj)).trans rfl
    · cases e; exact .inr (Nat.le_refl _)
    · have hnew : (w.drew.alloc (.cells us byteT (0, 0))).heap[w.heap.size]? = some (.cells us byteT (0, 0)) := by
        have := heap_alloc_new w.drew (.cells us byteT (0, 0))
        simpa using this
      refine ⟨ncap, us, by rw [List.length_append], hnew, by omega, by rw [List.length_append]; omega, ?_, Heads.of fun j u' hj => ?_⟩
      · rw [← hus, ho]
        simp only [Array.size_append, List.size_toArray, List.length_append, byteVs_len, size_zeroCells]
        show ncap ≤ bs.length + more.length + (ncap - (bs.length + more.length)) * 1
        omega
      · rw [byteVs_app] at hj
        rw [← hus, ho, Array.getElem?_append_left (by simpa using (List.getElem?_eq_some_iff.mp hj).1)]
        simpa using hj
  cases k with
  | none =>
    obtain ⟨rfl, rfl⟩ := hb
    cases hm : more with
    | nil =>
      subst hm
      have hrun := run_append_nothing w t u ty byteT i ht hi none 0 0 (Nat.le_refl _) x hs'
      exact ⟨_, _, none, hrun, same ⟨rfl, rfl⟩ rfl⟩
    | cons y r =>
      rw [← hm]
      exact grown none 0 [] rfl (run_firstCells_none w.drew i.size 0 0 0) (by rw [hm]; simp)
  | some c =>
    obtain ⟨cap, cur, rfl, hh, h1, hle, hcs, hhd⟩ := hb
    cases hm : more with
    | nil =>
      subst hm
      have hrun := run_append_nothing w t u ty byteT i ht hi (some ⟨c, 0, none⟩) bs.length cap hle x hs'
      exact ⟨_, _, some c, hrun, same ⟨cap, cur, rfl, hh, h1, hle, hcs, hhd⟩ rfl⟩
    | cons y r =>
      rw [← hm]
      have hmore : 1 ≤ more.length := by rw [hm]; simp
      by_cases hfit : bs.length + more.length ≤ cap
      · have hrun := run_append_room_src w t u ty byteT i ht hi c 0 bs.length cap x more.length (byteVs more) hs' hfit
          (fun j hj => by rw [byteVs_len] at hj; rw [cell_of_row w c _ cur byteT (0, 0) hh, hsize, Array.getElem?_eq_getElem (by omega)]; rfl) (fun j hj => by simp [World.frozen?, hh])
        rw [setCells_setRow hh (by rw [byteVs_len, hsize]; omega) hs.one] at hrun
        generalize hcs' : (cur.toList.take (0 + bs.length * i.size) ++ byteVs more ++ cur.toList.drop (0 + bs.length * i.size + (byteVs more).length)).toArray = cs at hrun
        have hone := only_setRow w c cs
        have hh' := setRow_heap w c cur cs byteT (0, 0) hh
        have hcsz : cs.size = cur.size := by rw [← hcs', hsize]; simp [byteVs_len]; omega
        refine ⟨_, _, some c, hrun, hone.os, hone.tape, hone.output, Nat.le_of_eq hone.size.symm, fun j _ hj => hone.block j fun e => hj (by rw [e]), fun _ e => .inl e, cap, cs, by rw [List.length_append], hh', h1, by rw [List.length_append]; exact hfit, by omega, Heads.of fun j u' hj => ?_⟩
        rw [byteVs_app] at hj
        rw [← hcs', List.getElem?_toArray, hsize]
        by_cases hjl : j < bs.length
        · rw [List.append_assoc, List.getElem?_append_left (by simp; omega), List.getElem?_take_of_lt (by omega)]
          rw [List.getElem?_append_left (by rw [byteVs_len]; exact hjl)] at hj
          simpa using hhd.vs j u' hj
        · rw [List.getElem?_append_right (by rw [byteVs_len]; omega), byteVs_len] at hj
          rw [List.append_assoc, List.getElem?_append_right (by simp; omega), List.getElem?_append_left (by simp [byteVs_len]; have := (List.getElem?_eq_some_iff.mp hj).1; rw [byteVs_len] at this; omega)]
          rw [← hj]; congr 1; simp; omega
      · have hcell : ∀ j u, (byteVs bs)[j]? = some u → w.cell? ((⟨c, 0, none⟩ : Addr).add j) = some u := fun j u hj => by
          rw [add_none, cell_of_row w c _ cur byteT (0, 0) hh, Nat.zero_add]; exact hhd.vs j u hj
        exact grown (some ⟨c, 0, none⟩) cap (byteVs bs) rfl (run_firstCells_some w.drew _ _ _ _ _ (byteVs bs) (by rw [byteVs_len, hsize, Nat.mul_one]) (by simpa using hcell)) (by omega)

theorem wpList_byteApp {ops : Array Oper} {rest : List Oper} {o : Oper} {a : Act} {Q : Exit → Act → World → Prop} (hgd : o.guard = none) (sl xo : Operand) (t u : TypeId)
    (ho : o.op = .call { callee := .builtin .append, args := #[sl, xo], argTypes := #[t, u] }) {i : TypeInfo} (ht : P.underlying t = some (.slice byteT)) (hi : P.info? byteT = some i) (hz : i.zero = some (.int .u8 0)) (hsize : i.size = 1) (hby : i.bytes = 1)
    {v x : Value} {bs more : List UInt8} {k : Option Nat} (hs : a.eval sl = v) (hb : BufW w bs k v) (hx : a.eval xo = x) (hsrc : Src P 1 u x more.length (byteVs more) w) (hroom : bs.length + more.length ≤ 1099511627776)
    (h : ∀ v' w' k', Ap w w' k k' (bs ++ more) v' → wpList P ops Q rest (a.put o.dst v') w') : wpList P ops Q (o :: rest) a w := by
  refine wpList_plain hgd fun K hK => ?_
  obtain ⟨v', w', k', hr, h2⟩ := run_byteApp (P := P) w (ty := o.type) ht hi hz hsize hby hb hsrc hroom
  unfold Oper.wp execOp
  simp only [ho, resolve, invoke, builtin, Sem.run_bind, Sem.run_pure, Result.andThen_ok, List.map_toArray, List.map_cons, List.map_nil, hs, hx, hr]
  exact hK _ _ (h v' w' k' h2)
end
theorem infoByte : (Tryd.prog.info? byteT).map (fun i => (i.zero, i.size, i.bytes)) = some (some (.int .u8 0), 1, 1) := by kernel_rfl
theorem sizeBuilder : (Tryd.prog.info? bldT).map (fun i => i.size) = some 2 := by kernel_rfl
theorem liesBuilder : liesAt Tryd.prog Tryd.prog.depth bldT (2 / Tryd.prog.cellsOf bldT) 0 bldT 1 = true := by kernel_rfl
set_option maxHeartbeats 1000000 in
set_option maxRecDepth 100000 in
theorem copyCheck_used (b : Nat) (w : World) (h0 : w.cell? ⟨b, 0, none⟩ = some (.pointer (some ⟨b, 0, none⟩))) :
    Calls Tryd.prog 61 #[.pointer (some ⟨b, 0, none⟩)] w fun e w' => e = .returned (.tuple #[]) ∧ w' = w := by
  obtain ⟨j, hj, _⟩ := Option.map_eq_some_iff.1 sizeBuilder
  go_enter Tryd.func61, Tryd.ntmps61
  go_wp2
  rw [Lib.run_neq_ptr_same w _ Tryd.underlying85 hj]
  go_wp2
  go_end0
  exact ⟨rfl, rfl⟩
set_option maxHeartbeats 1000000 in
set_option maxRecDepth 100000 in
theorem copyCheck_fresh (b : Nat) (w : World) (h0 : w.cell? ⟨b, 0, none⟩ = some (.pointer none)) (hsh : w.shape? b = some (bldT, 2)) (hfz : w.frozen? ⟨b, 0, none⟩ = false) :
    Calls Tryd.prog 61 #[.pointer (some ⟨b, 0, none⟩)] w fun e w' => e = .returned (.tuple #[]) ∧ w' = w.setCell ⟨b, 0, none⟩ (.pointer (some ⟨b, 0, none⟩)) := by
  obtain ⟨j, hj, hjs⟩ := Option.map_eq_some_iff.1 sizeBuilder
  go_enter Tryd.func61, Tryd.ntmps61
  go_wp2
  rw [Lib.run_to_unsafe w ⟨b, 0, none⟩ Tryd.underlying85 Tryd.underlying115 hj (by rw [hjs]; decide) hsh (Nat.zero_lt_succ 1)]
  simp only [Result.andThen]
  rw [Oper.upon_value]
  go_wp2
  rw [run_callFunc_extern Tryd.func77 (by kernel_rfl) (by kernel_rfl) (by kernel_rfl) (e := Extern.AbiNoEscape.same) (by kernel_rfl)]
  rw [Lib.run_noEscape]
  simp only [Result.andThen]
  rw [Oper.upon_value]
  go_wp2
  rw [Lib.run_from_unsafe w ⟨b, 0, none⟩ Tryd.underlying115 Tryd.underlying85 hj hsh liesBuilder]
  simp only [Result.andThen]
  rw [Oper.upon_value]
  go_wp2
  go_end0
  exact ⟨rfl, rfl⟩
/-- Behind copyCheck: the builder bears its own address. -/
theorem copyCheck (b : Nat) (p v : Value) (w : World) (h : w.heap[b]? = some (.cells #[p, v] bldT (0, 0))) (hp : p = .pointer none ∨ p = .pointer (some ⟨b, 0, none⟩)) :
    Calls Tryd.prog 61 #[.pointer (some ⟨b, 0, none⟩)] w fun e w' => e = .returned (.tuple #[]) ∧ OnlyBlock b w w' ∧ w'.heap[b]? = some (.cells #[.pointer (some ⟨b, 0, none⟩), v] bldT (0, 0)) := by
  rcases hp with rfl | rfl
  · refine (copyCheck_fresh b w (by rw [Lib.cell_of_heap h]; rfl) (by simp [World.shape?, h]) (Lib.frozen_of_heap h 0)).mono ?_
    rintro e w' ⟨rfl, rfl⟩
    refine ⟨rfl, ⟨rfl, rfl, rfl, by simp [World.setCell], fun k hk => ?_⟩, ?_⟩
    · simp only [World.setCell, Array.getElem?_modify]
      rw [if_neg (fun e => hk e.symm)]
    · simp [World.setCell, Array.getElem?_modify, h]
  · refine (copyCheck_used b w (by rw [Lib.cell_of_heap h]; rfl)).mono ?_
    rintro e w' ⟨rfl, rfl⟩
    exact ⟨rfl, OnlyBlock.refl b w', h⟩
end Go.Proofs.YtgeheffhdpeddaaDoor.VX

/- strings.Builder's CALLS: WriteString, WriteByte, String. Conditions: as each theorem states. -/
namespace Go.Proofs.YtgeheffhdpeddaaDoor.VX
open Go Go.Proofs Go.Shelf Go.RowKit
set_option linter.unusedVariables false

theorem put_of {w w1 w2 w3 : World} {b : Nat} {k k' : Option Nat} {bs' : List UInt8} {v' : Value} (hlt : b < w.heap.size) (hkb : k ≠ some b) (h1 : OnlyBlock b w w1) (h2 : Ap w1 w2 k k' bs' v') (h3 : OnlyBlock b w2 w3)
    (hh : w3.heap[b]? = some (.cells #[.pointer (some ⟨b, 0, none⟩), v'] bldT (0, 0))) : Put w w3 b k k' bs' := by
  have hsz : w2.heap.size = w3.heap.size := h3.size.symm
  refine ⟨h3.os.trans (h2.os.trans h1.os), h3.tape.trans (h2.tape.trans h1.tape), h3.output.trans (h2.output.trans h1.output), by rw [h3.size]; exact Nat.le_trans (Nat.le_of_eq h1.size.symm) h2.size,
    fun i hi n1 n2 => (h3.block i n1).trans ((h2.block i (by rw [h1.size]; exact hi) n2).trans (h1.block i n1)), v', hh, ?_⟩
  have hb := h2.buf
  cases k' with
  | none => exact hb
  | some c =>
    obtain ⟨cap, cur, e1, e2, e3⟩ := hb
    have hn := h2.new c rfl
    have hne : c ≠ b := fun e => by
      rcases hn with x | x
      · exact hkb (by rw [x, e])
      · rw [h1.size] at x; omega
    exact ⟨hn.imp_right fun x => by rw [← h1.size]; exact x, cap, cur, e1, (h3.block c hne).trans e2, e3⟩
theorem BufW.of_only {w w1 : World} {bs : List UInt8} {k : Option Nat} {v : Value} {b : Nat} (h : BufW w bs k v) (hkb : k ≠ some b) (h1 : OnlyBlock b w w1) : BufW w1 bs k v := by
  cases k with
  | none => exact h
  | some c =>
    obtain ⟨cap, cur, e1, e2, e3⟩ := h
    exact ⟨cap, cur, e1, (h1.block c fun e => hkb (by rw [e])).trans e2, e3⟩
theorem lt_heap {w : World} {b : Nat} {o : Obj} (h : w.heap[b]? = some o) : b < w.heap.size := by
  rcases Nat.lt_or_ge b w.heap.size with h' | h'
  · exact h'
  · rw [Array.getElem?_eq_none h'] at h; cases h
theorem only_setCell {w : World} {b : Nat} {p v u : Value} (h : w.heap[b]? = some (.cells #[p, v] bldT (0, 0))) : OnlyBlock b w (w.setCell ⟨b, 1, none⟩ u) ∧ (w.setCell ⟨b, 1, none⟩ u).heap[b]? = some (.cells #[p, u] bldT (0, 0)) := by
  refine ⟨⟨rfl, rfl, rfl, by simp [World.setCell], fun k hk => ?_⟩, ?_⟩
  · simp only [World.setCell, Array.getElem?_modify]
    rw [if_neg (fun e => hk e.symm)]
  · simp [World.setCell, Array.getElem?_modify, h]
set_option maxHeartbeats 2000000 in
set_option maxRecDepth 100000 in
theorem writeString (b : Nat) (p v : Value) (bs s : List UInt8) (k : Option Nat) (w : World) (h : w.heap[b]? = some (.cells #[p, v] bldT (0, 0))) (hp : p = .pointer none ∨ p = .pointer (some ⟨b, 0, none⟩)) (hbuf : BufW w bs k v) (hkb : k ≠ some b)
    (hlen : bs.length + s.length ≤ 1099511627776) :
    Calls Tryd.prog 44 #[.pointer (some ⟨b, 0, none⟩), .string ⟨s.toArray⟩] w fun e w' => e = .returned (.tuple #[.int .i64 s.length, .nilIface]) ∧ ∃ k', Put w w' b k k' (bs ++ s) := by
  obtain ⟨i0, hi, hz0, hz1, hz2⟩ := info_parts infoByte
  go_enter Tryd.func44, Tryd.ntmps44
  go_wp2_with (go_at_call 61; refine (copyCheck b p v _ h hp).mono ?_)
  rintro e w1 ⟨rfl, h1, hbk⟩
  have c0 : w1.cell? ⟨b, 0, none⟩ = some (.pointer (some ⟨b, 0, none⟩)) := by rw [Lib.cell_of_heap hbk]; rfl
  have c1 : w1.cell? ⟨b, 1, none⟩ = some v := by rw [Lib.cell_of_heap hbk]; rfl
  have hbuf1 := hbuf.of_only hkb h1
  have hss : (⟨s.toArray⟩ : ByteArray).size = s.length := by show s.toArray.size = _; simp
  have hsrc : Src Tryd.prog 1 9 (.string ⟨s.toArray⟩) s.length (byteVs s) w1 := by
    have := Src.ofString (P := Tryd.prog) w1 (tx := 9) Tryd.underlying9 ⟨s.toArray⟩
    rw [hss] at this
    have e : Go.byteCells ⟨s.toArray⟩ = byteVs s := by simp [Go.byteCells, byteVs]
    rw [e] at this
    exact this
  go_wp2_with (at_builtin; refine wpList_byteApp _ rfl _ _ 22 9 rfl Tryd.underlying22 hi hz0 hz1 hz2 rfl hbuf1 rfl hsrc hlen ?_)
  intro v' w2 k' hap
  have hlt : b < w1.heap.size := lt_heap hbk
  have hb2 : w2.heap[b]? = some (.cells #[.pointer (some ⟨b, 0, none⟩), v] bldT (0, 0)) := (hap.block b hlt hkb).trans hbk
  have d0 : w2.cell? ⟨b, 0, none⟩ = some (.pointer (some ⟨b, 0, none⟩)) := by rw [Lib.cell_of_heap hb2]; rfl
  have d1 : w2.cell? ⟨b, 1, none⟩ = some v := by rw [Lib.cell_of_heap hb2]; rfl
  have f1 : w2.frozen? ⟨b, 1, none⟩ = false := Lib.frozen_of_heap hb2 1
  obtain ⟨ao, n', cap, rfl⟩ : ∃ ao n' cap, v' = .slice ao n' cap := by
    have := hap.buf
    cases k' with
    | none => exact ⟨_, _, _, this.1⟩
    | some c => obtain ⟨cap, cur, e, _⟩ := this; exact ⟨_, _, _, e⟩
  go_wp2
  go_ret2
  obtain ⟨o1, o2⟩ := only_setCell (u := .slice ao n' cap) hb2
  refine ⟨rfl, k', put_of (lt_heap h) hkb h1 hap o1 o2⟩
set_option maxHeartbeats 2000000 in
set_option maxRecDepth 100000 in
/-- Behind String: the buffer alone may have changed. -/
structure Told (w w' : World) (k : Option Nat) : Prop where
  os : w'.os = w.os
  tape : w'.tape = w.tape
  output : w'.output = w.output
  size : w'.heap.size = w.heap.size
  block : ∀ c, k ≠ some c → w'.heap[c]? = w.heap[c]?
theorem cellsByte : Tryd.prog.cellsOf byteT = 1 := by kernel_rfl
set_option maxHeartbeats 2000000 in
set_option maxRecDepth 100000 in
theorem bldString (b : Nat) (p v : Value) (bs : List UInt8) (k : Option Nat) (w : World) (h : w.heap[b]? = some (.cells #[p, v] bldT (0, 0))) (hbuf : BufW w bs k v) (hlen : bs.length ≤ 1099511627776) :
    Calls Tryd.prog 45 #[.pointer (some ⟨b, 0, none⟩)] w fun e w' => e = .returned (.string ⟨bs.toArray⟩) ∧ Told w w' k := by
  have hd : w.drew.heap[b]? = some (.cells #[p, v] bldT (0, 0)) := h
  have c1 : w.drew.cell? ⟨b, 1, none⟩ = some v := by rw [Lib.cell_of_heap hd]; rfl
  have t0 : Told w w.drew k := ⟨rfl, rfl, rfl, rfl, fun _ _ => rfl⟩
  cases k with
  | none =>
    obtain ⟨rfl, rfl⟩ := hbuf
    have hUS := Lib.run_unsafeString_none (P := Tryd.prog) w.drew 104 3 9 none
    have hSD : (Builtin.unsafeSliceData_ #[22] 104 #[.slice none 0 0]).run Tryd.prog w.drew = .ok (.pointer none) w.drew := rfl
    go_enter Tryd.func45, Tryd.ntmps45
    go_wp2
    go_region
    all_goals (go_wp2; go_ret; exact ⟨rfl, t0⟩)
  | some c =>
    obtain ⟨cap, cur, rfl, hg, hc1, hle, hcs, hhd⟩ := hbuf
    have hSD : (Builtin.unsafeSliceData_ #[22] 104 #[.slice (some ⟨c, 0, none⟩) bs.length cap]).run Tryd.prog w.drew = .ok (.pointer (some ⟨c, 0, none⟩)) w.drew :=
      Lib.run_unsafeSliceData_row _ _ _ _ _ _ (by omega)
    by_cases hl0 : bs = []
    · subst hl0
      have hSD : (Builtin.unsafeSliceData_ #[22] 104 #[.slice (some ⟨c, 0, none⟩) 0 cap]).run Tryd.prog w.drew = .ok (.pointer (some ⟨c, 0, none⟩)) w.drew := hSD
      have c1 : w.drew.cell? ⟨b, 1, none⟩ = some (.slice (some ⟨c, 0, none⟩) 0 cap) := c1
      have hUS := Lib.run_unsafeString_none (P := Tryd.prog) w.drew 104 3 9 (some ⟨c, 0, none⟩)
      go_enter Tryd.func45, Tryd.ntmps45
      go_wp2
      go_region
      all_goals (go_wp2; go_ret; exact ⟨rfl, t0⟩)
    · have hUS : (Builtin.unsafeString_ #[104, 3] 9 #[.pointer (some ⟨c, 0, none⟩), .int .i64 bs.length]).run Tryd.prog w.drew = .ok (.string ⟨bs.toArray⟩) (w.drew.freeze ⟨c, 0, none⟩ bs.length) := by
        refine Lib.run_unsafeString_row w.drew 104 3 9 byteT Tryd.underlying104 cellsByte c cur.size (by have hg' : w.drew.heap[c]? = some (.cells cur byteT (0, 0)) := hg; simp [World.shape?, hg']) bs hl0 (by omega) (by omega) ?_
        intro j x hx
        have hg' : w.drew.heap[c]? = some (.cells cur byteT (0, 0)) := hg
        rw [add_none, cell_of_row _ c _ cur byteT (0, 0) hg', Nat.zero_add]
        exact hhd j x hx
      have tf : Told w (w.drew.freeze ⟨c, 0, none⟩ bs.length) (some c) := by
        unfold World.freeze
        split
        · exact t0
        · refine ⟨rfl, rfl, rfl, by simp, fun i hi => ?_⟩
          simp only [Array.getElem?_modify]
          rw [if_neg (fun e => hi (by rw [e]))]; rfl
      go_enter Tryd.func45, Tryd.ntmps45
      go_wp2
      go_region
      all_goals (go_wp2; go_ret; exact ⟨rfl, tf⟩)
end Go.Proofs.YtgeheffhdpeddaaDoor.VX

/- strings.Builder's CALLS as rows of the executor. Conditions: as each theorem states. -/
namespace Go.Proofs.YtgeheffhdpeddaaDoor.VX
open Go Go.Proofs Go.RowKit
theorem Buf.w {old : Nat → Prop} {st : Cells} {w : World} {bs : List UInt8} {k : Option Nat} {v : Value} (h : Buf old st w bs k v) : BufW w bs k v := by
  cases k with
  | none => exact h
  | some c =>
    obtain ⟨cap, cur, e1, e2, _, _, e3⟩ := h
    exact ⟨cap, cur, e1, e2, e3⟩
theorem ans_when {α : Type} {c : Bool} {x v : α} (h : (Ans.when c (.one x)).val = some v) : c = true ∧ x = v := by
  obtain ⟨h1, h2⟩ := val_when h
  exact ⟨h1, Option.some.inj h2⟩
theorem NoT.cons {S : St} {k : Key} {e : Ent} (hk : isT k = false) (h : NoT S) : NoT ((k, e) :: S) := fun p hp => by
  rcases List.mem_cons.mp hp with rfl | hp
  · exact hk
  · exact h p hp
section
variable {B : Base} {ι : Inj} {T : Labs} {st : Cells} {ex ex' : Exs} {w : World} {S : St}
theorem at_laid {id : Nat} {e : Ent} (h : Inv B ι T st (setK S.at (.o id) e) ex w) : Inv B ι T st (St.at ((.o id, e) :: nonT S)) ex w := by
  refine h.keys (fun i => ?_) (fun l => ?_) (fun i => ?_)
  · show (bif (Key.o id).same (.o i) then e else St.at (nonT S) (.o i)) = setK S.at (.o id) e (.o i)
    rw [nonT_at rfl]; rfl
  · show (bif (Key.o id).same (.l l) then e else St.at (nonT S) (.l l)) = setK S.at (.o id) e (.l l)
    rw [nonT_at rfl]; rfl
  · show (bif (Key.o id).same (.y i) then e else St.at (nonT S) (.y i)) = setK S.at (.o id) e (.y i)
    rw [nonT_at rfl]; rfl
end
theorem args1 {st : Cells} {w : World} {ι : Inj} {id : Nat} {vs : List AV} {vals : List Value} (h : VRels st w ι (.ptr id 0 :: vs) vals) : ∃ b r, ι id = some b ∧ id < HID ∧ vals = .pointer (some ⟨b, 0, none⟩) :: r ∧ VRels st w ι vs r := by
  obtain ⟨v, r, rfl, ⟨b, ⟨h1, h2⟩, rfl⟩, h3⟩ := h
  exact ⟨b, r, h1, h2, rfl, h3⟩
theorem writeString_ok {W : World → Prop} : ∀ args S c S', (b_writeString args S).val = some (c, S') → InlOK Tryd.prog W 44 args S c S' := by
  intro args S c S' h
  unfold b_writeString at h
  split at h
  · rename_i id s
    split at h
    · rename_i bs hg
      obtain ⟨hle, he⟩ := ans_when h
      cases he
      refine ⟨⟨_, Tryd.func44, rfl⟩, (NoT.nonT S).cons rfl, fun B susp ι T st w vals hS hWB hI hv => ?_⟩
      obtain ⟨b, r, hι, hlo, rfl, hv2⟩ := args1 hv
      obtain ⟨u, r', rfl, hu, hv3⟩ := hv2
      obtain rfl : u = _ := hu
      obtain rfl : r' = [] := hv3
      obtain ⟨b', e1, p, v, hh, hp, hold, hst, hbuf⟩ := hI.bld id bs hg
      rw [hι] at e1; cases e1
      have hkb : ι (hid id) ≠ some b := fun e => hid_lt ((hI.inj _ id b e hι) ▸ hlo)
      refine (writeString b p v bs s (ι (hid id)) w hh hp hbuf.w hkb (Nat.le_of_ble_eq_true hle)).mono ?_
      rintro e w' ⟨rfl, k', hput⟩
      refine ⟨_, rfl, _, T, st, (at_laid (hI.putBld hg hι hput)).exs fun v' lab u' x => x.imp (fun y => y) ?_⟩
      rintro ⟨rfl, rfl, rfl⟩
      exact ⟨⟨_, rfl, _, _, rfl, rfl, _, [], rfl, rfl, rfl⟩, trivial⟩
    · cases h
  · cases h
theorem bldString_ok {W : World → Prop} : ∀ args S c S', (b_string args S).val = some (c, S') → InlOK Tryd.prog W 45 args S c S' := by
  intro args S c S' h
  unfold b_string at h
  split at h
  · rename_i id
    split at h
    · rename_i bs hg
      obtain ⟨hle, he⟩ := ans_when h
      cases he
      refine ⟨⟨_, Tryd.func45, rfl⟩, (NoT.nonT S).cons rfl, fun B susp ι T st w vals hS hWB hI hv => ?_⟩
      obtain ⟨b, r, hι, hlo, rfl, hv2⟩ := args1 hv
      obtain rfl : r = [] := hv2
      obtain ⟨b', e1, p, v, hh, hp, hold, hst, hbuf⟩ := hI.bld id bs hg
      rw [hι] at e1; cases e1
      refine (bldString b p v bs (ι (hid id)) w hh hbuf.w (Nat.le_of_ble_eq_true hle)).mono ?_
      rintro e w' ⟨rfl, ht⟩
      refine ⟨_, rfl, _, T, st, (at_laid (hI.endBld hg hι ht.os ht.tape ht.output ht.size ht.block)).exs fun v' lab u' x => x.imp (fun y => y) ?_⟩
      rintro ⟨rfl, rfl, rfl⟩
      exact ⟨rfl, trivial⟩
    · cases h
  · cases h
theorem bldRows_ok {W : World → Prop} (k : Nat) : RowsOK Tryd.prog W (X k) := by
  refine ⟨?_, fun f g args v h => ptrRows_ok f g args v h⟩
  intro f g args S c S' hf hv
  have hm := getRow_mem (show getRow f bldRows = some g from hf)
  simp only [bldRows, List.mem_cons, List.not_mem_nil, or_false, Prod.mk.injEq] at hm
  rcases hm with ⟨rfl, rfl⟩ | ⟨rfl, rfl⟩
  · exact writeString_ok args S c S' hv
  · exact bldString_ok args S c S' hv
end Go.Proofs.YtgeheffhdpeddaaDoor.VX
