/-
  Texts laid together: LINES; strings; script; The row of script. Conditions: as each theorem states.
-/
import Derived.Test.YtgeheffhdpeddaaDoorXExD
import Derived.Lib.IndexLaws
import Derived.Lib.Strings
import Derived.RangeFuncBox
import Derived.RangeFuncBound
import Derived.RangeFuncCalls
import Derived.RangeFuncLeaves
import Derived.Shelf.Abstract
import Derived.Shelf.RegionOpen
import Derived.WalkKit
import Derived.OwnWalkIn
import Derived.TacticsInMore
import Derived.LoopNIn
import Derived.LoopIn
import Derived.Maps.AppendAt
import Derived.Test.YtgeheffhdpeddaaDoorShelf
import Derived.RangeFuncFrom
import Derived.Test.YtgeheffhdpeddaaDoorXCon
/- LINES: what strings.Lines hands out, line by line, without the line feed: plain. Conditions: as each theorem states. -/
namespace Go.Proofs.YtgeheffhdpeddaaDoor.VX
open Go Go.Proofs
theorem trim_snoc (a : List UInt8) : Lib.trimSuffix (a ++ [10]) [10] = a := by
  have h : Lib.hasSuffix (a ++ [10]) [10] = true := List.isSuffixOf_iff_suffix.mpr ⟨a, rfl⟩
  unfold Lib.trimSuffix
  rw [if_pos h]
  simp
theorem trim_none (s : List UInt8) (h : ∀ k : Nat, s[k]? ≠ some 10) : Lib.trimSuffix s [10] = s := by
  unfold Lib.trimSuffix
  split
  · rename_i hs
    obtain ⟨a, ha⟩ := List.isSuffixOf_iff_suffix.mp hs
    exact absurd (by rw [← ha]; simp) (h a.length)
  · rfl
theorem trim_len (s : List UInt8) : (Lib.trimSuffix s [10]).length ≤ s.length := by
  unfold Lib.trimSuffix
  split
  · rw [List.length_take]; omega
  · exact Nat.le_refl _
theorem linesGo_hit : ∀ (s : List UInt8) (o : Nat) (acc : List UInt8), s[o]? = some 10 → (∀ k, k < o → s[k]? ≠ some 10) → Sp.linesGo acc s = (acc ++ s.take o) :: Sp.linesGo [] (s.drop (o + 1))
  | [], o, acc, h, _ => by simp at h
  | c :: s, 0, acc, h, _ => by
    obtain rfl : c = 10 := by simpa using h
    simp [Sp.linesGo]
  | c :: s, o + 1, acc, h, h' => by
    have hc : (c == 10) = false := by
      have := h' 0 (by omega)
      simpa using this
    have ih := linesGo_hit s o (acc ++ [c]) (by simpa using h) (fun k hk => by have := h' (k + 1) (by omega); simpa using this)
    rw [Sp.linesGo, hc, cond_false, ih]
    simp
theorem linesGo_miss : ∀ (s : List UInt8) (acc : List UInt8), (∀ k : Nat, s[k]? ≠ some 10) → acc ++ s ≠ [] → Sp.linesGo acc s = [acc ++ s]
  | [], acc, _, h => by
    rw [List.append_nil] at h ⊢
    rw [Sp.linesGo, List.isEmpty_eq_false_iff.mpr h]; rfl
  | c :: s, acc, h', h => by
    have hc : (c == 10) = false := by
      have := h' 0
      simpa using this
    have ih := linesGo_miss s (acc ++ [c]) (fun k => by have := h' (k + 1); simpa using this) (by simp)
    rw [Sp.linesGo, hc, cond_false, ih]
    simp
theorem lines_hit (s : List UInt8) (o : Nat) (h : Lib.indexByte s 10 = o) : Sp.lines s = Lib.trimSuffix (s.take (o + 1)) [10] :: Sp.lines (s.drop (o + 1)) := by
  obtain ⟨h1, h2⟩ := Lib.indexByte_some h
  unfold Sp.lines
  rw [linesGo_hit s o [] h1 h2, List.take_add_one, h1]
  show _ = Lib.trimSuffix (s.take o ++ [10]) [10] :: _
  rw [trim_snoc, List.nil_append]
theorem lines_miss (s : List UInt8) (h : Lib.indexByte s 10 = -1) (hs : s ≠ []) : Sp.lines s = [Lib.trimSuffix s [10]] := by
  have h1 := Lib.indexByte_none h
  unfold Sp.lines
  rw [linesGo_miss s [] h1 (by simpa using hs), trim_none s h1, List.nil_append]
end Go.Proofs.YtgeheffhdpeddaaDoor.VX

/- strings.Lines's iterator, walked: it writes its own captured box between the rounds. Conditions: as each theorem states. -/
namespace Go.Proofs.YtgeheffhdpeddaaDoor.VX
open Go Go.Proofs Go.RowKit Go.Shelf
attribute [local go_sem] Oper.semAt_some
set_option maxRecDepth 100000 in
set_option maxHeartbeats 2000000 in
theorem lines1_in (l Bn : Nat) (s : ByteArray) (hs : s.data.toList.length < 68719476736) (J : List (List UInt8) → World → Prop)
    (hset : ∀ ls W v, J ls W → J ls (W.setCell ⟨Bn, 0, none⟩ v)) (hdrew : ∀ ls W, J ls W → J ls W.drew)
    (hY : ∀ ls (x : ByteArray) v W, J ls W → Boxed W Bn 9 v → x.data.toList.length ≤ s.data.toList.length → ls.length < s.data.toList.length → YieldAt Fence.wide (2 - 1) Tryd.prog l #[.string x] W fun e W' =>
      e = .returned (.bool true) ∧ J (ls ++ [Lib.trimSuffix x.data.toList [10]]) W' ∧ Boxed W' Bn 9 v)
    (W : World) (hb : Boxed W Bn 9 (.string s)) (h0 : J [] W) :
    CallsIn Fence.wide 2 Tryd.prog 58 #[.func (.yield l) #[] #[], .pointer (some ⟨Bn, 0, none⟩)] W fun e W' => (∃ v, e = .returned v) ∧ J (Sp.lines s.data.toList) W' := by
  refine callsIn_of_wp Tryd.func58 rfl trivial ?_ rfl
  simp only [Tryd.ntmps58, List.size_toArray, List.length_cons, List.length_nil, Nat.reduceAdd, Nat.reduceSub, Array.replicate_succ, Array.replicate_zero, List.push_toArray, List.append_toArray, List.nil_append, List.cons_append]
  gi_wp2
  gi_loopw [] (fun wr => ∃ (ls : List (List UInt8)) (t : ByteArray), Boxed wr Bn 9 (.string t) ∧ Sp.lines s.data.toList = ls ++ Sp.lines t.data.toList ∧ ls.length + t.data.toList.length ≤ s.data.toList.length ∧ J ls wr)
    (fun wr => match wr.cell? ⟨Bn, 0, none⟩ with | some (.string t) => t.data.toList.length | _ => 0)
  case atStart =>
    exact ⟨[], s, hb, rfl, by simp, h0⟩
  case round =>
    obtain ⟨ls, t, hbt, hls, hlen, hJ⟩ := hrel
    have hc := hbt.cell
    have hf := hbt.frozen
    gi_wp2
    · have hge := Lib.indexByte_ge t.data.toList 10
      refine ⟨trivial, (callsIn_wide.2 (Tryd.strings_IndexByte t 10 _)).mono ?_⟩
      rintro e w' ⟨rfl, rfl⟩
      rcases Int.lt_or_le (Lib.indexByte t.data.toList 10) 0 with hi | hi
      · have hi' : Lib.indexByte t.data.toList 10 = -1 := by omega
        rw [show Lib.indexByte t.data.toList (10 : Int).toNat.toUInt8 = -1 from hi']
        have htp : 0 < t.data.toList.length := by have := Lib.size_eq t; omega
        have hne : t.data.toList ≠ [] := by intro h; rw [h] at htp; exact Nat.lt_irrefl _ htp
        have hlast := lines_miss t.data.toList hi' hne
        obtain ⟨fn, tmps, assign, body, hy, hR⟩ := hY ls t (.string ⟨#[]⟩) (w'.setCell ⟨Bn, 0, none⟩ (.string ⟨#[]⟩)) (hset _ _ _ hJ) (hbt.set _) (by omega) (by omega)
        clear hge hi hi'
        gi_wp2
        refine hR.mono ?_
        rintro e W3 ⟨rfl, hJ3, hb3⟩
        gi_wp2
        go_roundw
        case rel => exact ⟨_, ⟨#[]⟩, hb3, by rw [hls, hlast]; simp [Sp.lines, Sp.linesGo], by rw [List.length_append]; show ls.length + 1 + 0 ≤ _; omega, hJ3⟩
        case measure => rw [hb3.cell, hbt.cell]; exact htp
      · obtain ⟨o, ho⟩ := Int.eq_ofNat_of_zero_le hi
        rw [show Lib.indexByte t.data.toList (10 : Int).toNat.toUInt8 = o from ho]
        have hcut := lines_hit t.data.toList o ho
        have hol : o < t.data.toList.length := by
          have := (Lib.indexByte_some ho).1
          exact (List.getElem?_eq_some_iff.mp this).1
        have hwr : wrap64 ((o : Int) + 1) = ((o + 1 : Nat) : Int) := by unfold wrap64; omega
        have ho1 : o + 1 ≤ t.size := by have := Lib.size_eq t; omega
        have hmx : Tryd.prog.follows .mixedOrders = true := by kernel_rfl
        clear hge hi ho
        gi_wp2
        gi_region_o
        have e1 : (t.extract 0 (o + 1)).data.toList = t.data.toList.take (o + 1) := by
          obtain ⟨⟨u⟩⟩ := t
          rw [ByteArray.extract_mk]; simp
        have e2 : (t.extract (o + 1) t.size).data.toList = t.data.toList.drop (o + 1) := by
          rw [Lib.extract_data]
          exact List.take_of_length_le (by rw [List.length_drop]; have := Lib.size_eq t; omega)
        have hl2 : (t.extract (o + 1) t.size).data.toList.length = t.data.toList.length - (o + 1) := by rw [e2, List.length_drop]
        obtain ⟨fn, tmps, assign, body, hy, hR⟩ := hY ls (t.extract 0 (o + 1)) (.string (t.extract (o + 1) t.size)) ((w'.setCell ⟨Bn, 0, none⟩ (.string (t.extract (o + 1) t.size))).drew) (hdrew _ _ (hset _ _ _ hJ)) (hbt.set (.string (t.extract (o + 1) t.size))) (by rw [e1, List.length_take]; omega) (by omega)
        gi_wp2
        refine hR.mono ?_
        rintro e W3 ⟨rfl, hJ3, hb3⟩
        gi_wp2
        go_roundw
        case rel => exact ⟨_, _, hb3, by rw [hls, hcut, e2, e1]; simp, by rw [List.length_append, hl2]; simp only [List.length_cons, List.length_nil]; omega, hJ3⟩
        case measure => rw [hb3.cell, hbt.cell]; show (t.extract (o + 1) t.size).data.toList.length < t.data.toList.length; omega
    · have hsz : t.size = t.data.toList.length := Lib.size_eq t
      have he : t.data.toList = [] := List.length_eq_zero_iff.mp (by omega)
      go_end0
      refine ⟨⟨_, rfl⟩, ?_⟩
      rw [hls, he]
      simpa [Sp.lines, Sp.linesGo] using hJ
end Go.Proofs.YtgeheffhdpeddaaDoor.VX

/- script.Lines: a range over strings.Lines's iterator: its contract. Conditions: as each theorem states. -/
namespace Go.Proofs.YtgeheffhdpeddaaDoor.VX
open Go Go.Proofs Go.RowKit Go.Shelf
attribute [local go_sem] Oper.semAt_some
/-- A loop over strings.Lines's iterator whose body runs to its end in every round. -/
theorem range_lines {g : Operand} {p : Tmp} {assign body : Code} {Q : Exit → Act → World → Prop} {a : Act} {w : World} (Bn : Nat) (s : ByteArray) (hs : s.data.toList.length < 68719476736)
    (hg : a.eval g = .func (.func 58) #[] #[.pointer (some ⟨Bn, 0, none⟩)]) (hb : Boxed w Bn 9 (.string s))
    (I : List (List UInt8) → World → Prop) (hI : OwnFrom w.heap.size I) (hset : ∀ ls W v, I ls W → I ls (W.setCell ⟨Bn, 0, none⟩ v)) (hdrew : ∀ ls W, I ls W → I ls W.drew) (h0 : I [] w)
    (a₁ : ByteArray → Act)
    (hassign : ∀ (l : Nat) (x : ByteArray) (W : World) (K : Act → World → Prop), K (a₁ x) W →
      assign.wpIn (Fence.wide.inRound l) 1 Tryd.prog (Exit.then K (fun _ _ _ => False)) { tmps := (#[p].zip #[Value.string x]).foldl (fun t (p, v) => t.setIfInBounds p v) a.tmps, defers := [] } W)
    (hbody : ∀ (l : Nat) (ls : List (List UInt8)) (x : ByteArray) (v : Value) (W : World), I ls W → Boxed W Bn 9 v → x.data.toList.length ≤ s.data.toList.length → ls.length < s.data.toList.length →
      body.wpIn (Fence.wide.inRound l) 1 Tryd.prog (Exit.then (fun _ W' => KeepsOthers W W' ∧ Boxed W' Bn 9 v ∧ I (ls ++ [Lib.trimSuffix x.data.toList [10]]) W') (fun _ _ _ => False)) (a₁ x) W)
    (hdone : ∀ (D : Nat) (W : World), w.heap.size ≤ D → I (Sp.lines s.data.toList) W → W.heap[D]? = some (.deferred (some [])) → Q .normal { a with defers := { target := .collected D, args := #[] } :: a.defers } W) :
    (Code.rangeFunc g #[p] assign body).wpIn Fence.wide 3 Tryd.prog Q a w := by
  refine wpIn_rangeFunc ?_
  intro fn hfn
  show ∃ (l : Nat) (mark : List Deferred) (w₁ : World) (d : Deferred) (w₁' : World) (f : FuncId) (args : Array Value) (w₂ : World),
      (Instr.enterLoop fn a.tmps #[p] assign body none).run Tryd.prog w = .ok (l, mark) w₁ ∧ _
  obtain ⟨rec, hrec⟩ : ∃ rec : LoopState → Option Code → Loop, rec = fun st pe => { state := st, pending := pe, fn, tmps := a.tmps, params := #[p], assign, body, defers := w.heap.size } := ⟨_, rfl⟩
  obtain ⟨W1, hW1⟩ : ∃ W1, (w.alloc (.deferred (some []))).alloc (.loop (rec .ready none)) = W1 := ⟨_, rfl⟩
  have hBn : Bn < w.heap.size := hb.lt
  have hL1 : W1.heap[w.heap.size + 1]? = some (.loop (rec .ready none)) := by
    rw [← hW1]; have := World.alloc_heap_new (w.alloc (.deferred (some []))) (.loop (rec .ready none)); rwa [World.size_alloc] at this
  have hK1 : W1.heap[w.heap.size]? = some (.deferred (some [])) := by
    rw [← hW1]; exact (Below.heap_alloc _ _ _ (by simp)).trans (World.alloc_heap_new w _)
  have hI1 : I [] W1 := by rw [← hW1]; exact hI.alloc _ (hI.alloc _ h0)
  have hb1 : Boxed W1 Bn 9 (.string s) := by rw [← hW1]; exact (hb.alloc _).alloc _
  refine ⟨w.heap.size + 1, [{ target := .collected w.heap.size, args := #[] }], W1, { target := .fn (.func 58) #[.pointer (some ⟨Bn, 0, none⟩)], args := #[.func (.yield (w.heap.size + 1)) #[] #[]] }, W1, 58,
    #[.func (.yield (w.heap.size + 1)) #[] #[]] ++ #[.pointer (some ⟨Bn, 0, none⟩)], W1, ?_, ?_, ?_, ?_, fun _ => by omega, ?_⟩
  · rw [← hW1, hrec]; exact run_enterLoop_outer _ _ _ _ _
  · simp only [resolve, hg]
    simp [go_sem]
  · intro f' _; trivial
  · simp [invoke, go_sem, enters_of Tryd.func58 (by kernel_rfl) rfl]
  · refine (lines1_in (w.heap.size + 1) Bn s hs
      (fun ls W => I ls W ∧ W.heap[w.heap.size + 1]? = some (.loop (rec .ready none)) ∧ W.heap[w.heap.size]? = some (.deferred (some [])))
      (fun ls W v h => ⟨hset _ _ _ h.1, (Below.heap_setCell W _ v _ (by show w.heap.size + 1 ≠ Bn; omega)).trans h.2.1, (Below.heap_setCell W _ v _ (by show w.heap.size ≠ Bn; omega)).trans h.2.2⟩)
      (fun ls W h => ⟨hdrew _ _ h.1, h.2⟩) ?_ W1 hb1 ⟨hI1, hL1, hK1⟩).mono ?_
    · rintro ls x v W ⟨hi, hl, hk⟩ hbx hx hlen
      have hlt : w.heap.size + 1 < W.heap.size := (Array.getElem?_eq_some_iff.1 hl).1
      have hy := run_yield (P := Tryd.prog) (args := #[Value.string x]) hl (by rw [hrec]; rfl)
      rw [hrec] at hy
      refine ⟨fn, _, assign, body, hy, roundIn_of_wpIn hfn (hassign _ x W _ ⟨_, run_beginRound hl (by rw [hrec]), ?_⟩)⟩
      have hl2 : (W.putObj (w.heap.size + 1) (.loop { rec .ready none with state := .busy })).heap[w.heap.size + 1]? = some (.loop { rec .ready none with state := .busy }) := World.putObj_heap_same hlt
      have hk2 : (W.putObj (w.heap.size + 1) (.loop { rec .ready none with state := .busy })).heap[w.heap.size]? = some (.deferred (some [])) := (World.putObj_heap_other (by omega)).trans hk
      have hb2 : Boxed (W.putObj (w.heap.size + 1) (.loop { rec .ready none with state := .busy })) Bn 9 v := hbx.kept (grownBy_putObj' _ _ _) (by intro e; cases e; omega)
      refine wpIn_mono (hbody _ ls x v _ (hI.putObj _ hi (by omega) hl rfl) hb2 hx hlen) ?_
      rintro e a3 W3 hp
      cases e with
      | normal =>
        obtain ⟨hk3, hb3, hi3⟩ := hp
        have hl3 := hk3.same _ _ hl2 rfl
        have hr := run_endRound (P := Tryd.prog) none hl3
        refine ⟨_, _, hr, rfl, ⟨hI.putObj _ hi3 (by omega) hl3 rfl, ?_, ?_⟩, hb3.kept (grownBy_putObj' _ _ _) (by intro e; cases e; omega)⟩
        · rw [hrec]; rw [hrec] at hl3; exact World.putObj_heap_same (Array.getElem?_eq_some_iff.1 hl3).1
        · exact (World.putObj_heap_other (by omega)).trans (hk3.same _ _ hk2 rfl)
      | _ => exact hp.elim
    · rintro e W2 ⟨⟨v, rfl⟩, hi, hl, hk⟩
      exact ⟨none, _, by have := run_endLoop (P := Tryd.prog) hl (by rw [hrec]; simp); rw [hrec] at this; exact this, hdone _ _ (Nat.le_refl _) (hI.putObj _ hi (by omega) hl rfl) ((World.putObj_heap_other (by omega)).trans hk)⟩
theorem strLines_in (n : Nat) (s : ByteArray) (w : World) :
    CallsIn Fence.wide n Tryd.prog 41 #[.string s] w fun e w' => e = .returned (.func (.func 58) #[] #[.pointer (some ⟨w.heap.size, 0, none⟩)]) ∧ w' = w.alloc (.cells #[.string s] 9) := by
  refine callsIn_of_wp Tryd.func41 rfl trivial ?_ rfl
  simp only [Tryd.ntmps41, List.size_toArray, List.length_cons, List.length_nil, Nat.reduceAdd, Nat.reduceSub, Array.replicate_succ, Array.replicate_zero, List.push_toArray, List.append_toArray, List.nil_append, List.cons_append]
  gi_wp2
  go_ret
  exact ⟨rfl, rfl⟩
theorem opIn_append {F : Fence} {n : Nat} {P : Program} {o : Oper} {a : Act} {w w' : World} {K : Act → World → Prop} {Q : Exit → Act → World → Prop} {s x : Operand} {t : TypeId} {v u v' : Value}
    (hop : o.op = Op.call { callee := Callee.builtin Builtin.append, args := #[s, x], argTypes := #[t, t] }) (hs : a.eval s = v) (hx : a.eval x = u)
    (hrun : (Builtin.append_ #[t, t] o.type #[v, u]).run P w = .ok v' w') (hK : K (a.put o.dst v') w') : Oper.wpIn F n P o a w K Q := by
  unfold Oper.wpIn
  refine ⟨?_, ?_⟩
  · simp [Oper.about, hop, resolve, Target.leads, Sem.run_pure]
  · rw [Oper.semAt_plain F _ _ (by rw [hop]; intro c hc'; cases hc')]
    simp [execOp, hop, resolve, invoke, builtin, hs, hx, hrun, Result.andThen]
    exact hK
theorem infoStr : (Tryd.prog.info? 9).map (fun i => (i.zero, i.size, i.bytes)) = some (some (.string ⟨#[]⟩), 1, 16) := by kernel_rfl
theorem row_base {w : World} {base base' : Nat} {e : TypeId} {size : Nat} {v : Value} {n : Nat} {xs : List Value} (h : w.ownsRow base e size v n xs) (hb : base' ≤ base) : w.ownsRow base' e size v n xs :=
  ⟨h.1, h.2.imp_right fun ⟨g, cap, cur, h1, h2, h3⟩ => ⟨g, cap, cur, h1, Nat.le_trans hb h2, h3⟩⟩
def strV (l : List UInt8) : Value := .string ⟨l.toArray⟩
set_option maxRecDepth 100000 in
set_option maxHeartbeats 2000000 in
theorem lines_in (s : ByteArray) (hs : s.data.toList.length < 68719476736) (w : World) :
    CallsIn Fence.wide 3 Tryd.prog 24 #[.string s] w fun e W' => ∃ v, e = .returned v ∧ W'.ownsRow w.heap.size 9 1 v (Sp.lines s.data.toList).length ((Sp.lines s.data.toList).map strV) ∧ Below w.heap.size w W' := by
  obtain ⟨i0, hi, hz0, hz1, hz2⟩ := info_parts infoStr
  refine callsIn_of_wp_marks Tryd.func24 rfl trivial ?_ rfl
  simp only [Tryd.ntmps24, List.size_toArray, List.length_cons, List.length_nil, Nat.reduceAdd, Nat.reduceSub, Array.replicate_succ, Array.replicate_zero, List.push_toArray, List.append_toArray, List.nil_append, List.cons_append]
  gi_wp2
  refine ⟨trivial, (strLines_in 2 s _).mono ?_⟩
  rintro e w' ⟨rfl, rfl⟩
  gi_wp2
  have bO := Boxed.new w 49 (.slice none 0 0)
  have bN := Boxed.new (w.alloc (.cells #[.slice none 0 0] 49)) 9 (.string s)
  rw [World.size_alloc] at bN
  have hB0 : Below w.heap.size w ((w.alloc (.cells #[.slice none 0 0] 49)).alloc (.cells #[.string s] 9)) := ((Below.refl _ w).alloc (Nat.le_refl _) _).alloc (by simp) _
  have hsz0 : ((w.alloc (.cells #[.slice none 0 0] 49)).alloc (.cells #[.string s] 9)).heap.size = w.heap.size + 2 := by simp
  refine range_lines (w.heap.size + 1) s hs rfl bN
    (fun ls W => (∃ v, Boxed W w.heap.size 49 v ∧ W.ownsRow (w.heap.size + 2) 9 1 v ls.length (ls.map strV) ∧ True) ∧ Below w.heap.size w W ∧ w.heap.size + 2 ≤ W.heap.size)
    (OwnFrom.and (Own.from (holdsRow_own (w.heap.size + 2) w.heap.size 49 9 1 (fun ls : List (List UInt8) => ls.length) (fun ls => ls.map strV) (fun _ _ => True)) _)
      (OwnFrom.and (ownFrom_below (Nat.le_refl _) (by rw [hsz0]; omega)) (fun ls X Y row hs' hg' _ => Nat.le_trans hs' hg'.size)))
    ?_ (fun ls W h => ⟨h.1, h.2.1.drew, h.2.2⟩) ⟨⟨_, bO.alloc _, World.ownsRow_nil _ _ _ _, trivial⟩, hB0, by rw [hsz0]; exact Nat.le_refl _⟩
    (fun x => { tmps := #[.string s, undef, .slice none 0 0, .pointer (some ⟨w.heap.size, 0, none⟩), .string x, .string s, .func (.func 58) #[] #[.pointer (some ⟨w.heap.size + 1, 0, none⟩)], .string x, undef, undef, undef, undef, undef, undef], defers := [] }) ?assign ?body ?done
  · rintro ls W v ⟨⟨u, hu, hr, _⟩, hB, hz⟩
    refine ⟨⟨u, hu.kept (grownBy_setCell' W _ v) (by simp), hr.kept (grownBy_setCell' W _ v) (.inr fun e => ?_), trivial⟩, hB.setCell (p := ⟨w.heap.size + 1, 0, none⟩) (by show _ ≤ w.heap.size + 1; omega) _, Nat.le_trans hz (grownBy_setCell' W _ v).size⟩
    have := (hr.lt _ e).1
    omega
  case assign =>
    intro l x W K hK
    gi_wp2
    exact hK
  case body =>
    rintro l ls x u W ⟨⟨v, hv, hrow, _⟩, hB, hz⟩ hbx hx hlen
    have hc := hv.cell
    obtain ⟨tr, htr⟩ : ∃ tr, Lib.trimSuffix x.data.toList [10] = tr := ⟨_, rfl⟩
    have hT : ∀ W, CallsIn (Fence.wide.inRound l) 0 Tryd.prog 42 #[.string x, .string ⟨#[10]⟩] W fun e w' => e = .returned (Value.string ⟨tr.toArray⟩) ∧ w' = W := fun W =>
      CallsIn.inRound l (callsIn_wide.2 (by rw [← htr]; exact Tryd.strings_TrimSuffix x ⟨#[10]⟩ W (by rw [Lib.size_eq]; omega)))
    have hmx : Tryd.prog.follows .mixedOrders = true := by kernel_rfl
    obtain ⟨v', w1, hrun, hown', hgrow, _⟩ := run_append_own (P := Tryd.prog) (W.drew.alloc (.cells #[Value.string ⟨tr.toArray⟩] 9)) (w.heap.size + 2) 49 49 9 i0 (.string ⟨#[]⟩) 1 16 Tryd.underlying49 hi hz0 hz1 hz2 rfl (by decide) v _ _ (hrow.drew.alloc _) ⟨W.heap.size, 0, none⟩ 1 1 [Value.string ⟨tr.toArray⟩] rfl (cell_one_new _ _ _) (by simp [Value.oneCell']) (by simp only [maxLen]; omega) (by omega) (by simp; omega)
    have hc1 : (W.alloc (.cells #[Value.string ⟨tr.toArray⟩] 9)).cell? ⟨w.heap.size, 0, none⟩ = some v := (hv.alloc _).cell
    obtain ⟨g', cap', rfl⟩ := ownsRow_succ hown'
    obtain ⟨hv1, hv2, _, hk2, hb2⟩ := Boxed.appended (W := W.drew) (n₀ := w.heap.size) hv (by decide) (row_base hrow.drew (by omega)) (by show w.heap.size ≤ W.heap.size; omega) (Nat.le_refl _) (row_base hown' (by omega)) hgrow
    have hc2 := hv1.cell
    have hf2 := hv1.frozen
    have hr2 := hown'.kept (grownBy_setCell' w1 w.heap.size (.slice (some ⟨g', 0, none⟩) (ls.length + 1) cap')) (.inr (hv1.not_row (by decide) hown').symm)
    have hbx2 : Boxed (w1.setCell ⟨w.heap.size, 0, none⟩ (.slice (some ⟨g', 0, none⟩) (ls.length + 1) cap')) (w.heap.size + 1) 9 u := by
      refine Boxed.kept (Boxed.kept (Boxed.alloc (W := W.drew) hbx _) hgrow fun e => ?_) (grownBy_setCell' _ _ _) (by simp)
      have := (hrow.lt _ e.symm).1
      omega
    have hfin : KeepsOthers W (w1.setCell ⟨w.heap.size, 0, none⟩ (.slice (some ⟨g', 0, none⟩) (ls.length + 1) cap')) ∧ Boxed (w1.setCell ⟨w.heap.size, 0, none⟩ (.slice (some ⟨g', 0, none⟩) (ls.length + 1) cap')) (w.heap.size + 1) 9 u ∧
        (∃ v, Boxed (w1.setCell ⟨w.heap.size, 0, none⟩ (.slice (some ⟨g', 0, none⟩) (ls.length + 1) cap')) w.heap.size 49 v ∧ (w1.setCell ⟨w.heap.size, 0, none⟩ (.slice (some ⟨g', 0, none⟩) (ls.length + 1) cap')).ownsRow (w.heap.size + 2) 9 1 v (ls ++ [Lib.trimSuffix x.data.toList [10]]).length ((ls ++ [Lib.trimSuffix x.data.toList [10]]).map strV) ∧ True) ∧
        Below w.heap.size w (w1.setCell ⟨w.heap.size, 0, none⟩ (.slice (some ⟨g', 0, none⟩) (ls.length + 1) cap')) ∧ w.heap.size + 2 ≤ (w1.setCell ⟨w.heap.size, 0, none⟩ (.slice (some ⟨g', 0, none⟩) (ls.length + 1) cap')).heap.size := by
      refine ⟨(KeepsOthers.drew W).trans hk2, hbx2, ⟨_, hv2, ?_, trivial⟩, hB.drew.trans hb2, Nat.le_trans hz hb2.size⟩
      rw [htr, List.length_append, List.map_append]
      exact hr2
    gi_wp2
    refine wpIn_region_any hmx ?_
    change wpAnyIn _ _ _ _ _ _ _ _ _ (World.drew _)
    refine wpAnyIn_ready (rs := [0, 1]) (by kernel_rfl) (by simp) (AllReadyIn.cons rfl (fun K hK => ?_) (AllReadyIn.cons rfl (fun K hK => ?_) AllReadyIn.nil))
    · go_simp
      refine hK _ _ ?_
      clear hK K
      refine wpAnyIn_ready (rs := [1]) (by kernel_rfl) (by simp) (AllReadyIn.cons rfl (fun K hK => ?_) AllReadyIn.nil)
      go_simp
      refine hK _ _ ?_
      clear hK K
      refine wpAnyIn_ready (rs := [2]) (by kernel_rfl) (by simp) (AllReadyIn.cons rfl (fun K hK => ?_) AllReadyIn.nil)
      go_simp
      refine ⟨trivial, (hT _).mono ?_⟩
      rintro e w' ⟨rfl, rfl⟩
      refine hK _ _ ?_
      clear hK K
      refine wpAnyIn_ready (rs := [3]) (by kernel_rfl) (by simp) (AllReadyIn.cons rfl (fun K hK => ?_) AllReadyIn.nil)
      go_simp
      refine hK _ _ ?_
      clear hK K
      refine wpAnyIn_ready (rs := [4]) (by kernel_rfl) (by simp) (AllReadyIn.cons rfl (fun K hK => ?_) AllReadyIn.nil)
      refine (if_pos (by rfl)).mpr ?_
      refine opIn_append rfl rfl rfl hrun (hK _ _ ?_)
      clear hK K
      refine wpAnyIn_ready (rs := [5]) (by kernel_rfl) (by simp) (AllReadyIn.cons rfl (fun K hK => ?_) AllReadyIn.nil)
      go_simp
      refine hK _ _ ?_
      clear hK K
      exact wpAnyIn_done (by kernel_rfl) hfin _
    · go_simp
      refine hK _ _ ?_
      clear hK K
      refine wpAnyIn_ready (rs := [0, 2]) (by kernel_rfl) (by simp) (AllReadyIn.cons rfl (fun K hK => ?_) (AllReadyIn.cons rfl (fun K hK => ?_) AllReadyIn.nil))
      · go_simp
        refine hK _ _ ?_
        clear hK K
        refine wpAnyIn_ready (rs := [2]) (by kernel_rfl) (by simp) (AllReadyIn.cons rfl (fun K hK => ?_) AllReadyIn.nil)
        go_simp
        refine ⟨trivial, (hT _).mono ?_⟩
        rintro e w' ⟨rfl, rfl⟩
        refine hK _ _ ?_
        clear hK K
        refine wpAnyIn_ready (rs := [3]) (by kernel_rfl) (by simp) (AllReadyIn.cons rfl (fun K hK => ?_) AllReadyIn.nil)
        go_simp
        refine hK _ _ ?_
        clear hK K
        refine wpAnyIn_ready (rs := [4]) (by kernel_rfl) (by simp) (AllReadyIn.cons rfl (fun K hK => ?_) AllReadyIn.nil)
        refine (if_pos (by rfl)).mpr ?_
        refine opIn_append rfl rfl rfl hrun (hK _ _ ?_)
        clear hK K
        refine wpAnyIn_ready (rs := [5]) (by kernel_rfl) (by simp) (AllReadyIn.cons rfl (fun K hK => ?_) AllReadyIn.nil)
        go_simp
        refine hK _ _ ?_
        clear hK K
        exact wpAnyIn_done (by kernel_rfl) hfin _
      · go_simp
        refine ⟨trivial, (hT _).mono ?_⟩
        rintro e w' ⟨rfl, rfl⟩
        refine hK _ _ ?_
        clear hK K
        refine wpAnyIn_ready (rs := [0, 3]) (by kernel_rfl) (by simp) (AllReadyIn.cons rfl (fun K hK => ?_) (AllReadyIn.cons rfl (fun K hK => ?_) AllReadyIn.nil))
        · go_simp
          refine hK _ _ ?_
          clear hK K
          refine wpAnyIn_ready (rs := [3]) (by kernel_rfl) (by simp) (AllReadyIn.cons rfl (fun K hK => ?_) AllReadyIn.nil)
          go_simp
          refine hK _ _ ?_
          clear hK K
          refine wpAnyIn_ready (rs := [4]) (by kernel_rfl) (by simp) (AllReadyIn.cons rfl (fun K hK => ?_) AllReadyIn.nil)
          refine (if_pos (by rfl)).mpr ?_
          refine opIn_append rfl rfl rfl hrun (hK _ _ ?_)
          clear hK K
          refine wpAnyIn_ready (rs := [5]) (by kernel_rfl) (by simp) (AllReadyIn.cons rfl (fun K hK => ?_) AllReadyIn.nil)
          go_simp
          refine hK _ _ ?_
          clear hK K
          exact wpAnyIn_done (by kernel_rfl) hfin _
        · go_simp
          refine hK _ _ ?_
          clear hK K
          refine wpAnyIn_ready (rs := [0]) (by kernel_rfl) (by simp) (AllReadyIn.cons rfl (fun K hK => ?_) AllReadyIn.nil)
          go_simp
          refine hK _ _ ?_
          clear hK K
          refine wpAnyIn_ready (rs := [4]) (by kernel_rfl) (by simp) (AllReadyIn.cons rfl (fun K hK => ?_) AllReadyIn.nil)
          refine (if_pos (by rfl)).mpr ?_
          refine opIn_append rfl rfl rfl hrun (hK _ _ ?_)
          clear hK K
          refine wpAnyIn_ready (rs := [5]) (by kernel_rfl) (by simp) (AllReadyIn.cons rfl (fun K hK => ?_) AllReadyIn.nil)
          go_simp
          refine hK _ _ ?_
          clear hK K
          exact wpAnyIn_done (by kernel_rfl) hfin _
  case done =>
    rintro D W hD ⟨⟨v, hv, hrow, _⟩, hB, hz⟩ hK
    have hc := hv.cell
    gi_wp2
    refine ⟨by simp, .inl ⟨_, _, rfl, run_takeDeferred hK, ?_⟩⟩
    exact ⟨_, results_tmp rfl _ _ _, v, rfl, row_base (ownsRow_putObj hrow _ hK rfl) (by omega), hB.trans (belowK_b (w := w) (Nat.le_refl _) W D _ _ (by rw [hsz0] at hD; omega) hK rfl rfl)⟩
end Go.Proofs.YtgeheffhdpeddaaDoor.VX

/- The row of script.Lines holds. Conditions: as each theorem states. -/
namespace Go.Proofs.YtgeheffhdpeddaaDoor.VX
open Go Go.Proofs Go.RowKit Go.Shelf
theorem strs_each (l : List (List UInt8)) : EachSz 1 (l.map .str) := by
  intro x hx
  obtain ⟨s, _, rfl⟩ := List.mem_map.mp hx
  exact ⟨[.str s], rfl, rfl⟩
theorem strs_flat : ∀ l : List (List UInt8), flatA (l.map .str) = l.map .str
  | [] => rfl
  | s :: l => by
    have ih := strs_flat l
    show flatA (.str s :: l.map .str) = _
    simp only [flatA, AV.cells, Option.getD_some, List.map_cons]
    rw [ih]; rfl
theorem strs_vals {st : Cells} {w : World} {ι : Inj} : ∀ l : List (List UInt8), VRels st w ι (l.map .str) (l.map strV)
  | [] => rfl
  | s :: l => ⟨strV s, l.map strV, rfl, rfl, strs_vals l⟩
theorem lines_ok : RowOK Gl (24, r_lines) := by
  intro args v hv0
  have hv : (r_lines args).val = some v := hv0
  clear hv0
  unfold r_lines at hv
  split at hv
  · rename_i s
    obtain ⟨hc, hv⟩ := val_when hv
    cases hv
    have hs := Sp.short_lt hc
    refine ⟨⟨_, Tryd.func24, rfl⟩, fun st w vals hW hlt hr => ?_⟩
    obtain ⟨_, _, rfl, rfl, rfl⟩ := hr
    refine ((callsIn_wide (n := 3)).1 (lines_in ⟨s.toArray⟩ (by simpa using hs) w)).mono ?_
    rintro e w' ⟨v', rfl, ⟨_, ho⟩, hb⟩
    have hd : (ByteArray.mk s.toArray).data.toList = s := rfl
    rw [hd] at ho
    rcases ho with ⟨rfl, h0⟩ | ⟨g, cap', cur, rfl, hg, hheap, hn, _, hsz, htake⟩
    · have h0 : Sp.lines s = [] := List.length_eq_zero_iff.mp h0
      rw [h0]
      exact ⟨_, st, rfl, grows_below hlt hb, none, 0, rfl, Nat.le_refl _, rfl⟩
    · refine ⟨_, fun b o => st b o ∨ (b = g ∧ o < (Sp.lines s).length), rfl, ⟨hb, fun _ _ x => .inl x, fun b o x => x.elim .inl fun y => .inr (by rw [y.1]; exact hg), fun b o x => x.elim (fun y => Nat.lt_of_lt_of_le (hlt b o y) hb.size) fun y => by rw [y.1]; exact lt_heap hheap⟩, ?_⟩
      refine ⟨some ⟨g, 0, none⟩, cap', by rw [List.length_map], by rw [List.length_map]; exact hn, .inr rfl, ?_⟩
      refine EsRel.mk (us := (Sp.lines s).map strV) (strs_each _) (by rw [strs_flat]; exact strs_vals _) ?_ ?_ ?_
      · intro v hv; obtain ⟨b, _, rfl⟩ := List.mem_map.mp hv; rfl
      · refine LieAt.row hheap fun i v hv => ?_
        rw [← htake] at hv
        rw [List.getElem?_take] at hv
        split at hv
        · simpa using hv
        · cases hv
      · intro i hi; exact .inr ⟨rfl, by simpa using hi⟩
  · cases hv
end Go.Proofs.YtgeheffhdpeddaaDoor.VX
