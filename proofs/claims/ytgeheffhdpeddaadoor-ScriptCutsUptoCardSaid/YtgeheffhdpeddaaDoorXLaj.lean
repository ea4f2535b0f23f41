/-
  Texts laid together: EQUATIONS of functions, printed by the tool (wip/tools/VTool; LINES; LINES JOINED ARE CUT AGAIN; THE ROWS of script. Conditions: as each theorem states.
-/
import Derived.Test.YtgeheffhdpeddaaDoorXExD
import Derived.Test.YtgeheffhdpeddaaDoorProg
import Derived.Test.YtgeheffhdpeddaaDoorXLaw
import Derived.Test.YtgeheffhdpeddaaDoorXLin
/- EQUATIONS of functions, printed by the tool (wip/tools/VTool.lean.txt). Conditions: none. -/
namespace Go.Proofs.YtgeheffhdpeddaaDoor.VX
open Go Go.Proofs Go.Proofs.YtgeheffhdpeddaaDoor
noncomputable def L_hearsayref25_Lines_0 (n m0 : Nat) (i0 : Int) (i1 : Int) (s2 : List UInt8) (xs3 : List AV) : Option AV := runL Tryd.prog (X 105) (n + 2) 25 [⟨0, m0, [], 5⟩] [(.x, (.num 9)), ((.t 5), (.av (.int .i64 i0) .none)), ((.t 4), (.av (.int .i64 i1) .none)), ((.t 0), (.av (.str s2) .none)), ((.t 3), (.av (.view 1 xs3) (.some 8))), ((.l 5), (.flag false)), ((.l 6), (.flag false)), ((.l 7), (.flag false)), ((.l 8), (.flag true))]
theorem L_hearsayref25_Lines_0_eq (n m0 : Nat) (i0 : Int) (i1 : Int) (s2 : List UInt8) (xs3 : List AV) : L_hearsayref25_Lines_0 n (m0 + 1) i0 i1 s2 xs3 =
  bif (decide (i0 < (↑s2.length : Int))) then bif (decide ((0 : Int) ≤ i0)) then bif (decide (i0 < (↑s2.length : Int))) then bif (s2.getD i0.toNat (0 : UInt8) == (10 : UInt8)) then bif (decide ((0 : Int) ≤ i1)) then bif (decide (i1 ≤ i0)) then bif (decide (i0 ≤ (↑s2.length : Int))) then bif (roomA (xs3.length + (1 : Nat)) (16 : Nat)) then L_hearsayref25_Lines_0 n m0 (Go.IntKind.i64.wrap (i0 + (1 : Int))) (Go.IntKind.i64.wrap (i0 + (1 : Int))) s2 (xs3 ++ [AV.str (List.drop i1.toNat (List.take i0.toNat s2))])
         else none
        else none
       else none
      else none
     else L_hearsayref25_Lines_0 n m0 (Go.IntKind.i64.wrap (i0 + (1 : Int))) i1 s2 xs3
    else none
   else none
  else bif (decide (i1 < (↑s2.length : Int))) then bif (decide ((0 : Int) ≤ i1)) then bif (decide (i1 ≤ (↑s2.length : Int))) then bif (decide ((↑s2.length : Int) ≤ (↑s2.length : Int))) then bif (roomA (xs3.length + (1 : Nat)) (16 : Nat)) then some (.view 1 (xs3 ++ [AV.str (List.drop i1.toNat (List.take (↑s2.length : Int).toNat s2))]))
       else none
      else none
     else none
    else none
   else some (.view 1 xs3) := by unfold L_hearsayref25_Lines_0; rw [runL_round]; kernel_rfl
theorem L_hearsayref25_Lines_0_zero (n  : Nat) (i0 : Int) (i1 : Int) (s2 : List UInt8) (xs3 : List AV) : L_hearsayref25_Lines_0 n 0 i0 i1 s2 xs3 = none := by unfold L_hearsayref25_Lines_0; rw [runL_round]; kernel_rfl
theorem e_hearsayref25_Lines (n : Nat) (s : List UInt8) : runA Tryd.prog (X 105) (n + 3) 25 [(.str s)] =
  L_hearsayref25_Lines_0 n (n + 2) 0 0 s [] := by kernel_rfl
noncomputable def L_hearsaylaw25_texts_0 (n m0 : Nat) (xs0 : List AV) (xs1 : List AV) (i2 : Int) : Option AV := runL Tryd.prog (X 106) (n + 2) 26 [⟨0, m0, [], 8⟩] [(.x, (.num 11)), ((.t 1), (.av (.view 1 xs0) .none)), ((.t 0), (.av (.view 1 xs1) .none)), ((.t 5), (.av (.int .i64 i2) .none)), ((.l 8), (.flag false)), ((.l 9), (.flag false)), ((.l 10), (.flag false))]
theorem L_hearsaylaw25_texts_0_eq (n m0 : Nat) (xs0 : List AV) (xs1 : List AV) (i2 : Int) : L_hearsaylaw25_texts_0 n (m0 + 1) xs0 xs1 i2 =
  bif (decide (i2 < (↑xs1.length : Int))) then bif (decide ((0 : Int) ≤ i2)) then bif (decide (i2 < (↑xs1.length : Int))) then bif (Nat.blt (0 : Nat) ((xs1.getD i2.toNat AV.top).cells.getD []).length) then bif (isS (((xs1.getD i2.toNat AV.top).cells.getD []).getD (0 : Nat) AV.top)) then bif (decide ((0 : Int) ≤ i2)) then bif (decide (i2 < (↑xs0.length : Int))) then bif (Nat.blt (0 : Nat) ((xs0.getD i2.toNat AV.top).cells.getD []).length) then bif (isS (((xs0.getD i2.toNat AV.top).cells.getD []).getD (0 : Nat) AV.top)) then bif (!toS (((xs1.getD i2.toNat AV.top).cells.getD []).getD (0 : Nat) AV.top) == toS (((xs0.getD i2.toNat AV.top).cells.getD []).getD (0 : Nat) AV.top)) then some (.bool false)
           else L_hearsaylaw25_texts_0 n m0 xs0 xs1 (Go.IntKind.i64.wrap (i2 + (1 : Int)))
          else none
         else none
        else none
       else none
      else none
     else none
    else none
   else none
  else some (.bool true) := by unfold L_hearsaylaw25_texts_0; rw [runL_round]; kernel_rfl
theorem L_hearsaylaw25_texts_0_zero (n  : Nat) (xs0 : List AV) (xs1 : List AV) (i2 : Int) : L_hearsaylaw25_texts_0 n 0 xs0 xs1 i2 = none := by unfold L_hearsaylaw25_texts_0; rw [runL_round]; kernel_rfl
theorem e_hearsaylaw25_texts (n : Nat) (xs : List AV) (ys : List AV) : runA Tryd.prog (X 106) (n + 3) 26 [(.view 1 xs), (.view 1 ys)] =
  bif ((↑xs.length : Int) != (↑ys.length : Int)) then some (.bool false)
  else L_hearsaylaw25_texts_0 n (n + 2) ys xs 0 := by kernel_rfl
noncomputable def L_hearsaylaw25_ScriptCuts_0 (n m0 : Nat) (xs0 : List AV) (xs1 : List AV) (i2 : Int) : Option AV := runL Tryd.prog (X 107) (n + 2) 9 [⟨0, m0, [], 14⟩] [(.x, (.num 17)), ((.t 4), (.av (.view 1 xs0) .none)), ((.t 3), (.av (.view 1 xs1) .none)), ((.t 5), (.av (.int .i64 i2) .none)), ((.l 14), (.flag false)), ((.l 15), (.flag false)), ((.l 16), (.flag false))]
theorem L_hearsaylaw25_ScriptCuts_0_eq (n m0 : Nat) (xs0 : List AV) (xs1 : List AV) (i2 : Int) : L_hearsaylaw25_ScriptCuts_0 n (m0 + 1) xs0 xs1 i2 =
  bif (decide (i2 < (↑xs1.length : Int))) then bif (decide ((0 : Int) ≤ i2)) then bif (decide (i2 < (↑xs1.length : Int))) then bif (Nat.blt (0 : Nat) ((xs1.getD i2.toNat AV.top).cells.getD []).length) then bif (isS (((xs1.getD i2.toNat AV.top).cells.getD []).getD (0 : Nat) AV.top)) then bif (decide ((0 : Int) ≤ i2)) then bif (decide (i2 < (↑xs0.length : Int))) then bif (Nat.blt (0 : Nat) ((xs0.getD i2.toNat AV.top).cells.getD []).length) then bif (isS (((xs0.getD i2.toNat AV.top).cells.getD []).getD (0 : Nat) AV.top)) then bif (!toS (((xs1.getD i2.toNat AV.top).cells.getD []).getD (0 : Nat) AV.top) == toS (((xs0.getD i2.toNat AV.top).cells.getD []).getD (0 : Nat) AV.top)) then some (.bool false)
           else L_hearsaylaw25_ScriptCuts_0 n m0 xs0 xs1 (Go.IntKind.i64.wrap (i2 + (1 : Int)))
          else none
         else none
        else none
       else none
      else none
     else none
    else none
   else none
  else some (.bool true) := by unfold L_hearsaylaw25_ScriptCuts_0; rw [runL_round]; kernel_rfl
theorem L_hearsaylaw25_ScriptCuts_0_zero (n  : Nat) (xs0 : List AV) (xs1 : List AV) (i2 : Int) : L_hearsaylaw25_ScriptCuts_0 n 0 xs0 xs1 i2 = none := by unfold L_hearsaylaw25_ScriptCuts_0; rw [runL_round]; kernel_rfl
theorem e_hearsaylaw25_ScriptCuts (n : Nat) (s : List UInt8) : runA Tryd.prog (X 107) (n + 3) 9 [(.str s)] =
  bif (Sp.short s) then bif (Sp.short s) then bif ((↑(List.map AV.str (Sp.lines s)).length : Int) != (↑(List.map AV.str (Sp.lines s)).length : Int)) then some (.bool false)
    else L_hearsaylaw25_ScriptCuts_0 n (n + 2) (List.map AV.str (Sp.lines s)) (List.map AV.str (Sp.lines s)) 0
   else none
  else none := by kernel_rfl
noncomputable def L_hearsaylaw25_ScriptJoins_0 (n m0 : Nat) (xs0 : List AV) (i1 : Int) (s2 : List UInt8) (xs3 : List AV) : Option AV := runL Tryd.prog (X 107) (n + 2) 10 [⟨0, m0, [], 5⟩] [(.x, (.num 9)), ((.t 0), (.av (.view 1 xs0) .none)), ((.t 5), (.av (.int .i64 i1) .none)), ((.t 3), (.av (.str s2) .none)), ((.t 4), (.av (.view 1 xs3) (.some 8))), ((.l 5), (.flag false)), ((.l 6), (.flag false)), ((.l 7), (.flag false)), ((.l 8), (.flag true))]
theorem L_hearsaylaw25_ScriptJoins_0_eq (n m0 : Nat) (xs0 : List AV) (i1 : Int) (s2 : List UInt8) (xs3 : List AV) : L_hearsaylaw25_ScriptJoins_0 n (m0 + 1) xs0 i1 s2 xs3 =
  bif (decide (i1 < (↑xs0.length : Int))) then bif (decide (i1 < (60 : Int))) then bif (decide ((0 : Int) ≤ i1)) then bif (decide (i1 < (↑xs0.length : Int))) then bif (Nat.blt (0 : Nat) ((xs0.getD i1.toNat AV.top).cells.getD []).length) then bif (isS (((xs0.getD i1.toNat AV.top).cells.getD []).getD (0 : Nat) AV.top)) then bif (Sp.short (toS (((xs0.getD i1.toNat AV.top).cells.getD []).getD (0 : Nat) AV.top))) then bif (roomA (xs3.length + (1 : Nat)) (16 : Nat)) then bif ((s2.length + (List.filter (fun (c : UInt8) => c != (10 : UInt8)) (toS (((xs0.getD i1.toNat AV.top).cells.getD []).getD (0 : Nat) AV.top))).length).ble (9223372036854775807 : Nat)) then bif (((s2 ++ List.filter (fun (c : UInt8) => c != (10 : UInt8)) (toS (((xs0.getD i1.toNat AV.top).cells.getD []).getD (0 : Nat) AV.top))).length + (1 : Nat)).ble (9223372036854775807 : Nat)) then L_hearsaylaw25_ScriptJoins_0 n m0 xs0 (Go.IntKind.i64.wrap (i1 + (1 : Int))) (s2 ++ List.filter (fun (c : UInt8) => c != (10 : UInt8)) (toS (((xs0.getD i1.toNat AV.top).cells.getD []).getD (0 : Nat) AV.top)) ++ [(10 : UInt8)]) (xs3 ++ [AV.str (List.filter (fun (c : UInt8) => c != (10 : UInt8)) (toS (((xs0.getD i1.toNat AV.top).cells.getD []).getD (0 : Nat) AV.top)))])
           else none
          else none
         else none
        else none
       else none
      else none
     else none
    else none
   else bif (Sp.short s2) then bif ((List.map AV.str (Sp.lines s2)).all isS && (xs3.all isS && (decide ((List.map AV.str (Sp.lines s2)).length < (68719476736 : Nat)) && decide (xs3.length < (68719476736 : Nat))))) then bif (!Sp.strs (List.map AV.str (Sp.lines s2)) == Sp.strs xs3) then some (.bool false)
      else bif ((↑xs3.length : Int) == (0 : Int)) then some (.bool true)
       else bif (decide ((0 : Int) ≤ Go.IntKind.i64.wrap ((↑xs3.length : Int) - (1 : Int)))) then bif (decide (Go.IntKind.i64.wrap ((↑xs3.length : Int) - (1 : Int)) < (↑xs3.length : Int))) then bif (Nat.blt (0 : Nat) ((xs3.getD (Go.IntKind.i64.wrap ((↑xs3.length : Int) - (1 : Int))).toNat AV.top).cells.getD []).length) then bif (isS (((xs3.getD (Go.IntKind.i64.wrap ((↑xs3.length : Int) - (1 : Int))).toNat AV.top).cells.getD []).getD (0 : Nat) AV.top)) then bif (toS (((xs3.getD (Go.IntKind.i64.wrap ((↑xs3.length : Int) - (1 : Int))).toNat AV.top).cells.getD []).getD (0 : Nat) AV.top) == []) then some (.bool true)
            else bif (decide ((0 : Int) ≤ Go.IntKind.i64.wrap ((↑s2.length : Int) - (1 : Int)))) then bif (decide (Go.IntKind.i64.wrap ((↑s2.length : Int) - (1 : Int)) ≤ (↑s2.length : Int))) then bif (Sp.short (List.drop (0 : Nat) (List.take (Go.IntKind.i64.wrap ((↑s2.length : Int) - (1 : Int))).toNat s2))) then bif ((List.map AV.str (Sp.lines (List.drop (0 : Nat) (List.take (Go.IntKind.i64.wrap ((↑s2.length : Int) - (1 : Int))).toNat s2)))).all isS && (xs3.all isS && (decide ((List.map AV.str (Sp.lines (List.drop (0 : Nat) (List.take (Go.IntKind.i64.wrap ((↑s2.length : Int) - (1 : Int))).toNat s2)))).length < (68719476736 : Nat)) && decide (xs3.length < (68719476736 : Nat))))) then some (.bool (Sp.strs (List.map AV.str (Sp.lines (List.drop (0 : Nat) (List.take (Go.IntKind.i64.wrap ((↑s2.length : Int) - (1 : Int))).toNat s2)))) == Sp.strs xs3))
                else none
               else none
              else none
             else none
           else none
          else none
         else none
        else none
     else none
    else none
  else bif (Sp.short s2) then bif ((List.map AV.str (Sp.lines s2)).all isS && (xs3.all isS && (decide ((List.map AV.str (Sp.lines s2)).length < (68719476736 : Nat)) && decide (xs3.length < (68719476736 : Nat))))) then bif (!Sp.strs (List.map AV.str (Sp.lines s2)) == Sp.strs xs3) then some (.bool false)
     else bif ((↑xs3.length : Int) == (0 : Int)) then some (.bool true)
      else bif (decide ((0 : Int) ≤ Go.IntKind.i64.wrap ((↑xs3.length : Int) - (1 : Int)))) then bif (decide (Go.IntKind.i64.wrap ((↑xs3.length : Int) - (1 : Int)) < (↑xs3.length : Int))) then bif (Nat.blt (0 : Nat) ((xs3.getD (Go.IntKind.i64.wrap ((↑xs3.length : Int) - (1 : Int))).toNat AV.top).cells.getD []).length) then bif (isS (((xs3.getD (Go.IntKind.i64.wrap ((↑xs3.length : Int) - (1 : Int))).toNat AV.top).cells.getD []).getD (0 : Nat) AV.top)) then bif (toS (((xs3.getD (Go.IntKind.i64.wrap ((↑xs3.length : Int) - (1 : Int))).toNat AV.top).cells.getD []).getD (0 : Nat) AV.top) == []) then some (.bool true)
           else bif (decide ((0 : Int) ≤ Go.IntKind.i64.wrap ((↑s2.length : Int) - (1 : Int)))) then bif (decide (Go.IntKind.i64.wrap ((↑s2.length : Int) - (1 : Int)) ≤ (↑s2.length : Int))) then bif (Sp.short (List.drop (0 : Nat) (List.take (Go.IntKind.i64.wrap ((↑s2.length : Int) - (1 : Int))).toNat s2))) then bif ((List.map AV.str (Sp.lines (List.drop (0 : Nat) (List.take (Go.IntKind.i64.wrap ((↑s2.length : Int) - (1 : Int))).toNat s2)))).all isS && (xs3.all isS && (decide ((List.map AV.str (Sp.lines (List.drop (0 : Nat) (List.take (Go.IntKind.i64.wrap ((↑s2.length : Int) - (1 : Int))).toNat s2)))).length < (68719476736 : Nat)) && decide (xs3.length < (68719476736 : Nat))))) then some (.bool (Sp.strs (List.map AV.str (Sp.lines (List.drop (0 : Nat) (List.take (Go.IntKind.i64.wrap ((↑s2.length : Int) - (1 : Int))).toNat s2)))) == Sp.strs xs3))
               else none
              else none
             else none
            else none
          else none
         else none
        else none
       else none
    else none
   else none := by unfold L_hearsaylaw25_ScriptJoins_0; rw [runL_round]; kernel_rfl
theorem L_hearsaylaw25_ScriptJoins_0_zero (n  : Nat) (xs0 : List AV) (i1 : Int) (s2 : List UInt8) (xs3 : List AV) : L_hearsaylaw25_ScriptJoins_0 n 0 xs0 i1 s2 xs3 = none := by unfold L_hearsaylaw25_ScriptJoins_0; rw [runL_round]; kernel_rfl
theorem e_hearsaylaw25_ScriptJoins (n : Nat) (xs : List AV) : runA Tryd.prog (X 107) (n + 3) 10 [(.view 1 xs)] =
  L_hearsaylaw25_ScriptJoins_0 n (n + 2) xs 0 [] [] := by kernel_rfl
end Go.Proofs.YtgeheffhdpeddaaDoor.VX

/- LINES: the document's Lines, lists of texts compared; the laws ScriptCuts and ScriptJoins come to true where script.Lines answers as its row says. Conditions: as each theorem states. -/
namespace Go.Proofs.YtgeheffhdpeddaaDoor.VX
open Go Go.Proofs Go.Proofs.YtgeheffhdpeddaaDoor Go.RowKit
theorem bif_t {α : Type} {b : Bool} {x y : α} (h : b = true) : (bif b then x else y) = x := by rw [h]; rfl
theorem bif_f {α : Type} {b : Bool} {x y : α} (h : b = false) : (bif b then x else y) = y := by rw [h]; rfl
theorem blt_str (x : List UInt8) : Nat.blt 0 ((AV.str x).cells.getD []).length = true := rfl
theorem isS_str (x : List UInt8) : isS (((AV.str x).cells.getD []).getD 0 AV.top) = true := rfl
theorem toS_str (x : List UInt8) : toS (((AV.str x).cells.getD []).getD 0 AV.top) = x := rfl
theorem rlines_loop (n : Nat) (s : List UInt8) (hs : s.length < 68719476736) : ∀ (r : List UInt8) (i from_ m : Nat) (done : List (List UInt8)), s.drop i = r → i ≤ s.length → from_ ≤ i → done.length ≤ i → r.length < m →
    L_hearsayref25_Lines_0 n m i from_ s (done.map .str) = some (.view 1 ((done ++ Sp.linesGo ((s.take i).drop from_) r).map .str))
  | [], i, from_, m, done, hd, hi, hf, hl, hm => by
    obtain ⟨m, rfl⟩ : ∃ k, m = k + 1 := ⟨m - 1, by simp at hm; omega⟩
    have hie := drop_nil hd hi
    rw [L_hearsayref25_Lines_0_eq, lt_f (a := (i : Int)) (b := (s.length : Int)) (by omega)]
    simp only [cond_false, Sp.linesGo]
    have hlen : ((s.take i).drop from_).length = s.length - from_ := by simp; omega
    by_cases h : from_ < s.length
    · rw [lt_t (a := (from_ : Int)) (b := (s.length : Int)) (by omega), le_t (a := 0) (b := (from_ : Int)) (by omega), le_t (a := (from_ : Int)) (b := (s.length : Int)) (by omega), le_t (a := (s.length : Int)) (b := (s.length : Int)) (by omega), room_t (n := (done.map AV.str).length + 1) (by simp; omega) (by decide), toNat_cast, toNat_cast]
      have he : ((s.take i).drop from_).isEmpty = false := by
        rw [List.isEmpty_eq_false_iff]; intro h0; rw [h0] at hlen; simp at hlen; omega
      rw [he, hie]
      simp only [cond_true, cond_false, List.map_append, List.map_cons, List.map_nil]
    · rw [lt_f (a := (from_ : Int)) (b := (s.length : Int)) (by omega)]
      have he : ((s.take i).drop from_).isEmpty = true := by
        rw [List.isEmpty_iff]; exact List.length_eq_zero_iff.mp (by omega)
      rw [he]
      simp only [cond_true, cond_false, List.append_nil]
  | c :: r, i, from_, m, done, hd, hi, hf, hl, hm => by
    obtain ⟨m, rfl⟩ : ∃ k, m = k + 1 := ⟨m - 1, by simp at hm; omega⟩
    obtain ⟨h1, h2, h3, _⟩ := drop_cons hd
    simp only [List.length_cons] at hm
    rw [L_hearsayref25_Lines_0_eq, lt_t (a := (i : Int)) (b := (s.length : Int)) (by omega), le_t (a := 0) (b := (i : Int)) (by omega), toNat_cast, h2, wrap1 (by omega)]
    simp only [cond_true, Sp.linesGo]
    cases hc : c == 10 with
    | true =>
      rw [le_t (a := 0) (b := (from_ : Int)) (by omega), le_t (a := (from_ : Int)) (b := (i : Int)) (by omega), le_t (a := (i : Int)) (b := (s.length : Int)) (by omega), room_t (n := (done.map AV.str).length + 1) (by simp; omega) (by decide), toNat_cast]
      simp only [cond_true]
      have := rlines_loop n s hs r (i + 1) (i + 1) m (done ++ [(s.take i).drop from_]) h3 (by omega) (by omega) (by simp; omega) (by omega)
      rw [List.map_append] at this
      refine Eq.trans this ?_
      rw [show (s.take (i + 1)).drop (i + 1) = [] from List.drop_eq_nil_of_le (by rw [List.length_take]; omega), List.append_assoc]
      rfl
    | false =>
      simp only [cond_false]
      have hg : s[i]? = some c := by
        have : s[i]? = some (s[i]'h1) := List.getElem?_eq_getElem h1
        rw [this]
        have h2' : s.getD i 0 = s[i]'h1 := by rw [List.getD_eq_getElem?_getD, this]; rfl
        rw [← h2', h2]
      have hacc : (s.take (i + 1)).drop from_ = (s.take i).drop from_ ++ [c] := by
        rw [List.take_add_one, hg, List.drop_append_of_le_length (by rw [List.length_take]; omega)]
        rfl
      have := rlines_loop n s hs r (i + 1) from_ m done h3 (by omega) (by omega) (by omega) (by omega)
      rw [hacc] at this
      exact this
theorem rlines_eq (s : List UInt8) (h : Sp.short s = true) : ∃ n, runA Tryd.prog (X 105) n 25 [.str s] = some (.view 1 ((Sp.lines s).map .str)) := by
  have hp := Sp.short_lt h
  refine ⟨s.length + 3, (e_hearsayref25_Lines s.length s).trans ?_⟩
  have := rlines_loop s.length s hp s 0 0 (s.length + 2) [] rfl (by omega) (by omega) (by simp) (by omega)
  exact this
theorem getD_str (l : List (List UInt8)) (i : Nat) (t : List UInt8) (r : List (List UInt8)) (h : l.drop i = t :: r) : i < l.length ∧ (l.map AV.str).getD i AV.top = .str t ∧ l.drop (i + 1) = r := by
  have hl := congrArg List.length h
  simp only [List.length_drop, List.length_cons] at hl
  refine ⟨by omega, ?_, ?_⟩
  · have : l[i]? = some t := by
      have := congrArg (fun l => l[0]?) h
      simpa using this
    rw [List.getD_eq_getElem?_getD, List.getElem?_map, this]; rfl
  · have := congrArg (List.drop 1) h
    rw [List.drop_drop] at this
    simpa [Nat.add_comm] using this
theorem texts_loop (n : Nat) (a b : List (List UInt8)) (hl : a.length = b.length) (ha : a.length < 68719476736) : ∀ (p q : List (List UInt8)) (i m : Nat), a.drop i = p → b.drop i = q → i ≤ a.length → p.length < m →
    L_hearsaylaw25_texts_0 n m (b.map .str) (a.map .str) i = some (.bool (p == q))
  | [], q, i, m, hp, hq, hi, hm => by
    obtain ⟨m, rfl⟩ : ∃ k, m = k + 1 := ⟨m - 1, by simp at hm; omega⟩
    have := drop_nil' hp
    have hq0 : q = [] := by rw [← hq]; exact List.drop_eq_nil_of_le (by omega)
    subst hq0
    rw [L_hearsaylaw25_texts_0_eq, List.length_map, lt_f (by omega)]; rfl
  | x :: p, [], i, m, hp, hq, hi, hm => by
    have h1 := drop_nil' hq
    have h2 := (getD_str a i x p hp).1
    omega
  | x :: p, y :: q, i, m, hp, hq, hi, hm => by
    obtain ⟨m, rfl⟩ : ∃ k, m = k + 1 := ⟨m - 1, by simp at hm; omega⟩
    obtain ⟨h1, h2, h3⟩ := getD_str a i x p hp
    obtain ⟨k1, k2, k3⟩ := getD_str b i y q hq
    simp only [List.length_cons] at hm
    rw [L_hearsaylaw25_texts_0_eq]
    simp only [List.length_map]
    rw [lt_t (a := (i : Int)) (b := (a.length : Int)) (by omega), le_t (a := 0) (b := (i : Int)) (by omega), lt_t (a := (i : Int)) (b := (b.length : Int)) (by omega), toNat_cast, h2, k2, wrap1 (by omega), texts_loop n a b hl ha p q (i + 1) m h3 k3 (by omega) (by omega)]
    rw [bif_t rfl, bif_t rfl, bif_t rfl, bif_t (blt_str x), bif_t (isS_str x), bif_t rfl, bif_t rfl, bif_t (blt_str y), bif_t (isS_str y), toS_str, toS_str]
    have e : (x :: p == y :: q) = (x == y && p == q) := rfl
    rw [e]
    cases x == y <;> rfl
theorem texts_eq (xs ys : List AV) (hx : xs.all isS = true) (hy : ys.all isS = true) (h1 : xs.length < 68719476736) (h2 : ys.length < 68719476736) : ∃ n, runA Tryd.prog (X 106) n 26 [.view 1 xs, .view 1 ys] = some (.bool (Sp.strs xs == Sp.strs ys)) := by
  have ex := s_list hx
  have ey := s_list hy
  generalize Sp.strs xs = a at ex ⊢
  generalize Sp.strs ys = b at ey ⊢
  subst ex ey
  rw [List.length_map] at h1 h2
  refine ⟨a.length + 3, (e_hearsaylaw25_texts a.length (a.map .str) (b.map .str)).trans ?_⟩
  simp only [List.length_map]
  by_cases hl : a.length = b.length
  · rw [bif_f (show ((a.length : Int) != (b.length : Int)) = false from by simp [hl])]
    exact texts_loop a.length a b hl h1 a b 0 (a.length + 2) rfl rfl (by omega) (by omega)
  · have h2 : (a == b) = false := by
      rw [beq_eq_false_iff_ne]; intro h; exact hl (by rw [h])
    rw [bif_t (show ((a.length : Int) != (b.length : Int)) = true from by simp; omega), h2]
theorem cuts_loop (n : Nat) (a : List (List UInt8)) (ha : a.length < 68719476736) : ∀ (p : List (List UInt8)) (i m : Nat), a.drop i = p → i ≤ a.length → p.length < m →
    L_hearsaylaw25_ScriptCuts_0 n m (a.map .str) (a.map .str) i = some (.bool true)
  | [], i, m, hp, hi, hm => by
    obtain ⟨m, rfl⟩ : ∃ k, m = k + 1 := ⟨m - 1, by simp at hm; omega⟩
    have := drop_nil' hp
    rw [L_hearsaylaw25_ScriptCuts_0_eq, List.length_map, lt_f (by omega)]; rfl
  | x :: p, i, m, hp, hi, hm => by
    obtain ⟨m, rfl⟩ : ∃ k, m = k + 1 := ⟨m - 1, by simp at hm; omega⟩
    obtain ⟨h1, h2, h3⟩ := getD_str a i x p hp
    simp only [List.length_cons] at hm
    rw [L_hearsaylaw25_ScriptCuts_0_eq]
    simp only [List.length_map]
    rw [lt_t (a := (i : Int)) (b := (a.length : Int)) (by omega), le_t (a := 0) (b := (i : Int)) (by omega), toNat_cast, h2, wrap1 (by omega), cuts_loop n a ha p (i + 1) m h3 (by omega) (by omega)]
    rw [bif_t rfl, bif_t rfl, bif_t rfl, bif_t (blt_str x), bif_t (isS_str x), bif_t rfl, bif_t rfl, bif_t (blt_str x), bif_t (isS_str x), toS_str, bif_f (show (!x == x) = false from by rw [beq_self_eq_true]; rfl)]
theorem linesGo_len : ∀ (r acc : List UInt8), (Sp.linesGo acc r).length ≤ r.length + 1
  | [], acc => by unfold Sp.linesGo; cases acc.isEmpty <;> simp
  | c :: r, acc => by
    unfold Sp.linesGo
    cases c == 10
    · have := linesGo_len r (acc ++ [c]); simp only [cond_false, List.length_cons]; omega
    · have := linesGo_len r []; simp only [cond_true, List.length_cons]; omega
theorem cuts_t (s : List UInt8) (h : s.length < 60000000000) : ∃ n, runA Tryd.prog (X 107) n 9 [.str s] = some (.bool true) := by
  have hs : Sp.short s = true := decide_eq_true (by omega)
  have hl := linesGo_len s []
  refine ⟨(Sp.lines s).length + 3, (e_hearsaylaw25_ScriptCuts (Sp.lines s).length s).trans ?_⟩
  rw [hs]
  simp only [cond_true, bne_self_eq_false, cond_false]
  exact cuts_loop (Sp.lines s).length (Sp.lines s) (by unfold Sp.lines; omega) (Sp.lines s) 0 ((Sp.lines s).length + 2) rfl (by omega) (by omega)
end Go.Proofs.YtgeheffhdpeddaaDoor.VX

/- LINES JOINED ARE CUT AGAIN: the law ScriptJoins comes to true where script.Lines answers as its row says. Conditions: as each theorem states. -/
namespace Go.Proofs.YtgeheffhdpeddaaDoor.VX
open Go Go.Proofs Go.Proofs.YtgeheffhdpeddaaDoor Go.RowKit
def cl (s : List UInt8) : List UInt8 := s.filter fun c => c != 10
/-- Lines, each closed by a line feed. -/
def cat : List (List UInt8) → List UInt8
  | [] => []
  | c :: r => c ++ 10 :: cat r
theorem cl_no (s : List UInt8) (k : Nat) : (cl s)[k]? ≠ some 10 := by
  intro h
  have := List.mem_of_getElem? h
  unfold cl at this
  rw [List.mem_filter] at this
  exact absurd this.2 (by decide)
theorem lines_one (c r : List UInt8) (h : ∀ k : Nat, c[k]? ≠ some 10) : Sp.lines (c ++ 10 :: r) = c :: Sp.lines r := by
  unfold Sp.lines
  rw [linesGo_hit (c ++ 10 :: r) c.length [] (by simp) (fun k hk => by rw [List.getElem?_append_left hk]; exact h k)]
  simp
theorem lines_cat (t : List UInt8) : ∀ cs : List (List UInt8), (∀ c ∈ cs, ∀ k : Nat, c[k]? ≠ some 10) → Sp.lines (cat cs ++ t) = cs ++ Sp.lines t
  | [], _ => rfl
  | c :: cs, h => by
    have ih := lines_cat t cs fun c hc => h c (List.mem_cons_of_mem _ hc)
    show Sp.lines ((c ++ 10 :: cat cs) ++ t) = _
    rw [List.append_assoc, List.cons_append, lines_one c _ (h c (by simp)), ih]; rfl
theorem cat_snoc (c : List UInt8) : ∀ cs : List (List UInt8), cat (cs ++ [c]) = cat cs ++ c ++ [10]
  | [] => by simp [cat]
  | d :: cs => by
    show d ++ 10 :: cat (cs ++ [c]) = (d ++ 10 :: cat cs) ++ c ++ [10]
    rw [cat_snoc c cs]; simp
theorem strs_back : ∀ l : List (List UInt8), Sp.strs (l.map .str) = l
  | [] => rfl
  | s :: l => by
    have ih := strs_back l
    show s :: Sp.strs (l.map .str) = _
    rw [ih]
theorem all_str : ∀ l : List (List UInt8), (l.map AV.str).all isS = true
  | [] => rfl
  | s :: l => by
    have ih := all_str l
    rw [List.map_cons, List.all_cons, ih]; rfl
theorem sz_cond {a b : List (List UInt8)} (ha : a.length < 68719476736) (hb : b.length < 68719476736) : ((List.map AV.str a).all isS && ((List.map AV.str b).all isS && (decide ((List.map AV.str a).length < (68719476736 : Nat)) && decide ((List.map AV.str b).length < (68719476736 : Nat))))) = true := by
  rw [all_str, all_str, List.length_map, List.length_map, decide_eq_true ha, decide_eq_true hb]; rfl
noncomputable def joinsEnd (s2 : List UInt8) (xs3 : List AV) : Option AV :=
  bif (Sp.short s2) then bif ((List.map AV.str (Sp.lines s2)).all isS && (xs3.all isS && (decide ((List.map AV.str (Sp.lines s2)).length < (68719476736 : Nat)) && decide (xs3.length < (68719476736 : Nat))))) then bif (!Sp.strs (List.map AV.str (Sp.lines s2)) == Sp.strs xs3) then some (.bool false)
     else bif ((↑xs3.length : Int) == (0 : Int)) then some (.bool true)
      else bif (decide ((0 : Int) ≤ Go.IntKind.i64.wrap ((↑xs3.length : Int) - (1 : Int)))) then bif (decide (Go.IntKind.i64.wrap ((↑xs3.length : Int) - (1 : Int)) < (↑xs3.length : Int))) then bif (Nat.blt (0 : Nat) ((xs3.getD (Go.IntKind.i64.wrap ((↑xs3.length : Int) - (1 : Int))).toNat AV.top).cells.getD []).length) then bif (isS (((xs3.getD (Go.IntKind.i64.wrap ((↑xs3.length : Int) - (1 : Int))).toNat AV.top).cells.getD []).getD (0 : Nat) AV.top)) then bif (toS (((xs3.getD (Go.IntKind.i64.wrap ((↑xs3.length : Int) - (1 : Int))).toNat AV.top).cells.getD []).getD (0 : Nat) AV.top) == []) then some (.bool true)
           else bif (decide ((0 : Int) ≤ Go.IntKind.i64.wrap ((↑s2.length : Int) - (1 : Int)))) then bif (decide (Go.IntKind.i64.wrap ((↑s2.length : Int) - (1 : Int)) ≤ (↑s2.length : Int))) then bif (Sp.short (List.drop (0 : Nat) (List.take (Go.IntKind.i64.wrap ((↑s2.length : Int) - (1 : Int))).toNat s2))) then bif ((List.map AV.str (Sp.lines (List.drop (0 : Nat) (List.take (Go.IntKind.i64.wrap ((↑s2.length : Int) - (1 : Int))).toNat s2)))).all isS && (xs3.all isS && (decide ((List.map AV.str (Sp.lines (List.drop (0 : Nat) (List.take (Go.IntKind.i64.wrap ((↑s2.length : Int) - (1 : Int))).toNat s2)))).length < (68719476736 : Nat)) && decide (xs3.length < (68719476736 : Nat))))) then some (.bool (Sp.strs (List.map AV.str (Sp.lines (List.drop (0 : Nat) (List.take (Go.IntKind.i64.wrap ((↑s2.length : Int) - (1 : Int))).toNat s2)))) == Sp.strs xs3))
               else none
              else none
             else none
            else none
          else none
         else none
        else none
       else none
    else none
   else none
theorem joins_end (cs : List (List UInt8)) (hc : ∀ c ∈ cs, ∀ k : Nat, c[k]? ≠ some 10) (hs : (cat cs).length < 60000000000) (hl : cs.length < 60000000000) : joinsEnd (cat cs) (cs.map .str) = some (.bool true) := by
  have h1 : Sp.lines (cat cs) = cs := by have := lines_cat [] cs hc; simpa [Sp.lines, Sp.linesGo] using this
  have hs1 : Sp.short (cat cs) = true := decide_eq_true (by omega)
  unfold joinsEnd
  rw [h1, bif_t hs1, bif_t (sz_cond (by omega) (by omega)), strs_back, bif_f (show (!cs == cs) = false from by rw [beq_self_eq_true]; rfl), List.length_map]
  rcases List.eq_nil_or_concat cs with rfl | ⟨init, c, rfl⟩
  · rfl
  · rw [List.concat_eq_append] at *
    have hln : (init ++ [c]).length = init.length + 1 := by simp
    have w1 : IntKind.i64.wrap (((init ++ [c]).length : Int) - 1) = (init.length : Int) := by rw [hln, wrap_id (by omega) (by omega)]; omega
    have g1 : ((init ++ [c]).map AV.str).getD init.length AV.top = .str c := by simp [List.getD_eq_getElem?_getD]
    rw [w1, toNat_cast, g1, bif_f (show ((((init ++ [c]).length : Nat) : Int) == 0) = false from by rw [hln]; exact beq_eq_false_iff_ne.mpr (by omega)), le_t (a := 0) (b := (init.length : Int)) (by omega), lt_t (a := (init.length : Int)) (b := (((init ++ [c]).length : Nat) : Int)) (by rw [hln]; omega)]
    rw [bif_t rfl, bif_t rfl, bif_t (show Nat.blt 0 ((AV.str c).cells.getD []).length = true from rfl), bif_t (show isS (((AV.str c).cells.getD []).getD 0 AV.top) = true from rfl), show toS (((AV.str c).cells.getD []).getD 0 AV.top) = c from rfl]
    cases hce : (c == []) with
    | true => rfl
    | false =>
      have hcn : c ≠ [] := fun h => by rw [h] at hce; cases hce
      rw [bif_f rfl]
      have hcat := cat_snoc c init
      have hlen : (cat (init ++ [c])).length = (cat init ++ c).length + 1 := by rw [hcat]; simp only [List.length_append, List.length_cons, List.length_nil]
      have w2 : IntKind.i64.wrap (((cat (init ++ [c])).length : Int) - 1) = ((cat init ++ c).length : Int) := by rw [hlen, wrap_id (by omega) (by omega)]; omega
      have ht : (cat (init ++ [c])).take (cat init ++ c).length = cat init ++ c := by rw [hcat, List.take_left' rfl]
      have h2 : Sp.lines (cat init ++ c) = init ++ [c] := by
        rw [lines_cat c init fun d hd => hc d (by simp [hd])]
        unfold Sp.lines
        rw [linesGo_miss c [] (hc c (by simp)) (by simpa using hcn), List.nil_append]
      rw [w2, toNat_cast, ht, List.drop_zero, h2, le_t (a := 0) (b := ((cat init ++ c).length : Int)) (by omega), le_t (a := ((cat init ++ c).length : Int)) (b := ((cat (init ++ [c])).length : Int)) (by omega), bif_t rfl, bif_t rfl, bif_t (show Sp.short (cat init ++ c) = true from decide_eq_true (by omega)), List.length_map, all_str, decide_eq_true (show (init ++ [c]).length < 68719476736 by omega), strs_back, beq_self_eq_true]
      rfl
theorem cl_len (s : List UInt8) : (cl s).length ≤ s.length := List.length_filter_le _ _
theorem sizes_mem {s : List UInt8} : ∀ {l : List (List UInt8)}, s ∈ l → s.length ≤ Sp.sizes l
  | t :: l, h => by
    rcases List.mem_cons.mp h with rfl | h
    · simp only [Sp.sizes]; omega
    · have := sizes_mem h; simp only [Sp.sizes]; omega
theorem cat_len : ∀ l : List (List UInt8), (cat (l.map cl)).length ≤ Sp.sizes l + l.length
  | [] => Nat.zero_le _
  | s :: l => by
    have ih := cat_len l
    have := cl_len s
    simp only [List.map_cons, cat, List.length_append, List.length_cons, Sp.sizes] at ih ⊢
    omega
theorem sizes_take : ∀ (l : List (List UInt8)) (i : Nat), Sp.sizes (l.take i) ≤ Sp.sizes l
  | [], i => by simp
  | s :: l, 0 => Nat.zero_le _
  | s :: l, i + 1 => by
    have ih := sizes_take l i
    simp only [List.take_succ_cons, Sp.sizes]
    omega
theorem joins_loop (n : Nat) (l : List (List UInt8)) (hb : Sp.sizes l + l.length ≤ 1048576) : ∀ (p : List (List UInt8)) (i m : Nat), l.drop i = p → i ≤ l.length → p.length < m →
    L_hearsaylaw25_ScriptJoins_0 n m (l.map .str) i (cat ((l.take i).map cl)) (((l.take i).map cl).map .str) = some (.bool true) := by
  have hend : ∀ i, joinsEnd (cat ((l.take i).map cl)) (((l.take i).map cl).map .str) = some (.bool true) := fun i => by
    have h1 := cat_len (l.take i)
    have h2 := sizes_take l i
    have h3 : (l.take i).length ≤ l.length := by rw [List.length_take]; omega
    refine joins_end _ (fun c hc k => ?_) (by omega) (by rw [List.length_map]; omega)
    obtain ⟨s, _, rfl⟩ := List.mem_map.mp hc
    exact cl_no s k
  intro p
  induction p with
  | nil =>
    intro i m hp hi hm
    obtain ⟨m, rfl⟩ : ∃ k, m = k + 1 := ⟨m - 1, by simp at hm; omega⟩
    have := drop_nil' hp
    rw [L_hearsaylaw25_ScriptJoins_0_eq, List.length_map, bif_f (show decide ((i : Int) < (l.length : Int)) = false from lt_f (by omega))]
    exact hend i
  | cons x p ih =>
    intro i m hp hi hm
    obtain ⟨m, rfl⟩ : ∃ k, m = k + 1 := ⟨m - 1, by simp at hm; omega⟩
    obtain ⟨h1, h2, h3⟩ := getD_str l i x p hp
    simp only [List.length_cons] at hm
    rw [L_hearsaylaw25_ScriptJoins_0_eq, List.length_map, bif_t (show decide ((i : Int) < (l.length : Int)) = true from lt_t (by omega))]
    cases h60 : decide ((i : Int) < (60 : Int)) with
    | false =>
      rw [bif_f rfl]
      exact hend i
    | true =>
      have hx : l[i]? = some x := by
        have := congrArg (fun l => l[0]?) hp
        simpa using this
      have hxm : x ∈ l := List.mem_of_getElem? hx
      have hxl := sizes_mem hxm
      have hcx : (List.filter (fun c : UInt8 => c != 10) x).length ≤ x.length := cl_len x
      have hk1 := cat_len (l.take i)
      have hk2 := sizes_take l i
      have hk3 : (l.take i).length ≤ l.length := by rw [List.length_take]; omega
      have htk : l.take (i + 1) = l.take i ++ [x] := by rw [List.take_add_one, hx]; rfl
      have ih' := ih (i + 1) m h3 (by omega) (by omega)
      rw [htk, List.map_append, List.map_append, List.map_cons, List.map_nil, cat_snoc] at ih'
      rw [bif_t rfl, toNat_cast, h2, wrap1 (by omega), le_t (a := 0) (b := (i : Int)) (by omega), lt_t (a := (i : Int)) (b := (l.length : Int)) (by omega), bif_t rfl, bif_t rfl, bif_t (show Nat.blt 0 ((AV.str x).cells.getD []).length = true from rfl), bif_t (show isS (((AV.str x).cells.getD []).getD 0 AV.top) = true from rfl), show toS (((AV.str x).cells.getD []).getD 0 AV.top) = x from rfl]
      rw [bif_t (show Sp.short x = true from decide_eq_true (by omega)), bif_t (room_t (by rw [List.length_map, List.length_map]; omega) (by decide)),
        bif_t (Nat.ble_eq_true_of_le (show (cat ((l.take i).map cl)).length + (List.filter (fun c : UInt8 => c != 10) x).length ≤ 9223372036854775807 by omega)),
        bif_t (Nat.ble_eq_true_of_le (show (cat ((l.take i).map cl) ++ List.filter (fun c : UInt8 => c != 10) x).length + 1 ≤ 9223372036854775807 by rw [List.length_append]; omega))]
      exact ih'
theorem joins_t (l : List (List UInt8)) (hb : Sp.sizes l + l.length ≤ 1048576) : ∃ n, runA Tryd.prog (X 107) n 10 [.view 1 (l.map .str)] = some (.bool true) :=
  ⟨l.length + 3, (e_hearsaylaw25_ScriptJoins l.length (l.map .str)).trans (joins_loop l.length l hb l 0 (l.length + 2) rfl (by omega) (by omega))⟩
end Go.Proofs.YtgeheffhdpeddaaDoor.VX

/- THE ROWS of script.Lines, the document's Lines, texts. Conditions: as each theorem states. -/
namespace Go.Proofs.YtgeheffhdpeddaaDoor.VX
open Go Go.Proofs Go.Proofs.YtgeheffhdpeddaaDoor Go.RowKit
theorem rows105 : ∀ q ∈ tab.take 105, RowOK Gl q := rows_succ (r := (24, r_lines)) rows104 rfl lines_ok
theorem rows106 : ∀ q ∈ tab.take 106, RowOK Gl q := by
  refine rows_step Wok.gl rows105 (f := 25) (r := r_lines) rfl fun args v hv => ?_
  unfold r_lines at hv
  split at hv
  · obtain ⟨hc, hv⟩ := val_when hv
    cases hv
    exact rlines_eq _ hc
  · cases hv
theorem rows107 : ∀ q ∈ tab.take 107, RowOK Gl q := by
  refine rows_step Wok.gl rows106 (f := 26) (r := r_texts) rfl fun args v hv => ?_
  unfold r_texts at hv
  split at hv
  · obtain ⟨hc, hv⟩ := val_when hv
    cases hv
    simp only [Bool.and_eq_true, decide_eq_true_eq] at hc
    exact texts_eq _ _ hc.1 hc.2.1 hc.2.2.1 hc.2.2.2
  · cases hv
end Go.Proofs.YtgeheffhdpeddaaDoor.VX
