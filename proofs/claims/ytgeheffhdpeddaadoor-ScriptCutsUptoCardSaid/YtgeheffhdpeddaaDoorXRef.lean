/-
  Texts laid together: EQUATIONS of functions, printed by the tool (wip/tools/VTool; PLAIN; PLAIN; PLAIN. Conditions: as each theorem states.
-/
import Derived.Test.YtgeheffhdpeddaaDoorXExD
import Derived.Test.YtgeheffhdpeddaaDoorTie
import Derived.Test.YtgeheffhdpeddaaDoorXPr
/- EQUATIONS of functions, printed by the tool (wip/tools/VTool.lean.txt). Conditions: none. -/
namespace Go.Proofs.YtgeheffhdpeddaaDoor.VX
open Go Go.Proofs Go.Proofs.YtgeheffhdpeddaaDoor

theorem e_script_Blank (n : Nat) (s : List UInt8) : runA Tryd.prog (X 77) (n + 3) 20 [(.str s)] =
  bif (Sp.short s) then bif ((Sp.cut s (↑s.length : Int)).e == (0 : Int)) then some (.bool ((↑(List.map tokA (Sp.cutL s (↑s.length : Int))).length : Int) == (0 : Int)))
   else some (.bool false)
  else none := by kernel_rfl

theorem e_hearsayref25_fits (n : Nat) (p : UInt8) (k : Int) (t : List UInt8) (v : Int) (a : Int) (e : Int) : runA Tryd.prog (X 78) (n + 3) 39 [(.u8 p), (.agg [(.int .i64 k), (.str t), (.int .i64 v), (.int .i64 a), (.int .i64 e)])] =
  bif (p == (119 : UInt8)) then bif (k == (1 : Int)) then some (.bool true)
   else some (.bool (k == (3 : Int)))
  else bif (p == (111 : UInt8)) then bif (k == (1 : Int)) then some (.bool true)
    else some (.bool (k == (3 : Int)))
   else bif (p == (116 : UInt8)) then some (.bool (k == (3 : Int)))
    else bif (p == (98 : UInt8)) then some (.bool (k == (3 : Int)))
     else some (.bool (k == (4 : Int))) := by kernel_rfl

theorem e_hearsayref25_put (n : Nat) (kd : Int) (who : List UInt8) (to : List UInt8) (text : List UInt8) (xs : List AV) (j : Int) (m : Int) (k : Int) (p : UInt8) (k1 : Int) (t : List UInt8) (v : Int) (a : Int) (e : Int) : runA Tryd.prog (X 79) (n + 3) 40 [(.agg [(.int .i64 kd), (.str who), (.str to), (.str text), (.view 1 xs), (.int .i64 j), (.int .i64 m), (.int .i64 k)]), (.u8 p), (.agg [(.int .i64 k1), (.str t), (.int .i64 v), (.int .i64 a), (.int .i64 e)])] =
  bif (p == (119 : UInt8)) then some (.agg [(.int .i64 kd), (.str t), (.str to), (.str text), (.view 1 xs), (.int .i64 j), (.int .i64 m), (.int .i64 k)])
  else bif (p == (111 : UInt8)) then some (.agg [(.int .i64 kd), (.str who), (.str t), (.str text), (.view 1 xs), (.int .i64 j), (.int .i64 m), (.int .i64 k)])
   else bif (p == (116 : UInt8)) then some (.agg [(.int .i64 kd), (.str who), (.str to), (.str t), (.view 1 xs), (.int .i64 j), (.int .i64 m), (.int .i64 k)])
    else bif (p == (98 : UInt8)) then some (.agg [(.int .i64 kd), (.str who), (.str to), (.str text), (.view 1 (List.map AV.u8 t)), (.int .i64 j), (.int .i64 m), (.int .i64 k)])
     else bif (p == (110 : UInt8)) then some (.agg [(.int .i64 kd), (.str who), (.str to), (.str text), (.view 1 xs), (.int .i64 v), (.int .i64 m), (.int .i64 k)])
      else bif (p == (109 : UInt8)) then some (.agg [(.int .i64 kd), (.str who), (.str to), (.str text), (.view 1 xs), (.int .i64 j), (.int .i64 v), (.int .i64 k)])
       else bif (p == (107 : UInt8)) then some (.agg [(.int .i64 kd), (.str who), (.str to), (.str text), (.view 1 xs), (.int .i64 j), (.int .i64 m), (.int .i64 v)])
        else some (.agg [(.int .i64 kd), (.str who), (.str to), (.str text), (.view 1 xs), (.int .i64 j), (.int .i64 m), (.int .i64 k)]) := by kernel_rfl

theorem e_hearsayref25_Rows (n : Nat)  : runA Tryd.prog (X 80) (n + 3) 30 [] =
  some (.view 3 [(.agg [(.str [101, 110, 114, 111, 108, 108]), (.int .i64 1), (.str [119])]), (.agg [(.str [97, 115, 115, 101, 114, 116]), (.int .i64 2), (.str [119, 116])]), (.agg [(.str [114, 101, 116, 114, 97, 99, 116]), (.int .i64 3), (.str [119, 116])]), (.agg [(.str [101, 120, 112, 111, 114, 116]), (.int .i64 4), (.str [119, 116, 110])]), (.agg [(.str [105, 109, 112, 111, 114, 116]), (.int .i64 5), (.str [119, 110])]), (.agg [(.str [102, 111, 114, 103, 101, 116]), (.int .i64 6), (.str [119, 116])]), (.agg [(.str [113, 117, 101, 114, 121]), (.int .i64 7), (.str [119, 116, 110])]), (.agg [(.str [97, 115, 107]), (.int .i64 8), (.str [119, 116])]), (.agg [(.str [119, 97, 116, 99, 104]), (.int .i64 9), (.str [119, 116])]), (.agg [(.str [110, 101, 119, 115]), (.int .i64 10), (.str [119, 110])]), (.agg [(.str [119, 104, 121]), (.int .i64 11), (.str [119, 116])]), (.agg [(.str [108, 111, 115, 115]), (.int .i64 12), (.str [119, 111])]), (.agg [(.str [112, 114, 111, 118, 101]), (.int .i64 13), (.str [119, 116, 110])]), (.agg [(.str [115, 104, 111, 119]), (.int .i64 14), (.str [119, 110])]), (.agg [(.str [99, 108, 97, 117, 115, 101, 115]), (.int .i64 15), (.str [119])]), (.agg [(.str [100, 114, 111, 112]), (.int .i64 16), (.str [110])]), (.agg [(.str [99, 111, 112, 121]), (.int .i64 17), (.str [110])]), (.agg [(.str [115, 119, 97, 112]), (.int .i64 18), (.str [110, 109])]), (.agg [(.str [102, 108, 105, 112]), (.int .i64 19), (.str [110, 109, 107])]), (.agg [(.str [99, 117, 116]), (.int .i64 20), (.str [110, 109])]), (.agg [(.str [102, 111, 114, 103, 101]), (.int .i64 21), (.str [98])]), (.agg [(.str [119, 97, 105, 116, 105, 110, 103]), (.int .i64 22), (.str [])]), (.agg [(.str [99, 114, 97, 115, 104]), (.int .i64 23), (.str [119, 109])]), (.agg [(.str [114, 101, 100, 117, 110, 100, 97, 110, 116]), (.int .i64 24), (.str [119])])]) := by kernel_rfl

theorem e_hearsayref25_name (n : Nat) (s : List UInt8) : runA Tryd.prog (X 83) (n + 3) 47 [(.str s)] =
  bif (Sp.short s) then bif (Sp.word s) then some (.str s)
   else bif (Sp.short s) then some (.str (Sp.quote s))
    else none
  else none := by kernel_rfl
noncomputable def L_hearsayref25_used_0 (n m0 : Nat) (b0 : UInt8) (i1 : Int) (s2 : List UInt8) (i3 : Int) (s4 : List UInt8) : Option AV := runL Tryd.prog (X 85) (n + 2) 46 [⟨0, m0, [1], 4⟩] [(.x, (.num 10)), ((.t 1), (.av (.u8 b0) .none)), ((.t 2), (.av (.ptr 1 0) .none)), ((.t 5), (.av (.int .i64 i1) .none)), ((.o 1), (.obj [((.str s2), .none), ((.int .i64 i3), .none), ((.str s4), .none)])), ((.l 4), (.flag false)), ((.l 5), (.flag false)), ((.l 6), (.flag false)), ((.l 7), (.flag false)), ((.l 8), (.flag false)), ((.l 9), (.flag false)), ((.y 1), (.num 68))]
theorem L_hearsayref25_used_0_eq (n m0 : Nat) (b0 : UInt8) (i1 : Int) (s2 : List UInt8) (i3 : Int) (s4 : List UInt8) : L_hearsayref25_used_0 n (m0 + 1) b0 i1 s2 i3 s4 =
  bif (decide (i1 < (↑s4.length : Int))) then bif (decide ((0 : Int) ≤ i1)) then bif (decide (i1 < (↑s4.length : Int))) then bif (s4.getD i1.toNat (0 : UInt8) == b0) then some (.bool true)
     else L_hearsayref25_used_0 n m0 b0 (Go.IntKind.i64.wrap (i1 + (1 : Int))) s2 i3 s4
    else none
   else none
  else some (.bool false) := by unfold L_hearsayref25_used_0; rw [runL_round]; kernel_rfl
theorem L_hearsayref25_used_0_zero (n  : Nat) (b0 : UInt8) (i1 : Int) (s2 : List UInt8) (i3 : Int) (s4 : List UInt8) : L_hearsayref25_used_0 n 0 b0 i1 s2 i3 s4 = none := by unfold L_hearsayref25_used_0; rw [runL_round]; kernel_rfl
theorem e_hearsayref25_used (n : Nat) (s : List UInt8) (k : Int) (ps : List UInt8) (c : UInt8) : runA Tryd.prog (X 85) (n + 3) 46 [(.agg [(.str s), (.int .i64 k), (.str ps)]), (.u8 c)] =
  L_hearsayref25_used_0 n (n + 2) c 0 s k ps := by kernel_rfl

theorem e_script_empty (n : Nat) (kd : Int) (who : List UInt8) (to : List UInt8) (text : List UInt8) (xs : List AV) (j : Int) (m : Int) (k : Int) : runA Tryd.prog (X 88) (n + 3) 29 [(.agg [(.int .i64 kd), (.str who), (.str to), (.str text), (.view 1 xs), (.int .i64 j), (.int .i64 m), (.int .i64 k)])] =
  bif (who == []) then bif (to == []) then bif (text == []) then bif ((↑xs.length : Int) == (0 : Int)) then bif (j == (0 : Int)) then bif (m == (0 : Int)) then some (.bool (k == (0 : Int)))
       else some (.bool false)
      else some (.bool false)
     else some (.bool false)
    else some (.bool false)
   else some (.bool false)
  else some (.bool false) := by kernel_rfl

theorem e_hearsaylaw25_same (n : Nat) (kd : Int) (who : List UInt8) (to : List UInt8) (text : List UInt8) (xs : List AV) (j : Int) (m : Int) (k : Int) (kd' : Int) (who' : List UInt8) (to' : List UInt8) (text' : List UInt8) (xs' : List AV) (j' : Int) (m' : Int) (k' : Int) : runA Tryd.prog (X 96) (n + 3) 16 [(.agg [(.int .i64 kd), (.str who), (.str to), (.str text), (.view 1 xs), (.int .i64 j), (.int .i64 m), (.int .i64 k)]), (.agg [(.int .i64 kd'), (.str who'), (.str to'), (.str text'), (.view 1 xs'), (.int .i64 j'), (.int .i64 m'), (.int .i64 k')])] =
  bif (kd != kd') then some (.bool false)
  else bif (!who == who') then some (.bool false)
   else bif (!to == to') then some (.bool false)
    else bif (!text == text') then some (.bool false)
     else bif (xs.all isU8) then bif (xs'.all isU8) then bif (!List.map toU8 xs == List.map toU8 xs') then some (.bool false)
        else bif (j == j') then bif (m == m') then some (.bool (k == k'))
          else some (.bool false)
         else some (.bool false)
       else none
      else none := by kernel_rfl
noncomputable def L_hearsaylaw25_has_0 (n m0 : Nat) (b0 : UInt8) (s1 : List UInt8) (i2 : Int) : Option AV := runL Tryd.prog (X 99) (n + 2) 36 [⟨0, m0, [], 3⟩] [(.x, (.num 6)), ((.t 1), (.av (.u8 b0) .none)), ((.t 0), (.av (.str s1) .none)), ((.t 5), (.av (.int .i64 i2) .none)), ((.l 3), (.flag false)), ((.l 4), (.flag false)), ((.l 5), (.flag false))]
theorem L_hearsaylaw25_has_0_eq (n m0 : Nat) (b0 : UInt8) (s1 : List UInt8) (i2 : Int) : L_hearsaylaw25_has_0 n (m0 + 1) b0 s1 i2 =
  bif (decide (i2 < (↑s1.length : Int))) then bif (decide ((0 : Int) ≤ i2)) then bif (decide (i2 < (↑s1.length : Int))) then bif (s1.getD i2.toNat (0 : UInt8) == b0) then some (.bool true)
     else L_hearsaylaw25_has_0 n m0 b0 s1 (Go.IntKind.i64.wrap (i2 + (1 : Int)))
    else none
   else none
  else some (.bool false) := by unfold L_hearsaylaw25_has_0; rw [runL_round]; kernel_rfl
theorem L_hearsaylaw25_has_0_zero (n  : Nat) (b0 : UInt8) (s1 : List UInt8) (i2 : Int) : L_hearsaylaw25_has_0 n 0 b0 s1 i2 = none := by unfold L_hearsaylaw25_has_0; rw [runL_round]; kernel_rfl
theorem e_hearsaylaw25_has (n : Nat) (ps : List UInt8) (c : UInt8) : runA Tryd.prog (X 99) (n + 3) 36 [(.str ps), (.u8 c)] =
  L_hearsaylaw25_has_0 n (n + 2) c ps 0 := by kernel_rfl

theorem e_hearsaylaw25_cut (n : Nat) (s : List UInt8) : runA Tryd.prog (X 100) (n + 3) 23 [(.str s)] =
  bif (decide ((↑s.length : Int) > (4000 : Int))) then bif (decide ((4000 : Int) ≤ (↑s.length : Int))) then some (.str (List.drop (0 : Nat) (List.take (4000 : Nat) s)))
   else none
  else some (.str s) := by kernel_rfl
noncomputable def L_hearsaylaw25_line_0 (n m0 : Nat) (s0 : List UInt8) (i1 : Int) (xs2 : List AV) : Option AV := runL Tryd.prog (X 102) (n + 2) 22 [⟨0, m0, [], 4⟩] [(.x, (.num 7)), ((.t 0), (.av (.str s0) .none)), ((.t 4), (.av (.int .i64 i1) .none)), ((.t 3), (.av (.view 1 xs2) (.some 6))), ((.l 4), (.flag false)), ((.l 5), (.flag false)), ((.l 6), (.flag true))]
theorem L_hearsaylaw25_line_0_eq (n m0 : Nat) (s0 : List UInt8) (i1 : Int) (xs2 : List AV) : L_hearsaylaw25_line_0 n (m0 + 1) s0 i1 xs2 =
  bif (decide (i1 < (↑s0.length : Int))) then bif (decide ((0 : Int) ≤ i1)) then bif (decide (i1 < (↑s0.length : Int))) then bif (s0.getD i1.toNat (0 : UInt8) != (10 : UInt8)) then bif (decide ((0 : Int) ≤ i1)) then bif (decide (i1 < (↑s0.length : Int))) then bif (roomA (xs2.length + (1 : Nat)) (1 : Nat)) then L_hearsaylaw25_line_0 n m0 s0 (Go.IntKind.i64.wrap (i1 + (1 : Int))) (xs2 ++ [AV.u8 (s0.getD i1.toNat (0 : UInt8))])
        else none
       else none
      else none
     else L_hearsaylaw25_line_0 n m0 s0 (Go.IntKind.i64.wrap (i1 + (1 : Int))) xs2
    else none
   else none
  else bif (xs2.all isU8) then some (.str (List.map toU8 xs2))
   else none := by unfold L_hearsaylaw25_line_0; rw [runL_round]; kernel_rfl
theorem L_hearsaylaw25_line_0_zero (n  : Nat) (s0 : List UInt8) (i1 : Int) (xs2 : List AV) : L_hearsaylaw25_line_0 n 0 s0 i1 xs2 = none := by unfold L_hearsaylaw25_line_0; rw [runL_round]; kernel_rfl
theorem e_hearsaylaw25_line (n : Nat) (s : List UInt8) : runA Tryd.prog (X 102) (n + 3) 22 [(.str s)] =
  L_hearsaylaw25_line_0 n (n + 2) s 0 [] := by kernel_rfl

theorem e_hearsaylaw25_first (n : Nat)  : runA Tryd.prog (X 97) (n + 3) 14 [] =
  some (.bool true) := by kernel_rfl

theorem e_hearsayref25_shown (n : Nat) (kd : Int) (who : List UInt8) (to : List UInt8) (text : List UInt8) (xs : List AV) (j : Int) (m : Int) (k : Int) (p : UInt8) : runA Tryd.prog (X 84) (n + 3) 32 [(.agg [(.int .i64 kd), (.str who), (.str to), (.str text), (.view 1 xs), (.int .i64 j), (.int .i64 m), (.int .i64 k)]), (.u8 p)] =
  bif (p == (119 : UInt8)) then bif (Sp.short who) then some (.str (Sp.nameB who))
   else none
  else bif (p == (111 : UInt8)) then bif (Sp.short to) then some (.str (Sp.nameB to))
    else none
   else bif (p == (116 : UInt8)) then bif (Sp.short text) then some (.str (Sp.quote text))
     else none
    else bif (p == (98 : UInt8)) then bif (xs.all isU8) then bif (Sp.short (List.map toU8 xs)) then some (.str (Sp.quote (List.map toU8 xs)))
       else none
      else none
     else bif (p == (110 : UInt8)) then bif (Sp.i64 j) then some (.str (Sp.itoa j))
       else none
      else bif (p == (109 : UInt8)) then bif (Sp.i64 m) then some (.str (Sp.itoa m))
        else none
       else bif (Sp.i64 k) then some (.str (Sp.itoa k))
        else none := by kernel_rfl

theorem e_script_name_2 (n : Nat) (kd : Int) (who : List UInt8) (to : List UInt8) (text : List UInt8) (xs : List AV) (j : Int) (m : Int) (k : Int) : runA Tryd.prog (X 91) (n + 4) 172 [(.agg [(.int .i64 kd), (.str who), (.str to), (.str text), (.view 1 xs), (.int .i64 j), (.int .i64 m), (.int .i64 k)]), (.cptr [(.fn (.func 158) [] [])] 0)] =
  bif (Sp.short who) then bif (Sp.word who) then some (.str who)
   else bif (Sp.short who) then some (.str (Sp.quote who))
    else none
  else none := by kernel_rfl

theorem e_script_number_2 (n : Nat) (kd : Int) (who : List UInt8) (to : List UInt8) (text : List UInt8) (xs : List AV) (j : Int) (m : Int) (k : Int) : runA Tryd.prog (X 92) (n + 4) 176 [(.agg [(.int .i64 kd), (.str who), (.str to), (.str text), (.view 1 xs), (.int .i64 j), (.int .i64 m), (.int .i64 k)]), (.cptr [(.fn (.func 164) [] [])] 0)] =
  bif (true && Sp.i64 j) then some (.str (Sp.spT (4 : Int) [] j))
  else none := by kernel_rfl

theorem e_script_text_2 (n : Nat) (kd : Int) (who : List UInt8) (to : List UInt8) (text : List UInt8) (xs : List AV) (j : Int) (m : Int) (k : Int) : runA Tryd.prog (X 93) (n + 4) 160 [(.agg [(.int .i64 kd), (.str who), (.str to), (.str text), (.view 1 xs), (.int .i64 j), (.int .i64 m), (.int .i64 k)])] =
  bif (Sp.short text) then some (.str (Sp.quote text))
  else none := by kernel_rfl

theorem e_script_raw_2 (n : Nat) (kd : Int) (who : List UInt8) (to : List UInt8) (text : List UInt8) (xs : List AV) (j : Int) (m : Int) (k : Int) : runA Tryd.prog (X 94) (n + 4) 169 [(.agg [(.int .i64 kd), (.str who), (.str to), (.str text), (.view 1 xs), (.int .i64 j), (.int .i64 m), (.int .i64 k)])] =
  bif (xs.all isU8) then bif (Sp.short (List.map toU8 xs)) then some (.str (Sp.quote (List.map toU8 xs)))
   else none
  else none := by kernel_rfl
noncomputable def L_hearsayref25_Print_0 (n m0 : Nat) (xs0 : List AV) (i1 : Int) (i2 : Int) (s3 : List UInt8) (s4 : List UInt8) (s5 : List UInt8) (xs6 : List AV) (i7 : Int) (i8 : Int) (i9 : Int) : Option AV := runL Tryd.prog (X 87) (n + 5) 13 [⟨0, m0, [1], 7⟩] [(.x, (.num 18)), ((.t 1), (.av (.ptr 1 0) .none)), ((.t 4), (.av (.view 3 xs0) .none)), ((.t 5), (.av (.int .i64 i1) .none)), ((.o 1), (.obj [((.int .i64 i2), .none), ((.str s3), .none), ((.str s4), .none), ((.str s5), .none), ((.view 1 xs6), .none), ((.int .i64 i7), .none), ((.int .i64 i8), .none), ((.int .i64 i9), .none)])), ((.l 7), (.flag false)), ((.l 8), (.flag false)), ((.l 9), (.flag false)), ((.l 10), (.flag false)), ((.l 11), (.flag false)), ((.l 12), (.flag false)), ((.l 13), (.flag false)), ((.l 14), (.flag false)), ((.l 15), (.flag false)), ((.l 16), (.flag false)), ((.l 17), (.flag false)), ((.y 1), (.num 24))]
noncomputable def L_hearsayref25_Print_2 (n m0 m1 : Nat) (i0 : Int) (xs1 : List AV) (i2 : Int) (s3 : List UInt8) (i4 : Int) (s5 : List UInt8) (s6 : List UInt8) (s7 : List UInt8) (xs8 : List AV) (i9 : Int) (i10 : Int) (i11 : Int) : Option AV := runL Tryd.prog (X 87) (n + 5) 13 [⟨0, m0, [1], 7⟩, ⟨2, m1, [1], 44⟩] [(.x, (.num 57)), ((.t 5), (.av (.int .i64 i0) .none)), ((.t 4), (.av (.view 3 xs1) .none)), ((.t 1), (.av (.ptr 1 0) .none)), ((.t 7), (.av (.int .i64 i2) .none)), ((.t 6), (.av (.str s3) .none)), ((.o 1), (.obj [((.int .i64 i4), .none), ((.str s5), .none), ((.str s6), .none), ((.str s7), .none), ((.view 1 xs8), .none), ((.int .i64 i9), .none), ((.int .i64 i10), .none), ((.int .i64 i11), .none)])), ((.l 44), (.flag false)), ((.l 45), (.flag false)), ((.l 46), (.flag false)), ((.l 47), (.flag false)), ((.l 48), (.flag false)), ((.l 49), (.flag false)), ((.l 50), (.flag false)), ((.l 51), (.flag false)), ((.l 52), (.flag false)), ((.l 53), (.flag false)), ((.l 54), (.flag false)), ((.l 55), (.flag false)), ((.l 56), (.flag false)), ((.y 1), (.num 24))]
theorem L_hearsayref25_Print_0_eq (n m0 : Nat) (xs0 : List AV) (i1 : Int) (i2 : Int) (s3 : List UInt8) (s4 : List UInt8) (s5 : List UInt8) (xs6 : List AV) (i7 : Int) (i8 : Int) (i9 : Int) : L_hearsayref25_Print_0 n (m0 + 1) xs0 i1 i2 s3 s4 s5 xs6 i7 i8 i9 =
  bif (decide (i1 < (↑xs0.length : Int))) then bif (decide ((0 : Int) ≤ i1)) then bif (decide (i1 < (↑xs0.length : Int))) then bif (Nat.blt (1 : Nat) ((xs0.getD i1.toNat AV.top).cells.getD []).length) then bif (isI Go.IntKind.i64 (((xs0.getD i1.toNat AV.top).cells.getD []).getD (1 : Nat) AV.top)) then bif (toI (((xs0.getD i1.toNat AV.top).cells.getD []).getD (1 : Nat) AV.top) != i2) then L_hearsayref25_Print_0 n m0 xs0 (Go.IntKind.i64.wrap (i1 + (1 : Int))) i2 s3 s4 s5 xs6 i7 i8 i9
       else bif (decide ((0 : Int) ≤ i1)) then bif (decide (i1 < (↑xs0.length : Int))) then bif (Sp.wide 3 (xs0.getD i1.toNat AV.top)) then bif (Sp.shp [.s, .i .i64, .s] (Sp.cs 3 0 (xs0.getD i1.toNat AV.top))) then bif (Sp.short (Sp.fS 3 0 2 (xs0.getD i1.toNat AV.top))) then bif (!Sp.cleanB (Sp.fS 3 0 2 (xs0.getD i1.toNat AV.top)) s3 s4 s5 xs6 i7 i8 i9) then some (.tup [(.str []), (.bool false)])
             else bif (decide ((0 : Int) ≤ i1)) then bif (decide (i1 < (↑xs0.length : Int))) then bif (Nat.blt (0 : Nat) ((xs0.getD i1.toNat AV.top).cells.getD []).length) then bif (isS (((xs0.getD i1.toNat AV.top).cells.getD []).getD (0 : Nat) AV.top)) then L_hearsayref25_Print_2 n m0 (n + 5) i1 xs0 0 (toS (((xs0.getD i1.toNat AV.top).cells.getD []).getD (0 : Nat) AV.top)) i2 s3 s4 s5 xs6 i7 i8 i9
                 else none
                else none
               else none
              else none
            else none
           else none
          else none
         else none
        else none
      else none
     else none
    else none
   else none
  else some (.tup [(.str []), (.bool false)]) := by unfold L_hearsayref25_Print_0; rw [runL_round]; kernel_rfl
theorem L_hearsayref25_Print_0_zero (n  : Nat) (xs0 : List AV) (i1 : Int) (i2 : Int) (s3 : List UInt8) (s4 : List UInt8) (s5 : List UInt8) (xs6 : List AV) (i7 : Int) (i8 : Int) (i9 : Int) : L_hearsayref25_Print_0 n 0 xs0 i1 i2 s3 s4 s5 xs6 i7 i8 i9 = none := by unfold L_hearsayref25_Print_0; rw [runL_round]; kernel_rfl
theorem L_hearsayref25_Print_2_eq (n m0 m1 : Nat) (i0 : Int) (xs1 : List AV) (i2 : Int) (s3 : List UInt8) (i4 : Int) (s5 : List UInt8) (s6 : List UInt8) (s7 : List UInt8) (xs8 : List AV) (i9 : Int) (i10 : Int) (i11 : Int) : L_hearsayref25_Print_2 n m0 (m1 + 1) i0 xs1 i2 s3 i4 s5 s6 s7 xs8 i9 i10 i11 =
  bif (decide ((0 : Int) ≤ i0)) then bif (decide (i0 < (↑xs1.length : Int))) then bif (Nat.blt (2 : Nat) ((xs1.getD i0.toNat AV.top).cells.getD []).length) then bif (isS (((xs1.getD i0.toNat AV.top).cells.getD []).getD (2 : Nat) AV.top)) then bif (decide (i2 < (↑(toS (((xs1.getD i0.toNat AV.top).cells.getD []).getD (2 : Nat) AV.top)).length : Int))) then bif ((s3.length + (1 : Nat)).ble (9223372036854775807 : Nat)) then bif (decide ((0 : Int) ≤ i0)) then bif (decide (i0 < (↑xs1.length : Int))) then bif (Nat.blt (2 : Nat) ((xs1.getD i0.toNat AV.top).cells.getD []).length) then bif (isS (((xs1.getD i0.toNat AV.top).cells.getD []).getD (2 : Nat) AV.top)) then bif (decide ((0 : Int) ≤ i2)) then bif (decide (i2 < (↑(toS (((xs1.getD i0.toNat AV.top).cells.getD []).getD (2 : Nat) AV.top)).length : Int))) then bif (Sp.okD s5 s6 s7 xs8 i9 i10 i11) then bif (((s3 ++ [(32 : UInt8)]).length + (Sp.shownB ((toS (((xs1.getD i0.toNat AV.top).cells.getD []).getD (2 : Nat) AV.top)).getD i2.toNat (0 : UInt8)) s5 s6 s7 xs8 i9 i10 i11).length).ble (9223372036854775807 : Nat)) then L_hearsayref25_Print_2 n m0 m1 i0 xs1 (Go.IntKind.i64.wrap (i2 + (1 : Int))) (s3 ++ [(32 : UInt8)] ++ Sp.shownB ((toS (((xs1.getD i0.toNat AV.top).cells.getD []).getD (2 : Nat) AV.top)).getD i2.toNat (0 : UInt8)) s5 s6 s7 xs8 i9 i10 i11) i4 s5 s6 s7 xs8 i9 i10 i11
               else none
              else none
             else none
            else none
           else none
          else none
         else none
        else none
       else none
      else bif (decide ((↑s3.length : Int) > (65536 : Int))) then some (.tup [(.str []), (.bool false)])
       else some (.tup [(.str s3), (.bool true)])
     else none
    else none
   else none
  else none := by unfold L_hearsayref25_Print_2; rw [runL_round]; kernel_rfl
theorem L_hearsayref25_Print_2_zero (n m0 : Nat) (i0 : Int) (xs1 : List AV) (i2 : Int) (s3 : List UInt8) (i4 : Int) (s5 : List UInt8) (s6 : List UInt8) (s7 : List UInt8) (xs8 : List AV) (i9 : Int) (i10 : Int) (i11 : Int) : L_hearsayref25_Print_2 n m0 0 i0 xs1 i2 s3 i4 s5 s6 s7 xs8 i9 i10 i11 = none := by unfold L_hearsayref25_Print_2; rw [runL_round]; kernel_rfl
theorem e_hearsayref25_Print (n : Nat) (kd : Int) (who : List UInt8) (to : List UInt8) (text : List UInt8) (xs : List AV) (j : Int) (m : Int) (k : Int) : runA Tryd.prog (X 87) (n + 6) 13 [(.agg [(.int .i64 kd), (.str who), (.str to), (.str text), (.view 1 xs), (.int .i64 j), (.int .i64 m), (.int .i64 k)])] =
  L_hearsayref25_Print_0 n (n + 5) [(.agg [(.str [101, 110, 114, 111, 108, 108]), (.int .i64 1), (.str [119])]), (.agg [(.str [97, 115, 115, 101, 114, 116]), (.int .i64 2), (.str [119, 116])]), (.agg [(.str [114, 101, 116, 114, 97, 99, 116]), (.int .i64 3), (.str [119, 116])]), (.agg [(.str [101, 120, 112, 111, 114, 116]), (.int .i64 4), (.str [119, 116, 110])]), (.agg [(.str [105, 109, 112, 111, 114, 116]), (.int .i64 5), (.str [119, 110])]), (.agg [(.str [102, 111, 114, 103, 101, 116]), (.int .i64 6), (.str [119, 116])]), (.agg [(.str [113, 117, 101, 114, 121]), (.int .i64 7), (.str [119, 116, 110])]), (.agg [(.str [97, 115, 107]), (.int .i64 8), (.str [119, 116])]), (.agg [(.str [119, 97, 116, 99, 104]), (.int .i64 9), (.str [119, 116])]), (.agg [(.str [110, 101, 119, 115]), (.int .i64 10), (.str [119, 110])]), (.agg [(.str [119, 104, 121]), (.int .i64 11), (.str [119, 116])]), (.agg [(.str [108, 111, 115, 115]), (.int .i64 12), (.str [119, 111])]), (.agg [(.str [112, 114, 111, 118, 101]), (.int .i64 13), (.str [119, 116, 110])]), (.agg [(.str [115, 104, 111, 119]), (.int .i64 14), (.str [119, 110])]), (.agg [(.str [99, 108, 97, 117, 115, 101, 115]), (.int .i64 15), (.str [119])]), (.agg [(.str [100, 114, 111, 112]), (.int .i64 16), (.str [110])]), (.agg [(.str [99, 111, 112, 121]), (.int .i64 17), (.str [110])]), (.agg [(.str [115, 119, 97, 112]), (.int .i64 18), (.str [110, 109])]), (.agg [(.str [102, 108, 105, 112]), (.int .i64 19), (.str [110, 109, 107])]), (.agg [(.str [99, 117, 116]), (.int .i64 20), (.str [110, 109])]), (.agg [(.str [102, 111, 114, 103, 101]), (.int .i64 21), (.str [98])]), (.agg [(.str [119, 97, 105, 116, 105, 110, 103]), (.int .i64 22), (.str [])]), (.agg [(.str [99, 114, 97, 115, 104]), (.int .i64 23), (.str [119, 109])]), (.agg [(.str [114, 101, 100, 117, 110, 100, 97, 110, 116]), (.int .i64 24), (.str [119])])] 0 kd who to text xs j m k := by kernel_rfl

theorem e_put_raw (n : Nat) (kd : Int) (who : List UInt8) (to : List UInt8) (text : List UInt8) (j : Int) (m : Int) (k : Int) (p : UInt8) (k1 : Int) (t : List UInt8) (v : Int) (a : Int) (e : Int) : runA Tryd.prog (X 79) (n + 3) 40 [(.agg [(.int .i64 kd), (.str who), (.str to), (.str text), (.raw (.slice .none 0 0)), (.int .i64 j), (.int .i64 m), (.int .i64 k)]), (.u8 p), (.agg [(.int .i64 k1), (.str t), (.int .i64 v), (.int .i64 a), (.int .i64 e)])] =
  bif (p == (119 : UInt8)) then some (.agg [(.int .i64 kd), (.str t), (.str to), (.str text), (.raw (.slice .none 0 0)), (.int .i64 j), (.int .i64 m), (.int .i64 k)])
  else bif (p == (111 : UInt8)) then some (.agg [(.int .i64 kd), (.str who), (.str t), (.str text), (.raw (.slice .none 0 0)), (.int .i64 j), (.int .i64 m), (.int .i64 k)])
   else bif (p == (116 : UInt8)) then some (.agg [(.int .i64 kd), (.str who), (.str to), (.str t), (.raw (.slice .none 0 0)), (.int .i64 j), (.int .i64 m), (.int .i64 k)])
    else bif (p == (98 : UInt8)) then some (.agg [(.int .i64 kd), (.str who), (.str to), (.str text), (.view 1 (List.map AV.u8 t)), (.int .i64 j), (.int .i64 m), (.int .i64 k)])
     else bif (p == (110 : UInt8)) then some (.agg [(.int .i64 kd), (.str who), (.str to), (.str text), (.raw (.slice .none 0 0)), (.int .i64 v), (.int .i64 m), (.int .i64 k)])
      else bif (p == (109 : UInt8)) then some (.agg [(.int .i64 kd), (.str who), (.str to), (.str text), (.raw (.slice .none 0 0)), (.int .i64 j), (.int .i64 v), (.int .i64 k)])
       else bif (p == (107 : UInt8)) then some (.agg [(.int .i64 kd), (.str who), (.str to), (.str text), (.raw (.slice .none 0 0)), (.int .i64 j), (.int .i64 m), (.int .i64 v)])
        else some (.agg [(.int .i64 kd), (.str who), (.str to), (.str text), (.raw (.slice .none 0 0)), (.int .i64 j), (.int .i64 m), (.int .i64 k)]) := by kernel_rfl
end Go.Proofs.YtgeheffhdpeddaaDoor.VX

/- PLAIN: the document's own answer of chapter 25 comes to the plain functions. Conditions: as each theorem states. -/
namespace Go.Proofs.YtgeheffhdpeddaaDoor.VX
open Go Go.Proofs Go.Proofs.YtgeheffhdpeddaaDoor Go.RowKit
abbrev RowT := List UInt8 × Int × List UInt8
def rowAV (q : RowT) : AV := .agg [.str q.1, .int .i64 q.2.1, .str q.2.2]
theorem refV_eq : refV = .view 3 (refL.map rowAV) := rfl
theorem getD_row (R : List RowT) (i : Nat) (q : RowT) (r : List RowT) (h : R.drop i = q :: r) : i < R.length ∧ (R.map rowAV).getD i AV.top = rowAV q ∧ R.drop (i + 1) = r := by
  have hl := congrArg List.length h
  simp only [List.length_drop, List.length_cons] at hl
  have hi : i < R.length := by omega
  refine ⟨hi, ?_, ?_⟩
  · have : R[i]? = some q := by
      have := congrArg (fun l => l[0]?) h
      simpa using this
    rw [List.getD_eq_getElem?_getD, List.getElem?_map, this]; rfl
  · have := congrArg (List.drop 1) h
    rw [List.drop_drop] at this
    simpa [Nat.add_comm] using this
theorem getD_tok (l : List Tk.Tok) (i : Nat) (t : Tk.Tok) (r : List Tk.Tok) (h : l.drop i = t :: r) : i < l.length ∧ (l.map tokA).getD i AV.top = tokA t ∧ l.drop (i + 1) = r := by
  have hl := congrArg List.length h
  simp only [List.length_drop, List.length_cons] at hl
  have hi : i < l.length := by omega
  refine ⟨hi, ?_, ?_⟩
  · have : l[i]? = some t := by
      have := congrArg (fun l => l[0]?) h
      simpa using this
    rw [List.getD_eq_getElem?_getD, List.getElem?_map, this]; rfl
  · have := congrArg (List.drop 1) h
    rw [List.drop_drop] at this
    simpa [Nat.add_comm] using this
theorem drop_nil' {α : Type} {l : List α} {i : Nat} (h : l.drop i = []) : l.length ≤ i := by simpa using h
theorem wrap1 {i : Nat} (h : i < 4611686018427387904) : IntKind.i64.wrap ((i : Int) + 1) = ((i + 1 : Nat) : Int) := by rw [wrap_id (by omega) (by omega)]; rfl
/-! Read: the row of the name -/
def pick (b : Bool) (w : List UInt8) : List RowT → RowT → RowT
  | [], c => c
  | q :: l, c => pick b w l (bif b then (bif q.1 == w then q else c) else c)
theorem pick_some : ∀ r ∈ Scr.rows, pick true (Sp.tb r.name) refL ([], 0, []) = (Sp.tb r.name, r.kind, r.parts.map Sp.letter) := by decide +kernel
theorem pick_none (w : List UInt8) : ∀ (l : List RowT) (c : RowT), (∀ q ∈ l, q.1 ≠ w) → pick true w l c = c
  | [], _, _ => rfl
  | q :: l, c, h => by
    have : (q.1 == w) = false := by simpa using h q (by simp)
    rw [pick, this]
    exact pick_none w l c fun q hq => h q (List.mem_cons_of_mem _ hq)
theorem pick_no (w : List UInt8) : ∀ (l : List RowT) (c : RowT), pick false w l c = c
  | [], _ => rfl
  | _ :: l, c => pick_no w l c
theorem refL_names : ∀ q ∈ refL, ∃ r ∈ Scr.rows, r.name = Sp.ints q.1 := by decide +kernel
theorem refL_kinds : ∀ q ∈ refL, ∃ r ∈ Scr.rows, r.kind = q.2.1 := by decide +kernel
theorem byName_no {s : List Int} : ∀ {l : List Scr.Row}, Scr.byName s l = none → ∀ r ∈ l, r.name ≠ s
  | [], _, r, h => by cases h
  | q :: l, h, r, hr => by
    unfold Scr.byName at h
    split at h
    · cases h
    · rcases List.mem_cons.mp hr with rfl | hr
      · assumption
      · exact byName_no h r hr
theorem byKind_no {s : Int} : ∀ {l : List Scr.Row}, Scr.byKind s l = none → ∀ r ∈ l, r.kind ≠ s
  | [], _, r, h => by cases h
  | q :: l, h, r, hr => by
    unfold Scr.byKind at h
    split at h
    · cases h
    · rcases List.mem_cons.mp hr with rfl | hr
      · assumption
      · exact byKind_no h r hr
/-! Read: the parts -/
theorem beq_dec (k c : Int) : (k == c) = decide (k = c) := by by_cases h : k = c <;> simp [h]
theorem fits_letter (p : Scr.P) (k : Int) : Sp.fitsB (Sp.letter p) k = Scr.fits p k := by
  cases p <;> simp [Sp.fitsB, Sp.letter, Scr.fits, beq_dec]
theorem getD_letter (ps : List UInt8) (i : Nat) (c : UInt8) (r : List UInt8) (h : ps.drop i = c :: r) : i < ps.length ∧ ps.getD i 0 = c ∧ ps.drop (i + 1) = r := by
  obtain ⟨h1, h2, h3, _⟩ := drop_cons h
  exact ⟨h1, h2, h3⟩
theorem rows_len : ∀ r ∈ Scr.rows, (r.parts.map Sp.letter).length ≤ 3 ∧ r.kind ≠ 0 := by decide +kernel
theorem srcs_len : ∀ (T : List Tk.Tok) (a b : Int), (∀ t ∈ T, Scr.Src a b t) → (T.length : Int) ≤ Scr.srcs T
  | [], _, _, _ => by simp [Scr.srcs]
  | t :: T, a, b, h => by
    have h1 := (h t (by simp)).one
    have h2 := srcs_len T a b fun u hu => h u (List.mem_cons_of_mem _ hu)
    simp only [Scr.srcs, List.length_cons]
    omega
theorem cut_len {l : List Int} (hb : Tk.bytes l) (he : (Tk.cut 0 0 l).e = 0) : (Tk.cut 0 0 l).l.length ≤ l.length := by
  obtain ⟨h1, h2⟩ := Scr.cut_src _ l 0 (Nat.le_refl _) hb he
  have := srcs_len _ _ _ h1
  omega
end Go.Proofs.YtgeheffhdpeddaaDoor.VX

/- PLAIN: the smaller functions of chapter 25 and the document's Print. Conditions: as each theorem states. -/
namespace Go.Proofs.YtgeheffhdpeddaaDoor.VX
open Go Go.Proofs Go.Proofs.YtgeheffhdpeddaaDoor Go.RowKit
theorem hasB_cons (c : UInt8) (a : UInt8) (l : List UInt8) : Sp.hasB (a :: l) c = (a == c || Sp.hasB l c) := rfl
theorem used_loop (n : Nat) (c : UInt8) (nm : List UInt8) (k : Int) (ps : List UInt8) (hp : ps.length < 68719476736) : ∀ (r : List UInt8) (i m : Nat), ps.drop i = r → i ≤ ps.length → r.length < m →
    L_hearsayref25_used_0 n m c i nm k ps = some (.bool (Sp.hasB r c))
  | [], i, m, hd, hi, hm => by
    obtain ⟨m, rfl⟩ : ∃ k, m = k + 1 := ⟨m - 1, by simp at hm; omega⟩
    have := drop_nil hd hi
    rw [L_hearsayref25_used_0_eq, lt_f (by omega)]; rfl
  | a :: r, i, m, hd, hi, hm => by
    obtain ⟨m, rfl⟩ : ∃ k, m = k + 1 := ⟨m - 1, by simp at hm; omega⟩
    obtain ⟨h1, h2, h3, _⟩ := drop_cons hd
    simp only [List.length_cons] at hm
    rw [L_hearsayref25_used_0_eq, lt_t (by omega), le_t (a := 0) (b := (i : Int)) (by omega), toNat_cast, h2, wrap1 (by omega), used_loop n c nm k ps hp r (i + 1) m h3 (by omega) (by omega), hasB_cons]
    cases a == c <;> rfl
theorem has_loop (n : Nat) (c : UInt8) (ps : List UInt8) (hp : ps.length < 68719476736) : ∀ (r : List UInt8) (i m : Nat), ps.drop i = r → i ≤ ps.length → r.length < m →
    L_hearsaylaw25_has_0 n m c ps i = some (.bool (Sp.hasB r c))
  | [], i, m, hd, hi, hm => by
    obtain ⟨m, rfl⟩ : ∃ k, m = k + 1 := ⟨m - 1, by simp at hm; omega⟩
    have := drop_nil hd hi
    rw [L_hearsaylaw25_has_0_eq, lt_f (by omega)]; rfl
  | a :: r, i, m, hd, hi, hm => by
    obtain ⟨m, rfl⟩ : ∃ k, m = k + 1 := ⟨m - 1, by simp at hm; omega⟩
    obtain ⟨h1, h2, h3, _⟩ := drop_cons hd
    simp only [List.length_cons] at hm
    rw [L_hearsaylaw25_has_0_eq, lt_t (by omega), le_t (a := 0) (b := (i : Int)) (by omega), toNat_cast, h2, wrap1 (by omega), has_loop n c ps hp r (i + 1) m h3 (by omega) (by omega), hasB_cons]
    cases a == c <;> rfl
theorem used_eq (nm : List UInt8) (k : Int) (ps : List UInt8) (c : UInt8) (h : Sp.short ps = true) : ∃ n, runA Tryd.prog (X 85) n 46 [.agg [.str nm, .int .i64 k, .str ps], .u8 c] = some (.bool (Sp.hasB ps c)) := by
  have hp := Sp.short_lt h
  exact ⟨ps.length + 3, (e_hearsayref25_used ps.length nm k ps c).trans (used_loop ps.length c nm k ps hp ps 0 (ps.length + 2) rfl (by omega) (by omega))⟩
theorem has_eq (ps : List UInt8) (c : UInt8) (h : Sp.short ps = true) : ∃ n, runA Tryd.prog (X 99) n 36 [.str ps, .u8 c] = some (.bool (Sp.hasB ps c)) := by
  have hp := Sp.short_lt h
  exact ⟨ps.length + 3, (e_hearsaylaw25_has ps.length ps c).trans (has_loop ps.length c ps hp ps 0 (ps.length + 2) rfl (by omega) (by omega))⟩
theorem line_loop (n : Nat) (s : List UInt8) (hp : s.length < 68719476736) : ∀ (r : List UInt8) (i m : Nat) (acc : List UInt8), s.drop i = r → i ≤ s.length → acc.length ≤ i → r.length < m →
    L_hearsaylaw25_line_0 n m s i (acc.map .u8) = some (.str (acc ++ r.filter fun c => c != 10))
  | [], i, m, acc, hd, hi, ha, hm => by
    obtain ⟨m, rfl⟩ : ∃ k, m = k + 1 := ⟨m - 1, by simp at hm; omega⟩
    have := drop_nil hd hi
    rw [L_hearsaylaw25_line_0_eq, lt_f (by omega), isU8_map, toU8_map]
    simp
  | a :: r, i, m, acc, hd, hi, ha, hm => by
    obtain ⟨m, rfl⟩ : ∃ k, m = k + 1 := ⟨m - 1, by simp at hm; omega⟩
    obtain ⟨h1, h2, h3, _⟩ := drop_cons hd
    simp only [List.length_cons] at hm
    rw [L_hearsaylaw25_line_0_eq, lt_t (by omega), le_t (a := 0) (b := (i : Int)) (by omega), toNat_cast, h2, wrap1 (by omega), room_t (n := (acc.map AV.u8).length + 1) (by simp; omega) (by decide)]
    simp only [cond_true, List.filter_cons]
    cases hc : (a != 10) with
    | true =>
      have := line_loop n s hp r (i + 1) m (acc ++ [a]) h3 (by omega) (by simp; omega) (by omega)
      rw [List.map_append] at this
      simp only [cond_true, if_true]
      refine Eq.trans this ?_
      simp
    | false =>
      simp only [cond_false]
      exact line_loop n s hp r (i + 1) m acc h3 (by omega) (by omega) (by omega)
theorem line_eq (s : List UInt8) (h : Sp.short s = true) : ∃ n, runA Tryd.prog (X 102) n 22 [.str s] = some (.str (s.filter fun c => c != 10)) := by
  have hp := Sp.short_lt h
  exact ⟨s.length + 3, (e_hearsaylaw25_line s.length s).trans (line_loop s.length s hp s 0 (s.length + 2) [] rfl (by omega) (by simp) (by omega))⟩
theorem cut4_eq (s : List UInt8) : runA Tryd.prog (X 100) 3 23 [.str s] = some (.str (s.take 4000)) := by
  rw [e_hearsaylaw25_cut 0 s]
  by_cases h : 4000 < s.length
  · rw [gt_t (a := (s.length : Int)) (b := 4000) (by omega), le_t (a := 4000) (b := (s.length : Int)) (by omega)]; rfl
  · rw [show decide ((s.length : Int) > 4000) = false from decide_eq_false (by omega), List.take_of_length_le (by omega)]; rfl
/-! clean -/
def gA (c short u : Bool) (T : Option AV) : Option AV := bif c then bif short then bif !u then some (.bool false) else T else none else T
def gN (c short u : Bool) (T : Option AV) : Option AV := bif c then T else bif short then bif u then T else some (.bool false) else none
theorem e_clean (nm : List UInt8) (rk : Int) (ps : List UInt8) (kd : Int) (who to text : List UInt8) (xs : List AV) (j m k : Int) : runA Tryd.prog (X 86) 3 31 [.agg [.str nm, .int .i64 rk, .str ps], .agg [.int .i64 kd, .str who, .str to, .str text, .view 1 xs, .int .i64 j, .int .i64 m, .int .i64 k]] =
    gA (!(who == [])) (Sp.short ps) (Sp.hasB ps 119) (gA (!(to == [])) (Sp.short ps) (Sp.hasB ps 111) (gA (!(text == [])) (Sp.short ps) (Sp.hasB ps 116) (gA (decide ((xs.length : Int) > 0)) (Sp.short ps) (Sp.hasB ps 98)
      (gN (j == 0) (Sp.short ps) (Sp.hasB ps 110) (gN (m == 0) (Sp.short ps) (Sp.hasB ps 109) (bif k == 0 then some (.bool true) else bif Sp.short ps then some (.bool (Sp.hasB ps 107)) else none)))))) := by kernel_rfl
theorem clean_eq (nm : List UInt8) (rk : Int) (ps : List UInt8) (kd : Int) (who to text : List UInt8) (xs : List AV) (j m k : Int) (h : Sp.short ps = true) : runA Tryd.prog (X 86) 3 31 [.agg [.str nm, .int .i64 rk, .str ps], .agg [.int .i64 kd, .str who, .str to, .str text, .view 1 xs, .int .i64 j, .int .i64 m, .int .i64 k]] = some (.bool (Sp.cleanB ps who to text xs j m k)) := by
  rw [e_clean, h]
  have hx : decide ((xs.length : Int) > 0) = !xs.isEmpty := by cases xs with | nil => rfl | cons a l => exact decide_eq_true (by simp only [List.length_cons]; omega)
  rw [hx]
  unfold Sp.cleanB gA gN
  cases who == [] <;> cases to == [] <;> cases text == [] <;> cases xs.isEmpty <;> cases Sp.hasB ps 119 <;> cases Sp.hasB ps 111 <;> cases Sp.hasB ps 116 <;> cases Sp.hasB ps 98 <;> simp only [Bool.not_true, Bool.not_false, cond_true, cond_false, Bool.or_true, Bool.or_false, Bool.true_or, Bool.false_or, Bool.true_and, Bool.false_and] <;>
    (cases j == 0 <;> cases m == 0 <;> cases k == 0 <;> cases Sp.hasB ps 110 <;> cases Sp.hasB ps 109 <;> rfl)
/-! shown, Print -/
theorem shown_eq {d : DV} (h : d.ok = true) (p : UInt8) : runA Tryd.prog (X 84) 3 32 [d.av, .u8 p] = some (.str (Sp.shownB p d.who d.to d.text d.xs d.n d.m d.k)) := by
  have h := DV.ok_of h
  obtain ⟨s1, s2, s3, s4⟩ := short_of h
  have s4 : Sp.short (List.map toU8 d.xs) = true := s4
  refine (e_hearsayref25_shown 0 d.kd d.who d.to d.text d.xs d.n d.m d.k p).trans ?_
  rw [s1, s2, s3, s4, h.u8, h.n, h.m, h.k]
  unfold Sp.shownB
  cases p == 119 <;> cases p == 111 <;> cases p == 116 <;> cases p == 98 <;> cases p == 110 <;> cases p == 109 <;> rfl
theorem shown_letter (d : DV) (p : Scr.P) : Sp.shownB (Sp.letter p) d.who d.to d.text d.xs d.n d.m d.k = d.say p := by cases p <;> rfl
theorem has_letter (p : Scr.P) : ∀ ps : List Scr.P, Sp.hasB (ps.map Sp.letter) (Sp.letter p) = Scr.has p ps
  | [] => rfl
  | q :: ps => by
    rw [List.map_cons, hasB_cons, has_letter p ps, DV.has_cons]
    congr 1
    cases p <;> cases q <;> rfl
theorem clean_letters (d : DV) (ps : List Scr.P) : Sp.cleanB (ps.map Sp.letter) d.who d.to d.text d.xs d.n d.m d.k = Scr.clean ps d.D := by
  rw [← DV.clears_clean, DV.clears_empty]
  unfold Sp.cleanB
  have e := fun p => has_letter p ps
  rw [show Sp.hasB (ps.map Sp.letter) 119 = _ from e .w, show Sp.hasB (ps.map Sp.letter) 111 = _ from e .o, show Sp.hasB (ps.map Sp.letter) 116 = _ from e .t, show Sp.hasB (ps.map Sp.letter) 98 = _ from e .b, show Sp.hasB (ps.map Sp.letter) 110 = _ from e .n, show Sp.hasB (ps.map Sp.letter) 109 = _ from e .m, show Sp.hasB (ps.map Sp.letter) 107 = _ from e .k]
  simp only [Bool.or_comm]
def endS (s : List UInt8) : Option AV := bif (decide ((s.length : Int) > 65536)) then some (.tup [.str [], .bool false]) else some (.tup [.str s, .bool true])
theorem p2_run (n m0 : Nat) {d : DV} (h : d.ok = true) (R : List RowT) (i : Nat) (q : RowT) (r : List RowT) (hR : R.drop i = q :: r) (hR2 : R.length < 1000) (hq : q.2.2.length ≤ 3) : ∀ (ps : List Scr.P) (j m1 : Nat) (s : List UInt8), q.2.2.drop j = ps.map Sp.letter → j ≤ q.2.2.length → ps.length < m1 → s.length ≤ 100 + j * 17179869187 →
    L_hearsayref25_Print_2 n m0 m1 i (R.map rowAV) j s d.kd d.who d.to d.text d.xs d.n d.m d.k = endS (s ++ Sp.tb (Scr.tailL d.D ps))
  | [], j, m1, s, hd, hj, hm, hs => by
    obtain ⟨m1, rfl⟩ : ∃ k, m1 = k + 1 := ⟨m1 - 1, by simp at hm; omega⟩
    obtain ⟨h1, h2, h3⟩ := getD_row R i q r hR
    have := drop_nil' hd
    rw [L_hearsayref25_Print_2_eq]
    simp only [List.length_map]
    rw [le_t (a := 0) (b := (i : Int)) (by omega), lt_t (a := (i : Int)) (b := (R.length : Int)) (by omega), toNat_cast, h2, show toS (((rowAV q).cells.getD []).getD 2 AV.top) = q.2.2 from rfl, lt_f (a := (j : Int)) (b := (q.2.2.length : Int)) (by omega)]
    simp only [Scr.tailL, Sp.tb, List.map_nil, List.append_nil]
    rfl
  | p :: ps, j, m1, s, hd, hj, hm, hs => by
    obtain ⟨m1, rfl⟩ : ∃ k, m1 = k + 1 := ⟨m1 - 1, by simp at hm; omega⟩
    obtain ⟨h1, h2, h3⟩ := getD_row R i q r hR
    obtain ⟨k1, k2, k3⟩ := getD_letter q.2.2 j _ _ hd
    have hl := DV.say_len d (DV.ok_of h) p
    have hj3 : j ≤ 3 := by omega
    simp only [List.length_cons] at hm
    rw [L_hearsayref25_Print_2_eq]
    simp only [List.length_map]
    rw [le_t (a := 0) (b := (i : Int)) (by omega), lt_t (a := (i : Int)) (b := (R.length : Int)) (by omega), toNat_cast, h2, show toS (((rowAV q).cells.getD []).getD 2 AV.top) = q.2.2 from rfl, lt_t (a := (j : Int)) (b := (q.2.2.length : Int)) (by omega), le_t (a := 0) (b := (j : Int)) (by omega), toNat_cast, k2, show Sp.okD d.who d.to d.text d.xs d.n d.m d.k = true from h, wrap1 (by omega), shown_letter,
      show (s.length + 1).ble 9223372036854775807 = true from Nat.ble_eq_true_of_le (by omega), show ((s ++ [(32 : UInt8)]).length + (d.say p).length).ble 9223372036854775807 = true from Nat.ble_eq_true_of_le (by simp only [List.length_append, List.length_cons, List.length_nil]; omega)]
    refine Eq.trans (b := L_hearsayref25_Print_2 n m0 m1 i (R.map rowAV) ((j + 1 : Nat) : Int) (s ++ [32] ++ d.say p) d.kd d.who d.to d.text d.xs d.n d.m d.k) ?_ ?_
    · kernel_rfl
    · rw [p2_run n m0 h R i q r hR hR2 hq ps (j + 1) m1 (s ++ [32] ++ d.say p) k3 (by omega) (by omega) (by simp only [List.length_append, List.length_cons, List.length_nil]; omega), DV.say_tb d (DV.ok_of h) p, Scr.tailL]
      congr 1
      show _ = s ++ Sp.tb ([32] ++ (Scr.shown d.D p ++ Scr.tailL d.D ps))
      rw [tb_app, tb_app]
      simp [Sp.tb]
def findK (k : Int) : List RowT → Option RowT
  | [] => none
  | q :: l => bif q.2.1 == k then some q else findK k l
theorem findK_some : ∀ r ∈ Scr.rows, findK r.kind refL = some (Sp.tb r.name, r.kind, r.parts.map Sp.letter) := by decide +kernel
theorem findK_none (k : Int) : ∀ l : List RowT, (∀ q ∈ l, q.2.1 ≠ k) → findK k l = none
  | [], _ => rfl
  | q :: l, h => by
    have : (q.2.1 == k) = false := by simpa using h q (by simp)
    rw [findK, this]
    exact findK_none k l fun q hq => h q (List.mem_cons_of_mem _ hq)
noncomputable def foundP (n : Nat) (d : DV) : Option RowT → Option AV
  | none => some (.tup [.str [], .bool false])
  | some q => bif (!Sp.cleanB q.2.2 d.who d.to d.text d.xs d.n d.m d.k) then some (.tup [.str [], .bool false]) else endS (q.1 ++ Sp.tb (Scr.tailL d.D (Scr.partsOf q.2.1)))
theorem refL_fine : ∀ q ∈ refL, q.1.length ≤ 100 ∧ q.2.2.length ≤ 3 ∧ q.2.2 = (Scr.partsOf q.2.1).map Sp.letter := by decide +kernel
theorem p0_run (n : Nat) {d : DV} (h : d.ok = true) (R : List RowT) (hR : R.length < 1000) (hf : ∀ q ∈ R, q.1.length ≤ 100 ∧ q.2.2.length ≤ 3 ∧ q.2.2 = (Scr.partsOf q.2.1).map Sp.letter) : ∀ (r : List RowT) (i m : Nat), R.drop i = r → i ≤ R.length → r.length < m →
    L_hearsayref25_Print_0 n m (R.map rowAV) i d.kd d.who d.to d.text d.xs d.n d.m d.k = foundP n d (findK d.kd r)
  | [], i, m, hd, hi, hm => by
    obtain ⟨m, rfl⟩ : ∃ k, m = k + 1 := ⟨m - 1, by simp at hm; omega⟩
    have := drop_nil' hd
    rw [L_hearsayref25_Print_0_eq, List.length_map, lt_f (by omega)]
    rfl
  | q :: r, i, m, hd, hi, hm => by
    obtain ⟨m, rfl⟩ : ∃ k, m = k + 1 := ⟨m - 1, by simp at hm; omega⟩
    obtain ⟨h1, h2, h3⟩ := getD_row R i q r hd
    have hq : q ∈ R := List.mem_of_mem_drop (i := i) (by rw [hd]; simp)
    obtain ⟨f1, f2, f3⟩ := hf q hq
    simp only [List.length_cons] at hm
    rw [L_hearsayref25_Print_0_eq]
    simp only [List.length_map]
    rw [lt_t (a := (i : Int)) (b := (R.length : Int)) (by omega), le_t (a := 0) (b := (i : Int)) (by omega), toNat_cast, h2, wrap1 (by omega), p0_run n h R hR hf r (i + 1) m h3 (by omega) (by omega), findK]
    have hs : Sp.short q.2.2 = true := decide_eq_true (by omega)
    have hs' : Sp.short (Sp.fS 3 0 2 (rowAV q)) = true := hs
    have e := p2_run n m h R i q r hd hR f2 (Scr.partsOf q.2.1) 0 (n + 5) q.1 f3 (by omega) (by
      have : ((Scr.partsOf q.2.1).map Sp.letter).length ≤ 3 := by rw [← f3]; exact f2
      simp only [List.length_map] at this
      omega) (by omega)
    rw [hs']
    by_cases hk : q.2.1 = d.kd
    · have k1 : (q.2.1 == d.kd) = true := by simp [hk]
      have k2 : (q.2.1 != d.kd) = false := by simp [hk]
      have e' : (bif q.2.1 != d.kd then foundP n d (findK d.kd r) else bif (!Sp.cleanB q.2.2 d.who d.to d.text d.xs d.n d.m d.k) then some (.tup [.str [], .bool false]) else L_hearsayref25_Print_2 n m (n + 5) i (R.map rowAV) ((0 : Nat) : Int) q.1 d.kd d.who d.to d.text d.xs d.n d.m d.k) = foundP n d (bif q.2.1 == d.kd then some q else findK d.kd r) := by
        rw [k1, k2, e]; rfl
      refine Eq.trans ?_ e'
      kernel_rfl
    · have k1 : (q.2.1 == d.kd) = false := by simp [hk]
      have k2 : (q.2.1 != d.kd) = true := by simp [hk]
      have e' : (bif q.2.1 != d.kd then foundP n d (findK d.kd r) else bif (!Sp.cleanB q.2.2 d.who d.to d.text d.xs d.n d.m d.k) then some (.tup [.str [], .bool false]) else L_hearsayref25_Print_2 n m (n + 5) i (R.map rowAV) ((0 : Nat) : Int) q.1 d.kd d.who d.to d.text d.xs d.n d.m d.k) = foundP n d (bif q.2.1 == d.kd then some q else findK d.kd r) := by
        rw [k1, k2]; rfl
      refine Eq.trans ?_ e'
      kernel_rfl
theorem rprint_eq {d : DV} (h : d.ok = true) : ∃ n, runA Tryd.prog (X 87) n 13 [d.av] = some (.tup [.str (Sp.printT d.D), .bool (Sp.printOk d.D)]) := by
  refine ⟨30 + 6, ?_⟩
  refine (e_hearsayref25_Print 30 d.kd d.who d.to d.text d.xs d.n d.m d.k).trans ?_
  have e := p0_run 30 h refL (by decide) refL_fine refL 0 (30 + 5) rfl (by decide) (by decide)
  refine Eq.trans (Eq.trans ?_ e) ?_
  · kernel_rfl
  unfold Sp.printT Sp.printOk Scr.print
  have hk0 : d.D.kind = d.kd := rfl
  rw [hk0]
  cases hk : Scr.byKind d.kd Scr.rows with
  | none =>
    rw [findK_none _ _ (fun q hq hh => by
      obtain ⟨r, hr, e⟩ := refL_kinds q hq
      exact byKind_no hk r hr (e.trans hh))]
    rfl
  | some r =>
    obtain ⟨hr, hkk⟩ := Scr.byKind_mem hk
    have hp : Scr.partsOf r.kind = r.parts := by
      unfold Scr.partsOf
      rw [Scr.kind_own hr]; rfl
    rw [← hkk, findK_some r hr]
    simp only [foundP, hp, clean_letters]
    have hlen : (Sp.tb r.name ++ Sp.tb (Scr.tailL d.D r.parts)) = Sp.tb (Scr.line r d.D) := by unfold Scr.line; rw [tb_app]
    rw [hlen]
    unfold endS
    rw [tb_len]
    by_cases hc : Scr.clean r.parts d.D = true
    · rw [hc]
      simp only [Bool.not_true, cond_false, true_and]
      by_cases hl : (Scr.line r d.D).length ≤ 65536
      · rw [show decide ((((Scr.line r d.D).length : Nat) : Int) > 65536) = false from decide_eq_false (by omega), if_pos hl]; rfl
      · rw [show decide ((((Scr.line r d.D).length : Nat) : Int) > 65536) = true from decide_eq_true (by omega), if_neg hl]; rfl
    · have hc' : Scr.clean r.parts d.D = false := by simpa using hc
      rw [hc']
      simp; rfl
end Go.Proofs.YtgeheffhdpeddaaDoor.VX

/- PLAIN: steps compared, made, their parts. Conditions: as each theorem states. -/
namespace Go.Proofs.YtgeheffhdpeddaaDoor.VX
open Go Go.Proofs Go.Proofs.YtgeheffhdpeddaaDoor Go.RowKit
theorem ints_inj {a b : List UInt8} : Sp.ints a = Sp.ints b ↔ a = b := ⟨fun h => by have := congrArg Sp.tb h; rwa [Sp.tb_ints, Sp.tb_ints] at this, fun h => by rw [h]⟩
theorem same25_eq (d e : DV) (h1 : d.xs.all isU8 = true) (h2 : e.xs.all isU8 = true) : runA Tryd.prog (X 96) 3 16 [d.av, e.av] = some (.bool (decide (d.D = e.D))) := by
  refine (e_hearsaylaw25_same 0 d.kd d.who d.to d.text d.xs d.n d.m d.k e.kd e.who e.to e.text e.xs e.n e.m e.k).trans ?_
  rw [h1, h2]
  have hD : d.D = e.D ↔ d.kd = e.kd ∧ d.who = e.who ∧ d.to = e.to ∧ d.text = e.text ∧ Sp.bys d.xs = Sp.bys e.xs ∧ d.n = e.n ∧ d.m = e.m ∧ d.k = e.k := by
    unfold DV.D Sp.dO
    rw [Scr.D.mk.injEq, ints_inj, ints_inj, ints_inj, ints_inj]
  by_cases c1 : d.kd = e.kd
  · rw [show (d.kd != e.kd) = false from by simp [c1]]
    by_cases c2 : d.who = e.who
    · rw [show (!(d.who == e.who)) = false from by simp [c2]]
      by_cases c3 : d.to = e.to
      · rw [show (!(d.to == e.to)) = false from by simp [c3]]
        by_cases c4 : d.text = e.text
        · rw [show (!(d.text == e.text)) = false from by simp [c4]]
          by_cases c5 : Sp.bys d.xs = Sp.bys e.xs
          · have c5' : List.map toU8 d.xs = List.map toU8 e.xs := c5
            rw [show (!(List.map toU8 d.xs == List.map toU8 e.xs)) = false from by simp [c5']]
            by_cases c6 : d.n = e.n
            · rw [show (d.n == e.n) = true from by simp [c6]]
              by_cases c7 : d.m = e.m
              · rw [show (d.m == e.m) = true from by simp [c7]]
                by_cases c8 : d.k = e.k
                · rw [show (d.k == e.k) = true from by simp [c8], decide_eq_true (hD.mpr ⟨c1, c2, c3, c4, c5, c6, c7, c8⟩)]; rfl
                · rw [show (d.k == e.k) = false from by simp [c8], decide_eq_false (fun h => c8 (hD.mp h).2.2.2.2.2.2.2)]; rfl
              · rw [show (d.m == e.m) = false from by simp [c7], decide_eq_false (fun h => c7 (hD.mp h).2.2.2.2.2.2.1)]; rfl
            · rw [show (d.n == e.n) = false from by simp [c6], decide_eq_false (fun h => c6 (hD.mp h).2.2.2.2.2.1)]; rfl
          · have c5' : ¬ List.map toU8 d.xs = List.map toU8 e.xs := c5
            rw [show (!(List.map toU8 d.xs == List.map toU8 e.xs)) = true from by simp [c5'], decide_eq_false (fun h => c5 (hD.mp h).2.2.2.2.1)]; rfl
        · rw [show (!(d.text == e.text)) = true from by simp [c4], decide_eq_false (fun h => c4 (hD.mp h).2.2.2.1)]; rfl
      · rw [show (!(d.to == e.to)) = true from by simp [c3], decide_eq_false (fun h => c3 (hD.mp h).2.2.1)]; rfl
    · rw [show (!(d.who == e.who)) = true from by simp [c2], decide_eq_false (fun h => c2 (hD.mp h).2.1)]; rfl
  · rw [show (d.kd != e.kd) = true from by simp [c1], decide_eq_false (fun h => c1 (hD.mp h).1)]; rfl
theorem e_same_raw (kd : Int) (who to text : List UInt8) (xs : List AV) (j m k : Int) (kd' : Int) (who' to' text' : List UInt8) (j' m' k' : Int) : runA Tryd.prog (X 96) 3 16 [.agg [.int .i64 kd, .str who, .str to, .str text, .view 1 xs, .int .i64 j, .int .i64 m, .int .i64 k], .agg [.int .i64 kd', .str who', .str to', .str text', .raw (.slice none 0 0), .int .i64 j', .int .i64 m', .int .i64 k']] =
  bif (kd != kd') then some (.bool false) else bif (!who == who') then some (.bool false) else bif (!to == to') then some (.bool false) else bif (!text == text') then some (.bool false) else
  bif (xs.all isU8) then bif (!List.map toU8 xs == []) then some (.bool false) else bif (j == j') then bif (m == m') then some (.bool (k == k')) else some (.bool false) else some (.bool false) else none := by kernel_rfl
theorem same25_raw (d e : DV) (h1 : d.xs.all isU8 = true) (h2 : e.xs = []) : runA Tryd.prog (X 96) 3 16 [d.av, .agg [.int .i64 e.kd, .str e.who, .str e.to, .str e.text, .raw (.slice none 0 0), .int .i64 e.n, .int .i64 e.m, .int .i64 e.k]] = some (.bool (decide (d.D = e.D))) := by
  refine (e_same_raw d.kd d.who d.to d.text d.xs d.n d.m d.k e.kd e.who e.to e.text e.n e.m e.k).trans ?_
  rw [h1]
  have hD : d.D = e.D ↔ d.kd = e.kd ∧ d.who = e.who ∧ d.to = e.to ∧ d.text = e.text ∧ Sp.bys d.xs = Sp.bys e.xs ∧ d.n = e.n ∧ d.m = e.m ∧ d.k = e.k := by
    unfold DV.D Sp.dO
    rw [Scr.D.mk.injEq, ints_inj, ints_inj, ints_inj, ints_inj]
  by_cases c1 : d.kd = e.kd
  · rw [show (d.kd != e.kd) = false from by simp [c1]]
    by_cases c2 : d.who = e.who
    · rw [show (!(d.who == e.who)) = false from by simp [c2]]
      by_cases c3 : d.to = e.to
      · rw [show (!(d.to == e.to)) = false from by simp [c3]]
        by_cases c4 : d.text = e.text
        · rw [show (!(d.text == e.text)) = false from by simp [c4]]
          by_cases c5 : Sp.bys d.xs = Sp.bys e.xs
          · have c5' : List.map toU8 d.xs = [] := by have h := c5; rw [h2] at h; exact h
            rw [show (!(List.map toU8 d.xs == [])) = false from by simp [c5']]
            by_cases c6 : d.n = e.n
            · rw [show (d.n == e.n) = true from by simp [c6]]
              by_cases c7 : d.m = e.m
              · rw [show (d.m == e.m) = true from by simp [c7]]
                by_cases c8 : d.k = e.k
                · rw [show (d.k == e.k) = true from by simp [c8], decide_eq_true (hD.mpr ⟨c1, c2, c3, c4, c5, c6, c7, c8⟩)]; rfl
                · rw [show (d.k == e.k) = false from by simp [c8], decide_eq_false (fun h => c8 (hD.mp h).2.2.2.2.2.2.2)]; rfl
              · rw [show (d.m == e.m) = false from by simp [c7], decide_eq_false (fun h => c7 (hD.mp h).2.2.2.2.2.2.1)]; rfl
            · rw [show (d.n == e.n) = false from by simp [c6], decide_eq_false (fun h => c6 (hD.mp h).2.2.2.2.2.1)]; rfl
          · have c5' : ¬ List.map toU8 d.xs = [] := fun h => c5 (by rw [h2]; exact h)
            rw [show (!(List.map toU8 d.xs == [])) = true from by rw [beq_eq_false_iff_ne.mpr c5']; rfl, decide_eq_false (fun h => c5 (hD.mp h).2.2.2.2.1)]; rfl
        · rw [show (!(d.text == e.text)) = true from by simp [c4], decide_eq_false (fun h => c4 (hD.mp h).2.2.2.1)]; rfl
      · rw [show (!(d.to == e.to)) = true from by simp [c3], decide_eq_false (fun h => c3 (hD.mp h).2.2.1)]; rfl
    · rw [show (!(d.who == e.who)) = true from by simp [c2], decide_eq_false (fun h => c2 (hD.mp h).2.1)]; rfl
  · rw [show (d.kd != e.kd) = true from by simp [c1], decide_eq_false (fun h => c1 (hD.mp h).1)]; rfl
/-! made -/
def hA (short u : Bool) (A B : Option AV) : Option AV := bif short then bif u then A else B else none
def mdT (K : Int) (who to text : List UInt8) (xs : List AV) (j m k : Int) : Option AV :=
  hA (Sp.short (Sp.lettersOf K)) (Sp.hasB (Sp.lettersOf K) 119) (m1 (who.take 4000)) (m1 [])
  where
  m1 (w : List UInt8) : Option AV := hA (Sp.short (Sp.lettersOf K)) (Sp.hasB (Sp.lettersOf K) 111) (m2 w (to.take 4000)) (m2 w [])
  m2 (w o : List UInt8) : Option AV := hA (Sp.short (Sp.lettersOf K)) (Sp.hasB (Sp.lettersOf K) 116) (m3 w o (text.take 4000)) (m3 w o [])
  m3 (w o t : List UInt8) : Option AV := hA (Sp.short (Sp.lettersOf K)) (Sp.hasB (Sp.lettersOf K) 98) (bif xs.all isU8 then m4 w o t (.view 1 (((List.map toU8 xs).take 4000).map .u8)) else none) (m4 w o t (.raw (.slice none 0 0)))
  m4 (w o t : List UInt8) (b : AV) : Option AV := hA (Sp.short (Sp.lettersOf K)) (Sp.hasB (Sp.lettersOf K) 110) (m5 w o t b j) (m5 w o t b 0)
  m5 (w o t : List UInt8) (b : AV) (x : Int) : Option AV := hA (Sp.short (Sp.lettersOf K)) (Sp.hasB (Sp.lettersOf K) 109) (m6 w o t b x m) (m6 w o t b x 0)
  m6 (w o t : List UInt8) (b : AV) (x y : Int) : Option AV := hA (Sp.short (Sp.lettersOf K)) (Sp.hasB (Sp.lettersOf K) 107) (some (.agg [.int .i64 K, .str w, .str o, .str t, b, .int .i64 x, .int .i64 y, .int .i64 k])) (some (.agg [.int .i64 K, .str w, .str o, .str t, b, .int .i64 x, .int .i64 y, .int .i64 0]))
def mdK (K : Int) (who to text : List UInt8) (xs : List AV) (j m k : Int) : Option AV := bif (decide (1 ≤ K) && decide (K ≤ 24)) then mdT K who to text xs j m k else none
theorem e_made (kd : Int) (who to text : List UInt8) (xs : List AV) (j m k : Int) : runA Tryd.prog (X 101) 4 17 [.agg [.int .i64 kd, .str who, .str to, .str text, .view 1 xs, .int .i64 j, .int .i64 m, .int .i64 k]] =
    bif (decide (kd.tmod 24 < 0)) then mdK (IntKind.i64.wrap (IntKind.i64.wrap (kd.tmod 24 + 24) + 1)) who to text xs j m k else mdK (IntKind.i64.wrap (kd.tmod 24 + 1)) who to text xs j m k := by kernel_rfl
theorem mdT_eq (K : Int) (who to text : List UInt8) (xs : List AV) (j m k : Int) (hs : Sp.short (Sp.lettersOf K) = true) (hx : xs.all isU8 = true) : mdT K who to text xs j m k =
    some (.agg [.int .i64 K, .str (bif Sp.hasB (Sp.lettersOf K) 119 then who.take 4000 else []), .str (bif Sp.hasB (Sp.lettersOf K) 111 then to.take 4000 else []), .str (bif Sp.hasB (Sp.lettersOf K) 116 then text.take 4000 else []),
      (bif Sp.hasB (Sp.lettersOf K) 98 then .view 1 (((List.map toU8 xs).take 4000).map .u8) else .raw (.slice none 0 0)), .int .i64 (bif Sp.hasB (Sp.lettersOf K) 110 then j else 0), .int .i64 (bif Sp.hasB (Sp.lettersOf K) 109 then m else 0), .int .i64 (bif Sp.hasB (Sp.lettersOf K) 107 then k else 0)]) := by
  unfold mdT mdT.m1 mdT.m2 mdT.m3 mdT.m4 mdT.m5 mdT.m6 hA
  rw [hs, hx]
  generalize Sp.hasB (Sp.lettersOf K) 119 = b1
  generalize Sp.hasB (Sp.lettersOf K) 111 = b2
  generalize Sp.hasB (Sp.lettersOf K) 116 = b3
  generalize Sp.hasB (Sp.lettersOf K) 98 = b4
  generalize Sp.hasB (Sp.lettersOf K) 110 = b5
  generalize Sp.hasB (Sp.lettersOf K) 109 = b6
  generalize Sp.hasB (Sp.lettersOf K) 107 = b7
  cases b1 <;> cases b2 <;> cases b3 <;> cases b4 <;> cases b5 <;> cases b6 <;> cases b7 <;> rfl
theorem bif_if (b : Bool) {α : Type} (x y : α) : (bif b then x else y) = if b = true then x else y := by cases b <;> rfl
theorem tb_if (b : Bool) (x : List UInt8) : (bif b then x.take 4000 else []) = Sp.tb (if b = true then Scr.cut4 (Sp.ints x) else []) := by
  cases b with
  | false => rfl
  | true =>
    simp only [cond_true, if_true]
    unfold Scr.cut4 Sp.ints Sp.tb
    rw [← List.map_take]
    have := Sp.tb_ints (x.take 4000)
    exact this.symm
theorem letters_short (k : Int) : Sp.short (Sp.lettersOf k) = true := by
  refine decide_eq_true ?_
  unfold Sp.lettersOf Scr.partsOf
  cases h : Scr.byKind k Scr.rows with
  | none => simp
  | some r =>
    have := (Scr.rows_small r (Scr.byKind_mem h).1).1
    simp only [Option.map_some, Option.getD_some, List.length_map]
    omega
/-- The answer of made: its bytes may be none. -/
def bytesOf (b : Bool) (xs : List UInt8) : AV := bif b then .view 1 (xs.map .u8) else .raw (.slice none 0 0)
theorem made_eq (d : DV) (hx : d.xs.all isU8 = true) : ∃ v, runA Tryd.prog (X 101) 4 17 [d.av] = some v ∧
    (v = sdo25 (Scr.made d.D) ∨ (v = rawB (Scr.made d.D) ∧ (Scr.made d.D).bytes = [])) := by
  have ek : (bif (decide (d.kd.tmod 24 < 0)) then mdK (IntKind.i64.wrap (IntKind.i64.wrap (d.kd.tmod 24 + 24) + 1)) d.who d.to d.text d.xs d.n d.m d.k else mdK (IntKind.i64.wrap (d.kd.tmod 24 + 1)) d.who d.to d.text d.xs d.n d.m d.k) = mdK (Scr.kindOf d.kd) d.who d.to d.text d.xs d.n d.m d.k := by
    have h1 := Int.tmod_lt_of_pos d.kd (show (0 : Int) < 24 by decide)
    have h2 : -24 < d.kd.tmod 24 := by have := Int.lt_tmod_of_pos d.kd (show (0 : Int) < 24 by decide); omega
    unfold Scr.kindOf
    by_cases hn : d.kd.tmod 24 < 0
    · rw [lt_t hn, if_pos hn, wrap_id (n := d.kd.tmod 24 + 24) (by omega) (by omega), wrap_id (by omega) (by omega)]; rfl
    · rw [lt_f (by omega), cond_false, if_neg hn, wrap_id (by omega) (by omega)]
  have hr := Scr.kindOf_rng d.kd
  have e := (e_made d.kd d.who d.to d.text d.xs d.n d.m d.k).trans ek
  unfold mdK at e
  rw [le_t hr.1, le_t hr.2, Bool.and_self, cond_true, mdT_eq _ _ _ _ _ _ _ _ (letters_short _) hx] at e
  have hl := fun p => has_letter p (Scr.partsOf (Scr.kindOf d.kd))
  refine ⟨_, e, ?_⟩
  have f1 : Sp.hasB (Sp.lettersOf (Scr.kindOf d.kd)) 119 = Scr.has .w (Scr.partsOf (Scr.kindOf d.kd)) := hl .w
  have f2 : Sp.hasB (Sp.lettersOf (Scr.kindOf d.kd)) 111 = Scr.has .o (Scr.partsOf (Scr.kindOf d.kd)) := hl .o
  have f3 : Sp.hasB (Sp.lettersOf (Scr.kindOf d.kd)) 116 = Scr.has .t (Scr.partsOf (Scr.kindOf d.kd)) := hl .t
  have f4 : Sp.hasB (Sp.lettersOf (Scr.kindOf d.kd)) 98 = Scr.has .b (Scr.partsOf (Scr.kindOf d.kd)) := hl .b
  have f5 : Sp.hasB (Sp.lettersOf (Scr.kindOf d.kd)) 110 = Scr.has .n (Scr.partsOf (Scr.kindOf d.kd)) := hl .n
  have f6 : Sp.hasB (Sp.lettersOf (Scr.kindOf d.kd)) 109 = Scr.has .m (Scr.partsOf (Scr.kindOf d.kd)) := hl .m
  have f7 : Sp.hasB (Sp.lettersOf (Scr.kindOf d.kd)) 107 = Scr.has .k (Scr.partsOf (Scr.kindOf d.kd)) := hl .k
  rw [f1, f2, f3, f4, f5, f6, f7, tb_if, tb_if, tb_if, bif_if _ d.n, bif_if _ d.m, bif_if _ d.k]
  cases hb : Scr.has .b (Scr.partsOf (Scr.kindOf d.kd)) with
  | false =>
    refine .inr ⟨?_, ?_⟩
    · unfold rawB Scr.made
      rfl
    · unfold Scr.made
      show (if Scr.has .b (Scr.partsOf (Scr.kindOf d.kd)) = true then _ else []) = []
      rw [hb]; rfl
  | true =>
    refine .inl ?_
    have e4 : ((List.map toU8 d.xs).take 4000) = Sp.tb (if Scr.has .b (Scr.partsOf (Scr.kindOf d.kd)) = true then Scr.cut4 d.D.bytes else []) := by
      have := tb_if true (Sp.bys d.xs)
      rw [hb]
      exact this
    unfold sdo25 Scr.made
    show AV.agg [_, _, _, _, AV.view 1 (((List.map toU8 d.xs).take 4000).map .u8), _, _, _] = _
    rw [e4]
    rfl
end Go.Proofs.YtgeheffhdpeddaaDoor.VX
