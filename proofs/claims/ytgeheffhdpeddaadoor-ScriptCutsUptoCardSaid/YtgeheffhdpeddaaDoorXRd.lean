/-
  Texts laid together: EQUATIONS of script; PLAIN; PLAIN. Conditions: as each theorem states.
-/
import Derived.Test.YtgeheffhdpeddaaDoorXExD
import Derived.Test.YtgeheffhdpeddaaDoorTie
import Derived.Test.YtgeheffhdpeddaaDoorXCon
import Derived.Test.YtgeheffhdpeddaaDoorXPlS
/- EQUATIONS of script.Read, printed by the tool (wip/tools/VTool.lean.txt; laid by layrd.py). Conditions: none. -/
namespace Go.Proofs.YtgeheffhdpeddaaDoor.VX
open Go Go.Proofs Go.Proofs.YtgeheffhdpeddaaDoor
def zeroDo : AV := .agg [(.int .i64 0), (.str []), (.str []), (.str []), (.raw (.slice .none 0 0)), (.int .i64 0), (.int .i64 0), (.int .i64 0)]
/-- The rows with their parts. -/
def rowsQ : List (List UInt8 × Int × Nat × List Scr.P) := [
  ([101, 110, 114, 111, 108, 108], 1, 126, [.w]),
  ([97, 115, 115, 101, 114, 116], 2, 128, [.w, .t]),
  ([114, 101, 116, 114, 97, 99, 116], 3, 130, [.w, .t]),
  ([101, 120, 112, 111, 114, 116], 4, 131, [.w, .t, .n]),
  ([105, 109, 112, 111, 114, 116], 5, 133, [.w, .n]),
  ([102, 111, 114, 103, 101, 116], 6, 134, [.w, .t]),
  ([113, 117, 101, 114, 121], 7, 135, [.w, .t, .n]),
  ([97, 115, 107], 8, 136, [.w, .t]),
  ([119, 97, 116, 99, 104], 9, 137, [.w, .t]),
  ([110, 101, 119, 115], 10, 138, [.w, .n]),
  ([119, 104, 121], 11, 139, [.w, .t]),
  ([108, 111, 115, 115], 12, 140, [.w, .o]),
  ([112, 114, 111, 118, 101], 13, 142, [.w, .t, .n]),
  ([115, 104, 111, 119], 14, 143, [.w, .n]),
  ([99, 108, 97, 117, 115, 101, 115], 15, 144, [.w]),
  ([114, 101, 100, 117, 110, 100, 97, 110, 116], 24, 145, [.w]),
  ([100, 114, 111, 112], 16, 146, [.n]),
  ([99, 111, 112, 121], 17, 147, [.n]),
  ([115, 119, 97, 112], 18, 148, [.n, .m]),
  ([102, 108, 105, 112], 19, 150, [.n, .m, .k]),
  ([99, 117, 116], 20, 152, [.n, .m]),
  ([102, 111, 114, 103, 101], 21, 153, [.b]),
  ([119, 97, 105, 116, 105, 110, 103], 22, 155, []),
  ([99, 114, 97, 115, 104], 23, 156, [.w, .m])]
noncomputable def L_script_Read_0 (n m0 : Nat) (i0 : Int) (xs1 : List AV) (i2 : Int) (xs3 : List AV) (s4 : List UInt8) (i5 : Int) (s6 : List UInt8) (s7 : List UInt8) (s8 : List UInt8) (i9 : Int) (i10 : Int) (i11 : Int) (i12 : Int) (i13 : Int) (xs14 : List AV) (i15 : Int) (i16 : Int) (s17 : List UInt8) (i18 : Int) (v19 : AV) (i20 : Int) (s21 : List UInt8) (s22 : List UInt8) (s23 : List UInt8) (i24 : Int) (i25 : Int) (i26 : Int) : Option AV := runL Tryd.prog (X 76) (n + 11) 15 [⟨0, m0, [1, 2, 3, 14, 15, 41, 49], 58⟩] [(.x, (.num 92)), ((.t 66), (.av (.int .i64 i0) .none)), ((.t 65), (.av (.view 3 xs1) .none)), ((.t 67), (.av (.int .i64 i2) .none)), ((.t 4), (.av (.ptr 14 0) .none)), ((.t 10), (.av (.view 3 xs3) .none)), ((.t 6), (.av (.fn (.func 33) [] [(.ptr 14 0), (.ptr 1 0)]) .none)), ((.t 9), (.av (.ptr 49 0) .none)), ((.t 2), (.av (.ptr 2 0) .none)), ((.t 3), (.av (.ptr 3 0) .none)), ((.o 1), (.obj [((.str s4), .none)])), ((.o 2), (.obj [((.int .i64 i5), .none), ((.str s6), .none), ((.str s7), .none), ((.str s8), .none), ((.raw (.slice .none 0 0)), .none), ((.int .i64 i9), .none), ((.int .i64 i10), .none), ((.int .i64 i11), .none)])), ((.o 3), (.obj [((.int .i64 i12), .none), ((.int .i64 i13), .none)])), ((.o 14), (.obj [((.view 5 xs14), .none)])), ((.o 15), (.obj [((.int .i64 i15), .none), ((.int .i64 i16), .none)])), ((.o 41), (.obj [((.str s17), .none), ((.int .i64 i18), .none), (v19, .none)])), ((.o 49), (.obj [((.int .i64 i20), .none), ((.str s21), .none), ((.str s22), .none), ((.str s23), .none), ((.raw (.slice .none 0 0)), .none), ((.int .i64 i24), .none), ((.int .i64 i25), .none), ((.int .i64 i26), .none)])), ((.l 58), (.flag false)), ((.l 59), (.flag false)), ((.l 60), (.flag false)), ((.l 61), (.flag false)), ((.l 62), (.flag false)), ((.l 63), (.flag false)), ((.l 64), (.flag false)), ((.l 65), (.flag false)), ((.l 66), (.flag false)), ((.l 67), (.flag false)), ((.l 68), (.flag false)), ((.l 69), (.flag false)), ((.l 70), (.flag false)), ((.l 71), (.flag false)), ((.l 72), (.flag false)), ((.l 73), (.flag false)), ((.l 74), (.flag false)), ((.l 75), (.flag false)), ((.l 76), (.flag false)), ((.l 77), (.flag false)), ((.l 78), (.flag false)), ((.l 79), (.flag false)), ((.l 80), (.flag false)), ((.l 81), (.flag false)), ((.l 82), (.flag false)), ((.l 83), (.flag false)), ((.l 84), (.flag false)), ((.l 85), (.flag false)), ((.l 86), (.flag false)), ((.l 87), (.flag false)), ((.l 88), (.flag false)), ((.l 89), (.flag false)), ((.l 90), (.flag false)), ((.l 91), (.flag false)), ((.y 1), (.num 9)), ((.y 2), (.num 24)), ((.y 3), (.num 32)), ((.y 14), (.num 40)), ((.y 15), (.num 32)), ((.y 41), (.num 55)), ((.y 49), (.num 24))]
noncomputable def L_script_Read_0_1 (n m0 : Nat) (i0 : Int) (xs1 : List AV) (i2 : Int) (xs3 : List AV) (s4 : List UInt8) (i5 : Int) (s6 : List UInt8) (s7 : List UInt8) (s8 : List UInt8) (i9 : Int) (i10 : Int) (i11 : Int) (i12 : Int) (i13 : Int) (xs14 : List AV) (i15 : Int) (i16 : Int) (s17 : List UInt8) (i18 : Int) (v19 : AV) (i20 : Int) (s21 : List UInt8) (s22 : List UInt8) (s23 : List UInt8) (xs24 : List AV) (i25 : Int) (i26 : Int) (i27 : Int) : Option AV := runL Tryd.prog (X 76) (n + 11) 15 [⟨0, m0, [1, 2, 3, 14, 15, 41, 49], 58⟩] [(.x, (.num 92)), ((.t 66), (.av (.int .i64 i0) .none)), ((.t 65), (.av (.view 3 xs1) .none)), ((.t 67), (.av (.int .i64 i2) .none)), ((.t 4), (.av (.ptr 14 0) .none)), ((.t 10), (.av (.view 3 xs3) .none)), ((.t 6), (.av (.fn (.func 33) [] [(.ptr 14 0), (.ptr 1 0)]) .none)), ((.t 9), (.av (.ptr 49 0) .none)), ((.t 2), (.av (.ptr 2 0) .none)), ((.t 3), (.av (.ptr 3 0) .none)), ((.o 1), (.obj [((.str s4), .none)])), ((.o 2), (.obj [((.int .i64 i5), .none), ((.str s6), .none), ((.str s7), .none), ((.str s8), .none), ((.raw (.slice .none 0 0)), .none), ((.int .i64 i9), .none), ((.int .i64 i10), .none), ((.int .i64 i11), .none)])), ((.o 3), (.obj [((.int .i64 i12), .none), ((.int .i64 i13), .none)])), ((.o 14), (.obj [((.view 5 xs14), .none)])), ((.o 15), (.obj [((.int .i64 i15), .none), ((.int .i64 i16), .none)])), ((.o 41), (.obj [((.str s17), .none), ((.int .i64 i18), .none), (v19, .none)])), ((.o 49), (.obj [((.int .i64 i20), .none), ((.str s21), .none), ((.str s22), .none), ((.str s23), .none), ((.view 1 xs24), .none), ((.int .i64 i25), .none), ((.int .i64 i26), .none), ((.int .i64 i27), .none)])), ((.l 58), (.flag false)), ((.l 59), (.flag false)), ((.l 60), (.flag false)), ((.l 61), (.flag false)), ((.l 62), (.flag false)), ((.l 63), (.flag false)), ((.l 64), (.flag false)), ((.l 65), (.flag false)), ((.l 66), (.flag false)), ((.l 67), (.flag false)), ((.l 68), (.flag false)), ((.l 69), (.flag false)), ((.l 70), (.flag false)), ((.l 71), (.flag false)), ((.l 72), (.flag false)), ((.l 73), (.flag false)), ((.l 74), (.flag false)), ((.l 75), (.flag false)), ((.l 76), (.flag false)), ((.l 77), (.flag false)), ((.l 78), (.flag false)), ((.l 79), (.flag false)), ((.l 80), (.flag false)), ((.l 81), (.flag false)), ((.l 82), (.flag false)), ((.l 83), (.flag false)), ((.l 84), (.flag false)), ((.l 85), (.flag false)), ((.l 86), (.flag false)), ((.l 87), (.flag false)), ((.l 88), (.flag false)), ((.l 89), (.flag false)), ((.l 90), (.flag false)), ((.l 91), (.flag false)), ((.y 1), (.num 9)), ((.y 2), (.num 24)), ((.y 3), (.num 32)), ((.y 14), (.num 40)), ((.y 15), (.num 32)), ((.y 41), (.num 55)), ((.y 49), (.num 24))]
theorem rd_take_b0 (n m0 : Nat) (i0 : Int) (vs : List AV) (xs3 : List AV) (y0 : AV) (s4 : List UInt8) (i15 : Int) (i16 : Int) (s17 : List UInt8) (i18 : Int) (kf : Nat) (i20 : Int) (s21 : List UInt8) (s22 : List UInt8) (s23 : List UInt8) (i24 : Int) (i25 : Int) (i26 : Int) (k1 : Int) (t1 : List UInt8) (n1 : Int) (a1 : Int) (e1 : Int) (r : List AV) : L_script_Read_0 n (m0 + 1) i0 ((.agg (partP Scr.P.b)) :: vs) 0 xs3 s4 0 [] [] [] 0 0 0 0 0 (y0 :: (.agg [(.int .i64 k1), (.str t1), (.int .i64 n1), (.int .i64 a1), (.int .i64 e1)]) :: r) i15 i16 s17 i18 (.fn (.func kf) [] []) i20 s21 s22 s23 i24 i25 i26 =
  bif (decide ((0 : Int) < i0)) then bif (decide ((0 : Int) < (↑(AV.agg [AV.fn (Go.Fn.func (168 : Nat)) [] [], AV.fn (Go.Fn.func (169 : Nat)) [] [], AV.fn (Go.Fn.func (170 : Nat)) [] []] :: vs).length : Int))) then bif (decide ((1 : Int) < (↑(y0 :: AV.agg [AV.int Go.IntKind.i64 k1, AV.str t1, AV.int Go.IntKind.i64 n1, AV.int Go.IntKind.i64 a1, AV.int Go.IntKind.i64 e1] :: r).length : Int))) then bif (!k1 == (3 : Int)) then bif (decide ((1 : Int) < (↑(y0 :: AV.agg [AV.int Go.IntKind.i64 k1, AV.str t1, AV.int Go.IntKind.i64 n1, AV.int Go.IntKind.i64 a1, AV.int Go.IntKind.i64 e1] :: r).length : Int))) then bif (decide ((1 : Int) < (↑(y0 :: AV.agg [AV.int Go.IntKind.i64 k1, AV.str t1, AV.int Go.IntKind.i64 n1, AV.int Go.IntKind.i64 a1, AV.int Go.IntKind.i64 e1] :: r).length : Int))) then some (.tup [zeroDo, (.agg [(.int .i64 253), (.int .i64 a1)])])
       else none
      else some (.tup [zeroDo, (.agg [(.int .i64 253), (.int .i64 ((↑s4.length : Int)))])])
     else L_script_Read_0_1 n m0 i0 ((.agg [(.fn (.func 168) [] []), (.fn (.func 169) [] []), (.fn (.func 170) [] [])]) :: vs) 1 xs3 s4 0 [] [] [] 0 0 0 0 0 (y0 :: (.agg [(.int .i64 k1), (.str t1), (.int .i64 n1), (.int .i64 a1), (.int .i64 e1)]) :: r) i15 i16 s17 i18 (.fn (.func kf) [] []) i20 s21 s22 s23 (List.map AV.u8 t1) i24 i25 i26
    else none
   else none
  else bif (decide ((↑(y0 :: AV.agg [AV.int Go.IntKind.i64 k1, AV.str t1, AV.int Go.IntKind.i64 n1, AV.int Go.IntKind.i64 a1, AV.int Go.IntKind.i64 e1] :: r).length : Int) > Go.IntKind.i64.wrap ((↑xs3.length : Int) + (1 : Int)))) then bif (decide (Go.IntKind.i64.wrap ((↑xs3.length : Int) + (1 : Int)) < (↑(y0 :: AV.agg [AV.int Go.IntKind.i64 k1, AV.str t1, AV.int Go.IntKind.i64 n1, AV.int Go.IntKind.i64 a1, AV.int Go.IntKind.i64 e1] :: r).length : Int))) then bif (decide ((0 : Int) ≤ Go.IntKind.i64.wrap ((↑xs3.length : Int) + (1 : Int)))) then bif (decide (Go.IntKind.i64.wrap ((↑xs3.length : Int) + (1 : Int)) < (↑(y0 :: AV.agg [AV.int Go.IntKind.i64 k1, AV.str t1, AV.int Go.IntKind.i64 n1, AV.int Go.IntKind.i64 a1, AV.int Go.IntKind.i64 e1] :: r).length : Int))) then bif (Nat.blt (3 : Nat) (((y0 :: AV.agg [AV.int Go.IntKind.i64 k1, AV.str t1, AV.int Go.IntKind.i64 n1, AV.int Go.IntKind.i64 a1, AV.int Go.IntKind.i64 e1] :: r).getD (Go.IntKind.i64.wrap ((↑xs3.length : Int) + (1 : Int))).toNat AV.top).cells.getD []).length) then bif (isI Go.IntKind.i64 ((((y0 :: AV.agg [AV.int Go.IntKind.i64 k1, AV.str t1, AV.int Go.IntKind.i64 n1, AV.int Go.IntKind.i64 a1, AV.int Go.IntKind.i64 e1] :: r).getD (Go.IntKind.i64.wrap ((↑xs3.length : Int) + (1 : Int))).toNat AV.top).cells.getD []).getD (3 : Nat) AV.top)) then some (.tup [zeroDo, (.agg [(.int .i64 253), (.int .i64 (toI ((((y0 :: AV.agg [AV.int Go.IntKind.i64 k1, AV.str t1, AV.int Go.IntKind.i64 n1, AV.int Go.IntKind.i64 a1, AV.int Go.IntKind.i64 e1] :: r).getD (Go.IntKind.i64.wrap ((↑xs3.length : Int) + (1 : Int))).toNat AV.top).cells.getD []).getD (3 : Nat) AV.top)))])])
        else none
       else none
      else none
     else none
    else some (.tup [zeroDo, (.agg [(.int .i64 253), (.int .i64 ((↑s4.length : Int)))])])
   else some (.tup [(.agg [(.int .i64 i20), (.str s21), (.str s22), (.str s23), (.raw (.slice .none 0 0)), (.int .i64 i24), (.int .i64 i25), (.int .i64 i26)]), (.agg [(.int .i64 0), (.int .i64 0)])]) := by unfold L_script_Read_0; rw [runL_round]; kernel_rfl
theorem rd_take_w0 (n m0 : Nat) (i0 : Int) (vs : List AV) (xs3 : List AV) (y0 : AV) (s4 : List UInt8) (i15 : Int) (i16 : Int) (s17 : List UInt8) (i18 : Int) (kf : Nat) (i20 : Int) (s21 : List UInt8) (s22 : List UInt8) (s23 : List UInt8) (i24 : Int) (i25 : Int) (i26 : Int) (k1 : Int) (t1 : List UInt8) (n1 : Int) (a1 : Int) (e1 : Int) (r : List AV) : L_script_Read_0 n (m0 + 1) i0 ((.agg (partP Scr.P.w)) :: vs) 0 xs3 s4 0 [] [] [] 0 0 0 0 0 (y0 :: (.agg [(.int .i64 k1), (.str t1), (.int .i64 n1), (.int .i64 a1), (.int .i64 e1)]) :: r) i15 i16 s17 i18 (.fn (.func kf) [] []) i20 s21 s22 s23 i24 i25 i26 =
  bif (decide ((0 : Int) < i0)) then bif (decide ((0 : Int) < (↑(AV.agg [AV.fn (Go.Fn.func (171 : Nat)) [] [AV.cptr [AV.fn (Go.Fn.func (158 : Nat)) [] []] (0 : Nat)], AV.fn (Go.Fn.func (172 : Nat)) [] [AV.cptr [AV.fn (Go.Fn.func (158 : Nat)) [] []] (0 : Nat)], AV.fn (Go.Fn.func (174 : Nat)) [] [AV.cptr [AV.fn (Go.Fn.func (158 : Nat)) [] []] (0 : Nat)]] :: vs).length : Int))) then bif (decide ((1 : Int) < (↑(y0 :: AV.agg [AV.int Go.IntKind.i64 k1, AV.str t1, AV.int Go.IntKind.i64 n1, AV.int Go.IntKind.i64 a1, AV.int Go.IntKind.i64 e1] :: r).length : Int))) then bif (k1 == (1 : Int)) then L_script_Read_0 n m0 i0 ((.agg [(.fn (.func 171) [] [(.cptr [(.fn (.func 158) [] [])] 0)]), (.fn (.func 172) [] [(.cptr [(.fn (.func 158) [] [])] 0)]), (.fn (.func 174) [] [(.cptr [(.fn (.func 158) [] [])] 0)])]) :: vs) 1 xs3 s4 0 [] [] [] 0 0 0 0 0 (y0 :: (.agg [(.int .i64 k1), (.str t1), (.int .i64 n1), (.int .i64 a1), (.int .i64 e1)]) :: r) i15 i16 s17 i18 (.fn (.func kf) [] []) i20 t1 s22 s23 i24 i25 i26
     else bif (!k1 == (3 : Int)) then bif (decide ((1 : Int) < (↑(y0 :: AV.agg [AV.int Go.IntKind.i64 k1, AV.str t1, AV.int Go.IntKind.i64 n1, AV.int Go.IntKind.i64 a1, AV.int Go.IntKind.i64 e1] :: r).length : Int))) then bif (decide ((1 : Int) < (↑(y0 :: AV.agg [AV.int Go.IntKind.i64 k1, AV.str t1, AV.int Go.IntKind.i64 n1, AV.int Go.IntKind.i64 a1, AV.int Go.IntKind.i64 e1] :: r).length : Int))) then some (.tup [zeroDo, (.agg [(.int .i64 253), (.int .i64 a1)])])
        else none
       else some (.tup [zeroDo, (.agg [(.int .i64 253), (.int .i64 ((↑s4.length : Int)))])])
      else L_script_Read_0 n m0 i0 ((.agg [(.fn (.func 171) [] [(.cptr [(.fn (.func 158) [] [])] 0)]), (.fn (.func 172) [] [(.cptr [(.fn (.func 158) [] [])] 0)]), (.fn (.func 174) [] [(.cptr [(.fn (.func 158) [] [])] 0)])]) :: vs) 1 xs3 s4 0 [] [] [] 0 0 0 0 0 (y0 :: (.agg [(.int .i64 k1), (.str t1), (.int .i64 n1), (.int .i64 a1), (.int .i64 e1)]) :: r) i15 i16 s17 i18 (.fn (.func kf) [] []) i20 t1 s22 s23 i24 i25 i26
    else none
   else none
  else bif (decide ((↑(y0 :: AV.agg [AV.int Go.IntKind.i64 k1, AV.str t1, AV.int Go.IntKind.i64 n1, AV.int Go.IntKind.i64 a1, AV.int Go.IntKind.i64 e1] :: r).length : Int) > Go.IntKind.i64.wrap ((↑xs3.length : Int) + (1 : Int)))) then bif (decide (Go.IntKind.i64.wrap ((↑xs3.length : Int) + (1 : Int)) < (↑(y0 :: AV.agg [AV.int Go.IntKind.i64 k1, AV.str t1, AV.int Go.IntKind.i64 n1, AV.int Go.IntKind.i64 a1, AV.int Go.IntKind.i64 e1] :: r).length : Int))) then bif (decide ((0 : Int) ≤ Go.IntKind.i64.wrap ((↑xs3.length : Int) + (1 : Int)))) then bif (decide (Go.IntKind.i64.wrap ((↑xs3.length : Int) + (1 : Int)) < (↑(y0 :: AV.agg [AV.int Go.IntKind.i64 k1, AV.str t1, AV.int Go.IntKind.i64 n1, AV.int Go.IntKind.i64 a1, AV.int Go.IntKind.i64 e1] :: r).length : Int))) then bif (Nat.blt (3 : Nat) (((y0 :: AV.agg [AV.int Go.IntKind.i64 k1, AV.str t1, AV.int Go.IntKind.i64 n1, AV.int Go.IntKind.i64 a1, AV.int Go.IntKind.i64 e1] :: r).getD (Go.IntKind.i64.wrap ((↑xs3.length : Int) + (1 : Int))).toNat AV.top).cells.getD []).length) then bif (isI Go.IntKind.i64 ((((y0 :: AV.agg [AV.int Go.IntKind.i64 k1, AV.str t1, AV.int Go.IntKind.i64 n1, AV.int Go.IntKind.i64 a1, AV.int Go.IntKind.i64 e1] :: r).getD (Go.IntKind.i64.wrap ((↑xs3.length : Int) + (1 : Int))).toNat AV.top).cells.getD []).getD (3 : Nat) AV.top)) then some (.tup [zeroDo, (.agg [(.int .i64 253), (.int .i64 (toI ((((y0 :: AV.agg [AV.int Go.IntKind.i64 k1, AV.str t1, AV.int Go.IntKind.i64 n1, AV.int Go.IntKind.i64 a1, AV.int Go.IntKind.i64 e1] :: r).getD (Go.IntKind.i64.wrap ((↑xs3.length : Int) + (1 : Int))).toNat AV.top).cells.getD []).getD (3 : Nat) AV.top)))])])
        else none
       else none
      else none
     else none
    else some (.tup [zeroDo, (.agg [(.int .i64 253), (.int .i64 ((↑s4.length : Int)))])])
   else some (.tup [(.agg [(.int .i64 i20), (.str s21), (.str s22), (.str s23), (.raw (.slice .none 0 0)), (.int .i64 i24), (.int .i64 i25), (.int .i64 i26)]), (.agg [(.int .i64 0), (.int .i64 0)])]) := by unfold L_script_Read_0; rw [runL_round]; kernel_rfl
theorem rd_take_n0 (n m0 : Nat) (i0 : Int) (vs : List AV) (xs3 : List AV) (y0 : AV) (s4 : List UInt8) (i15 : Int) (i16 : Int) (s17 : List UInt8) (i18 : Int) (kf : Nat) (i20 : Int) (s21 : List UInt8) (s22 : List UInt8) (s23 : List UInt8) (i24 : Int) (i25 : Int) (i26 : Int) (k1 : Int) (t1 : List UInt8) (n1 : Int) (a1 : Int) (e1 : Int) (r : List AV) : L_script_Read_0 n (m0 + 1) i0 ((.agg (partP Scr.P.n)) :: vs) 0 xs3 s4 0 [] [] [] 0 0 0 0 0 (y0 :: (.agg [(.int .i64 k1), (.str t1), (.int .i64 n1), (.int .i64 a1), (.int .i64 e1)]) :: r) i15 i16 s17 i18 (.fn (.func kf) [] []) i20 s21 s22 s23 i24 i25 i26 =
  bif (decide ((0 : Int) < i0)) then bif (decide ((0 : Int) < (↑(AV.agg [AV.fn (Go.Fn.func (175 : Nat)) [] [AV.cptr [AV.fn (Go.Fn.func (164 : Nat)) [] []] (0 : Nat)], AV.fn (Go.Fn.func (176 : Nat)) [] [AV.cptr [AV.fn (Go.Fn.func (164 : Nat)) [] []] (0 : Nat)], AV.fn (Go.Fn.func (178 : Nat)) [] [AV.cptr [AV.fn (Go.Fn.func (164 : Nat)) [] []] (0 : Nat)]] :: vs).length : Int))) then bif (decide ((1 : Int) < (↑(y0 :: AV.agg [AV.int Go.IntKind.i64 k1, AV.str t1, AV.int Go.IntKind.i64 n1, AV.int Go.IntKind.i64 a1, AV.int Go.IntKind.i64 e1] :: r).length : Int))) then bif (!k1 == (4 : Int)) then bif (decide ((1 : Int) < (↑(y0 :: AV.agg [AV.int Go.IntKind.i64 k1, AV.str t1, AV.int Go.IntKind.i64 n1, AV.int Go.IntKind.i64 a1, AV.int Go.IntKind.i64 e1] :: r).length : Int))) then bif (decide ((1 : Int) < (↑(y0 :: AV.agg [AV.int Go.IntKind.i64 k1, AV.str t1, AV.int Go.IntKind.i64 n1, AV.int Go.IntKind.i64 a1, AV.int Go.IntKind.i64 e1] :: r).length : Int))) then some (.tup [zeroDo, (.agg [(.int .i64 253), (.int .i64 a1)])])
       else none
      else some (.tup [zeroDo, (.agg [(.int .i64 253), (.int .i64 ((↑s4.length : Int)))])])
     else L_script_Read_0 n m0 i0 ((.agg [(.fn (.func 175) [] [(.cptr [(.fn (.func 164) [] [])] 0)]), (.fn (.func 176) [] [(.cptr [(.fn (.func 164) [] [])] 0)]), (.fn (.func 178) [] [(.cptr [(.fn (.func 164) [] [])] 0)])]) :: vs) 1 xs3 s4 0 [] [] [] 0 0 0 0 0 (y0 :: (.agg [(.int .i64 k1), (.str t1), (.int .i64 n1), (.int .i64 a1), (.int .i64 e1)]) :: r) i15 i16 s17 i18 (.fn (.func kf) [] []) i20 s21 s22 s23 n1 i25 i26
    else none
   else none
  else bif (decide ((↑(y0 :: AV.agg [AV.int Go.IntKind.i64 k1, AV.str t1, AV.int Go.IntKind.i64 n1, AV.int Go.IntKind.i64 a1, AV.int Go.IntKind.i64 e1] :: r).length : Int) > Go.IntKind.i64.wrap ((↑xs3.length : Int) + (1 : Int)))) then bif (decide (Go.IntKind.i64.wrap ((↑xs3.length : Int) + (1 : Int)) < (↑(y0 :: AV.agg [AV.int Go.IntKind.i64 k1, AV.str t1, AV.int Go.IntKind.i64 n1, AV.int Go.IntKind.i64 a1, AV.int Go.IntKind.i64 e1] :: r).length : Int))) then bif (decide ((0 : Int) ≤ Go.IntKind.i64.wrap ((↑xs3.length : Int) + (1 : Int)))) then bif (decide (Go.IntKind.i64.wrap ((↑xs3.length : Int) + (1 : Int)) < (↑(y0 :: AV.agg [AV.int Go.IntKind.i64 k1, AV.str t1, AV.int Go.IntKind.i64 n1, AV.int Go.IntKind.i64 a1, AV.int Go.IntKind.i64 e1] :: r).length : Int))) then bif (Nat.blt (3 : Nat) (((y0 :: AV.agg [AV.int Go.IntKind.i64 k1, AV.str t1, AV.int Go.IntKind.i64 n1, AV.int Go.IntKind.i64 a1, AV.int Go.IntKind.i64 e1] :: r).getD (Go.IntKind.i64.wrap ((↑xs3.length : Int) + (1 : Int))).toNat AV.top).cells.getD []).length) then bif (isI Go.IntKind.i64 ((((y0 :: AV.agg [AV.int Go.IntKind.i64 k1, AV.str t1, AV.int Go.IntKind.i64 n1, AV.int Go.IntKind.i64 a1, AV.int Go.IntKind.i64 e1] :: r).getD (Go.IntKind.i64.wrap ((↑xs3.length : Int) + (1 : Int))).toNat AV.top).cells.getD []).getD (3 : Nat) AV.top)) then some (.tup [zeroDo, (.agg [(.int .i64 253), (.int .i64 (toI ((((y0 :: AV.agg [AV.int Go.IntKind.i64 k1, AV.str t1, AV.int Go.IntKind.i64 n1, AV.int Go.IntKind.i64 a1, AV.int Go.IntKind.i64 e1] :: r).getD (Go.IntKind.i64.wrap ((↑xs3.length : Int) + (1 : Int))).toNat AV.top).cells.getD []).getD (3 : Nat) AV.top)))])])
        else none
       else none
      else none
     else none
    else some (.tup [zeroDo, (.agg [(.int .i64 253), (.int .i64 ((↑s4.length : Int)))])])
   else some (.tup [(.agg [(.int .i64 i20), (.str s21), (.str s22), (.str s23), (.raw (.slice .none 0 0)), (.int .i64 i24), (.int .i64 i25), (.int .i64 i26)]), (.agg [(.int .i64 0), (.int .i64 0)])]) := by unfold L_script_Read_0; rw [runL_round]; kernel_rfl
theorem rd_take_t1 (n m0 : Nat) (i0 : Int) (vs : List AV) (xs3 : List AV) (u0 : AV) (y0 : AV) (y1 : AV) (s4 : List UInt8) (i15 : Int) (i16 : Int) (s17 : List UInt8) (i18 : Int) (kf : Nat) (i20 : Int) (s21 : List UInt8) (s22 : List UInt8) (s23 : List UInt8) (i24 : Int) (i25 : Int) (i26 : Int) (k1 : Int) (t1 : List UInt8) (n1 : Int) (a1 : Int) (e1 : Int) (r : List AV) : L_script_Read_0 n (m0 + 1) i0 (u0 :: (.agg (partP Scr.P.t)) :: vs) 1 xs3 s4 0 [] [] [] 0 0 0 0 0 (y0 :: y1 :: (.agg [(.int .i64 k1), (.str t1), (.int .i64 n1), (.int .i64 a1), (.int .i64 e1)]) :: r) i15 i16 s17 i18 (.fn (.func kf) [] []) i20 s21 s22 s23 i24 i25 i26 =
  bif (decide ((1 : Int) < i0)) then bif (decide ((1 : Int) < (↑(u0 :: AV.agg [AV.fn (Go.Fn.func (159 : Nat)) [] [], AV.fn (Go.Fn.func (160 : Nat)) [] [], AV.fn (Go.Fn.func (162 : Nat)) [] []] :: vs).length : Int))) then bif (decide ((2 : Int) < (↑(y0 :: y1 :: AV.agg [AV.int Go.IntKind.i64 k1, AV.str t1, AV.int Go.IntKind.i64 n1, AV.int Go.IntKind.i64 a1, AV.int Go.IntKind.i64 e1] :: r).length : Int))) then bif (!k1 == (3 : Int)) then bif (decide ((2 : Int) < (↑(y0 :: y1 :: AV.agg [AV.int Go.IntKind.i64 k1, AV.str t1, AV.int Go.IntKind.i64 n1, AV.int Go.IntKind.i64 a1, AV.int Go.IntKind.i64 e1] :: r).length : Int))) then bif (decide ((2 : Int) < (↑(y0 :: y1 :: AV.agg [AV.int Go.IntKind.i64 k1, AV.str t1, AV.int Go.IntKind.i64 n1, AV.int Go.IntKind.i64 a1, AV.int Go.IntKind.i64 e1] :: r).length : Int))) then some (.tup [zeroDo, (.agg [(.int .i64 253), (.int .i64 a1)])])
       else none
      else some (.tup [zeroDo, (.agg [(.int .i64 253), (.int .i64 ((↑s4.length : Int)))])])
     else L_script_Read_0 n m0 i0 (u0 :: (.agg [(.fn (.func 159) [] []), (.fn (.func 160) [] []), (.fn (.func 162) [] [])]) :: vs) 2 xs3 s4 0 [] [] [] 0 0 0 0 0 (y0 :: y1 :: (.agg [(.int .i64 k1), (.str t1), (.int .i64 n1), (.int .i64 a1), (.int .i64 e1)]) :: r) i15 i16 s17 i18 (.fn (.func kf) [] []) i20 s21 s22 t1 i24 i25 i26
    else none
   else none
  else bif (decide ((↑(y0 :: y1 :: AV.agg [AV.int Go.IntKind.i64 k1, AV.str t1, AV.int Go.IntKind.i64 n1, AV.int Go.IntKind.i64 a1, AV.int Go.IntKind.i64 e1] :: r).length : Int) > Go.IntKind.i64.wrap ((↑xs3.length : Int) + (1 : Int)))) then bif (decide (Go.IntKind.i64.wrap ((↑xs3.length : Int) + (1 : Int)) < (↑(y0 :: y1 :: AV.agg [AV.int Go.IntKind.i64 k1, AV.str t1, AV.int Go.IntKind.i64 n1, AV.int Go.IntKind.i64 a1, AV.int Go.IntKind.i64 e1] :: r).length : Int))) then bif (decide ((0 : Int) ≤ Go.IntKind.i64.wrap ((↑xs3.length : Int) + (1 : Int)))) then bif (decide (Go.IntKind.i64.wrap ((↑xs3.length : Int) + (1 : Int)) < (↑(y0 :: y1 :: AV.agg [AV.int Go.IntKind.i64 k1, AV.str t1, AV.int Go.IntKind.i64 n1, AV.int Go.IntKind.i64 a1, AV.int Go.IntKind.i64 e1] :: r).length : Int))) then bif (Nat.blt (3 : Nat) (((y0 :: y1 :: AV.agg [AV.int Go.IntKind.i64 k1, AV.str t1, AV.int Go.IntKind.i64 n1, AV.int Go.IntKind.i64 a1, AV.int Go.IntKind.i64 e1] :: r).getD (Go.IntKind.i64.wrap ((↑xs3.length : Int) + (1 : Int))).toNat AV.top).cells.getD []).length) then bif (isI Go.IntKind.i64 ((((y0 :: y1 :: AV.agg [AV.int Go.IntKind.i64 k1, AV.str t1, AV.int Go.IntKind.i64 n1, AV.int Go.IntKind.i64 a1, AV.int Go.IntKind.i64 e1] :: r).getD (Go.IntKind.i64.wrap ((↑xs3.length : Int) + (1 : Int))).toNat AV.top).cells.getD []).getD (3 : Nat) AV.top)) then some (.tup [zeroDo, (.agg [(.int .i64 253), (.int .i64 (toI ((((y0 :: y1 :: AV.agg [AV.int Go.IntKind.i64 k1, AV.str t1, AV.int Go.IntKind.i64 n1, AV.int Go.IntKind.i64 a1, AV.int Go.IntKind.i64 e1] :: r).getD (Go.IntKind.i64.wrap ((↑xs3.length : Int) + (1 : Int))).toNat AV.top).cells.getD []).getD (3 : Nat) AV.top)))])])
        else none
       else none
      else none
     else none
    else some (.tup [zeroDo, (.agg [(.int .i64 253), (.int .i64 ((↑s4.length : Int)))])])
   else some (.tup [(.agg [(.int .i64 i20), (.str s21), (.str s22), (.str s23), (.raw (.slice .none 0 0)), (.int .i64 i24), (.int .i64 i25), (.int .i64 i26)]), (.agg [(.int .i64 0), (.int .i64 0)])]) := by unfold L_script_Read_0; rw [runL_round]; kernel_rfl
theorem rd_take_n1 (n m0 : Nat) (i0 : Int) (vs : List AV) (xs3 : List AV) (u0 : AV) (y0 : AV) (y1 : AV) (s4 : List UInt8) (i15 : Int) (i16 : Int) (s17 : List UInt8) (i18 : Int) (kf : Nat) (i20 : Int) (s21 : List UInt8) (s22 : List UInt8) (s23 : List UInt8) (i24 : Int) (i25 : Int) (i26 : Int) (k1 : Int) (t1 : List UInt8) (n1 : Int) (a1 : Int) (e1 : Int) (r : List AV) : L_script_Read_0 n (m0 + 1) i0 (u0 :: (.agg (partP Scr.P.n)) :: vs) 1 xs3 s4 0 [] [] [] 0 0 0 0 0 (y0 :: y1 :: (.agg [(.int .i64 k1), (.str t1), (.int .i64 n1), (.int .i64 a1), (.int .i64 e1)]) :: r) i15 i16 s17 i18 (.fn (.func kf) [] []) i20 s21 s22 s23 i24 i25 i26 =
  bif (decide ((1 : Int) < i0)) then bif (decide ((1 : Int) < (↑(u0 :: AV.agg [AV.fn (Go.Fn.func (175 : Nat)) [] [AV.cptr [AV.fn (Go.Fn.func (164 : Nat)) [] []] (0 : Nat)], AV.fn (Go.Fn.func (176 : Nat)) [] [AV.cptr [AV.fn (Go.Fn.func (164 : Nat)) [] []] (0 : Nat)], AV.fn (Go.Fn.func (178 : Nat)) [] [AV.cptr [AV.fn (Go.Fn.func (164 : Nat)) [] []] (0 : Nat)]] :: vs).length : Int))) then bif (decide ((2 : Int) < (↑(y0 :: y1 :: AV.agg [AV.int Go.IntKind.i64 k1, AV.str t1, AV.int Go.IntKind.i64 n1, AV.int Go.IntKind.i64 a1, AV.int Go.IntKind.i64 e1] :: r).length : Int))) then bif (!k1 == (4 : Int)) then bif (decide ((2 : Int) < (↑(y0 :: y1 :: AV.agg [AV.int Go.IntKind.i64 k1, AV.str t1, AV.int Go.IntKind.i64 n1, AV.int Go.IntKind.i64 a1, AV.int Go.IntKind.i64 e1] :: r).length : Int))) then bif (decide ((2 : Int) < (↑(y0 :: y1 :: AV.agg [AV.int Go.IntKind.i64 k1, AV.str t1, AV.int Go.IntKind.i64 n1, AV.int Go.IntKind.i64 a1, AV.int Go.IntKind.i64 e1] :: r).length : Int))) then some (.tup [zeroDo, (.agg [(.int .i64 253), (.int .i64 a1)])])
       else none
      else some (.tup [zeroDo, (.agg [(.int .i64 253), (.int .i64 ((↑s4.length : Int)))])])
     else L_script_Read_0 n m0 i0 (u0 :: (.agg [(.fn (.func 175) [] [(.cptr [(.fn (.func 164) [] [])] 0)]), (.fn (.func 176) [] [(.cptr [(.fn (.func 164) [] [])] 0)]), (.fn (.func 178) [] [(.cptr [(.fn (.func 164) [] [])] 0)])]) :: vs) 2 xs3 s4 0 [] [] [] 0 0 0 0 0 (y0 :: y1 :: (.agg [(.int .i64 k1), (.str t1), (.int .i64 n1), (.int .i64 a1), (.int .i64 e1)]) :: r) i15 i16 s17 i18 (.fn (.func kf) [] []) i20 s21 s22 s23 n1 i25 i26
    else none
   else none
  else bif (decide ((↑(y0 :: y1 :: AV.agg [AV.int Go.IntKind.i64 k1, AV.str t1, AV.int Go.IntKind.i64 n1, AV.int Go.IntKind.i64 a1, AV.int Go.IntKind.i64 e1] :: r).length : Int) > Go.IntKind.i64.wrap ((↑xs3.length : Int) + (1 : Int)))) then bif (decide (Go.IntKind.i64.wrap ((↑xs3.length : Int) + (1 : Int)) < (↑(y0 :: y1 :: AV.agg [AV.int Go.IntKind.i64 k1, AV.str t1, AV.int Go.IntKind.i64 n1, AV.int Go.IntKind.i64 a1, AV.int Go.IntKind.i64 e1] :: r).length : Int))) then bif (decide ((0 : Int) ≤ Go.IntKind.i64.wrap ((↑xs3.length : Int) + (1 : Int)))) then bif (decide (Go.IntKind.i64.wrap ((↑xs3.length : Int) + (1 : Int)) < (↑(y0 :: y1 :: AV.agg [AV.int Go.IntKind.i64 k1, AV.str t1, AV.int Go.IntKind.i64 n1, AV.int Go.IntKind.i64 a1, AV.int Go.IntKind.i64 e1] :: r).length : Int))) then bif (Nat.blt (3 : Nat) (((y0 :: y1 :: AV.agg [AV.int Go.IntKind.i64 k1, AV.str t1, AV.int Go.IntKind.i64 n1, AV.int Go.IntKind.i64 a1, AV.int Go.IntKind.i64 e1] :: r).getD (Go.IntKind.i64.wrap ((↑xs3.length : Int) + (1 : Int))).toNat AV.top).cells.getD []).length) then bif (isI Go.IntKind.i64 ((((y0 :: y1 :: AV.agg [AV.int Go.IntKind.i64 k1, AV.str t1, AV.int Go.IntKind.i64 n1, AV.int Go.IntKind.i64 a1, AV.int Go.IntKind.i64 e1] :: r).getD (Go.IntKind.i64.wrap ((↑xs3.length : Int) + (1 : Int))).toNat AV.top).cells.getD []).getD (3 : Nat) AV.top)) then some (.tup [zeroDo, (.agg [(.int .i64 253), (.int .i64 (toI ((((y0 :: y1 :: AV.agg [AV.int Go.IntKind.i64 k1, AV.str t1, AV.int Go.IntKind.i64 n1, AV.int Go.IntKind.i64 a1, AV.int Go.IntKind.i64 e1] :: r).getD (Go.IntKind.i64.wrap ((↑xs3.length : Int) + (1 : Int))).toNat AV.top).cells.getD []).getD (3 : Nat) AV.top)))])])
        else none
       else none
      else none
     else none
    else some (.tup [zeroDo, (.agg [(.int .i64 253), (.int .i64 ((↑s4.length : Int)))])])
   else some (.tup [(.agg [(.int .i64 i20), (.str s21), (.str s22), (.str s23), (.raw (.slice .none 0 0)), (.int .i64 i24), (.int .i64 i25), (.int .i64 i26)]), (.agg [(.int .i64 0), (.int .i64 0)])]) := by unfold L_script_Read_0; rw [runL_round]; kernel_rfl
theorem rd_take_o1 (n m0 : Nat) (i0 : Int) (vs : List AV) (xs3 : List AV) (u0 : AV) (y0 : AV) (y1 : AV) (s4 : List UInt8) (i15 : Int) (i16 : Int) (s17 : List UInt8) (i18 : Int) (kf : Nat) (i20 : Int) (s21 : List UInt8) (s22 : List UInt8) (s23 : List UInt8) (i24 : Int) (i25 : Int) (i26 : Int) (k1 : Int) (t1 : List UInt8) (n1 : Int) (a1 : Int) (e1 : Int) (r : List AV) : L_script_Read_0 n (m0 + 1) i0 (u0 :: (.agg (partP Scr.P.o)) :: vs) 1 xs3 s4 0 [] [] [] 0 0 0 0 0 (y0 :: y1 :: (.agg [(.int .i64 k1), (.str t1), (.int .i64 n1), (.int .i64 a1), (.int .i64 e1)]) :: r) i15 i16 s17 i18 (.fn (.func kf) [] []) i20 s21 s22 s23 i24 i25 i26 =
  bif (decide ((1 : Int) < i0)) then bif (decide ((1 : Int) < (↑(u0 :: AV.agg [AV.fn (Go.Fn.func (171 : Nat)) [] [AV.cptr [AV.fn (Go.Fn.func (165 : Nat)) [] []] (0 : Nat)], AV.fn (Go.Fn.func (172 : Nat)) [] [AV.cptr [AV.fn (Go.Fn.func (165 : Nat)) [] []] (0 : Nat)], AV.fn (Go.Fn.func (174 : Nat)) [] [AV.cptr [AV.fn (Go.Fn.func (165 : Nat)) [] []] (0 : Nat)]] :: vs).length : Int))) then bif (decide ((2 : Int) < (↑(y0 :: y1 :: AV.agg [AV.int Go.IntKind.i64 k1, AV.str t1, AV.int Go.IntKind.i64 n1, AV.int Go.IntKind.i64 a1, AV.int Go.IntKind.i64 e1] :: r).length : Int))) then bif (k1 == (1 : Int)) then L_script_Read_0 n m0 i0 (u0 :: (.agg [(.fn (.func 171) [] [(.cptr [(.fn (.func 165) [] [])] 0)]), (.fn (.func 172) [] [(.cptr [(.fn (.func 165) [] [])] 0)]), (.fn (.func 174) [] [(.cptr [(.fn (.func 165) [] [])] 0)])]) :: vs) 2 xs3 s4 0 [] [] [] 0 0 0 0 0 (y0 :: y1 :: (.agg [(.int .i64 k1), (.str t1), (.int .i64 n1), (.int .i64 a1), (.int .i64 e1)]) :: r) i15 i16 s17 i18 (.fn (.func kf) [] []) i20 s21 t1 s23 i24 i25 i26
     else bif (!k1 == (3 : Int)) then bif (decide ((2 : Int) < (↑(y0 :: y1 :: AV.agg [AV.int Go.IntKind.i64 k1, AV.str t1, AV.int Go.IntKind.i64 n1, AV.int Go.IntKind.i64 a1, AV.int Go.IntKind.i64 e1] :: r).length : Int))) then bif (decide ((2 : Int) < (↑(y0 :: y1 :: AV.agg [AV.int Go.IntKind.i64 k1, AV.str t1, AV.int Go.IntKind.i64 n1, AV.int Go.IntKind.i64 a1, AV.int Go.IntKind.i64 e1] :: r).length : Int))) then some (.tup [zeroDo, (.agg [(.int .i64 253), (.int .i64 a1)])])
        else none
       else some (.tup [zeroDo, (.agg [(.int .i64 253), (.int .i64 ((↑s4.length : Int)))])])
      else L_script_Read_0 n m0 i0 (u0 :: (.agg [(.fn (.func 171) [] [(.cptr [(.fn (.func 165) [] [])] 0)]), (.fn (.func 172) [] [(.cptr [(.fn (.func 165) [] [])] 0)]), (.fn (.func 174) [] [(.cptr [(.fn (.func 165) [] [])] 0)])]) :: vs) 2 xs3 s4 0 [] [] [] 0 0 0 0 0 (y0 :: y1 :: (.agg [(.int .i64 k1), (.str t1), (.int .i64 n1), (.int .i64 a1), (.int .i64 e1)]) :: r) i15 i16 s17 i18 (.fn (.func kf) [] []) i20 s21 t1 s23 i24 i25 i26
    else none
   else none
  else bif (decide ((↑(y0 :: y1 :: AV.agg [AV.int Go.IntKind.i64 k1, AV.str t1, AV.int Go.IntKind.i64 n1, AV.int Go.IntKind.i64 a1, AV.int Go.IntKind.i64 e1] :: r).length : Int) > Go.IntKind.i64.wrap ((↑xs3.length : Int) + (1 : Int)))) then bif (decide (Go.IntKind.i64.wrap ((↑xs3.length : Int) + (1 : Int)) < (↑(y0 :: y1 :: AV.agg [AV.int Go.IntKind.i64 k1, AV.str t1, AV.int Go.IntKind.i64 n1, AV.int Go.IntKind.i64 a1, AV.int Go.IntKind.i64 e1] :: r).length : Int))) then bif (decide ((0 : Int) ≤ Go.IntKind.i64.wrap ((↑xs3.length : Int) + (1 : Int)))) then bif (decide (Go.IntKind.i64.wrap ((↑xs3.length : Int) + (1 : Int)) < (↑(y0 :: y1 :: AV.agg [AV.int Go.IntKind.i64 k1, AV.str t1, AV.int Go.IntKind.i64 n1, AV.int Go.IntKind.i64 a1, AV.int Go.IntKind.i64 e1] :: r).length : Int))) then bif (Nat.blt (3 : Nat) (((y0 :: y1 :: AV.agg [AV.int Go.IntKind.i64 k1, AV.str t1, AV.int Go.IntKind.i64 n1, AV.int Go.IntKind.i64 a1, AV.int Go.IntKind.i64 e1] :: r).getD (Go.IntKind.i64.wrap ((↑xs3.length : Int) + (1 : Int))).toNat AV.top).cells.getD []).length) then bif (isI Go.IntKind.i64 ((((y0 :: y1 :: AV.agg [AV.int Go.IntKind.i64 k1, AV.str t1, AV.int Go.IntKind.i64 n1, AV.int Go.IntKind.i64 a1, AV.int Go.IntKind.i64 e1] :: r).getD (Go.IntKind.i64.wrap ((↑xs3.length : Int) + (1 : Int))).toNat AV.top).cells.getD []).getD (3 : Nat) AV.top)) then some (.tup [zeroDo, (.agg [(.int .i64 253), (.int .i64 (toI ((((y0 :: y1 :: AV.agg [AV.int Go.IntKind.i64 k1, AV.str t1, AV.int Go.IntKind.i64 n1, AV.int Go.IntKind.i64 a1, AV.int Go.IntKind.i64 e1] :: r).getD (Go.IntKind.i64.wrap ((↑xs3.length : Int) + (1 : Int))).toNat AV.top).cells.getD []).getD (3 : Nat) AV.top)))])])
        else none
       else none
      else none
     else none
    else some (.tup [zeroDo, (.agg [(.int .i64 253), (.int .i64 ((↑s4.length : Int)))])])
   else some (.tup [(.agg [(.int .i64 i20), (.str s21), (.str s22), (.str s23), (.raw (.slice .none 0 0)), (.int .i64 i24), (.int .i64 i25), (.int .i64 i26)]), (.agg [(.int .i64 0), (.int .i64 0)])]) := by unfold L_script_Read_0; rw [runL_round]; kernel_rfl
theorem rd_take_m1 (n m0 : Nat) (i0 : Int) (vs : List AV) (xs3 : List AV) (u0 : AV) (y0 : AV) (y1 : AV) (s4 : List UInt8) (i15 : Int) (i16 : Int) (s17 : List UInt8) (i18 : Int) (kf : Nat) (i20 : Int) (s21 : List UInt8) (s22 : List UInt8) (s23 : List UInt8) (i24 : Int) (i25 : Int) (i26 : Int) (k1 : Int) (t1 : List UInt8) (n1 : Int) (a1 : Int) (e1 : Int) (r : List AV) : L_script_Read_0 n (m0 + 1) i0 (u0 :: (.agg (partP Scr.P.m)) :: vs) 1 xs3 s4 0 [] [] [] 0 0 0 0 0 (y0 :: y1 :: (.agg [(.int .i64 k1), (.str t1), (.int .i64 n1), (.int .i64 a1), (.int .i64 e1)]) :: r) i15 i16 s17 i18 (.fn (.func kf) [] []) i20 s21 s22 s23 i24 i25 i26 =
  bif (decide ((1 : Int) < i0)) then bif (decide ((1 : Int) < (↑(u0 :: AV.agg [AV.fn (Go.Fn.func (175 : Nat)) [] [AV.cptr [AV.fn (Go.Fn.func (166 : Nat)) [] []] (0 : Nat)], AV.fn (Go.Fn.func (176 : Nat)) [] [AV.cptr [AV.fn (Go.Fn.func (166 : Nat)) [] []] (0 : Nat)], AV.fn (Go.Fn.func (178 : Nat)) [] [AV.cptr [AV.fn (Go.Fn.func (166 : Nat)) [] []] (0 : Nat)]] :: vs).length : Int))) then bif (decide ((2 : Int) < (↑(y0 :: y1 :: AV.agg [AV.int Go.IntKind.i64 k1, AV.str t1, AV.int Go.IntKind.i64 n1, AV.int Go.IntKind.i64 a1, AV.int Go.IntKind.i64 e1] :: r).length : Int))) then bif (!k1 == (4 : Int)) then bif (decide ((2 : Int) < (↑(y0 :: y1 :: AV.agg [AV.int Go.IntKind.i64 k1, AV.str t1, AV.int Go.IntKind.i64 n1, AV.int Go.IntKind.i64 a1, AV.int Go.IntKind.i64 e1] :: r).length : Int))) then bif (decide ((2 : Int) < (↑(y0 :: y1 :: AV.agg [AV.int Go.IntKind.i64 k1, AV.str t1, AV.int Go.IntKind.i64 n1, AV.int Go.IntKind.i64 a1, AV.int Go.IntKind.i64 e1] :: r).length : Int))) then some (.tup [zeroDo, (.agg [(.int .i64 253), (.int .i64 a1)])])
       else none
      else some (.tup [zeroDo, (.agg [(.int .i64 253), (.int .i64 ((↑s4.length : Int)))])])
     else L_script_Read_0 n m0 i0 (u0 :: (.agg [(.fn (.func 175) [] [(.cptr [(.fn (.func 166) [] [])] 0)]), (.fn (.func 176) [] [(.cptr [(.fn (.func 166) [] [])] 0)]), (.fn (.func 178) [] [(.cptr [(.fn (.func 166) [] [])] 0)])]) :: vs) 2 xs3 s4 0 [] [] [] 0 0 0 0 0 (y0 :: y1 :: (.agg [(.int .i64 k1), (.str t1), (.int .i64 n1), (.int .i64 a1), (.int .i64 e1)]) :: r) i15 i16 s17 i18 (.fn (.func kf) [] []) i20 s21 s22 s23 i24 n1 i26
    else none
   else none
  else bif (decide ((↑(y0 :: y1 :: AV.agg [AV.int Go.IntKind.i64 k1, AV.str t1, AV.int Go.IntKind.i64 n1, AV.int Go.IntKind.i64 a1, AV.int Go.IntKind.i64 e1] :: r).length : Int) > Go.IntKind.i64.wrap ((↑xs3.length : Int) + (1 : Int)))) then bif (decide (Go.IntKind.i64.wrap ((↑xs3.length : Int) + (1 : Int)) < (↑(y0 :: y1 :: AV.agg [AV.int Go.IntKind.i64 k1, AV.str t1, AV.int Go.IntKind.i64 n1, AV.int Go.IntKind.i64 a1, AV.int Go.IntKind.i64 e1] :: r).length : Int))) then bif (decide ((0 : Int) ≤ Go.IntKind.i64.wrap ((↑xs3.length : Int) + (1 : Int)))) then bif (decide (Go.IntKind.i64.wrap ((↑xs3.length : Int) + (1 : Int)) < (↑(y0 :: y1 :: AV.agg [AV.int Go.IntKind.i64 k1, AV.str t1, AV.int Go.IntKind.i64 n1, AV.int Go.IntKind.i64 a1, AV.int Go.IntKind.i64 e1] :: r).length : Int))) then bif (Nat.blt (3 : Nat) (((y0 :: y1 :: AV.agg [AV.int Go.IntKind.i64 k1, AV.str t1, AV.int Go.IntKind.i64 n1, AV.int Go.IntKind.i64 a1, AV.int Go.IntKind.i64 e1] :: r).getD (Go.IntKind.i64.wrap ((↑xs3.length : Int) + (1 : Int))).toNat AV.top).cells.getD []).length) then bif (isI Go.IntKind.i64 ((((y0 :: y1 :: AV.agg [AV.int Go.IntKind.i64 k1, AV.str t1, AV.int Go.IntKind.i64 n1, AV.int Go.IntKind.i64 a1, AV.int Go.IntKind.i64 e1] :: r).getD (Go.IntKind.i64.wrap ((↑xs3.length : Int) + (1 : Int))).toNat AV.top).cells.getD []).getD (3 : Nat) AV.top)) then some (.tup [zeroDo, (.agg [(.int .i64 253), (.int .i64 (toI ((((y0 :: y1 :: AV.agg [AV.int Go.IntKind.i64 k1, AV.str t1, AV.int Go.IntKind.i64 n1, AV.int Go.IntKind.i64 a1, AV.int Go.IntKind.i64 e1] :: r).getD (Go.IntKind.i64.wrap ((↑xs3.length : Int) + (1 : Int))).toNat AV.top).cells.getD []).getD (3 : Nat) AV.top)))])])
        else none
       else none
      else none
     else none
    else some (.tup [zeroDo, (.agg [(.int .i64 253), (.int .i64 ((↑s4.length : Int)))])])
   else some (.tup [(.agg [(.int .i64 i20), (.str s21), (.str s22), (.str s23), (.raw (.slice .none 0 0)), (.int .i64 i24), (.int .i64 i25), (.int .i64 i26)]), (.agg [(.int .i64 0), (.int .i64 0)])]) := by unfold L_script_Read_0; rw [runL_round]; kernel_rfl
theorem rd_take_n2 (n m0 : Nat) (i0 : Int) (vs : List AV) (xs3 : List AV) (u0 : AV) (u1 : AV) (y0 : AV) (y1 : AV) (y2 : AV) (s4 : List UInt8) (i15 : Int) (i16 : Int) (s17 : List UInt8) (i18 : Int) (kf : Nat) (i20 : Int) (s21 : List UInt8) (s22 : List UInt8) (s23 : List UInt8) (i24 : Int) (i25 : Int) (i26 : Int) (k1 : Int) (t1 : List UInt8) (n1 : Int) (a1 : Int) (e1 : Int) (r : List AV) : L_script_Read_0 n (m0 + 1) i0 (u0 :: u1 :: (.agg (partP Scr.P.n)) :: vs) 2 xs3 s4 0 [] [] [] 0 0 0 0 0 (y0 :: y1 :: y2 :: (.agg [(.int .i64 k1), (.str t1), (.int .i64 n1), (.int .i64 a1), (.int .i64 e1)]) :: r) i15 i16 s17 i18 (.fn (.func kf) [] []) i20 s21 s22 s23 i24 i25 i26 =
  bif (decide ((2 : Int) < i0)) then bif (decide ((2 : Int) < (↑(u0 :: u1 :: AV.agg [AV.fn (Go.Fn.func (175 : Nat)) [] [AV.cptr [AV.fn (Go.Fn.func (164 : Nat)) [] []] (0 : Nat)], AV.fn (Go.Fn.func (176 : Nat)) [] [AV.cptr [AV.fn (Go.Fn.func (164 : Nat)) [] []] (0 : Nat)], AV.fn (Go.Fn.func (178 : Nat)) [] [AV.cptr [AV.fn (Go.Fn.func (164 : Nat)) [] []] (0 : Nat)]] :: vs).length : Int))) then bif (decide ((3 : Int) < (↑(y0 :: y1 :: y2 :: AV.agg [AV.int Go.IntKind.i64 k1, AV.str t1, AV.int Go.IntKind.i64 n1, AV.int Go.IntKind.i64 a1, AV.int Go.IntKind.i64 e1] :: r).length : Int))) then bif (!k1 == (4 : Int)) then bif (decide ((3 : Int) < (↑(y0 :: y1 :: y2 :: AV.agg [AV.int Go.IntKind.i64 k1, AV.str t1, AV.int Go.IntKind.i64 n1, AV.int Go.IntKind.i64 a1, AV.int Go.IntKind.i64 e1] :: r).length : Int))) then bif (decide ((3 : Int) < (↑(y0 :: y1 :: y2 :: AV.agg [AV.int Go.IntKind.i64 k1, AV.str t1, AV.int Go.IntKind.i64 n1, AV.int Go.IntKind.i64 a1, AV.int Go.IntKind.i64 e1] :: r).length : Int))) then some (.tup [zeroDo, (.agg [(.int .i64 253), (.int .i64 a1)])])
       else none
      else some (.tup [zeroDo, (.agg [(.int .i64 253), (.int .i64 ((↑s4.length : Int)))])])
     else L_script_Read_0 n m0 i0 (u0 :: u1 :: (.agg [(.fn (.func 175) [] [(.cptr [(.fn (.func 164) [] [])] 0)]), (.fn (.func 176) [] [(.cptr [(.fn (.func 164) [] [])] 0)]), (.fn (.func 178) [] [(.cptr [(.fn (.func 164) [] [])] 0)])]) :: vs) 3 xs3 s4 0 [] [] [] 0 0 0 0 0 (y0 :: y1 :: y2 :: (.agg [(.int .i64 k1), (.str t1), (.int .i64 n1), (.int .i64 a1), (.int .i64 e1)]) :: r) i15 i16 s17 i18 (.fn (.func kf) [] []) i20 s21 s22 s23 n1 i25 i26
    else none
   else none
  else bif (decide ((↑(y0 :: y1 :: y2 :: AV.agg [AV.int Go.IntKind.i64 k1, AV.str t1, AV.int Go.IntKind.i64 n1, AV.int Go.IntKind.i64 a1, AV.int Go.IntKind.i64 e1] :: r).length : Int) > Go.IntKind.i64.wrap ((↑xs3.length : Int) + (1 : Int)))) then bif (decide (Go.IntKind.i64.wrap ((↑xs3.length : Int) + (1 : Int)) < (↑(y0 :: y1 :: y2 :: AV.agg [AV.int Go.IntKind.i64 k1, AV.str t1, AV.int Go.IntKind.i64 n1, AV.int Go.IntKind.i64 a1, AV.int Go.IntKind.i64 e1] :: r).length : Int))) then bif (decide ((0 : Int) ≤ Go.IntKind.i64.wrap ((↑xs3.length : Int) + (1 : Int)))) then bif (decide (Go.IntKind.i64.wrap ((↑xs3.length : Int) + (1 : Int)) < (↑(y0 :: y1 :: y2 :: AV.agg [AV.int Go.IntKind.i64 k1, AV.str t1, AV.int Go.IntKind.i64 n1, AV.int Go.IntKind.i64 a1, AV.int Go.IntKind.i64 e1] :: r).length : Int))) then bif (Nat.blt (3 : Nat) (((y0 :: y1 :: y2 :: AV.agg [AV.int Go.IntKind.i64 k1, AV.str t1, AV.int Go.IntKind.i64 n1, AV.int Go.IntKind.i64 a1, AV.int Go.IntKind.i64 e1] :: r).getD (Go.IntKind.i64.wrap ((↑xs3.length : Int) + (1 : Int))).toNat AV.top).cells.getD []).length) then bif (isI Go.IntKind.i64 ((((y0 :: y1 :: y2 :: AV.agg [AV.int Go.IntKind.i64 k1, AV.str t1, AV.int Go.IntKind.i64 n1, AV.int Go.IntKind.i64 a1, AV.int Go.IntKind.i64 e1] :: r).getD (Go.IntKind.i64.wrap ((↑xs3.length : Int) + (1 : Int))).toNat AV.top).cells.getD []).getD (3 : Nat) AV.top)) then some (.tup [zeroDo, (.agg [(.int .i64 253), (.int .i64 (toI ((((y0 :: y1 :: y2 :: AV.agg [AV.int Go.IntKind.i64 k1, AV.str t1, AV.int Go.IntKind.i64 n1, AV.int Go.IntKind.i64 a1, AV.int Go.IntKind.i64 e1] :: r).getD (Go.IntKind.i64.wrap ((↑xs3.length : Int) + (1 : Int))).toNat AV.top).cells.getD []).getD (3 : Nat) AV.top)))])])
        else none
       else none
      else none
     else none
    else some (.tup [zeroDo, (.agg [(.int .i64 253), (.int .i64 ((↑s4.length : Int)))])])
   else some (.tup [(.agg [(.int .i64 i20), (.str s21), (.str s22), (.str s23), (.raw (.slice .none 0 0)), (.int .i64 i24), (.int .i64 i25), (.int .i64 i26)]), (.agg [(.int .i64 0), (.int .i64 0)])]) := by unfold L_script_Read_0; rw [runL_round]; kernel_rfl
theorem rd_take_k2 (n m0 : Nat) (i0 : Int) (vs : List AV) (xs3 : List AV) (u0 : AV) (u1 : AV) (y0 : AV) (y1 : AV) (y2 : AV) (s4 : List UInt8) (i15 : Int) (i16 : Int) (s17 : List UInt8) (i18 : Int) (kf : Nat) (i20 : Int) (s21 : List UInt8) (s22 : List UInt8) (s23 : List UInt8) (i24 : Int) (i25 : Int) (i26 : Int) (k1 : Int) (t1 : List UInt8) (n1 : Int) (a1 : Int) (e1 : Int) (r : List AV) : L_script_Read_0 n (m0 + 1) i0 (u0 :: u1 :: (.agg (partP Scr.P.k)) :: vs) 2 xs3 s4 0 [] [] [] 0 0 0 0 0 (y0 :: y1 :: y2 :: (.agg [(.int .i64 k1), (.str t1), (.int .i64 n1), (.int .i64 a1), (.int .i64 e1)]) :: r) i15 i16 s17 i18 (.fn (.func kf) [] []) i20 s21 s22 s23 i24 i25 i26 =
  bif (decide ((2 : Int) < i0)) then bif (decide ((2 : Int) < (↑(u0 :: u1 :: AV.agg [AV.fn (Go.Fn.func (175 : Nat)) [] [AV.cptr [AV.fn (Go.Fn.func (167 : Nat)) [] []] (0 : Nat)], AV.fn (Go.Fn.func (176 : Nat)) [] [AV.cptr [AV.fn (Go.Fn.func (167 : Nat)) [] []] (0 : Nat)], AV.fn (Go.Fn.func (178 : Nat)) [] [AV.cptr [AV.fn (Go.Fn.func (167 : Nat)) [] []] (0 : Nat)]] :: vs).length : Int))) then bif (decide ((3 : Int) < (↑(y0 :: y1 :: y2 :: AV.agg [AV.int Go.IntKind.i64 k1, AV.str t1, AV.int Go.IntKind.i64 n1, AV.int Go.IntKind.i64 a1, AV.int Go.IntKind.i64 e1] :: r).length : Int))) then bif (!k1 == (4 : Int)) then bif (decide ((3 : Int) < (↑(y0 :: y1 :: y2 :: AV.agg [AV.int Go.IntKind.i64 k1, AV.str t1, AV.int Go.IntKind.i64 n1, AV.int Go.IntKind.i64 a1, AV.int Go.IntKind.i64 e1] :: r).length : Int))) then bif (decide ((3 : Int) < (↑(y0 :: y1 :: y2 :: AV.agg [AV.int Go.IntKind.i64 k1, AV.str t1, AV.int Go.IntKind.i64 n1, AV.int Go.IntKind.i64 a1, AV.int Go.IntKind.i64 e1] :: r).length : Int))) then some (.tup [zeroDo, (.agg [(.int .i64 253), (.int .i64 a1)])])
       else none
      else some (.tup [zeroDo, (.agg [(.int .i64 253), (.int .i64 ((↑s4.length : Int)))])])
     else L_script_Read_0 n m0 i0 (u0 :: u1 :: (.agg [(.fn (.func 175) [] [(.cptr [(.fn (.func 167) [] [])] 0)]), (.fn (.func 176) [] [(.cptr [(.fn (.func 167) [] [])] 0)]), (.fn (.func 178) [] [(.cptr [(.fn (.func 167) [] [])] 0)])]) :: vs) 3 xs3 s4 0 [] [] [] 0 0 0 0 0 (y0 :: y1 :: y2 :: (.agg [(.int .i64 k1), (.str t1), (.int .i64 n1), (.int .i64 a1), (.int .i64 e1)]) :: r) i15 i16 s17 i18 (.fn (.func kf) [] []) i20 s21 s22 s23 i24 i25 n1
    else none
   else none
  else bif (decide ((↑(y0 :: y1 :: y2 :: AV.agg [AV.int Go.IntKind.i64 k1, AV.str t1, AV.int Go.IntKind.i64 n1, AV.int Go.IntKind.i64 a1, AV.int Go.IntKind.i64 e1] :: r).length : Int) > Go.IntKind.i64.wrap ((↑xs3.length : Int) + (1 : Int)))) then bif (decide (Go.IntKind.i64.wrap ((↑xs3.length : Int) + (1 : Int)) < (↑(y0 :: y1 :: y2 :: AV.agg [AV.int Go.IntKind.i64 k1, AV.str t1, AV.int Go.IntKind.i64 n1, AV.int Go.IntKind.i64 a1, AV.int Go.IntKind.i64 e1] :: r).length : Int))) then bif (decide ((0 : Int) ≤ Go.IntKind.i64.wrap ((↑xs3.length : Int) + (1 : Int)))) then bif (decide (Go.IntKind.i64.wrap ((↑xs3.length : Int) + (1 : Int)) < (↑(y0 :: y1 :: y2 :: AV.agg [AV.int Go.IntKind.i64 k1, AV.str t1, AV.int Go.IntKind.i64 n1, AV.int Go.IntKind.i64 a1, AV.int Go.IntKind.i64 e1] :: r).length : Int))) then bif (Nat.blt (3 : Nat) (((y0 :: y1 :: y2 :: AV.agg [AV.int Go.IntKind.i64 k1, AV.str t1, AV.int Go.IntKind.i64 n1, AV.int Go.IntKind.i64 a1, AV.int Go.IntKind.i64 e1] :: r).getD (Go.IntKind.i64.wrap ((↑xs3.length : Int) + (1 : Int))).toNat AV.top).cells.getD []).length) then bif (isI Go.IntKind.i64 ((((y0 :: y1 :: y2 :: AV.agg [AV.int Go.IntKind.i64 k1, AV.str t1, AV.int Go.IntKind.i64 n1, AV.int Go.IntKind.i64 a1, AV.int Go.IntKind.i64 e1] :: r).getD (Go.IntKind.i64.wrap ((↑xs3.length : Int) + (1 : Int))).toNat AV.top).cells.getD []).getD (3 : Nat) AV.top)) then some (.tup [zeroDo, (.agg [(.int .i64 253), (.int .i64 (toI ((((y0 :: y1 :: y2 :: AV.agg [AV.int Go.IntKind.i64 k1, AV.str t1, AV.int Go.IntKind.i64 n1, AV.int Go.IntKind.i64 a1, AV.int Go.IntKind.i64 e1] :: r).getD (Go.IntKind.i64.wrap ((↑xs3.length : Int) + (1 : Int))).toNat AV.top).cells.getD []).getD (3 : Nat) AV.top)))])])
        else none
       else none
      else none
     else none
    else some (.tup [zeroDo, (.agg [(.int .i64 253), (.int .i64 ((↑s4.length : Int)))])])
   else some (.tup [(.agg [(.int .i64 i20), (.str s21), (.str s22), (.str s23), (.raw (.slice .none 0 0)), (.int .i64 i24), (.int .i64 i25), (.int .i64 i26)]), (.agg [(.int .i64 0), (.int .i64 0)])]) := by unfold L_script_Read_0; rw [runL_round]; kernel_rfl
theorem rd_short_b0 (n m0 : Nat) (i0 : Int) (vs : List AV) (xs3 : List AV) (y0 : AV) (s4 : List UInt8) (i15 : Int) (i16 : Int) (s17 : List UInt8) (i18 : Int) (kf : Nat) (i20 : Int) (s21 : List UInt8) (s22 : List UInt8) (s23 : List UInt8) (i24 : Int) (i25 : Int) (i26 : Int) : L_script_Read_0 n (m0 + 1) i0 ((.agg (partP Scr.P.b)) :: vs) 0 xs3 s4 0 [] [] [] 0 0 0 0 0 [y0] i15 i16 s17 i18 (.fn (.func kf) [] []) i20 s21 s22 s23 i24 i25 i26 =
  bif (decide ((0 : Int) < i0)) then bif (decide ((0 : Int) < (↑(AV.agg [AV.fn (Go.Fn.func (168 : Nat)) [] [], AV.fn (Go.Fn.func (169 : Nat)) [] [], AV.fn (Go.Fn.func (170 : Nat)) [] []] :: vs).length : Int))) then some (.tup [zeroDo, (.agg [(.int .i64 253), (.int .i64 ((↑s4.length : Int)))])])
   else none
  else bif (decide ((1 : Int) > Go.IntKind.i64.wrap ((↑xs3.length : Int) + (1 : Int)))) then bif (decide (Go.IntKind.i64.wrap ((↑xs3.length : Int) + (1 : Int)) < (1 : Int))) then bif (decide ((0 : Int) ≤ Go.IntKind.i64.wrap ((↑xs3.length : Int) + (1 : Int)))) then bif (decide (Go.IntKind.i64.wrap ((↑xs3.length : Int) + (1 : Int)) < (↑(1 : Nat) : Int))) then bif (Nat.blt (3 : Nat) (([y0].getD (Go.IntKind.i64.wrap ((↑xs3.length : Int) + (1 : Int))).toNat AV.top).cells.getD []).length) then bif (isI Go.IntKind.i64 ((([y0].getD (Go.IntKind.i64.wrap ((↑xs3.length : Int) + (1 : Int))).toNat AV.top).cells.getD []).getD (3 : Nat) AV.top)) then some (.tup [zeroDo, (.agg [(.int .i64 253), (.int .i64 (toI ((([y0].getD (Go.IntKind.i64.wrap ((↑xs3.length : Int) + (1 : Int))).toNat AV.top).cells.getD []).getD (3 : Nat) AV.top)))])])
        else none
       else none
      else none
     else none
    else some (.tup [zeroDo, (.agg [(.int .i64 253), (.int .i64 ((↑s4.length : Int)))])])
   else some (.tup [(.agg [(.int .i64 i20), (.str s21), (.str s22), (.str s23), (.raw (.slice .none 0 0)), (.int .i64 i24), (.int .i64 i25), (.int .i64 i26)]), (.agg [(.int .i64 0), (.int .i64 0)])]) := by unfold L_script_Read_0; rw [runL_round]; kernel_rfl
theorem rd_short_w0 (n m0 : Nat) (i0 : Int) (vs : List AV) (xs3 : List AV) (y0 : AV) (s4 : List UInt8) (i15 : Int) (i16 : Int) (s17 : List UInt8) (i18 : Int) (kf : Nat) (i20 : Int) (s21 : List UInt8) (s22 : List UInt8) (s23 : List UInt8) (i24 : Int) (i25 : Int) (i26 : Int) : L_script_Read_0 n (m0 + 1) i0 ((.agg (partP Scr.P.w)) :: vs) 0 xs3 s4 0 [] [] [] 0 0 0 0 0 [y0] i15 i16 s17 i18 (.fn (.func kf) [] []) i20 s21 s22 s23 i24 i25 i26 =
  bif (decide ((0 : Int) < i0)) then bif (decide ((0 : Int) < (↑(AV.agg [AV.fn (Go.Fn.func (171 : Nat)) [] [AV.cptr [AV.fn (Go.Fn.func (158 : Nat)) [] []] (0 : Nat)], AV.fn (Go.Fn.func (172 : Nat)) [] [AV.cptr [AV.fn (Go.Fn.func (158 : Nat)) [] []] (0 : Nat)], AV.fn (Go.Fn.func (174 : Nat)) [] [AV.cptr [AV.fn (Go.Fn.func (158 : Nat)) [] []] (0 : Nat)]] :: vs).length : Int))) then some (.tup [zeroDo, (.agg [(.int .i64 253), (.int .i64 ((↑s4.length : Int)))])])
   else none
  else bif (decide ((1 : Int) > Go.IntKind.i64.wrap ((↑xs3.length : Int) + (1 : Int)))) then bif (decide (Go.IntKind.i64.wrap ((↑xs3.length : Int) + (1 : Int)) < (1 : Int))) then bif (decide ((0 : Int) ≤ Go.IntKind.i64.wrap ((↑xs3.length : Int) + (1 : Int)))) then bif (decide (Go.IntKind.i64.wrap ((↑xs3.length : Int) + (1 : Int)) < (↑(1 : Nat) : Int))) then bif (Nat.blt (3 : Nat) (([y0].getD (Go.IntKind.i64.wrap ((↑xs3.length : Int) + (1 : Int))).toNat AV.top).cells.getD []).length) then bif (isI Go.IntKind.i64 ((([y0].getD (Go.IntKind.i64.wrap ((↑xs3.length : Int) + (1 : Int))).toNat AV.top).cells.getD []).getD (3 : Nat) AV.top)) then some (.tup [zeroDo, (.agg [(.int .i64 253), (.int .i64 (toI ((([y0].getD (Go.IntKind.i64.wrap ((↑xs3.length : Int) + (1 : Int))).toNat AV.top).cells.getD []).getD (3 : Nat) AV.top)))])])
        else none
       else none
      else none
     else none
    else some (.tup [zeroDo, (.agg [(.int .i64 253), (.int .i64 ((↑s4.length : Int)))])])
   else some (.tup [(.agg [(.int .i64 i20), (.str s21), (.str s22), (.str s23), (.raw (.slice .none 0 0)), (.int .i64 i24), (.int .i64 i25), (.int .i64 i26)]), (.agg [(.int .i64 0), (.int .i64 0)])]) := by unfold L_script_Read_0; rw [runL_round]; kernel_rfl
theorem rd_short_n0 (n m0 : Nat) (i0 : Int) (vs : List AV) (xs3 : List AV) (y0 : AV) (s4 : List UInt8) (i15 : Int) (i16 : Int) (s17 : List UInt8) (i18 : Int) (kf : Nat) (i20 : Int) (s21 : List UInt8) (s22 : List UInt8) (s23 : List UInt8) (i24 : Int) (i25 : Int) (i26 : Int) : L_script_Read_0 n (m0 + 1) i0 ((.agg (partP Scr.P.n)) :: vs) 0 xs3 s4 0 [] [] [] 0 0 0 0 0 [y0] i15 i16 s17 i18 (.fn (.func kf) [] []) i20 s21 s22 s23 i24 i25 i26 =
  bif (decide ((0 : Int) < i0)) then bif (decide ((0 : Int) < (↑(AV.agg [AV.fn (Go.Fn.func (175 : Nat)) [] [AV.cptr [AV.fn (Go.Fn.func (164 : Nat)) [] []] (0 : Nat)], AV.fn (Go.Fn.func (176 : Nat)) [] [AV.cptr [AV.fn (Go.Fn.func (164 : Nat)) [] []] (0 : Nat)], AV.fn (Go.Fn.func (178 : Nat)) [] [AV.cptr [AV.fn (Go.Fn.func (164 : Nat)) [] []] (0 : Nat)]] :: vs).length : Int))) then some (.tup [zeroDo, (.agg [(.int .i64 253), (.int .i64 ((↑s4.length : Int)))])])
   else none
  else bif (decide ((1 : Int) > Go.IntKind.i64.wrap ((↑xs3.length : Int) + (1 : Int)))) then bif (decide (Go.IntKind.i64.wrap ((↑xs3.length : Int) + (1 : Int)) < (1 : Int))) then bif (decide ((0 : Int) ≤ Go.IntKind.i64.wrap ((↑xs3.length : Int) + (1 : Int)))) then bif (decide (Go.IntKind.i64.wrap ((↑xs3.length : Int) + (1 : Int)) < (↑(1 : Nat) : Int))) then bif (Nat.blt (3 : Nat) (([y0].getD (Go.IntKind.i64.wrap ((↑xs3.length : Int) + (1 : Int))).toNat AV.top).cells.getD []).length) then bif (isI Go.IntKind.i64 ((([y0].getD (Go.IntKind.i64.wrap ((↑xs3.length : Int) + (1 : Int))).toNat AV.top).cells.getD []).getD (3 : Nat) AV.top)) then some (.tup [zeroDo, (.agg [(.int .i64 253), (.int .i64 (toI ((([y0].getD (Go.IntKind.i64.wrap ((↑xs3.length : Int) + (1 : Int))).toNat AV.top).cells.getD []).getD (3 : Nat) AV.top)))])])
        else none
       else none
      else none
     else none
    else some (.tup [zeroDo, (.agg [(.int .i64 253), (.int .i64 ((↑s4.length : Int)))])])
   else some (.tup [(.agg [(.int .i64 i20), (.str s21), (.str s22), (.str s23), (.raw (.slice .none 0 0)), (.int .i64 i24), (.int .i64 i25), (.int .i64 i26)]), (.agg [(.int .i64 0), (.int .i64 0)])]) := by unfold L_script_Read_0; rw [runL_round]; kernel_rfl
theorem rd_short_t1 (n m0 : Nat) (i0 : Int) (vs : List AV) (xs3 : List AV) (u0 : AV) (y0 : AV) (y1 : AV) (s4 : List UInt8) (i15 : Int) (i16 : Int) (s17 : List UInt8) (i18 : Int) (kf : Nat) (i20 : Int) (s21 : List UInt8) (s22 : List UInt8) (s23 : List UInt8) (i24 : Int) (i25 : Int) (i26 : Int) : L_script_Read_0 n (m0 + 1) i0 (u0 :: (.agg (partP Scr.P.t)) :: vs) 1 xs3 s4 0 [] [] [] 0 0 0 0 0 [y0, y1] i15 i16 s17 i18 (.fn (.func kf) [] []) i20 s21 s22 s23 i24 i25 i26 =
  bif (decide ((1 : Int) < i0)) then bif (decide ((1 : Int) < (↑(u0 :: AV.agg [AV.fn (Go.Fn.func (159 : Nat)) [] [], AV.fn (Go.Fn.func (160 : Nat)) [] [], AV.fn (Go.Fn.func (162 : Nat)) [] []] :: vs).length : Int))) then some (.tup [zeroDo, (.agg [(.int .i64 253), (.int .i64 ((↑s4.length : Int)))])])
   else none
  else bif (decide ((2 : Int) > Go.IntKind.i64.wrap ((↑xs3.length : Int) + (1 : Int)))) then bif (decide (Go.IntKind.i64.wrap ((↑xs3.length : Int) + (1 : Int)) < (2 : Int))) then bif (decide ((0 : Int) ≤ Go.IntKind.i64.wrap ((↑xs3.length : Int) + (1 : Int)))) then bif (decide (Go.IntKind.i64.wrap ((↑xs3.length : Int) + (1 : Int)) < (↑(2 : Nat) : Int))) then bif (Nat.blt (3 : Nat) (([y0, y1].getD (Go.IntKind.i64.wrap ((↑xs3.length : Int) + (1 : Int))).toNat AV.top).cells.getD []).length) then bif (isI Go.IntKind.i64 ((([y0, y1].getD (Go.IntKind.i64.wrap ((↑xs3.length : Int) + (1 : Int))).toNat AV.top).cells.getD []).getD (3 : Nat) AV.top)) then some (.tup [zeroDo, (.agg [(.int .i64 253), (.int .i64 (toI ((([y0, y1].getD (Go.IntKind.i64.wrap ((↑xs3.length : Int) + (1 : Int))).toNat AV.top).cells.getD []).getD (3 : Nat) AV.top)))])])
        else none
       else none
      else none
     else none
    else some (.tup [zeroDo, (.agg [(.int .i64 253), (.int .i64 ((↑s4.length : Int)))])])
   else some (.tup [(.agg [(.int .i64 i20), (.str s21), (.str s22), (.str s23), (.raw (.slice .none 0 0)), (.int .i64 i24), (.int .i64 i25), (.int .i64 i26)]), (.agg [(.int .i64 0), (.int .i64 0)])]) := by unfold L_script_Read_0; rw [runL_round]; kernel_rfl
theorem rd_short_n1 (n m0 : Nat) (i0 : Int) (vs : List AV) (xs3 : List AV) (u0 : AV) (y0 : AV) (y1 : AV) (s4 : List UInt8) (i15 : Int) (i16 : Int) (s17 : List UInt8) (i18 : Int) (kf : Nat) (i20 : Int) (s21 : List UInt8) (s22 : List UInt8) (s23 : List UInt8) (i24 : Int) (i25 : Int) (i26 : Int) : L_script_Read_0 n (m0 + 1) i0 (u0 :: (.agg (partP Scr.P.n)) :: vs) 1 xs3 s4 0 [] [] [] 0 0 0 0 0 [y0, y1] i15 i16 s17 i18 (.fn (.func kf) [] []) i20 s21 s22 s23 i24 i25 i26 =
  bif (decide ((1 : Int) < i0)) then bif (decide ((1 : Int) < (↑(u0 :: AV.agg [AV.fn (Go.Fn.func (175 : Nat)) [] [AV.cptr [AV.fn (Go.Fn.func (164 : Nat)) [] []] (0 : Nat)], AV.fn (Go.Fn.func (176 : Nat)) [] [AV.cptr [AV.fn (Go.Fn.func (164 : Nat)) [] []] (0 : Nat)], AV.fn (Go.Fn.func (178 : Nat)) [] [AV.cptr [AV.fn (Go.Fn.func (164 : Nat)) [] []] (0 : Nat)]] :: vs).length : Int))) then some (.tup [zeroDo, (.agg [(.int .i64 253), (.int .i64 ((↑s4.length : Int)))])])
   else none
  else bif (decide ((2 : Int) > Go.IntKind.i64.wrap ((↑xs3.length : Int) + (1 : Int)))) then bif (decide (Go.IntKind.i64.wrap ((↑xs3.length : Int) + (1 : Int)) < (2 : Int))) then bif (decide ((0 : Int) ≤ Go.IntKind.i64.wrap ((↑xs3.length : Int) + (1 : Int)))) then bif (decide (Go.IntKind.i64.wrap ((↑xs3.length : Int) + (1 : Int)) < (↑(2 : Nat) : Int))) then bif (Nat.blt (3 : Nat) (([y0, y1].getD (Go.IntKind.i64.wrap ((↑xs3.length : Int) + (1 : Int))).toNat AV.top).cells.getD []).length) then bif (isI Go.IntKind.i64 ((([y0, y1].getD (Go.IntKind.i64.wrap ((↑xs3.length : Int) + (1 : Int))).toNat AV.top).cells.getD []).getD (3 : Nat) AV.top)) then some (.tup [zeroDo, (.agg [(.int .i64 253), (.int .i64 (toI ((([y0, y1].getD (Go.IntKind.i64.wrap ((↑xs3.length : Int) + (1 : Int))).toNat AV.top).cells.getD []).getD (3 : Nat) AV.top)))])])
        else none
       else none
      else none
     else none
    else some (.tup [zeroDo, (.agg [(.int .i64 253), (.int .i64 ((↑s4.length : Int)))])])
   else some (.tup [(.agg [(.int .i64 i20), (.str s21), (.str s22), (.str s23), (.raw (.slice .none 0 0)), (.int .i64 i24), (.int .i64 i25), (.int .i64 i26)]), (.agg [(.int .i64 0), (.int .i64 0)])]) := by unfold L_script_Read_0; rw [runL_round]; kernel_rfl
theorem rd_short_o1 (n m0 : Nat) (i0 : Int) (vs : List AV) (xs3 : List AV) (u0 : AV) (y0 : AV) (y1 : AV) (s4 : List UInt8) (i15 : Int) (i16 : Int) (s17 : List UInt8) (i18 : Int) (kf : Nat) (i20 : Int) (s21 : List UInt8) (s22 : List UInt8) (s23 : List UInt8) (i24 : Int) (i25 : Int) (i26 : Int) : L_script_Read_0 n (m0 + 1) i0 (u0 :: (.agg (partP Scr.P.o)) :: vs) 1 xs3 s4 0 [] [] [] 0 0 0 0 0 [y0, y1] i15 i16 s17 i18 (.fn (.func kf) [] []) i20 s21 s22 s23 i24 i25 i26 =
  bif (decide ((1 : Int) < i0)) then bif (decide ((1 : Int) < (↑(u0 :: AV.agg [AV.fn (Go.Fn.func (171 : Nat)) [] [AV.cptr [AV.fn (Go.Fn.func (165 : Nat)) [] []] (0 : Nat)], AV.fn (Go.Fn.func (172 : Nat)) [] [AV.cptr [AV.fn (Go.Fn.func (165 : Nat)) [] []] (0 : Nat)], AV.fn (Go.Fn.func (174 : Nat)) [] [AV.cptr [AV.fn (Go.Fn.func (165 : Nat)) [] []] (0 : Nat)]] :: vs).length : Int))) then some (.tup [zeroDo, (.agg [(.int .i64 253), (.int .i64 ((↑s4.length : Int)))])])
   else none
  else bif (decide ((2 : Int) > Go.IntKind.i64.wrap ((↑xs3.length : Int) + (1 : Int)))) then bif (decide (Go.IntKind.i64.wrap ((↑xs3.length : Int) + (1 : Int)) < (2 : Int))) then bif (decide ((0 : Int) ≤ Go.IntKind.i64.wrap ((↑xs3.length : Int) + (1 : Int)))) then bif (decide (Go.IntKind.i64.wrap ((↑xs3.length : Int) + (1 : Int)) < (↑(2 : Nat) : Int))) then bif (Nat.blt (3 : Nat) (([y0, y1].getD (Go.IntKind.i64.wrap ((↑xs3.length : Int) + (1 : Int))).toNat AV.top).cells.getD []).length) then bif (isI Go.IntKind.i64 ((([y0, y1].getD (Go.IntKind.i64.wrap ((↑xs3.length : Int) + (1 : Int))).toNat AV.top).cells.getD []).getD (3 : Nat) AV.top)) then some (.tup [zeroDo, (.agg [(.int .i64 253), (.int .i64 (toI ((([y0, y1].getD (Go.IntKind.i64.wrap ((↑xs3.length : Int) + (1 : Int))).toNat AV.top).cells.getD []).getD (3 : Nat) AV.top)))])])
        else none
       else none
      else none
     else none
    else some (.tup [zeroDo, (.agg [(.int .i64 253), (.int .i64 ((↑s4.length : Int)))])])
   else some (.tup [(.agg [(.int .i64 i20), (.str s21), (.str s22), (.str s23), (.raw (.slice .none 0 0)), (.int .i64 i24), (.int .i64 i25), (.int .i64 i26)]), (.agg [(.int .i64 0), (.int .i64 0)])]) := by unfold L_script_Read_0; rw [runL_round]; kernel_rfl
theorem rd_short_m1 (n m0 : Nat) (i0 : Int) (vs : List AV) (xs3 : List AV) (u0 : AV) (y0 : AV) (y1 : AV) (s4 : List UInt8) (i15 : Int) (i16 : Int) (s17 : List UInt8) (i18 : Int) (kf : Nat) (i20 : Int) (s21 : List UInt8) (s22 : List UInt8) (s23 : List UInt8) (i24 : Int) (i25 : Int) (i26 : Int) : L_script_Read_0 n (m0 + 1) i0 (u0 :: (.agg (partP Scr.P.m)) :: vs) 1 xs3 s4 0 [] [] [] 0 0 0 0 0 [y0, y1] i15 i16 s17 i18 (.fn (.func kf) [] []) i20 s21 s22 s23 i24 i25 i26 =
  bif (decide ((1 : Int) < i0)) then bif (decide ((1 : Int) < (↑(u0 :: AV.agg [AV.fn (Go.Fn.func (175 : Nat)) [] [AV.cptr [AV.fn (Go.Fn.func (166 : Nat)) [] []] (0 : Nat)], AV.fn (Go.Fn.func (176 : Nat)) [] [AV.cptr [AV.fn (Go.Fn.func (166 : Nat)) [] []] (0 : Nat)], AV.fn (Go.Fn.func (178 : Nat)) [] [AV.cptr [AV.fn (Go.Fn.func (166 : Nat)) [] []] (0 : Nat)]] :: vs).length : Int))) then some (.tup [zeroDo, (.agg [(.int .i64 253), (.int .i64 ((↑s4.length : Int)))])])
   else none
  else bif (decide ((2 : Int) > Go.IntKind.i64.wrap ((↑xs3.length : Int) + (1 : Int)))) then bif (decide (Go.IntKind.i64.wrap ((↑xs3.length : Int) + (1 : Int)) < (2 : Int))) then bif (decide ((0 : Int) ≤ Go.IntKind.i64.wrap ((↑xs3.length : Int) + (1 : Int)))) then bif (decide (Go.IntKind.i64.wrap ((↑xs3.length : Int) + (1 : Int)) < (↑(2 : Nat) : Int))) then bif (Nat.blt (3 : Nat) (([y0, y1].getD (Go.IntKind.i64.wrap ((↑xs3.length : Int) + (1 : Int))).toNat AV.top).cells.getD []).length) then bif (isI Go.IntKind.i64 ((([y0, y1].getD (Go.IntKind.i64.wrap ((↑xs3.length : Int) + (1 : Int))).toNat AV.top).cells.getD []).getD (3 : Nat) AV.top)) then some (.tup [zeroDo, (.agg [(.int .i64 253), (.int .i64 (toI ((([y0, y1].getD (Go.IntKind.i64.wrap ((↑xs3.length : Int) + (1 : Int))).toNat AV.top).cells.getD []).getD (3 : Nat) AV.top)))])])
        else none
       else none
      else none
     else none
    else some (.tup [zeroDo, (.agg [(.int .i64 253), (.int .i64 ((↑s4.length : Int)))])])
   else some (.tup [(.agg [(.int .i64 i20), (.str s21), (.str s22), (.str s23), (.raw (.slice .none 0 0)), (.int .i64 i24), (.int .i64 i25), (.int .i64 i26)]), (.agg [(.int .i64 0), (.int .i64 0)])]) := by unfold L_script_Read_0; rw [runL_round]; kernel_rfl
theorem rd_short_n2 (n m0 : Nat) (i0 : Int) (vs : List AV) (xs3 : List AV) (u0 : AV) (u1 : AV) (y0 : AV) (y1 : AV) (y2 : AV) (s4 : List UInt8) (i15 : Int) (i16 : Int) (s17 : List UInt8) (i18 : Int) (kf : Nat) (i20 : Int) (s21 : List UInt8) (s22 : List UInt8) (s23 : List UInt8) (i24 : Int) (i25 : Int) (i26 : Int) : L_script_Read_0 n (m0 + 1) i0 (u0 :: u1 :: (.agg (partP Scr.P.n)) :: vs) 2 xs3 s4 0 [] [] [] 0 0 0 0 0 [y0, y1, y2] i15 i16 s17 i18 (.fn (.func kf) [] []) i20 s21 s22 s23 i24 i25 i26 =
  bif (decide ((2 : Int) < i0)) then bif (decide ((2 : Int) < (↑(u0 :: u1 :: AV.agg [AV.fn (Go.Fn.func (175 : Nat)) [] [AV.cptr [AV.fn (Go.Fn.func (164 : Nat)) [] []] (0 : Nat)], AV.fn (Go.Fn.func (176 : Nat)) [] [AV.cptr [AV.fn (Go.Fn.func (164 : Nat)) [] []] (0 : Nat)], AV.fn (Go.Fn.func (178 : Nat)) [] [AV.cptr [AV.fn (Go.Fn.func (164 : Nat)) [] []] (0 : Nat)]] :: vs).length : Int))) then some (.tup [zeroDo, (.agg [(.int .i64 253), (.int .i64 ((↑s4.length : Int)))])])
   else none
  else bif (decide ((3 : Int) > Go.IntKind.i64.wrap ((↑xs3.length : Int) + (1 : Int)))) then bif (decide (Go.IntKind.i64.wrap ((↑xs3.length : Int) + (1 : Int)) < (3 : Int))) then bif (decide ((0 : Int) ≤ Go.IntKind.i64.wrap ((↑xs3.length : Int) + (1 : Int)))) then bif (decide (Go.IntKind.i64.wrap ((↑xs3.length : Int) + (1 : Int)) < (↑(3 : Nat) : Int))) then bif (Nat.blt (3 : Nat) (([y0, y1, y2].getD (Go.IntKind.i64.wrap ((↑xs3.length : Int) + (1 : Int))).toNat AV.top).cells.getD []).length) then bif (isI Go.IntKind.i64 ((([y0, y1, y2].getD (Go.IntKind.i64.wrap ((↑xs3.length : Int) + (1 : Int))).toNat AV.top).cells.getD []).getD (3 : Nat) AV.top)) then some (.tup [zeroDo, (.agg [(.int .i64 253), (.int .i64 (toI ((([y0, y1, y2].getD (Go.IntKind.i64.wrap ((↑xs3.length : Int) + (1 : Int))).toNat AV.top).cells.getD []).getD (3 : Nat) AV.top)))])])
        else none
       else none
      else none
     else none
    else some (.tup [zeroDo, (.agg [(.int .i64 253), (.int .i64 ((↑s4.length : Int)))])])
   else some (.tup [(.agg [(.int .i64 i20), (.str s21), (.str s22), (.str s23), (.raw (.slice .none 0 0)), (.int .i64 i24), (.int .i64 i25), (.int .i64 i26)]), (.agg [(.int .i64 0), (.int .i64 0)])]) := by unfold L_script_Read_0; rw [runL_round]; kernel_rfl
theorem rd_short_k2 (n m0 : Nat) (i0 : Int) (vs : List AV) (xs3 : List AV) (u0 : AV) (u1 : AV) (y0 : AV) (y1 : AV) (y2 : AV) (s4 : List UInt8) (i15 : Int) (i16 : Int) (s17 : List UInt8) (i18 : Int) (kf : Nat) (i20 : Int) (s21 : List UInt8) (s22 : List UInt8) (s23 : List UInt8) (i24 : Int) (i25 : Int) (i26 : Int) : L_script_Read_0 n (m0 + 1) i0 (u0 :: u1 :: (.agg (partP Scr.P.k)) :: vs) 2 xs3 s4 0 [] [] [] 0 0 0 0 0 [y0, y1, y2] i15 i16 s17 i18 (.fn (.func kf) [] []) i20 s21 s22 s23 i24 i25 i26 =
  bif (decide ((2 : Int) < i0)) then bif (decide ((2 : Int) < (↑(u0 :: u1 :: AV.agg [AV.fn (Go.Fn.func (175 : Nat)) [] [AV.cptr [AV.fn (Go.Fn.func (167 : Nat)) [] []] (0 : Nat)], AV.fn (Go.Fn.func (176 : Nat)) [] [AV.cptr [AV.fn (Go.Fn.func (167 : Nat)) [] []] (0 : Nat)], AV.fn (Go.Fn.func (178 : Nat)) [] [AV.cptr [AV.fn (Go.Fn.func (167 : Nat)) [] []] (0 : Nat)]] :: vs).length : Int))) then some (.tup [zeroDo, (.agg [(.int .i64 253), (.int .i64 ((↑s4.length : Int)))])])
   else none
  else bif (decide ((3 : Int) > Go.IntKind.i64.wrap ((↑xs3.length : Int) + (1 : Int)))) then bif (decide (Go.IntKind.i64.wrap ((↑xs3.length : Int) + (1 : Int)) < (3 : Int))) then bif (decide ((0 : Int) ≤ Go.IntKind.i64.wrap ((↑xs3.length : Int) + (1 : Int)))) then bif (decide (Go.IntKind.i64.wrap ((↑xs3.length : Int) + (1 : Int)) < (↑(3 : Nat) : Int))) then bif (Nat.blt (3 : Nat) (([y0, y1, y2].getD (Go.IntKind.i64.wrap ((↑xs3.length : Int) + (1 : Int))).toNat AV.top).cells.getD []).length) then bif (isI Go.IntKind.i64 ((([y0, y1, y2].getD (Go.IntKind.i64.wrap ((↑xs3.length : Int) + (1 : Int))).toNat AV.top).cells.getD []).getD (3 : Nat) AV.top)) then some (.tup [zeroDo, (.agg [(.int .i64 253), (.int .i64 (toI ((([y0, y1, y2].getD (Go.IntKind.i64.wrap ((↑xs3.length : Int) + (1 : Int))).toNat AV.top).cells.getD []).getD (3 : Nat) AV.top)))])])
        else none
       else none
      else none
     else none
    else some (.tup [zeroDo, (.agg [(.int .i64 253), (.int .i64 ((↑s4.length : Int)))])])
   else some (.tup [(.agg [(.int .i64 i20), (.str s21), (.str s22), (.str s23), (.raw (.slice .none 0 0)), (.int .i64 i24), (.int .i64 i25), (.int .i64 i26)]), (.agg [(.int .i64 0), (.int .i64 0)])]) := by unfold L_script_Read_0; rw [runL_round]; kernel_rfl
theorem rd_end_0 (n m0 : Nat) (vs : List AV) (y0 : AV) (s4 : List UInt8) (i15 : Int) (i16 : Int) (s17 : List UInt8) (i18 : Int) (kf : Nat) (i20 : Int) (s21 : List UInt8) (s22 : List UInt8) (s23 : List UInt8) (i24 : Int) (i25 : Int) (i26 : Int) : L_script_Read_0 n (m0 + 1) 0 vs 0 [] s4 0 [] [] [] 0 0 0 0 0 [y0] i15 i16 s17 i18 (.fn (.func kf) [] []) i20 s21 s22 s23 i24 i25 i26 =
  some (.tup [(.agg [(.int .i64 i20), (.str s21), (.str s22), (.str s23), (.raw (.slice .none 0 0)), (.int .i64 i24), (.int .i64 i25), (.int .i64 i26)]), (.agg [(.int .i64 0), (.int .i64 0)])]) := by unfold L_script_Read_0; rw [runL_round]; kernel_rfl
theorem rd_end_0m (n m0 : Nat) (vs : List AV) (y0 : AV) (s4 : List UInt8) (i15 : Int) (i16 : Int) (s17 : List UInt8) (i18 : Int) (kf : Nat) (i20 : Int) (s21 : List UInt8) (s22 : List UInt8) (s23 : List UInt8) (i24 : Int) (i25 : Int) (i26 : Int) (k1 : Int) (t1 : List UInt8) (n1 : Int) (a1 : Int) (e1 : Int) (r : List AV) : L_script_Read_0 n (m0 + 1) 0 vs 0 [] s4 0 [] [] [] 0 0 0 0 0 (y0 :: (.agg [(.int .i64 k1), (.str t1), (.int .i64 n1), (.int .i64 a1), (.int .i64 e1)]) :: r) i15 i16 s17 i18 (.fn (.func kf) [] []) i20 s21 s22 s23 i24 i25 i26 =
  bif (decide ((↑(y0 :: AV.agg [AV.int Go.IntKind.i64 k1, AV.str t1, AV.int Go.IntKind.i64 n1, AV.int Go.IntKind.i64 a1, AV.int Go.IntKind.i64 e1] :: r).length : Int) > (1 : Int))) then bif (decide ((1 : Int) < (↑(y0 :: AV.agg [AV.int Go.IntKind.i64 k1, AV.str t1, AV.int Go.IntKind.i64 n1, AV.int Go.IntKind.i64 a1, AV.int Go.IntKind.i64 e1] :: r).length : Int))) then bif (decide ((1 : Int) < (↑(y0 :: AV.agg [AV.int Go.IntKind.i64 k1, AV.str t1, AV.int Go.IntKind.i64 n1, AV.int Go.IntKind.i64 a1, AV.int Go.IntKind.i64 e1] :: r).length : Int))) then some (.tup [zeroDo, (.agg [(.int .i64 253), (.int .i64 a1)])])
    else none
   else some (.tup [zeroDo, (.agg [(.int .i64 253), (.int .i64 ((↑s4.length : Int)))])])
  else some (.tup [(.agg [(.int .i64 i20), (.str s21), (.str s22), (.str s23), (.raw (.slice .none 0 0)), (.int .i64 i24), (.int .i64 i25), (.int .i64 i26)]), (.agg [(.int .i64 0), (.int .i64 0)])]) := by unfold L_script_Read_0; rw [runL_round]; kernel_rfl
theorem rd_end_1 (n m0 : Nat) (vs : List AV) (u0 : AV) (y0 : AV) (y1 : AV) (s4 : List UInt8) (i15 : Int) (i16 : Int) (s17 : List UInt8) (i18 : Int) (kf : Nat) (i20 : Int) (s21 : List UInt8) (s22 : List UInt8) (s23 : List UInt8) (i24 : Int) (i25 : Int) (i26 : Int) : L_script_Read_0 n (m0 + 1) 1 vs 1 [u0] s4 0 [] [] [] 0 0 0 0 0 [y0, y1] i15 i16 s17 i18 (.fn (.func kf) [] []) i20 s21 s22 s23 i24 i25 i26 =
  some (.tup [(.agg [(.int .i64 i20), (.str s21), (.str s22), (.str s23), (.raw (.slice .none 0 0)), (.int .i64 i24), (.int .i64 i25), (.int .i64 i26)]), (.agg [(.int .i64 0), (.int .i64 0)])]) := by unfold L_script_Read_0; rw [runL_round]; kernel_rfl
theorem rd_end_1m (n m0 : Nat) (vs : List AV) (u0 : AV) (y0 : AV) (y1 : AV) (s4 : List UInt8) (i15 : Int) (i16 : Int) (s17 : List UInt8) (i18 : Int) (kf : Nat) (i20 : Int) (s21 : List UInt8) (s22 : List UInt8) (s23 : List UInt8) (i24 : Int) (i25 : Int) (i26 : Int) (k1 : Int) (t1 : List UInt8) (n1 : Int) (a1 : Int) (e1 : Int) (r : List AV) : L_script_Read_0 n (m0 + 1) 1 vs 1 [u0] s4 0 [] [] [] 0 0 0 0 0 (y0 :: y1 :: (.agg [(.int .i64 k1), (.str t1), (.int .i64 n1), (.int .i64 a1), (.int .i64 e1)]) :: r) i15 i16 s17 i18 (.fn (.func kf) [] []) i20 s21 s22 s23 i24 i25 i26 =
  bif (decide ((↑(y0 :: y1 :: AV.agg [AV.int Go.IntKind.i64 k1, AV.str t1, AV.int Go.IntKind.i64 n1, AV.int Go.IntKind.i64 a1, AV.int Go.IntKind.i64 e1] :: r).length : Int) > (2 : Int))) then bif (decide ((2 : Int) < (↑(y0 :: y1 :: AV.agg [AV.int Go.IntKind.i64 k1, AV.str t1, AV.int Go.IntKind.i64 n1, AV.int Go.IntKind.i64 a1, AV.int Go.IntKind.i64 e1] :: r).length : Int))) then bif (decide ((2 : Int) < (↑(y0 :: y1 :: AV.agg [AV.int Go.IntKind.i64 k1, AV.str t1, AV.int Go.IntKind.i64 n1, AV.int Go.IntKind.i64 a1, AV.int Go.IntKind.i64 e1] :: r).length : Int))) then some (.tup [zeroDo, (.agg [(.int .i64 253), (.int .i64 a1)])])
    else none
   else some (.tup [zeroDo, (.agg [(.int .i64 253), (.int .i64 ((↑s4.length : Int)))])])
  else some (.tup [(.agg [(.int .i64 i20), (.str s21), (.str s22), (.str s23), (.raw (.slice .none 0 0)), (.int .i64 i24), (.int .i64 i25), (.int .i64 i26)]), (.agg [(.int .i64 0), (.int .i64 0)])]) := by unfold L_script_Read_0; rw [runL_round]; kernel_rfl
theorem rd_end_2 (n m0 : Nat) (vs : List AV) (u0 : AV) (u1 : AV) (y0 : AV) (y1 : AV) (y2 : AV) (s4 : List UInt8) (i15 : Int) (i16 : Int) (s17 : List UInt8) (i18 : Int) (kf : Nat) (i20 : Int) (s21 : List UInt8) (s22 : List UInt8) (s23 : List UInt8) (i24 : Int) (i25 : Int) (i26 : Int) : L_script_Read_0 n (m0 + 1) 2 vs 2 [u0, u1] s4 0 [] [] [] 0 0 0 0 0 [y0, y1, y2] i15 i16 s17 i18 (.fn (.func kf) [] []) i20 s21 s22 s23 i24 i25 i26 =
  some (.tup [(.agg [(.int .i64 i20), (.str s21), (.str s22), (.str s23), (.raw (.slice .none 0 0)), (.int .i64 i24), (.int .i64 i25), (.int .i64 i26)]), (.agg [(.int .i64 0), (.int .i64 0)])]) := by unfold L_script_Read_0; rw [runL_round]; kernel_rfl
theorem rd_end_2m (n m0 : Nat) (vs : List AV) (u0 : AV) (u1 : AV) (y0 : AV) (y1 : AV) (y2 : AV) (s4 : List UInt8) (i15 : Int) (i16 : Int) (s17 : List UInt8) (i18 : Int) (kf : Nat) (i20 : Int) (s21 : List UInt8) (s22 : List UInt8) (s23 : List UInt8) (i24 : Int) (i25 : Int) (i26 : Int) (k1 : Int) (t1 : List UInt8) (n1 : Int) (a1 : Int) (e1 : Int) (r : List AV) : L_script_Read_0 n (m0 + 1) 2 vs 2 [u0, u1] s4 0 [] [] [] 0 0 0 0 0 (y0 :: y1 :: y2 :: (.agg [(.int .i64 k1), (.str t1), (.int .i64 n1), (.int .i64 a1), (.int .i64 e1)]) :: r) i15 i16 s17 i18 (.fn (.func kf) [] []) i20 s21 s22 s23 i24 i25 i26 =
  bif (decide ((↑(y0 :: y1 :: y2 :: AV.agg [AV.int Go.IntKind.i64 k1, AV.str t1, AV.int Go.IntKind.i64 n1, AV.int Go.IntKind.i64 a1, AV.int Go.IntKind.i64 e1] :: r).length : Int) > (3 : Int))) then bif (decide ((3 : Int) < (↑(y0 :: y1 :: y2 :: AV.agg [AV.int Go.IntKind.i64 k1, AV.str t1, AV.int Go.IntKind.i64 n1, AV.int Go.IntKind.i64 a1, AV.int Go.IntKind.i64 e1] :: r).length : Int))) then bif (decide ((3 : Int) < (↑(y0 :: y1 :: y2 :: AV.agg [AV.int Go.IntKind.i64 k1, AV.str t1, AV.int Go.IntKind.i64 n1, AV.int Go.IntKind.i64 a1, AV.int Go.IntKind.i64 e1] :: r).length : Int))) then some (.tup [zeroDo, (.agg [(.int .i64 253), (.int .i64 a1)])])
    else none
   else some (.tup [zeroDo, (.agg [(.int .i64 253), (.int .i64 ((↑s4.length : Int)))])])
  else some (.tup [(.agg [(.int .i64 i20), (.str s21), (.str s22), (.str s23), (.raw (.slice .none 0 0)), (.int .i64 i24), (.int .i64 i25), (.int .i64 i26)]), (.agg [(.int .i64 0), (.int .i64 0)])]) := by unfold L_script_Read_0; rw [runL_round]; kernel_rfl
theorem rd_end_3 (n m0 : Nat) (vs : List AV) (u0 : AV) (u1 : AV) (u2 : AV) (y0 : AV) (y1 : AV) (y2 : AV) (y3 : AV) (s4 : List UInt8) (i15 : Int) (i16 : Int) (s17 : List UInt8) (i18 : Int) (kf : Nat) (i20 : Int) (s21 : List UInt8) (s22 : List UInt8) (s23 : List UInt8) (i24 : Int) (i25 : Int) (i26 : Int) : L_script_Read_0 n (m0 + 1) 3 vs 3 [u0, u1, u2] s4 0 [] [] [] 0 0 0 0 0 [y0, y1, y2, y3] i15 i16 s17 i18 (.fn (.func kf) [] []) i20 s21 s22 s23 i24 i25 i26 =
  some (.tup [(.agg [(.int .i64 i20), (.str s21), (.str s22), (.str s23), (.raw (.slice .none 0 0)), (.int .i64 i24), (.int .i64 i25), (.int .i64 i26)]), (.agg [(.int .i64 0), (.int .i64 0)])]) := by unfold L_script_Read_0; rw [runL_round]; kernel_rfl
theorem rd_end_3m (n m0 : Nat) (vs : List AV) (u0 : AV) (u1 : AV) (u2 : AV) (y0 : AV) (y1 : AV) (y2 : AV) (y3 : AV) (s4 : List UInt8) (i15 : Int) (i16 : Int) (s17 : List UInt8) (i18 : Int) (kf : Nat) (i20 : Int) (s21 : List UInt8) (s22 : List UInt8) (s23 : List UInt8) (i24 : Int) (i25 : Int) (i26 : Int) (k1 : Int) (t1 : List UInt8) (n1 : Int) (a1 : Int) (e1 : Int) (r : List AV) : L_script_Read_0 n (m0 + 1) 3 vs 3 [u0, u1, u2] s4 0 [] [] [] 0 0 0 0 0 (y0 :: y1 :: y2 :: y3 :: (.agg [(.int .i64 k1), (.str t1), (.int .i64 n1), (.int .i64 a1), (.int .i64 e1)]) :: r) i15 i16 s17 i18 (.fn (.func kf) [] []) i20 s21 s22 s23 i24 i25 i26 =
  bif (decide ((↑(y0 :: y1 :: y2 :: y3 :: AV.agg [AV.int Go.IntKind.i64 k1, AV.str t1, AV.int Go.IntKind.i64 n1, AV.int Go.IntKind.i64 a1, AV.int Go.IntKind.i64 e1] :: r).length : Int) > (4 : Int))) then bif (decide ((4 : Int) < (↑(y0 :: y1 :: y2 :: y3 :: AV.agg [AV.int Go.IntKind.i64 k1, AV.str t1, AV.int Go.IntKind.i64 n1, AV.int Go.IntKind.i64 a1, AV.int Go.IntKind.i64 e1] :: r).length : Int))) then bif (decide ((4 : Int) < (↑(y0 :: y1 :: y2 :: y3 :: AV.agg [AV.int Go.IntKind.i64 k1, AV.str t1, AV.int Go.IntKind.i64 n1, AV.int Go.IntKind.i64 a1, AV.int Go.IntKind.i64 e1] :: r).length : Int))) then some (.tup [zeroDo, (.agg [(.int .i64 253), (.int .i64 a1)])])
    else none
   else some (.tup [zeroDo, (.agg [(.int .i64 253), (.int .i64 ((↑s4.length : Int)))])])
  else some (.tup [(.agg [(.int .i64 i20), (.str s21), (.str s22), (.str s23), (.raw (.slice .none 0 0)), (.int .i64 i24), (.int .i64 i25), (.int .i64 i26)]), (.agg [(.int .i64 0), (.int .i64 0)])]) := by unfold L_script_Read_0; rw [runL_round]; kernel_rfl
theorem rd_end_1v (n m0 : Nat) (vs : List AV) (u0 : AV) (y0 : AV) (y1 : AV) (s4 : List UInt8) (i15 : Int) (i16 : Int) (s17 : List UInt8) (i18 : Int) (kf : Nat) (i20 : Int) (s21 : List UInt8) (s22 : List UInt8) (s23 : List UInt8) (i24 : Int) (i25 : Int) (i26 : Int) (ws : List AV) : L_script_Read_0_1 n (m0 + 1) 1 vs 1 [u0] s4 0 [] [] [] 0 0 0 0 0 [y0, y1] i15 i16 s17 i18 (.fn (.func kf) [] []) i20 s21 s22 s23 ws i24 i25 i26 =
  some (.tup [(.agg [(.int .i64 i20), (.str s21), (.str s22), (.str s23), (.view 1 ws), (.int .i64 i24), (.int .i64 i25), (.int .i64 i26)]), (.agg [(.int .i64 0), (.int .i64 0)])]) := by unfold L_script_Read_0_1; rw [runL_round]; kernel_rfl
theorem rd_end_1mv (n m0 : Nat) (vs : List AV) (u0 : AV) (y0 : AV) (y1 : AV) (s4 : List UInt8) (i15 : Int) (i16 : Int) (s17 : List UInt8) (i18 : Int) (kf : Nat) (i20 : Int) (s21 : List UInt8) (s22 : List UInt8) (s23 : List UInt8) (i24 : Int) (i25 : Int) (i26 : Int) (k1 : Int) (t1 : List UInt8) (n1 : Int) (a1 : Int) (e1 : Int) (r : List AV) (ws : List AV) : L_script_Read_0_1 n (m0 + 1) 1 vs 1 [u0] s4 0 [] [] [] 0 0 0 0 0 (y0 :: y1 :: (.agg [(.int .i64 k1), (.str t1), (.int .i64 n1), (.int .i64 a1), (.int .i64 e1)]) :: r) i15 i16 s17 i18 (.fn (.func kf) [] []) i20 s21 s22 s23 ws i24 i25 i26 =
  bif (decide ((↑(y0 :: y1 :: AV.agg [AV.int Go.IntKind.i64 k1, AV.str t1, AV.int Go.IntKind.i64 n1, AV.int Go.IntKind.i64 a1, AV.int Go.IntKind.i64 e1] :: r).length : Int) > (2 : Int))) then bif (decide ((2 : Int) < (↑(y0 :: y1 :: AV.agg [AV.int Go.IntKind.i64 k1, AV.str t1, AV.int Go.IntKind.i64 n1, AV.int Go.IntKind.i64 a1, AV.int Go.IntKind.i64 e1] :: r).length : Int))) then bif (decide ((2 : Int) < (↑(y0 :: y1 :: AV.agg [AV.int Go.IntKind.i64 k1, AV.str t1, AV.int Go.IntKind.i64 n1, AV.int Go.IntKind.i64 a1, AV.int Go.IntKind.i64 e1] :: r).length : Int))) then some (.tup [zeroDo, (.agg [(.int .i64 253), (.int .i64 a1)])])
    else none
   else some (.tup [zeroDo, (.agg [(.int .i64 253), (.int .i64 ((↑s4.length : Int)))])])
  else some (.tup [(.agg [(.int .i64 i20), (.str s21), (.str s22), (.str s23), (.view 1 ws), (.int .i64 i24), (.int .i64 i25), (.int .i64 i26)]), (.agg [(.int .i64 0), (.int .i64 0)])]) := by unfold L_script_Read_0_1; rw [runL_round]; kernel_rfl
/-- The place of the first token, or the end. -/
def at0 (s : List UInt8) : Option AV := bif (decide ((0 : Int) < (↑(List.map tokA (Sp.cutL s (↑s.length : Int))).length : Int))) then bif (decide ((0 : Int) < (↑(List.map tokA (Sp.cutL s (↑s.length : Int))).length : Int))) then bif (Nat.blt (3 : Nat) (((List.map tokA (Sp.cutL s (↑s.length : Int))).getD (0 : Nat) AV.top).cells.getD []).length) then bif (isI Go.IntKind.i64 ((((List.map tokA (Sp.cutL s (↑s.length : Int))).getD (0 : Nat) AV.top).cells.getD []).getD (3 : Nat) AV.top)) then some (.tup [zeroDo, (.agg [(.int .i64 252), (.int .i64 (toI ((((List.map tokA (Sp.cutL s (↑s.length : Int))).getD (0 : Nat) AV.top).cells.getD []).getD (3 : Nat) AV.top)))])])
             else none
            else none
           else none
          else some (.tup [zeroDo, (.agg [(.int .i64 252), (.int .i64 ((↑s.length : Int)))])])
/-- The loop over the parts of a row. -/
noncomputable def leafR (n : Nat) (s nm : List UInt8) (kd : Int) (f : Nat) (ps : List Scr.P) : Option AV := L_script_Read_0 n (n + 11) ps.length (ps.map fun p => .agg (partP p)) 0 (ps.map fun p => .agg (partP p)) s 0 [] [] [] 0 0 0 0 0 (List.map tokA (Sp.cutL s (↑s.length : Int))) ((Sp.cut s (↑s.length : Int)).e) ((Sp.cut s (↑s.length : Int)).p) nm kd (.fn (.func f) [] []) kd [] [] [] 0 0 0
noncomputable def readBy (n : Nat) (s w : List UInt8) : List (List UInt8 × Int × Nat × List Scr.P) → Option AV
  | [] => at0 s
  | (nm, kd, f, ps) :: l => bif nm == w then leafR n s nm kd f ps else readBy n s w l
theorem e_script_Read (n : Nat) (s : List UInt8) : runA Tryd.prog (X 76) (n + 12) 15 [(.str s)] =
  bif (decide ((↑s.length : Int) > (65536 : Int))) then some (.tup [zeroDo, (.agg [(.int .i64 251), (.int .i64 0)])])
  else bif (Sp.short s) then bif ((Sp.cut s (↑s.length : Int)).e != (0 : Int)) then some (.tup [zeroDo, (.agg [(.int .i64 ((Sp.cut s (↑s.length : Int)).e)), (.int .i64 ((Sp.cut s (↑s.length : Int)).p))])])
    else bif ((↑(List.map tokA (Sp.cutL s (↑s.length : Int))).length : Int) == (0 : Int)) then bif (decide ((0 : Int) < (↑(List.map tokA (Sp.cutL s (↑s.length : Int))).length : Int))) then bif (decide ((0 : Int) < (↑(List.map tokA (Sp.cutL s (↑s.length : Int))).length : Int))) then bif (Nat.blt (3 : Nat) (((List.map tokA (Sp.cutL s (↑s.length : Int))).getD (0 : Nat) AV.top).cells.getD []).length) then bif (isI Go.IntKind.i64 ((((List.map tokA (Sp.cutL s (↑s.length : Int))).getD (0 : Nat) AV.top).cells.getD []).getD (3 : Nat) AV.top)) then some (.tup [zeroDo, (.agg [(.int .i64 252), (.int .i64 (toI ((((List.map tokA (Sp.cutL s (↑s.length : Int))).getD (0 : Nat) AV.top).cells.getD []).getD (3 : Nat) AV.top)))])])
         else none
        else none
       else none
      else some (.tup [zeroDo, (.agg [(.int .i64 252), (.int .i64 ((↑s.length : Int)))])])
     else bif (decide ((0 : Int) < (↑(List.map tokA (Sp.cutL s (↑s.length : Int))).length : Int))) then bif (Nat.blt (0 : Nat) (((List.map tokA (Sp.cutL s (↑s.length : Int))).getD (0 : Nat) AV.top).cells.getD []).length) then bif (isI Go.IntKind.i64 ((((List.map tokA (Sp.cutL s (↑s.length : Int))).getD (0 : Nat) AV.top).cells.getD []).getD (0 : Nat) AV.top)) then bif (toI ((((List.map tokA (Sp.cutL s (↑s.length : Int))).getD (0 : Nat) AV.top).cells.getD []).getD (0 : Nat) AV.top) != (1 : Int)) then at0 s
         else bif (decide ((0 : Int) < (↑(List.map tokA (Sp.cutL s (↑s.length : Int))).length : Int))) then bif (Nat.blt (1 : Nat) (((List.map tokA (Sp.cutL s (↑s.length : Int))).getD (0 : Nat) AV.top).cells.getD []).length) then bif (isS ((((List.map tokA (Sp.cutL s (↑s.length : Int))).getD (0 : Nat) AV.top).cells.getD []).getD (1 : Nat) AV.top)) then readBy n s (toS ((((List.map tokA (Sp.cutL s (↑s.length : Int))).getD (0 : Nat) AV.top).cells.getD []).getD (1 : Nat) AV.top)) rowsQ  else none else none else none else none else none else none else none := by kernel_rfl
end Go.Proofs.YtgeheffhdpeddaaDoor.VX

/- PLAIN: script.Read comes to what the plain function reads. Printed in part by genplrd.py. Conditions: as each theorem states. -/
namespace Go.Proofs.YtgeheffhdpeddaaDoor.VX
open Go Go.Proofs Go.Proofs.YtgeheffhdpeddaaDoor
/-- The loop over the parts, its bytes not written yet. -/
noncomputable def RL (n m : Nat) (s nm : List UInt8) (e q kd : Int) (f : Nat) (len : Int) (xs xs3 : List AV) (i : Int) (l : List AV) (d : Scr.D) : Option AV :=
  L_script_Read_0 n m len xs i xs3 s 0 [] [] [] 0 0 0 0 0 l e q nm kd (.fn (.func f) [] []) d.kind (Sp.tb d.who) (Sp.tb d.to) (Sp.tb d.text) d.n d.m d.k
def badR (e p : Int) : AV := .tup [zeroDo, .agg [.int .i64 e, .int .i64 p]]
def rawB (d : Scr.D) : AV := .agg [.int .i64 d.kind, .str (Sp.tb d.who), .str (Sp.tb d.to), .str (Sp.tb d.text), .raw (.slice none 0 0), .int .i64 d.n, .int .i64 d.m, .int .i64 d.k]
def encR (r : Scr.R) : AV := .tup [rawB r.d, .agg [.int .i64 r.e, .int .i64 r.p]]
theorem fit1 {k : Int} (h : k = 1) : Scr.fits .w k = true := by subst h; rfl
theorem sh_w0 (n m : Nat) (s nm : List UInt8) (e q kd : Int) (f : Nat) (len : Int) (vs xs3 : List AV) (t0 : Tk.Tok) (d : Scr.D) (h : 0 < len) : RL n (m + 1) s nm e q kd f len (.agg (partP .w) :: vs) xs3 0 (List.map tokA [t0]) d = some (badR 253 s.length) := by
  refine (rd_short_w0 n m len vs xs3  (tokA t0) s e q nm kd f d.kind (Sp.tb d.who) (Sp.tb d.to) (Sp.tb d.text) d.n d.m d.k).trans ?_
  simp only [List.length_cons, List.length_map]
  rw [lt_t h, lt_t (a := 0) (b := ((vs.length + 1 : Nat) : Int)) (by omega)]
  rfl
theorem tk_w0 (n m : Nat) (s nm : List UInt8) (e q kd : Int) (f : Nat) (len : Int) (vs xs3 : List AV) (t0 : Tk.Tok) (d : Scr.D) (h : 0 < len) (t : Tk.Tok) (ts : List Tk.Tok) : RL n (m + 1) s nm e q kd f len (.agg (partP .w) :: vs) xs3 0 (List.map tokA (t0 :: t :: ts)) d =
    bif Scr.fits .w t.k then RL n m s nm e q kd f len (.agg (partP .w) :: vs) xs3 1 (List.map tokA (t0 :: t :: ts)) (Scr.put d .w t) else some (badR 253 t.at_) := by
  refine (rd_take_w0 n m len vs xs3  (tokA t0) s e q nm kd f d.kind (Sp.tb d.who) (Sp.tb d.to) (Sp.tb d.text) d.n d.m d.k t.k (Sp.tb t.t) t.n t.at_ t.e (ts.map tokA)).trans ?_
  simp only [List.length_cons, List.length_map]
  rw [lt_t h, lt_t (a := 0) (b := ((vs.length + 1 : Nat) : Int)) (by omega), lt_t (a := 1) (b := ((ts.length + 1 + 1 : Nat) : Int)) (by omega)]
  simp only [cond_true]
  by_cases h1 : t.k = 1
  · rw [eq_t h1, show Scr.fits .w t.k = true from by rw [h1]; rfl]; simp only [cond_true, cond_false, Bool.not_true, Bool.not_false]; rfl
  · rw [eq_f h1]
    by_cases h3 : t.k = 3
    · rw [eq_t h3, show Scr.fits .w t.k = true from by rw [h3]; rfl]; simp only [cond_true, cond_false, Bool.not_true, Bool.not_false]; rfl
    · rw [eq_f h3, show Scr.fits .w t.k = false from by simp [Scr.fits, h1, h3]]; simp only [cond_true, cond_false, Bool.not_true, Bool.not_false]; rfl
theorem sh_n0 (n m : Nat) (s nm : List UInt8) (e q kd : Int) (f : Nat) (len : Int) (vs xs3 : List AV) (t0 : Tk.Tok) (d : Scr.D) (h : 0 < len) : RL n (m + 1) s nm e q kd f len (.agg (partP .n) :: vs) xs3 0 (List.map tokA [t0]) d = some (badR 253 s.length) := by
  refine (rd_short_n0 n m len vs xs3  (tokA t0) s e q nm kd f d.kind (Sp.tb d.who) (Sp.tb d.to) (Sp.tb d.text) d.n d.m d.k).trans ?_
  simp only [List.length_cons, List.length_map]
  rw [lt_t h, lt_t (a := 0) (b := ((vs.length + 1 : Nat) : Int)) (by omega)]
  rfl
theorem tk_n0 (n m : Nat) (s nm : List UInt8) (e q kd : Int) (f : Nat) (len : Int) (vs xs3 : List AV) (t0 : Tk.Tok) (d : Scr.D) (h : 0 < len) (t : Tk.Tok) (ts : List Tk.Tok) : RL n (m + 1) s nm e q kd f len (.agg (partP .n) :: vs) xs3 0 (List.map tokA (t0 :: t :: ts)) d =
    bif Scr.fits .n t.k then RL n m s nm e q kd f len (.agg (partP .n) :: vs) xs3 1 (List.map tokA (t0 :: t :: ts)) (Scr.put d .n t) else some (badR 253 t.at_) := by
  refine (rd_take_n0 n m len vs xs3  (tokA t0) s e q nm kd f d.kind (Sp.tb d.who) (Sp.tb d.to) (Sp.tb d.text) d.n d.m d.k t.k (Sp.tb t.t) t.n t.at_ t.e (ts.map tokA)).trans ?_
  simp only [List.length_cons, List.length_map]
  rw [lt_t h, lt_t (a := 0) (b := ((vs.length + 1 : Nat) : Int)) (by omega), lt_t (a := 1) (b := ((ts.length + 1 + 1 : Nat) : Int)) (by omega)]
  simp only [cond_true]
  by_cases h1 : t.k = 4
  · rw [eq_t h1, show Scr.fits .n t.k = true from by rw [h1]; rfl]; simp only [cond_true, cond_false, Bool.not_true, Bool.not_false]; rfl
  · rw [eq_f h1, show Scr.fits .n t.k = false from by simp [Scr.fits, h1]]; simp only [cond_true, cond_false, Bool.not_true, Bool.not_false]; rfl
theorem sh_t1 (n m : Nat) (s nm : List UInt8) (e q kd : Int) (f : Nat) (len : Int) (vs xs3 : List AV) (u0 : AV) (t0 t1 : Tk.Tok) (d : Scr.D) (h : 1 < len) : RL n (m + 1) s nm e q kd f len (u0 :: .agg (partP .t) :: vs) xs3 1 (List.map tokA [t0, t1]) d = some (badR 253 s.length) := by
  refine (rd_short_t1 n m len vs xs3 u0 (tokA t0) (tokA t1) s e q nm kd f d.kind (Sp.tb d.who) (Sp.tb d.to) (Sp.tb d.text) d.n d.m d.k).trans ?_
  simp only [List.length_cons, List.length_map]
  rw [lt_t h, lt_t (a := 1) (b := ((vs.length + 1 + 1 : Nat) : Int)) (by omega)]
  rfl
theorem tk_t1 (n m : Nat) (s nm : List UInt8) (e q kd : Int) (f : Nat) (len : Int) (vs xs3 : List AV) (u0 : AV) (t0 t1 : Tk.Tok) (d : Scr.D) (h : 1 < len) (t : Tk.Tok) (ts : List Tk.Tok) : RL n (m + 1) s nm e q kd f len (u0 :: .agg (partP .t) :: vs) xs3 1 (List.map tokA (t0 :: t1 :: t :: ts)) d =
    bif Scr.fits .t t.k then RL n m s nm e q kd f len (u0 :: .agg (partP .t) :: vs) xs3 2 (List.map tokA (t0 :: t1 :: t :: ts)) (Scr.put d .t t) else some (badR 253 t.at_) := by
  refine (rd_take_t1 n m len vs xs3 u0 (tokA t0) (tokA t1) s e q nm kd f d.kind (Sp.tb d.who) (Sp.tb d.to) (Sp.tb d.text) d.n d.m d.k t.k (Sp.tb t.t) t.n t.at_ t.e (ts.map tokA)).trans ?_
  simp only [List.length_cons, List.length_map]
  rw [lt_t h, lt_t (a := 1) (b := ((vs.length + 1 + 1 : Nat) : Int)) (by omega), lt_t (a := 2) (b := ((ts.length + 1 + 1 + 1 : Nat) : Int)) (by omega)]
  simp only [cond_true]
  by_cases h1 : t.k = 3
  · rw [eq_t h1, show Scr.fits .t t.k = true from by rw [h1]; rfl]; simp only [cond_true, cond_false, Bool.not_true, Bool.not_false]; rfl
  · rw [eq_f h1, show Scr.fits .t t.k = false from by simp [Scr.fits, h1]]; simp only [cond_true, cond_false, Bool.not_true, Bool.not_false]; rfl
theorem sh_n1 (n m : Nat) (s nm : List UInt8) (e q kd : Int) (f : Nat) (len : Int) (vs xs3 : List AV) (u0 : AV) (t0 t1 : Tk.Tok) (d : Scr.D) (h : 1 < len) : RL n (m + 1) s nm e q kd f len (u0 :: .agg (partP .n) :: vs) xs3 1 (List.map tokA [t0, t1]) d = some (badR 253 s.length) := by
  refine (rd_short_n1 n m len vs xs3 u0 (tokA t0) (tokA t1) s e q nm kd f d.kind (Sp.tb d.who) (Sp.tb d.to) (Sp.tb d.text) d.n d.m d.k).trans ?_
  simp only [List.length_cons, List.length_map]
  rw [lt_t h, lt_t (a := 1) (b := ((vs.length + 1 + 1 : Nat) : Int)) (by omega)]
  rfl
theorem tk_n1 (n m : Nat) (s nm : List UInt8) (e q kd : Int) (f : Nat) (len : Int) (vs xs3 : List AV) (u0 : AV) (t0 t1 : Tk.Tok) (d : Scr.D) (h : 1 < len) (t : Tk.Tok) (ts : List Tk.Tok) : RL n (m + 1) s nm e q kd f len (u0 :: .agg (partP .n) :: vs) xs3 1 (List.map tokA (t0 :: t1 :: t :: ts)) d =
    bif Scr.fits .n t.k then RL n m s nm e q kd f len (u0 :: .agg (partP .n) :: vs) xs3 2 (List.map tokA (t0 :: t1 :: t :: ts)) (Scr.put d .n t) else some (badR 253 t.at_) := by
  refine (rd_take_n1 n m len vs xs3 u0 (tokA t0) (tokA t1) s e q nm kd f d.kind (Sp.tb d.who) (Sp.tb d.to) (Sp.tb d.text) d.n d.m d.k t.k (Sp.tb t.t) t.n t.at_ t.e (ts.map tokA)).trans ?_
  simp only [List.length_cons, List.length_map]
  rw [lt_t h, lt_t (a := 1) (b := ((vs.length + 1 + 1 : Nat) : Int)) (by omega), lt_t (a := 2) (b := ((ts.length + 1 + 1 + 1 : Nat) : Int)) (by omega)]
  simp only [cond_true]
  by_cases h1 : t.k = 4
  · rw [eq_t h1, show Scr.fits .n t.k = true from by rw [h1]; rfl]; simp only [cond_true, cond_false, Bool.not_true, Bool.not_false]; rfl
  · rw [eq_f h1, show Scr.fits .n t.k = false from by simp [Scr.fits, h1]]; simp only [cond_true, cond_false, Bool.not_true, Bool.not_false]; rfl
theorem sh_o1 (n m : Nat) (s nm : List UInt8) (e q kd : Int) (f : Nat) (len : Int) (vs xs3 : List AV) (u0 : AV) (t0 t1 : Tk.Tok) (d : Scr.D) (h : 1 < len) : RL n (m + 1) s nm e q kd f len (u0 :: .agg (partP .o) :: vs) xs3 1 (List.map tokA [t0, t1]) d = some (badR 253 s.length) := by
  refine (rd_short_o1 n m len vs xs3 u0 (tokA t0) (tokA t1) s e q nm kd f d.kind (Sp.tb d.who) (Sp.tb d.to) (Sp.tb d.text) d.n d.m d.k).trans ?_
  simp only [List.length_cons, List.length_map]
  rw [lt_t h, lt_t (a := 1) (b := ((vs.length + 1 + 1 : Nat) : Int)) (by omega)]
  rfl
theorem tk_o1 (n m : Nat) (s nm : List UInt8) (e q kd : Int) (f : Nat) (len : Int) (vs xs3 : List AV) (u0 : AV) (t0 t1 : Tk.Tok) (d : Scr.D) (h : 1 < len) (t : Tk.Tok) (ts : List Tk.Tok) : RL n (m + 1) s nm e q kd f len (u0 :: .agg (partP .o) :: vs) xs3 1 (List.map tokA (t0 :: t1 :: t :: ts)) d =
    bif Scr.fits .o t.k then RL n m s nm e q kd f len (u0 :: .agg (partP .o) :: vs) xs3 2 (List.map tokA (t0 :: t1 :: t :: ts)) (Scr.put d .o t) else some (badR 253 t.at_) := by
  refine (rd_take_o1 n m len vs xs3 u0 (tokA t0) (tokA t1) s e q nm kd f d.kind (Sp.tb d.who) (Sp.tb d.to) (Sp.tb d.text) d.n d.m d.k t.k (Sp.tb t.t) t.n t.at_ t.e (ts.map tokA)).trans ?_
  simp only [List.length_cons, List.length_map]
  rw [lt_t h, lt_t (a := 1) (b := ((vs.length + 1 + 1 : Nat) : Int)) (by omega), lt_t (a := 2) (b := ((ts.length + 1 + 1 + 1 : Nat) : Int)) (by omega)]
  simp only [cond_true]
  by_cases h1 : t.k = 1
  · rw [eq_t h1, show Scr.fits .o t.k = true from by rw [h1]; rfl]; simp only [cond_true, cond_false, Bool.not_true, Bool.not_false]; rfl
  · rw [eq_f h1]
    by_cases h3 : t.k = 3
    · rw [eq_t h3, show Scr.fits .o t.k = true from by rw [h3]; rfl]; simp only [cond_true, cond_false, Bool.not_true, Bool.not_false]; rfl
    · rw [eq_f h3, show Scr.fits .o t.k = false from by simp [Scr.fits, h1, h3]]; simp only [cond_true, cond_false, Bool.not_true, Bool.not_false]; rfl
theorem sh_m1 (n m : Nat) (s nm : List UInt8) (e q kd : Int) (f : Nat) (len : Int) (vs xs3 : List AV) (u0 : AV) (t0 t1 : Tk.Tok) (d : Scr.D) (h : 1 < len) : RL n (m + 1) s nm e q kd f len (u0 :: .agg (partP .m) :: vs) xs3 1 (List.map tokA [t0, t1]) d = some (badR 253 s.length) := by
  refine (rd_short_m1 n m len vs xs3 u0 (tokA t0) (tokA t1) s e q nm kd f d.kind (Sp.tb d.who) (Sp.tb d.to) (Sp.tb d.text) d.n d.m d.k).trans ?_
  simp only [List.length_cons, List.length_map]
  rw [lt_t h, lt_t (a := 1) (b := ((vs.length + 1 + 1 : Nat) : Int)) (by omega)]
  rfl
theorem tk_m1 (n m : Nat) (s nm : List UInt8) (e q kd : Int) (f : Nat) (len : Int) (vs xs3 : List AV) (u0 : AV) (t0 t1 : Tk.Tok) (d : Scr.D) (h : 1 < len) (t : Tk.Tok) (ts : List Tk.Tok) : RL n (m + 1) s nm e q kd f len (u0 :: .agg (partP .m) :: vs) xs3 1 (List.map tokA (t0 :: t1 :: t :: ts)) d =
    bif Scr.fits .m t.k then RL n m s nm e q kd f len (u0 :: .agg (partP .m) :: vs) xs3 2 (List.map tokA (t0 :: t1 :: t :: ts)) (Scr.put d .m t) else some (badR 253 t.at_) := by
  refine (rd_take_m1 n m len vs xs3 u0 (tokA t0) (tokA t1) s e q nm kd f d.kind (Sp.tb d.who) (Sp.tb d.to) (Sp.tb d.text) d.n d.m d.k t.k (Sp.tb t.t) t.n t.at_ t.e (ts.map tokA)).trans ?_
  simp only [List.length_cons, List.length_map]
  rw [lt_t h, lt_t (a := 1) (b := ((vs.length + 1 + 1 : Nat) : Int)) (by omega), lt_t (a := 2) (b := ((ts.length + 1 + 1 + 1 : Nat) : Int)) (by omega)]
  simp only [cond_true]
  by_cases h1 : t.k = 4
  · rw [eq_t h1, show Scr.fits .m t.k = true from by rw [h1]; rfl]; simp only [cond_true, cond_false, Bool.not_true, Bool.not_false]; rfl
  · rw [eq_f h1, show Scr.fits .m t.k = false from by simp [Scr.fits, h1]]; simp only [cond_true, cond_false, Bool.not_true, Bool.not_false]; rfl
theorem sh_n2 (n m : Nat) (s nm : List UInt8) (e q kd : Int) (f : Nat) (len : Int) (vs xs3 : List AV) (u0 u1 : AV) (t0 t1 t2 : Tk.Tok) (d : Scr.D) (h : 2 < len) : RL n (m + 1) s nm e q kd f len (u0 :: u1 :: .agg (partP .n) :: vs) xs3 2 (List.map tokA [t0, t1, t2]) d = some (badR 253 s.length) := by
  refine (rd_short_n2 n m len vs xs3 u0 u1 (tokA t0) (tokA t1) (tokA t2) s e q nm kd f d.kind (Sp.tb d.who) (Sp.tb d.to) (Sp.tb d.text) d.n d.m d.k).trans ?_
  simp only [List.length_cons, List.length_map]
  rw [lt_t h, lt_t (a := 2) (b := ((vs.length + 1 + 1 + 1 : Nat) : Int)) (by omega)]
  rfl
theorem tk_n2 (n m : Nat) (s nm : List UInt8) (e q kd : Int) (f : Nat) (len : Int) (vs xs3 : List AV) (u0 u1 : AV) (t0 t1 t2 : Tk.Tok) (d : Scr.D) (h : 2 < len) (t : Tk.Tok) (ts : List Tk.Tok) : RL n (m + 1) s nm e q kd f len (u0 :: u1 :: .agg (partP .n) :: vs) xs3 2 (List.map tokA (t0 :: t1 :: t2 :: t :: ts)) d =
    bif Scr.fits .n t.k then RL n m s nm e q kd f len (u0 :: u1 :: .agg (partP .n) :: vs) xs3 3 (List.map tokA (t0 :: t1 :: t2 :: t :: ts)) (Scr.put d .n t) else some (badR 253 t.at_) := by
  refine (rd_take_n2 n m len vs xs3 u0 u1 (tokA t0) (tokA t1) (tokA t2) s e q nm kd f d.kind (Sp.tb d.who) (Sp.tb d.to) (Sp.tb d.text) d.n d.m d.k t.k (Sp.tb t.t) t.n t.at_ t.e (ts.map tokA)).trans ?_
  simp only [List.length_cons, List.length_map]
  rw [lt_t h, lt_t (a := 2) (b := ((vs.length + 1 + 1 + 1 : Nat) : Int)) (by omega), lt_t (a := 3) (b := ((ts.length + 1 + 1 + 1 + 1 : Nat) : Int)) (by omega)]
  simp only [cond_true]
  by_cases h1 : t.k = 4
  · rw [eq_t h1, show Scr.fits .n t.k = true from by rw [h1]; rfl]; simp only [cond_true, cond_false, Bool.not_true, Bool.not_false]; rfl
  · rw [eq_f h1, show Scr.fits .n t.k = false from by simp [Scr.fits, h1]]; simp only [cond_true, cond_false, Bool.not_true, Bool.not_false]; rfl
theorem sh_k2 (n m : Nat) (s nm : List UInt8) (e q kd : Int) (f : Nat) (len : Int) (vs xs3 : List AV) (u0 u1 : AV) (t0 t1 t2 : Tk.Tok) (d : Scr.D) (h : 2 < len) : RL n (m + 1) s nm e q kd f len (u0 :: u1 :: .agg (partP .k) :: vs) xs3 2 (List.map tokA [t0, t1, t2]) d = some (badR 253 s.length) := by
  refine (rd_short_k2 n m len vs xs3 u0 u1 (tokA t0) (tokA t1) (tokA t2) s e q nm kd f d.kind (Sp.tb d.who) (Sp.tb d.to) (Sp.tb d.text) d.n d.m d.k).trans ?_
  simp only [List.length_cons, List.length_map]
  rw [lt_t h, lt_t (a := 2) (b := ((vs.length + 1 + 1 + 1 : Nat) : Int)) (by omega)]
  rfl
theorem tk_k2 (n m : Nat) (s nm : List UInt8) (e q kd : Int) (f : Nat) (len : Int) (vs xs3 : List AV) (u0 u1 : AV) (t0 t1 t2 : Tk.Tok) (d : Scr.D) (h : 2 < len) (t : Tk.Tok) (ts : List Tk.Tok) : RL n (m + 1) s nm e q kd f len (u0 :: u1 :: .agg (partP .k) :: vs) xs3 2 (List.map tokA (t0 :: t1 :: t2 :: t :: ts)) d =
    bif Scr.fits .k t.k then RL n m s nm e q kd f len (u0 :: u1 :: .agg (partP .k) :: vs) xs3 3 (List.map tokA (t0 :: t1 :: t2 :: t :: ts)) (Scr.put d .k t) else some (badR 253 t.at_) := by
  refine (rd_take_k2 n m len vs xs3 u0 u1 (tokA t0) (tokA t1) (tokA t2) s e q nm kd f d.kind (Sp.tb d.who) (Sp.tb d.to) (Sp.tb d.text) d.n d.m d.k t.k (Sp.tb t.t) t.n t.at_ t.e (ts.map tokA)).trans ?_
  simp only [List.length_cons, List.length_map]
  rw [lt_t h, lt_t (a := 2) (b := ((vs.length + 1 + 1 + 1 : Nat) : Int)) (by omega), lt_t (a := 3) (b := ((ts.length + 1 + 1 + 1 + 1 : Nat) : Int)) (by omega)]
  simp only [cond_true]
  by_cases h1 : t.k = 4
  · rw [eq_t h1, show Scr.fits .k t.k = true from by rw [h1]; rfl]; simp only [cond_true, cond_false, Bool.not_true, Bool.not_false]; rfl
  · rw [eq_f h1, show Scr.fits .k t.k = false from by simp [Scr.fits, h1]]; simp only [cond_true, cond_false, Bool.not_true, Bool.not_false]; rfl
theorem sh_b0 (n m : Nat) (s nm : List UInt8) (e q kd : Int) (f : Nat) (len : Int) (vs xs3 : List AV) (t0 : Tk.Tok) (d : Scr.D) (h : 0 < len) : RL n (m + 1) s nm e q kd f len (.agg (partP .b) :: vs) xs3 0 (List.map tokA [t0]) d = some (badR 253 s.length) := by
  refine (rd_short_b0 n m len vs xs3  (tokA t0) s e q nm kd f d.kind (Sp.tb d.who) (Sp.tb d.to) (Sp.tb d.text) d.n d.m d.k).trans ?_
  simp only [List.length_cons, List.length_map]
  rw [lt_t h, lt_t (a := 0) (b := ((vs.length + 1 : Nat) : Int)) (by omega)]
  rfl
theorem tk_b0 (n m : Nat) (s nm : List UInt8) (e q kd : Int) (f : Nat) (len : Int) (vs xs3 : List AV) (t0 : Tk.Tok) (d : Scr.D) (h : 0 < len) (t : Tk.Tok) (ts : List Tk.Tok) : RL n (m + 1) s nm e q kd f len (.agg (partP .b) :: vs) xs3 0 (List.map tokA (t0 :: t :: ts)) d =
    bif Scr.fits .b t.k then L_script_Read_0_1 n m len (.agg (partP .b) :: vs) 1 xs3 s 0 [] [] [] 0 0 0 0 0 (List.map tokA (t0 :: t :: ts)) e q nm kd (.fn (.func f) [] []) d.kind (Sp.tb d.who) (Sp.tb d.to) (Sp.tb d.text) ((Sp.tb t.t).map AV.u8) d.n d.m d.k else some (badR 253 t.at_) := by
  refine (rd_take_b0 n m len vs xs3  (tokA t0) s e q nm kd f d.kind (Sp.tb d.who) (Sp.tb d.to) (Sp.tb d.text) d.n d.m d.k t.k (Sp.tb t.t) t.n t.at_ t.e (ts.map tokA)).trans ?_
  simp only [List.length_cons, List.length_map]
  rw [lt_t h, lt_t (a := 0) (b := ((vs.length + 1 : Nat) : Int)) (by omega), lt_t (a := 1) (b := ((ts.length + 1 + 1 : Nat) : Int)) (by omega)]
  simp only [cond_true]
  by_cases h1 : t.k = 3
  · rw [eq_t h1, show Scr.fits .b t.k = true from by rw [h1]; rfl]; simp only [cond_true, cond_false, Bool.not_true, Bool.not_false]; rfl
  · rw [eq_f h1, show Scr.fits .b t.k = false from by simp [Scr.fits, h1]]; simp only [cond_true, cond_false, Bool.not_true, Bool.not_false]; rfl
theorem en_0 (n m : Nat) (s nm : List UInt8) (e q kd : Int) (f : Nat) (xs : List AV) (t0 : Tk.Tok) (d : Scr.D) : RL n (m + 1) s nm e q kd f 0 xs [] 0 (List.map tokA [t0]) d = some (encR ⟨d, 0, 0⟩) := rd_end_0 n m xs  (tokA t0) s e q nm kd f d.kind (Sp.tb d.who) (Sp.tb d.to) (Sp.tb d.text) d.n d.m d.k
theorem em_0 (n m : Nat) (s nm : List UInt8) (e q kd : Int) (f : Nat) (xs : List AV) (t0 : Tk.Tok) (d : Scr.D) (t : Tk.Tok) (ts : List Tk.Tok) : RL n (m + 1) s nm e q kd f 0 xs [] 0 (List.map tokA (t0 :: t :: ts)) d = some (badR 253 t.at_) := by
  refine (rd_end_0m n m xs  (tokA t0) s e q nm kd f d.kind (Sp.tb d.who) (Sp.tb d.to) (Sp.tb d.text) d.n d.m d.k t.k (Sp.tb t.t) t.n t.at_ t.e (ts.map tokA)).trans ?_
  simp only [List.length_cons, List.length_map]
  rw [gt_t (a := ((ts.length + 1 + 1 : Nat) : Int)) (b := 1) (by omega)]
  rfl
theorem en_1 (n m : Nat) (s nm : List UInt8) (e q kd : Int) (f : Nat) (xs : List AV) (u0 : AV) (t0 t1 : Tk.Tok) (d : Scr.D) : RL n (m + 1) s nm e q kd f 1 xs [u0] 1 (List.map tokA [t0, t1]) d = some (encR ⟨d, 0, 0⟩) := rd_end_1 n m xs u0 (tokA t0) (tokA t1) s e q nm kd f d.kind (Sp.tb d.who) (Sp.tb d.to) (Sp.tb d.text) d.n d.m d.k
theorem em_1 (n m : Nat) (s nm : List UInt8) (e q kd : Int) (f : Nat) (xs : List AV) (u0 : AV) (t0 t1 : Tk.Tok) (d : Scr.D) (t : Tk.Tok) (ts : List Tk.Tok) : RL n (m + 1) s nm e q kd f 1 xs [u0] 1 (List.map tokA (t0 :: t1 :: t :: ts)) d = some (badR 253 t.at_) := by
  refine (rd_end_1m n m xs u0 (tokA t0) (tokA t1) s e q nm kd f d.kind (Sp.tb d.who) (Sp.tb d.to) (Sp.tb d.text) d.n d.m d.k t.k (Sp.tb t.t) t.n t.at_ t.e (ts.map tokA)).trans ?_
  simp only [List.length_cons, List.length_map]
  rw [gt_t (a := ((ts.length + 1 + 1 + 1 : Nat) : Int)) (b := 2) (by omega)]
  rfl
theorem en_2 (n m : Nat) (s nm : List UInt8) (e q kd : Int) (f : Nat) (xs : List AV) (u0 u1 : AV) (t0 t1 t2 : Tk.Tok) (d : Scr.D) : RL n (m + 1) s nm e q kd f 2 xs [u0, u1] 2 (List.map tokA [t0, t1, t2]) d = some (encR ⟨d, 0, 0⟩) := rd_end_2 n m xs u0 u1 (tokA t0) (tokA t1) (tokA t2) s e q nm kd f d.kind (Sp.tb d.who) (Sp.tb d.to) (Sp.tb d.text) d.n d.m d.k
theorem em_2 (n m : Nat) (s nm : List UInt8) (e q kd : Int) (f : Nat) (xs : List AV) (u0 u1 : AV) (t0 t1 t2 : Tk.Tok) (d : Scr.D) (t : Tk.Tok) (ts : List Tk.Tok) : RL n (m + 1) s nm e q kd f 2 xs [u0, u1] 2 (List.map tokA (t0 :: t1 :: t2 :: t :: ts)) d = some (badR 253 t.at_) := by
  refine (rd_end_2m n m xs u0 u1 (tokA t0) (tokA t1) (tokA t2) s e q nm kd f d.kind (Sp.tb d.who) (Sp.tb d.to) (Sp.tb d.text) d.n d.m d.k t.k (Sp.tb t.t) t.n t.at_ t.e (ts.map tokA)).trans ?_
  simp only [List.length_cons, List.length_map]
  rw [gt_t (a := ((ts.length + 1 + 1 + 1 + 1 : Nat) : Int)) (b := 3) (by omega)]
  rfl
theorem en_3 (n m : Nat) (s nm : List UInt8) (e q kd : Int) (f : Nat) (xs : List AV) (u0 u1 u2 : AV) (t0 t1 t2 t3 : Tk.Tok) (d : Scr.D) : RL n (m + 1) s nm e q kd f 3 xs [u0, u1, u2] 3 (List.map tokA [t0, t1, t2, t3]) d = some (encR ⟨d, 0, 0⟩) := rd_end_3 n m xs u0 u1 u2 (tokA t0) (tokA t1) (tokA t2) (tokA t3) s e q nm kd f d.kind (Sp.tb d.who) (Sp.tb d.to) (Sp.tb d.text) d.n d.m d.k
theorem em_3 (n m : Nat) (s nm : List UInt8) (e q kd : Int) (f : Nat) (xs : List AV) (u0 u1 u2 : AV) (t0 t1 t2 t3 : Tk.Tok) (d : Scr.D) (t : Tk.Tok) (ts : List Tk.Tok) : RL n (m + 1) s nm e q kd f 3 xs [u0, u1, u2] 3 (List.map tokA (t0 :: t1 :: t2 :: t3 :: t :: ts)) d = some (badR 253 t.at_) := by
  refine (rd_end_3m n m xs u0 u1 u2 (tokA t0) (tokA t1) (tokA t2) (tokA t3) s e q nm kd f d.kind (Sp.tb d.who) (Sp.tb d.to) (Sp.tb d.text) d.n d.m d.k t.k (Sp.tb t.t) t.n t.at_ t.e (ts.map tokA)).trans ?_
  simp only [List.length_cons, List.length_map]
  rw [gt_t (a := ((ts.length + 1 + 1 + 1 + 1 + 1 : Nat) : Int)) (b := 4) (by omega)]
  rfl
/-- The parts at their places. -/
def combos : List (Scr.P × Nat) := [(.w, 0), (.n, 0), (.t, 1), (.n, 1), (.o, 1), (.m, 1), (.n, 2), (.k, 2)]
theorem dec1 {α : Type} {l : List α} (h : 0 < l.length) : ∃ a r, l = a :: r := by cases l with | nil => simp at h | cons a r => exact ⟨a, r, rfl⟩
theorem dec2 {α : Type} {l : List α} (h : 1 < l.length) : ∃ a b r, l = a :: b :: r := by
  obtain ⟨a, r, rfl⟩ := dec1 (l := l) (by omega)
  obtain ⟨b, r, rfl⟩ := dec1 (l := r) (by simp at h; omega)
  exact ⟨a, b, r, rfl⟩
theorem dec3 {α : Type} {l : List α} (h : 2 < l.length) : ∃ a b c r, l = a :: b :: c :: r := by
  obtain ⟨a, b, r, rfl⟩ := dec2 (l := l) (by omega)
  obtain ⟨c, r, rfl⟩ := dec1 (l := r) (by simp at h; omega)
  exact ⟨a, b, c, r, rfl⟩
theorem dec4 {α : Type} {l : List α} (h : 3 < l.length) : ∃ a b c d r, l = a :: b :: c :: d :: r := by
  obtain ⟨a, b, c, r, rfl⟩ := dec3 (l := l) (by omega)
  obtain ⟨d, r, rfl⟩ := dec1 (l := r) (by simp at h; omega)
  exact ⟨a, b, c, d, r, rfl⟩
/-- One part. -/
theorem stepR (n m : Nat) (s nm : List UInt8) (e q kd : Int) (f : Nat) (len : Int) (xs xs3 : List AV) (d : Scr.D) (l : List Tk.Tok) {p : Scr.P} {pos : Nat} (hc : (p, pos) ∈ combos) (h : (pos : Int) < len)
    (hx : xs[pos]? = some (.agg (partP p))) (hl : pos < l.length) :
    RL n (m + 1) s nm e q kd f len xs xs3 pos (l.map tokA) d = (match l.drop (pos + 1) with
      | [] => some (badR 253 s.length)
      | t :: _ => bif Scr.fits p t.k then RL n m s nm e q kd f len xs xs3 ((pos + 1 : Nat) : Int) (l.map tokA) (Scr.put d p t) else some (badR 253 t.at_)) := by
  simp only [combos, List.mem_cons, Prod.mk.injEq, List.not_mem_nil, or_false] at hc
  rcases hc with ⟨rfl, rfl⟩ | ⟨rfl, rfl⟩ | ⟨rfl, rfl⟩ | ⟨rfl, rfl⟩ | ⟨rfl, rfl⟩ | ⟨rfl, rfl⟩ | ⟨rfl, rfl⟩ | ⟨rfl, rfl⟩
  · obtain ⟨v, vs, rfl⟩ := dec1 (l := xs) (List.getElem?_eq_some_iff.mp hx).1
    obtain rfl : v = .agg (partP .w) := by simpa using hx
    obtain ⟨t0, l, rfl⟩ := dec1 hl
    cases l with
    | nil => exact sh_w0 n m s nm e q kd f len vs xs3  t0 d h
    | cons t ts => exact tk_w0 n m s nm e q kd f len vs xs3  t0 d h t ts
  · obtain ⟨v, vs, rfl⟩ := dec1 (l := xs) (List.getElem?_eq_some_iff.mp hx).1
    obtain rfl : v = .agg (partP .n) := by simpa using hx
    obtain ⟨t0, l, rfl⟩ := dec1 hl
    cases l with
    | nil => exact sh_n0 n m s nm e q kd f len vs xs3  t0 d h
    | cons t ts => exact tk_n0 n m s nm e q kd f len vs xs3  t0 d h t ts
  · obtain ⟨u0, v, vs, rfl⟩ := dec2 (l := xs) (List.getElem?_eq_some_iff.mp hx).1
    obtain rfl : v = .agg (partP .t) := by simpa using hx
    obtain ⟨t0, t1, l, rfl⟩ := dec2 hl
    cases l with
    | nil => exact sh_t1 n m s nm e q kd f len vs xs3 u0 t0 t1 d h
    | cons t ts => exact tk_t1 n m s nm e q kd f len vs xs3 u0 t0 t1 d h t ts
  · obtain ⟨u0, v, vs, rfl⟩ := dec2 (l := xs) (List.getElem?_eq_some_iff.mp hx).1
    obtain rfl : v = .agg (partP .n) := by simpa using hx
    obtain ⟨t0, t1, l, rfl⟩ := dec2 hl
    cases l with
    | nil => exact sh_n1 n m s nm e q kd f len vs xs3 u0 t0 t1 d h
    | cons t ts => exact tk_n1 n m s nm e q kd f len vs xs3 u0 t0 t1 d h t ts
  · obtain ⟨u0, v, vs, rfl⟩ := dec2 (l := xs) (List.getElem?_eq_some_iff.mp hx).1
    obtain rfl : v = .agg (partP .o) := by simpa using hx
    obtain ⟨t0, t1, l, rfl⟩ := dec2 hl
    cases l with
    | nil => exact sh_o1 n m s nm e q kd f len vs xs3 u0 t0 t1 d h
    | cons t ts => exact tk_o1 n m s nm e q kd f len vs xs3 u0 t0 t1 d h t ts
  · obtain ⟨u0, v, vs, rfl⟩ := dec2 (l := xs) (List.getElem?_eq_some_iff.mp hx).1
    obtain rfl : v = .agg (partP .m) := by simpa using hx
    obtain ⟨t0, t1, l, rfl⟩ := dec2 hl
    cases l with
    | nil => exact sh_m1 n m s nm e q kd f len vs xs3 u0 t0 t1 d h
    | cons t ts => exact tk_m1 n m s nm e q kd f len vs xs3 u0 t0 t1 d h t ts
  · obtain ⟨u0, u1, v, vs, rfl⟩ := dec3 (l := xs) (List.getElem?_eq_some_iff.mp hx).1
    obtain rfl : v = .agg (partP .n) := by simpa using hx
    obtain ⟨t0, t1, t2, l, rfl⟩ := dec3 hl
    cases l with
    | nil => exact sh_n2 n m s nm e q kd f len vs xs3 u0 u1 t0 t1 t2 d h
    | cons t ts => exact tk_n2 n m s nm e q kd f len vs xs3 u0 u1 t0 t1 t2 d h t ts
  · obtain ⟨u0, u1, v, vs, rfl⟩ := dec3 (l := xs) (List.getElem?_eq_some_iff.mp hx).1
    obtain rfl : v = .agg (partP .k) := by simpa using hx
    obtain ⟨t0, t1, t2, l, rfl⟩ := dec3 hl
    cases l with
    | nil => exact sh_k2 n m s nm e q kd f len vs xs3 u0 u1 t0 t1 t2 d h
    | cons t ts => exact tk_k2 n m s nm e q kd f len vs xs3 u0 u1 t0 t1 t2 d h t ts
/-- No part is left. -/
theorem endR (n m : Nat) (s nm : List UInt8) (e q kd : Int) (f : Nat) (xs xs3 : List AV) (d : Scr.D) (l : List Tk.Tok) {pos : Nat} (hp : pos ≤ 3) (hx : xs3.length = pos) (hl : pos < l.length) :
    RL n (m + 1) s nm e q kd f pos xs xs3 pos (l.map tokA) d = some (encR (Scr.takes s.length d [] (l.drop (pos + 1)))) := by
  have : pos = 0 ∨ pos = 1 ∨ pos = 2 ∨ pos = 3 := by omega
  rcases this with rfl | rfl | rfl | rfl
  · obtain rfl := List.length_eq_zero_iff.mp hx
    obtain ⟨t0, l, rfl⟩ := dec1 hl
    cases l with
    | nil => exact en_0 n m s nm e q kd f xs  t0 d
    | cons t ts => exact em_0 n m s nm e q kd f xs  t0 d t ts
  · obtain ⟨u0, r, rfl⟩ := dec1 (l := xs3) (by omega)
    obtain rfl : r = [] := by simpa using hx
    obtain ⟨t0, t1, l, rfl⟩ := dec2 hl
    cases l with
    | nil => exact en_1 n m s nm e q kd f xs u0 t0 t1 d
    | cons t ts => exact em_1 n m s nm e q kd f xs u0 t0 t1 d t ts
  · obtain ⟨u0, u1, r, rfl⟩ := dec2 (l := xs3) (by omega)
    obtain rfl : r = [] := by simpa using hx
    obtain ⟨t0, t1, t2, l, rfl⟩ := dec3 hl
    cases l with
    | nil => exact en_2 n m s nm e q kd f xs u0 u1 t0 t1 t2 d
    | cons t ts => exact em_2 n m s nm e q kd f xs u0 u1 t0 t1 t2 d t ts
  · obtain ⟨u0, u1, u2, r, rfl⟩ := dec3 (l := xs3) (by omega)
    obtain rfl : r = [] := by simpa using hx
    obtain ⟨t0, t1, t2, t3, l, rfl⟩ := dec4 hl
    cases l with
    | nil => exact en_3 n m s nm e q kd f xs u0 u1 u2 t0 t1 t2 t3 d
    | cons t ts => exact em_3 n m s nm e q kd f xs u0 u1 u2 t0 t1 t2 t3 d t ts
theorem runR (n : Nat) (s nm : List UInt8) (e q kd : Int) (f : Nat) (len : Nat) (xs xs3 : List AV) (l : List Tk.Tok) (h3 : len ≤ 3) (hx3 : xs3.length = len) : ∀ (ps : List Scr.P) (pos m : Nat) (d : Scr.D), pos + ps.length = len →
    (∀ i p, ps[i]? = some p → (p, pos + i) ∈ combos ∧ xs[pos + i]? = some (.agg (partP p))) → pos < l.length → ps.length < m →
    RL n m s nm e q kd f len xs xs3 pos (l.map tokA) d = some (encR (Scr.takes s.length d ps (l.drop (pos + 1))))
  | [], pos, m, d, hp, _, hl, hm => by
    obtain ⟨m, rfl⟩ : ∃ k, m = k + 1 := ⟨m - 1, by simp at hm; omega⟩
    simp only [List.length_nil, Nat.add_zero] at hp
    subst hp
    exact endR n m s nm e q kd f xs xs3 d l h3 hx3 hl
  | p :: ps, pos, m, d, hp, hc, hl, hm => by
    obtain ⟨m, rfl⟩ : ∃ k, m = k + 1 := ⟨m - 1, by simp at hm; omega⟩
    simp only [List.length_cons] at hp hm
    have h0 : (p, pos) ∈ combos ∧ xs[pos]? = some (.agg (partP p)) := hc 0 p rfl
    rw [stepR n m s nm e q kd f len xs xs3 d l h0.1 (by show ((pos : Nat) : Int) < ((len : Nat) : Int); omega) h0.2 hl]
    cases hd : l.drop (pos + 1) with
    | nil => rfl
    | cons t ts =>
      have hll : pos + 1 < l.length := by
        have := congrArg List.length hd
        simp only [List.length_drop, List.length_cons] at this
        omega
      have hds : l.drop (pos + 1 + 1) = ts := by
        have := congrArg (List.drop 1) hd
        rw [List.drop_drop] at this
        simpa [Nat.add_comm] using this
      simp only [Scr.takes]
      cases hf : Scr.fits p t.k with
      | false => rfl
      | true =>
        simp only [cond_true, if_true]
        rw [runR n s nm e q kd f len xs xs3 l h3 hx3 ps (pos + 1) m (Scr.put d p t) (by omega) (fun i r hi => by
          have := hc (i + 1) r (by simpa using hi)
          rwa [show pos + (i + 1) = pos + 1 + i by omega] at this) hll (by omega), hds]
end Go.Proofs.YtgeheffhdpeddaaDoor.VX

/- PLAIN: script.Read and script.Blank; their rows. Conditions: as each theorem states. -/
namespace Go.Proofs.YtgeheffhdpeddaaDoor.VX
open Go Go.Proofs Go.Proofs.YtgeheffhdpeddaaDoor Go.RowKit
theorem cut_full (s : List UInt8) : Sp.cut s (s.length : Int) = Tk.cut 0 0 (Sp.ints s) := by
  unfold Sp.cut Tk.Cut
  rw [Sp.ints_len, if_neg (by omega)]
theorem cutL_full (s : List UInt8) (h : (Tk.cut 0 0 (Sp.ints s)).e = 0) : Sp.cutL s (s.length : Int) = (Tk.cut 0 0 (Sp.ints s)).l := by
  unfold Sp.cutL
  rw [cut_full, h]; rfl
theorem at0_nil (s : List UInt8) (h : Sp.cutL s (s.length : Int) = []) : at0 s = some (badR 252 s.length) := by
  unfold at0
  rw [h]; rfl
theorem at0_cons (s : List UInt8) (t : Tk.Tok) (ts : List Tk.Tok) (h : Sp.cutL s (s.length : Int) = t :: ts) : at0 s = some (badR 252 t.at_) := by
  unfold at0
  rw [h]
  simp only [List.map_cons, List.length_cons, List.length_map]
  rw [lt_t (a := 0) (b := ((ts.length + 1 : Nat) : Int)) (by omega)]
  rfl
theorem readBy_rel (n : Nat) (s w : List UInt8) : ∀ (l : List (List UInt8 × Int × Nat × List Scr.P)) (R : List Scr.Row), l.map (fun q => (Sp.ints q.1, q.2.1, q.2.2.2)) = R.map (fun r => (r.name, r.kind, r.parts)) →
    (readBy n s w l = at0 s ∧ Scr.byName (Sp.ints w) R = none) ∨ ∃ nm kd f ps, (nm, kd, f, ps) ∈ l ∧ readBy n s w l = leafR n s nm kd f ps ∧ Scr.byName (Sp.ints w) R = some ⟨Sp.ints nm, kd, ps⟩
  | [], [], _ => .inl ⟨rfl, rfl⟩
  | [], _ :: _, h => by cases h
  | _ :: _, [], h => by cases h
  | (nm, kd, f, ps) :: l, ⟨rn, rk, rp⟩ :: R, h => by
    simp only [List.map_cons, List.cons.injEq, Prod.mk.injEq] at h
    obtain ⟨⟨rfl, rfl, rfl⟩, h⟩ := h
    by_cases hw : nm = w
    · subst hw
      refine .inr ⟨nm, kd, f, ps, by simp, ?_, ?_⟩
      · simp only [readBy, beq_self_eq_true, cond_true]
      · simp only [Scr.byName, if_true]
    · have e1 : (nm == w) = false := by simp [hw]
      have e2 : ¬ (Sp.ints nm = Sp.ints w) := fun hh => hw (by have := congrArg Sp.tb hh; rwa [Sp.tb_ints, Sp.tb_ints] at this)
      simp only [readBy, e1, cond_false, Scr.byName, if_neg e2]
      rcases readBy_rel n s w l R h with h1 | ⟨a, b, c, d, h1, h2⟩
      · exact .inl h1
      · exact .inr ⟨a, b, c, d, List.mem_cons_of_mem _ h1, h2⟩
theorem rowsQ_rows : rowsQ.map (fun q => (Sp.ints q.1, q.2.1, q.2.2.2)) = Scr.rows.map (fun r => (r.name, r.kind, r.parts)) := by decide
theorem rowsQ_combos : ∀ q ∈ rowsQ, q.2.2.2 = [Scr.P.b] ∨ (q.2.2.2.length ≤ 3 ∧ ¬ Scr.P.b ∈ q.2.2.2 ∧ ∀ i : Fin 3, ∀ p, q.2.2.2[i.val]? = some p → (p, i.val) ∈ combos) := by decide +kernel
theorem takes_bytes (len : Int) : ∀ (ps : List Scr.P) (ts : List Tk.Tok) (d : Scr.D), d.bytes = [] → ¬ Scr.P.b ∈ ps → (Scr.takes len d ps ts).d.bytes = []
  | [], [], _, h, _ => h
  | [], _ :: _, _, _, _ => rfl
  | _ :: _, [], _, _, _ => rfl
  | p :: ps, t :: ts, d, h, hb => by
    simp only [Scr.takes]
    split
    · refine takes_bytes len ps ts _ ?_ (fun hm => hb (List.mem_cons_of_mem _ hm))
      cases p <;> first | exact h | exact absurd (by simp) hb
    · rfl
theorem leaf_raw (n : Nat) (s nm : List UInt8) (kd : Int) (f : Nat) (ps : List Scr.P) (h3 : ps.length ≤ 3) (hc : ∀ i : Fin 3, ∀ p, ps[i.val]? = some p → (p, i.val) ∈ combos) (t0 : Tk.Tok) (ts : List Tk.Tok)
    (hl : Sp.cutL s (s.length : Int) = t0 :: ts) : leafR n s nm kd f ps = some (encR (Scr.takes s.length { Scr.zero with kind := kd } ps ts)) := by
  have := runR n s nm (Sp.cut s (s.length : Int)).e (Sp.cut s (s.length : Int)).p kd f ps.length (ps.map fun p => .agg (partP p)) (ps.map fun p => .agg (partP p)) (t0 :: ts) h3 (by simp) ps 0 (n + 11) { Scr.zero with kind := kd } (by simp)
    (fun i p hi => by
      have hlt : i < 3 := by have := (List.getElem?_eq_some_iff.mp hi).1; omega
      rw [Nat.zero_add]
      exact ⟨hc ⟨i, hlt⟩ p hi, by rw [List.getElem?_map, hi]; rfl⟩) (by simp) (by omega)
  unfold leafR
  rw [hl]
  exact this
/-- What the run answers: bytes that are not written may be none. -/
def Near (r : Scr.R) (v : AV) : Prop := v = .tup [sdo25 r.d, faultA r.e r.p] ∨ (v = encR r ∧ r.d.bytes = [])
theorem leaf_b (n : Nat) (s nm : List UInt8) (kd : Int) (f : Nat) (t0 : Tk.Tok) (ts : List Tk.Tok) (hl : Sp.cutL s (s.length : Int) = t0 :: ts) :
    ∃ v, leafR n s nm kd f [.b] = some v ∧ Near (Scr.takes s.length { Scr.zero with kind := kd } [.b] ts) v := by
  unfold leafR
  rw [hl]
  cases ts with
  | nil => exact ⟨_, sh_b0 n (n + 10) s nm _ _ kd f 1 [] [.agg (partP .b)] t0 { Scr.zero with kind := kd } (by omega), .inr ⟨rfl, rfl⟩⟩
  | cons t ts =>
    have h := tk_b0 n (n + 10) s nm (Sp.cut s (s.length : Int)).e (Sp.cut s (s.length : Int)).p kd f 1 [] [.agg (partP .b)] t0 { Scr.zero with kind := kd } (by omega) t ts
    cases hf : Scr.fits .b t.k with
    | false =>
      rw [hf] at h
      refine ⟨_, h, .inr ⟨?_, ?_⟩⟩
      · simp only [Scr.takes, hf]; rfl
      · simp only [Scr.takes, hf]; rfl
    | true =>
      rw [hf, cond_true] at h
      cases ts with
      | nil =>
        refine ⟨_, h.trans (rd_end_1v n (n + 9) [.agg (partP .b)] (.agg (partP .b)) (tokA t0) (tokA t) s _ _ nm kd f kd [] [] [] 0 0 0 ((Sp.tb t.t).map .u8)), .inl ?_⟩
        simp only [Scr.takes, hf]; rfl
      | cons t2 ts =>
        have h2 := rd_end_1mv n (n + 9) [.agg (partP .b)] (.agg (partP .b)) (tokA t0) (tokA t) s (Sp.cut s (s.length : Int)).e (Sp.cut s (s.length : Int)).p nm kd f kd [] [] [] 0 0 0 t2.k (Sp.tb t2.t) t2.n t2.at_ t2.e (ts.map tokA) ((Sp.tb t.t).map .u8)
        simp only [List.length_cons, List.length_map] at h2
        rw [gt_t (a := ((ts.length + 1 + 1 + 1 : Nat) : Int)) (b := 2) (by omega)] at h2
        refine ⟨_, h.trans h2, .inr ⟨?_, ?_⟩⟩
        · simp only [Scr.takes, hf]; rfl
        · simp only [Scr.takes, hf]; rfl
theorem sread_eq (s : List UInt8) (hs : Sp.short s = true) : ∃ n v, runA Tryd.prog (X 76) n 15 [.str s] = some v ∧ Near (Scr.read (Sp.ints s)) v := by
  refine ⟨12, ?_⟩
  rw [e_script_Read 0 s, hs]
  unfold Scr.read
  rw [Sp.ints_len]
  by_cases hb : 65536 < s.length
  · rw [gt_t (a := (s.length : Int)) (b := 65536) (by omega), if_pos hb]
    exact ⟨_, rfl, .inr ⟨rfl, rfl⟩⟩
  have e0 : decide ((s.length : Int) > 65536) = false := decide_eq_false (by omega)
  rw [e0, if_neg hb]
  simp only [cond_false, cond_true]
  by_cases he : (Tk.cut 0 0 (Sp.ints s)).e = 0
  · have hl := cutL_full s he
    rw [cut_full, he, if_pos rfl]
    simp only [bne_self_eq_false, cond_false]
    cases hc : (Tk.cut 0 0 (Sp.ints s)).l with
    | nil =>
      rw [hc] at hl
      rw [hl]
      exact ⟨_, rfl, .inr ⟨rfl, rfl⟩⟩
    | cons t ts =>
      rw [hc] at hl
      have e2 : (((List.map tokA (t :: ts)).length : Int) == 0) = false := by
        rw [beq_eq_false_iff_ne]; simp only [List.length_map, List.length_cons]; omega
      have e3 : decide ((0 : Int) < ((List.map tokA (t :: ts)).length : Int)) = true := by
        refine decide_eq_true ?_
        simp only [List.length_map, List.length_cons]; omega
      rw [hl, e2, e3]
      simp only [cond_false, cond_true, Scr.readL]
      show ∃ v, (bif true then bif true then bif (t.k != 1) then _ else bif true then bif true then readBy 0 s (Sp.tb t.t) rowsQ else none else none else none else none) = some v ∧ _
      simp only [cond_true]
      by_cases h1 : t.k = 1
      · rw [h1]
        simp only [bne_self_eq_false, cond_false, if_true]
        have hb : Tk.bytes t.t := by
          have gd := Tk.cut_good _ (Sp.ints s) 0 (Nat.le_refl _) (ints_bytes s)
          exact (gd.fin t (by rw [hc]; simp)).2
        have hi : Sp.ints (Sp.tb t.t) = t.t := ints_tb hb
        rcases readBy_rel 0 s (Sp.tb t.t) rowsQ Scr.rows rowsQ_rows with ⟨q1, q2⟩ | ⟨nm, kd, f, ps, hm, q1, q2⟩
        · rw [hi] at q2
          rw [q1, q2, at0_cons s t ts hl]
          exact ⟨_, rfl, .inr ⟨rfl, rfl⟩⟩
        · rw [hi] at q2
          rw [q1, q2]
          rcases rowsQ_combos _ hm with hp | ⟨hp, hnb, hcb⟩
          · obtain rfl : ps = [.b] := hp
            exact leaf_b 0 s nm kd f t ts hl
          · refine ⟨_, leaf_raw 0 s nm kd f ps hp hcb t ts hl, .inr ⟨rfl, takes_bytes _ ps ts _ rfl hnb⟩⟩
      · have e4 : (t.k != 1) = true := by simp [h1]
        rw [e4, if_neg h1, cond_true, at0_cons s t ts hl]
        exact ⟨_, rfl, .inr ⟨rfl, rfl⟩⟩
  · have e1 : ((Tk.cut 0 0 (Sp.ints s)).e != 0) = true := by simp [he]
    rw [cut_full, e1, if_neg he]
    exact ⟨_, rfl, .inr ⟨rfl, rfl⟩⟩
theorem sblank_eq (f k : Nat) (s : List UInt8) (h : runA Tryd.prog (X k) 3 f [.str s] = bif (Sp.short s) then bif ((Sp.cut s (s.length : Int)).e == (0 : Int)) then some (.bool (((List.map tokA (Sp.cutL s (s.length : Int))).length : Int) == (0 : Int))) else some (.bool false) else none)
    (hs : Sp.short s = true) : runA Tryd.prog (X k) 3 f [.str s] = some (.bool (Scr.blank (Sp.ints s))) := by
  rw [h, hs]
  unfold Scr.blank
  by_cases he : (Tk.cut 0 0 (Sp.ints s)).e = 0
  · rw [cutL_full s he, cut_full, he]
    simp only [beq_self_eq_true, cond_true, decide_true, Bool.true_and]
    cases (Tk.cut 0 0 (Sp.ints s)).l with
    | nil => rfl
    | cons t ts =>
      have : (((List.map tokA (t :: ts)).length : Int) == 0) = false := by
        rw [beq_eq_false_iff_ne]; simp only [List.length_map, List.length_cons]; omega
      rw [this]; rfl
  · have e1 : ((Tk.cut 0 0 (Sp.ints s)).e == 0) = false := by simp [he]
    rw [cut_full, e1]
    simp [he]
end Go.Proofs.YtgeheffhdpeddaaDoor.VX
