/-
  EQUATIONS of functions, printed by the tool (wip/tools/VTool.lean.txt). Conditions: none.
-/
import Derived.Test.YtgeheffhdpeddaaDoorXExD
import Derived.Test.YtgeheffhdpeddaaDoorTie
namespace Go.Proofs.YtgeheffhdpeddaaDoor.VX
open Go Go.Proofs Go.Proofs.YtgeheffhdpeddaaDoor

theorem e_hearsayref04_small (n : Nat) (b : UInt8) : runA Tryd.prog (X 22) (n + 1) 70 [(.u8 b)] =
  bif (decide ((97 : UInt8) ≤ b)) then some (.bool (decide (b ≤ (122 : UInt8))))
  else some (.bool false) := by kernel_rfl

theorem e_hearsayref04_great (n : Nat) (b : UInt8) : runA Tryd.prog (X 23) (n + 1) 71 [(.u8 b)] =
  bif (decide ((65 : UInt8) ≤ b)) then bif (decide (b ≤ (90 : UInt8))) then some (.bool true)
   else some (.bool (b == (95 : UInt8)))
  else some (.bool (b == (95 : UInt8))) := by kernel_rfl

theorem e_hearsayref04_digit (n : Nat) (b : UInt8) : runA Tryd.prog (X 24) (n + 1) 72 [(.u8 b)] =
  bif (decide ((48 : UInt8) ≤ b)) then some (.bool (decide (b ≤ (57 : UInt8))))
  else some (.bool false) := by kernel_rfl
noncomputable def L_hearsayref04_run_0 (n m0 : Nat) (s0 : List UInt8) (i1 : Int) : Option AV := runL Tryd.prog (X 25) (n + 1) 69 [⟨0, m0, [], 2⟩] [(.x, (.num 4)), ((.t 0), (.av (.str s0) .none)), ((.t 1), (.av (.int .i64 i1) .none)), ((.l 2), (.flag false)), ((.l 3), (.flag false))]
theorem L_hearsayref04_run_0_eq (n m0 : Nat) (s0 : List UInt8) (i1 : Int) : L_hearsayref04_run_0 n (m0 + 1) s0 i1 =
  bif (decide (i1 < (↑s0.length : Int))) then bif (decide ((0 : Int) ≤ i1)) then bif (decide (i1 < (↑s0.length : Int))) then bif (Sp.sm (s0.getD i1.toNat (0 : UInt8))) then L_hearsayref04_run_0 n m0 s0 (Go.IntKind.i64.wrap (i1 + (1 : Int)))
     else bif (decide ((0 : Int) ≤ i1)) then bif (decide (i1 < (↑s0.length : Int))) then bif (Sp.gr (s0.getD i1.toNat (0 : UInt8))) then L_hearsayref04_run_0 n m0 s0 (Go.IntKind.i64.wrap (i1 + (1 : Int)))
        else bif (decide ((0 : Int) ≤ i1)) then bif (decide (i1 < (↑s0.length : Int))) then bif (Sp.dg (s0.getD i1.toNat (0 : UInt8))) then L_hearsayref04_run_0 n m0 s0 (Go.IntKind.i64.wrap (i1 + (1 : Int)))
           else some (.int .i64 i1)
          else none
         else none
       else none
      else none
    else none
   else none
  else some (.int .i64 i1) := by unfold L_hearsayref04_run_0; rw [runL_round]; kernel_rfl
theorem L_hearsayref04_run_0_zero (n  : Nat) (s0 : List UInt8) (i1 : Int) : L_hearsayref04_run_0 n 0 s0 i1 = none := by unfold L_hearsayref04_run_0; rw [runL_round]; kernel_rfl
theorem e_hearsayref04_run (n : Nat) (s : List UInt8) (i : Int) : runA Tryd.prog (X 25) (n + 2) 69 [(.str s), (.int .i64 i)] =
  L_hearsayref04_run_0 n (n + 1) s i := by kernel_rfl
noncomputable def L_hearsayref04_Number_0 (n m0 : Nat) (s0 : List UInt8) (i1 : Int) (c2 : Bool) (i3 : Int) : Option AV := runL Tryd.prog (X 26) (n + 1) 73 [⟨0, m0, [], 33⟩] [(.x, (.num 37)), ((.t 0), (.av (.str s0) .none)), ((.t 6), (.av (.int .i64 i1) .none)), ((.t 4), (.av (.bool c2) .none)), ((.t 5), (.av (.int .u64 i3) .none)), ((.l 33), (.flag false)), ((.l 34), (.flag false)), ((.l 35), (.flag false)), ((.l 36), (.flag false))]
noncomputable def L_hearsayref04_Number_0_1 (n m0 : Nat) (s0 : List UInt8) (i1 : Int) (c2 : Bool) (i3 : Int) : Option AV := runL Tryd.prog (X 26) (n + 1) 73 [⟨0, m0, [], 30⟩] [(.x, (.num 34)), ((.t 0), (.av (.str s0) .none)), ((.t 6), (.av (.int .i64 i1) .none)), ((.t 4), (.av (.bool c2) .none)), ((.t 5), (.av (.int .u64 i3) .none)), ((.l 30), (.flag false)), ((.l 31), (.flag false)), ((.l 32), (.flag false)), ((.l 33), (.flag false))]
theorem L_hearsayref04_Number_0_eq (n m0 : Nat) (s0 : List UInt8) (i1 : Int) (c2 : Bool) (i3 : Int) : L_hearsayref04_Number_0 n (m0 + 1) s0 i1 c2 i3 =
  bif (decide (i1 < (↑s0.length : Int))) then bif (decide ((0 : Int) ≤ i1)) then bif (decide (i1 < (↑s0.length : Int))) then bif (!Sp.dg (s0.getD i1.toNat (0 : UInt8))) then some (.tup [(.int .i64 0), (.bool false)])
     else bif (decide ((0 : Int) ≤ i1)) then bif (decide (i1 < (↑s0.length : Int))) then L_hearsayref04_Number_0 n m0 s0 (Go.IntKind.i64.wrap (i1 + (1 : Int))) c2 (Go.IntKind.u64.wrap (Go.IntKind.u64.wrap ((10 : Int) * i3) + (↑(s0.getD i1.toNat (0 : UInt8) - (48 : UInt8)).toNat : Int)))
       else none
      else none
    else none
   else none
  else bif c2 then bif (decide (i3 > (9223372036854775808 : Int))) then some (.tup [(.int .i64 0), (.bool false)])
    else some (.tup [(.int .i64 (Go.IntKind.i64.wrap (Go.IntKind.u64.wrap ((0 : Int) - i3)))), (.bool true)])
   else some (.tup [(.int .i64 (Go.IntKind.i64.wrap i3)), (.bool (decide (i3 ≤ (9223372036854775807 : Int))))]) := by unfold L_hearsayref04_Number_0; rw [runL_round]; kernel_rfl
theorem L_hearsayref04_Number_0_zero (n  : Nat) (s0 : List UInt8) (i1 : Int) (c2 : Bool) (i3 : Int) : L_hearsayref04_Number_0 n 0 s0 i1 c2 i3 = none := by unfold L_hearsayref04_Number_0; rw [runL_round]; kernel_rfl
theorem L_hearsayref04_Number_0_1_eq (n m0 : Nat) (s0 : List UInt8) (i1 : Int) (c2 : Bool) (i3 : Int) : L_hearsayref04_Number_0_1 n (m0 + 1) s0 i1 c2 i3 =
  bif (decide (i1 < (↑s0.length : Int))) then bif (decide ((0 : Int) ≤ i1)) then bif (decide (i1 < (↑s0.length : Int))) then bif (!Sp.dg (s0.getD i1.toNat (0 : UInt8))) then some (.tup [(.int .i64 0), (.bool false)])
     else bif (decide ((0 : Int) ≤ i1)) then bif (decide (i1 < (↑s0.length : Int))) then L_hearsayref04_Number_0_1 n m0 s0 (Go.IntKind.i64.wrap (i1 + (1 : Int))) c2 (Go.IntKind.u64.wrap (Go.IntKind.u64.wrap ((10 : Int) * i3) + (↑(s0.getD i1.toNat (0 : UInt8) - (48 : UInt8)).toNat : Int)))
       else none
      else none
    else none
   else none
  else bif c2 then bif (decide (i3 > (9223372036854775808 : Int))) then some (.tup [(.int .i64 0), (.bool false)])
    else some (.tup [(.int .i64 (Go.IntKind.i64.wrap (Go.IntKind.u64.wrap ((0 : Int) - i3)))), (.bool true)])
   else some (.tup [(.int .i64 (Go.IntKind.i64.wrap i3)), (.bool (decide (i3 ≤ (9223372036854775807 : Int))))]) := by unfold L_hearsayref04_Number_0_1; rw [runL_round]; kernel_rfl
theorem L_hearsayref04_Number_0_1_zero (n  : Nat) (s0 : List UInt8) (i1 : Int) (c2 : Bool) (i3 : Int) : L_hearsayref04_Number_0_1 n 0 s0 i1 c2 i3 = none := by unfold L_hearsayref04_Number_0_1; rw [runL_round]; kernel_rfl
theorem e_hearsayref04_Number (n : Nat) (s : List UInt8) : runA Tryd.prog (X 26) (n + 2) 73 [(.str s)] =
  bif (s == [(48 : UInt8)]) then some (.tup [(.int .i64 0), (.bool true)])
  else bif (decide ((↑s.length : Int) > (0 : Int))) then bif (decide ((0 : Int) < (↑s.length : Int))) then bif (s.getD (0 : Nat) (0 : UInt8) == (45 : UInt8)) then bif (decide ((1 : Int) ≤ (↑s.length : Int))) then bif (decide ((↑s.length : Int) ≤ (↑s.length : Int))) then bif (decide ((↑(List.drop (1 : Nat) (List.take (↑s.length : Int).toNat s)).length : Int) < (1 : Int))) then some (.tup [(.int .i64 0), (.bool false)])
        else bif (decide ((↑(List.drop (1 : Nat) (List.take (↑s.length : Int).toNat s)).length : Int) > (19 : Int))) then some (.tup [(.int .i64 0), (.bool false)])
         else bif (decide ((0 : Int) < (↑(List.drop (1 : Nat) (List.take (↑s.length : Int).toNat s)).length : Int))) then bif ((List.drop (1 : Nat) (List.take (↑s.length : Int).toNat s)).getD (0 : Nat) (0 : UInt8) == (48 : UInt8)) then some (.tup [(.int .i64 0), (.bool false)])
           else L_hearsayref04_Number_0 n (n + 1) (List.drop (1 : Nat) (List.take (↑s.length : Int).toNat s)) 0 (s.getD (0 : Nat) (0 : UInt8) == (45 : UInt8)) 0
          else none
       else none
      else none
     else bif (decide ((↑s.length : Int) < (1 : Int))) then some (.tup [(.int .i64 0), (.bool false)])
      else bif (decide ((↑s.length : Int) > (19 : Int))) then some (.tup [(.int .i64 0), (.bool false)])
       else bif (decide ((0 : Int) < (↑s.length : Int))) then bif (s.getD (0 : Nat) (0 : UInt8) == (48 : UInt8)) then some (.tup [(.int .i64 0), (.bool false)])
         else L_hearsayref04_Number_0_1 n (n + 1) s 0 (s.getD (0 : Nat) (0 : UInt8) == (45 : UInt8)) 0
        else none
    else none
   else bif (decide ((↑s.length : Int) < (1 : Int))) then some (.tup [(.int .i64 0), (.bool false)])
    else bif (decide ((↑s.length : Int) > (19 : Int))) then some (.tup [(.int .i64 0), (.bool false)])
     else bif (decide ((0 : Int) < (↑s.length : Int))) then bif (s.getD (0 : Nat) (0 : UInt8) == (48 : UInt8)) then some (.tup [(.int .i64 0), (.bool false)])
       else L_hearsayref04_Number_0_1 n (n + 1) s 0 false 0
      else none := by kernel_rfl

theorem e_hearsayref04_hex (n : Nat) (b : UInt8) : runA Tryd.prog (X 27) (n + 2) 94 [(.u8 b)] =
  bif (Sp.dg b) then some (.int .i64 ((↑(b - (48 : UInt8)).toNat : Int)))
  else bif (decide ((97 : UInt8) ≤ b)) then bif (decide (b ≤ (102 : UInt8))) then some (.int .i64 (Go.IntKind.i64.wrap ((↑(b - (97 : UInt8)).toNat : Int) + (10 : Int))))
    else bif (decide ((65 : UInt8) ≤ b)) then bif (decide (b ≤ (70 : UInt8))) then some (.int .i64 (Go.IntKind.i64.wrap ((↑(b - (65 : UInt8)).toNat : Int) + (10 : Int))))
      else some (.int .i64 (-1))
     else some (.int .i64 (-1))
   else bif (decide ((65 : UInt8) ≤ b)) then bif (decide (b ≤ (70 : UInt8))) then some (.int .i64 (Go.IntKind.i64.wrap ((↑(b - (65 : UInt8)).toNat : Int) + (10 : Int))))
     else some (.int .i64 (-1))
    else some (.int .i64 (-1)) := by kernel_rfl

theorem e_hearsayref04_escape (n : Nat) (s : List UInt8) (i : Int) : runA Tryd.prog (X 28) (n + 2) 83 [(.str s), (.int .i64 i)] =
  bif (decide (Go.IntKind.i64.wrap (i + (1 : Int)) ≥ (↑s.length : Int))) then some (.tup [(.u8 0), (.int .i64 0)])
  else bif (decide ((0 : Int) ≤ Go.IntKind.i64.wrap (i + (1 : Int)))) then bif (decide (Go.IntKind.i64.wrap (i + (1 : Int)) < (↑s.length : Int))) then bif (s.getD (Go.IntKind.i64.wrap (i + (1 : Int))).toNat (0 : UInt8) == (34 : UInt8)) then bif (decide ((0 : Int) ≤ Go.IntKind.i64.wrap (i + (1 : Int)))) then bif (decide (Go.IntKind.i64.wrap (i + (1 : Int)) < (↑s.length : Int))) then some (.tup [(.u8 (s.getD (Go.IntKind.i64.wrap (i + (1 : Int))).toNat (0 : UInt8))), (.int .i64 2)])
       else none
      else none
     else bif (s.getD (Go.IntKind.i64.wrap (i + (1 : Int))).toNat (0 : UInt8) == (92 : UInt8)) then bif (decide ((0 : Int) ≤ Go.IntKind.i64.wrap (i + (1 : Int)))) then bif (decide (Go.IntKind.i64.wrap (i + (1 : Int)) < (↑s.length : Int))) then some (.tup [(.u8 (s.getD (Go.IntKind.i64.wrap (i + (1 : Int))).toNat (0 : UInt8))), (.int .i64 2)])
        else none
       else none
      else bif (s.getD (Go.IntKind.i64.wrap (i + (1 : Int))).toNat (0 : UInt8) == (110 : UInt8)) then some (.tup [(.u8 10), (.int .i64 2)])
       else bif (s.getD (Go.IntKind.i64.wrap (i + (1 : Int))).toNat (0 : UInt8) == (116 : UInt8)) then some (.tup [(.u8 9), (.int .i64 2)])
        else bif (s.getD (Go.IntKind.i64.wrap (i + (1 : Int))).toNat (0 : UInt8) == (120 : UInt8)) then bif (decide (Go.IntKind.i64.wrap (i + (3 : Int)) < (↑s.length : Int))) then bif (decide ((0 : Int) ≤ Go.IntKind.i64.wrap (i + (2 : Int)))) then bif (decide (Go.IntKind.i64.wrap (i + (2 : Int)) < (↑s.length : Int))) then bif (decide (Sp.hx (s.getD (Go.IntKind.i64.wrap (i + (2 : Int))).toNat (0 : UInt8)) ≥ (0 : Int))) then bif (decide ((0 : Int) ≤ Go.IntKind.i64.wrap (i + (3 : Int)))) then bif (decide (Go.IntKind.i64.wrap (i + (3 : Int)) < (↑s.length : Int))) then bif (decide (Sp.hx (s.getD (Go.IntKind.i64.wrap (i + (3 : Int))).toNat (0 : UInt8)) ≥ (0 : Int))) then bif (decide ((0 : Int) ≤ Go.IntKind.i64.wrap (i + (2 : Int)))) then bif (decide (Go.IntKind.i64.wrap (i + (2 : Int)) < (↑s.length : Int))) then bif (decide ((0 : Int) ≤ Go.IntKind.i64.wrap (i + (3 : Int)))) then bif (decide (Go.IntKind.i64.wrap (i + (3 : Int)) < (↑s.length : Int))) then some (.tup [(.u8 (UInt8.ofNat (Go.IntKind.i64.wrap (Go.IntKind.i64.wrap ((16 : Int) * Sp.hx (s.getD (Go.IntKind.i64.wrap (i + (2 : Int))).toNat (0 : UInt8))) + Sp.hx (s.getD (Go.IntKind.i64.wrap (i + (3 : Int))).toNat (0 : UInt8))) % (256 : Int)).toNat)), (.int .i64 4)])
                    else none
                   else none
                  else none
                 else none
                else some (.tup [(.u8 0), (.int .i64 0)])
               else none
              else none
             else some (.tup [(.u8 0), (.int .i64 0)])
            else none
           else none
          else some (.tup [(.u8 0), (.int .i64 0)])
         else some (.tup [(.u8 0), (.int .i64 0)])
    else none
   else none := by kernel_rfl
noncomputable def L_hearsayref04_quoted_0 (n m0 : Nat) (s0 : List UInt8) (xs1 : List AV) (i2 : Int) (i3 : Int) (i4 : Int) (s5 : List UInt8) (i6 : Int) (i7 : Int) (i8 : Int) (i9 : Int) (i10 : Int) : Option AV := runL Tryd.prog (X 29) (n + 1) 74 [⟨0, m0, [1, 2], 7⟩] [(.x, (.num 20)), ((.t 0), (.av (.str s0) .none)), ((.t 6), (.av (.view 1 xs1) (.some 8))), ((.t 1), (.av (.int .i64 i2) .none)), ((.t 7), (.av (.int .i64 i3) .none)), ((.t 4), (.av (.ptr 1 0) .none)), ((.t 5), (.av (.ptr 2 0) .none)), ((.o 1), (.obj [((.int .i64 i4), .none), ((.str s5), .none), ((.int .i64 i6), .none), ((.int .i64 i7), .none), ((.int .i64 i8), .none)])), ((.o 2), (.obj [((.int .i64 i9), .none), ((.int .i64 i10), .none)])), ((.l 7), (.flag false)), ((.l 8), (.flag true)), ((.l 9), (.flag false)), ((.l 10), (.flag false)), ((.l 11), (.flag false)), ((.l 12), (.flag false)), ((.l 13), (.flag false)), ((.l 14), (.flag false)), ((.l 15), (.flag false)), ((.l 16), (.flag false)), ((.l 17), (.flag false)), ((.l 18), (.flag false)), ((.l 19), (.flag false)), ((.y 1), (.num 44)), ((.y 2), (.num 32))]
theorem L_hearsayref04_quoted_0_eq (n m0 : Nat) (s0 : List UInt8) (xs1 : List AV) (i2 : Int) (i3 : Int) (i4 : Int) (s5 : List UInt8) (i6 : Int) (i7 : Int) (i8 : Int) (i9 : Int) (i10 : Int) : L_hearsayref04_quoted_0 n (m0 + 1) s0 xs1 i2 i3 i4 s5 i6 i7 i8 i9 i10 =
  bif (decide (i3 < (↑s0.length : Int))) then bif (decide ((0 : Int) ≤ i3)) then bif (decide (i3 < (↑s0.length : Int))) then bif (s0.getD i3.toNat (0 : UInt8) != (34 : UInt8)) then bif (decide ((0 : Int) ≤ i3)) then bif (decide (i3 < (↑s0.length : Int))) then bif (decide (s0.getD i3.toNat (0 : UInt8) < (32 : UInt8))) then some (.tup [(.agg [(.int .i64 0), (.str []), (.int .i64 0), (.int .i64 0), (.int .i64 0)]), (.agg [(.int .i64 44), (.int .i64 i3)])])
        else bif (decide ((0 : Int) ≤ i3)) then bif (decide (i3 < (↑s0.length : Int))) then bif (s0.getD i3.toNat (0 : UInt8) == (127 : UInt8)) then some (.tup [(.agg [(.int .i64 0), (.str []), (.int .i64 0), (.int .i64 0), (.int .i64 0)]), (.agg [(.int .i64 44), (.int .i64 i3)])])
           else bif (decide ((0 : Int) ≤ i3)) then bif (decide (i3 < (↑s0.length : Int))) then bif (s0.getD i3.toNat (0 : UInt8) != (92 : UInt8)) then bif (decide ((0 : Int) ≤ i3)) then bif (decide (i3 < (↑s0.length : Int))) then bif (roomA (xs1.length + (1 : Nat)) (1 : Nat)) then L_hearsayref04_quoted_0 n m0 s0 (xs1 ++ [AV.u8 (s0.getD i3.toNat (0 : UInt8))]) i2 (Go.IntKind.i64.wrap (i3 + (1 : Int))) i4 s5 i6 i7 i8 i9 i10
                 else none
                else none
               else none
              else bif (Sp.at_ s0 i3) then bif (Sp.rEscN s0 i3 == (0 : Int)) then some (.tup [(.agg [(.int .i64 0), (.str []), (.int .i64 0), (.int .i64 0), (.int .i64 0)]), (.agg [(.int .i64 44), (.int .i64 i3)])])
                else bif (roomA (xs1.length + (1 : Nat)) (1 : Nat)) then L_hearsayref04_quoted_0 n m0 s0 (xs1 ++ [AV.u8 (Sp.rEscB s0 i3)]) i2 (Go.IntKind.i64.wrap (i3 + Sp.rEscN s0 i3)) i4 s5 i6 i7 i8 i9 i10
                 else none
               else none
             else none
            else none
          else none
         else none
       else none
      else none
     else bif (decide (i3 ≥ (↑s0.length : Int))) then some (.tup [(.agg [(.int .i64 0), (.str []), (.int .i64 0), (.int .i64 0), (.int .i64 0)]), (.agg [(.int .i64 43), (.int .i64 i2)])])
      else bif (xs1.all isU8) then some (.tup [(.agg [(.int .i64 3), (.str (List.map toU8 xs1)), (.int .i64 0), (.int .i64 i2), (.int .i64 (Go.IntKind.i64.wrap (i3 + (1 : Int))))]), (.agg [(.int .i64 0), (.int .i64 0)])])
       else none
    else none
   else none
  else bif (decide (i3 ≥ (↑s0.length : Int))) then some (.tup [(.agg [(.int .i64 0), (.str []), (.int .i64 0), (.int .i64 0), (.int .i64 0)]), (.agg [(.int .i64 43), (.int .i64 i2)])])
   else bif (xs1.all isU8) then some (.tup [(.agg [(.int .i64 3), (.str (List.map toU8 xs1)), (.int .i64 0), (.int .i64 i2), (.int .i64 (Go.IntKind.i64.wrap (i3 + (1 : Int))))]), (.agg [(.int .i64 0), (.int .i64 0)])])
    else none := by unfold L_hearsayref04_quoted_0; rw [runL_round]; kernel_rfl
theorem L_hearsayref04_quoted_0_zero (n  : Nat) (s0 : List UInt8) (xs1 : List AV) (i2 : Int) (i3 : Int) (i4 : Int) (s5 : List UInt8) (i6 : Int) (i7 : Int) (i8 : Int) (i9 : Int) (i10 : Int) : L_hearsayref04_quoted_0 n 0 s0 xs1 i2 i3 i4 s5 i6 i7 i8 i9 i10 = none := by unfold L_hearsayref04_quoted_0; rw [runL_round]; kernel_rfl
theorem e_hearsayref04_quoted (n : Nat) (s : List UInt8) (i : Int) : runA Tryd.prog (X 29) (n + 2) 74 [(.str s), (.int .i64 i)] =
  L_hearsayref04_quoted_0 n (n + 1) s [] i (Go.IntKind.i64.wrap (i + (1 : Int))) 0 [] 0 0 0 0 0 := by kernel_rfl
theorem e_hearsayref04_Word (n : Nat) (s : List UInt8) : runA Tryd.prog (X 32) (n + 1) 63 [(.str s)] =
  bif (!s == []) then bif (decide ((0 : Int) < (↑s.length : Int))) then bif (Sp.sm (s.getD (0 : Nat) (0 : UInt8))) then bif (Sp.atE s (0 : Int)) then bif (Sp.rrun s (0 : Int) == (↑s.length : Int)) then some (.bool (!s == [(115 : UInt8), (97 : UInt8), (121 : UInt8), (115 : UInt8)]))
      else some (.bool false)
     else none
    else some (.bool false)
   else none
  else some (.bool false) := by kernel_rfl
noncomputable def L_hearsayref04_Quote_0 (n m0 : Nat) (s0 : List UInt8) (i1 : Int) (xs2 : List AV) : Option AV := runL Tryd.prog (X 33) (n + 1) 48 [⟨0, m0, [], 5⟩] [(.x, (.num 8)), ((.t 0), (.av (.str s0) .none)), ((.t 4), (.av (.int .i64 i1) .none)), ((.t 3), (.av (.view 1 xs2) (.some 7))), ((.l 5), (.flag false)), ((.l 6), (.flag false)), ((.l 7), (.flag true))]
theorem L_hearsayref04_Quote_0_eq (n m0 : Nat) (s0 : List UInt8) (i1 : Int) (xs2 : List AV) : L_hearsayref04_Quote_0 n (m0 + 1) s0 i1 xs2 =
  bif (decide (i1 < (↑s0.length : Int))) then bif (decide ((0 : Int) ≤ i1)) then bif (decide (i1 < (↑s0.length : Int))) then bif (s0.getD i1.toNat (0 : UInt8) == (34 : UInt8)) then bif (roomA (xs2.length + (2 : Nat)) (1 : Nat)) then L_hearsayref04_Quote_0 n m0 s0 (Go.IntKind.i64.wrap (i1 + (1 : Int))) (xs2 ++ [AV.u8 (92 : UInt8), AV.u8 (s0.getD i1.toNat (0 : UInt8))])
      else none
     else bif (s0.getD i1.toNat (0 : UInt8) == (92 : UInt8)) then bif (roomA (xs2.length + (2 : Nat)) (1 : Nat)) then L_hearsayref04_Quote_0 n m0 s0 (Go.IntKind.i64.wrap (i1 + (1 : Int))) (xs2 ++ [AV.u8 (92 : UInt8), AV.u8 (s0.getD i1.toNat (0 : UInt8))])
       else none
      else bif (s0.getD i1.toNat (0 : UInt8) == (10 : UInt8)) then bif (roomA (xs2.length + (2 : Nat)) (1 : Nat)) then L_hearsayref04_Quote_0 n m0 s0 (Go.IntKind.i64.wrap (i1 + (1 : Int))) (xs2 ++ [AV.u8 (92 : UInt8), AV.u8 (110 : UInt8)])
        else none
       else bif (s0.getD i1.toNat (0 : UInt8) == (9 : UInt8)) then bif (roomA (xs2.length + (2 : Nat)) (1 : Nat)) then L_hearsayref04_Quote_0 n m0 s0 (Go.IntKind.i64.wrap (i1 + (1 : Int))) (xs2 ++ [AV.u8 (92 : UInt8), AV.u8 (116 : UInt8)])
         else none
        else bif (decide ((32 : UInt8) ≤ s0.getD i1.toNat (0 : UInt8))) then bif (decide (s0.getD i1.toNat (0 : UInt8) ≤ (126 : UInt8))) then bif (roomA (xs2.length + (1 : Nat)) (1 : Nat)) then L_hearsayref04_Quote_0 n m0 s0 (Go.IntKind.i64.wrap (i1 + (1 : Int))) (xs2 ++ [AV.u8 (s0.getD i1.toNat (0 : UInt8))])
           else none
          else bif (decide ((↑(s0.getD i1.toNat (0 : UInt8) / (16 : UInt8)).toNat : Int) < (16 : Int))) then bif (decide ((↑(s0.getD i1.toNat (0 : UInt8) % (16 : UInt8)).toNat : Int) < (16 : Int))) then bif (roomA (xs2.length + (4 : Nat)) (1 : Nat)) then L_hearsayref04_Quote_0 n m0 s0 (Go.IntKind.i64.wrap (i1 + (1 : Int))) (xs2 ++ [AV.u8 (92 : UInt8), AV.u8 (120 : UInt8), AV.u8 ([(48 : UInt8), (49 : UInt8), (50 : UInt8), (51 : UInt8), (52 : UInt8), (53 : UInt8), (54 : UInt8), (55 : UInt8), (56 : UInt8), (57 : UInt8), (97 : UInt8), (98 : UInt8), (99 : UInt8), (100 : UInt8), (101 : UInt8), (102 : UInt8)].getD (↑(s0.getD i1.toNat (0 : UInt8) / (16 : UInt8)).toNat : Int).toNat (0 : UInt8)), AV.u8 ([(48 : UInt8), (49 : UInt8), (50 : UInt8), (51 : UInt8), (52 : UInt8), (53 : UInt8), (54 : UInt8), (55 : UInt8), (56 : UInt8), (57 : UInt8), (97 : UInt8), (98 : UInt8), (99 : UInt8), (100 : UInt8), (101 : UInt8), (102 : UInt8)].getD (↑(s0.getD i1.toNat (0 : UInt8) % (16 : UInt8)).toNat : Int).toNat (0 : UInt8))])
             else none
            else none
           else none
         else bif (decide ((↑(s0.getD i1.toNat (0 : UInt8) / (16 : UInt8)).toNat : Int) < (16 : Int))) then bif (decide ((↑(s0.getD i1.toNat (0 : UInt8) % (16 : UInt8)).toNat : Int) < (16 : Int))) then bif (roomA (xs2.length + (4 : Nat)) (1 : Nat)) then L_hearsayref04_Quote_0 n m0 s0 (Go.IntKind.i64.wrap (i1 + (1 : Int))) (xs2 ++ [AV.u8 (92 : UInt8), AV.u8 (120 : UInt8), AV.u8 ([(48 : UInt8), (49 : UInt8), (50 : UInt8), (51 : UInt8), (52 : UInt8), (53 : UInt8), (54 : UInt8), (55 : UInt8), (56 : UInt8), (57 : UInt8), (97 : UInt8), (98 : UInt8), (99 : UInt8), (100 : UInt8), (101 : UInt8), (102 : UInt8)].getD (↑(s0.getD i1.toNat (0 : UInt8) / (16 : UInt8)).toNat : Int).toNat (0 : UInt8)), AV.u8 ([(48 : UInt8), (49 : UInt8), (50 : UInt8), (51 : UInt8), (52 : UInt8), (53 : UInt8), (54 : UInt8), (55 : UInt8), (56 : UInt8), (57 : UInt8), (97 : UInt8), (98 : UInt8), (99 : UInt8), (100 : UInt8), (101 : UInt8), (102 : UInt8)].getD (↑(s0.getD i1.toNat (0 : UInt8) % (16 : UInt8)).toNat : Int).toNat (0 : UInt8))])
            else none
           else none
          else none
    else none
   else none
  else bif (roomA (xs2.length + (1 : Nat)) (1 : Nat)) then bif ((xs2 ++ [AV.u8 (34 : UInt8)]).all isU8) then some (.str (List.map toU8 (xs2 ++ [AV.u8 (34 : UInt8)])))
    else none
   else none := by unfold L_hearsayref04_Quote_0; rw [runL_round]; kernel_rfl
theorem L_hearsayref04_Quote_0_zero (n  : Nat) (s0 : List UInt8) (i1 : Int) (xs2 : List AV) : L_hearsayref04_Quote_0 n 0 s0 i1 xs2 = none := by unfold L_hearsayref04_Quote_0; rw [runL_round]; kernel_rfl
theorem e_hearsayref04_Quote (n : Nat) (s : List UInt8) : runA Tryd.prog (X 33) (n + 2) 48 [(.str s)] =
  L_hearsayref04_Quote_0 n (n + 1) s 0 [(.u8 34)] := by kernel_rfl
end Go.Proofs.YtgeheffhdpeddaaDoor.VX
