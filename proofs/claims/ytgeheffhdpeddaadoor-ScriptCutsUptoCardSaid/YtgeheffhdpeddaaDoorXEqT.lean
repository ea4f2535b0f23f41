/-
  EQUATIONS of functions, printed by the tool (wip/tools/VTool.lean.txt). Conditions: none.
-/
import Derived.Test.YtgeheffhdpeddaaDoorXExD
import Derived.Test.YtgeheffhdpeddaaDoorTie
namespace Go.Proofs.YtgeheffhdpeddaaDoor.VX
open Go Go.Proofs Go.Proofs.YtgeheffhdpeddaaDoor

theorem e_tokens_small (n : Nat) (b : UInt8) : runA Tryd.prog (X 0) (n + 1) 50 [(.u8 b)] =
  bif (decide ((97 : UInt8) ≤ b)) then some (.bool (decide (b ≤ (122 : UInt8))))
  else some (.bool false) := by kernel_rfl

theorem e_tokens_great (n : Nat) (b : UInt8) : runA Tryd.prog (X 1) (n + 1) 52 [(.u8 b)] =
  bif (decide ((65 : UInt8) ≤ b)) then bif (decide (b ≤ (90 : UInt8))) then some (.bool true)
   else some (.bool (b == (95 : UInt8)))
  else some (.bool (b == (95 : UInt8))) := by kernel_rfl

theorem e_tokens_digit (n : Nat) (b : UInt8) : runA Tryd.prog (X 2) (n + 1) 53 [(.u8 b)] =
  bif (decide ((48 : UInt8) ≤ b)) then some (.bool (decide (b ≤ (57 : UInt8))))
  else some (.bool false) := by kernel_rfl
noncomputable def L_tokens_run_0 (n m0 : Nat) (s0 : List UInt8) (i1 : Int) : Option AV := runL Tryd.prog (X 3) (n + 2) 51 [⟨0, m0, [], 3⟩] [(.x, (.num 5)), ((.t 0), (.av (.str s0) .none)), ((.t 3), (.av (.int .i64 i1) .none)), ((.l 3), (.flag false)), ((.l 4), (.flag false))]
theorem L_tokens_run_0_eq (n m0 : Nat) (s0 : List UInt8) (i1 : Int) : L_tokens_run_0 n (m0 + 1) s0 i1 =
  bif (decide (i1 < (↑s0.length : Int))) then bif (decide ((0 : Int) ≤ i1)) then bif (decide (i1 < (↑s0.length : Int))) then bif (Sp.sm (s0.getD i1.toNat (0 : UInt8))) then L_tokens_run_0 n m0 s0 (Go.IntKind.i64.wrap (i1 + (1 : Int)))
     else bif (decide ((0 : Int) ≤ i1)) then bif (decide (i1 < (↑s0.length : Int))) then bif (Sp.gr (s0.getD i1.toNat (0 : UInt8))) then L_tokens_run_0 n m0 s0 (Go.IntKind.i64.wrap (i1 + (1 : Int)))
        else bif (decide ((0 : Int) ≤ i1)) then bif (decide (i1 < (↑s0.length : Int))) then bif (Sp.dg (s0.getD i1.toNat (0 : UInt8))) then L_tokens_run_0 n m0 s0 (Go.IntKind.i64.wrap (i1 + (1 : Int)))
           else some (.int .i64 i1)
          else none
         else none
       else none
      else none
    else none
   else none
  else some (.int .i64 i1) := by unfold L_tokens_run_0; rw [runL_round]; kernel_rfl
theorem L_tokens_run_0_zero (n  : Nat) (s0 : List UInt8) (i1 : Int) : L_tokens_run_0 n 0 s0 i1 = none := by unfold L_tokens_run_0; rw [runL_round]; kernel_rfl
theorem e_tokens_run (n : Nat) (s : List UInt8) : runA Tryd.prog (X 3) (n + 3) 51 [(.str s)] =
  L_tokens_run_0 n (n + 2) s 0 := by kernel_rfl

theorem e_tokens_given (n : Nat) (s : List UInt8) (c : Bool) : runA Tryd.prog (X 4) (n + 1) 179 [(.str s), (.bool c)] =
  bif (!c) then some (.tup [(.str []), (.bool false)])
  else some (.tup [(.str s), (.bool true)]) := by kernel_rfl

theorem e_tokens_Word (n : Nat) (s : List UInt8) : runA Tryd.prog (X 5) (n + 1) 173 [(.str s)] =
  bif (!s == []) then bif (decide ((0 : Int) < (↑s.length : Int))) then bif (Sp.sm (s.getD (0 : Nat) (0 : UInt8))) then bif (Sp.short s) then bif (Sp.run s == (↑s.length : Int)) then some (.bool (!s == [(115 : UInt8), (97 : UInt8), (121 : UInt8), (115 : UInt8)]))
      else some (.bool false)
     else none
    else some (.bool false)
   else none
  else some (.bool false) := by kernel_rfl
noncomputable def L_tokens_Quote_0 (n m0 : Nat) (s0 : List UInt8) (i1 : Int) (xs2 : List AV) : Option AV := runL Tryd.prog (X 6) (n + 1) 161 [⟨0, m0, [], 5⟩] [(.x, (.num 8)), ((.t 0), (.av (.str s0) .none)), ((.t 4), (.av (.int .i64 i1) .none)), ((.t 3), (.av (.view 1 xs2) (.some 7))), ((.l 5), (.flag false)), ((.l 6), (.flag false)), ((.l 7), (.flag true))]
theorem L_tokens_Quote_0_eq (n m0 : Nat) (s0 : List UInt8) (i1 : Int) (xs2 : List AV) : L_tokens_Quote_0 n (m0 + 1) s0 i1 xs2 =
  bif (decide (i1 < (↑s0.length : Int))) then bif (decide ((0 : Int) ≤ i1)) then bif (decide (i1 < (↑s0.length : Int))) then bif (s0.getD i1.toNat (0 : UInt8) == (34 : UInt8)) then bif (roomA (xs2.length + (2 : Nat)) (1 : Nat)) then L_tokens_Quote_0 n m0 s0 (Go.IntKind.i64.wrap (i1 + (1 : Int))) (xs2 ++ [AV.u8 (92 : UInt8), AV.u8 (s0.getD i1.toNat (0 : UInt8))])
      else none
     else bif (s0.getD i1.toNat (0 : UInt8) == (92 : UInt8)) then bif (roomA (xs2.length + (2 : Nat)) (1 : Nat)) then L_tokens_Quote_0 n m0 s0 (Go.IntKind.i64.wrap (i1 + (1 : Int))) (xs2 ++ [AV.u8 (92 : UInt8), AV.u8 (s0.getD i1.toNat (0 : UInt8))])
       else none
      else bif (s0.getD i1.toNat (0 : UInt8) == (10 : UInt8)) then bif (roomA (xs2.length + (2 : Nat)) (1 : Nat)) then L_tokens_Quote_0 n m0 s0 (Go.IntKind.i64.wrap (i1 + (1 : Int))) (xs2 ++ [AV.u8 (92 : UInt8), AV.u8 (110 : UInt8)])
        else none
       else bif (s0.getD i1.toNat (0 : UInt8) == (9 : UInt8)) then bif (roomA (xs2.length + (2 : Nat)) (1 : Nat)) then L_tokens_Quote_0 n m0 s0 (Go.IntKind.i64.wrap (i1 + (1 : Int))) (xs2 ++ [AV.u8 (92 : UInt8), AV.u8 (116 : UInt8)])
         else none
        else bif (decide (s0.getD i1.toNat (0 : UInt8) < (32 : UInt8))) then bif (decide ((↑(UInt8.ofNat ((s0.getD i1.toNat (0 : UInt8)).toNat / (16 : Nat))).toNat : Int) < (16 : Int))) then bif (decide ((↑(s0.getD i1.toNat (0 : UInt8) &&& (15 : UInt8)).toNat : Int) < (16 : Int))) then bif (roomA (xs2.length + (4 : Nat)) (1 : Nat)) then L_tokens_Quote_0 n m0 s0 (Go.IntKind.i64.wrap (i1 + (1 : Int))) (xs2 ++ [AV.u8 (92 : UInt8), AV.u8 (120 : UInt8), AV.u8 ([(48 : UInt8), (49 : UInt8), (50 : UInt8), (51 : UInt8), (52 : UInt8), (53 : UInt8), (54 : UInt8), (55 : UInt8), (56 : UInt8), (57 : UInt8), (97 : UInt8), (98 : UInt8), (99 : UInt8), (100 : UInt8), (101 : UInt8), (102 : UInt8)].getD (↑(UInt8.ofNat ((s0.getD i1.toNat (0 : UInt8)).toNat / (16 : Nat))).toNat : Int).toNat (0 : UInt8)), AV.u8 ([(48 : UInt8), (49 : UInt8), (50 : UInt8), (51 : UInt8), (52 : UInt8), (53 : UInt8), (54 : UInt8), (55 : UInt8), (56 : UInt8), (57 : UInt8), (97 : UInt8), (98 : UInt8), (99 : UInt8), (100 : UInt8), (101 : UInt8), (102 : UInt8)].getD (↑(s0.getD i1.toNat (0 : UInt8) &&& (15 : UInt8)).toNat : Int).toNat (0 : UInt8))])
            else none
           else none
          else none
         else bif (decide ((126 : UInt8) < s0.getD i1.toNat (0 : UInt8))) then bif (decide ((↑(UInt8.ofNat ((s0.getD i1.toNat (0 : UInt8)).toNat / (16 : Nat))).toNat : Int) < (16 : Int))) then bif (decide ((↑(s0.getD i1.toNat (0 : UInt8) &&& (15 : UInt8)).toNat : Int) < (16 : Int))) then bif (roomA (xs2.length + (4 : Nat)) (1 : Nat)) then L_tokens_Quote_0 n m0 s0 (Go.IntKind.i64.wrap (i1 + (1 : Int))) (xs2 ++ [AV.u8 (92 : UInt8), AV.u8 (120 : UInt8), AV.u8 ([(48 : UInt8), (49 : UInt8), (50 : UInt8), (51 : UInt8), (52 : UInt8), (53 : UInt8), (54 : UInt8), (55 : UInt8), (56 : UInt8), (57 : UInt8), (97 : UInt8), (98 : UInt8), (99 : UInt8), (100 : UInt8), (101 : UInt8), (102 : UInt8)].getD (↑(UInt8.ofNat ((s0.getD i1.toNat (0 : UInt8)).toNat / (16 : Nat))).toNat : Int).toNat (0 : UInt8)), AV.u8 ([(48 : UInt8), (49 : UInt8), (50 : UInt8), (51 : UInt8), (52 : UInt8), (53 : UInt8), (54 : UInt8), (55 : UInt8), (56 : UInt8), (57 : UInt8), (97 : UInt8), (98 : UInt8), (99 : UInt8), (100 : UInt8), (101 : UInt8), (102 : UInt8)].getD (↑(s0.getD i1.toNat (0 : UInt8) &&& (15 : UInt8)).toNat : Int).toNat (0 : UInt8))])
             else none
            else none
           else none
          else bif (roomA (xs2.length + (1 : Nat)) (1 : Nat)) then L_tokens_Quote_0 n m0 s0 (Go.IntKind.i64.wrap (i1 + (1 : Int))) (xs2 ++ [AV.u8 (s0.getD i1.toNat (0 : UInt8))])
           else none
    else none
   else none
  else bif (roomA (xs2.length + (1 : Nat)) (1 : Nat)) then bif ((xs2 ++ [AV.u8 (34 : UInt8)]).all isU8) then some (.str (List.map toU8 (xs2 ++ [AV.u8 (34 : UInt8)])))
    else none
   else none := by unfold L_tokens_Quote_0; rw [runL_round]; kernel_rfl
theorem L_tokens_Quote_0_zero (n  : Nat) (s0 : List UInt8) (i1 : Int) (xs2 : List AV) : L_tokens_Quote_0 n 0 s0 i1 xs2 = none := by unfold L_tokens_Quote_0; rw [runL_round]; kernel_rfl
theorem e_tokens_Quote (n : Nat) (s : List UInt8) : runA Tryd.prog (X 6) (n + 2) 161 [(.str s)] =
  L_tokens_Quote_0 n (n + 1) s 0 [(.u8 34)] := by kernel_rfl

theorem e_tokens_hex (n : Nat) (b : UInt8) : runA Tryd.prog (X 7) (n + 2) 82 [(.u8 b)] =
  bif (Sp.dg b) then some (.int .i64 ((↑(b - (48 : UInt8)).toNat : Int)))
  else bif (decide ((97 : UInt8) ≤ b)) then bif (decide (b ≤ (102 : UInt8))) then some (.int .i64 (Go.IntKind.i64.wrap ((↑(b - (97 : UInt8)).toNat : Int) + (10 : Int))))
    else bif (decide ((65 : UInt8) ≤ b)) then bif (decide (b ≤ (70 : UInt8))) then some (.int .i64 (Go.IntKind.i64.wrap ((↑(b - (65 : UInt8)).toNat : Int) + (10 : Int))))
      else some (.int .i64 (-1))
     else some (.int .i64 (-1))
   else bif (decide ((65 : UInt8) ≤ b)) then bif (decide (b ≤ (70 : UInt8))) then some (.int .i64 (Go.IntKind.i64.wrap ((↑(b - (65 : UInt8)).toNat : Int) + (10 : Int))))
     else some (.int .i64 (-1))
    else some (.int .i64 (-1)) := by kernel_rfl

theorem e_tokens_escape (n : Nat) (s : List UInt8) : runA Tryd.prog (X 8) (n + 2) 67 [(.str s)] =
  bif (s == []) then some (.tup [(.u8 0), (.int .i64 0)])
  else bif (decide ((0 : Int) < (↑s.length : Int))) then bif (s.getD (0 : Nat) (0 : UInt8) == (34 : UInt8)) then bif (decide ((0 : Int) < (↑s.length : Int))) then some (.tup [(.u8 (s.getD (0 : Nat) (0 : UInt8))), (.int .i64 1)])
     else none
    else bif (s.getD (0 : Nat) (0 : UInt8) == (92 : UInt8)) then bif (decide ((0 : Int) < (↑s.length : Int))) then some (.tup [(.u8 (s.getD (0 : Nat) (0 : UInt8))), (.int .i64 1)])
      else none
     else bif (s.getD (0 : Nat) (0 : UInt8) == (110 : UInt8)) then some (.tup [(.u8 10), (.int .i64 1)])
      else bif (s.getD (0 : Nat) (0 : UInt8) == (116 : UInt8)) then some (.tup [(.u8 9), (.int .i64 1)])
       else bif (s.getD (0 : Nat) (0 : UInt8) == (120 : UInt8)) then bif (decide ((↑s.length : Int) > (2 : Int))) then bif (decide ((1 : Int) < (↑s.length : Int))) then bif (decide (Sp.hx (s.getD (1 : Nat) (0 : UInt8)) ≥ (0 : Int))) then bif (decide ((2 : Int) < (↑s.length : Int))) then bif (decide (Sp.hx (s.getD (2 : Nat) (0 : UInt8)) ≥ (0 : Int))) then bif (decide ((1 : Int) < (↑s.length : Int))) then bif (decide ((2 : Int) < (↑s.length : Int))) then some (.tup [(.u8 (UInt8.ofNat (Go.IntKind.i64.wrap (↑(BitVec.ofInt (64 : Nat) (Go.IntKind.i64.wrap (Sp.hx (s.getD (1 : Nat) (0 : UInt8)) * (16 : Int))) ||| BitVec.ofInt (64 : Nat) (Sp.hx (s.getD (2 : Nat) (0 : UInt8)))).toNat : Int) % (256 : Int)).toNat)), (.int .i64 3)])
               else none
              else none
             else some (.tup [(.u8 0), (.int .i64 0)])
            else none
           else some (.tup [(.u8 0), (.int .i64 0)])
          else none
         else some (.tup [(.u8 0), (.int .i64 0)])
        else some (.tup [(.u8 0), (.int .i64 0)])
   else none := by kernel_rfl
noncomputable def L_tokens_quoted_0 (n m0 : Nat) (s0 : List UInt8) (i1 : Int) (xs2 : List AV) (i3 : Int) (i4 : Int) (s5 : List UInt8) (i6 : Int) (i7 : Int) (i8 : Int) (i9 : Int) (i10 : Int) : Option AV := runL Tryd.prog (X 9) (n + 1) 55 [⟨0, m0, [1, 2], 7⟩] [(.x, (.num 20)), ((.t 0), (.av (.str s0) .none)), ((.t 7), (.av (.int .i64 i1) .none)), ((.t 6), (.av (.view 1 xs2) (.some 9))), ((.t 1), (.av (.int .i64 i3) .none)), ((.t 4), (.av (.ptr 1 0) .none)), ((.t 5), (.av (.ptr 2 0) .none)), ((.o 1), (.obj [((.int .i64 i4), .none), ((.str s5), .none), ((.int .i64 i6), .none), ((.int .i64 i7), .none), ((.int .i64 i8), .none)])), ((.o 2), (.obj [((.int .i64 i9), .none), ((.int .i64 i10), .none)])), ((.l 7), (.flag false)), ((.l 8), (.flag false)), ((.l 9), (.flag true)), ((.l 10), (.flag false)), ((.l 11), (.flag false)), ((.l 12), (.flag false)), ((.l 13), (.flag false)), ((.l 14), (.flag false)), ((.l 15), (.flag false)), ((.l 16), (.flag false)), ((.l 17), (.flag false)), ((.l 18), (.flag false)), ((.l 19), (.flag false)), ((.y 1), (.num 44)), ((.y 2), (.num 32))]
theorem L_tokens_quoted_0_eq (n m0 : Nat) (s0 : List UInt8) (i1 : Int) (xs2 : List AV) (i3 : Int) (i4 : Int) (s5 : List UInt8) (i6 : Int) (i7 : Int) (i8 : Int) (i9 : Int) (i10 : Int) : L_tokens_quoted_0 n (m0 + 1) s0 i1 xs2 i3 i4 s5 i6 i7 i8 i9 i10 =
  bif (decide (i1 < (↑s0.length : Int))) then bif (decide ((0 : Int) ≤ i1)) then bif (decide (i1 < (↑s0.length : Int))) then bif (s0.getD i1.toNat (0 : UInt8) == (34 : UInt8)) then bif (xs2.all isU8) then some (.tup [(.agg [(.int .i64 3), (.str (List.map toU8 xs2)), (.int .i64 0), (.int .i64 i3), (.int .i64 (Go.IntKind.i64.wrap (i1 + (1 : Int))))]), (.agg [(.int .i64 0), (.int .i64 0)])])
      else none
     else bif (s0.getD i1.toNat (0 : UInt8) == (92 : UInt8)) then bif (decide ((0 : Int) ≤ Go.IntKind.i64.wrap (i1 + (1 : Int)))) then bif (decide (Go.IntKind.i64.wrap (i1 + (1 : Int)) ≤ (↑s0.length : Int))) then bif (decide ((↑s0.length : Int) ≤ (↑s0.length : Int))) then bif (Sp.escN (List.drop (Go.IntKind.i64.wrap (i1 + (1 : Int))).toNat (List.take (↑s0.length : Int).toNat s0)) == (0 : Int)) then some (.tup [(.agg [(.int .i64 0), (.str []), (.int .i64 0), (.int .i64 0), (.int .i64 0)]), (.agg [(.int .i64 44), (.int .i64 i1)])])
          else bif (roomA (xs2.length + (1 : Nat)) (1 : Nat)) then L_tokens_quoted_0 n m0 s0 (Go.IntKind.i64.wrap (i1 + Go.IntKind.i64.wrap ((1 : Int) + Sp.escN (List.drop (Go.IntKind.i64.wrap (i1 + (1 : Int))).toNat (List.take (↑s0.length : Int).toNat s0))))) (xs2 ++ [AV.u8 (Sp.escB (List.drop (Go.IntKind.i64.wrap (i1 + (1 : Int))).toNat (List.take (↑s0.length : Int).toNat s0)))]) i3 i4 s5 i6 i7 i8 i9 i10
           else none
         else none
        else none
       else none
      else bif (decide (s0.getD i1.toNat (0 : UInt8) < (32 : UInt8))) then some (.tup [(.agg [(.int .i64 0), (.str []), (.int .i64 0), (.int .i64 0), (.int .i64 0)]), (.agg [(.int .i64 44), (.int .i64 i1)])])
       else bif (s0.getD i1.toNat (0 : UInt8) == (127 : UInt8)) then some (.tup [(.agg [(.int .i64 0), (.str []), (.int .i64 0), (.int .i64 0), (.int .i64 0)]), (.agg [(.int .i64 44), (.int .i64 i1)])])
        else bif (roomA (xs2.length + (1 : Nat)) (1 : Nat)) then L_tokens_quoted_0 n m0 s0 (Go.IntKind.i64.wrap (i1 + (1 : Int))) (xs2 ++ [AV.u8 (s0.getD i1.toNat (0 : UInt8))]) i3 i4 s5 i6 i7 i8 i9 i10
         else none
    else none
   else none
  else some (.tup [(.agg [(.int .i64 0), (.str []), (.int .i64 0), (.int .i64 0), (.int .i64 0)]), (.agg [(.int .i64 43), (.int .i64 i3)])]) := by unfold L_tokens_quoted_0; rw [runL_round]; kernel_rfl
theorem L_tokens_quoted_0_zero (n  : Nat) (s0 : List UInt8) (i1 : Int) (xs2 : List AV) (i3 : Int) (i4 : Int) (s5 : List UInt8) (i6 : Int) (i7 : Int) (i8 : Int) (i9 : Int) (i10 : Int) : L_tokens_quoted_0 n 0 s0 i1 xs2 i3 i4 s5 i6 i7 i8 i9 i10 = none := by unfold L_tokens_quoted_0; rw [runL_round]; kernel_rfl
theorem e_tokens_quoted (n : Nat) (s : List UInt8) (i : Int) : runA Tryd.prog (X 9) (n + 2) 55 [(.str s), (.int .i64 i)] =
  L_tokens_quoted_0 n (n + 1) s (Go.IntKind.i64.wrap (i + (1 : Int))) [] i 0 [] 0 0 0 0 0 := by kernel_rfl

theorem e_tokens_sign (n : Nat) (b : UInt8) : runA Tryd.prog (X 11) (n + 2) 68 [(.u8 b)] =
  bif (decide (Sp.idx [(40 : UInt8), (41 : UInt8), (44 : UInt8), (59 : UInt8), (46 : UInt8)] b ≥ (0 : Int))) then some (.int .i64 (Go.IntKind.i64.wrap ((6 : Int) + Sp.idx [(40 : UInt8), (41 : UInt8), (44 : UInt8), (59 : UInt8), (46 : UInt8)] b)))
  else bif (b == (63 : UInt8)) then some (.int .i64 12)
   else bif (b == (61 : UInt8)) then some (.int .i64 13)
    else bif (b == (60 : UInt8)) then some (.int .i64 15)
     else some (.int .i64 0) := by kernel_rfl
noncomputable def L_tokens_Cut_0 (n m0 : Nat) (s0 : List UInt8) (i1 : Int) (xs2 : List AV) (i3 : Int) (i4 : Int) : Option AV := runL Tryd.prog (X 17) (n + 1) 18 [⟨0, m0, [2], 9⟩] [(.x, (.num 15)), ((.t 0), (.av (.str s0) .none)), ((.t 7), (.av (.int .i64 i1) .none)), ((.t 6), (.av (.view 5 xs2) (.some 11))), ((.t 5), (.av (.ptr 2 0) .none)), ((.o 2), (.obj [((.int .i64 i3), .none), ((.int .i64 i4), .none)])), ((.l 9), (.flag false)), ((.l 10), (.flag false)), ((.l 11), (.flag true)), ((.l 12), (.flag false)), ((.l 13), (.flag false)), ((.l 14), (.flag false)), ((.y 2), (.num 32))]
noncomputable def L_tokens_Cut_3 (n m0 m1 : Nat) (s0 : List UInt8) (i1 : Int) (xs2 : List AV) (i3 : Int) (i4 : Int) : Option AV := runL Tryd.prog (X 17) (n + 1) 18 [⟨0, m0, [2], 9⟩, ⟨3, m1, [2], 26⟩] [(.x, (.num 32)), ((.t 0), (.av (.str s0) .none)), ((.t 7), (.av (.int .i64 i1) .none)), ((.t 6), (.av (.view 5 xs2) (.some 28))), ((.t 5), (.av (.ptr 2 0) .none)), ((.o 2), (.obj [((.int .i64 i3), .none), ((.int .i64 i4), .none)])), ((.l 26), (.flag false)), ((.l 27), (.flag false)), ((.l 28), (.flag true)), ((.l 29), (.flag false)), ((.l 30), (.flag false)), ((.l 31), (.flag false)), ((.y 2), (.num 32))]
theorem L_tokens_Cut_0_eq (n m0 : Nat) (s0 : List UInt8) (i1 : Int) (xs2 : List AV) (i3 : Int) (i4 : Int) : L_tokens_Cut_0 n (m0 + 1) s0 i1 xs2 i3 i4 =
  bif (decide (i1 < (↑s0.length : Int))) then bif (decide ((0 : Int) ≤ i1)) then bif (decide (i1 < (↑s0.length : Int))) then bif (s0.getD i1.toNat (0 : UInt8) == (37 : UInt8)) then L_tokens_Cut_3 n m0 (n + 1) s0 i1 xs2 i3 i4
     else bif (s0.getD i1.toNat (0 : UInt8) == (32 : UInt8)) then L_tokens_Cut_0 n m0 s0 (Go.IntKind.i64.wrap (i1 + (1 : Int))) xs2 i3 i4
      else bif (s0.getD i1.toNat (0 : UInt8) == (9 : UInt8)) then L_tokens_Cut_0 n m0 s0 (Go.IntKind.i64.wrap (i1 + (1 : Int))) xs2 i3 i4
       else bif (s0.getD i1.toNat (0 : UInt8) == (13 : UInt8)) then L_tokens_Cut_0 n m0 s0 (Go.IntKind.i64.wrap (i1 + (1 : Int))) xs2 i3 i4
        else bif (s0.getD i1.toNat (0 : UInt8) == (10 : UInt8)) then L_tokens_Cut_0 n m0 s0 (Go.IntKind.i64.wrap (i1 + (1 : Int))) xs2 i3 i4
         else bif (Sp.at_ s0 i1) then bif ((Sp.token s0 i1).e != (0 : Int)) then some (.tup [(.view 5 []), (.agg [(.int .i64 ((Sp.token s0 i1).e)), (.int .i64 ((Sp.token s0 i1).p))])])
           else bif (roomA (xs2.length + (1 : Nat)) (48 : Nat)) then L_tokens_Cut_0 n m0 s0 ((Sp.token s0 i1).t.e) (xs2 ++ [AV.agg [AV.int Go.IntKind.i64 (Sp.token s0 i1).t.k, AV.str (Sp.tb (Sp.token s0 i1).t.t), AV.int Go.IntKind.i64 (Sp.token s0 i1).t.n, AV.int Go.IntKind.i64 (Sp.token s0 i1).t.at_, AV.int Go.IntKind.i64 (Sp.token s0 i1).t.e]]) i3 i4
            else none
          else none
    else none
   else none
  else some (.tup [(.view 5 xs2), (.agg [(.int .i64 0), (.int .i64 0)])]) := by unfold L_tokens_Cut_0; rw [runL_round]; kernel_rfl
theorem L_tokens_Cut_0_zero (n  : Nat) (s0 : List UInt8) (i1 : Int) (xs2 : List AV) (i3 : Int) (i4 : Int) : L_tokens_Cut_0 n 0 s0 i1 xs2 i3 i4 = none := by unfold L_tokens_Cut_0; rw [runL_round]; kernel_rfl
theorem L_tokens_Cut_3_eq (n m0 m1 : Nat) (s0 : List UInt8) (i1 : Int) (xs2 : List AV) (i3 : Int) (i4 : Int) : L_tokens_Cut_3 n m0 (m1 + 1) s0 i1 xs2 i3 i4 =
  bif (decide (i1 < (↑s0.length : Int))) then bif (decide ((0 : Int) ≤ i1)) then bif (decide (i1 < (↑s0.length : Int))) then bif (s0.getD i1.toNat (0 : UInt8) != (10 : UInt8)) then L_tokens_Cut_3 n m0 m1 s0 (Go.IntKind.i64.wrap (i1 + (1 : Int))) xs2 i3 i4
     else L_tokens_Cut_0 n m0 s0 i1 xs2 i3 i4
    else none
   else none
  else L_tokens_Cut_0 n m0 s0 i1 xs2 i3 i4 := by unfold L_tokens_Cut_3; rw [runL_round]; kernel_rfl
theorem L_tokens_Cut_3_zero (n m0 : Nat) (s0 : List UInt8) (i1 : Int) (xs2 : List AV) (i3 : Int) (i4 : Int) : L_tokens_Cut_3 n m0 0 s0 i1 xs2 i3 i4 = none := by unfold L_tokens_Cut_3; rw [runL_round]; kernel_rfl
theorem e_tokens_Cut (n : Nat) (s : List UInt8) (i : Int) : runA Tryd.prog (X 17) (n + 2) 18 [(.str s), (.int .i64 i)] =
  bif (decide ((↑s.length : Int) > i)) then some (.tup [(.view 5 []), (.agg [(.int .i64 41), (.int .i64 0)])])
  else L_tokens_Cut_0 n (n + 1) s 0 [] 0 0 := by kernel_rfl

theorem e_tokens_spelling (n : Nat) (i : Int) : runA Tryd.prog (X 18) (n + 2) 180 [(.int .i64 i)] =
  bif (decide (i < (5 : Int))) then some (.str [])
  else bif (decide (i > (16 : Int))) then some (.str [])
   else bif (decide ((0 : Int) ≤ Go.IntKind.i64.wrap (i - (5 : Int)))) then bif (decide (Go.IntKind.i64.wrap (i - (5 : Int)) < (12 : Int))) then bif (decide (Go.IntKind.i64.wrap (i - (5 : Int)) < (12 : Int))) then bif (isS (Option.rec ((fun (_ : Unit) => AV.top) ()) (fun (val : AV) => (fun (val : AV) => (fun (x : AV) => x) val) val) [AV.str [(115 : UInt8), (97 : UInt8), (121 : UInt8), (115 : UInt8)], AV.str [(40 : UInt8)], AV.str [(41 : UInt8)], AV.str [(44 : UInt8)], AV.str [(59 : UInt8)], AV.str [(46 : UInt8)], AV.str [(58 : UInt8), (45 : UInt8)], AV.str [(63 : UInt8)], AV.str [(61 : UInt8)], AV.str [(33 : UInt8), (61 : UInt8)], AV.str [(60 : UInt8)], AV.str [(60 : UInt8), (61 : UInt8)]][(Go.IntKind.i64.wrap (i - (5 : Int))).toNat]?)) then some (.str (toS ([AV.str [(115 : UInt8), (97 : UInt8), (121 : UInt8), (115 : UInt8)], AV.str [(40 : UInt8)], AV.str [(41 : UInt8)], AV.str [(44 : UInt8)], AV.str [(59 : UInt8)], AV.str [(46 : UInt8)], AV.str [(58 : UInt8), (45 : UInt8)], AV.str [(63 : UInt8)], AV.str [(61 : UInt8)], AV.str [(33 : UInt8), (61 : UInt8)], AV.str [(60 : UInt8)], AV.str [(60 : UInt8), (61 : UInt8)]].getD (Go.IntKind.i64.wrap (i - (5 : Int))).toNat AV.top)))
       else none
      else none
     else none
    else none := by kernel_rfl

theorem e_tokens_Spell (n : Nat) (k : Int) (v : Int) (a : Int) (b : Int) (s : List UInt8) : runA Tryd.prog (X 20) (n + 2) 177 [(.agg [(.int .i64 k), (.str s), (.int .i64 v), (.int .i64 a), (.int .i64 b)])] =
  bif (s == []) then bif (k == (1 : Int)) then bif (v == (0 : Int)) then bif (Sp.short s) then some (.tup [(.str (bif Sp.word s then s else [])), (.bool (Sp.word s))])
     else none
    else some (.tup [(.str []), (.bool false)])
   else bif (k == (2 : Int)) then bif (v == (0 : Int)) then bif (!s == []) then bif (decide ((0 : Int) < (↑s.length : Int))) then bif (Sp.gr (s.getD (0 : Nat) (0 : UInt8))) then bif (Sp.short s) then some (.tup [(.str (bif Sp.run s == (↑s.length : Int) then s else [])), (.bool (Sp.run s == (↑s.length : Int)))])
         else none
        else some (.tup [(.str []), (.bool false)])
       else none
      else some (.tup [(.str []), (.bool false)])
     else some (.tup [(.str []), (.bool false)])
    else bif (k == (3 : Int)) then bif (Sp.short s) then some (.tup [(.str (bif v == (0 : Int) then Sp.quote s else [])), (.bool (v == (0 : Int)))])
      else none
     else bif (k == (4 : Int)) then bif (Sp.i64 v) then some (.tup [(.str (bif s == [] then Sp.itoa v else [])), (.bool (s == []))])
       else none
      else bif (v == (0 : Int)) then some (.tup [(.str (bif !Sp.signOf k == [] then Sp.signOf k else [])), (.bool (!Sp.signOf k == []))])
       else some (.tup [(.str []), (.bool false)])
  else bif (k == (1 : Int)) then bif (v == (0 : Int)) then bif (Sp.short s) then some (.tup [(.str (bif Sp.word s then s else [])), (.bool (Sp.word s))])
     else none
    else some (.tup [(.str []), (.bool false)])
   else bif (k == (2 : Int)) then bif (v == (0 : Int)) then bif (!s == []) then bif (decide ((0 : Int) < (↑s.length : Int))) then bif (Sp.gr (s.getD (0 : Nat) (0 : UInt8))) then bif (Sp.short s) then some (.tup [(.str (bif Sp.run s == (↑s.length : Int) then s else [])), (.bool (Sp.run s == (↑s.length : Int)))])
         else none
        else some (.tup [(.str []), (.bool false)])
       else none
      else some (.tup [(.str []), (.bool false)])
     else some (.tup [(.str []), (.bool false)])
    else bif (k == (3 : Int)) then bif (Sp.short s) then some (.tup [(.str (bif v == (0 : Int) then Sp.quote s else [])), (.bool (v == (0 : Int)))])
      else none
     else bif (k == (4 : Int)) then bif (Sp.i64 v) then some (.tup [(.str (bif s == [] then Sp.itoa v else [])), (.bool (s == []))])
       else none
      else some (.tup [(.str []), (.bool false)]) := by kernel_rfl

theorem e_tokens_signs (n : Nat) (s : List UInt8) (a : Int) : runA Tryd.prog (X 12) (n + 2) 56 [(.str s), (.agg [(.int .i64 0), (.str []), (.int .i64 0), (.int .i64 a), (.int .i64 0)])] =
  bif (decide ((↑s.length : Int) > (1 : Int))) then bif (decide ((2 : Int) ≤ (↑s.length : Int))) then bif (List.drop (0 : Nat) (List.take (2 : Nat) s) == [(58 : UInt8), (45 : UInt8)]) then some (.tup [(.agg [(.int .i64 11), (.str []), (.int .i64 0), (.int .i64 a), (.int .i64 (Go.IntKind.i64.wrap (a + (2 : Int))))]), (.agg [(.int .i64 0), (.int .i64 0)])])
    else bif (List.drop (0 : Nat) (List.take (2 : Nat) s) == [(33 : UInt8), (61 : UInt8)]) then some (.tup [(.agg [(.int .i64 14), (.str []), (.int .i64 0), (.int .i64 a), (.int .i64 (Go.IntKind.i64.wrap (a + (2 : Int))))]), (.agg [(.int .i64 0), (.int .i64 0)])])
     else bif (List.drop (0 : Nat) (List.take (2 : Nat) s) == [(60 : UInt8), (61 : UInt8)]) then some (.tup [(.agg [(.int .i64 16), (.str []), (.int .i64 0), (.int .i64 a), (.int .i64 (Go.IntKind.i64.wrap (a + (2 : Int))))]), (.agg [(.int .i64 0), (.int .i64 0)])])
      else bif (decide ((0 : Int) < (↑s.length : Int))) then bif (Sp.sign (s.getD (0 : Nat) (0 : UInt8)) == (0 : Int)) then some (.tup [(.agg [(.int .i64 (Sp.sign (s.getD (0 : Nat) (0 : UInt8)))), (.str []), (.int .i64 0), (.int .i64 a), (.int .i64 0)]), (.agg [(.int .i64 42), (.int .i64 a)])])
        else some (.tup [(.agg [(.int .i64 (Sp.sign (s.getD (0 : Nat) (0 : UInt8)))), (.str []), (.int .i64 0), (.int .i64 a), (.int .i64 (Go.IntKind.i64.wrap (a + (1 : Int))))]), (.agg [(.int .i64 0), (.int .i64 0)])])
       else none
   else none
  else bif (decide ((0 : Int) < (↑s.length : Int))) then bif (Sp.sign (s.getD (0 : Nat) (0 : UInt8)) == (0 : Int)) then some (.tup [(.agg [(.int .i64 (Sp.sign (s.getD (0 : Nat) (0 : UInt8)))), (.str []), (.int .i64 0), (.int .i64 a), (.int .i64 0)]), (.agg [(.int .i64 42), (.int .i64 a)])])
    else some (.tup [(.agg [(.int .i64 (Sp.sign (s.getD (0 : Nat) (0 : UInt8)))), (.str []), (.int .i64 0), (.int .i64 a), (.int .i64 (Go.IntKind.i64.wrap (a + (1 : Int))))]), (.agg [(.int .i64 0), (.int .i64 0)])])
   else none := by kernel_rfl

theorem e_tokens_number (n : Nat) (s : List UInt8) : runA Tryd.prog (X 15) (n + 2) 54 [(.str s)] =
  bif (Sp.short s) then bif (Sp.pOk s) then bif (Sp.i64 (Sp.pV s)) then some (.tup [(.int .i64 (Sp.pV s)), (.bool (Sp.itoa (Sp.pV s) == s))])
    else none
   else some (.tup [(.int .i64 (Sp.pV s)), (.bool false)])
  else none := by kernel_rfl

theorem e_tokens_token (n : Nat) (s : List UInt8) (i : Int) : runA Tryd.prog (X 16) (n + 2) 37 [(.str s), (.int .i64 i)] =
  bif (decide ((0 : Int) ≤ i)) then bif (decide (i ≤ (↑s.length : Int))) then bif (decide ((↑s.length : Int) ≤ (↑s.length : Int))) then bif (decide ((0 : Int) < (↑(List.drop i.toNat (List.take (↑s.length : Int).toNat s)).length : Int))) then bif (Sp.sm ((List.drop i.toNat (List.take (↑s.length : Int).toNat s)).getD (0 : Nat) (0 : UInt8))) then bif (Sp.short (List.drop i.toNat (List.take (↑s.length : Int).toNat s))) then bif (decide ((0 : Int) ≤ i)) then bif (decide (i ≤ Go.IntKind.i64.wrap (i + Sp.run (List.drop i.toNat (List.take (↑s.length : Int).toNat s))))) then bif (decide (Go.IntKind.i64.wrap (i + Sp.run (List.drop i.toNat (List.take (↑s.length : Int).toNat s))) ≤ (↑s.length : Int))) then bif (List.drop i.toNat (List.take (Go.IntKind.i64.wrap (i + Sp.run (List.drop i.toNat (List.take (↑s.length : Int).toNat s)))).toNat s) == [(115 : UInt8), (97 : UInt8), (121 : UInt8), (115 : UInt8)]) then some (.tup [(.agg [(.int .i64 5), (.str []), (.int .i64 0), (.int .i64 i), (.int .i64 (Go.IntKind.i64.wrap (i + Sp.run (List.drop i.toNat (List.take (↑s.length : Int).toNat s)))))]), (.agg [(.int .i64 0), (.int .i64 0)])])
           else some (.tup [(.agg [(.int .i64 1), (.str (List.drop i.toNat (List.take (Go.IntKind.i64.wrap (i + Sp.run (List.drop i.toNat (List.take (↑s.length : Int).toNat s)))).toNat s))), (.int .i64 0), (.int .i64 i), (.int .i64 (Go.IntKind.i64.wrap (i + Sp.run (List.drop i.toNat (List.take (↑s.length : Int).toNat s)))))]), (.agg [(.int .i64 0), (.int .i64 0)])])
          else none
         else none
        else none
       else none
      else bif (Sp.gr ((List.drop i.toNat (List.take (↑s.length : Int).toNat s)).getD (0 : Nat) (0 : UInt8))) then bif (Sp.short (List.drop i.toNat (List.take (↑s.length : Int).toNat s))) then bif (decide ((0 : Int) ≤ i)) then bif (decide (i ≤ Go.IntKind.i64.wrap (i + Sp.run (List.drop i.toNat (List.take (↑s.length : Int).toNat s))))) then bif (decide (Go.IntKind.i64.wrap (i + Sp.run (List.drop i.toNat (List.take (↑s.length : Int).toNat s))) ≤ (↑s.length : Int))) then some (.tup [(.agg [(.int .i64 2), (.str (List.drop i.toNat (List.take (Go.IntKind.i64.wrap (i + Sp.run (List.drop i.toNat (List.take (↑s.length : Int).toNat s)))).toNat s))), (.int .i64 0), (.int .i64 i), (.int .i64 (Go.IntKind.i64.wrap (i + Sp.run (List.drop i.toNat (List.take (↑s.length : Int).toNat s)))))]), (.agg [(.int .i64 0), (.int .i64 0)])])
           else none
          else none
         else none
        else none
       else bif (Sp.dg ((List.drop i.toNat (List.take (↑s.length : Int).toNat s)).getD (0 : Nat) (0 : UInt8))) then bif (decide ((1 : Int) ≤ (↑(List.drop i.toNat (List.take (↑s.length : Int).toNat s)).length : Int))) then bif (decide ((↑(List.drop i.toNat (List.take (↑s.length : Int).toNat s)).length : Int) ≤ (↑(List.drop i.toNat (List.take (↑s.length : Int).toNat s)).length : Int))) then bif (Sp.short (List.drop (1 : Nat) (List.take (↑(List.drop i.toNat (List.take (↑s.length : Int).toNat s)).length : Int).toNat (List.drop i.toNat (List.take (↑s.length : Int).toNat s))))) then bif (decide ((0 : Int) ≤ i)) then bif (decide (i ≤ Go.IntKind.i64.wrap (Go.IntKind.i64.wrap (i + (1 : Int)) + Sp.run (List.drop (1 : Nat) (List.take (↑(List.drop i.toNat (List.take (↑s.length : Int).toNat s)).length : Int).toNat (List.drop i.toNat (List.take (↑s.length : Int).toNat s))))))) then bif (decide (Go.IntKind.i64.wrap (Go.IntKind.i64.wrap (i + (1 : Int)) + Sp.run (List.drop (1 : Nat) (List.take (↑(List.drop i.toNat (List.take (↑s.length : Int).toNat s)).length : Int).toNat (List.drop i.toNat (List.take (↑s.length : Int).toNat s))))) ≤ (↑s.length : Int))) then bif (Sp.short (List.drop i.toNat (List.take (Go.IntKind.i64.wrap (Go.IntKind.i64.wrap (i + (1 : Int)) + Sp.run (List.drop (1 : Nat) (List.take (↑(List.drop i.toNat (List.take (↑s.length : Int).toNat s)).length : Int).toNat (List.drop i.toNat (List.take (↑s.length : Int).toNat s)))))).toNat s))) then bif (!Sp.numOk (List.drop i.toNat (List.take (Go.IntKind.i64.wrap (Go.IntKind.i64.wrap (i + (1 : Int)) + Sp.run (List.drop (1 : Nat) (List.take (↑(List.drop i.toNat (List.take (↑s.length : Int).toNat s)).length : Int).toNat (List.drop i.toNat (List.take (↑s.length : Int).toNat s)))))).toNat s))) then some (.tup [(.agg [(.int .i64 4), (.str []), (.int .i64 0), (.int .i64 i), (.int .i64 (Go.IntKind.i64.wrap (Go.IntKind.i64.wrap (i + (1 : Int)) + Sp.run (List.drop (1 : Nat) (List.take (↑(List.drop i.toNat (List.take (↑s.length : Int).toNat s)).length : Int).toNat (List.drop i.toNat (List.take (↑s.length : Int).toNat s)))))))]), (.agg [(.int .i64 45), (.int .i64 i)])])
                else some (.tup [(.agg [(.int .i64 4), (.str []), (.int .i64 (Sp.numV (List.drop i.toNat (List.take (Go.IntKind.i64.wrap (Go.IntKind.i64.wrap (i + (1 : Int)) + Sp.run (List.drop (1 : Nat) (List.take (↑(List.drop i.toNat (List.take (↑s.length : Int).toNat s)).length : Int).toNat (List.drop i.toNat (List.take (↑s.length : Int).toNat s)))))).toNat s)))), (.int .i64 i), (.int .i64 (Go.IntKind.i64.wrap (Go.IntKind.i64.wrap (i + (1 : Int)) + Sp.run (List.drop (1 : Nat) (List.take (↑(List.drop i.toNat (List.take (↑s.length : Int).toNat s)).length : Int).toNat (List.drop i.toNat (List.take (↑s.length : Int).toNat s)))))))]), (.agg [(.int .i64 0), (.int .i64 0)])])
               else none
              else none
             else none
            else none
           else none
          else none
         else none
        else bif ((List.drop i.toNat (List.take (↑s.length : Int).toNat s)).getD (0 : Nat) (0 : UInt8) == (45 : UInt8)) then bif (decide ((1 : Int) ≤ (↑(List.drop i.toNat (List.take (↑s.length : Int).toNat s)).length : Int))) then bif (decide ((↑(List.drop i.toNat (List.take (↑s.length : Int).toNat s)).length : Int) ≤ (↑(List.drop i.toNat (List.take (↑s.length : Int).toNat s)).length : Int))) then bif (Sp.short (List.drop (1 : Nat) (List.take (↑(List.drop i.toNat (List.take (↑s.length : Int).toNat s)).length : Int).toNat (List.drop i.toNat (List.take (↑s.length : Int).toNat s))))) then bif (decide ((0 : Int) ≤ i)) then bif (decide (i ≤ Go.IntKind.i64.wrap (Go.IntKind.i64.wrap (i + (1 : Int)) + Sp.run (List.drop (1 : Nat) (List.take (↑(List.drop i.toNat (List.take (↑s.length : Int).toNat s)).length : Int).toNat (List.drop i.toNat (List.take (↑s.length : Int).toNat s))))))) then bif (decide (Go.IntKind.i64.wrap (Go.IntKind.i64.wrap (i + (1 : Int)) + Sp.run (List.drop (1 : Nat) (List.take (↑(List.drop i.toNat (List.take (↑s.length : Int).toNat s)).length : Int).toNat (List.drop i.toNat (List.take (↑s.length : Int).toNat s))))) ≤ (↑s.length : Int))) then bif (Sp.short (List.drop i.toNat (List.take (Go.IntKind.i64.wrap (Go.IntKind.i64.wrap (i + (1 : Int)) + Sp.run (List.drop (1 : Nat) (List.take (↑(List.drop i.toNat (List.take (↑s.length : Int).toNat s)).length : Int).toNat (List.drop i.toNat (List.take (↑s.length : Int).toNat s)))))).toNat s))) then bif (!Sp.numOk (List.drop i.toNat (List.take (Go.IntKind.i64.wrap (Go.IntKind.i64.wrap (i + (1 : Int)) + Sp.run (List.drop (1 : Nat) (List.take (↑(List.drop i.toNat (List.take (↑s.length : Int).toNat s)).length : Int).toNat (List.drop i.toNat (List.take (↑s.length : Int).toNat s)))))).toNat s))) then some (.tup [(.agg [(.int .i64 4), (.str []), (.int .i64 0), (.int .i64 i), (.int .i64 (Go.IntKind.i64.wrap (Go.IntKind.i64.wrap (i + (1 : Int)) + Sp.run (List.drop (1 : Nat) (List.take (↑(List.drop i.toNat (List.take (↑s.length : Int).toNat s)).length : Int).toNat (List.drop i.toNat (List.take (↑s.length : Int).toNat s)))))))]), (.agg [(.int .i64 45), (.int .i64 i)])])
                 else some (.tup [(.agg [(.int .i64 4), (.str []), (.int .i64 (Sp.numV (List.drop i.toNat (List.take (Go.IntKind.i64.wrap (Go.IntKind.i64.wrap (i + (1 : Int)) + Sp.run (List.drop (1 : Nat) (List.take (↑(List.drop i.toNat (List.take (↑s.length : Int).toNat s)).length : Int).toNat (List.drop i.toNat (List.take (↑s.length : Int).toNat s)))))).toNat s)))), (.int .i64 i), (.int .i64 (Go.IntKind.i64.wrap (Go.IntKind.i64.wrap (i + (1 : Int)) + Sp.run (List.drop (1 : Nat) (List.take (↑(List.drop i.toNat (List.take (↑s.length : Int).toNat s)).length : Int).toNat (List.drop i.toNat (List.take (↑s.length : Int).toNat s)))))))]), (.agg [(.int .i64 0), (.int .i64 0)])])
                else none
               else none
              else none
             else none
            else none
           else none
          else none
         else bif ((List.drop i.toNat (List.take (↑s.length : Int).toNat s)).getD (0 : Nat) (0 : UInt8) == (34 : UInt8)) then bif (Sp.at_ s i) then some (.tup [(.agg [(.int .i64 ((Sp.quoted s i).t.k)), (.str (Sp.tb (Sp.quoted s i).t.t)), (.int .i64 ((Sp.quoted s i).t.n)), (.int .i64 ((Sp.quoted s i).t.at_)), (.int .i64 ((Sp.quoted s i).t.e))]), (.agg [(.int .i64 ((Sp.quoted s i).e)), (.int .i64 ((Sp.quoted s i).p))])])
           else none
          else bif (Sp.atE (List.drop i.toNat (List.take (↑s.length : Int).toNat s)) (0 : Int) &&
  ((!match List.drop i.toNat (List.take (↑s.length : Int).toNat s) with
      | [] => true
      | head :: tail => false) &&
    (decide ((0 : Int) ≤ i) && decide (i < (68719476736 : Int))))) then some (.tup [(.agg [(.int .i64 ((Sp.signs (List.drop i.toNat (List.take (↑s.length : Int).toNat s)) i).t.k)), (.str (Sp.tb (Sp.signs (List.drop i.toNat (List.take (↑s.length : Int).toNat s)) i).t.t)), (.int .i64 ((Sp.signs (List.drop i.toNat (List.take (↑s.length : Int).toNat s)) i).t.n)), (.int .i64 ((Sp.signs (List.drop i.toNat (List.take (↑s.length : Int).toNat s)) i).t.at_)), (.int .i64 ((Sp.signs (List.drop i.toNat (List.take (↑s.length : Int).toNat s)) i).t.e))]), (.agg [(.int .i64 ((Sp.signs (List.drop i.toNat (List.take (↑s.length : Int).toNat s)) i).e)), (.int .i64 ((Sp.signs (List.drop i.toNat (List.take (↑s.length : Int).toNat s)) i).p))])])
           else none
     else none
    else none
   else none
  else none := by kernel_rfl

end Go.Proofs.YtgeheffhdpeddaaDoor.VX
