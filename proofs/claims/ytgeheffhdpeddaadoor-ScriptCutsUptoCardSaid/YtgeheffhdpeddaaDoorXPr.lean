/-
  Texts laid together: EQUATIONS of script; PLAIN. Conditions: as each theorem states.
-/
import Derived.Test.YtgeheffhdpeddaaDoorXExD
import Derived.Test.YtgeheffhdpeddaaDoorTie
import Derived.Test.YtgeheffhdpeddaaDoorXRd
import Derived.Test.YtgeheffhdpeddaaDoorXScr
/- EQUATIONS of script.Print, printed by the tool (wip/tools/VTool.lean.txt; laid by laypr.py). Conditions: none. -/
namespace Go.Proofs.YtgeheffhdpeddaaDoor.VX
open Go Go.Proofs Go.Proofs.YtgeheffhdpeddaaDoor
noncomputable def LPr (n m0 : Nat) (i : Int) (kd : Int) (who to text : List UInt8) (xs : List AV) (j m k : Int) : Option AV := runL Tryd.prog (X 95) (n + 11) 12 [⟨0, m0, [1], 6⟩] [(.x, (.num 17)), ((.t 1), (.av (.ptr 1 0) .none)), ((.t 12), (.av (.int .i64 i) .none)), ((.t 11), (.av (.agg rowsG) .none)), ((.o 1), (.obj [((.int .i64 kd), .none), ((.str who), .none), ((.str to), .none), ((.str text), .none), ((.view 1 xs), .none), ((.int .i64 j), .none), ((.int .i64 m), .none), ((.int .i64 k), .none)])), ((.l 6), (.flag false)), ((.l 7), (.flag false)), ((.l 8), (.flag false)), ((.l 9), (.flag false)), ((.l 10), (.flag false)), ((.l 11), (.flag false)), ((.l 12), (.flag false)), ((.l 13), (.flag false)), ((.l 14), (.flag false)), ((.l 15), (.flag false)), ((.l 16), (.flag false)), ((.y 1), (.num 24))]
theorem e_script_Print (n : Nat) (kd : Int) (who to text : List UInt8) (xs : List AV) (j m k : Int) : runA Tryd.prog (X 95) (n + 12) 12 [.agg [.int .i64 kd, .str who, .str to, .str text, .view 1 xs, .int .i64 j, .int .i64 m, .int .i64 k]] = LPr n (n + 11) 0 kd who to text xs j m k := by kernel_rfl
noncomputable def L_script_Print_2 (n m0 m1 : Nat) (i0 : Int) (xs1 : List AV) (i2 : Int) (xs3 : List AV) (i4 : Int) (s5 : List UInt8) (s6 : List UInt8) (s7 : List UInt8) (xs8 : List AV) (i9 : Int) (i10 : Int) (i11 : Int) (s12 : List UInt8) (i13 : Int) (v14 : AV) (i15 : Int) (s16 : List UInt8) (s17 : List UInt8) (s18 : List UInt8) (xs19 : List AV) (i20 : Int) (i21 : Int) (i22 : Int) : Option AV := runL Tryd.prog (X 95) (n + 11) 12 [⟨0, m0, [1], 6⟩, ⟨2, m1, [1, 19, 27], 43⟩] [(.x, (.num 68)), ((.t 31), (.av (.int .i64 i0) .none)), ((.t 1), (.av (.ptr 1 0) .none)), ((.t 30), (.av (.view 3 xs1) .none)), ((.t 32), (.av (.int .i64 i2) .none)), ((.t 7), (.av (.view 1 xs3) (.some 47))), ((.t 6), (.av (.ptr 27 0) .none)), ((.o 1), (.obj [((.int .i64 i4), .none), ((.str s5), .none), ((.str s6), .none), ((.str s7), .none), ((.view 1 xs8), .none), ((.int .i64 i9), .none), ((.int .i64 i10), .none), ((.int .i64 i11), .none)])), ((.o 19), (.obj [((.str s12), .none), ((.int .i64 i13), .none), (v14, .none)])), ((.o 27), (.obj [((.int .i64 i15), .none), ((.str s16), .none), ((.str s17), .none), ((.str s18), .none), ((.view 1 xs19), .none), ((.int .i64 i20), .none), ((.int .i64 i21), .none), ((.int .i64 i22), .none)])), ((.l 43), (.flag false)), ((.l 44), (.flag false)), ((.l 45), (.flag false)), ((.l 46), (.flag false)), ((.l 47), (.flag true)), ((.l 48), (.flag false)), ((.l 49), (.flag false)), ((.l 50), (.flag false)), ((.l 51), (.flag false)), ((.l 52), (.flag false)), ((.l 53), (.flag false)), ((.l 54), (.flag false)), ((.l 55), (.flag false)), ((.l 56), (.flag false)), ((.l 57), (.flag false)), ((.l 58), (.flag false)), ((.l 59), (.flag false)), ((.l 60), (.flag false)), ((.l 61), (.flag false)), ((.l 62), (.flag false)), ((.l 63), (.flag false)), ((.l 64), (.flag false)), ((.l 65), (.flag false)), ((.l 66), (.flag false)), ((.l 67), (.flag false)), ((.y 1), (.num 24)), ((.y 19), (.num 55)), ((.y 27), (.num 24))]
noncomputable def L_script_Print_2_1 (n m0 m1 : Nat) (i0 : Int) (xs1 : List AV) (i2 : Int) (xs3 : List AV) (i4 : Int) (s5 : List UInt8) (s6 : List UInt8) (s7 : List UInt8) (xs8 : List AV) (i9 : Int) (i10 : Int) (i11 : Int) (s12 : List UInt8) (i13 : Int) (v14 : AV) (i15 : Int) (s16 : List UInt8) (s17 : List UInt8) (s18 : List UInt8) (i19 : Int) (i20 : Int) (i21 : Int) : Option AV := runL Tryd.prog (X 95) (n + 11) 12 [⟨0, m0, [1], 6⟩, ⟨2, m1, [1, 19, 27], 43⟩] [(.x, (.num 68)), ((.t 31), (.av (.int .i64 i0) .none)), ((.t 1), (.av (.ptr 1 0) .none)), ((.t 30), (.av (.view 3 xs1) .none)), ((.t 32), (.av (.int .i64 i2) .none)), ((.t 7), (.av (.view 1 xs3) (.some 47))), ((.t 6), (.av (.ptr 27 0) .none)), ((.o 1), (.obj [((.int .i64 i4), .none), ((.str s5), .none), ((.str s6), .none), ((.str s7), .none), ((.view 1 xs8), .none), ((.int .i64 i9), .none), ((.int .i64 i10), .none), ((.int .i64 i11), .none)])), ((.o 19), (.obj [((.str s12), .none), ((.int .i64 i13), .none), (v14, .none)])), ((.o 27), (.obj [((.int .i64 i15), .none), ((.str s16), .none), ((.str s17), .none), ((.str s18), .none), ((.raw (.slice .none 0 0)), .none), ((.int .i64 i19), .none), ((.int .i64 i20), .none), ((.int .i64 i21), .none)])), ((.l 43), (.flag false)), ((.l 44), (.flag false)), ((.l 45), (.flag false)), ((.l 46), (.flag false)), ((.l 47), (.flag true)), ((.l 48), (.flag false)), ((.l 49), (.flag false)), ((.l 50), (.flag false)), ((.l 51), (.flag false)), ((.l 52), (.flag false)), ((.l 53), (.flag false)), ((.l 54), (.flag false)), ((.l 55), (.flag false)), ((.l 56), (.flag false)), ((.l 57), (.flag false)), ((.l 58), (.flag false)), ((.l 59), (.flag false)), ((.l 60), (.flag false)), ((.l 61), (.flag false)), ((.l 62), (.flag false)), ((.l 63), (.flag false)), ((.l 64), (.flag false)), ((.l 65), (.flag false)), ((.l 66), (.flag false)), ((.l 67), (.flag false)), ((.y 1), (.num 24)), ((.y 19), (.num 55)), ((.y 27), (.num 24))]
/-- The loop over the parts of a row. -/
noncomputable def partsPr (n m0 : Nat) (ps : List Scr.P) (nm : List UInt8) (rk : Int) (f : Nat) (kd : Int) (who to text : List UInt8) (xs : List AV) (j m k : Int) : Option AV :=
  L_script_Print_2 n m0 (n + 11) ps.length (ps.map fun p => .agg (partP p)) 0 [.str nm] kd who to text xs j m k nm rk (.fn (.func f) [] []) kd who to text xs j m k
theorem LPr_0 (n m0 : Nat) (kd : Int) (who to text : List UInt8) (xs : List AV) (j m k : Int) : LPr n (m0 + 1) 0 kd who to text xs j m k = bif ((1 : Int) != kd) then LPr n m0 1 kd who to text xs j m k else bif (xs.all isU8 && decide (xs.length < (68719476736 : Nat))) then partsPr n m0 [.w] [101, 110, 114, 111, 108, 108] 1 126 kd who to text xs j m k else none := by unfold LPr; rw [runL_round]; kernel_rfl
theorem LPr_1 (n m0 : Nat) (kd : Int) (who to text : List UInt8) (xs : List AV) (j m k : Int) : LPr n (m0 + 1) 1 kd who to text xs j m k = bif ((2 : Int) != kd) then LPr n m0 2 kd who to text xs j m k else bif (xs.all isU8 && decide (xs.length < (68719476736 : Nat))) then partsPr n m0 [.w, .t] [97, 115, 115, 101, 114, 116] 2 128 kd who to text xs j m k else none := by unfold LPr; rw [runL_round]; kernel_rfl
theorem LPr_2 (n m0 : Nat) (kd : Int) (who to text : List UInt8) (xs : List AV) (j m k : Int) : LPr n (m0 + 1) 2 kd who to text xs j m k = bif ((3 : Int) != kd) then LPr n m0 3 kd who to text xs j m k else bif (xs.all isU8 && decide (xs.length < (68719476736 : Nat))) then partsPr n m0 [.w, .t] [114, 101, 116, 114, 97, 99, 116] 3 130 kd who to text xs j m k else none := by unfold LPr; rw [runL_round]; kernel_rfl
theorem LPr_3 (n m0 : Nat) (kd : Int) (who to text : List UInt8) (xs : List AV) (j m k : Int) : LPr n (m0 + 1) 3 kd who to text xs j m k = bif ((4 : Int) != kd) then LPr n m0 4 kd who to text xs j m k else bif (xs.all isU8 && decide (xs.length < (68719476736 : Nat))) then partsPr n m0 [.w, .t, .n] [101, 120, 112, 111, 114, 116] 4 131 kd who to text xs j m k else none := by unfold LPr; rw [runL_round]; kernel_rfl
theorem LPr_4 (n m0 : Nat) (kd : Int) (who to text : List UInt8) (xs : List AV) (j m k : Int) : LPr n (m0 + 1) 4 kd who to text xs j m k = bif ((5 : Int) != kd) then LPr n m0 5 kd who to text xs j m k else bif (xs.all isU8 && decide (xs.length < (68719476736 : Nat))) then partsPr n m0 [.w, .n] [105, 109, 112, 111, 114, 116] 5 133 kd who to text xs j m k else none := by unfold LPr; rw [runL_round]; kernel_rfl
theorem LPr_5 (n m0 : Nat) (kd : Int) (who to text : List UInt8) (xs : List AV) (j m k : Int) : LPr n (m0 + 1) 5 kd who to text xs j m k = bif ((6 : Int) != kd) then LPr n m0 6 kd who to text xs j m k else bif (xs.all isU8 && decide (xs.length < (68719476736 : Nat))) then partsPr n m0 [.w, .t] [102, 111, 114, 103, 101, 116] 6 134 kd who to text xs j m k else none := by unfold LPr; rw [runL_round]; kernel_rfl
theorem LPr_6 (n m0 : Nat) (kd : Int) (who to text : List UInt8) (xs : List AV) (j m k : Int) : LPr n (m0 + 1) 6 kd who to text xs j m k = bif ((7 : Int) != kd) then LPr n m0 7 kd who to text xs j m k else bif (xs.all isU8 && decide (xs.length < (68719476736 : Nat))) then partsPr n m0 [.w, .t, .n] [113, 117, 101, 114, 121] 7 135 kd who to text xs j m k else none := by unfold LPr; rw [runL_round]; kernel_rfl
theorem LPr_7 (n m0 : Nat) (kd : Int) (who to text : List UInt8) (xs : List AV) (j m k : Int) : LPr n (m0 + 1) 7 kd who to text xs j m k = bif ((8 : Int) != kd) then LPr n m0 8 kd who to text xs j m k else bif (xs.all isU8 && decide (xs.length < (68719476736 : Nat))) then partsPr n m0 [.w, .t] [97, 115, 107] 8 136 kd who to text xs j m k else none := by unfold LPr; rw [runL_round]; kernel_rfl
theorem LPr_8 (n m0 : Nat) (kd : Int) (who to text : List UInt8) (xs : List AV) (j m k : Int) : LPr n (m0 + 1) 8 kd who to text xs j m k = bif ((9 : Int) != kd) then LPr n m0 9 kd who to text xs j m k else bif (xs.all isU8 && decide (xs.length < (68719476736 : Nat))) then partsPr n m0 [.w, .t] [119, 97, 116, 99, 104] 9 137 kd who to text xs j m k else none := by unfold LPr; rw [runL_round]; kernel_rfl
theorem LPr_9 (n m0 : Nat) (kd : Int) (who to text : List UInt8) (xs : List AV) (j m k : Int) : LPr n (m0 + 1) 9 kd who to text xs j m k = bif ((10 : Int) != kd) then LPr n m0 10 kd who to text xs j m k else bif (xs.all isU8 && decide (xs.length < (68719476736 : Nat))) then partsPr n m0 [.w, .n] [110, 101, 119, 115] 10 138 kd who to text xs j m k else none := by unfold LPr; rw [runL_round]; kernel_rfl
theorem LPr_10 (n m0 : Nat) (kd : Int) (who to text : List UInt8) (xs : List AV) (j m k : Int) : LPr n (m0 + 1) 10 kd who to text xs j m k = bif ((11 : Int) != kd) then LPr n m0 11 kd who to text xs j m k else bif (xs.all isU8 && decide (xs.length < (68719476736 : Nat))) then partsPr n m0 [.w, .t] [119, 104, 121] 11 139 kd who to text xs j m k else none := by unfold LPr; rw [runL_round]; kernel_rfl
theorem LPr_11 (n m0 : Nat) (kd : Int) (who to text : List UInt8) (xs : List AV) (j m k : Int) : LPr n (m0 + 1) 11 kd who to text xs j m k = bif ((12 : Int) != kd) then LPr n m0 12 kd who to text xs j m k else bif (xs.all isU8 && decide (xs.length < (68719476736 : Nat))) then partsPr n m0 [.w, .o] [108, 111, 115, 115] 12 140 kd who to text xs j m k else none := by unfold LPr; rw [runL_round]; kernel_rfl
theorem LPr_12 (n m0 : Nat) (kd : Int) (who to text : List UInt8) (xs : List AV) (j m k : Int) : LPr n (m0 + 1) 12 kd who to text xs j m k = bif ((13 : Int) != kd) then LPr n m0 13 kd who to text xs j m k else bif (xs.all isU8 && decide (xs.length < (68719476736 : Nat))) then partsPr n m0 [.w, .t, .n] [112, 114, 111, 118, 101] 13 142 kd who to text xs j m k else none := by unfold LPr; rw [runL_round]; kernel_rfl
theorem LPr_13 (n m0 : Nat) (kd : Int) (who to text : List UInt8) (xs : List AV) (j m k : Int) : LPr n (m0 + 1) 13 kd who to text xs j m k = bif ((14 : Int) != kd) then LPr n m0 14 kd who to text xs j m k else bif (xs.all isU8 && decide (xs.length < (68719476736 : Nat))) then partsPr n m0 [.w, .n] [115, 104, 111, 119] 14 143 kd who to text xs j m k else none := by unfold LPr; rw [runL_round]; kernel_rfl
theorem LPr_14 (n m0 : Nat) (kd : Int) (who to text : List UInt8) (xs : List AV) (j m k : Int) : LPr n (m0 + 1) 14 kd who to text xs j m k = bif ((15 : Int) != kd) then LPr n m0 15 kd who to text xs j m k else bif (xs.all isU8 && decide (xs.length < (68719476736 : Nat))) then partsPr n m0 [.w] [99, 108, 97, 117, 115, 101, 115] 15 144 kd who to text xs j m k else none := by unfold LPr; rw [runL_round]; kernel_rfl
theorem LPr_15 (n m0 : Nat) (kd : Int) (who to text : List UInt8) (xs : List AV) (j m k : Int) : LPr n (m0 + 1) 15 kd who to text xs j m k = bif ((24 : Int) != kd) then LPr n m0 16 kd who to text xs j m k else bif (xs.all isU8 && decide (xs.length < (68719476736 : Nat))) then partsPr n m0 [.w] [114, 101, 100, 117, 110, 100, 97, 110, 116] 24 145 kd who to text xs j m k else none := by unfold LPr; rw [runL_round]; kernel_rfl
theorem LPr_16 (n m0 : Nat) (kd : Int) (who to text : List UInt8) (xs : List AV) (j m k : Int) : LPr n (m0 + 1) 16 kd who to text xs j m k = bif ((16 : Int) != kd) then LPr n m0 17 kd who to text xs j m k else bif (xs.all isU8 && decide (xs.length < (68719476736 : Nat))) then partsPr n m0 [.n] [100, 114, 111, 112] 16 146 kd who to text xs j m k else none := by unfold LPr; rw [runL_round]; kernel_rfl
theorem LPr_17 (n m0 : Nat) (kd : Int) (who to text : List UInt8) (xs : List AV) (j m k : Int) : LPr n (m0 + 1) 17 kd who to text xs j m k = bif ((17 : Int) != kd) then LPr n m0 18 kd who to text xs j m k else bif (xs.all isU8 && decide (xs.length < (68719476736 : Nat))) then partsPr n m0 [.n] [99, 111, 112, 121] 17 147 kd who to text xs j m k else none := by unfold LPr; rw [runL_round]; kernel_rfl
theorem LPr_18 (n m0 : Nat) (kd : Int) (who to text : List UInt8) (xs : List AV) (j m k : Int) : LPr n (m0 + 1) 18 kd who to text xs j m k = bif ((18 : Int) != kd) then LPr n m0 19 kd who to text xs j m k else bif (xs.all isU8 && decide (xs.length < (68719476736 : Nat))) then partsPr n m0 [.n, .m] [115, 119, 97, 112] 18 148 kd who to text xs j m k else none := by unfold LPr; rw [runL_round]; kernel_rfl
theorem LPr_19 (n m0 : Nat) (kd : Int) (who to text : List UInt8) (xs : List AV) (j m k : Int) : LPr n (m0 + 1) 19 kd who to text xs j m k = bif ((19 : Int) != kd) then LPr n m0 20 kd who to text xs j m k else bif (xs.all isU8 && decide (xs.length < (68719476736 : Nat))) then partsPr n m0 [.n, .m, .k] [102, 108, 105, 112] 19 150 kd who to text xs j m k else none := by unfold LPr; rw [runL_round]; kernel_rfl
theorem LPr_20 (n m0 : Nat) (kd : Int) (who to text : List UInt8) (xs : List AV) (j m k : Int) : LPr n (m0 + 1) 20 kd who to text xs j m k = bif ((20 : Int) != kd) then LPr n m0 21 kd who to text xs j m k else bif (xs.all isU8 && decide (xs.length < (68719476736 : Nat))) then partsPr n m0 [.n, .m] [99, 117, 116] 20 152 kd who to text xs j m k else none := by unfold LPr; rw [runL_round]; kernel_rfl
theorem LPr_21 (n m0 : Nat) (kd : Int) (who to text : List UInt8) (xs : List AV) (j m k : Int) : LPr n (m0 + 1) 21 kd who to text xs j m k = bif ((21 : Int) != kd) then LPr n m0 22 kd who to text xs j m k else bif (xs.all isU8 && decide (xs.length < (68719476736 : Nat))) then partsPr n m0 [.b] [102, 111, 114, 103, 101] 21 153 kd who to text xs j m k else none := by unfold LPr; rw [runL_round]; kernel_rfl
theorem LPr_22 (n m0 : Nat) (kd : Int) (who to text : List UInt8) (xs : List AV) (j m k : Int) : LPr n (m0 + 1) 22 kd who to text xs j m k = bif ((22 : Int) != kd) then LPr n m0 23 kd who to text xs j m k else bif (xs.all isU8 && decide (xs.length < (68719476736 : Nat))) then partsPr n m0 [] [119, 97, 105, 116, 105, 110, 103] 22 155 kd who to text xs j m k else none := by unfold LPr; rw [runL_round]; kernel_rfl
theorem LPr_23 (n m0 : Nat) (kd : Int) (who to text : List UInt8) (xs : List AV) (j m k : Int) : LPr n (m0 + 1) 23 kd who to text xs j m k = bif ((23 : Int) != kd) then LPr n m0 24 kd who to text xs j m k else bif (xs.all isU8 && decide (xs.length < (68719476736 : Nat))) then partsPr n m0 [.w, .m] [99, 114, 97, 115, 104] 23 156 kd who to text xs j m k else none := by unfold LPr; rw [runL_round]; kernel_rfl
theorem LPr_24 (n m0 : Nat) (kd : Int) (who to text : List UInt8) (xs : List AV) (j m k : Int) : LPr n (m0 + 1) 24 kd who to text xs j m k = some (.tup [.str [], .bool false]) := by unfold LPr; rw [runL_round]; kernel_rfl
theorem pr_say_b0 (n m0 m1 : Nat) (i0 : Int) (vs : List AV) (ws : List AV) (kd : Int) (who : List UInt8) (to : List UInt8) (text : List UInt8) (xs : List AV) (j : Int) (m : Int) (k : Int) (nm : List UInt8) (rk : Int) (kf : Nat) (lk : Int) (lw : List UInt8) (lo : List UInt8) (lt : List UInt8) (lx : List AV) (ln : Int) (lm : Int) (ll : Int) : L_script_Print_2 n m0 (m1 + 1) i0 ((.agg (partP Scr.P.b)) :: vs) 0 ws kd who to text xs j m k nm rk (.fn (.func kf) [] []) lk lw lo lt lx ln lm ll =
  bif (decide ((0 : Int) < i0)) then bif (decide ((0 : Int) < (↑(AV.agg [AV.fn (Go.Fn.func (168 : Nat)) [] [], AV.fn (Go.Fn.func (169 : Nat)) [] [], AV.fn (Go.Fn.func (170 : Nat)) [] []] :: vs).length : Int))) then bif (xs.all isU8 && Sp.short (Sp.bys xs)) then bif (roomA (ws.length + (1 : Nat)) (16 : Nat)) then L_script_Print_2_1 n m0 m1 i0 ((.agg [(.fn (.func 168) [] []), (.fn (.func 169) [] []), (.fn (.func 170) [] [])]) :: vs) 1 (ws ++ [AV.str (Sp.quote (Sp.bys xs))]) kd who to text xs j m k nm rk (.fn (.func kf) [] []) lk lw lo lt ln lm ll
     else none
    else none
   else none
  else bif (ws.all isS && decide (Sp.sizes (Sp.strs ws) + ws.length < (68719476736 : Nat))) then bif (!Sp.emptyB lw lo lt lx ln lm ll) then some (.tup [(.str []), (.bool false)])
    else bif (decide ((↑(Sp.joinL [(32 : UInt8)] (Sp.strs ws)).length : Int) > (65536 : Int))) then some (.tup [(.str []), (.bool false)])
     else some (.tup [(.str (Sp.joinL [(32 : UInt8)] (Sp.strs ws))), (.bool true)])
   else none := by unfold L_script_Print_2; rw [runL_round]; kernel_rfl
theorem pr_say_w0 (n m0 m1 : Nat) (i0 : Int) (vs : List AV) (ws : List AV) (kd : Int) (who : List UInt8) (to : List UInt8) (text : List UInt8) (xs : List AV) (j : Int) (m : Int) (k : Int) (nm : List UInt8) (rk : Int) (kf : Nat) (lk : Int) (lw : List UInt8) (lo : List UInt8) (lt : List UInt8) (lx : List AV) (ln : Int) (lm : Int) (ll : Int) : L_script_Print_2 n m0 (m1 + 1) i0 ((.agg (partP Scr.P.w)) :: vs) 0 ws kd who to text xs j m k nm rk (.fn (.func kf) [] []) lk lw lo lt lx ln lm ll =
  bif (decide ((0 : Int) < i0)) then bif (decide ((0 : Int) < (↑(AV.agg [AV.fn (Go.Fn.func (171 : Nat)) [] [AV.cptr [AV.fn (Go.Fn.func (158 : Nat)) [] []] (0 : Nat)], AV.fn (Go.Fn.func (172 : Nat)) [] [AV.cptr [AV.fn (Go.Fn.func (158 : Nat)) [] []] (0 : Nat)], AV.fn (Go.Fn.func (174 : Nat)) [] [AV.cptr [AV.fn (Go.Fn.func (158 : Nat)) [] []] (0 : Nat)]] :: vs).length : Int))) then bif (Sp.short who) then bif (roomA (ws.length + (1 : Nat)) (16 : Nat)) then L_script_Print_2 n m0 m1 i0 ((.agg [(.fn (.func 171) [] [(.cptr [(.fn (.func 158) [] [])] 0)]), (.fn (.func 172) [] [(.cptr [(.fn (.func 158) [] [])] 0)]), (.fn (.func 174) [] [(.cptr [(.fn (.func 158) [] [])] 0)])]) :: vs) 1 (ws ++ [AV.str (Sp.nameB who)]) kd who to text xs j m k nm rk (.fn (.func kf) [] []) lk [] lo lt lx ln lm ll
     else none
    else none
   else none
  else bif (ws.all isS && decide (Sp.sizes (Sp.strs ws) + ws.length < (68719476736 : Nat))) then bif (!Sp.emptyB lw lo lt lx ln lm ll) then some (.tup [(.str []), (.bool false)])
    else bif (decide ((↑(Sp.joinL [(32 : UInt8)] (Sp.strs ws)).length : Int) > (65536 : Int))) then some (.tup [(.str []), (.bool false)])
     else some (.tup [(.str (Sp.joinL [(32 : UInt8)] (Sp.strs ws))), (.bool true)])
   else none := by unfold L_script_Print_2; rw [runL_round]; kernel_rfl
theorem pr_say_n0 (n m0 m1 : Nat) (i0 : Int) (vs : List AV) (ws : List AV) (kd : Int) (who : List UInt8) (to : List UInt8) (text : List UInt8) (xs : List AV) (j : Int) (m : Int) (k : Int) (nm : List UInt8) (rk : Int) (kf : Nat) (lk : Int) (lw : List UInt8) (lo : List UInt8) (lt : List UInt8) (lx : List AV) (ln : Int) (lm : Int) (ll : Int) : L_script_Print_2 n m0 (m1 + 1) i0 ((.agg (partP Scr.P.n)) :: vs) 0 ws kd who to text xs j m k nm rk (.fn (.func kf) [] []) lk lw lo lt lx ln lm ll =
  bif (decide ((0 : Int) < i0)) then bif (decide ((0 : Int) < (↑(AV.agg [AV.fn (Go.Fn.func (175 : Nat)) [] [AV.cptr [AV.fn (Go.Fn.func (164 : Nat)) [] []] (0 : Nat)], AV.fn (Go.Fn.func (176 : Nat)) [] [AV.cptr [AV.fn (Go.Fn.func (164 : Nat)) [] []] (0 : Nat)], AV.fn (Go.Fn.func (178 : Nat)) [] [AV.cptr [AV.fn (Go.Fn.func (164 : Nat)) [] []] (0 : Nat)]] :: vs).length : Int))) then bif (Sp.i64 j) then bif (roomA (ws.length + (1 : Nat)) (16 : Nat)) then L_script_Print_2 n m0 m1 i0 ((.agg [(.fn (.func 175) [] [(.cptr [(.fn (.func 164) [] [])] 0)]), (.fn (.func 176) [] [(.cptr [(.fn (.func 164) [] [])] 0)]), (.fn (.func 178) [] [(.cptr [(.fn (.func 164) [] [])] 0)])]) :: vs) 1 (ws ++ [AV.str (Sp.itoa j)]) kd who to text xs j m k nm rk (.fn (.func kf) [] []) lk lw lo lt lx 0 lm ll
     else none
    else none
   else none
  else bif (ws.all isS && decide (Sp.sizes (Sp.strs ws) + ws.length < (68719476736 : Nat))) then bif (!Sp.emptyB lw lo lt lx ln lm ll) then some (.tup [(.str []), (.bool false)])
    else bif (decide ((↑(Sp.joinL [(32 : UInt8)] (Sp.strs ws)).length : Int) > (65536 : Int))) then some (.tup [(.str []), (.bool false)])
     else some (.tup [(.str (Sp.joinL [(32 : UInt8)] (Sp.strs ws))), (.bool true)])
   else none := by unfold L_script_Print_2; rw [runL_round]; kernel_rfl
theorem pr_say_t1 (n m0 m1 : Nat) (i0 : Int) (vs : List AV) (ws : List AV) (u0 : AV) (kd : Int) (who : List UInt8) (to : List UInt8) (text : List UInt8) (xs : List AV) (j : Int) (m : Int) (k : Int) (nm : List UInt8) (rk : Int) (kf : Nat) (lk : Int) (lw : List UInt8) (lo : List UInt8) (lt : List UInt8) (lx : List AV) (ln : Int) (lm : Int) (ll : Int) : L_script_Print_2 n m0 (m1 + 1) i0 (u0 :: (.agg (partP Scr.P.t)) :: vs) 1 ws kd who to text xs j m k nm rk (.fn (.func kf) [] []) lk lw lo lt lx ln lm ll =
  bif (decide ((1 : Int) < i0)) then bif (decide ((1 : Int) < (↑(u0 :: AV.agg [AV.fn (Go.Fn.func (159 : Nat)) [] [], AV.fn (Go.Fn.func (160 : Nat)) [] [], AV.fn (Go.Fn.func (162 : Nat)) [] []] :: vs).length : Int))) then bif (Sp.short text) then bif (roomA (ws.length + (1 : Nat)) (16 : Nat)) then L_script_Print_2 n m0 m1 i0 (u0 :: (.agg [(.fn (.func 159) [] []), (.fn (.func 160) [] []), (.fn (.func 162) [] [])]) :: vs) 2 (ws ++ [AV.str (Sp.quote text)]) kd who to text xs j m k nm rk (.fn (.func kf) [] []) lk lw lo [] lx ln lm ll
     else none
    else none
   else none
  else bif (ws.all isS && decide (Sp.sizes (Sp.strs ws) + ws.length < (68719476736 : Nat))) then bif (!Sp.emptyB lw lo lt lx ln lm ll) then some (.tup [(.str []), (.bool false)])
    else bif (decide ((↑(Sp.joinL [(32 : UInt8)] (Sp.strs ws)).length : Int) > (65536 : Int))) then some (.tup [(.str []), (.bool false)])
     else some (.tup [(.str (Sp.joinL [(32 : UInt8)] (Sp.strs ws))), (.bool true)])
   else none := by unfold L_script_Print_2; rw [runL_round]; kernel_rfl
theorem pr_say_n1 (n m0 m1 : Nat) (i0 : Int) (vs : List AV) (ws : List AV) (u0 : AV) (kd : Int) (who : List UInt8) (to : List UInt8) (text : List UInt8) (xs : List AV) (j : Int) (m : Int) (k : Int) (nm : List UInt8) (rk : Int) (kf : Nat) (lk : Int) (lw : List UInt8) (lo : List UInt8) (lt : List UInt8) (lx : List AV) (ln : Int) (lm : Int) (ll : Int) : L_script_Print_2 n m0 (m1 + 1) i0 (u0 :: (.agg (partP Scr.P.n)) :: vs) 1 ws kd who to text xs j m k nm rk (.fn (.func kf) [] []) lk lw lo lt lx ln lm ll =
  bif (decide ((1 : Int) < i0)) then bif (decide ((1 : Int) < (↑(u0 :: AV.agg [AV.fn (Go.Fn.func (175 : Nat)) [] [AV.cptr [AV.fn (Go.Fn.func (164 : Nat)) [] []] (0 : Nat)], AV.fn (Go.Fn.func (176 : Nat)) [] [AV.cptr [AV.fn (Go.Fn.func (164 : Nat)) [] []] (0 : Nat)], AV.fn (Go.Fn.func (178 : Nat)) [] [AV.cptr [AV.fn (Go.Fn.func (164 : Nat)) [] []] (0 : Nat)]] :: vs).length : Int))) then bif (Sp.i64 j) then bif (roomA (ws.length + (1 : Nat)) (16 : Nat)) then L_script_Print_2 n m0 m1 i0 (u0 :: (.agg [(.fn (.func 175) [] [(.cptr [(.fn (.func 164) [] [])] 0)]), (.fn (.func 176) [] [(.cptr [(.fn (.func 164) [] [])] 0)]), (.fn (.func 178) [] [(.cptr [(.fn (.func 164) [] [])] 0)])]) :: vs) 2 (ws ++ [AV.str (Sp.itoa j)]) kd who to text xs j m k nm rk (.fn (.func kf) [] []) lk lw lo lt lx 0 lm ll
     else none
    else none
   else none
  else bif (ws.all isS && decide (Sp.sizes (Sp.strs ws) + ws.length < (68719476736 : Nat))) then bif (!Sp.emptyB lw lo lt lx ln lm ll) then some (.tup [(.str []), (.bool false)])
    else bif (decide ((↑(Sp.joinL [(32 : UInt8)] (Sp.strs ws)).length : Int) > (65536 : Int))) then some (.tup [(.str []), (.bool false)])
     else some (.tup [(.str (Sp.joinL [(32 : UInt8)] (Sp.strs ws))), (.bool true)])
   else none := by unfold L_script_Print_2; rw [runL_round]; kernel_rfl
theorem pr_say_o1 (n m0 m1 : Nat) (i0 : Int) (vs : List AV) (ws : List AV) (u0 : AV) (kd : Int) (who : List UInt8) (to : List UInt8) (text : List UInt8) (xs : List AV) (j : Int) (m : Int) (k : Int) (nm : List UInt8) (rk : Int) (kf : Nat) (lk : Int) (lw : List UInt8) (lo : List UInt8) (lt : List UInt8) (lx : List AV) (ln : Int) (lm : Int) (ll : Int) : L_script_Print_2 n m0 (m1 + 1) i0 (u0 :: (.agg (partP Scr.P.o)) :: vs) 1 ws kd who to text xs j m k nm rk (.fn (.func kf) [] []) lk lw lo lt lx ln lm ll =
  bif (decide ((1 : Int) < i0)) then bif (decide ((1 : Int) < (↑(u0 :: AV.agg [AV.fn (Go.Fn.func (171 : Nat)) [] [AV.cptr [AV.fn (Go.Fn.func (165 : Nat)) [] []] (0 : Nat)], AV.fn (Go.Fn.func (172 : Nat)) [] [AV.cptr [AV.fn (Go.Fn.func (165 : Nat)) [] []] (0 : Nat)], AV.fn (Go.Fn.func (174 : Nat)) [] [AV.cptr [AV.fn (Go.Fn.func (165 : Nat)) [] []] (0 : Nat)]] :: vs).length : Int))) then bif (Sp.short to) then bif (roomA (ws.length + (1 : Nat)) (16 : Nat)) then L_script_Print_2 n m0 m1 i0 (u0 :: (.agg [(.fn (.func 171) [] [(.cptr [(.fn (.func 165) [] [])] 0)]), (.fn (.func 172) [] [(.cptr [(.fn (.func 165) [] [])] 0)]), (.fn (.func 174) [] [(.cptr [(.fn (.func 165) [] [])] 0)])]) :: vs) 2 (ws ++ [AV.str (Sp.nameB to)]) kd who to text xs j m k nm rk (.fn (.func kf) [] []) lk lw [] lt lx ln lm ll
     else none
    else none
   else none
  else bif (ws.all isS && decide (Sp.sizes (Sp.strs ws) + ws.length < (68719476736 : Nat))) then bif (!Sp.emptyB lw lo lt lx ln lm ll) then some (.tup [(.str []), (.bool false)])
    else bif (decide ((↑(Sp.joinL [(32 : UInt8)] (Sp.strs ws)).length : Int) > (65536 : Int))) then some (.tup [(.str []), (.bool false)])
     else some (.tup [(.str (Sp.joinL [(32 : UInt8)] (Sp.strs ws))), (.bool true)])
   else none := by unfold L_script_Print_2; rw [runL_round]; kernel_rfl
theorem pr_say_m1 (n m0 m1 : Nat) (i0 : Int) (vs : List AV) (ws : List AV) (u0 : AV) (kd : Int) (who : List UInt8) (to : List UInt8) (text : List UInt8) (xs : List AV) (j : Int) (m : Int) (k : Int) (nm : List UInt8) (rk : Int) (kf : Nat) (lk : Int) (lw : List UInt8) (lo : List UInt8) (lt : List UInt8) (lx : List AV) (ln : Int) (lm : Int) (ll : Int) : L_script_Print_2 n m0 (m1 + 1) i0 (u0 :: (.agg (partP Scr.P.m)) :: vs) 1 ws kd who to text xs j m k nm rk (.fn (.func kf) [] []) lk lw lo lt lx ln lm ll =
  bif (decide ((1 : Int) < i0)) then bif (decide ((1 : Int) < (↑(u0 :: AV.agg [AV.fn (Go.Fn.func (175 : Nat)) [] [AV.cptr [AV.fn (Go.Fn.func (166 : Nat)) [] []] (0 : Nat)], AV.fn (Go.Fn.func (176 : Nat)) [] [AV.cptr [AV.fn (Go.Fn.func (166 : Nat)) [] []] (0 : Nat)], AV.fn (Go.Fn.func (178 : Nat)) [] [AV.cptr [AV.fn (Go.Fn.func (166 : Nat)) [] []] (0 : Nat)]] :: vs).length : Int))) then bif (Sp.i64 m) then bif (roomA (ws.length + (1 : Nat)) (16 : Nat)) then L_script_Print_2 n m0 m1 i0 (u0 :: (.agg [(.fn (.func 175) [] [(.cptr [(.fn (.func 166) [] [])] 0)]), (.fn (.func 176) [] [(.cptr [(.fn (.func 166) [] [])] 0)]), (.fn (.func 178) [] [(.cptr [(.fn (.func 166) [] [])] 0)])]) :: vs) 2 (ws ++ [AV.str (Sp.itoa m)]) kd who to text xs j m k nm rk (.fn (.func kf) [] []) lk lw lo lt lx ln 0 ll
     else none
    else none
   else none
  else bif (ws.all isS && decide (Sp.sizes (Sp.strs ws) + ws.length < (68719476736 : Nat))) then bif (!Sp.emptyB lw lo lt lx ln lm ll) then some (.tup [(.str []), (.bool false)])
    else bif (decide ((↑(Sp.joinL [(32 : UInt8)] (Sp.strs ws)).length : Int) > (65536 : Int))) then some (.tup [(.str []), (.bool false)])
     else some (.tup [(.str (Sp.joinL [(32 : UInt8)] (Sp.strs ws))), (.bool true)])
   else none := by unfold L_script_Print_2; rw [runL_round]; kernel_rfl
theorem pr_say_n2 (n m0 m1 : Nat) (i0 : Int) (vs : List AV) (ws : List AV) (u0 : AV) (u1 : AV) (kd : Int) (who : List UInt8) (to : List UInt8) (text : List UInt8) (xs : List AV) (j : Int) (m : Int) (k : Int) (nm : List UInt8) (rk : Int) (kf : Nat) (lk : Int) (lw : List UInt8) (lo : List UInt8) (lt : List UInt8) (lx : List AV) (ln : Int) (lm : Int) (ll : Int) : L_script_Print_2 n m0 (m1 + 1) i0 (u0 :: u1 :: (.agg (partP Scr.P.n)) :: vs) 2 ws kd who to text xs j m k nm rk (.fn (.func kf) [] []) lk lw lo lt lx ln lm ll =
  bif (decide ((2 : Int) < i0)) then bif (decide ((2 : Int) < (↑(u0 :: u1 :: AV.agg [AV.fn (Go.Fn.func (175 : Nat)) [] [AV.cptr [AV.fn (Go.Fn.func (164 : Nat)) [] []] (0 : Nat)], AV.fn (Go.Fn.func (176 : Nat)) [] [AV.cptr [AV.fn (Go.Fn.func (164 : Nat)) [] []] (0 : Nat)], AV.fn (Go.Fn.func (178 : Nat)) [] [AV.cptr [AV.fn (Go.Fn.func (164 : Nat)) [] []] (0 : Nat)]] :: vs).length : Int))) then bif (Sp.i64 j) then bif (roomA (ws.length + (1 : Nat)) (16 : Nat)) then L_script_Print_2 n m0 m1 i0 (u0 :: u1 :: (.agg [(.fn (.func 175) [] [(.cptr [(.fn (.func 164) [] [])] 0)]), (.fn (.func 176) [] [(.cptr [(.fn (.func 164) [] [])] 0)]), (.fn (.func 178) [] [(.cptr [(.fn (.func 164) [] [])] 0)])]) :: vs) 3 (ws ++ [AV.str (Sp.itoa j)]) kd who to text xs j m k nm rk (.fn (.func kf) [] []) lk lw lo lt lx 0 lm ll
     else none
    else none
   else none
  else bif (ws.all isS && decide (Sp.sizes (Sp.strs ws) + ws.length < (68719476736 : Nat))) then bif (!Sp.emptyB lw lo lt lx ln lm ll) then some (.tup [(.str []), (.bool false)])
    else bif (decide ((↑(Sp.joinL [(32 : UInt8)] (Sp.strs ws)).length : Int) > (65536 : Int))) then some (.tup [(.str []), (.bool false)])
     else some (.tup [(.str (Sp.joinL [(32 : UInt8)] (Sp.strs ws))), (.bool true)])
   else none := by unfold L_script_Print_2; rw [runL_round]; kernel_rfl
theorem pr_say_k2 (n m0 m1 : Nat) (i0 : Int) (vs : List AV) (ws : List AV) (u0 : AV) (u1 : AV) (kd : Int) (who : List UInt8) (to : List UInt8) (text : List UInt8) (xs : List AV) (j : Int) (m : Int) (k : Int) (nm : List UInt8) (rk : Int) (kf : Nat) (lk : Int) (lw : List UInt8) (lo : List UInt8) (lt : List UInt8) (lx : List AV) (ln : Int) (lm : Int) (ll : Int) : L_script_Print_2 n m0 (m1 + 1) i0 (u0 :: u1 :: (.agg (partP Scr.P.k)) :: vs) 2 ws kd who to text xs j m k nm rk (.fn (.func kf) [] []) lk lw lo lt lx ln lm ll =
  bif (decide ((2 : Int) < i0)) then bif (decide ((2 : Int) < (↑(u0 :: u1 :: AV.agg [AV.fn (Go.Fn.func (175 : Nat)) [] [AV.cptr [AV.fn (Go.Fn.func (167 : Nat)) [] []] (0 : Nat)], AV.fn (Go.Fn.func (176 : Nat)) [] [AV.cptr [AV.fn (Go.Fn.func (167 : Nat)) [] []] (0 : Nat)], AV.fn (Go.Fn.func (178 : Nat)) [] [AV.cptr [AV.fn (Go.Fn.func (167 : Nat)) [] []] (0 : Nat)]] :: vs).length : Int))) then bif (Sp.i64 k) then bif (roomA (ws.length + (1 : Nat)) (16 : Nat)) then L_script_Print_2 n m0 m1 i0 (u0 :: u1 :: (.agg [(.fn (.func 175) [] [(.cptr [(.fn (.func 167) [] [])] 0)]), (.fn (.func 176) [] [(.cptr [(.fn (.func 167) [] [])] 0)]), (.fn (.func 178) [] [(.cptr [(.fn (.func 167) [] [])] 0)])]) :: vs) 3 (ws ++ [AV.str (Sp.itoa k)]) kd who to text xs j m k nm rk (.fn (.func kf) [] []) lk lw lo lt lx ln lm 0
     else none
    else none
   else none
  else bif (ws.all isS && decide (Sp.sizes (Sp.strs ws) + ws.length < (68719476736 : Nat))) then bif (!Sp.emptyB lw lo lt lx ln lm ll) then some (.tup [(.str []), (.bool false)])
    else bif (decide ((↑(Sp.joinL [(32 : UInt8)] (Sp.strs ws)).length : Int) > (65536 : Int))) then some (.tup [(.str []), (.bool false)])
     else some (.tup [(.str (Sp.joinL [(32 : UInt8)] (Sp.strs ws))), (.bool true)])
   else none := by unfold L_script_Print_2; rw [runL_round]; kernel_rfl
theorem pr_done_0 (n m0 m1 : Nat) (vs : List AV) (ws : List AV) (kd : Int) (who : List UInt8) (to : List UInt8) (text : List UInt8) (xs : List AV) (j : Int) (m : Int) (k : Int) (nm : List UInt8) (rk : Int) (kf : Nat) (lk : Int) (lw : List UInt8) (lo : List UInt8) (lt : List UInt8) (lx : List AV) (ln : Int) (lm : Int) (ll : Int) : L_script_Print_2 n m0 (m1 + 1) 0 vs 0 ws kd who to text xs j m k nm rk (.fn (.func kf) [] []) lk lw lo lt lx ln lm ll =
  bif (ws.all isS && decide (Sp.sizes (Sp.strs ws) + ws.length < (68719476736 : Nat))) then bif (!Sp.emptyB lw lo lt lx ln lm ll) then some (.tup [(.str []), (.bool false)])
   else bif (decide ((↑(Sp.joinL [(32 : UInt8)] (Sp.strs ws)).length : Int) > (65536 : Int))) then some (.tup [(.str []), (.bool false)])
    else some (.tup [(.str (Sp.joinL [(32 : UInt8)] (Sp.strs ws))), (.bool true)])
  else none := by unfold L_script_Print_2; rw [runL_round]; kernel_rfl
theorem pr_done_1 (n m0 m1 : Nat) (vs : List AV) (ws : List AV) (kd : Int) (who : List UInt8) (to : List UInt8) (text : List UInt8) (xs : List AV) (j : Int) (m : Int) (k : Int) (nm : List UInt8) (rk : Int) (kf : Nat) (lk : Int) (lw : List UInt8) (lo : List UInt8) (lt : List UInt8) (lx : List AV) (ln : Int) (lm : Int) (ll : Int) : L_script_Print_2 n m0 (m1 + 1) 1 vs 1 ws kd who to text xs j m k nm rk (.fn (.func kf) [] []) lk lw lo lt lx ln lm ll =
  bif (ws.all isS && decide (Sp.sizes (Sp.strs ws) + ws.length < (68719476736 : Nat))) then bif (!Sp.emptyB lw lo lt lx ln lm ll) then some (.tup [(.str []), (.bool false)])
   else bif (decide ((↑(Sp.joinL [(32 : UInt8)] (Sp.strs ws)).length : Int) > (65536 : Int))) then some (.tup [(.str []), (.bool false)])
    else some (.tup [(.str (Sp.joinL [(32 : UInt8)] (Sp.strs ws))), (.bool true)])
  else none := by unfold L_script_Print_2; rw [runL_round]; kernel_rfl
theorem pr_done_2 (n m0 m1 : Nat) (vs : List AV) (ws : List AV) (kd : Int) (who : List UInt8) (to : List UInt8) (text : List UInt8) (xs : List AV) (j : Int) (m : Int) (k : Int) (nm : List UInt8) (rk : Int) (kf : Nat) (lk : Int) (lw : List UInt8) (lo : List UInt8) (lt : List UInt8) (lx : List AV) (ln : Int) (lm : Int) (ll : Int) : L_script_Print_2 n m0 (m1 + 1) 2 vs 2 ws kd who to text xs j m k nm rk (.fn (.func kf) [] []) lk lw lo lt lx ln lm ll =
  bif (ws.all isS && decide (Sp.sizes (Sp.strs ws) + ws.length < (68719476736 : Nat))) then bif (!Sp.emptyB lw lo lt lx ln lm ll) then some (.tup [(.str []), (.bool false)])
   else bif (decide ((↑(Sp.joinL [(32 : UInt8)] (Sp.strs ws)).length : Int) > (65536 : Int))) then some (.tup [(.str []), (.bool false)])
    else some (.tup [(.str (Sp.joinL [(32 : UInt8)] (Sp.strs ws))), (.bool true)])
  else none := by unfold L_script_Print_2; rw [runL_round]; kernel_rfl
theorem pr_done_3 (n m0 m1 : Nat) (vs : List AV) (ws : List AV) (kd : Int) (who : List UInt8) (to : List UInt8) (text : List UInt8) (xs : List AV) (j : Int) (m : Int) (k : Int) (nm : List UInt8) (rk : Int) (kf : Nat) (lk : Int) (lw : List UInt8) (lo : List UInt8) (lt : List UInt8) (lx : List AV) (ln : Int) (lm : Int) (ll : Int) : L_script_Print_2 n m0 (m1 + 1) 3 vs 3 ws kd who to text xs j m k nm rk (.fn (.func kf) [] []) lk lw lo lt lx ln lm ll =
  bif (ws.all isS && decide (Sp.sizes (Sp.strs ws) + ws.length < (68719476736 : Nat))) then bif (!Sp.emptyB lw lo lt lx ln lm ll) then some (.tup [(.str []), (.bool false)])
   else bif (decide ((↑(Sp.joinL [(32 : UInt8)] (Sp.strs ws)).length : Int) > (65536 : Int))) then some (.tup [(.str []), (.bool false)])
    else some (.tup [(.str (Sp.joinL [(32 : UInt8)] (Sp.strs ws))), (.bool true)])
  else none := by unfold L_script_Print_2; rw [runL_round]; kernel_rfl
theorem pr_done_1r (n m0 m1 : Nat) (vs : List AV) (ws : List AV) (kd : Int) (who : List UInt8) (to : List UInt8) (text : List UInt8) (xs : List AV) (j : Int) (m : Int) (k : Int) (nm : List UInt8) (rk : Int) (kf : Nat) (lk : Int) (lw : List UInt8) (lo : List UInt8) (lt : List UInt8) (ln : Int) (lm : Int) (ll : Int) : L_script_Print_2_1 n m0 (m1 + 1) 1 vs 1 ws kd who to text xs j m k nm rk (.fn (.func kf) [] []) lk lw lo lt ln lm ll =
  bif (ws.all isS && decide (Sp.sizes (Sp.strs ws) + ws.length < (68719476736 : Nat))) then bif (!Sp.emptyB lw lo lt [] ln lm ll) then some (.tup [(.str []), (.bool false)])
   else bif (decide ((↑(Sp.joinL [(32 : UInt8)] (Sp.strs ws)).length : Int) > (65536 : Int))) then some (.tup [(.str []), (.bool false)])
    else some (.tup [(.str (Sp.joinL [(32 : UInt8)] (Sp.strs ws))), (.bool true)])
  else none := by unfold L_script_Print_2_1; rw [runL_round]; kernel_rfl
end Go.Proofs.YtgeheffhdpeddaaDoor.VX

/- PLAIN: script.Print comes to the plain printing. Conditions: as each theorem states. -/
namespace Go.Proofs.YtgeheffhdpeddaaDoor.VX
open Go Go.Proofs Go.Proofs.YtgeheffhdpeddaaDoor Go.RowKit
/-- The fields of a step, as the executor tells them. -/
structure DV where
  kd : Int
  who : List UInt8
  to : List UInt8
  text : List UInt8
  xs : List AV
  n : Int
  m : Int
  k : Int
namespace DV
def D (d : DV) : Scr.D := Sp.dO d.kd d.who d.to d.text d.xs d.n d.m d.k
def av (d : DV) : AV := .agg [.int .i64 d.kd, .str d.who, .str d.to, .str d.text, .view 1 d.xs, .int .i64 d.n, .int .i64 d.m, .int .i64 d.k]
def ok (d : DV) : Bool := Sp.okD d.who d.to d.text d.xs d.n d.m d.k
def say (d : DV) : Scr.P → List UInt8
  | .w => Sp.nameB d.who
  | .o => Sp.nameB d.to
  | .t => Sp.quote d.text
  | .b => Sp.quote (Sp.bys d.xs)
  | .n => Sp.itoa d.n
  | .m => Sp.itoa d.m
  | .k => Sp.itoa d.k
def clear (l : DV) : Scr.P → DV
  | .w => { l with who := [] }
  | .o => { l with to := [] }
  | .t => { l with text := [] }
  | .b => { l with xs := [] }
  | .n => { l with n := 0 }
  | .m => { l with m := 0 }
  | .k => { l with k := 0 }
def empty (l : DV) : Bool := Sp.emptyB l.who l.to l.text l.xs l.n l.m l.k
structure Ok (d : DV) : Prop where
  sz : d.who.length + d.to.length + d.text.length + d.xs.length < 4294967296
  u8 : d.xs.all isU8 = true
  n : Sp.i64 d.n = true
  m : Sp.i64 d.m = true
  k : Sp.i64 d.k = true
theorem ok_of {d : DV} (h : d.ok = true) : Ok d := by
  simp only [ok, Sp.okD, Sp.small3, Bool.and_eq_true, decide_eq_true_eq] at h
  exact ⟨h.1.1, h.1.2, h.2.1, h.2.2.1, h.2.2.2⟩
theorem of_ok {d : DV} (h : Ok d) : d.ok = true := by
  simp only [ok, Sp.okD, Sp.small3, Bool.and_eq_true, decide_eq_true_eq]
  exact ⟨⟨h.sz, h.u8⟩, h.n, h.m, h.k⟩
theorem fine (d : DV) (h : Ok d) : Scr.Fine d.D := ⟨ints_bytes _, ints_bytes _, ints_bytes _, ints_bytes _, of_i64 h.n, of_i64 h.m, of_i64 h.k⟩
theorem nameB_tb (s : List UInt8) : Sp.nameB s = Sp.tb (Scr.name (Sp.ints s)) := by
  unfold Sp.nameB Scr.name Sp.word
  cases Tk.word (Sp.ints s) with
  | true => simp only [cond_true, if_true, Sp.tb_ints]
  | false => simp only [cond_false]; rfl
theorem say_tb (d : DV) (h : Ok d) (p : Scr.P) : d.say p = Sp.tb (Scr.shown d.D p) := by
  cases p
  · exact nameB_tb _
  · exact nameB_tb _
  · rfl
  · rfl
  · exact itoa_tb _ h.n
  · exact itoa_tb _ h.m
  · exact itoa_tb _ h.k
theorem bys_len (xs : List AV) : (Sp.bys xs).length = xs.length := by simp [Sp.bys]
theorem say_len (d : DV) (h : Ok d) (p : Scr.P) : (d.say p).length ≤ 17179869186 := by
  rw [say_tb d h p, tb_len]
  have nm : ∀ s : List Int, s.length ≤ 4294967296 → (Scr.name s).length ≤ 17179869186 := fun s hs => by
    have := Scr.quote_le s
    unfold Scr.name; split <;> omega
  have qt : ∀ s : List Int, s.length ≤ 4294967296 → (Tk.quote s).length ≤ 17179869186 := fun s hs => by have := Scr.quote_le s; omega
  have dc : ∀ n : Int, -9223372036854775808 ≤ n ∧ n ≤ 9223372036854775807 → (Tk.dec n).length ≤ 17179869186 := fun n hn => by
    obtain ⟨c, r, e, _, _, _, _, hr⟩ := Tk.dec_form hn.1 hn.2
    rw [e, List.length_cons]; omega
  have z := h.sz
  cases p
  · exact nm _ (by simp only [D, Sp.dO, Sp.ints_len]; omega)
  · exact nm _ (by simp only [D, Sp.dO, Sp.ints_len]; omega)
  · exact qt _ (by simp only [D, Sp.dO, Sp.ints_len]; omega)
  · exact qt _ (by simp only [D, Sp.dO, Sp.ints_len, bys_len]; omega)
  · exact dc _ (of_i64 h.n)
  · exact dc _ (of_i64 h.m)
  · exact dc _ (of_i64 h.k)
def clears : DV → List Scr.P → DV
  | l, [] => l
  | l, p :: ps => clears (l.clear p) ps
theorem has_cons (q p : Scr.P) (ps : List Scr.P) : Scr.has q (p :: ps) = (decide (p = q) || Scr.has q ps) := by simp [Scr.has]
theorem clears_empty : ∀ (ps : List Scr.P) (l : DV), (clears l ps).empty = ((Scr.has .w ps || l.who == []) && ((Scr.has .o ps || l.to == []) && ((Scr.has .t ps || l.text == []) && ((Scr.has .b ps || l.xs.isEmpty) && ((Scr.has .n ps || l.n == 0) && ((Scr.has .m ps || l.m == 0) && (Scr.has .k ps || l.k == 0)))))))
  | [], l => by simp [clears, empty, Sp.emptyB, Scr.has]
  | p :: ps, l => by
    rw [clears, clears_empty ps]
    simp only [has_cons]
    cases p <;> simp [clear]
theorem ints_nil (s : List UInt8) : decide (Sp.ints s = []) = (s == []) := by cases s <;> simp [Sp.ints]
theorem clears_clean (ps : List Scr.P) (d : DV) : (clears d ps).empty = Scr.clean ps d.D := by
  rw [clears_empty]
  have e1 : decide (d.D.who = []) = (d.who == []) := ints_nil _
  have e2 : decide (d.D.to = []) = (d.to == []) := ints_nil _
  have e3 : decide (d.D.text = []) = (d.text == []) := ints_nil _
  have e4 : decide (d.D.bytes = []) = d.xs.isEmpty := by
    show decide (Sp.ints (Sp.bys d.xs) = []) = _
    rw [ints_nil]
    cases d.xs <;> simp [Sp.bys]
  have e5 : decide (d.D.n = 0) = (d.n == 0) := by show decide (d.n = 0) = _; by_cases h : d.n = 0 <;> simp [h]
  have e6 : decide (d.D.m = 0) = (d.m == 0) := by show decide (d.m = 0) = _; by_cases h : d.m = 0 <;> simp [h]
  have e7 : decide (d.D.k = 0) = (d.k == 0) := by show decide (d.k = 0) = _; by_cases h : d.k = 0 <;> simp [h]
  unfold Scr.clean
  rw [e1, e2, e3, e4, e5, e6, e7]
  simp only [Bool.and_assoc]
end DV
/-- The loop over the parts. -/
noncomputable def LP (n m0 m1 : Nat) (len : Int) (ps : List AV) (i : Int) (ws : List AV) (d : DV) (nm : List UInt8) (rk : Int) (f : Nat) (l : DV) : Option AV :=
  L_script_Print_2 n m0 m1 len ps i ws d.kd d.who d.to d.text d.xs d.n d.m d.k nm rk (.fn (.func f) [] []) l.kd l.who l.to l.text l.xs l.n l.m l.k
def doneP (ws : List AV) (l : DV) : Option AV :=
  bif (ws.all isS && decide (Sp.sizes (Sp.strs ws) + ws.length < 68719476736)) then bif (!l.empty) then some (.tup [.str [], .bool false])
    else bif (decide (((Sp.joinL [(32 : UInt8)] (Sp.strs ws)).length : Int) > 65536)) then some (.tup [.str [], .bool false])
    else some (.tup [.str (Sp.joinL [(32 : UInt8)] (Sp.strs ws)), .bool true])
  else none
theorem short_of {d : DV} (h : DV.Ok d) : Sp.short d.who = true ∧ Sp.short d.to = true ∧ Sp.short d.text = true ∧ Sp.short (Sp.bys d.xs) = true := by
  have := h.sz
  refine ⟨decide_eq_true (by omega), decide_eq_true (by omega), decide_eq_true (by omega), decide_eq_true (by rw [DV.bys_len]; omega)⟩
/-- One part. -/
theorem stepP (n m0 m1 : Nat) (len : Int) (xs ws : List AV) (d : DV) (h : DV.Ok d) (nm : List UInt8) (rk : Int) (f : Nat) (l : DV) {p : Scr.P} {pos : Nat} (hc : (p, pos) ∈ combos) (hl : (pos : Int) < len)
    (hx : xs[pos]? = some (.agg (partP p))) (hw : ws.length < 1000) :
    LP n m0 (m1 + 1) len xs pos ws d nm rk f l = LP n m0 m1 len xs ((pos + 1 : Nat) : Int) (ws ++ [.str (d.say p)]) d nm rk f (l.clear p) := by
  obtain ⟨s1, s2, s3, s4⟩ := short_of h
  have hr : roomA (ws.length + 1) 16 = true := room_t (by omega) (by decide)
  simp only [combos, List.mem_cons, Prod.mk.injEq, List.not_mem_nil, or_false] at hc
  rcases hc with ⟨rfl, rfl⟩ | ⟨rfl, rfl⟩ | ⟨rfl, rfl⟩ | ⟨rfl, rfl⟩ | ⟨rfl, rfl⟩ | ⟨rfl, rfl⟩ | ⟨rfl, rfl⟩ | ⟨rfl, rfl⟩
  · obtain ⟨v, vs, rfl⟩ := dec1 (l := xs) (List.getElem?_eq_some_iff.mp hx).1
    obtain rfl : v = .agg (partP .w) := by simpa using hx
    refine (pr_say_w0 n m0 m1 len vs ws  d.kd d.who d.to d.text d.xs d.n d.m d.k nm rk f l.kd l.who l.to l.text l.xs l.n l.m l.k).trans ?_
    simp only [List.length_cons]
    rw [lt_t (show (0 : Int) < len from hl), lt_t (a := 0) (b := ((vs.length + 1 : Nat) : Int)) (by omega), s1, hr]
    simp only [cond_true]
    rfl
  · obtain ⟨v, vs, rfl⟩ := dec1 (l := xs) (List.getElem?_eq_some_iff.mp hx).1
    obtain rfl : v = .agg (partP .n) := by simpa using hx
    refine (pr_say_n0 n m0 m1 len vs ws  d.kd d.who d.to d.text d.xs d.n d.m d.k nm rk f l.kd l.who l.to l.text l.xs l.n l.m l.k).trans ?_
    simp only [List.length_cons]
    rw [lt_t (show (0 : Int) < len from hl), lt_t (a := 0) (b := ((vs.length + 1 : Nat) : Int)) (by omega), h.n, hr]
    simp only [cond_true]
    rfl
  · obtain ⟨u0, v, vs, rfl⟩ := dec2 (l := xs) (List.getElem?_eq_some_iff.mp hx).1
    obtain rfl : v = .agg (partP .t) := by simpa using hx
    refine (pr_say_t1 n m0 m1 len vs ws u0 d.kd d.who d.to d.text d.xs d.n d.m d.k nm rk f l.kd l.who l.to l.text l.xs l.n l.m l.k).trans ?_
    simp only [List.length_cons]
    rw [lt_t (show (1 : Int) < len from hl), lt_t (a := 1) (b := ((vs.length + 1 + 1 : Nat) : Int)) (by omega), s3, hr]
    simp only [cond_true]
    rfl
  · obtain ⟨u0, v, vs, rfl⟩ := dec2 (l := xs) (List.getElem?_eq_some_iff.mp hx).1
    obtain rfl : v = .agg (partP .n) := by simpa using hx
    refine (pr_say_n1 n m0 m1 len vs ws u0 d.kd d.who d.to d.text d.xs d.n d.m d.k nm rk f l.kd l.who l.to l.text l.xs l.n l.m l.k).trans ?_
    simp only [List.length_cons]
    rw [lt_t (show (1 : Int) < len from hl), lt_t (a := 1) (b := ((vs.length + 1 + 1 : Nat) : Int)) (by omega), h.n, hr]
    simp only [cond_true]
    rfl
  · obtain ⟨u0, v, vs, rfl⟩ := dec2 (l := xs) (List.getElem?_eq_some_iff.mp hx).1
    obtain rfl : v = .agg (partP .o) := by simpa using hx
    refine (pr_say_o1 n m0 m1 len vs ws u0 d.kd d.who d.to d.text d.xs d.n d.m d.k nm rk f l.kd l.who l.to l.text l.xs l.n l.m l.k).trans ?_
    simp only [List.length_cons]
    rw [lt_t (show (1 : Int) < len from hl), lt_t (a := 1) (b := ((vs.length + 1 + 1 : Nat) : Int)) (by omega), s2, hr]
    simp only [cond_true]
    rfl
  · obtain ⟨u0, v, vs, rfl⟩ := dec2 (l := xs) (List.getElem?_eq_some_iff.mp hx).1
    obtain rfl : v = .agg (partP .m) := by simpa using hx
    refine (pr_say_m1 n m0 m1 len vs ws u0 d.kd d.who d.to d.text d.xs d.n d.m d.k nm rk f l.kd l.who l.to l.text l.xs l.n l.m l.k).trans ?_
    simp only [List.length_cons]
    rw [lt_t (show (1 : Int) < len from hl), lt_t (a := 1) (b := ((vs.length + 1 + 1 : Nat) : Int)) (by omega), h.m, hr]
    simp only [cond_true]
    rfl
  · obtain ⟨u0, u1, v, vs, rfl⟩ := dec3 (l := xs) (List.getElem?_eq_some_iff.mp hx).1
    obtain rfl : v = .agg (partP .n) := by simpa using hx
    refine (pr_say_n2 n m0 m1 len vs ws u0 u1 d.kd d.who d.to d.text d.xs d.n d.m d.k nm rk f l.kd l.who l.to l.text l.xs l.n l.m l.k).trans ?_
    simp only [List.length_cons]
    rw [lt_t (show (2 : Int) < len from hl), lt_t (a := 2) (b := ((vs.length + 1 + 1 + 1 : Nat) : Int)) (by omega), h.n, hr]
    simp only [cond_true]
    rfl
  · obtain ⟨u0, u1, v, vs, rfl⟩ := dec3 (l := xs) (List.getElem?_eq_some_iff.mp hx).1
    obtain rfl : v = .agg (partP .k) := by simpa using hx
    refine (pr_say_k2 n m0 m1 len vs ws u0 u1 d.kd d.who d.to d.text d.xs d.n d.m d.k nm rk f l.kd l.who l.to l.text l.xs l.n l.m l.k).trans ?_
    simp only [List.length_cons]
    rw [lt_t (show (2 : Int) < len from hl), lt_t (a := 2) (b := ((vs.length + 1 + 1 + 1 : Nat) : Int)) (by omega), h.k, hr]
    simp only [cond_true]
    rfl
theorem endP (n m0 m1 : Nat) (xs ws : List AV) (d : DV) (nm : List UInt8) (rk : Int) (f : Nat) (l : DV) {pos : Nat} (hp : pos ≤ 3) : LP n m0 (m1 + 1) pos xs pos ws d nm rk f l = doneP ws l := by
  have : pos = 0 ∨ pos = 1 ∨ pos = 2 ∨ pos = 3 := by omega
  rcases this with rfl | rfl | rfl | rfl
  · exact pr_done_0 n m0 m1 xs ws d.kd d.who d.to d.text d.xs d.n d.m d.k nm rk f l.kd l.who l.to l.text l.xs l.n l.m l.k
  · exact pr_done_1 n m0 m1 xs ws d.kd d.who d.to d.text d.xs d.n d.m d.k nm rk f l.kd l.who l.to l.text l.xs l.n l.m l.k
  · exact pr_done_2 n m0 m1 xs ws d.kd d.who d.to d.text d.xs d.n d.m d.k nm rk f l.kd l.who l.to l.text l.xs l.n l.m l.k
  · exact pr_done_3 n m0 m1 xs ws d.kd d.who d.to d.text d.xs d.n d.m d.k nm rk f l.kd l.who l.to l.text l.xs l.n l.m l.k
theorem runP (n m0 : Nat) (len : Nat) (xs : List AV) (d : DV) (h : DV.Ok d) (nm : List UInt8) (rk : Int) (f : Nat) (h3 : len ≤ 3) : ∀ (ps : List Scr.P) (pos m1 : Nat) (ws : List AV) (l : DV), pos + ps.length = len →
    (∀ i p, ps[i]? = some p → (p, pos + i) ∈ combos ∧ xs[pos + i]? = some (.agg (partP p))) → ps.length < m1 → ws.length + ps.length < 1000 →
    LP n m0 m1 len xs pos ws d nm rk f l = doneP (ws ++ ps.map fun p => .str (d.say p)) (l.clears ps)
  | [], pos, m1, ws, l, hp, _, hm, _ => by
    obtain ⟨m1, rfl⟩ : ∃ k, m1 = k + 1 := ⟨m1 - 1, by simp at hm; omega⟩
    simp only [List.length_nil, Nat.add_zero] at hp
    subst hp
    simp only [List.map_nil, List.append_nil]
    exact endP n m0 m1 xs ws d nm rk f l h3
  | p :: ps, pos, m1, ws, l, hp, hc, hm, hw => by
    obtain ⟨m1, rfl⟩ : ∃ k, m1 = k + 1 := ⟨m1 - 1, by simp at hm; omega⟩
    simp only [List.length_cons] at hp hm hw
    have h0 : (p, pos) ∈ combos ∧ xs[pos]? = some (.agg (partP p)) := hc 0 p rfl
    rw [stepP n m0 m1 len xs ws d h nm rk f l h0.1 (by omega) h0.2 (by omega), runP n m0 len xs d h nm rk f h3 ps (pos + 1) m1 (ws ++ [AV.str (d.say p)]) (l.clear p) (by omega) (fun i r hi => by
          have := hc (i + 1) r (by simpa using hi)
          rwa [show pos + (i + 1) = pos + 1 + i by omega] at this) (by omega) (by simp; omega)]
    simp [DV.clears]
/-- The bytes' row: its part lays none behind. -/
theorem runB_ (n m0 : Nat) (d : DV) (h : DV.Ok d) (nm : List UInt8) (rk : Int) (f : Nat) (l : DV) (m1 : Nat) : LP n m0 (m1 + 2) 1 [.agg (partP .b)] 0 [.str nm] d nm rk f l = doneP [.str nm, .str (d.say .b)] (l.clear .b) := by
  obtain ⟨_, _, _, s4⟩ := short_of h
  have hb : (d.xs.all isU8 && Sp.short (Sp.bys d.xs)) = true := by rw [h.u8, s4]; rfl
  refine (pr_say_b0 n m0 (m1 + 1) 1 [] [.str nm] d.kd d.who d.to d.text d.xs d.n d.m d.k nm rk f l.kd l.who l.to l.text l.xs l.n l.m l.k).trans ?_
  simp only [List.length_cons, List.length_nil]
  rw [hb, show roomA (0 + 1 + 1) 16 = true from rfl, show decide ((0 : Int) < 1) = true from rfl, show decide ((0 : Int) < ((0 + 1 : Nat) : Int)) = true from rfl]
  simp only [cond_true]
  exact pr_done_1r n m0 m1 [.agg (partP .b)] [.str nm, .str (d.say .b)] d.kd d.who d.to d.text d.xs d.n d.m d.k nm rk f l.kd l.who l.to l.text l.n l.m l.k
theorem sizes_app (a b : List (List UInt8)) : Sp.sizes (a ++ b) = Sp.sizes a + Sp.sizes b := by
  induction a with
  | nil => simp [Sp.sizes]
  | cons s l ih => simp only [List.cons_append, Sp.sizes, ih]; omega
theorem strs_say (d : DV) (nm : List UInt8) (ps : List Scr.P) : Sp.strs (AV.str nm :: ps.map fun p => .str (d.say p)) = nm :: ps.map d.say := by
  simp only [Sp.strs, List.map_cons, List.map_map]; rfl
theorem all_say (d : DV) (nm : List UInt8) (ps : List Scr.P) : (AV.str nm :: ps.map fun p => .str (d.say p)).all isS = true := by
  simp [isS]
theorem sizes_say {d : DV} (h : DV.Ok d) : ∀ ps : List Scr.P, Sp.sizes (ps.map d.say) ≤ 17179869186 * ps.length
  | [] => by simp [Sp.sizes]
  | p :: ps => by
    have := sizes_say h ps
    have := DV.say_len d h p
    simp only [List.map_cons, Sp.sizes, List.length_cons]
    omega
theorem join_tail {d : DV} (h : DV.Ok d) : ∀ (ps : List Scr.P) (nm : List UInt8), Sp.joinL [32] (nm :: ps.map d.say) = nm ++ Sp.tb (Scr.tailL d.D ps)
  | [], nm => by simp [Sp.joinL, Scr.tailL, Sp.tb]
  | p :: ps, nm => by
    rw [List.map_cons, Sp.joinL, join_tail h ps, Scr.tailL, DV.say_tb d h p]
    show _ = nm ++ Sp.tb ([32] ++ (Scr.shown d.D p ++ Scr.tailL d.D ps))
    rw [tb_app, tb_app]; rfl
theorem done_say {d : DV} (h : DV.Ok d) (nm : List UInt8) (rk : Int) (ps : List Scr.P) (h3 : ps.length ≤ 3) (hn : nm.length < 100) :
    doneP (AV.str nm :: ps.map fun p => .str (d.say p)) (d.clears ps) = some (.tup [.str (Sp.tb ((if Scr.clean ps d.D = true ∧ (Scr.line ⟨Sp.ints nm, rk, ps⟩ d.D).length ≤ 65536 then some (Scr.line ⟨Sp.ints nm, rk, ps⟩ d.D) else none).getD [])),
      .bool (if Scr.clean ps d.D = true ∧ (Scr.line ⟨Sp.ints nm, rk, ps⟩ d.D).length ≤ 65536 then some (Scr.line ⟨Sp.ints nm, rk, ps⟩ d.D) else none).isSome]) := by
  have e1 := sizes_say h ps
  have hj : Sp.joinL [32] (nm :: ps.map d.say) = Sp.tb (Scr.line ⟨Sp.ints nm, rk, ps⟩ d.D) := by
    rw [join_tail h]; unfold Scr.line; rw [tb_app, Sp.tb_ints]
  unfold doneP
  rw [all_say, strs_say, hj, DV.clears_clean, tb_len]
  have e2 : decide (Sp.sizes (nm :: ps.map d.say) + (AV.str nm :: ps.map fun p => AV.str (d.say p)).length < 68719476736) = true := by
    refine decide_eq_true ?_
    simp only [Sp.sizes, List.length_cons, List.length_map]
    omega
  rw [e2]
  simp only [Bool.and_self, cond_true]
  by_cases hc : Scr.clean ps d.D = true
  · rw [hc]
    simp only [Bool.not_true, cond_false, true_and]
    by_cases hl : (Scr.line ⟨Sp.ints nm, rk, ps⟩ d.D).length ≤ 65536
    · have e3 : decide ((((Scr.line ⟨Sp.ints nm, rk, ps⟩ d.D).length : Nat) : Int) > 65536) = false := decide_eq_false (by omega)
      rw [e3, if_pos hl]; rfl
    · have e3 : decide ((((Scr.line ⟨Sp.ints nm, rk, ps⟩ d.D).length : Nat) : Int) > 65536) = true := decide_eq_true (by omega)
      rw [e3, if_neg hl]; rfl
  · have hc' : Scr.clean ps d.D = false := by simpa using hc
    rw [hc']
    simp; rfl
theorem rowsQ_small : ∀ q ∈ rowsQ, q.1.length < 100 := by decide
theorem parts_eq (n m0 : Nat) {d : DV} (h : DV.Ok d) {nm : List UInt8} {rk : Int} {f : Nat} {ps : List Scr.P} (hq : (nm, rk, f, ps) ∈ rowsQ) :
    partsPr n m0 ps nm rk f d.kd d.who d.to d.text d.xs d.n d.m d.k = doneP (AV.str nm :: ps.map fun p => .str (d.say p)) (d.clears ps) := by
  rcases rowsQ_combos _ hq with hp | ⟨h3, _, hc⟩
  · obtain rfl : ps = [.b] := hp
    exact runB_ n m0 d h nm rk f d (n + 9)
  · have h3 : ps.length ≤ 3 := h3
    refine (runP n m0 ps.length (ps.map fun p => .agg (partP p)) d h nm rk f h3 ps 0 (n + 11) [.str nm] d (by simp) (fun i p hi => ?_) (by omega) (by simp; omega))
    have hlt : i < 3 := by have := (List.getElem?_eq_some_iff.mp hi).1; omega
    rw [Nat.zero_add]
    exact ⟨hc ⟨i, hlt⟩ p hi, by rw [List.getElem?_map, hi]; rfl⟩
noncomputable def printBy (n : Nat) (d : DV) : Nat → List (List UInt8 × Int × Nat × List Scr.P) → Option AV
  | _, [] => some (.tup [.str [], .bool false])
  | m, (nm, rk, f, ps) :: l => bif rk != d.kd then printBy n d (m - 1) l else bif (d.xs.all isU8 && decide (d.xs.length < (68719476736 : Nat))) then partsPr n m ps nm rk f d.kd d.who d.to d.text d.xs d.n d.m d.k else none
theorem printBy_rel (n : Nat) {d : DV} (h : DV.Ok d) : ∀ (l : List (List UInt8 × Int × Nat × List Scr.P)) (R : List Scr.Row) (m : Nat), (∀ q ∈ l, q ∈ rowsQ) → l.map (fun q => (Sp.ints q.1, q.2.1, q.2.2.2)) = R.map (fun r => (r.name, r.kind, r.parts)) →
    printBy n d m l = some (.tup [.str (Sp.tb ((match Scr.byKind d.kd R with | none => none | some r => if Scr.clean r.parts d.D = true ∧ (Scr.line r d.D).length ≤ 65536 then some (Scr.line r d.D) else none).getD [])),
      .bool (match Scr.byKind d.kd R with | none => none | some r => if Scr.clean r.parts d.D = true ∧ (Scr.line r d.D).length ≤ 65536 then some (Scr.line r d.D) else none).isSome])
  | [], [], _, _, _ => rfl
  | [], _ :: _, _, _, h => by cases h
  | _ :: _, [], _, _, h => by cases h
  | (nm, rk, f, ps) :: l, ⟨rn, k', rp⟩ :: R, m, hs, hm => by
    simp only [List.map_cons, List.cons.injEq, Prod.mk.injEq] at hm
    obtain ⟨⟨rfl, rfl, rfl⟩, hm⟩ := hm
    have hq : (nm, rk, f, ps) ∈ rowsQ := hs _ (by simp)
    by_cases hk : rk = d.kd
    · have e1 : (rk != d.kd) = false := by simp [hk]
      have e2 : (d.xs.all isU8 && decide (d.xs.length < 68719476736)) = true := by
        rw [h.u8, Bool.true_and]; exact decide_eq_true (by have := h.sz; omega)
      simp only [printBy, e1, e2, cond_false, cond_true, Scr.byKind, if_pos hk]
      rw [parts_eq n m h hq]
      have h3 : ps.length ≤ 3 := by
        rcases rowsQ_combos _ hq with hp | ⟨h3, _⟩
        · obtain rfl : ps = [.b] := hp
          decide
        · exact h3
      exact done_say h nm rk ps h3 (rowsQ_small _ hq)
    · have e1 : (rk != d.kd) = true := by simp [hk]
      simp only [printBy, e1, cond_true, Scr.byKind, if_neg hk]
      exact printBy_rel n h l R (m - 1) (fun q hq => hs q (List.mem_cons_of_mem _ hq)) hm
theorem sprint_eq {d : DV} (h : d.ok = true) : ∃ n, runA Tryd.prog (X 95) n 12 [d.av] = some (.tup [.str (Sp.printT d.D), .bool (Sp.printOk d.D)]) := by
  refine ⟨26 + 12, ?_⟩
  refine (e_script_Print 26 d.kd d.who d.to d.text d.xs d.n d.m d.k).trans ?_
  refine Eq.trans ?_ (printBy_rel 26 (DV.ok_of h) rowsQ Scr.rows 36 (fun _ h => h) rowsQ_rows)
  rw [LPr_0, LPr_1, LPr_2, LPr_3, LPr_4, LPr_5, LPr_6, LPr_7, LPr_8, LPr_9, LPr_10, LPr_11, LPr_12, LPr_13, LPr_14, LPr_15, LPr_16, LPr_17, LPr_18, LPr_19, LPr_20, LPr_21, LPr_22, LPr_23, LPr_24]
  rfl
end Go.Proofs.YtgeheffhdpeddaaDoor.VX
