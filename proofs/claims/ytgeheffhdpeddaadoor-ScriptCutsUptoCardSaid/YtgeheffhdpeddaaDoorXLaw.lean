/-
  Texts laid together: THE LAWS OF CHAPTER 25 come to true; EQUATIONS of functions, printed by the tool (wip/tools/VTool; THE LAW ScriptPrints comes to true. Conditions: as each theorem states.
-/
import Derived.Test.YtgeheffhdpeddaaDoorXRow
import Derived.Test.YtgeheffhdpeddaaDoorXScr
import Derived.Test.YtgeheffhdpeddaaDoorXExD
import Derived.Test.YtgeheffhdpeddaaDoorProg
/- THE LAWS OF CHAPTER 25 come to true. Conditions: as each theorem states. -/
namespace Go.Proofs.YtgeheffhdpeddaaDoor.VX
open Go Go.Proofs Go.Proofs.YtgeheffhdpeddaaDoor Go.RowKit
def rdS (s : List UInt8) : Scr.R := Scr.read (Sp.ints s)
def Bl (s : List UInt8) : Bool := Scr.blank (Sp.ints s)
def isF (r : Scr.R) (e p : Int) : Bool := r.e == e && (r.p == p && true)
def reD (d : Scr.D) : Scr.D := Sp.dO d.kind (Sp.tb d.who) (Sp.tb d.to) (Sp.tb d.text) ((Sp.tb d.bytes).map .u8) d.n d.m d.k
def okV (d : Scr.D) : Bool := Sp.okD (Sp.tb d.who) (Sp.tb d.to) (Sp.tb d.text) ((Sp.tb d.bytes).map .u8) d.n d.m d.k
def u8V (d : Scr.D) : Bool := ((Sp.tb d.bytes).map AV.u8).all isU8
def F_ : Option AV := some (.bool false)
def T_ : Option AV := some (.bool true)
theorem isF_self (r : Scr.R) : isF r r.e r.p = true := by simp [isF]
theorem isF_eq (r : Scr.R) (e p : Int) : isF r e p = decide (r.e = e ∧ r.p = p) := by
  unfold isF
  by_cases h1 : r.e = e <;> by_cases h2 : r.p = p <;> simp [h1, h2]
theorem u8V_t (d : Scr.D) : u8V d = true := isU8_map _
theorem bys_map (s : List UInt8) : Sp.bys (s.map .u8) = s := toU8_map s
theorem reD_fine {d : Scr.D} (h : Scr.Fine d) : reD d = d := by
  unfold reD Sp.dO
  rw [bys_map, ints_tb h.who, ints_tb h.to, ints_tb h.text, ints_tb h.bytes]
theorem i64_rng {n : Int} (h : -9223372036854775808 ≤ n ∧ n ≤ 9223372036854775807) : Sp.i64 n = true := by
  unfold Sp.i64; rw [decide_eq_true h.1, decide_eq_true h.2]; rfl
theorem okV_t {d : Scr.D} (h : Scr.Fine d) (hl : ∀ p, (Scr.fld p d).1.length ≤ 1000000) : okV d = true := by
  have h1 : d.who.length ≤ 1000000 := hl .w
  have h2 : d.to.length ≤ 1000000 := hl .o
  have h3 : d.text.length ≤ 1000000 := hl .t
  have h4 : d.bytes.length ≤ 1000000 := hl .b
  unfold okV Sp.okD Sp.small3
  rw [isU8_map, i64_rng h.n, i64_rng h.m, i64_rng h.k]
  simp only [tb_len, List.length_map, Bool.and_self, Bool.and_true]
  exact decide_eq_true (by omega)
/-! ScriptReads -/
def tst (i : Int) (s : List UInt8) (K : Option AV) : Option AV := bif decide (0 ≤ i) then bif decide (i ≤ (s.length : Int)) then bif Sp.short (List.drop 0 (List.take i.toNat s)) then K else none else none else none
def sameK (d e : Scr.D) (K : Option AV) : Option AV := bif (u8V d && u8V e) then bif (!decide (reD d = reD e)) then F_ else K else none
def finR (s : List UInt8) : Option AV :=
  bif Sp.short s then bif Sp.short s then bif isF (rdS s) (rdS s).e (rdS s).p then bif (u8V (rdS s).d && u8V (rdS s).d) then bif decide (reD (rdS s).d = reD (rdS s).d) then
    bif Sp.short s then bif Sp.short s then bif (Bl s == Bl s) then T_ else F_ else none else none else F_ else none else F_ else none else none
def pre (i : Int) (s : List UInt8) : List UInt8 := List.drop 0 (List.take i.toNat s)
theorem finR_t (s : List UInt8) (h : Sp.short s = true) : finR s = T_ := by
  unfold finR
  rw [h, isF_self, u8V_t, decide_eq_true rfl, beq_self_eq_true]; rfl
theorem tst_t {i : Nat} {s : List UInt8} (h : Sp.short s = true) (hi : i ≤ s.length) (K : Option AV) : tst i s K = K := by
  unfold tst
  have hs := Sp.short_lt h
  rw [le_t (a := 0) (b := (i : Int)) (by omega), le_t (a := (i : Int)) (b := (s.length : Int)) (by omega), show Sp.short (List.drop 0 (List.take (i : Int).toNat s)) = true from decide_eq_true (by simp; omega)]
  rfl
/-! ScriptAgain -/
def zD : Scr.D := Sp.dO 0 [] [] [] [] 0 0 0
theorem e_again (s : List UInt8) : runA Tryd.prog (X 103) 3 4 [.str s] =
    bif Sp.short s then bif (!isF (rdS s) 0 0) then (bif ((rdS s).e != 0) then bif decide ((rdS s).p ≥ 0) then bif decide ((rdS s).p ≤ (s.length : Int)) then bif u8V (rdS s).d then bif decide (reD (rdS s).d = zD) then T_ else F_ else none else F_ else F_ else F_)
      else bif decide ((rdS s).d.kind < 1) then F_ else bif decide ((rdS s).d.kind > 24) then F_ else bif okV (rdS s).d then bif (!Sp.printOk (reD (rdS s).d)) then bif decide ((s.length : Int) > 16376) then bif (Sp.printT (reD (rdS s).d) == []) then T_ else F_ else F_
        else (bif Sp.short (Sp.printT (reD (rdS s).d)) then bif okV (rdS (Sp.printT (reD (rdS s).d))).d then bif isF (rdS (Sp.printT (reD (rdS s).d))) 0 0 then bif (u8V (rdS s).d && u8V (rdS (Sp.printT (reD (rdS s).d))).d) then bif decide (reD (rdS s).d = reD (rdS (Sp.printT (reD (rdS s).d))).d) then
          bif Sp.printOk (reD (rdS (Sp.printT (reD (rdS s).d))).d) then bif (Sp.printT (reD (rdS (Sp.printT (reD (rdS s).d))).d) == Sp.printT (reD (rdS s).d)) then T_ else F_ else F_ else F_ else none else F_ else none else none)
      else none else none := by kernel_rfl
theorem print_rows {d : Scr.D} {t : List Int} (h : Scr.print d = some t) : ∃ r, r ∈ Scr.rows ∧ d.kind = r.kind ∧ Scr.clean r.parts d = true ∧ t = Scr.line r d ∧ t.length ≤ 65536 := by
  unfold Scr.print at h
  cases hk : Scr.byKind d.kind Scr.rows with
  | none => rw [hk] at h; cases h
  | some r =>
    rw [hk] at h
    simp only at h
    split at h
    · rename_i hc
      cases h
      obtain ⟨h1, h2⟩ := Scr.byKind_mem hk
      exact ⟨r, h1, h2.symm, hc.1, rfl, hc.2⟩
    · cases h
theorem again_t (s : List UInt8) (h : Sp.short s = true) : runA Tryd.prog (X 103) 3 4 [.str s] = some (.bool true) := by
  have hb : Tk.bytes (Sp.ints s) := ints_bytes s
  rw [e_again, h, isF_eq]
  simp only [cond_true]
  by_cases he : (rdS s).e = 0
  · obtain ⟨hp, hk, hf, hm⟩ := Scr.again hb he
    have hp : (rdS s).p = 0 := hp
    have hf : Scr.Fine (rdS s).d := hf
    obtain ⟨_, hlen, r, hr, hrk, hrc, _, hll⟩ := Scr.read_ok (d := (rdS s).d) (q := 0) hb (by
      have : rdS s = ⟨(rdS s).d, (rdS s).e, (rdS s).p⟩ := rfl
      rw [he, hp] at this
      exact this)
    have ok1 : okV (rdS s).d = true := okV_t hf fun p => by
      have := Scr.fld_le hrc p
      rw [Sp.ints_len] at hlen hll
      omega
    have hre := reD_fine hf
    rw [decide_eq_true ⟨he, hp⟩, ok1, hre]
    have hk1 : decide ((rdS s).d.kind < 1) = false := decide_eq_false (by have : 1 ≤ (rdS s).d.kind := hk.1; omega)
    have hk2 : decide ((rdS s).d.kind > 24) = false := decide_eq_false (by have : (rdS s).d.kind ≤ 24 := hk.2; omega)
    rw [hk1, hk2]
    simp only [Bool.not_true, cond_false, cond_true]
    unfold Sp.printOk Sp.printT
    cases hq : Scr.print (rdS s).d with
    | none =>
      have hm' : 16376 < (Sp.ints s).length := by
        have hq' : Scr.print (Scr.read (Sp.ints s)).d = none := hq
        rw [hq'] at hm; exact hm
      rw [Sp.ints_len] at hm'
      rw [show decide ((s.length : Int) > 16376) = true from decide_eq_true (by omega)]
      rfl
    | some t =>
      have hm' : Scr.read t = ⟨(rdS s).d, 0, 0⟩ := by
        have hq' : Scr.print (Scr.read (Sp.ints s)).d = some t := hq
        rw [hq'] at hm; exact hm
      obtain ⟨r', hr', _, _, ht, hl⟩ := print_rows hq
      have htb : Tk.bytes t := by rw [ht]; exact Scr.line_bytes hf hr'
      have hrd : rdS (Sp.tb t) = ⟨(rdS s).d, 0, 0⟩ := by unfold rdS; rw [ints_tb htb]; exact hm'
      have hst : Sp.short (Sp.tb t) = true := decide_eq_true (by rw [tb_len]; omega)
      simp only [Option.isSome_some, Bool.not_true, cond_false, Option.getD_some, hst, hrd, ok1, hre, cond_true, hq, isF, u8V_t, decide_true, beq_self_eq_true, Bool.and_self]
      rfl
  · obtain ⟨hd, h0, h1⟩ := Scr.read_bad hb he
    have hd : (rdS s).d = Scr.zero := hd
    have h0 : 0 ≤ (rdS s).p := h0
    have h1 : (rdS s).p ≤ ((Sp.ints s).length : Int) := h1
    rw [Sp.ints_len] at h1
    rw [decide_eq_false (fun hh => he hh.1), show ((rdS s).e != 0) = true from by simp [he], show decide ((rdS s).p ≥ 0) = true from decide_eq_true h0, le_t h1, hd]
    rfl
theorem again_e (s : List UInt8) (h : Sp.short s = true) : ∃ n, runA Tryd.prog (X 103) n 4 [.str s] = some (.bool true) := ⟨3, again_t s h⟩
/-! ScriptBack -/
def MD (kd : Int) (who to text : List UInt8) (xs : List AV) (j m k : Int) : Scr.D := Scr.made (Sp.dO kd who to text xs j m k)
def lineB (s : List UInt8) : List UInt8 := List.filter (fun c => c != 10) (List.take 4000 s)
def bigB (P s : List UInt8) : List UInt8 := [32, 9] ++ P ++ [32, 37, 32] ++ lineB s
def backT (d : Scr.D) (P s : List UInt8) : Option AV :=
  bif (P == []) then F_ else bif Sp.short P then bif Bl P then F_ else bif Sp.short P then bif (!isF (rdS P) 0 0) then F_ else sameK d (rdS P).d (
    bif (2 + P.length).ble 9223372036854775807 then bif (([32, 9] ++ P).length + 3).ble 9223372036854775807 then bif Sp.short (List.take 4000 s) then bif (([32, 9] ++ P ++ [32, 37, 32]).length + (lineB s).length).ble 9223372036854775807 then
      bif Sp.short (bigB P s) then bif isF (rdS (bigB P s)) 0 0 then bif (u8V d && u8V (rdS (bigB P s)).d) then some (.bool (decide (reD d = reD (rdS (bigB P s)).d))) else none else F_ else none else none else none else none else none) else none else none
theorem e_back (kd : Int) (who to text : List UInt8) (xs : List AV) (j m k : Int) (s : List UInt8) : runA Tryd.prog (X 103) 3 8 [.agg [.int .i64 kd, .str who, .str to, .str text, .view 1 xs, .int .i64 j, .int .i64 m, .int .i64 k], .str s] =
    bif (xs.all isU8 && decide (xs.length < 68719476736)) then bif okV (MD kd who to text xs j m k) then bif (!Sp.printOk (reD (MD kd who to text xs j m k))) then F_ else backT (MD kd who to text xs j m k) (Sp.printT (reD (MD kd who to text xs j m k))) s else none else none := by kernel_rfl
theorem made_ok {d : DV} (h : DV.Ok d) : Scr.Fine (Scr.made d.D) ∧ okV (Scr.made d.D) = true ∧ reD (Scr.made d.D) = Scr.made d.D := by
  have hf := Scr.made_fine (DV.fine d h)
  exact ⟨hf, okV_t hf (fun p => by have := Scr.made_len d.D p; omega), reD_fine hf⟩
theorem back_t (d : DV) (h : DV.Ok d) (s : List UInt8) (hs : Sp.short s = true) : runA Tryd.prog (X 103) 3 8 [d.av, .str s] = some (.bool true) := by
  obtain ⟨hf, hok, hre⟩ := made_ok h
  obtain ⟨t, hp, hne, hl, htb, hbl, hrd, hrm⟩ := Scr.back (DV.fine d h)
  refine (e_back d.kd d.who d.to d.text d.xs d.n d.m d.k s).trans ?_
  have hMD : MD d.kd d.who d.to d.text d.xs d.n d.m d.k = Scr.made d.D := rfl
  rw [hMD, hok, hre, h.u8, show decide (d.xs.length < 68719476736) = true from decide_eq_true (by have := h.sz; omega)]
  unfold Sp.printOk Sp.printT
  rw [hp]
  simp only [Bool.and_self, cond_true, Option.isSome_some, Bool.not_true, cond_false, Option.getD_some]
  have hi := ints_tb htb
  have hlt : (Sp.tb t).length ≤ 48018 := by rw [tb_len]; exact hl
  have e1 : (Sp.tb t == []) = false := by
    have : Sp.tb t ≠ [] := fun hh => hne (by rw [← hi, hh]; rfl)
    simpa using this
  have e2 : Bl (Sp.tb t) = false := by unfold Bl; rw [hi]; exact hbl
  have e3 : rdS (Sp.tb t) = ⟨Scr.made d.D, 0, 0⟩ := by unfold rdS; rw [hi]; exact hrd
  have hsl := Sp.short_lt hs
  have hlb : (lineB s).length ≤ 4000 := Nat.le_trans (List.length_filter_le _ _) (by simp; omega)
  have e4 : rdS (bigB (Sp.tb t) s) = ⟨Scr.made d.D, 0, 0⟩ := by
    have hbig : Sp.ints (bigB (Sp.tb t) s) = [32, 9] ++ (t ++ (32 :: 37 :: 32 :: Sp.ints (lineB s))) := by
      have ia : ∀ a b, Sp.ints (a ++ b) = Sp.ints a ++ Sp.ints b := fun a b => by simp [Sp.ints]
      unfold bigB
      rw [ia, ia, ia, hi]
      simp only [List.append_assoc]
      rfl
    unfold rdS
    rw [hbig]
    refine hrm _ ?_ (by rw [Sp.ints_len]; exact hlb)
    intro c hc
    obtain ⟨b, hb, rfl⟩ := List.mem_map.mp hc
    have := (List.mem_filter.mp hb).2
    intro h10
    have : b ≠ 10 := by simpa using this
    exact this (by
      have h10 : (b.toNat : Int) = 10 := h10
      have : b.toNat = 10 := by omega
      exact UInt8.toNat_inj.mp this)
  have g1 : Sp.short (Sp.tb t) = true := decide_eq_true (by omega)
  have g2 : Sp.short (List.take 4000 s) = true := decide_eq_true (by simp; omega)
  have g3 : Sp.short (bigB (Sp.tb t) s) = true := decide_eq_true (by unfold bigB; simp only [List.length_append, List.length_cons, List.length_nil]; omega)
  have g4 : (2 + (Sp.tb t).length).ble 9223372036854775807 = true := Nat.ble_eq_true_of_le (by omega)
  have g5 : (([32, 9] ++ Sp.tb t).length + 3).ble 9223372036854775807 = true := Nat.ble_eq_true_of_le (by simp only [List.length_append, List.length_cons, List.length_nil]; omega)
  have g6 : (([32, 9] ++ Sp.tb t ++ [32, 37, 32]).length + (lineB s).length).ble 9223372036854775807 = true := Nat.ble_eq_true_of_le (by simp only [List.length_append, List.length_cons, List.length_nil]; omega)
  unfold backT sameK
  rw [g1, g2, g3, g4, g5, g6]
  simp only [e1, e2, e3, e4, hre, u8V_t, isF, decide_true, beq_self_eq_true, Bool.and_self, Bool.not_true, Bool.not_false, cond_true, cond_false]
theorem back_e (d : DV) (s : List UInt8) (h : DV.Ok d) (hs : Sp.short s = true) : ∃ n, runA Tryd.prog (X 103) n 8 [d.av, .str s] = some (.bool true) := ⟨3, back_t d h s hs⟩
end Go.Proofs.YtgeheffhdpeddaaDoor.VX

/- EQUATIONS of functions, printed by the tool (wip/tools/VTool.lean.txt). Conditions: none. -/
namespace Go.Proofs.YtgeheffhdpeddaaDoor.VX
open Go Go.Proofs Go.Proofs.YtgeheffhdpeddaaDoor

theorem e_hearsaylaw25_lend (n : Nat) (xs : List AV) : runA Tryd.prog (X 103) (n + 3) 11 [(.view 1 xs)] =
  bif (roomA ((0 : Nat) + xs.length) (1 : Nat)) then bif (roomA (([] ++ xs).length + (2 : Nat)) (1 : Nat)) then bif (decide ((↑xs.length : Int) ≤ (↑([] ++ xs ++ [AV.u8 (91 : UInt8), AV.u8 (92 : UInt8)]).length : Int))) then some (.part 1 (List.take (↑xs.length : Int).toNat ([] ++ xs ++ [AV.u8 (91 : UInt8), AV.u8 (92 : UInt8)])) (List.drop (↑xs.length : Int).toNat ([] ++ xs ++ [AV.u8 (91 : UInt8), AV.u8 (92 : UInt8)])))
    else none
   else none
  else none := by kernel_rfl

theorem e_hearsaylaw25_ScriptPrints (n : Nat) (kd : Int) (who : List UInt8) (to : List UInt8) (text : List UInt8) (xs : List AV) (j : Int) (m : Int) (k : Int) : runA Tryd.prog (X 104) (n + 6) 3 [(.agg [(.int .i64 kd), (.str who), (.str to), (.str text), (.view 1 xs), (.int .i64 j), (.int .i64 m), (.int .i64 k)])] =
  bif (decide (xs.length < (68719476736 : Nat))) then bif (Sp.okD who to text xs j m k) then bif (Sp.okD who to text xs j m k) then bif (decide ((0 : Int) ≤ Go.IntKind.i64.wrap ((↑xs.length : Int) + (2 : Int)))) then bif (decide (Go.IntKind.i64.wrap ((↑xs.length : Int) + (2 : Int)) ≤ (↑(xs ++ [AV.u8 (91 : UInt8), AV.u8 (92 : UInt8)]).length : Int))) then bif (Sp.printT (Sp.dO kd who to text xs j m k) == Sp.printT (Sp.dO kd who to text xs j m k)) then bif (Sp.printOk (Sp.dO kd who to text xs j m k) == Sp.printOk (Sp.dO kd who to text xs j m k)) then bif (xs.all isU8) then bif (xs.all isU8) then bif (List.map toU8 xs == List.map toU8 xs) then bif (decide ((↑xs.length : Int) < (↑(List.drop (0 : Nat) (List.take (Go.IntKind.i64.wrap ((↑xs.length : Int) + (2 : Int))).toNat (xs ++ [AV.u8 (91 : UInt8), AV.u8 (92 : UInt8)]))).length : Int))) then bif (Nat.blt (0 : Nat) (((List.drop (0 : Nat) (List.take (Go.IntKind.i64.wrap ((↑xs.length : Int) + (2 : Int))).toNat (xs ++ [AV.u8 (91 : UInt8), AV.u8 (92 : UInt8)]))).getD (↑xs.length : Int).toNat AV.top).cells.getD []).length) then bif (isU8 ((((List.drop (0 : Nat) (List.take (Go.IntKind.i64.wrap ((↑xs.length : Int) + (2 : Int))).toNat (xs ++ [AV.u8 (91 : UInt8), AV.u8 (92 : UInt8)]))).getD (↑xs.length : Int).toNat AV.top).cells.getD []).getD (0 : Nat) AV.top)) then bif (toU8 ((((List.drop (0 : Nat) (List.take (Go.IntKind.i64.wrap ((↑xs.length : Int) + (2 : Int))).toNat (xs ++ [AV.u8 (91 : UInt8), AV.u8 (92 : UInt8)]))).getD (↑xs.length : Int).toNat AV.top).cells.getD []).getD (0 : Nat) AV.top) == (91 : UInt8)) then bif (decide ((0 : Int) ≤ Go.IntKind.i64.wrap ((↑xs.length : Int) + (1 : Int)))) then bif (decide (Go.IntKind.i64.wrap ((↑xs.length : Int) + (1 : Int)) < (↑(List.drop (0 : Nat) (List.take (Go.IntKind.i64.wrap ((↑xs.length : Int) + (2 : Int))).toNat (xs ++ [AV.u8 (91 : UInt8), AV.u8 (92 : UInt8)]))).length : Int))) then bif (Nat.blt (0 : Nat) (((List.drop (0 : Nat) (List.take (Go.IntKind.i64.wrap ((↑xs.length : Int) + (2 : Int))).toNat (xs ++ [AV.u8 (91 : UInt8), AV.u8 (92 : UInt8)]))).getD (Go.IntKind.i64.wrap ((↑xs.length : Int) + (1 : Int))).toNat AV.top).cells.getD []).length) then bif (isU8 ((((List.drop (0 : Nat) (List.take (Go.IntKind.i64.wrap ((↑xs.length : Int) + (2 : Int))).toNat (xs ++ [AV.u8 (91 : UInt8), AV.u8 (92 : UInt8)]))).getD (Go.IntKind.i64.wrap ((↑xs.length : Int) + (1 : Int))).toNat AV.top).cells.getD []).getD (0 : Nat) AV.top)) then bif (toU8 ((((List.drop (0 : Nat) (List.take (Go.IntKind.i64.wrap ((↑xs.length : Int) + (2 : Int))).toNat (xs ++ [AV.u8 (91 : UInt8), AV.u8 (92 : UInt8)]))).getD (Go.IntKind.i64.wrap ((↑xs.length : Int) + (1 : Int))).toNat AV.top).cells.getD []).getD (0 : Nat) AV.top) == (92 : UInt8)) then some (.bool true)
                    else some (.bool false)
                   else none
                  else none
                 else none
                else none
               else some (.bool false)
              else none
             else none
            else none
           else some (.bool false)
          else none
         else none
        else some (.bool false)
       else some (.bool false)
      else none
     else none
    else none
   else none
  else none := by kernel_rfl
end Go.Proofs.YtgeheffhdpeddaaDoor.VX

/- THE LAW ScriptPrints comes to true. Conditions: as each theorem states. -/
namespace Go.Proofs.YtgeheffhdpeddaaDoor.VX
open Go Go.Proofs Go.Proofs.YtgeheffhdpeddaaDoor Go.RowKit
theorem lend_eq (xs : List AV) (h : xs.length < 68719476736) : runA Tryd.prog (X 103) 3 11 [.view 1 xs] = some (.part 1 xs [.u8 91, .u8 92]) := by
  rw [e_hearsaylaw25_lend 0 xs]
  simp only [List.nil_append, toNat_cast, List.length_append, List.length_cons, List.length_nil]
  rw [room_t (n := 0 + xs.length) (by omega) (by decide), room_t (n := xs.length + 2) (by omega) (by decide), le_t (a := (xs.length : Int)) (b := ((xs.length + (0 + 1 + 1) : Nat) : Int)) (by omega), List.take_left' rfl, List.drop_left' rfl]
  rfl
theorem rows104 : ∀ q ∈ tab.take 104, RowOK Gl q := by
  refine rows_step Wok.gl rows103 (f := 11) (r := r_lend) rfl fun args v hv => ?_
  unfold r_lend at hv
  split at hv
  · obtain ⟨h, hv⟩ := val_when hv
    cases hv
    exact ⟨3, lend_eq _ (of_decide_eq_true h)⟩
  · cases hv
theorem prints_t (d : DV) (h : DV.Ok d) : ∃ n, runA Tryd.prog (X 104) n 3 [d.av] = some (.bool true) := by
  have hz := h.sz
  have hok := DV.of_ok h
  refine ⟨0 + 6, (e_hearsaylaw25_ScriptPrints 0 d.kd d.who d.to d.text d.xs d.n d.m d.k).trans ?_⟩
  have w2 : IntKind.i64.wrap ((d.xs.length : Int) + 2) = ((d.xs.length + 2 : Nat) : Int) := by rw [wrap_id (by omega) (by omega)]; rfl
  have w1 : IntKind.i64.wrap ((d.xs.length : Int) + 1) = ((d.xs.length + 1 : Nat) : Int) := by rw [wrap_id (by omega) (by omega)]; rfl
  have ha : List.drop 0 (List.take (d.xs.length + 2) (d.xs ++ [AV.u8 91, AV.u8 92])) = d.xs ++ [AV.u8 91, AV.u8 92] := by
    rw [List.drop_zero, List.take_of_length_le (by simp)]
  have g0 : (d.xs ++ [AV.u8 91, AV.u8 92]).getD d.xs.length AV.top = .u8 91 := by simp [List.getD_eq_getElem?_getD]
  have g1 : (d.xs ++ [AV.u8 91, AV.u8 92]).getD (d.xs.length + 1) AV.top = .u8 92 := by simp [List.getD_eq_getElem?_getD]
  have hl : (d.xs ++ [AV.u8 91, AV.u8 92]).length = d.xs.length + 2 := by simp
  have k : Sp.okD d.who d.to d.text d.xs d.n d.m d.k = true := hok
  rw [w2, w1, toNat_cast, ha, hl, toNat_cast, toNat_cast, g0, g1, k, h.u8, show decide (d.xs.length < 68719476736) = true from decide_eq_true (by omega),
    le_t (a := 0) (b := ((d.xs.length + 2 : Nat) : Int)) (by omega), le_t (a := ((d.xs.length + 2 : Nat) : Int)) (b := ((d.xs.length + 2 : Nat) : Int)) (by omega), lt_t (a := (d.xs.length : Int)) (b := ((d.xs.length + 2 : Nat) : Int)) (by omega),
    le_t (a := 0) (b := ((d.xs.length + 1 : Nat) : Int)) (by omega), lt_t (a := ((d.xs.length + 1 : Nat) : Int)) (b := ((d.xs.length + 2 : Nat) : Int)) (by omega)]
  simp only [beq_self_eq_true, cond_true]
  rfl
end Go.Proofs.YtgeheffhdpeddaaDoor.VX
