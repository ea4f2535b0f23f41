/-
  Texts laid together: THE LAWS OF CHAPTER 25 come to true; THE LAW ScriptRefuses comes to true. Conditions: as each theorem states.
-/
import Derived.Test.YtgeheffhdpeddaaDoorXRow
import Derived.Test.YtgeheffhdpeddaaDoorXScr
/- THE LAWS OF CHAPTER 25 come to true. Conditions: as each theorem states. -/
namespace Go.Proofs.YtgeheffhdpeddaaDoor.VX
open Go Go.Proofs Go.Proofs.YtgeheffhdpeddaaDoor Go.RowKit
def rdS (s : List UInt8) : Scr.R := Scr.read (Sp.ints s)
def Bl (s : List UInt8) : Bool := Scr.blank (Sp.ints s)
def isF (r : Scr.R) (e p : Int) : Bool := r.e == e && (r.p == p && true)
def reD (d : Scr.D) : Scr.D := Sp.dO d.kind (Sp.tb d.who) (Sp.tb d.to) (Sp.tb d.text) ((Sp.tb d.bytes).map .u8) d.n d.m d.k
def okV (d : Scr.D) : Bool := Sp.okD (Sp.tb d.who) (Sp.tb d.to) (Sp.tb d.text) ((Sp.tb d.bytes).map .u8) d.n d.m d.k
def u8V (d : Scr.D) : Bool := ((Sp.tb d.bytes).map AV.u8).all isU8
def F_ : Option AV := some (.bool false)
def T_ : Option AV := some (.bool true)
theorem isF_self (r : Scr.R) : isF r r.e r.p = true := by simp [isF]
theorem isF_eq (r : Scr.R) (e p : Int) : isF r e p = decide (r.e = e ∧ r.p = p) := by
  unfold isF
  by_cases h1 : r.e = e <;> by_cases h2 : r.p = p <;> simp [h1, h2]
theorem u8V_t (d : Scr.D) : u8V d = true := isU8_map _
theorem bys_map (s : List UInt8) : Sp.bys (s.map .u8) = s := toU8_map s
theorem reD_fine {d : Scr.D} (h : Scr.Fine d) : reD d = d := by
  unfold reD Sp.dO
  rw [bys_map, ints_tb h.who, ints_tb h.to, ints_tb h.text, ints_tb h.bytes]
theorem i64_rng {n : Int} (h : -9223372036854775808 ≤ n ∧ n ≤ 9223372036854775807) : Sp.i64 n = true := by
  unfold Sp.i64; rw [decide_eq_true h.1, decide_eq_true h.2]; rfl
theorem okV_t {d : Scr.D} (h : Scr.Fine d) (hl : ∀ p, (Scr.fld p d).1.length ≤ 1000000) : okV d = true := by
  have h1 : d.who.length ≤ 1000000 := hl .w
  have h2 : d.to.length ≤ 1000000 := hl .o
  have h3 : d.text.length ≤ 1000000 := hl .t
  have h4 : d.bytes.length ≤ 1000000 := hl .b
  unfold okV Sp.okD Sp.small3
  rw [isU8_map, i64_rng h.n, i64_rng h.m, i64_rng h.k]
  simp only [tb_len, List.length_map, Bool.and_self, Bool.and_true]
  exact decide_eq_true (by omega)
/-! ScriptReads -/
def tst (i : Int) (s : List UInt8) (K : Option AV) : Option AV := bif decide (0 ≤ i) then bif decide (i ≤ (s.length : Int)) then bif Sp.short (List.drop 0 (List.take i.toNat s)) then K else none else none else none
def sameK (d e : Scr.D) (K : Option AV) : Option AV := bif (u8V d && u8V e) then bif (!decide (reD d = reD e)) then F_ else K else none
def finR (s : List UInt8) : Option AV :=
  bif Sp.short s then bif Sp.short s then bif isF (rdS s) (rdS s).e (rdS s).p then bif (u8V (rdS s).d && u8V (rdS s).d) then bif decide (reD (rdS s).d = reD (rdS s).d) then
    bif Sp.short s then bif Sp.short s then bif (Bl s == Bl s) then T_ else F_ else none else none else F_ else none else F_ else none else none
def pre (i : Int) (s : List UInt8) : List UInt8 := List.drop 0 (List.take i.toNat s)
theorem finR_t (s : List UInt8) (h : Sp.short s = true) : finR s = T_ := by
  unfold finR
  rw [h, isF_self, u8V_t, decide_eq_true rfl, beq_self_eq_true]; rfl
theorem tst_t {i : Nat} {s : List UInt8} (h : Sp.short s = true) (hi : i ≤ s.length) (K : Option AV) : tst i s K = K := by
  unfold tst
  have hs := Sp.short_lt h
  rw [le_t (a := 0) (b := (i : Int)) (by omega), le_t (a := (i : Int)) (b := (s.length : Int)) (by omega), show Sp.short (List.drop 0 (List.take (i : Int).toNat s)) = true from decide_eq_true (by simp; omega)]
  rfl
/-! ScriptAgain -/
def zD : Scr.D := Sp.dO 0 [] [] [] [] 0 0 0
theorem e_again (s : List UInt8) : runA Tryd.prog (X 103) 3 4 [.str s] =
    bif Sp.short s then bif (!isF (rdS s) 0 0) then (bif ((rdS s).e != 0) then bif decide ((rdS s).p ≥ 0) then bif decide ((rdS s).p ≤ (s.length : Int)) then bif u8V (rdS s).d then bif decide (reD (rdS s).d = zD) then T_ else F_ else none else F_ else F_ else F_)
      else bif decide ((rdS s).d.kind < 1) then F_ else bif decide ((rdS s).d.kind > 24) then F_ else bif okV (rdS s).d then bif (!Sp.printOk (reD (rdS s).d)) then bif decide ((s.length : Int) > 16376) then bif (Sp.printT (reD (rdS s).d) == []) then T_ else F_ else F_
        else (bif Sp.short (Sp.printT (reD (rdS s).d)) then bif okV (rdS (Sp.printT (reD (rdS s).d))).d then bif isF (rdS (Sp.printT (reD (rdS s).d))) 0 0 then bif (u8V (rdS s).d && u8V (rdS (Sp.printT (reD (rdS s).d))).d) then bif decide (reD (rdS s).d = reD (rdS (Sp.printT (reD (rdS s).d))).d) then
          bif Sp.printOk (reD (rdS (Sp.printT (reD (rdS s).d))).d) then bif (Sp.printT (reD (rdS (Sp.printT (reD (rdS s).d))).d) == Sp.printT (reD (rdS s).d)) then T_ else F_ else F_ else F_ else none else F_ else none else none)
      else none else none := by kernel_rfl
theorem print_rows {d : Scr.D} {t : List Int} (h : Scr.print d = some t) : ∃ r, r ∈ Scr.rows ∧ d.kind = r.kind ∧ Scr.clean r.parts d = true ∧ t = Scr.line r d ∧ t.length ≤ 65536 := by
  unfold Scr.print at h
  cases hk : Scr.byKind d.kind Scr.rows with
  | none => rw [hk] at h; cases h
  | some r =>
    rw [hk] at h
    simp only at h
    split at h
    · rename_i hc
      cases h
      obtain ⟨h1, h2⟩ := Scr.byKind_mem hk
      exact ⟨r, h1, h2.symm, hc.1, rfl, hc.2⟩
    · cases h
theorem again_t (s : List UInt8) (h : Sp.short s = true) : runA Tryd.prog (X 103) 3 4 [.str s] = some (.bool true) := by
  have hb : Tk.bytes (Sp.ints s) := ints_bytes s
  rw [e_again, h, isF_eq]
  simp only [cond_true]
  by_cases he : (rdS s).e = 0
  · obtain ⟨hp, hk, hf, hm⟩ := Scr.again hb he
    have hp : (rdS s).p = 0 := hp
    have hf : Scr.Fine (rdS s).d := hf
    obtain ⟨_, hlen, r, hr, hrk, hrc, _, hll⟩ := Scr.read_ok (d := (rdS s).d) (q := 0) hb (by
      have : rdS s = ⟨(rdS s).d, (rdS s).e, (rdS s).p⟩ := rfl
      rw [he, hp] at this
      exact this)
    have ok1 : okV (rdS s).d = true := okV_t hf fun p => by
      have := Scr.fld_le hrc p
      rw [Sp.ints_len] at hlen hll
      omega
    have hre := reD_fine hf
    rw [decide_eq_true ⟨he, hp⟩, ok1, hre]
    have hk1 : decide ((rdS s).d.kind < 1) = false := decide_eq_false (by have : 1 ≤ (rdS s).d.kind := hk.1; omega)
    have hk2 : decide ((rdS s).d.kind > 24) = false := decide_eq_false (by have : (rdS s).d.kind ≤ 24 := hk.2; omega)
    rw [hk1, hk2]
    simp only [Bool.not_true, cond_false, cond_true]
    unfold Sp.printOk Sp.printT
    cases hq : Scr.print (rdS s).d with
    | none =>
      have hm' : 16376 < (Sp.ints s).length := by
        have hq' : Scr.print (Scr.read (Sp.ints s)).d = none := hq
        rw [hq'] at hm; exact hm
      rw [Sp.ints_len] at hm'
      rw [show decide ((s.length : Int) > 16376) = true from decide_eq_true (by omega)]
      rfl
    | some t =>
      have hm' : Scr.read t = ⟨(rdS s).d, 0, 0⟩ := by
        have hq' : Scr.print (Scr.read (Sp.ints s)).d = some t := hq
        rw [hq'] at hm; exact hm
      obtain ⟨r', hr', _, _, ht, hl⟩ := print_rows hq
      have htb : Tk.bytes t := by rw [ht]; exact Scr.line_bytes hf hr'
      have hrd : rdS (Sp.tb t) = ⟨(rdS s).d, 0, 0⟩ := by unfold rdS; rw [ints_tb htb]; exact hm'
      have hst : Sp.short (Sp.tb t) = true := decide_eq_true (by rw [tb_len]; omega)
      simp only [Option.isSome_some, Bool.not_true, cond_false, Option.getD_some, hst, hrd, ok1, hre, cond_true, hq, isF, u8V_t, decide_true, beq_self_eq_true, Bool.and_self]
      rfl
  · obtain ⟨hd, h0, h1⟩ := Scr.read_bad hb he
    have hd : (rdS s).d = Scr.zero := hd
    have h0 : 0 ≤ (rdS s).p := h0
    have h1 : (rdS s).p ≤ ((Sp.ints s).length : Int) := h1
    rw [Sp.ints_len] at h1
    rw [decide_eq_false (fun hh => he hh.1), show ((rdS s).e != 0) = true from by simp [he], show decide ((rdS s).p ≥ 0) = true from decide_eq_true h0, le_t h1, hd]
    rfl
theorem again_e (s : List UInt8) (h : Sp.short s = true) : ∃ n, runA Tryd.prog (X 103) n 4 [.str s] = some (.bool true) := ⟨3, again_t s h⟩
/-! ScriptBack -/
def MD (kd : Int) (who to text : List UInt8) (xs : List AV) (j m k : Int) : Scr.D := Scr.made (Sp.dO kd who to text xs j m k)
def lineB (s : List UInt8) : List UInt8 := List.filter (fun c => c != 10) (List.take 4000 s)
def bigB (P s : List UInt8) : List UInt8 := [32, 9] ++ P ++ [32, 37, 32] ++ lineB s
def backT (d : Scr.D) (P s : List UInt8) : Option AV :=
  bif (P == []) then F_ else bif Sp.short P then bif Bl P then F_ else bif Sp.short P then bif (!isF (rdS P) 0 0) then F_ else sameK d (rdS P).d (
    bif (2 + P.length).ble 9223372036854775807 then bif (([32, 9] ++ P).length + 3).ble 9223372036854775807 then bif Sp.short (List.take 4000 s) then bif (([32, 9] ++ P ++ [32, 37, 32]).length + (lineB s).length).ble 9223372036854775807 then
      bif Sp.short (bigB P s) then bif isF (rdS (bigB P s)) 0 0 then bif (u8V d && u8V (rdS (bigB P s)).d) then some (.bool (decide (reD d = reD (rdS (bigB P s)).d))) else none else F_ else none else none else none else none else none) else none else none
theorem e_back (kd : Int) (who to text : List UInt8) (xs : List AV) (j m k : Int) (s : List UInt8) : runA Tryd.prog (X 103) 3 8 [.agg [.int .i64 kd, .str who, .str to, .str text, .view 1 xs, .int .i64 j, .int .i64 m, .int .i64 k], .str s] =
    bif (xs.all isU8 && decide (xs.length < 68719476736)) then bif okV (MD kd who to text xs j m k) then bif (!Sp.printOk (reD (MD kd who to text xs j m k))) then F_ else backT (MD kd who to text xs j m k) (Sp.printT (reD (MD kd who to text xs j m k))) s else none else none := by kernel_rfl
theorem made_ok {d : DV} (h : DV.Ok d) : Scr.Fine (Scr.made d.D) ∧ okV (Scr.made d.D) = true ∧ reD (Scr.made d.D) = Scr.made d.D := by
  have hf := Scr.made_fine (DV.fine d h)
  exact ⟨hf, okV_t hf (fun p => by have := Scr.made_len d.D p; omega), reD_fine hf⟩
theorem back_t (d : DV) (h : DV.Ok d) (s : List UInt8) (hs : Sp.short s = true) : runA Tryd.prog (X 103) 3 8 [d.av, .str s] = some (.bool true) := by
  obtain ⟨hf, hok, hre⟩ := made_ok h
  obtain ⟨t, hp, hne, hl, htb, hbl, hrd, hrm⟩ := Scr.back (DV.fine d h)
  refine (e_back d.kd d.who d.to d.text d.xs d.n d.m d.k s).trans ?_
  have hMD : MD d.kd d.who d.to d.text d.xs d.n d.m d.k = Scr.made d.D := rfl
  rw [hMD, hok, hre, h.u8, show decide (d.xs.length < 68719476736) = true from decide_eq_true (by have := h.sz; omega)]
  unfold Sp.printOk Sp.printT
  rw [hp]
  simp only [Bool.and_self, cond_true, Option.isSome_some, Bool.not_true, cond_false, Option.getD_some]
  have hi := ints_tb htb
  have hlt : (Sp.tb t).length ≤ 48018 := by rw [tb_len]; exact hl
  have e1 : (Sp.tb t == []) = false := by
    have : Sp.tb t ≠ [] := fun hh => hne (by rw [← hi, hh]; rfl)
    simpa using this
  have e2 : Bl (Sp.tb t) = false := by unfold Bl; rw [hi]; exact hbl
  have e3 : rdS (Sp.tb t) = ⟨Scr.made d.D, 0, 0⟩ := by unfold rdS; rw [hi]; exact hrd
  have hsl := Sp.short_lt hs
  have hlb : (lineB s).length ≤ 4000 := Nat.le_trans (List.length_filter_le _ _) (by simp; omega)
  have e4 : rdS (bigB (Sp.tb t) s) = ⟨Scr.made d.D, 0, 0⟩ := by
    have hbig : Sp.ints (bigB (Sp.tb t) s) = [32, 9] ++ (t ++ (32 :: 37 :: 32 :: Sp.ints (lineB s))) := by
      have ia : ∀ a b, Sp.ints (a ++ b) = Sp.ints a ++ Sp.ints b := fun a b => by simp [Sp.ints]
      unfold bigB
      rw [ia, ia, ia, hi]
      simp only [List.append_assoc]
      rfl
    unfold rdS
    rw [hbig]
    refine hrm _ ?_ (by rw [Sp.ints_len]; exact hlb)
    intro c hc
    obtain ⟨b, hb, rfl⟩ := List.mem_map.mp hc
    have := (List.mem_filter.mp hb).2
    intro h10
    have : b ≠ 10 := by simpa using this
    exact this (by
      have h10 : (b.toNat : Int) = 10 := h10
      have : b.toNat = 10 := by omega
      exact UInt8.toNat_inj.mp this)
  have g1 : Sp.short (Sp.tb t) = true := decide_eq_true (by omega)
  have g2 : Sp.short (List.take 4000 s) = true := decide_eq_true (by simp; omega)
  have g3 : Sp.short (bigB (Sp.tb t) s) = true := decide_eq_true (by unfold bigB; simp only [List.length_append, List.length_cons, List.length_nil]; omega)
  have g4 : (2 + (Sp.tb t).length).ble 9223372036854775807 = true := Nat.ble_eq_true_of_le (by omega)
  have g5 : (([32, 9] ++ Sp.tb t).length + 3).ble 9223372036854775807 = true := Nat.ble_eq_true_of_le (by simp only [List.length_append, List.length_cons, List.length_nil]; omega)
  have g6 : (([32, 9] ++ Sp.tb t ++ [32, 37, 32]).length + (lineB s).length).ble 9223372036854775807 = true := Nat.ble_eq_true_of_le (by simp only [List.length_append, List.length_cons, List.length_nil]; omega)
  unfold backT sameK
  rw [g1, g2, g3, g4, g5, g6]
  simp only [e1, e2, e3, e4, hre, u8V_t, isF, decide_true, beq_self_eq_true, Bool.and_self, Bool.not_true, Bool.not_false, cond_true, cond_false]
theorem back_e (d : DV) (s : List UInt8) (h : DV.Ok d) (hs : Sp.short s = true) : ∃ n, runA Tryd.prog (X 103) n 8 [d.av, .str s] = some (.bool true) := ⟨3, back_t d h s hs⟩
end Go.Proofs.YtgeheffhdpeddaaDoor.VX

/- THE LAW ScriptRefuses comes to true. Conditions: as each theorem states. -/
namespace Go.Proofs.YtgeheffhdpeddaaDoor.VX
open Go Go.Proofs Go.Proofs.YtgeheffhdpeddaaDoor Go.RowKit
def refTail (P : List UInt8) (a : Int) : Option AV :=
  bif decide (a < 0) then F_ else bif decide (a > (P.length : Int)) then F_ else bif decide (0 ≤ a) then bif decide (a ≤ (P.length : Int)) then bif Sp.short (List.drop 0 (List.take a.toNat P)) then
    bif (!isF (rdS (List.drop 0 (List.take a.toNat P))) 253 a) then F_ else bif decide (0 ≤ a) then bif decide (a ≤ (P.length : Int)) then bif ((List.drop 0 (List.take a.toNat P)).length + 2).ble 9223372036854775807 then
      bif decide (0 ≤ a) then bif decide (a ≤ (P.length : Int)) then bif decide ((P.length : Int) ≤ (P.length : Int)) then
        bif ((List.drop 0 (List.take a.toNat P) ++ [44, 32]).length + (List.drop a.toNat (List.take (P.length : Int).toNat P)).length).ble 9223372036854775807 then
          bif Sp.short (List.drop 0 (List.take a.toNat P) ++ [44, 32] ++ List.drop a.toNat (List.take (P.length : Int).toNat P)) then some (.bool (isF (rdS (List.drop 0 (List.take a.toNat P) ++ [44, 32] ++ List.drop a.toNat (List.take (P.length : Int).toNat P))) 253 a)) else none
        else none else none else none else none else none else none else none else none else none else none
def refAt1 (P : List UInt8) (l : List AV) : Option AV :=
  bif decide ((1 : Int) < (l.length : Int)) then bif Nat.blt 3 ((l.getD 1 .top).cells.getD []).length then bif isI .i64 (((l.getD 1 .top).cells.getD []).getD 3 .top) then refTail P (toI (((l.getD 1 .top).cells.getD []).getD 3 .top)) else none else none else none
def refAtK (P : List UInt8) (l : List AV) (k : Int) : Option AV :=
  bif decide (0 ≤ k) then bif decide (k < (l.length : Int)) then bif Nat.blt 3 ((l.getD k.toNat .top).cells.getD []).length then bif isI .i64 (((l.getD k.toNat .top).cells.getD []).getD 3 .top) then refTail P (toI (((l.getD k.toNat .top).cells.getD []).getD 3 .top)) else none else none else none else none
def refL_ (P : List UInt8) (l : List AV) (b2 : Int) : Option AV :=
  bif ((l.length : Int) == 0) then F_ else bif ((l.length : Int) == 1) then T_ else bif (!(IntKind.i64.wrap ((l.length : Int) - 1) == 0)) then
    bif decide (IntKind.i64.wrap (1 + b2.tmod (IntKind.i64.wrap ((l.length : Int) - 1))) < 1) then refAt1 P l else refAtK P l (IntKind.i64.wrap (1 + b2.tmod (IntKind.i64.wrap ((l.length : Int) - 1)))) else none
def refT (P : List UInt8) (b2 : Int) : Option AV :=
  bif (P.length + 2).ble 9223372036854775807 then bif Sp.short (P ++ [32, 120]) then bif (!isF (rdS (P ++ [32, 120])) 253 (IntKind.i64.wrap ((P.length : Int) + 1))) then F_ else
    bif (1 + P.length).ble 9223372036854775807 then bif Sp.short ([88] ++ P) then bif (!isF (rdS ([88] ++ P)) 252 0) then F_ else
      bif Sp.short P then bif (!((Sp.cut P (P.length : Int)).e == 0 && ((Sp.cut P (P.length : Int)).p == 0 && true))) then F_ else refL_ P (List.map tokA (Sp.cutL P (P.length : Int))) b2 else none
    else none else none else none else none
theorem e_refuses (kd : Int) (who to text : List UInt8) (xs : List AV) (j m k b1 b2 : Int) : runA Tryd.prog (X 103) 3 5 [.agg [.int .i64 kd, .str who, .str to, .str text, .view 1 xs, .int .i64 j, .int .i64 m, .int .i64 k], .agg [.int .i64 b1, .int .i64 b2]] =
    bif (xs.all isU8 && decide (xs.length < 68719476736)) then bif okV (MD kd who to text xs j m k) then bif (!Sp.printOk (reD (MD kd who to text xs j m k))) then F_ else refT (Sp.printT (reD (MD kd who to text xs j m k))) b2 else none else none := by kernel_rfl
theorem ints_app (a b : List UInt8) : Sp.ints (a ++ b) = Sp.ints a ++ Sp.ints b := by simp [Sp.ints]
theorem ints_take (n : Nat) (a : List UInt8) : Sp.ints (a.take n) = (Sp.ints a).take n := by simp [Sp.ints, List.map_take]
theorem refTail_t {d : Scr.D} (h : Scr.Fine d) {r : Scr.Row} (hr : r ∈ Scr.rows) {ps qs : List Scr.P} {p : Scr.P} (hp : r.parts = ps ++ p :: qs) (hl : (Scr.line r d).length ≤ 65000) (P : List UInt8) (hP : Sp.ints P = Scr.line r d) :
    refTail P ((Scr.front r d ps).length : Int) = T_ := by
  have hPl : P.length = (Scr.line r d).length := by rw [← hP, Sp.ints_len]
  have hfl : (Scr.front r d ps).length ≤ P.length := by rw [hPl]; exact Scr.front_len hp
  obtain ⟨f1, f2⟩ := Scr.front_take r d hp
  generalize ha : (Scr.front r d ps).length = a at hfl f1 f2
  have i1 : Sp.ints (List.drop 0 (List.take (a : Int).toNat P)) = Scr.front r d ps := by
    rw [List.drop_zero, toNat_cast, ints_take, hP, f1]
  have i2 : Sp.ints (List.drop (a : Int).toNat (List.take (P.length : Int).toNat P)) = Scr.shown d p ++ Scr.tailL d qs := by
    rw [toNat_cast, toNat_cast, List.take_length, Sp.ints_drop, hP, f2]
  have r1 : rdS (List.drop 0 (List.take (a : Int).toNat P)) = ⟨Scr.zero, 253, (a : Int)⟩ := by
    unfold rdS; rw [i1, Scr.read_front h hr hp (by omega), ha]
  have r2 : rdS (List.drop 0 (List.take (a : Int).toNat P) ++ [44, 32] ++ List.drop (a : Int).toNat (List.take (P.length : Int).toNat P)) = ⟨Scr.zero, 253, (a : Int)⟩ := by
    unfold rdS
    rw [ints_app, ints_app, i1, i2, List.append_assoc]
    have := Scr.read_comma h hr hp (by omega)
    rw [ha] at this
    exact this
  have l1 : (List.drop 0 (List.take (a : Int).toNat P)).length ≤ P.length := by simp; omega
  have l2 : (List.drop (a : Int).toNat (List.take (P.length : Int).toNat P)).length ≤ P.length := by simp
  unfold refTail
  rw [lt_f (a := (a : Int)) (b := 0) (by omega), show decide ((a : Int) > (P.length : Int)) = false from decide_eq_false (by omega), le_t (a := 0) (b := (a : Int)) (by omega), le_t (a := (a : Int)) (b := (P.length : Int)) (by omega), le_t (a := (P.length : Int)) (b := (P.length : Int)) (by omega), r1, r2, isF_self ⟨Scr.zero, 253, (a : Int)⟩,
    show Sp.short (List.drop 0 (List.take (a : Int).toNat P)) = true from decide_eq_true (by omega),
    show ((List.drop 0 (List.take (a : Int).toNat P)).length + 2).ble 9223372036854775807 = true from Nat.ble_eq_true_of_le (by omega),
    show ((List.drop 0 (List.take (a : Int).toNat P) ++ ([44, 32] : List UInt8)).length + (List.drop (a : Int).toNat (List.take (P.length : Int).toNat P)).length).ble 9223372036854775807 = true from Nat.ble_eq_true_of_le (by simp only [List.length_append, List.length_cons, List.length_nil]; omega),
    show Sp.short (List.drop 0 (List.take (a : Int).toNat P) ++ [44, 32] ++ List.drop (a : Int).toNat (List.take (P.length : Int).toNat P)) = true from decide_eq_true (by simp only [List.length_append, List.length_cons, List.length_nil]; omega)]
  rfl
theorem split_at {α : Type} : ∀ (l : List α) (i : Nat), i < l.length → ∃ a x b, l = a ++ x :: b ∧ a.length = i
  | [], _, h => by simp at h
  | x :: l, 0, _ => ⟨[], x, l, rfl, rfl⟩
  | x :: l, i + 1, h => by
    obtain ⟨a, y, b, rfl, hl⟩ := split_at l i (by simpa using h)
    exact ⟨x :: a, y, b, rfl, by simp [hl]⟩
theorem at_eq (P : List UInt8) {d : Scr.D} (r : Scr.Row) (l : List Tk.Tok) (hl : l = ⟨1, r.name, 0, 0, (r.name.length : Int)⟩ :: Scr.toksP d r.parts (r.name.length : Int)) {ps qs : List Scr.P} {p : Scr.P} (hp : r.parts = ps ++ p :: qs) :
    ∃ t, (l.map tokA).getD (ps.length + 1) AV.top = tokA t ∧ t.at_ = ((Scr.front r d ps).length : Int) := by
  obtain ⟨e, he⟩ := Scr.tok_at r d hp ⟨1, r.name, 0, 0, (r.name.length : Int)⟩
  rw [← hl] at he
  refine ⟨_, by rw [List.getD_eq_getElem?_getD, List.getElem?_map, he]; rfl, ?_⟩
  cases p <;> rfl
theorem refuses_t (d : DV) (h : DV.Ok d) (b1 b2 : Int) : runA Tryd.prog (X 103) 3 5 [d.av, .agg [.int .i64 b1, .int .i64 b2]] = some (.bool true) := by
  obtain ⟨hf, hok, hre⟩ := made_ok h
  obtain ⟨r, hr, hk, hc, hp⟩ := Scr.made_print (DV.fine d h)
  have hll := Scr.made_line (DV.fine d h) hr
  have hlb := Scr.line_bytes hf hr
  refine (e_refuses d.kd d.who d.to d.text d.xs d.n d.m d.k b1 b2).trans ?_
  have hMD : MD d.kd d.who d.to d.text d.xs d.n d.m d.k = Scr.made d.D := rfl
  rw [hMD, hok, hre, h.u8, show decide (d.xs.length < 68719476736) = true from decide_eq_true (by have := h.sz; omega)]
  unfold Sp.printOk Sp.printT
  rw [hp]
  simp only [Bool.and_self, cond_true, Option.isSome_some, Bool.not_true, cond_false, Option.getD_some]
  generalize hd' : Scr.made d.D = D at hf hk hc hll hlb
  have hi := ints_tb hlb
  generalize hP : Sp.tb (Scr.line r D) = P at hi
  have hPl : P.length = (Scr.line r D).length := by rw [← hi, Sp.ints_len]
  have e1 : rdS (P ++ [32, 120]) = ⟨Scr.zero, 253, ((Scr.line r D).length : Int) + 1⟩ := by
    unfold rdS
    rw [ints_app, hi]
    exact Scr.read_more hf hr hk hc (by omega)
  have e2 : rdS ([88] ++ P) = ⟨Scr.zero, 252, 0⟩ := by
    unfold rdS
    rw [ints_app, hi]
    exact Scr.read_X hf hr (by omega)
  have hcut := Scr.line_toks hf hr
  have e3 : Sp.cut P (P.length : Int) = ⟨⟨1, r.name, 0, 0, (r.name.length : Int)⟩ :: Scr.toksP D r.parts (r.name.length : Int), 0, 0⟩ := by rw [cut_full, hi, hcut]
  have e4 : Sp.cutL P (P.length : Int) = ⟨1, r.name, 0, 0, (r.name.length : Int)⟩ :: Scr.toksP D r.parts (r.name.length : Int) := by
    rw [cutL_full P (by rw [hi, hcut]), hi, hcut]
  have e5 : IntKind.i64.wrap ((P.length : Int) + 1) = ((Scr.line r D).length : Int) + 1 := by rw [wrap_id (by omega) (by omega), hPl]
  unfold refT
  rw [e3, e5, e1, e2, e4, isF_self ⟨Scr.zero, 253, ((Scr.line r D).length : Int) + 1⟩, isF_self ⟨Scr.zero, 252, 0⟩,
    show (P.length + 2).ble 9223372036854775807 = true from Nat.ble_eq_true_of_le (by omega), show (1 + P.length).ble 9223372036854775807 = true from Nat.ble_eq_true_of_le (by omega),
    show Sp.short (P ++ [32, 120]) = true from decide_eq_true (by simp only [List.length_append, List.length_cons, List.length_nil]; omega),
    show Sp.short ([88] ++ P) = true from decide_eq_true (by simp only [List.length_append, List.length_cons, List.length_nil]; omega), show Sp.short P = true from decide_eq_true (by omega)]
  simp only [Bool.not_true, cond_false, cond_true, beq_self_eq_true, Bool.and_self]
  generalize hT : (⟨1, r.name, 0, 0, (r.name.length : Int)⟩ :: Scr.toksP D r.parts (r.name.length : Int) : List Tk.Tok) = T
  have hTl : (List.map tokA T).length = r.parts.length + 1 := by rw [← hT]; simp [Scr.toksP_len]
  have h3 := (Scr.rows_small r hr).1
  unfold refL_
  rw [hTl, show (((r.parts.length + 1 : Nat) : Int) == 0) = false from by rw [beq_eq_false_iff_ne]; omega]
  by_cases h0 : r.parts.length = 0
  · rw [show (((r.parts.length + 1 : Nat) : Int) == 1) = true from by rw [h0]; rfl]; rfl
  · have ew : IntKind.i64.wrap (((r.parts.length + 1 : Nat) : Int) - 1) = (r.parts.length : Int) := by rw [wrap_id (by omega) (by omega)]; omega
    rw [show (((r.parts.length + 1 : Nat) : Int) == 1) = false from by rw [beq_eq_false_iff_ne]; omega, ew, show ((r.parts.length : Int) == 0) = false from by rw [beq_eq_false_iff_ne]; omega]
    simp only [Bool.not_false, cond_false, cond_true]
    have b1 := Int.tmod_lt_of_pos b2 (show (0 : Int) < (r.parts.length : Int) by omega)
    have b2' := Int.lt_tmod_of_pos b2 (show (0 : Int) < (r.parts.length : Int) by omega)
    have ek : IntKind.i64.wrap (1 + b2.tmod (r.parts.length : Int)) = 1 + b2.tmod (r.parts.length : Int) := wrap_id (by omega) (by omega)
    rw [ek]
    by_cases hK : 1 + b2.tmod (r.parts.length : Int) < 1
    · rw [lt_t hK, cond_true]
      obtain ⟨ps, p, qs, hpp, hps⟩ := split_at r.parts 0 (by omega)
      obtain ⟨t, t1, t2⟩ := at_eq P r T hT.symm hpp
      rw [hps] at t1
      unfold refAt1
      rw [hTl, t1, lt_t (a := 1) (b := ((r.parts.length + 1 : Nat) : Int)) (by omega)]
      have := refTail_t hf hr hpp (by omega) P hi
      rw [← t2] at this
      exact this
    · rw [lt_f (by omega), cond_false]
      obtain ⟨K, hKn⟩ : ∃ K : Nat, 1 + b2.tmod (r.parts.length : Int) = ((K + 1 : Nat) : Int) := ⟨(b2.tmod (r.parts.length : Int)).toNat, by omega⟩
      rw [hKn]
      obtain ⟨ps, p, qs, hpp, hps⟩ := split_at r.parts K (by omega)
      obtain ⟨t, t1, t2⟩ := at_eq P r T hT.symm hpp
      rw [hps] at t1
      unfold refAtK
      rw [hTl, toNat_cast, t1, le_t (a := 0) (b := ((K + 1 : Nat) : Int)) (by omega), lt_t (a := ((K + 1 : Nat) : Int)) (b := ((r.parts.length + 1 : Nat) : Int)) (by omega)]
      have := refTail_t hf hr hpp (by omega) P hi
      rw [← t2] at this
      exact this
theorem refuses_e (d : DV) (b1 b2 : Int) (h : DV.Ok d) : ∃ n, runA Tryd.prog (X 103) n 5 [d.av, .agg [.int .i64 b1, .int .i64 b2]] = some (.bool true) := ⟨3, refuses_t d h b1 b2⟩
end Go.Proofs.YtgeheffhdpeddaaDoor.VX
