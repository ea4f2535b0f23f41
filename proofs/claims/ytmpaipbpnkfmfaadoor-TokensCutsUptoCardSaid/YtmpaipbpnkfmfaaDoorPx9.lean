/- THE PROGRAM's FUNCTIONS AS PLAIN LEAN FUNCTIONS, and proofs that its calls come to them: written by a program of this claim's own. Conditions: as each theorem states. -/
import Derived.Test.YtmpaipbpnkfmfaaDoorPx0
namespace Go.Proofs.YtmpaipbpnkfmfaaDoor.P
open Go.RowKit Go.Proofs.YtmpaipbpnkfmfaaDoorW.PrintWords Go.Proofs.YtmpaipbpnkfmfaaDoorW.PrintLast Go.Proofs.YtmpaipbpnkfmfaaDoorW.PrintMore
attribute [local go_sem] max2_int min2_int max_two min_two max_three min_three max_four min_four   -- for this text's walks alone
set_option linter.unusedVariables false
set_option linter.unusedSimpArgs false

attribute [local go_sem high] isSome_setCell_
/-! ### hearsayref04_digit: function 58 -/
def hearsayref04_digit.f (a0 : Int) : Option (Bool) := if a0 ≥ 48 then (some (decide (a0 ≤ 57))) else (some false)
set_option maxHeartbeats 20000000 in
set_option maxRecDepth 100000 in
theorem hearsayref04_digit.calls (a0 : Int) (r : Bool) (w : World) (h : hearsayref04_digit.f a0 = some r) :
  Calls Tryd.prog 58 #[.int .u8 a0] w fun e w' => e = .returned (.bool r) ∧ Drawn0 w w' := by
 have H : (if a0 ≥ 48 then (some (decide (a0 ≤ 57))) else (some false)) = some r := h
 clear h
 by_cases c2 : a0 ≥ 48
 ·rw [if_pos c2] at H
  have c2b0 : decide (48 ≤ a0) = true := decide_eq_true c2
  clear c2
  obtain rfl := Option.some.inj H
  go_enter Tryd.func58, Tryd.ntmps58
  go_wp2
  go_ret
  exact ⟨by first | rfl | (simp; done) | (simp [*]; done) | (simp [i64_w, i32_w, IntKind.wrap_u8]; done) | (simp [*, i64_w, i32_w, IntKind.wrap_u8]; done), by repeat (first | exact Drawn0.refl _ | apply Drawn0.step)⟩
 ·rw [if_neg c2] at H
  have c2b0 : decide (48 ≤ a0) = false := decide_eq_false c2
  clear c2
  obtain rfl := Option.some.inj H
  go_enter Tryd.func58, Tryd.ntmps58
  go_wp2
  go_ret
  exact ⟨by first | rfl | (simp; done) | (simp [*]; done) | (simp [i64_w, i32_w, IntKind.wrap_u8]; done) | (simp [*, i64_w, i32_w, IntKind.wrap_u8]; done), by repeat (first | exact Drawn0.refl _ | apply Drawn0.step)⟩

/-! ### hearsayref04_hex: function 85 -/
def hearsayref04_hex.j0 : Nat → Int → Bool → Option (Int)
 | 0, _, _ => none
 | k + 1, x0, x9 => if x9 = true then (some (((x0 - 97) % 256) + 10)) else (if x0 ≥ 65 then (if x0 ≤ 70 then (some (((x0 - 65) % 256) + 10)) else (some (-1))) else (some (-1)))
def hearsayref04_hex.f (k : Nat) (a0 : Int) : Option (Int) := (hearsayref04_digit.f a0).bind fun t230 => (if t230 = true then (some ((a0 - 48) % 256)) else (if a0 ≥ 97 then (hearsayref04_hex.j0 k a0 (decide (a0 ≤ 102))) else (hearsayref04_hex.j0 k a0 false)))
theorem hearsayref04_hex.mono_l : ∀ k, (∀ y0 y1, LeO (hearsayref04_hex.j0 k y0 y1) (hearsayref04_hex.j0 (k + 1) y0 y1))
 | 0 => fun _ _ r h => by simp [hearsayref04_hex.j0] at h
 | k + 1 => by
  have ih0 := hearsayref04_hex.mono_l k
  ·intro y0 y1
   unfold hearsayref04_hex.j0
   repeat' first
   | (with_reducible exact ih0 _ _)
   | (with_reducible exact LeO.refl _)
   | (with_reducible exact LeO.none _)
   | (with_reducible refine LeO.ite ?_ ?_)
   | (with_reducible refine LeO.bind ?_ (fun _ => ?_))
   | exact ih0 _ _
   | exact LeO.none _
   | refine LeO.ite ?_ ?_
   | refine LeO.bind ?_ (fun _ => ?_)
theorem hearsayref04_hex.mono : ∀ a0 k, LeO (hearsayref04_hex.f k a0) (hearsayref04_hex.f (k + 1) a0) := by
 intro a0 k
 have ih0 := hearsayref04_hex.mono_l k
 unfold hearsayref04_hex.f
 repeat' first
   | (with_reducible exact ih0 _ _)
   | (with_reducible exact LeO.refl _)
   | (with_reducible exact LeO.none _)
   | (with_reducible refine LeO.ite ?_ ?_)
   | (with_reducible refine LeO.bind ?_ (fun _ => ?_))
   | exact ih0 _ _
   | exact LeO.none _
   | refine LeO.ite ?_ ?_
   | refine LeO.bind ?_ (fun _ => ?_)
set_option maxHeartbeats 20000000 in
set_option maxRecDepth 100000 in
theorem hearsayref04_hex.calls (k : Nat) (a0 : Int) (r : Int) (w : World) (h : hearsayref04_hex.f k a0 = some r) :
  Calls Tryd.prog 85 #[.int .u8 a0] w fun e w' => e = .returned (.int .i64 r) ∧ Drawn0 w w' := by
 have H : ((hearsayref04_digit.f a0).bind fun t230 => (if t230 = true then (some ((a0 - 48) % 256)) else (if a0 ≥ 97 then (hearsayref04_hex.j0 k a0 (decide (a0 ≤ 102))) else (hearsayref04_hex.j0 k a0 false)))) = some r := h
 clear h
 replace H := Option.bind_eq_some_iff.mp H
 obtain ⟨t230, A20, H⟩ := H
 replace H : (if t230 = true then (some ((a0 - 48) % 256)) else (if a0 ≥ 97 then (hearsayref04_hex.j0 k a0 (decide (a0 ≤ 102))) else (hearsayref04_hex.j0 k a0 false))) = some r := H
 have A2 := Aside0.mk A20
 clear A20
 by_cases c3 : t230 = true
 ·subst c3
  have H1 : (some ((a0 - 48) % 256)) = some r := by rw [if_pos rfl] at H; exact H
  clear H
  have H := H1
  clear H1
  obtain rfl := Option.some.inj H
  go_enter Tryd.func85, Tryd.ntmps85
  go_wp2_with (first | ((with_reducible refine gate_callee (f := 58) rfl ?_); refine goesL_ (some 5) rfl rfl Tryd.func58 (by kernel_rfl) rfl #[.int .u8 a0] rfl ar_ ?_; (with_reducible refine (hearsayref04_digit.calls a0 true _ A2.out).mono ?_); rintro e w' ⟨rfl, ⟨nd, rfl⟩⟩; refine ⟨_, rfl, ?_⟩))
  go_ret
  exact ⟨by first | rfl | (simp; done) | (simp [*]; done) | (simp [i64_w, i32_w, IntKind.wrap_u8]; done) | (simp [*, i64_w, i32_w, IntKind.wrap_u8]; done), by repeat (first | exact Drawn0.refl _ | apply Drawn0.step)⟩
 ·replace c3 := Bool.eq_false_iff.mpr c3
  subst c3
  have H1 : (if a0 ≥ 97 then (hearsayref04_hex.j0 k a0 (decide (a0 ≤ 102))) else (hearsayref04_hex.j0 k a0 false)) = some r := by rw [if_neg (show ¬ (false = true) by decide)] at H; exact H
  clear H
  have H := H1
  clear H1
  have HC4 := Aside0.mk H
  clear H
  go_enter Tryd.func85, Tryd.ntmps85
  go_upto_region 3 with (first | ((with_reducible refine gate_callee (f := 58) rfl ?_); refine goesL_ (some 5) rfl rfl Tryd.func58 (by kernel_rfl) rfl #[.int .u8 a0] rfl ar_ ?_; (with_reducible refine (hearsayref04_digit.calls a0 false _ A2.out).mono ?_); rintro e w' ⟨rfl, ⟨nd, rfl⟩⟩; refine ⟨_, rfl, ?_⟩))
  (try simp only [Act.put, List.setIfInBounds_toArray, List.set_cons_zero, List.set_cons_succ])
  go_cut [9] (fun v9 wc => ∃ (kq : Nat) (x9_3 : Bool), v9 = .bool x9_3 ∧ Aside0 (hearsayref04_hex.j0 kq a0 x9_3 = some r) ∧ Aside0 (kq ≤ k) ∧ Drawn0 w wc)
  case first =>
   have H := HC4.out
   clear HC4
   by_cases c5 : a0 ≥ 97
   ·rw [if_pos c5] at H
    have c5b0 : decide (97 ≤ a0) = true := decide_eq_true c5
    clear c5
    (first | rw [c5b0] | (simp only [i64_w, i32_w]; rw [c5b0]) | skip)
    have H' := Aside0.mk H
    clear H
    go_wp2
    go_meet
    case rel => exact ⟨_, (decide (a0 ≤ 102)), eq_, H', ⟨by first | omega | exact Nat.le_refl _⟩, by repeat (first | exact Drawn0.refl _ | apply Drawn0.step)⟩
   ·rw [if_neg c5] at H
    have c5b0 : decide (97 ≤ a0) = false := decide_eq_false c5
    clear c5
    (first | rw [c5b0] | (simp only [i64_w, i32_w]; rw [c5b0]) | skip)
    have H' := Aside0.mk H
    clear H
    go_wp2
    go_meet
    case rel => exact ⟨_, (false), eq_, H', ⟨by first | omega | exact Nat.le_refl _⟩, by repeat (first | exact Drawn0.refl _ | apply Drawn0.step)⟩
  case rest =>
   clear HC4
   try clear p2
   try clear c3
   try clear c5
   try clear c5b0
   obtain ⟨kq, x9_3, rfl, HA, HJ3, ⟨mc3, rfl⟩⟩ := hcut
   cases kq with
   | zero => exact absurd HA.out (by simp [hearsayref04_hex.j0])
   | succ kj3 =>
    have H := HA.out
    clear HA
    simp only [hearsayref04_hex.j0] at H
    by_cases c6 : x9_3 = true
    ·subst c6
     have H1 : (some (((a0 - 97) % 256) + 10)) = some r := by rw [if_pos rfl] at H; exact H
     clear H
     have H := H1
     clear H1
     obtain rfl := Option.some.inj H
     go_wp2
     go_ret
     exact ⟨by first | rfl | (simp; done) | (simp [*]; done) | (simp [i64_w, i32_w, IntKind.wrap_u8]; done) | (simp [*, i64_w, i32_w, IntKind.wrap_u8]; done), by repeat (first | exact Drawn0.refl _ | apply Drawn0.step)⟩
    ·replace c6 := Bool.eq_false_iff.mpr c6
     subst c6
     have H1 : (if a0 ≥ 65 then (if a0 ≤ 70 then (some (((a0 - 65) % 256) + 10)) else (some (-1))) else (some (-1))) = some r := by rw [if_neg (show ¬ (false = true) by decide)] at H; exact H
     clear H
     have H := H1
     clear H1
     by_cases c7 : a0 ≥ 65
     ·rw [if_pos c7] at H
      have c7b0 : decide (65 ≤ a0) = true := decide_eq_true c7
      clear c7
      by_cases c8 : a0 ≤ 70
      ·rw [if_pos c8] at H
       have c8b0 : decide (a0 ≤ 70) = true := decide_eq_true c8
       clear c8
       obtain rfl := Option.some.inj H
       go_wp2
       go_ret
       exact ⟨by first | rfl | (simp; done) | (simp [*]; done) | (simp [i64_w, i32_w, IntKind.wrap_u8]; done) | (simp [*, i64_w, i32_w, IntKind.wrap_u8]; done), by repeat (first | exact Drawn0.refl _ | apply Drawn0.step)⟩
      ·rw [if_neg c8] at H
       have c8b0 : decide (a0 ≤ 70) = false := decide_eq_false c8
       clear c8
       obtain rfl := Option.some.inj H
       go_wp2
       go_ret
       exact ⟨by first | rfl | (simp; done) | (simp [*]; done) | (simp [i64_w, i32_w, IntKind.wrap_u8]; done) | (simp [*, i64_w, i32_w, IntKind.wrap_u8]; done), by repeat (first | exact Drawn0.refl _ | apply Drawn0.step)⟩
     ·rw [if_neg c7] at H
      have c7b0 : decide (65 ≤ a0) = false := decide_eq_false c7
      clear c7
      obtain rfl := Option.some.inj H
      go_wp2
      go_ret
      exact ⟨by first | rfl | (simp; done) | (simp [*]; done) | (simp [i64_w, i32_w, IntKind.wrap_u8]; done) | (simp [*, i64_w, i32_w, IntKind.wrap_u8]; done), by repeat (first | exact Drawn0.refl _ | apply Drawn0.step)⟩

/-! ### hearsayref04_escape: function 74 -/
mutual
def hearsayref04_escape.j0 : Nat → ByteArray → Int → Int → Bool → Option (Int × Int)
 | 0, _, _, _, _ => none
 | k + 1, x0, x1, x14, x15 => if x15 = true then (if 0 ≤ (wrap64 (x1 + 1)) then (if (wrap64 (x1 + 1)) < (x0.size : Int) then (some (bt x0 (wrap64 (x1 + 1)), 2)) else (none)) else (none)) else (if x14 = 110 then (some (10, 2)) else (if x14 = 116 then (some (9, 2)) else (if x14 = 120 then (if (wrap64 (x1 + 3)) < (x0.size : Int) then (if 0 ≤ (wrap64 (x1 + 2)) then (if (wrap64 (x1 + 2)) < (x0.size : Int) then ((hearsayref04_hex.f k (bt x0 (wrap64 (x1 + 2)))).bind fun t231 => (if t231 ≥ 0 then (if 0 ≤ (wrap64 (x1 + 3)) then ((hearsayref04_hex.f k (bt x0 (wrap64 (x1 + 3)))).bind fun t232 => (hearsayref04_escape.j1 k x0 x1 (decide (t232 ≥ 0)))) else (none)) else (hearsayref04_escape.j1 k x0 x1 false))) else (none)) else (none)) else (hearsayref04_escape.j1 k x0 x1 false)) else (some (0, 0)))))
def hearsayref04_escape.j1 : Nat → ByteArray → Int → Bool → Option (Int × Int)
 | 0, _, _, _ => none
 | k + 1, x0, x1, x48 => if x48 = true then (if 0 ≤ (wrap64 (x1 + 2)) then (if (wrap64 (x1 + 2)) < (x0.size : Int) then ((hearsayref04_hex.f k (bt x0 (wrap64 (x1 + 2)))).bind fun t233 => (if 0 ≤ (wrap64 (x1 + 3)) then (if (wrap64 (x1 + 3)) < (x0.size : Int) then ((hearsayref04_hex.f k (bt x0 (wrap64 (x1 + 3)))).bind fun t234 => (some ((wrap64 ((wrap64 (16 * t233)) + t234)) % 256, 4))) else (none)) else (none))) else (none)) else (none)) else (some (0, 0))
end
def hearsayref04_escape.f (k : Nat) (a0 : ByteArray) (a1 : Int) : Option (Int × Int) := if (wrap64 (a1 + 1)) ≥ (a0.size : Int) then (some (0, 0)) else (if 0 ≤ (wrap64 (a1 + 1)) then (if (wrap64 (a1 + 1)) < (a0.size : Int) then (if (bt a0 (wrap64 (a1 + 1))) = 34 then (hearsayref04_escape.j0 k a0 a1 (bt a0 (wrap64 (a1 + 1))) ((bt a0 (wrap64 (a1 + 1))) == 34)) else (hearsayref04_escape.j0 k a0 a1 (bt a0 (wrap64 (a1 + 1))) ((bt a0 (wrap64 (a1 + 1))) == 92))) else (none)) else (none))
theorem hearsayref04_escape.mono_l : ∀ k, (∀ y0 y1 y2 y3, LeO (hearsayref04_escape.j0 k y0 y1 y2 y3) (hearsayref04_escape.j0 (k + 1) y0 y1 y2 y3)) ∧ (∀ y0 y1 y2, LeO (hearsayref04_escape.j1 k y0 y1 y2) (hearsayref04_escape.j1 (k + 1) y0 y1 y2))
 | 0 => ⟨fun _ _ _ _ r h => by simp [hearsayref04_escape.j0] at h, fun _ _ _ r h => by simp [hearsayref04_escape.j1] at h⟩
 | k + 1 => by
  obtain ⟨ih0, ih1⟩ := hearsayref04_escape.mono_l k
  refine ⟨?_, ?_⟩
  ·intro y0 y1 y2 y3
   unfold hearsayref04_escape.j0
   repeat' first
   | (with_reducible exact ih0 _ _ _ _)
   | (with_reducible exact ih1 _ _ _)
   | (with_reducible exact hearsayref04_hex.mono _ _)
   | (with_reducible exact LeO.refl _)
   | (with_reducible exact LeO.none _)
   | (with_reducible refine LeO.ite ?_ ?_)
   | (with_reducible refine LeO.bind ?_ (fun _ => ?_))
   | exact ih0 _ _ _ _
   | exact ih1 _ _ _
   | exact hearsayref04_hex.mono _ _
   | exact LeO.none _
   | refine LeO.ite ?_ ?_
   | refine LeO.bind ?_ (fun _ => ?_)
  ·intro y0 y1 y2
   unfold hearsayref04_escape.j1
   repeat' first
   | (with_reducible exact ih0 _ _ _ _)
   | (with_reducible exact ih1 _ _ _)
   | (with_reducible exact hearsayref04_hex.mono _ _)
   | (with_reducible exact LeO.refl _)
   | (with_reducible exact LeO.none _)
   | (with_reducible refine LeO.ite ?_ ?_)
   | (with_reducible refine LeO.bind ?_ (fun _ => ?_))
   | exact ih0 _ _ _ _
   | exact ih1 _ _ _
   | exact hearsayref04_hex.mono _ _
   | exact LeO.none _
   | refine LeO.ite ?_ ?_
   | refine LeO.bind ?_ (fun _ => ?_)
theorem hearsayref04_escape.mono : ∀ a0 a1 k, LeO (hearsayref04_escape.f k a0 a1) (hearsayref04_escape.f (k + 1) a0 a1) := by
 intro a0 a1 k
 obtain ⟨ih0, ih1⟩ := hearsayref04_escape.mono_l k
 unfold hearsayref04_escape.f
 repeat' first
   | (with_reducible exact ih0 _ _ _ _)
   | (with_reducible exact ih1 _ _ _)
   | (with_reducible exact hearsayref04_hex.mono _ _)
   | (with_reducible exact LeO.refl _)
   | (with_reducible exact LeO.none _)
   | (with_reducible refine LeO.ite ?_ ?_)
   | (with_reducible refine LeO.bind ?_ (fun _ => ?_))
   | exact ih0 _ _ _ _
   | exact ih1 _ _ _
   | exact hearsayref04_hex.mono _ _
   | exact LeO.none _
   | refine LeO.ite ?_ ?_
   | refine LeO.bind ?_ (fun _ => ?_)
set_option maxHeartbeats 20000000 in
set_option maxRecDepth 100000 in
theorem hearsayref04_escape.calls (k : Nat) (a0 : ByteArray) (a1 : Int) (r1 : Int) (r2 : Int) (w : World) (h : hearsayref04_escape.f k a0 a1 = some (r1, r2)) :
  Calls Tryd.prog 74 #[.string a0, .int .i64 a1] w fun e w' => e = .returned (.tuple #[.int .u8 r1, .int .i64 r2]) ∧ Drawn0 w w' := by
 have H : (if (wrap64 (a1 + 1)) ≥ (a0.size : Int) then (some (0, 0)) else (if 0 ≤ (wrap64 (a1 + 1)) then (if (wrap64 (a1 + 1)) < (a0.size : Int) then (if (bt a0 (wrap64 (a1 + 1))) = 34 then (hearsayref04_escape.j0 k a0 a1 (bt a0 (wrap64 (a1 + 1))) ((bt a0 (wrap64 (a1 + 1))) == 34)) else (hearsayref04_escape.j0 k a0 a1 (bt a0 (wrap64 (a1 + 1))) ((bt a0 (wrap64 (a1 + 1))) == 92))) else (none)) else (none))) = some (r1, r2) := h
 clear h
 by_cases c3 : (wrap64 (a1 + 1)) ≥ (a0.size : Int)
 ·rw [if_pos c3] at H
  have c3b0 : decide ((a0.size : Int) ≤ (wrap64 (a1 + 1))) = true := decide_eq_true c3
  clear c3
  simp only [Option.some.injEq, Prod.mk.injEq] at H
  obtain ⟨rfl, rfl⟩ := H
  go_enter Tryd.func74, Tryd.ntmps74
  go_wp2
  repeat (go_quiet (fail); try go_wp2)
  go_ret2
  exact ⟨by first | rfl | (simp; done) | (simp [*]; done) | (simp [i64_w, i32_w, IntKind.wrap_u8]; done) | (simp [*, i64_w, i32_w, IntKind.wrap_u8]; done), by repeat (first | exact Drawn0.refl _ | apply Drawn0.step)⟩
 ·rw [if_neg c3] at H
  have c3b0 : decide ((a0.size : Int) ≤ (wrap64 (a1 + 1))) = false := decide_eq_false c3
  clear c3
  obtain ⟨ji4, hji4⟩ : ∃ j_ : Int, (wrap64 (a1 + 1)) = j_ := ⟨_, rfl⟩
  replace H : (if 0 ≤ (ji4) then (if (ji4) < (a0.size : Int) then (if (bt a0 (ji4)) = 34 then (hearsayref04_escape.j0 k a0 a1 (bt a0 (ji4)) ((bt a0 (ji4)) == 34)) else (hearsayref04_escape.j0 k a0 a1 (bt a0 (ji4)) ((bt a0 (ji4)) == 92))) else (none)) else (none)) = some (r1, r2) := by first | (rw [hji4] at H; exact H) | (simp only [hji4] at H ⊢; exact H)
  (try rw [hji4] at c3b0)
  have hji4w : (IntKind.i64.wrap (a1 + 1)) = ji4 := (i64_w _).trans hji4
  by_cases c5 : 0 ≤ (ji4)
  ·rw [if_pos c5] at H
   have c5b0 : decide (0 ≤ (ji4)) = true := decide_eq_true c5
   clear c5
   by_cases c6 : (ji4) < (a0.size : Int)
   ·rw [if_pos c6] at H
    have c6b0 : decide ((ji4) < (a0.size : Int)) = true := decide_eq_true c6
    clear c6
    have HC8 := Aside0.mk H
    clear H
    have p7 : 0 ≤ ((ji4) : Int) := of_decide_eq_true (by first | (with_reducible assumption) | assumption)
    have q7 : (ji4) < (a0.size : Int) := of_decide_eq_true (by first | (with_reducible assumption) | assumption)
    have hx7 := bt_at a0 (ji4)
    replace p7 := eq_true p7
    replace q7 := eq_true q7
    go_enter Tryd.func74, Tryd.ntmps74
    go_upto_if 15 with (fail)
    repeat (go_quiet (fail); go_upto_if 15 with (fail))
    go_cut [15] (fun v15 wc => ∃ (kq : Nat) (x15_7 : Bool), v15 = .bool x15_7 ∧ Aside0 (hearsayref04_escape.j0 kq a0 a1 (bt a0 (ji4)) x15_7 = some (r1, r2)) ∧ Aside0 (kq ≤ k) ∧ Drawn0 w wc)
    case first =>
     have H := HC8.out
     clear HC8
     by_cases c9 : (bt a0 (ji4)) = 34
     ·rw [if_pos c9] at H
      have c9b0 : ((bt a0 (ji4)) == 34) = true := beq_iff_eq.mpr c9
      have c9b1 : ((bt a0 (ji4)) != 34) = false := bne_eq_false_iff_eq.mpr c9
      clear c9
      (first | rw [c9b0] | (simp only [i64_w, i32_w]; rw [c9b0]) | skip)
      have H' := Aside0.mk H
      clear H
      go_wp2
      repeat (go_quiet (fail); try go_wp2)
      go_meet
      case rel => exact ⟨_, (((bt a0 (ji4)) == 34)), (by first | rfl | (simp; done) | (simp only [← hji4] <;> (first | rfl | (simp; done) | (simp [*]; done))) | (simp [*]; done) | (simp [i64_w, i32_w, IntKind.wrap_u8]; done) | (simp [*, i64_w, i32_w, IntKind.wrap_u8]; done)), H', ⟨by first | omega | exact Nat.le_refl _⟩, by repeat (first | exact Drawn0.refl _ | apply Drawn0.step)⟩
     ·rw [if_neg c9] at H
      have c9b0 : ((bt a0 (ji4)) == 34) = false := beq_eq_false_iff_ne.mpr c9
      have c9b1 : ((bt a0 (ji4)) != 34) = true := bne_iff_ne.mpr c9
      (first | rw [c9b0] | (simp only [i64_w, i32_w]; rw [c9b0]) | skip)
      have H' := Aside0.mk H
      clear H
      go_wp2
      repeat (go_quiet (fail); try go_wp2)
      go_meet
      case rel => exact ⟨_, (((bt a0 (ji4)) == 92)), (by first | rfl | (simp; done) | (simp only [← hji4] <;> (first | rfl | (simp; done) | (simp [*]; done))) | (simp [*]; done) | (simp [i64_w, i32_w, IntKind.wrap_u8]; done) | (simp [*, i64_w, i32_w, IntKind.wrap_u8]; done)), H', ⟨by first | omega | exact Nat.le_refl _⟩, by repeat (first | exact Drawn0.refl _ | apply Drawn0.step)⟩
    case rest =>
     clear HC8
     try clear p2
     try clear c3
     try clear c3b0
     try clear c5
     try clear c5b0
     try clear c6
     try clear c6b0
     try clear p6
     try clear c7
     try clear p7
     try clear q7
     try clear hx7
     try clear c9
     try clear c9b0
     try clear c9b1
     try clear p7
     try clear q7
     obtain ⟨kq, x15_7, rfl, HA, HJ7, ⟨mc7, rfl⟩⟩ := hcut
     cases kq with
     | zero => exact absurd HA.out (by simp [hearsayref04_escape.j0])
     | succ kj7 =>
      have H := HA.out
      clear HA
      simp only [hearsayref04_escape.j0] at H
      by_cases c10 : x15_7 = true
      ·subst c10
       have H1 : (if 0 ≤ (wrap64 (a1 + 1)) then (if (wrap64 (a1 + 1)) < (a0.size : Int) then (some (bt a0 (wrap64 (a1 + 1)), 2)) else (none)) else (none)) = some (r1, r2) := by rw [if_pos rfl] at H; exact H
       clear H
       have H := H1
       clear H1
       replace H : (if 0 ≤ (ji4) then (if (ji4) < (a0.size : Int) then (some (bt a0 (ji4), 2)) else (none)) else (none)) = some (r1, r2) := by first | (rw [hji4] at H; exact H) | (simp only [hji4] at H ⊢; exact H)
       (try rw [hji4] at c3b0)
       by_cases c11 : 0 ≤ (ji4)
       ·rw [if_pos c11] at H
        have c11b0 : decide (0 ≤ (ji4)) = true := decide_eq_true c11
        clear c11
        by_cases c12 : (ji4) < (a0.size : Int)
        ·rw [if_pos c12] at H
         have c12b0 : decide ((ji4) < (a0.size : Int)) = true := decide_eq_true c12
         clear c12
         simp only [Option.some.injEq, Prod.mk.injEq] at H
         obtain ⟨rfl, rfl⟩ := H
         have p13 : 0 ≤ ((ji4) : Int) := of_decide_eq_true (by first | (with_reducible assumption) | assumption)
         have q13 : (ji4) < (a0.size : Int) := of_decide_eq_true (by first | (with_reducible assumption) | assumption)
         have hx13 := bt_at a0 (ji4)
         replace p13 := eq_true p13
         replace q13 := eq_true q13
         go_wp2
         repeat (go_quiet (fail); try go_wp2)
         go_ret2
         exact ⟨by first | rfl | (simp; done) | (simp only [← hji4, ← hji4] <;> (first | rfl | (simp; done) | (simp [*]; done))) | (simp [*]; done) | (simp [i64_w, i32_w, IntKind.wrap_u8]; done) | (simp [*, i64_w, i32_w, IntKind.wrap_u8]; done), by repeat (first | exact Drawn0.refl _ | apply Drawn0.step)⟩
        ·rw [if_neg c12] at H
         exact absurd H (by simp)
       ·rw [if_neg c11] at H
        exact absurd H (by simp)
      ·replace c10 := Bool.eq_false_iff.mpr c10
       subst c10
       have H1 : (if (bt a0 (ji4)) = 110 then (some (10, 2)) else (if (bt a0 (ji4)) = 116 then (some (9, 2)) else (if (bt a0 (ji4)) = 120 then (if (wrap64 (a1 + 3)) < (a0.size : Int) then (if 0 ≤ (wrap64 (a1 + 2)) then (if (wrap64 (a1 + 2)) < (a0.size : Int) then ((hearsayref04_hex.f kj7 (bt a0 (wrap64 (a1 + 2)))).bind fun t231 => (if t231 ≥ 0 then (if 0 ≤ (wrap64 (a1 + 3)) then ((hearsayref04_hex.f kj7 (bt a0 (wrap64 (a1 + 3)))).bind fun t232 => (hearsayref04_escape.j1 kj7 a0 a1 (decide (t232 ≥ 0)))) else (none)) else (hearsayref04_escape.j1 kj7 a0 a1 false))) else (none)) else (none)) else (hearsayref04_escape.j1 kj7 a0 a1 false)) else (some (0, 0))))) = some (r1, r2) := by rw [if_neg (show ¬ (false = true) by decide)] at H; exact H
       clear H
       have H := H1
       clear H1
       by_cases c14 : (bt a0 (ji4)) = 110
       ·rw [if_pos c14] at H
        have c14b0 : ((bt a0 (ji4)) == 110) = true := beq_iff_eq.mpr c14
        have c14b1 : ((bt a0 (ji4)) != 110) = false := bne_eq_false_iff_eq.mpr c14
        clear c14
        simp only [Option.some.injEq, Prod.mk.injEq] at H
        obtain ⟨rfl, rfl⟩ := H
        go_wp2
        repeat (go_quiet (fail); try go_wp2)
        go_ret2
        exact ⟨by first | rfl | (simp; done) | (simp only [← hji4] <;> (first | rfl | (simp; done) | (simp [*]; done))) | (simp [*]; done) | (simp [i64_w, i32_w, IntKind.wrap_u8]; done) | (simp [*, i64_w, i32_w, IntKind.wrap_u8]; done), by repeat (first | exact Drawn0.refl _ | apply Drawn0.step)⟩
       ·rw [if_neg c14] at H
        have c14b0 : ((bt a0 (ji4)) == 110) = false := beq_eq_false_iff_ne.mpr c14
        have c14b1 : ((bt a0 (ji4)) != 110) = true := bne_iff_ne.mpr c14
        by_cases c15 : (bt a0 (ji4)) = 116
        ·rw [if_pos c15] at H
         have c15b0 : ((bt a0 (ji4)) == 116) = true := beq_iff_eq.mpr c15
         have c15b1 : ((bt a0 (ji4)) != 116) = false := bne_eq_false_iff_eq.mpr c15
         clear c15
         simp only [Option.some.injEq, Prod.mk.injEq] at H
         obtain ⟨rfl, rfl⟩ := H
         go_wp2
         repeat (go_quiet (fail); try go_wp2)
         go_ret2
         exact ⟨by first | rfl | (simp; done) | (simp only [← hji4] <;> (first | rfl | (simp; done) | (simp [*]; done))) | (simp [*]; done) | (simp [i64_w, i32_w, IntKind.wrap_u8]; done) | (simp [*, i64_w, i32_w, IntKind.wrap_u8]; done), by repeat (first | exact Drawn0.refl _ | apply Drawn0.step)⟩
        ·rw [if_neg c15] at H
         have c15b0 : ((bt a0 (ji4)) == 116) = false := beq_eq_false_iff_ne.mpr c15
         have c15b1 : ((bt a0 (ji4)) != 116) = true := bne_iff_ne.mpr c15
         by_cases c16 : (bt a0 (ji4)) = 120
         ·rw [if_pos c16] at H
          have c16b0 : ((bt a0 (ji4)) == 120) = true := beq_iff_eq.mpr c16
          have c16b1 : ((bt a0 (ji4)) != 120) = false := bne_eq_false_iff_eq.mpr c16
          clear c16
          have HC17 := Aside0.mk H
          clear H
          go_upto_region 12 with (fail)
          repeat (go_quiet (fail); go_upto_region 12 with (fail))
          go_cut [48] (fun v48 wc => ∃ (kq : Nat) (x48_16 : Bool), v48 = .bool x48_16 ∧ Aside0 (hearsayref04_escape.j1 kq a0 a1 x48_16 = some (r1, r2)) ∧ Aside0 (kq ≤ kj7) ∧ Drawn0 w wc)
          case first =>
           have H := HC17.out
           clear HC17
           by_cases c18 : (wrap64 (a1 + 3)) < (a0.size : Int)
           ·rw [if_pos c18] at H
            have c18b0 : decide ((wrap64 (a1 + 3)) < (a0.size : Int)) = true := decide_eq_true c18
            clear c18
            (first | rw [c18b0] | (simp only [i64_w, i32_w]; rw [c18b0]) | skip)
            obtain ⟨ji19, hji19⟩ : ∃ j_ : Int, (wrap64 (a1 + 2)) = j_ := ⟨_, rfl⟩
            replace H : (if 0 ≤ (ji19) then (if (ji19) < (a0.size : Int) then ((hearsayref04_hex.f kj7 (bt a0 (ji19))).bind fun t231 => (if t231 ≥ 0 then (if 0 ≤ (wrap64 (a1 + 3)) then ((hearsayref04_hex.f kj7 (bt a0 (wrap64 (a1 + 3)))).bind fun t232 => (hearsayref04_escape.j1 kj7 a0 a1 (decide (t232 ≥ 0)))) else (none)) else (hearsayref04_escape.j1 kj7 a0 a1 false))) else (none)) else (none)) = some (r1, r2) := by first | (rw [hji19] at H; exact H) | (simp only [hji19] at H ⊢; exact H)
            have hji19w : (IntKind.i64.wrap (a1 + 2)) = ji19 := (i64_w _).trans hji19
            by_cases c20 : 0 ≤ (ji19)
            ·rw [if_pos c20] at H
             have c20b0 : decide (0 ≤ (ji19)) = true := decide_eq_true c20
             clear c20
             by_cases c21 : (ji19) < (a0.size : Int)
             ·rw [if_pos c21] at H
              have c21b0 : decide ((ji19) < (a0.size : Int)) = true := decide_eq_true c21
              clear c21
              replace H := Option.bind_eq_some_iff.mp H
              obtain ⟨t231, A230, H⟩ := H
              replace H : (if t231 ≥ 0 then (if 0 ≤ (wrap64 (a1 + 3)) then ((hearsayref04_hex.f kj7 (bt a0 (wrap64 (a1 + 3)))).bind fun t232 => (hearsayref04_escape.j1 kj7 a0 a1 (decide (t232 ≥ 0)))) else (none)) else (hearsayref04_escape.j1 kj7 a0 a1 false)) = some (r1, r2) := H
              have A23 := Aside0.mk A230
              clear A230
              by_cases c24 : t231 ≥ 0
              ·rw [if_pos c24] at H
               have c24b0 : decide (0 ≤ t231) = true := decide_eq_true c24
               clear c24
               obtain ⟨ji25, hji25⟩ : ∃ j_ : Int, (wrap64 (a1 + 3)) = j_ := ⟨_, rfl⟩
               replace H : (if 0 ≤ (ji25) then ((hearsayref04_hex.f kj7 (bt a0 (ji25))).bind fun t232 => (hearsayref04_escape.j1 kj7 a0 a1 (decide (t232 ≥ 0)))) else (none)) = some (r1, r2) := by first | (rw [hji25] at H; exact H) | (simp only [hji25] at H ⊢; exact H)
               (try rw [hji25] at c18b0)
               (try rw [hji25] at A23)
               have hji25w : (IntKind.i64.wrap (a1 + 3)) = ji25 := (i64_w _).trans hji25
               by_cases c26 : 0 ≤ (ji25)
               ·rw [if_pos c26] at H
                have c26b0 : decide (0 ≤ (ji25)) = true := decide_eq_true c26
                clear c26
                replace H := Option.bind_eq_some_iff.mp H
                obtain ⟨t232, A280, H⟩ := H
                replace H : (hearsayref04_escape.j1 kj7 a0 a1 (decide (t232 ≥ 0))) = some (r1, r2) := H
                have A28 := Aside0.mk A280
                clear A280
                have H' := Aside0.mk H
                clear H
                have p22 : 0 ≤ ((ji19) : Int) := of_decide_eq_true (by first | (with_reducible assumption) | assumption)
                have q22 : (ji19) < (a0.size : Int) := of_decide_eq_true (by first | (with_reducible assumption) | assumption)
                have hx22 := bt_at a0 (ji19)
                replace p22 := eq_true p22
                replace q22 := eq_true q22
                go_wp2_with (first | (go_at_call 85; (with_reducible refine (hearsayref04_hex.calls kj7 (bt a0 (ji19)) t231 _ A23.out).mono ?_); rintro e w' ⟨rfl, ⟨nd, rfl⟩⟩; (try first | exact ⟨rfl, _, World.drewN_drewN _ _ _⟩ | exact ⟨rfl, _, Eq.trans (World.drewN_drewN _ _ _) (congrArg (World.drewN _) (Nat.add_assoc _ _ _))⟩); have p27 : 0 ≤ ((ji25) : Int) := of_decide_eq_true (by first | (with_reducible assumption) | assumption); have q27 : (ji25) < (a0.size : Int) := of_decide_eq_true (by first | (with_reducible assumption) | assumption); have hx27 := bt_at a0 (ji25); replace p27 := eq_true p27; replace q27 := eq_true q27) | (go_at_call 85; (with_reducible refine (hearsayref04_hex.calls kj7 (bt a0 (ji25)) t232 _ A28.out).mono ?_); rintro e w' ⟨rfl, ⟨nd, rfl⟩⟩; (try first | exact ⟨rfl, _, World.drewN_drewN _ _ _⟩ | exact ⟨rfl, _, Eq.trans (World.drewN_drewN _ _ _) (congrArg (World.drewN _) (Nat.add_assoc _ _ _))⟩)))
                repeat (go_quiet (first | (go_at_call 85; (with_reducible refine (hearsayref04_hex.calls kj7 (bt a0 (ji19)) t231 _ A23.out).mono ?_); rintro e w' ⟨rfl, ⟨nd, rfl⟩⟩; (try first | exact ⟨rfl, _, World.drewN_drewN _ _ _⟩ | exact ⟨rfl, _, Eq.trans (World.drewN_drewN _ _ _) (congrArg (World.drewN _) (Nat.add_assoc _ _ _))⟩); have p27 : 0 ≤ ((ji25) : Int) := of_decide_eq_true (by first | (with_reducible assumption) | assumption); have q27 : (ji25) < (a0.size : Int) := of_decide_eq_true (by first | (with_reducible assumption) | assumption); have hx27 := bt_at a0 (ji25); replace p27 := eq_true p27; replace q27 := eq_true q27) | (go_at_call 85; (with_reducible refine (hearsayref04_hex.calls kj7 (bt a0 (ji25)) t232 _ A28.out).mono ?_); rintro e w' ⟨rfl, ⟨nd, rfl⟩⟩; (try first | exact ⟨rfl, _, World.drewN_drewN _ _ _⟩ | exact ⟨rfl, _, Eq.trans (World.drewN_drewN _ _ _) (congrArg (World.drewN _) (Nat.add_assoc _ _ _))⟩))); try go_wp2_with (first | (go_at_call 85; (with_reducible refine (hearsayref04_hex.calls kj7 (bt a0 (ji19)) t231 _ A23.out).mono ?_); rintro e w' ⟨rfl, ⟨nd, rfl⟩⟩; (try first | exact ⟨rfl, _, World.drewN_drewN _ _ _⟩ | exact ⟨rfl, _, Eq.trans (World.drewN_drewN _ _ _) (congrArg (World.drewN _) (Nat.add_assoc _ _ _))⟩); have p27 : 0 ≤ ((ji25) : Int) := of_decide_eq_true (by first | (with_reducible assumption) | assumption); have q27 : (ji25) < (a0.size : Int) := of_decide_eq_true (by first | (with_reducible assumption) | assumption); have hx27 := bt_at a0 (ji25); replace p27 := eq_true p27; replace q27 := eq_true q27) | (go_at_call 85; (with_reducible refine (hearsayref04_hex.calls kj7 (bt a0 (ji25)) t232 _ A28.out).mono ?_); rintro e w' ⟨rfl, ⟨nd, rfl⟩⟩; (try first | exact ⟨rfl, _, World.drewN_drewN _ _ _⟩ | exact ⟨rfl, _, Eq.trans (World.drewN_drewN _ _ _) (congrArg (World.drewN _) (Nat.add_assoc _ _ _))⟩))))
                go_meet
                case rel => exact ⟨_, (decide (t232 ≥ 0)), eq_, H', ⟨by have := HJ7.out; first | omega | exact Nat.le_refl _⟩, by repeat (first | exact Drawn0.refl _ | apply Drawn0.step)⟩
               ·rw [if_neg c26] at H
                exact absurd H (by simp)
              ·rw [if_neg c24] at H
               have c24b0 : decide (0 ≤ t231) = false := decide_eq_false c24
               clear c24
               have H' := Aside0.mk H
               clear H
               have p22 : 0 ≤ ((ji19) : Int) := of_decide_eq_true (by first | (with_reducible assumption) | assumption)
               have q22 : (ji19) < (a0.size : Int) := of_decide_eq_true (by first | (with_reducible assumption) | assumption)
               have hx22 := bt_at a0 (ji19)
               replace p22 := eq_true p22
               replace q22 := eq_true q22
               go_wp2_with (first | (go_at_call 85; (with_reducible refine (hearsayref04_hex.calls kj7 (bt a0 (ji19)) t231 _ A23.out).mono ?_); rintro e w' ⟨rfl, ⟨nd, rfl⟩⟩; (try first | exact ⟨rfl, _, World.drewN_drewN _ _ _⟩ | exact ⟨rfl, _, Eq.trans (World.drewN_drewN _ _ _) (congrArg (World.drewN _) (Nat.add_assoc _ _ _))⟩)))
               repeat (go_quiet (first | (go_at_call 85; (with_reducible refine (hearsayref04_hex.calls kj7 (bt a0 (ji19)) t231 _ A23.out).mono ?_); rintro e w' ⟨rfl, ⟨nd, rfl⟩⟩; (try first | exact ⟨rfl, _, World.drewN_drewN _ _ _⟩ | exact ⟨rfl, _, Eq.trans (World.drewN_drewN _ _ _) (congrArg (World.drewN _) (Nat.add_assoc _ _ _))⟩))); try go_wp2_with (first | (go_at_call 85; (with_reducible refine (hearsayref04_hex.calls kj7 (bt a0 (ji19)) t231 _ A23.out).mono ?_); rintro e w' ⟨rfl, ⟨nd, rfl⟩⟩; (try first | exact ⟨rfl, _, World.drewN_drewN _ _ _⟩ | exact ⟨rfl, _, Eq.trans (World.drewN_drewN _ _ _) (congrArg (World.drewN _) (Nat.add_assoc _ _ _))⟩))))
               go_meet
               case rel => exact ⟨_, (false), eq_, H', ⟨by have := HJ7.out; first | omega | exact Nat.le_refl _⟩, by repeat (first | exact Drawn0.refl _ | apply Drawn0.step)⟩
             ·rw [if_neg c21] at H
              exact absurd H (by simp)
            ·rw [if_neg c20] at H
             exact absurd H (by simp)
           ·rw [if_neg c18] at H
            have c18b0 : decide ((wrap64 (a1 + 3)) < (a0.size : Int)) = false := decide_eq_false c18
            clear c18
            (first | rw [c18b0] | (simp only [i64_w, i32_w]; rw [c18b0]) | skip)
            have H' := Aside0.mk H
            clear H
            go_wp2
            repeat (go_quiet (fail); try go_wp2)
            go_meet
            case rel => exact ⟨_, (false), eq_, H', ⟨by have := HJ7.out; first | omega | exact Nat.le_refl _⟩, by repeat (first | exact Drawn0.refl _ | apply Drawn0.step)⟩
          case rest =>
           clear HC17
           try clear c1
           try clear p1
           try clear q1
           try clear hx1
           try clear c2
           try clear p2
           try clear q2
           try clear hx2
           try clear c3
           try clear c3b0
           try clear c5
           try clear c5b0
           try clear c6
           try clear c6b0
           try clear p6
           try clear c7
           try clear p7
           try clear q7
           try clear hx7
           try clear c9
           try clear c9b0
           try clear c9b1
           try clear c10
           try clear c11
           try clear c11b0
           try clear c12
           try clear c12b0
           try clear p13
           try clear q13
           try clear hx13
           try clear c14
           try clear c14b0
           try clear c14b1
           try clear c15
           try clear c15b0
           try clear c15b1
           try clear c16
           try clear c16b0
           try clear c16b1
           try clear c18
           try clear c18b0
           try clear c20
           try clear c20b0
           try clear c21
           try clear c21b0
           try clear p22
           try clear q22
           try clear hx22
           try clear c24
           try clear c24b0
           try clear c26
           try clear c26b0
           try clear p27
           try clear q27
           try clear hx27
           try clear p13
           try clear p2
           try clear p22
           try clear p27
           try clear p6
           try clear p7
           try clear q13
           try clear q22
           try clear q27
           try clear q7
           obtain ⟨kq, x48_16, rfl, HA, HJ16, ⟨mc16, rfl⟩⟩ := hcut
           cases kq with
           | zero => exact absurd HA.out (by simp [hearsayref04_escape.j1])
           | succ kj16 =>
            have H := HA.out
            clear HA
            simp only [hearsayref04_escape.j1] at H
            by_cases c29 : x48_16 = true
            ·subst c29
             have H1 : (if 0 ≤ (wrap64 (a1 + 2)) then (if (wrap64 (a1 + 2)) < (a0.size : Int) then ((hearsayref04_hex.f kj16 (bt a0 (wrap64 (a1 + 2)))).bind fun t233 => (if 0 ≤ (wrap64 (a1 + 3)) then (if (wrap64 (a1 + 3)) < (a0.size : Int) then ((hearsayref04_hex.f kj16 (bt a0 (wrap64 (a1 + 3)))).bind fun t234 => (some ((wrap64 ((wrap64 (16 * t233)) + t234)) % 256, 4))) else (none)) else (none))) else (none)) else (none)) = some (r1, r2) := by rw [if_pos rfl] at H; exact H
             clear H
             have H := H1
             clear H1
             obtain ⟨ji30, hji30⟩ : ∃ j_ : Int, (wrap64 (a1 + 2)) = j_ := ⟨_, rfl⟩
             replace H : (if 0 ≤ (ji30) then (if (ji30) < (a0.size : Int) then ((hearsayref04_hex.f kj16 (bt a0 (ji30))).bind fun t233 => (if 0 ≤ (wrap64 (a1 + 3)) then (if (wrap64 (a1 + 3)) < (a0.size : Int) then ((hearsayref04_hex.f kj16 (bt a0 (wrap64 (a1 + 3)))).bind fun t234 => (some ((wrap64 ((wrap64 (16 * t233)) + t234)) % 256, 4))) else (none)) else (none))) else (none)) else (none)) = some (r1, r2) := by first | (rw [hji30] at H; exact H) | (simp only [hji30] at H ⊢; exact H)
             have hji30w : (IntKind.i64.wrap (a1 + 2)) = ji30 := (i64_w _).trans hji30
             by_cases c31 : 0 ≤ (ji30)
             ·rw [if_pos c31] at H
              have c31b0 : decide (0 ≤ (ji30)) = true := decide_eq_true c31
              clear c31
              by_cases c32 : (ji30) < (a0.size : Int)
              ·rw [if_pos c32] at H
               have c32b0 : decide ((ji30) < (a0.size : Int)) = true := decide_eq_true c32
               clear c32
               replace H := Option.bind_eq_some_iff.mp H
               obtain ⟨t233, A340, H⟩ := H
               replace H : (if 0 ≤ (wrap64 (a1 + 3)) then (if (wrap64 (a1 + 3)) < (a0.size : Int) then ((hearsayref04_hex.f kj16 (bt a0 (wrap64 (a1 + 3)))).bind fun t234 => (some ((wrap64 ((wrap64 (16 * t233)) + t234)) % 256, 4))) else (none)) else (none)) = some (r1, r2) := H
               have A34 := Aside0.mk A340
               clear A340
               obtain ⟨ji35, hji35⟩ : ∃ j_ : Int, (wrap64 (a1 + 3)) = j_ := ⟨_, rfl⟩
               replace H : (if 0 ≤ (ji35) then (if (ji35) < (a0.size : Int) then ((hearsayref04_hex.f kj16 (bt a0 (ji35))).bind fun t234 => (some ((wrap64 ((wrap64 (16 * t233)) + t234)) % 256, 4))) else (none)) else (none)) = some (r1, r2) := by first | (rw [hji35] at H; exact H) | (simp only [hji35] at H ⊢; exact H)
               (try rw [hji35] at A34)
               have hji35w : (IntKind.i64.wrap (a1 + 3)) = ji35 := (i64_w _).trans hji35
               by_cases c36 : 0 ≤ (ji35)
               ·rw [if_pos c36] at H
                have c36b0 : decide (0 ≤ (ji35)) = true := decide_eq_true c36
                clear c36
                by_cases c37 : (ji35) < (a0.size : Int)
                ·rw [if_pos c37] at H
                 have c37b0 : decide ((ji35) < (a0.size : Int)) = true := decide_eq_true c37
                 clear c37
                 replace H := Option.bind_eq_some_iff.mp H
                 obtain ⟨t234, A390, H⟩ := H
                 replace H : (some ((wrap64 ((wrap64 (16 * t233)) + t234)) % 256, 4)) = some (r1, r2) := H
                 have A39 := Aside0.mk A390
                 clear A390
                 simp only [Option.some.injEq, Prod.mk.injEq] at H
                 obtain ⟨rfl, rfl⟩ := H
                 have p33 : 0 ≤ ((ji30) : Int) := of_decide_eq_true (by first | (with_reducible assumption) | assumption)
                 have q33 : (ji30) < (a0.size : Int) := of_decide_eq_true (by first | (with_reducible assumption) | assumption)
                 have hx33 := bt_at a0 (ji30)
                 replace p33 := eq_true p33
                 replace q33 := eq_true q33
                 go_wp2_with (first | (go_at_call 85; (with_reducible refine (hearsayref04_hex.calls kj16 (bt a0 (ji30)) t233 _ A34.out).mono ?_); rintro e w' ⟨rfl, ⟨nd, rfl⟩⟩; (try first | exact ⟨rfl, _, World.drewN_drewN _ _ _⟩ | exact ⟨rfl, _, Eq.trans (World.drewN_drewN _ _ _) (congrArg (World.drewN _) (Nat.add_assoc _ _ _))⟩); have p38 : 0 ≤ ((ji35) : Int) := of_decide_eq_true (by first | (with_reducible assumption) | assumption); have q38 : (ji35) < (a0.size : Int) := of_decide_eq_true (by first | (with_reducible assumption) | assumption); have hx38 := bt_at a0 (ji35); replace p38 := eq_true p38; replace q38 := eq_true q38) | (go_at_call 85; (with_reducible refine (hearsayref04_hex.calls kj16 (bt a0 (ji35)) t234 _ A39.out).mono ?_); rintro e w' ⟨rfl, ⟨nd, rfl⟩⟩; (try first | exact ⟨rfl, _, World.drewN_drewN _ _ _⟩ | exact ⟨rfl, _, Eq.trans (World.drewN_drewN _ _ _) (congrArg (World.drewN _) (Nat.add_assoc _ _ _))⟩)))
                 repeat (go_quiet (first | (go_at_call 85; (with_reducible refine (hearsayref04_hex.calls kj16 (bt a0 (ji30)) t233 _ A34.out).mono ?_); rintro e w' ⟨rfl, ⟨nd, rfl⟩⟩; (try first | exact ⟨rfl, _, World.drewN_drewN _ _ _⟩ | exact ⟨rfl, _, Eq.trans (World.drewN_drewN _ _ _) (congrArg (World.drewN _) (Nat.add_assoc _ _ _))⟩); have p38 : 0 ≤ ((ji35) : Int) := of_decide_eq_true (by first | (with_reducible assumption) | assumption); have q38 : (ji35) < (a0.size : Int) := of_decide_eq_true (by first | (with_reducible assumption) | assumption); have hx38 := bt_at a0 (ji35); replace p38 := eq_true p38; replace q38 := eq_true q38) | (go_at_call 85; (with_reducible refine (hearsayref04_hex.calls kj16 (bt a0 (ji35)) t234 _ A39.out).mono ?_); rintro e w' ⟨rfl, ⟨nd, rfl⟩⟩; (try first | exact ⟨rfl, _, World.drewN_drewN _ _ _⟩ | exact ⟨rfl, _, Eq.trans (World.drewN_drewN _ _ _) (congrArg (World.drewN _) (Nat.add_assoc _ _ _))⟩))); try go_wp2_with (first | (go_at_call 85; (with_reducible refine (hearsayref04_hex.calls kj16 (bt a0 (ji30)) t233 _ A34.out).mono ?_); rintro e w' ⟨rfl, ⟨nd, rfl⟩⟩; (try first | exact ⟨rfl, _, World.drewN_drewN _ _ _⟩ | exact ⟨rfl, _, Eq.trans (World.drewN_drewN _ _ _) (congrArg (World.drewN _) (Nat.add_assoc _ _ _))⟩); have p38 : 0 ≤ ((ji35) : Int) := of_decide_eq_true (by first | (with_reducible assumption) | assumption); have q38 : (ji35) < (a0.size : Int) := of_decide_eq_true (by first | (with_reducible assumption) | assumption); have hx38 := bt_at a0 (ji35); replace p38 := eq_true p38; replace q38 := eq_true q38) | (go_at_call 85; (with_reducible refine (hearsayref04_hex.calls kj16 (bt a0 (ji35)) t234 _ A39.out).mono ?_); rintro e w' ⟨rfl, ⟨nd, rfl⟩⟩; (try first | exact ⟨rfl, _, World.drewN_drewN _ _ _⟩ | exact ⟨rfl, _, Eq.trans (World.drewN_drewN _ _ _) (congrArg (World.drewN _) (Nat.add_assoc _ _ _))⟩))))
                 go_ret2
                 exact ⟨by first | rfl | (simp; done) | (simp only [← hji4, ← hji30, ← hji35] <;> (first | rfl | (simp; done) | (simp [*]; done))) | (simp [*]; done) | (simp [i64_w, i32_w, IntKind.wrap_u8]; done) | (simp [*, i64_w, i32_w, IntKind.wrap_u8]; done), by repeat (first | exact Drawn0.refl _ | apply Drawn0.step)⟩
                ·rw [if_neg c37] at H
                 exact absurd H (by simp)
               ·rw [if_neg c36] at H
                exact absurd H (by simp)
              ·rw [if_neg c32] at H
               exact absurd H (by simp)
             ·rw [if_neg c31] at H
              exact absurd H (by simp)
            ·replace c29 := Bool.eq_false_iff.mpr c29
             subst c29
             have H1 : (some (0, 0)) = some (r1, r2) := by rw [if_neg (show ¬ (false = true) by decide)] at H; exact H
             clear H
             have H := H1
             clear H1
             simp only [Option.some.injEq, Prod.mk.injEq] at H
             obtain ⟨rfl, rfl⟩ := H
             go_wp2
             repeat (go_quiet (fail); try go_wp2)
             go_ret2
             exact ⟨by first | rfl | (simp; done) | (simp only [← hji4] <;> (first | rfl | (simp; done) | (simp [*]; done))) | (simp [*]; done) | (simp [i64_w, i32_w, IntKind.wrap_u8]; done) | (simp [*, i64_w, i32_w, IntKind.wrap_u8]; done), by repeat (first | exact Drawn0.refl _ | apply Drawn0.step)⟩
         ·rw [if_neg c16] at H
          have c16b0 : ((bt a0 (ji4)) == 120) = false := beq_eq_false_iff_ne.mpr c16
          have c16b1 : ((bt a0 (ji4)) != 120) = true := bne_iff_ne.mpr c16
          simp only [Option.some.injEq, Prod.mk.injEq] at H
          obtain ⟨rfl, rfl⟩ := H
          go_wp2
          repeat (go_quiet (fail); try go_wp2)
          go_ret2
          exact ⟨by first | rfl | (simp; done) | (simp only [← hji4] <;> (first | rfl | (simp; done) | (simp [*]; done))) | (simp [*]; done) | (simp [i64_w, i32_w, IntKind.wrap_u8]; done) | (simp [*, i64_w, i32_w, IntKind.wrap_u8]; done), by repeat (first | exact Drawn0.refl _ | apply Drawn0.step)⟩
   ·rw [if_neg c6] at H
    exact absurd H (by simp)
  ·rw [if_neg c5] at H
   exact absurd H (by simp)

end Go.Proofs.YtmpaipbpnkfmfaaDoor.P
