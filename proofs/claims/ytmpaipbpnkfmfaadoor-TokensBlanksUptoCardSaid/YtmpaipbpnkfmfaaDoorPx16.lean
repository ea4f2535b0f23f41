/- THE PROGRAM's FUNCTIONS AS PLAIN LEAN FUNCTIONS, and proofs that its calls come to them: written by a program of this claim's own. Conditions: as each theorem states. -/
import Derived.Test.YtmpaipbpnkfmfaaDoorPx0
namespace Go.Proofs.YtmpaipbpnkfmfaaDoor.P
open Go.RowKit Go.Proofs.YtmpaipbpnkfmfaaDoorW.PrintWords Go.Proofs.YtmpaipbpnkfmfaaDoorW.PrintLast Go.Proofs.YtmpaipbpnkfmfaaDoorW.PrintMore
attribute [local go_sem] max2_int min2_int max_two min_two max_three min_three max_four min_four   -- for this text's walks alone
set_option linter.unusedVariables false
set_option linter.unusedSimpArgs false

attribute [local go_sem high] isSome_setCell_
/-! ### hearsaylaw04_fill: function 26 -/
def hearsaylaw04_fill.f (a0 : Int) : Option (ByteArray) := if (Go.bits .and .i64 a0 7) = 1 then (some (⟨#[9]⟩ : ByteArray)) else (if (Go.bits .and .i64 a0 7) = 2 then (some (⟨#[13, 10]⟩ : ByteArray)) else (if (Go.bits .and .i64 a0 7) = 3 then (some (⟨#[32, 37, 32, 40, 32, 34, 32, 115, 97, 121, 115, 10]⟩ : ByteArray)) else (if (Go.bits .and .i64 a0 7) = 4 then (some (⟨#[37, 10]⟩ : ByteArray)) else (if (Go.bits .and .i64 a0 7) = 5 then (some (⟨#[32, 32, 10, 32]⟩ : ByteArray)) else (some (⟨#[32]⟩ : ByteArray))))))
set_option maxHeartbeats 20000000 in
set_option maxRecDepth 100000 in
theorem hearsaylaw04_fill.calls (a0 : Int) (r : ByteArray) (w : World) (h : hearsaylaw04_fill.f a0 = some r) :
    Calls Tryd.prog 26 #[.int .i64 a0] w fun e w' => e = .returned (.string r) ∧ Drawn0 w w' := by
  have H : (if (Go.bits .and .i64 a0 7) = 1 then (some (⟨#[9]⟩ : ByteArray)) else (if (Go.bits .and .i64 a0 7) = 2 then (some (⟨#[13, 10]⟩ : ByteArray)) else (if (Go.bits .and .i64 a0 7) = 3 then (some (⟨#[32, 37, 32, 40, 32, 34, 32, 115, 97, 121, 115, 10]⟩ : ByteArray)) else (if (Go.bits .and .i64 a0 7) = 4 then (some (⟨#[37, 10]⟩ : ByteArray)) else (if (Go.bits .and .i64 a0 7) = 5 then (some (⟨#[32, 32, 10, 32]⟩ : ByteArray)) else (some (⟨#[32]⟩ : ByteArray))))))) = some r := h
  clear h
  by_cases c2 : (Go.bits .and .i64 a0 7) = 1
  · rw [if_pos c2] at H
    have c2b0 : ((Go.bits .and .i64 a0 7) == 1) = true := beq_iff_eq.mpr c2
    have c2b1 : ((Go.bits .and .i64 a0 7) != 1) = false := bne_eq_false_iff_eq.mpr c2
    clear c2
    obtain rfl := Option.some.inj H
    go_enter Tryd.func26, Tryd.ntmps26
    go_wp2
    go_ret
    exact ⟨by first | rfl | (simp; done) | (simp [*]; done) | (simp [i64_w, i32_w, IntKind.wrap_u8]; done) | (simp [*, i64_w, i32_w, IntKind.wrap_u8]; done), by repeat (first | exact Drawn0.refl _ | apply Drawn0.step)⟩
  · rw [if_neg c2] at H
    have c2b0 : ((Go.bits .and .i64 a0 7) == 1) = false := beq_eq_false_iff_ne.mpr c2
    have c2b1 : ((Go.bits .and .i64 a0 7) != 1) = true := bne_iff_ne.mpr c2
    by_cases c3 : (Go.bits .and .i64 a0 7) = 2
    · rw [if_pos c3] at H
      have c3b0 : ((Go.bits .and .i64 a0 7) == 2) = true := beq_iff_eq.mpr c3
      have c3b1 : ((Go.bits .and .i64 a0 7) != 2) = false := bne_eq_false_iff_eq.mpr c3
      clear c3
      obtain rfl := Option.some.inj H
      go_enter Tryd.func26, Tryd.ntmps26
      go_wp2
      go_ret
      exact ⟨by first | rfl | (simp; done) | (simp [*]; done) | (simp [i64_w, i32_w, IntKind.wrap_u8]; done) | (simp [*, i64_w, i32_w, IntKind.wrap_u8]; done), by repeat (first | exact Drawn0.refl _ | apply Drawn0.step)⟩
    · rw [if_neg c3] at H
      have c3b0 : ((Go.bits .and .i64 a0 7) == 2) = false := beq_eq_false_iff_ne.mpr c3
      have c3b1 : ((Go.bits .and .i64 a0 7) != 2) = true := bne_iff_ne.mpr c3
      by_cases c4 : (Go.bits .and .i64 a0 7) = 3
      · rw [if_pos c4] at H
        have c4b0 : ((Go.bits .and .i64 a0 7) == 3) = true := beq_iff_eq.mpr c4
        have c4b1 : ((Go.bits .and .i64 a0 7) != 3) = false := bne_eq_false_iff_eq.mpr c4
        clear c4
        obtain rfl := Option.some.inj H
        go_enter Tryd.func26, Tryd.ntmps26
        go_wp2
        go_ret
        exact ⟨by first | rfl | (simp; done) | (simp [*]; done) | (simp [i64_w, i32_w, IntKind.wrap_u8]; done) | (simp [*, i64_w, i32_w, IntKind.wrap_u8]; done), by repeat (first | exact Drawn0.refl _ | apply Drawn0.step)⟩
      · rw [if_neg c4] at H
        have c4b0 : ((Go.bits .and .i64 a0 7) == 3) = false := beq_eq_false_iff_ne.mpr c4
        have c4b1 : ((Go.bits .and .i64 a0 7) != 3) = true := bne_iff_ne.mpr c4
        by_cases c5 : (Go.bits .and .i64 a0 7) = 4
        · rw [if_pos c5] at H
          have c5b0 : ((Go.bits .and .i64 a0 7) == 4) = true := beq_iff_eq.mpr c5
          have c5b1 : ((Go.bits .and .i64 a0 7) != 4) = false := bne_eq_false_iff_eq.mpr c5
          clear c5
          obtain rfl := Option.some.inj H
          go_enter Tryd.func26, Tryd.ntmps26
          go_wp2
          go_ret
          exact ⟨by first | rfl | (simp; done) | (simp [*]; done) | (simp [i64_w, i32_w, IntKind.wrap_u8]; done) | (simp [*, i64_w, i32_w, IntKind.wrap_u8]; done), by repeat (first | exact Drawn0.refl _ | apply Drawn0.step)⟩
        · rw [if_neg c5] at H
          have c5b0 : ((Go.bits .and .i64 a0 7) == 4) = false := beq_eq_false_iff_ne.mpr c5
          have c5b1 : ((Go.bits .and .i64 a0 7) != 4) = true := bne_iff_ne.mpr c5
          by_cases c6 : (Go.bits .and .i64 a0 7) = 5
          · rw [if_pos c6] at H
            have c6b0 : ((Go.bits .and .i64 a0 7) == 5) = true := beq_iff_eq.mpr c6
            have c6b1 : ((Go.bits .and .i64 a0 7) != 5) = false := bne_eq_false_iff_eq.mpr c6
            clear c6
            obtain rfl := Option.some.inj H
            go_enter Tryd.func26, Tryd.ntmps26
            go_wp2
            go_ret
            exact ⟨by first | rfl | (simp; done) | (simp [*]; done) | (simp [i64_w, i32_w, IntKind.wrap_u8]; done) | (simp [*, i64_w, i32_w, IntKind.wrap_u8]; done), by repeat (first | exact Drawn0.refl _ | apply Drawn0.step)⟩
          · rw [if_neg c6] at H
            have c6b0 : ((Go.bits .and .i64 a0 7) == 5) = false := beq_eq_false_iff_ne.mpr c6
            have c6b1 : ((Go.bits .and .i64 a0 7) != 5) = true := bne_iff_ne.mpr c6
            obtain rfl := Option.some.inj H
            go_enter Tryd.func26, Tryd.ntmps26
            go_wp2
            go_ret
            exact ⟨by first | rfl | (simp; done) | (simp [*]; done) | (simp [i64_w, i32_w, IntKind.wrap_u8]; done) | (simp [*, i64_w, i32_w, IntKind.wrap_u8]; done), by repeat (first | exact Drawn0.refl _ | apply Drawn0.step)⟩

end Go.Proofs.YtmpaipbpnkfmfaaDoor.P
