/-
  GIVEN FUNCTIONS, PROVED BY HAND: number (over the library's ParseInt and FormatInt), sign (over IndexByte), Itoa, spelling. Conditions: as each theorem states.
-/
import Derived.Test.YtmpaipbpnkfmfaaDoorPx0
import Derived.Test.YtmpaipbpnkfmfaaDoorGl
import Derived.Lib.AtoiErrMem
import Derived.Lib.AppendIntMem
import Derived.BigCall
import Derived.Test.YtmpaipbpnkfmfaaDoorTok
import Derived.WalkSpells
namespace Go.Proofs.YtmpaipbpnkfmfaaDoor.P
open Go.RowKit Go.Shelf

def tokens_number.f (a0 : ByteArray) : Option (Int × Bool) :=
  if a0.size ≤ 281474976710656 then
    match Lib.parseIntB 64 a0.data.toList with
    | .ok v => some (v, Lib.itoa v == a0.toList)
    | .range => some (Lib.intSat 64 a0.data.toList, false)
    | _ => some (0, false)
  else none

theorem parse_bd (l : List UInt8) (v : Int) (h : Lib.parseIntB 64 l = .ok v) : -9223372036854775808 ≤ v ∧ v ≤ 9223372036854775807 := by
  unfold Lib.parseIntB at h
  split at h
  · simp at h
  · simp only at h
    split at h
    · simp at h
    · simp at h
    · split at h
      · simp at h
      · split at h
        · simp at h
        · simp only [Lib.NumEnd.ok.injEq] at h
          split at h <;> omega

set_option maxHeartbeats 4000000 in
set_option maxRecDepth 100000 in
theorem tokens_number.calls (a0 : ByteArray) (r1 : Int) (r2 : Bool) (w : World) (hG : Gl w) (h : tokens_number.f a0 = some (r1, r2)) :
    Calls Tryd.prog 52 #[.string a0] w fun e w' => e = .returned (.tuple #[.int .i64 r1, .bool r2]) ∧ Below w.heap.size w w' := by
  unfold tokens_number.f at h
  by_cases hs : a0.size ≤ 281474976710656
  · rw [if_pos hs] at h
    cases hp : Lib.parseIntB 64 a0.data.toList with
    | ok v =>
      rw [hp] at h
      simp only [Option.some.injEq, Prod.mk.injEq] at h
      obtain ⟨rfl, rfl⟩ := h
      have hb := parse_bd _ _ hp
      have HG := Lib.hid hG
      clear hG
      have HP := Lib.hid hp
      clear hp
      go_enter Tryd.func52, Tryd.ntmps52
      go_wp2_with fail
      refine (Tryd.strconv_ParseInt_10_at64_ok a0 (by omega) v HP.out _).mono ?_
      rintro e w1 ⟨rfl, hw⟩
      have HB : Hid (Below w.heap.size w w1) := by
        rcases hw with rfl | ⟨t, rfl⟩
        · exact Lib.hid (Below.refl _ _)
        · exact Lib.hid (Lib.bytesWorld_below _ _ _)
      clear hw
      have HT := Lib.hid (HG.out.below HB.out).pow
      go_wp2_with fail
      refine (Tryd.strconv_FormatInt_10 v (by omega) (by omega) _ HT.out).mono ?_
      rintro e w2 ⟨rfl, k2, os2, rfl⟩
      have HB2 := Lib.hid (Below.trans HB.out ((Lib.below_grow w1.heap.size w1 (Nat.le_refl _) k2 os2).mono HB.out.size))
      go_wp2
      go_ret2
      exact ⟨rfl, HB2.out⟩
    | range =>
      rw [hp] at h
      simp only [Option.some.injEq, Prod.mk.injEq] at h
      obtain ⟨rfl, rfl⟩ := h
      obtain ⟨t, p, hv⟩ := hG.er
      have HV := Lib.hid hv
      have HP := Lib.hid hp
      clear hp hG hv
      go_enter Tryd.func52, Tryd.ntmps52
      go_wp2_with fail
      refine (Tryd.strconv_ParseInt_10_at64_range_var a0 hs HP.out t p _ HV.out).mono ?_
      rintro e w1 ⟨N, rfl, h1, h2, hb⟩
      have HB := Lib.hid hb
      clear h1 h2 hb
      go_wp2
      go_ret2
      exact ⟨rfl, HB.out⟩
    | _ =>
      rw [hp] at h
      simp only [Option.some.injEq, Prod.mk.injEq] at h
      obtain ⟨rfl, rfl⟩ := h
      obtain ⟨t, p, hv⟩ := hG.es
      have HV := Lib.hid hv
      have HP := Lib.hid hp
      clear hp hG hv
      go_enter Tryd.func52, Tryd.ntmps52
      go_wp2_with fail
      refine (Any.strconv_ParseInt_10_at64_syntax_var Tryd.laysC174 a0 hs HP.out t p _ HV.out).mono ?_
      rintro e w1 ⟨N, rfl, h1, h2, hb⟩
      have HB := Lib.hid hb
      clear h1 h2 hb
      go_wp2
      go_ret2
      exact ⟨rfl, HB.out⟩
  · rw [if_neg hs] at h; cases h


def strconv_Itoa.f (a0 : Int) : Option ByteArray := if -9223372036854775808 ≤ a0 ∧ a0 ≤ 9223372036854775807 then some ⟨(Lib.itoa a0).toArray⟩ else none
theorem strconv_Itoa.calls (a0 : Int) (r : ByteArray) (w : World) (hG : Gl w) (h : strconv_Itoa.f a0 = some r) :
    Calls Tryd.prog 40 #[.int .i64 a0] w fun e w' => e = .returned (.string r) ∧ Below w.heap.size w w' := by
  unfold strconv_Itoa.f at h
  by_cases hs : -9223372036854775808 ≤ a0 ∧ a0 ≤ 9223372036854775807
  · rw [if_pos hs] at h
    obtain rfl := Option.some.inj h
    refine (Tryd.strconv_Itoa a0 hs.1 hs.2 w hG.pow).mono ?_
    rintro e w' ⟨rfl, k, os, rfl⟩
    exact ⟨rfl, Lib.below_grow _ w (Nat.le_refl _) k os⟩
  · rw [if_neg hs] at h; cases h

def tokens_sign.f (a0 : Int) : Option Int := if 0 ≤ a0 ∧ a0 ≤ 255 then some (Tk.sign1 a0) else none
theorem sign_index (c : Int) (h : 0 ≤ c ∧ c ≤ 255) : Lib.indexByte [40, 41, 44, 59, 46] c.toNat.toUInt8 = if c = 40 then 0 else if c = 41 then 1 else if c = 44 then 2 else if c = 59 then 3 else if c = 46 then 4 else -1 := by
  obtain ⟨n, rfl⟩ := Int.eq_ofNat_of_zero_le h.1
  have hn : n < 256 := by omega
  have key : ∀ m : Fin 256, Lib.indexByte [40, 41, 44, 59, 46] ((m.val : Int)).toNat.toUInt8 = if (m.val : Int) = 40 then 0 else if (m.val : Int) = 41 then 1 else if (m.val : Int) = 44 then 2 else if (m.val : Int) = 59 then 3 else if (m.val : Int) = 46 then 4 else -1 := by decide +kernel
  exact key ⟨n, hn⟩
set_option maxHeartbeats 4000000 in
theorem tokens_sign.calls (a0 : Int) (r : Int) (w : World) (h : tokens_sign.f a0 = some r) :
    Calls Tryd.prog 73 #[.int .u8 a0] w fun e w' => e = .returned (.int .i64 r) ∧ Below w.heap.size w w' := by
  unfold tokens_sign.f at h
  by_cases hs : 0 ≤ a0 ∧ a0 ≤ 255
  · rw [if_pos hs] at h
    obtain rfl := Option.some.inj h
    have hi := sign_index a0 hs
    have hc : ∀ V, Lib.indexByte [40, 41, 44, 59, 46] a0.toNat.toUInt8 = V → ∀ w, Calls Tryd.prog 84 #[.string (⟨#[40, 41, 44, 59, 46]⟩ : ByteArray), .int .u8 a0] w fun e w' => e = .returned (.int .i64 V) ∧ w' = w :=
      fun V e w => by subst e; exact Tryd.strings_IndexByte _ _ w
    have HC := Lib.hid hc
    clear hc
    unfold Tk.sign1
    by_cases h1 : a0 = 40
    · rw [if_pos h1] at hi ⊢
      have HI := Lib.hid hi
      clear hi h1 hs h
      go_enter Tryd.func73, Tryd.ntmps73
      go_wp2_with (go_at_call 84; refine (HC.out _ HI.out _).mono ?_; rintro e w' ⟨rfl, rfl⟩)
      go_ret
      exact ⟨rfl, Below.refl _ _⟩
    · rw [if_neg h1] at hi ⊢
      by_cases h2 : a0 = 41
      · rw [if_pos h2] at hi ⊢
        have HI := Lib.hid hi
        clear hi h1 h2 hs h
        go_enter Tryd.func73, Tryd.ntmps73
        go_wp2_with (go_at_call 84; refine (HC.out _ HI.out _).mono ?_; rintro e w' ⟨rfl, rfl⟩)
        go_ret
        exact ⟨rfl, Below.refl _ _⟩
      · rw [if_neg h2] at hi ⊢
        by_cases h3 : a0 = 44
        · rw [if_pos h3] at hi ⊢
          have HI := Lib.hid hi
          clear hi h1 h2 h3 hs h
          go_enter Tryd.func73, Tryd.ntmps73
          go_wp2_with (go_at_call 84; refine (HC.out _ HI.out _).mono ?_; rintro e w' ⟨rfl, rfl⟩)
          go_ret
          exact ⟨rfl, Below.refl _ _⟩
        · rw [if_neg h3] at hi ⊢
          by_cases h4 : a0 = 59
          · rw [if_pos h4] at hi ⊢
            have HI := Lib.hid hi
            clear hi h1 h2 h3 h4 hs h
            go_enter Tryd.func73, Tryd.ntmps73
            go_wp2_with (go_at_call 84; refine (HC.out _ HI.out _).mono ?_; rintro e w' ⟨rfl, rfl⟩)
            go_ret
            exact ⟨rfl, Below.refl _ _⟩
          · rw [if_neg h4] at hi ⊢
            by_cases h5 : a0 = 46
            · rw [if_pos h5] at hi ⊢
              have HI := Lib.hid hi
              clear hi h1 h2 h3 h4 h5 hs h
              go_enter Tryd.func73, Tryd.ntmps73
              go_wp2_with (go_at_call 84; refine (HC.out _ HI.out _).mono ?_; rintro e w' ⟨rfl, rfl⟩)
              go_ret
              exact ⟨rfl, Below.refl _ _⟩
            · rw [if_neg h5] at hi ⊢
              have HI := Lib.hid hi
              clear hi h1 h2 h3 h4 h5 hs h
              by_cases h6 : a0 = 63
              · rw [if_pos h6]
                have q6 : (a0 == 63) = true := by simpa using h6
                clear h6
                go_enter Tryd.func73, Tryd.ntmps73
                go_wp2_with (go_at_call 84; refine (HC.out _ HI.out _).mono ?_; rintro e w' ⟨rfl, rfl⟩)
                go_ret
                exact ⟨rfl, Below.refl _ _⟩
              · rw [if_neg h6]
                have q6 : (a0 == 63) = false := by simpa using h6
                clear h6
                by_cases h7 : a0 = 61
                · rw [if_pos h7]
                  have q7 : (a0 == 61) = true := by simpa using h7
                  clear h7
                  go_enter Tryd.func73, Tryd.ntmps73
                  go_wp2_with (go_at_call 84; refine (HC.out _ HI.out _).mono ?_; rintro e w' ⟨rfl, rfl⟩)
                  go_ret
                  exact ⟨rfl, Below.refl _ _⟩
                · rw [if_neg h7]
                  have q7 : (a0 == 61) = false := by simpa using h7
                  clear h7
                  by_cases h8 : a0 = 60
                  · rw [if_pos h8]
                    have q8 : (a0 == 60) = true := by simpa using h8
                    clear h8
                    go_enter Tryd.func73, Tryd.ntmps73
                    go_wp2_with (go_at_call 84; refine (HC.out _ HI.out _).mono ?_; rintro e w' ⟨rfl, rfl⟩)
                    go_ret
                    exact ⟨rfl, Below.refl _ _⟩
                  · rw [if_neg h8]
                    have q8 : (a0 == 60) = false := by simpa using h8
                    clear h8
                    go_enter Tryd.func73, Tryd.ntmps73
                    go_wp2_with (go_at_call 84; refine (HC.out _ HI.out _).mono ?_; rintro e w' ⟨rfl, rfl⟩)
                    go_ret
                    exact ⟨rfl, Below.refl _ _⟩
  · rw [if_neg hs] at h; cases h

def tokens_spelling.f (a0 : Int) : Option ByteArray := some (strOfNums (if 5 ≤ a0 ∧ a0 ≤ 16 then Tk.signOf a0 else []))
set_option maxHeartbeats 4000000 in
set_option maxRecDepth 100000 in
theorem tokens_spelling.calls (a0 : Int) (r : ByteArray) (w : World) (h : tokens_spelling.f a0 = some r) :
    Calls Tryd.prog 41 #[.int .i64 a0] w fun e w' => e = .returned (.string r) ∧ Below w.heap.size w w' := by
  unfold tokens_spelling.f at h
  obtain rfl := Option.some.inj h
  by_cases h1 : a0 < 5
  · rw [if_neg (by omega)]
    go_enter Tryd.func41, Tryd.ntmps41
    go_wp2
    go_ret
    exact ⟨rfl, Below.refl _ _⟩
  · by_cases h2 : 16 < a0
    · rw [if_neg (by omega)]
      go_enter Tryd.func41, Tryd.ntmps41
      go_wp2
      go_ret
      exact ⟨rfl, Below.refl _ _⟩
    · rw [if_pos (by omega)]
      have : a0 = 5 ∨ a0 = 6 ∨ a0 = 7 ∨ a0 = 8 ∨ a0 = 9 ∨ a0 = 10 ∨ a0 = 11 ∨ a0 = 12 ∨ a0 = 13 ∨ a0 = 14 ∨ a0 = 15 ∨ a0 = 16 := by omega
      clear h1 h2
      rcases this with rfl | rfl | rfl | rfl | rfl | rfl | rfl | rfl | rfl | rfl | rfl | rfl
      · have ix : ∀ w, Sem.run Tryd.prog (Instr.index 88 (.agg #[Value.string ⟨#[115, 97, 121, 115]⟩, .string ⟨#[40]⟩, .string ⟨#[41]⟩, .string ⟨#[44]⟩, .string ⟨#[59]⟩, .string ⟨#[46]⟩, .string ⟨#[58, 45]⟩, .string ⟨#[63]⟩, .string ⟨#[61]⟩, .string ⟨#[33, 61]⟩, .string ⟨#[60]⟩, .string ⟨#[60, 61]⟩]) (.int .i64 0)) w = .ok (.string ⟨#[115, 97, 121, 115]⟩) w := fun _ => by kernel_rfl
        go_enter Tryd.func41, Tryd.ntmps41
        go_wp2
        go_ret
        exact ⟨rfl, Below.refl _ _⟩
      · have ix : ∀ w, Sem.run Tryd.prog (Instr.index 88 (.agg #[Value.string ⟨#[115, 97, 121, 115]⟩, .string ⟨#[40]⟩, .string ⟨#[41]⟩, .string ⟨#[44]⟩, .string ⟨#[59]⟩, .string ⟨#[46]⟩, .string ⟨#[58, 45]⟩, .string ⟨#[63]⟩, .string ⟨#[61]⟩, .string ⟨#[33, 61]⟩, .string ⟨#[60]⟩, .string ⟨#[60, 61]⟩]) (.int .i64 1)) w = .ok (.string ⟨#[40]⟩) w := fun _ => by kernel_rfl
        go_enter Tryd.func41, Tryd.ntmps41
        go_wp2
        go_ret
        exact ⟨rfl, Below.refl _ _⟩
      · have ix : ∀ w, Sem.run Tryd.prog (Instr.index 88 (.agg #[Value.string ⟨#[115, 97, 121, 115]⟩, .string ⟨#[40]⟩, .string ⟨#[41]⟩, .string ⟨#[44]⟩, .string ⟨#[59]⟩, .string ⟨#[46]⟩, .string ⟨#[58, 45]⟩, .string ⟨#[63]⟩, .string ⟨#[61]⟩, .string ⟨#[33, 61]⟩, .string ⟨#[60]⟩, .string ⟨#[60, 61]⟩]) (.int .i64 2)) w = .ok (.string ⟨#[41]⟩) w := fun _ => by kernel_rfl
        go_enter Tryd.func41, Tryd.ntmps41
        go_wp2
        go_ret
        exact ⟨rfl, Below.refl _ _⟩
      · have ix : ∀ w, Sem.run Tryd.prog (Instr.index 88 (.agg #[Value.string ⟨#[115, 97, 121, 115]⟩, .string ⟨#[40]⟩, .string ⟨#[41]⟩, .string ⟨#[44]⟩, .string ⟨#[59]⟩, .string ⟨#[46]⟩, .string ⟨#[58, 45]⟩, .string ⟨#[63]⟩, .string ⟨#[61]⟩, .string ⟨#[33, 61]⟩, .string ⟨#[60]⟩, .string ⟨#[60, 61]⟩]) (.int .i64 3)) w = .ok (.string ⟨#[44]⟩) w := fun _ => by kernel_rfl
        go_enter Tryd.func41, Tryd.ntmps41
        go_wp2
        go_ret
        exact ⟨rfl, Below.refl _ _⟩
      · have ix : ∀ w, Sem.run Tryd.prog (Instr.index 88 (.agg #[Value.string ⟨#[115, 97, 121, 115]⟩, .string ⟨#[40]⟩, .string ⟨#[41]⟩, .string ⟨#[44]⟩, .string ⟨#[59]⟩, .string ⟨#[46]⟩, .string ⟨#[58, 45]⟩, .string ⟨#[63]⟩, .string ⟨#[61]⟩, .string ⟨#[33, 61]⟩, .string ⟨#[60]⟩, .string ⟨#[60, 61]⟩]) (.int .i64 4)) w = .ok (.string ⟨#[59]⟩) w := fun _ => by kernel_rfl
        go_enter Tryd.func41, Tryd.ntmps41
        go_wp2
        go_ret
        exact ⟨rfl, Below.refl _ _⟩
      · have ix : ∀ w, Sem.run Tryd.prog (Instr.index 88 (.agg #[Value.string ⟨#[115, 97, 121, 115]⟩, .string ⟨#[40]⟩, .string ⟨#[41]⟩, .string ⟨#[44]⟩, .string ⟨#[59]⟩, .string ⟨#[46]⟩, .string ⟨#[58, 45]⟩, .string ⟨#[63]⟩, .string ⟨#[61]⟩, .string ⟨#[33, 61]⟩, .string ⟨#[60]⟩, .string ⟨#[60, 61]⟩]) (.int .i64 5)) w = .ok (.string ⟨#[46]⟩) w := fun _ => by kernel_rfl
        go_enter Tryd.func41, Tryd.ntmps41
        go_wp2
        go_ret
        exact ⟨rfl, Below.refl _ _⟩
      · have ix : ∀ w, Sem.run Tryd.prog (Instr.index 88 (.agg #[Value.string ⟨#[115, 97, 121, 115]⟩, .string ⟨#[40]⟩, .string ⟨#[41]⟩, .string ⟨#[44]⟩, .string ⟨#[59]⟩, .string ⟨#[46]⟩, .string ⟨#[58, 45]⟩, .string ⟨#[63]⟩, .string ⟨#[61]⟩, .string ⟨#[33, 61]⟩, .string ⟨#[60]⟩, .string ⟨#[60, 61]⟩]) (.int .i64 6)) w = .ok (.string ⟨#[58, 45]⟩) w := fun _ => by kernel_rfl
        go_enter Tryd.func41, Tryd.ntmps41
        go_wp2
        go_ret
        exact ⟨rfl, Below.refl _ _⟩
      · have ix : ∀ w, Sem.run Tryd.prog (Instr.index 88 (.agg #[Value.string ⟨#[115, 97, 121, 115]⟩, .string ⟨#[40]⟩, .string ⟨#[41]⟩, .string ⟨#[44]⟩, .string ⟨#[59]⟩, .string ⟨#[46]⟩, .string ⟨#[58, 45]⟩, .string ⟨#[63]⟩, .string ⟨#[61]⟩, .string ⟨#[33, 61]⟩, .string ⟨#[60]⟩, .string ⟨#[60, 61]⟩]) (.int .i64 7)) w = .ok (.string ⟨#[63]⟩) w := fun _ => by kernel_rfl
        go_enter Tryd.func41, Tryd.ntmps41
        go_wp2
        go_ret
        exact ⟨rfl, Below.refl _ _⟩
      · have ix : ∀ w, Sem.run Tryd.prog (Instr.index 88 (.agg #[Value.string ⟨#[115, 97, 121, 115]⟩, .string ⟨#[40]⟩, .string ⟨#[41]⟩, .string ⟨#[44]⟩, .string ⟨#[59]⟩, .string ⟨#[46]⟩, .string ⟨#[58, 45]⟩, .string ⟨#[63]⟩, .string ⟨#[61]⟩, .string ⟨#[33, 61]⟩, .string ⟨#[60]⟩, .string ⟨#[60, 61]⟩]) (.int .i64 8)) w = .ok (.string ⟨#[61]⟩) w := fun _ => by kernel_rfl
        go_enter Tryd.func41, Tryd.ntmps41
        go_wp2
        go_ret
        exact ⟨rfl, Below.refl _ _⟩
      · have ix : ∀ w, Sem.run Tryd.prog (Instr.index 88 (.agg #[Value.string ⟨#[115, 97, 121, 115]⟩, .string ⟨#[40]⟩, .string ⟨#[41]⟩, .string ⟨#[44]⟩, .string ⟨#[59]⟩, .string ⟨#[46]⟩, .string ⟨#[58, 45]⟩, .string ⟨#[63]⟩, .string ⟨#[61]⟩, .string ⟨#[33, 61]⟩, .string ⟨#[60]⟩, .string ⟨#[60, 61]⟩]) (.int .i64 9)) w = .ok (.string ⟨#[33, 61]⟩) w := fun _ => by kernel_rfl
        go_enter Tryd.func41, Tryd.ntmps41
        go_wp2
        go_ret
        exact ⟨rfl, Below.refl _ _⟩
      · have ix : ∀ w, Sem.run Tryd.prog (Instr.index 88 (.agg #[Value.string ⟨#[115, 97, 121, 115]⟩, .string ⟨#[40]⟩, .string ⟨#[41]⟩, .string ⟨#[44]⟩, .string ⟨#[59]⟩, .string ⟨#[46]⟩, .string ⟨#[58, 45]⟩, .string ⟨#[63]⟩, .string ⟨#[61]⟩, .string ⟨#[33, 61]⟩, .string ⟨#[60]⟩, .string ⟨#[60, 61]⟩]) (.int .i64 10)) w = .ok (.string ⟨#[60]⟩) w := fun _ => by kernel_rfl
        go_enter Tryd.func41, Tryd.ntmps41
        go_wp2
        go_ret
        exact ⟨rfl, Below.refl _ _⟩
      · have ix : ∀ w, Sem.run Tryd.prog (Instr.index 88 (.agg #[Value.string ⟨#[115, 97, 121, 115]⟩, .string ⟨#[40]⟩, .string ⟨#[41]⟩, .string ⟨#[44]⟩, .string ⟨#[59]⟩, .string ⟨#[46]⟩, .string ⟨#[58, 45]⟩, .string ⟨#[63]⟩, .string ⟨#[61]⟩, .string ⟨#[33, 61]⟩, .string ⟨#[60]⟩, .string ⟨#[60, 61]⟩]) (.int .i64 11)) w = .ok (.string ⟨#[60, 61]⟩) w := fun _ => by kernel_rfl
        go_enter Tryd.func41, Tryd.ntmps41
        go_wp2
        go_ret
        exact ⟨rfl, Below.refl _ _⟩

end Go.Proofs.YtmpaipbpnkfmfaaDoor.P
