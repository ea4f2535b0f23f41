/- THE PROGRAM's FUNCTIONS AS PLAIN LEAN FUNCTIONS, and proofs that its calls come to them: written by a program of this claim's own. Conditions: as each theorem states. -/
import Derived.Test.YtmpaipbpnkfmfaaDoorPx0
import Derived.Test.YtmpaipbpnkfmfaaDoorPx9
namespace Go.Proofs.YtmpaipbpnkfmfaaDoor.P
open Go.RowKit Go.Proofs.YtmpaipbpnkfmfaaDoorW.PrintWords Go.Proofs.YtmpaipbpnkfmfaaDoorW.PrintLast Go.Proofs.YtmpaipbpnkfmfaaDoorW.PrintMore
attribute [local go_sem] max2_int min2_int max_two min_two max_three min_three max_four min_four   -- for this text's walks alone
set_option linter.unusedVariables false
set_option linter.unusedSimpArgs false

attribute [local go_sem high] isSome_setCell_
/-! ### hearsayref04_quoted: function 60 -/
mutual
def hearsayref04_quoted.l0 : Nat → ByteArray → Int → List Int → Int → Option (Int × ByteArray × Int × Int × Int × Int × Int)
 | 0, _, _, _, _ => none
 | k + 1, x0, x1, x6, x7 => if x7 < (x0.size : Int) then (if 0 ≤ x7 then (hearsayref04_quoted.j1 k x0 x1 x6 x7 ((bt x0 x7) != 34)) else (none)) else (hearsayref04_quoted.j1 k x0 x1 x6 x7 false)
def hearsayref04_quoted.j1 : Nat → ByteArray → Int → List Int → Int → Bool → Option (Int × ByteArray × Int × Int × Int × Int × Int)
 | 0, _, _, _, _, _ => none
 | k + 1, x0, x1, x6, x7, x21 => if x21 = true then (if 0 ≤ x7 then (if x7 < (x0.size : Int) then (if (bt x0 x7) < 32 then (hearsayref04_quoted.j2 k x0 x1 x6 x7 true) else (hearsayref04_quoted.j2 k x0 x1 x6 x7 ((bt x0 x7) == 127))) else (none)) else (none)) else (if x7 ≥ (x0.size : Int) then (some (0, (⟨#[]⟩ : ByteArray), 0, 0, 0, 43, x1)) else (some (3, strOfNums x6, 0, x1, wrap64 (x7 + 1), 0, 0)))
def hearsayref04_quoted.j2 : Nat → ByteArray → Int → List Int → Int → Bool → Option (Int × ByteArray × Int × Int × Int × Int × Int)
 | 0, _, _, _, _, _ => none
 | k + 1, x0, x1, x6, x7, x31 => if x31 = true then (some (0, (⟨#[]⟩ : ByteArray), 0, 0, 0, 44, x7)) else (if 0 ≤ x7 then (if x7 < (x0.size : Int) then (if (bt x0 x7) = 92 then ((hearsayref04_escape.f k x0 x7).bind fun bt237 => (if bt237.2 = 0 then (some (0, (⟨#[]⟩ : ByteArray), 0, 0, 0, 44, x7)) else (if x6.length < 140737488355328 then (hearsayref04_quoted.l0 k x0 x1 (x6 ++ [bt237.1]) (wrap64 (x7 + bt237.2))) else (none)))) else (if x6.length < 140737488355328 then (hearsayref04_quoted.l0 k x0 x1 (x6 ++ [bt x0 x7]) (wrap64 (x7 + 1))) else (none))) else (none)) else (none))
end
def hearsayref04_quoted.f (k : Nat) (a0 : ByteArray) (a1 : Int) : Option (Int × ByteArray × Int × Int × Int × Int × Int) := hearsayref04_quoted.l0 k a0 a1 ([] : List Int) (wrap64 (a1 + 1))
theorem hearsayref04_quoted.mono_l : ∀ k, (∀ y0 y1 y2 y3, LeO (hearsayref04_quoted.l0 k y0 y1 y2 y3) (hearsayref04_quoted.l0 (k + 1) y0 y1 y2 y3)) ∧ (∀ y0 y1 y2 y3 y4, LeO (hearsayref04_quoted.j1 k y0 y1 y2 y3 y4) (hearsayref04_quoted.j1 (k + 1) y0 y1 y2 y3 y4)) ∧ (∀ y0 y1 y2 y3 y4, LeO (hearsayref04_quoted.j2 k y0 y1 y2 y3 y4) (hearsayref04_quoted.j2 (k + 1) y0 y1 y2 y3 y4))
 | 0 => ⟨fun _ _ _ _ r h => by simp [hearsayref04_quoted.l0] at h, fun _ _ _ _ _ r h => by simp [hearsayref04_quoted.j1] at h, fun _ _ _ _ _ r h => by simp [hearsayref04_quoted.j2] at h⟩
 | k + 1 => by
  obtain ⟨ih0, ih1, ih2⟩ := hearsayref04_quoted.mono_l k
  refine ⟨?_, ?_, ?_⟩
  ·intro y0 y1 y2 y3
   unfold hearsayref04_quoted.l0
   repeat' first
   | (with_reducible exact ih0 _ _ _ _)
   | (with_reducible exact ih1 _ _ _ _ _)
   | (with_reducible exact ih2 _ _ _ _ _)
   | (with_reducible exact hearsayref04_escape.mono _ _ _)
   | (with_reducible exact LeO.refl _)
   | (with_reducible exact LeO.none _)
   | (with_reducible refine LeO.ite ?_ ?_)
   | (with_reducible refine LeO.bind ?_ (fun _ => ?_))
   | exact ih0 _ _ _ _
   | exact ih1 _ _ _ _ _
   | exact ih2 _ _ _ _ _
   | exact hearsayref04_escape.mono _ _ _
   | exact LeO.none _
   | refine LeO.ite ?_ ?_
   | refine LeO.bind ?_ (fun _ => ?_)
  ·intro y0 y1 y2 y3 y4
   unfold hearsayref04_quoted.j1
   repeat' first
   | (with_reducible exact ih0 _ _ _ _)
   | (with_reducible exact ih1 _ _ _ _ _)
   | (with_reducible exact ih2 _ _ _ _ _)
   | (with_reducible exact hearsayref04_escape.mono _ _ _)
   | (with_reducible exact LeO.refl _)
   | (with_reducible exact LeO.none _)
   | (with_reducible refine LeO.ite ?_ ?_)
   | (with_reducible refine LeO.bind ?_ (fun _ => ?_))
   | exact ih0 _ _ _ _
   | exact ih1 _ _ _ _ _
   | exact ih2 _ _ _ _ _
   | exact hearsayref04_escape.mono _ _ _
   | exact LeO.none _
   | refine LeO.ite ?_ ?_
   | refine LeO.bind ?_ (fun _ => ?_)
  ·intro y0 y1 y2 y3 y4
   unfold hearsayref04_quoted.j2
   repeat' first
   | (with_reducible exact ih0 _ _ _ _)
   | (with_reducible exact ih1 _ _ _ _ _)
   | (with_reducible exact ih2 _ _ _ _ _)
   | (with_reducible exact hearsayref04_escape.mono _ _ _)
   | (with_reducible exact LeO.refl _)
   | (with_reducible exact LeO.none _)
   | (with_reducible refine LeO.ite ?_ ?_)
   | (with_reducible refine LeO.bind ?_ (fun _ => ?_))
   | exact ih0 _ _ _ _
   | exact ih1 _ _ _ _ _
   | exact ih2 _ _ _ _ _
   | exact hearsayref04_escape.mono _ _ _
   | exact LeO.none _
   | refine LeO.ite ?_ ?_
   | refine LeO.bind ?_ (fun _ => ?_)
theorem hearsayref04_quoted.mono : ∀ a0 a1 k, LeO (hearsayref04_quoted.f k a0 a1) (hearsayref04_quoted.f (k + 1) a0 a1) := by
 intro a0 a1 k
 obtain ⟨ih0, ih1, ih2⟩ := hearsayref04_quoted.mono_l k
 unfold hearsayref04_quoted.f
 repeat' first
   | (with_reducible exact ih0 _ _ _ _)
   | (with_reducible exact ih1 _ _ _ _ _)
   | (with_reducible exact ih2 _ _ _ _ _)
   | (with_reducible exact hearsayref04_escape.mono _ _ _)
   | (with_reducible exact LeO.refl _)
   | (with_reducible exact LeO.none _)
   | (with_reducible refine LeO.ite ?_ ?_)
   | (with_reducible refine LeO.bind ?_ (fun _ => ?_))
   | exact ih0 _ _ _ _
   | exact ih1 _ _ _ _ _
   | exact ih2 _ _ _ _ _
   | exact hearsayref04_escape.mono _ _ _
   | exact LeO.none _
   | refine LeO.ite ?_ ?_
   | refine LeO.bind ?_ (fun _ => ?_)
set_option maxHeartbeats 20000000 in
set_option maxRecDepth 100000 in
theorem hearsayref04_quoted.calls (k : Nat) (a0 : ByteArray) (a1 : Int) (r1 : Int) (r2 : ByteArray) (r3 : Int) (r4 : Int) (r5 : Int) (r6 : Int) (r7 : Int) (w : World) (h : hearsayref04_quoted.f k a0 a1 = some (r1, r2, r3, r4, r5, r6, r7)) :
  Calls Tryd.prog 60 #[.string a0, .int .i64 a1] w fun e w' => e = .returned (.tuple #[.agg #[.int .i64 r1, .string r2, .int .i64 r3, .int .i64 r4, .int .i64 r5], .agg #[.int .i64 r6, .int .i64 r7]]) ∧ Below w.heap.size w w' := by
 have hu33 := Tryd.underlying33
 have hu26 := Tryd.underlying26
 have HB := Aside0.mk (Below.refl w.heap.size w)
 have H : (hearsayref04_quoted.l0 k a0 a1 ([] : List Int) (wrap64 (a1 + 1))) = some (r1, r2, r3, r4, r5, r6, r7) := h
 clear h
 have H' := Aside0.mk H
 clear H
 go_enter Tryd.func60, Tryd.ntmps60
 go_wp2_with (first | ((with_reducible refine gate_dst (N := 4) rfl ?_); refine box_event ?hg (N := 4) ?hd (cs := #[.int .i64 0, .string (⟨#[]⟩ : ByteArray), .int .i64 0, .int .i64 0, .int .i64 0]) (t := 33) ?hr ?_; (case hd => rfl); (case hg => rfl); (case hr => first | (go_simp; done) | (go_simp; rfl)); intro gb235 hg w3 hbox hb; have n0_ := Aside0.mk (below_step h0_ hb); have n1_ := Aside0.mk (hbox); have n2_ := Aside0.mk ((by rw [hg]; exact (below_size h0_) : w.heap.size ≤ gb235)); have n3_ := Aside0.mk ((by rw [hg]; exact (below_size h0_) : w.heap.size ≤ gb235)); clear HB; have HB := n0_; have BK235 := n1_; have GW235 := n2_; have GE235 := n3_; clear n0_ n1_ n2_ n3_; clear hb hbox hg) | ((with_reducible refine gate_dst (N := 5) rfl ?_); refine box_event ?hg (N := 5) ?hd (cs := #[.int .i64 0, .int .i64 0]) (t := 26) ?hr ?_; (case hd => rfl); (case hg => rfl); (case hr => first | (go_simp; done) | (go_simp; rfl)); intro gb236 hg w4 hbox hb; have n0_ := Aside0.mk (blk_below (g := gb235) (o := .cells #[.int .i64 0, .string (⟨#[]⟩ : ByteArray), .int .i64 0, .int .i64 0, .int .i64 0] 33 (0, 0)) (bk_ BK235) hb); have n1_ := Aside0.mk (below_step h1_ hb); have n2_ := Aside0.mk (hbox); have n3_ := Aside0.mk ((by rw [hg]; exact (below_size h1_) : w.heap.size ≤ gb236)); have n4_ := Aside0.mk ((by rw [hg]; exact (below_size h1_) : w.heap.size ≤ gb236)); have n5_ := Aside0.mk ((by rw [hg]; exact Nat.ne_of_lt (blk_lt (g := gb235) (o := .cells #[.int .i64 0, .string (⟨#[]⟩ : ByteArray), .int .i64 0, .int .i64 0, .int .i64 0] 33 (0, 0)) (bk_ BK235)) : gb235 ≠ gb236)); have n6_ := Aside0.mk ((by rw [hg]; exact Nat.ne_of_gt (blk_lt (g := gb235) (o := .cells #[.int .i64 0, .string (⟨#[]⟩ : ByteArray), .int .i64 0, .int .i64 0, .int .i64 0] 33 (0, 0)) (bk_ BK235)) : gb236 ≠ gb235)); clear BK235; clear HB; have BK235 := n0_; have HB := n1_; have BK236 := n2_; have GW236 := n3_; have GE236 := n4_; have NB235_236 := n5_; have NB236_235 := n6_; clear n0_ n1_ n2_ n3_ n4_ n5_ n6_; clear hb hbox hg))
 go_loopg [6, 7] k (fun kq v6 v7 w' => ∃ (x6_1 : List Int) (x7_1 : Int) (x236000_1 : Int) (x236001_1 : ByteArray) (x236002_1 : Int) (x236003_1 : Int) (x236004_1 : Int) (x237000_1 : Int) (x237001_1 : Int), v7 = .int .i64 x7_1 ∧ Aside0 (hearsayref04_quoted.l0 kq a0 a1 x6_1 x7_1 = some (r1, r2, r3, r4, r5, r6, r7)) ∧ Aside0 (kq ≤ k) ∧ Aside0 (Kd.R (Kd.int .u8) 5 w' w.heap.size (fun _ => True) v6 x6_1) ∧ Aside0 (w'.heap[gb235]? = some (.cells #[.int .i64 x236000_1, .string x236001_1, .int .i64 x236002_1, .int .i64 x236003_1, .int .i64 x236004_1] 33 (0, 0))) ∧ Aside0 (w'.heap[gb236]? = some (.cells #[.int .i64 x237000_1, .int .i64 x237001_1] 26 (0, 0))) ∧ Aside0 (Below w.heap.size w w'))
 case atStart => exact ⟨(([] : List Int)), (wrap64 (a1 + 1)), (0), ((⟨#[]⟩ : ByteArray)), (0), (0), (0), (0), (0), eq_, H', ⟨Nat.le_refl _⟩, ⟨by first | exact Kd.R_nil _ _ _ _ _ | exact Kd.N_nil _ _ _ _ _ | exact Kd.V_nil _ _ _ _ _ | exact Kd.Q_nil _ _ _ _ _ | exact Kd.S_nil _ _ _ _ _⟩, ⟨by (with_reducible repeat first|apply bk1_|apply bk2_|apply bk3_); exact BK235.out⟩, ⟨by (with_reducible repeat first|apply bk1_|apply bk2_|apply bk3_); exact BK236.out⟩, ⟨h1_⟩⟩
 case round =>
  clear H'
  try clear p2
  obtain ⟨x6_1, x7_1, x236000_1, x236001_1, x236002_1, x236003_1, x236004_1, x237000_1, x237001_1, rfl, HA, HK1, HO_6, BK235, BK236, HB⟩ := hrel
  cases gk with
  | zero => exact absurd HA.out (by simp [hearsayref04_quoted.l0])
  | succ k1 =>
   have H := HA.out
   clear HA
   simp only [hearsayref04_quoted.l0] at H
   have HC5 := Aside0.mk H
   clear H
   go_upto_region 3 with (fail)
   go_cut [21] (fun v21 wc => ∃ (kq : Nat) (x21_4 : Bool), v21 = .bool x21_4 ∧ Aside0 (hearsayref04_quoted.j1 kq a0 a1 x6_1 x7_1 x21_4 = some (r1, r2, r3, r4, r5, r6, r7)) ∧ Aside0 (kq ≤ k1) ∧ Aside0 (Kd.R (Kd.int .u8) 5 wc w.heap.size (fun _ => True) u6 x6_1) ∧ Aside0 (wc.heap[gb235]? = some (.cells #[.int .i64 x236000_1, .string x236001_1, .int .i64 x236002_1, .int .i64 x236003_1, .int .i64 x236004_1] 33 (0, 0))) ∧ Aside0 (wc.heap[gb236]? = some (.cells #[.int .i64 x237000_1, .int .i64 x237001_1] 26 (0, 0))) ∧ Aside0 (Below w.heap.size w wc))
   case first =>
    have H := HC5.out
    clear HC5
    by_cases c6 : x7_1 < (a0.size : Int)
    ·rw [if_pos c6] at H
     have c6b0 : decide (x7_1 < (a0.size : Int)) = true := decide_eq_true c6
     clear c6
     (first | rw [c6b0] | (simp only [i64_w, i32_w]; rw [c6b0]) | skip)
     by_cases c7 : 0 ≤ x7_1
     ·rw [if_pos c7] at H
      have c7b0 : decide (0 ≤ x7_1) = true := decide_eq_true c7
      clear c7
      have H' := Aside0.mk H
      clear H
      have p8 : 0 ≤ (x7_1 : Int) := of_decide_eq_true (by first | (with_reducible assumption) | assumption)
      have q8 : x7_1 < (a0.size : Int) := of_decide_eq_true (by first | (with_reducible assumption) | assumption)
      have hx8 := bt_at a0 x7_1
      replace p8 := eq_true p8
      replace q8 := eq_true q8
      go_wp2
      go_meet
      case rel => exact ⟨_, (((bt a0 x7_1) != 34)), eq_, H', ⟨by have := HK1.out; first | omega | exact Nat.le_refl _⟩, ⟨by (with_reducible repeat (first | apply Kd.R_alloc | apply Kd.R_drewN | apply Kd.R_drew)); exact HO_6.out⟩, ⟨by (with_reducible repeat first|apply bk1_|apply bk2_|apply bk3_); exact BK235.out⟩, ⟨by (with_reducible repeat first|apply bk1_|apply bk2_|apply bk3_); exact BK236.out⟩, ⟨h1_⟩⟩
     ·rw [if_neg c7] at H
      exact absurd H (by simp)
    ·rw [if_neg c6] at H
     have c6b0 : decide (x7_1 < (a0.size : Int)) = false := decide_eq_false c6
     clear c6
     (first | rw [c6b0] | (simp only [i64_w, i32_w]; rw [c6b0]) | skip)
     have H' := Aside0.mk H
     clear H
     go_wp2
     go_meet
     case rel => exact ⟨_, (false), eq_, H', ⟨by have := HK1.out; first | omega | exact Nat.le_refl _⟩, ⟨by (with_reducible repeat (first | apply Kd.R_alloc | apply Kd.R_drewN | apply Kd.R_drew)); exact HO_6.out⟩, ⟨by (with_reducible repeat first|apply bk1_|apply bk2_|apply bk3_); exact BK235.out⟩, ⟨by (with_reducible repeat first|apply bk1_|apply bk2_|apply bk3_); exact BK236.out⟩, ⟨h1_⟩⟩
   case rest =>
    clear HC5
    try clear p2
    try clear c6
    try clear c6b0
    try clear p6
    try clear c7
    try clear c7b0
    try clear p8
    try clear q8
    try clear hx8
    try clear p2
    try clear p8
    try clear q8
    obtain ⟨kq, x21_4, rfl, HA, HJ4, HO_6, BK235, BK236, HB⟩ := hcut
    cases kq with
    | zero => exact absurd HA.out (by simp [hearsayref04_quoted.j1])
    | succ kj4 =>
     have H := HA.out
     clear HA
     simp only [hearsayref04_quoted.j1] at H
     by_cases c9 : x21_4 = true
     ·subst c9
      have H1 : (if 0 ≤ x7_1 then (if x7_1 < (a0.size : Int) then (if (bt a0 x7_1) < 32 then (hearsayref04_quoted.j2 kj4 a0 a1 x6_1 x7_1 true) else (hearsayref04_quoted.j2 kj4 a0 a1 x6_1 x7_1 ((bt a0 x7_1) == 127))) else (none)) else (none)) = some (r1, r2, r3, r4, r5, r6, r7) := by rw [if_pos rfl] at H; exact H
      clear H
      have H := H1
      clear H1
      have HC10 := Aside0.mk H
      clear H
      go_upto_region 4 with (fail)
      go_cut [31] (fun v31 wc => ∃ (kq : Nat) (x31_9 : Bool), v31 = .bool x31_9 ∧ Aside0 (hearsayref04_quoted.j2 kq a0 a1 x6_1 x7_1 x31_9 = some (r1, r2, r3, r4, r5, r6, r7)) ∧ Aside0 (kq ≤ kj4) ∧ Aside0 (Kd.R (Kd.int .u8) 5 wc w.heap.size (fun _ => True) u6 x6_1) ∧ Aside0 (wc.heap[gb235]? = some (.cells #[.int .i64 x236000_1, .string x236001_1, .int .i64 x236002_1, .int .i64 x236003_1, .int .i64 x236004_1] 33 (0, 0))) ∧ Aside0 (wc.heap[gb236]? = some (.cells #[.int .i64 x237000_1, .int .i64 x237001_1] 26 (0, 0))) ∧ Aside0 (Below w.heap.size w wc))
      case first =>
       have H := HC10.out
       clear HC10
       by_cases c11 : 0 ≤ x7_1
       ·rw [if_pos c11] at H
        have c11b0 : decide (0 ≤ x7_1) = true := decide_eq_true c11
        clear c11
        (first | rw [c11b0] | (simp only [i64_w, i32_w]; rw [c11b0]) | skip)
        by_cases c12 : x7_1 < (a0.size : Int)
        ·rw [if_pos c12] at H
         have c12b0 : decide (x7_1 < (a0.size : Int)) = true := decide_eq_true c12
         clear c12
         by_cases c14 : (bt a0 x7_1) < 32
         ·rw [if_pos c14] at H
          have c14b0 : decide ((bt a0 x7_1) < 32) = true := decide_eq_true c14
          clear c14
          have H' := Aside0.mk H
          clear H
          have p13 : 0 ≤ (x7_1 : Int) := of_decide_eq_true (by first | (with_reducible assumption) | assumption)
          have q13 : x7_1 < (a0.size : Int) := of_decide_eq_true (by first | (with_reducible assumption) | assumption)
          have hx13 := bt_at a0 x7_1
          replace p13 := eq_true p13
          replace q13 := eq_true q13
          go_wp2
          go_meet
          case rel => exact ⟨_, (true), eq_, H', ⟨by have := HK1.out; have := HJ4.out; first | omega | exact Nat.le_refl _⟩, ⟨by (with_reducible repeat (first | apply Kd.R_alloc | apply Kd.R_drewN | apply Kd.R_drew)); exact HO_6.out⟩, ⟨by (with_reducible repeat first|apply bk1_|apply bk2_|apply bk3_); exact BK235.out⟩, ⟨by (with_reducible repeat first|apply bk1_|apply bk2_|apply bk3_); exact BK236.out⟩, ⟨h1_⟩⟩
         ·rw [if_neg c14] at H
          have c14b0 : decide ((bt a0 x7_1) < 32) = false := decide_eq_false c14
          clear c14
          have H' := Aside0.mk H
          clear H
          have p13 : 0 ≤ (x7_1 : Int) := of_decide_eq_true (by first | (with_reducible assumption) | assumption)
          have q13 : x7_1 < (a0.size : Int) := of_decide_eq_true (by first | (with_reducible assumption) | assumption)
          have hx13 := bt_at a0 x7_1
          replace p13 := eq_true p13
          replace q13 := eq_true q13
          have p15 : 0 ≤ (x7_1 : Int) := of_decide_eq_true (by first | (with_reducible assumption) | assumption)
          have q15 : x7_1 < (a0.size : Int) := of_decide_eq_true (by first | (with_reducible assumption) | assumption)
          have hx15 := bt_at a0 x7_1
          replace p15 := eq_true p15
          replace q15 := eq_true q15
          go_wp2
          go_meet
          case rel => exact ⟨_, (((bt a0 x7_1) == 127)), eq_, H', ⟨by have := HK1.out; have := HJ4.out; first | omega | exact Nat.le_refl _⟩, ⟨by (with_reducible repeat (first | apply Kd.R_alloc | apply Kd.R_drewN | apply Kd.R_drew)); exact HO_6.out⟩, ⟨by (with_reducible repeat first|apply bk1_|apply bk2_|apply bk3_); exact BK235.out⟩, ⟨by (with_reducible repeat first|apply bk1_|apply bk2_|apply bk3_); exact BK236.out⟩, ⟨h1_⟩⟩
        ·rw [if_neg c12] at H
         exact absurd H (by simp)
       ·rw [if_neg c11] at H
        exact absurd H (by simp)
      case rest =>
       clear HC10
       try clear c1
       try clear p1
       try clear q1
       try clear hx1
       try clear p2
       try clear c6
       try clear c6b0
       try clear p6
       try clear c7
       try clear c7b0
       try clear p8
       try clear q8
       try clear hx8
       try clear c9
       try clear c11
       try clear c11b0
       try clear c12
       try clear c12b0
       try clear p13
       try clear q13
       try clear hx13
       try clear c14
       try clear c14b0
       try clear p15
       try clear q15
       try clear hx15
       try clear p13
       try clear p15
       try clear p2
       try clear p6
       try clear p8
       try clear q13
       try clear q15
       try clear q8
       obtain ⟨kq, x31_9, rfl, HA, HJ9, HO_6, BK235, BK236, HB⟩ := hcut
       cases kq with
       | zero => exact absurd HA.out (by simp [hearsayref04_quoted.j2])
       | succ kj9 =>
        have H := HA.out
        clear HA
        simp only [hearsayref04_quoted.j2] at H
        by_cases c16 : x31_9 = true
        ·subst c16
         have H1 : (some (0, (⟨#[]⟩ : ByteArray), 0, 0, 0, 44, x7_1)) = some (r1, r2, r3, r4, r5, r6, r7) := by rw [if_pos rfl] at H; exact H
         clear H
         have H := H1
         clear H1
         simp only [Option.some.injEq, Prod.mk.injEq] at H
         obtain ⟨rfl, rfl, rfl, rfl, rfl, rfl, rfl⟩ := H
         have hnb17 := NB235_236.out
         have hnc17 := NB236_235.out
         have hcz18_0 : wc.cell? ⟨gb235, 0, none⟩ = some (.int .i64 x236000_1) := (blk_cell BK235.out 0).trans rfl
         have hcz18_1 : wc.cell? ⟨gb235, 1, none⟩ = some (.string x236001_1) := (blk_cell BK235.out 1).trans rfl
         have hcz18_2 : wc.cell? ⟨gb235, 2, none⟩ = some (.int .i64 x236002_1) := (blk_cell BK235.out 2).trans rfl
         have hcz18_3 : wc.cell? ⟨gb235, 3, none⟩ = some (.int .i64 x236003_1) := (blk_cell BK235.out 3).trans rfl
         have hcz18_4 : wc.cell? ⟨gb235, 4, none⟩ = some (.int .i64 x236004_1) := (blk_cell BK235.out 4).trans rfl
         have hfz18_0 := blk_frozen BK235.out 0
         have hfz18_1 := blk_frozen BK235.out 1
         have hfz18_2 := blk_frozen BK235.out 2
         have hfz18_3 := blk_frozen BK235.out 3
         have hfz18_4 := blk_frozen BK235.out 4
         have hcz19_0 : wc.cell? ⟨gb236, 0, none⟩ = some (.int .i64 x237000_1) := (blk_cell BK236.out 0).trans rfl
         have hcz19_1 : wc.cell? ⟨gb236, 1, none⟩ = some (.int .i64 x237001_1) := (blk_cell BK236.out 1).trans rfl
         have hfz19_0 := blk_frozen BK236.out 0
         have hfz19_1 := blk_frozen BK236.out 1
         go_wp2
         refine bodyPost_ret (results_cc rfl _ _ gb235 gb236 33 26 #[.int .i64 0, .string (⟨#[]⟩ : ByteArray), .int .i64 0, .int .i64 0, .int .i64 0] #[.int .i64 44, .int .i64 x7_1] (0, 0) (0, 0) _ _ rfl (by (with_reducible repeat first|apply bk1_|apply bk2_|apply bk3_); refine blk_far ?_ NB235_236.out _; (with_reducible repeat first|apply bk1_|apply bk2_|apply bk3_); refine blk_far ?_ NB235_236.out _; (with_reducible repeat first|apply bk1_|apply bk2_|apply bk3_); refine blk_put (cs := #[.int .i64 0, .string (⟨#[]⟩ : ByteArray), .int .i64 0, .int .i64 0, .int .i64 x236004_1]) ?_ 4 _ rfl; (with_reducible repeat first|apply bk1_|apply bk2_|apply bk3_); refine blk_put (cs := #[.int .i64 0, .string (⟨#[]⟩ : ByteArray), .int .i64 0, .int .i64 x236003_1, .int .i64 x236004_1]) ?_ 3 _ rfl; (with_reducible repeat first|apply bk1_|apply bk2_|apply bk3_); refine blk_put (cs := #[.int .i64 0, .string (⟨#[]⟩ : ByteArray), .int .i64 x236002_1, .int .i64 x236003_1, .int .i64 x236004_1]) ?_ 2 _ rfl; (with_reducible repeat first|apply bk1_|apply bk2_|apply bk3_); refine blk_put (cs := #[.int .i64 0, .string x236001_1, .int .i64 x236002_1, .int .i64 x236003_1, .int .i64 x236004_1]) ?_ 1 _ rfl; (with_reducible repeat first|apply bk1_|apply bk2_|apply bk3_); refine blk_put (cs := #[.int .i64 x236000_1, .string x236001_1, .int .i64 x236002_1, .int .i64 x236003_1, .int .i64 x236004_1]) ?_ 0 _ rfl; (with_reducible repeat first|apply bk1_|apply bk2_|apply bk3_); exact BK235.out) Tryd.underlying33 rfl (by kernel_rfl) rfl (by (with_reducible repeat first|apply bk1_|apply bk2_|apply bk3_); refine blk_put (cs := #[.int .i64 44, .int .i64 x237001_1]) ?_ 1 _ rfl; (with_reducible repeat first|apply bk1_|apply bk2_|apply bk3_); refine blk_put (cs := #[.int .i64 x237000_1, .int .i64 x237001_1]) ?_ 0 _ rfl; (with_reducible repeat first|apply bk1_|apply bk2_|apply bk3_); refine blk_far ?_ NB236_235.out _; (with_reducible repeat first|apply bk1_|apply bk2_|apply bk3_); refine blk_far ?_ NB236_235.out _; (with_reducible repeat first|apply bk1_|apply bk2_|apply bk3_); refine blk_far ?_ NB236_235.out _; (with_reducible repeat first|apply bk1_|apply bk2_|apply bk3_); refine blk_far ?_ NB236_235.out _; (with_reducible repeat first|apply bk1_|apply bk2_|apply bk3_); refine blk_far ?_ NB236_235.out _; (with_reducible repeat first|apply bk1_|apply bk2_|apply bk3_); exact BK236.out) Tryd.underlying26 rfl (by kernel_rfl)) rfl ?_
         exact ⟨er_, h1_⟩
        ·replace c16 := Bool.eq_false_iff.mpr c16
         subst c16
         have H1 : (if 0 ≤ x7_1 then (if x7_1 < (a0.size : Int) then (if (bt a0 x7_1) = 92 then ((hearsayref04_escape.f kj9 a0 x7_1).bind fun bt237 => (if bt237.2 = 0 then (some (0, (⟨#[]⟩ : ByteArray), 0, 0, 0, 44, x7_1)) else (if x6_1.length < 140737488355328 then (hearsayref04_quoted.l0 kj9 a0 a1 (x6_1 ++ [bt237.1]) (wrap64 (x7_1 + bt237.2))) else (none)))) else (if x6_1.length < 140737488355328 then (hearsayref04_quoted.l0 kj9 a0 a1 (x6_1 ++ [bt a0 x7_1]) (wrap64 (x7_1 + 1))) else (none))) else (none)) else (none)) = some (r1, r2, r3, r4, r5, r6, r7) := by rw [if_neg (show ¬ (false = true) by decide)] at H; exact H
         clear H
         have H := H1
         clear H1
         by_cases c20 : 0 ≤ x7_1
         ·rw [if_pos c20] at H
          have c20b0 : decide (0 ≤ x7_1) = true := decide_eq_true c20
          clear c20
          by_cases c21 : x7_1 < (a0.size : Int)
          ·rw [if_pos c21] at H
           have c21b0 : decide (x7_1 < (a0.size : Int)) = true := decide_eq_true c21
           clear c21
           by_cases c23 : (bt a0 x7_1) = 92
           ·rw [if_pos c23] at H
            have c23b0 : ((bt a0 x7_1) == 92) = true := beq_iff_eq.mpr c23
            have c23b1 : ((bt a0 x7_1) != 92) = false := bne_eq_false_iff_eq.mpr c23
            clear c23
            replace H := Option.bind_eq_some_iff.mp H
            obtain ⟨⟨t237, t238⟩, A240, H⟩ := H
            replace H : (if t238 = 0 then (some (0, (⟨#[]⟩ : ByteArray), 0, 0, 0, 44, x7_1)) else (if x6_1.length < 140737488355328 then (hearsayref04_quoted.l0 kj9 a0 a1 (x6_1 ++ [t237]) (wrap64 (x7_1 + t238))) else (none))) = some (r1, r2, r3, r4, r5, r6, r7) := H
            have A24 := Aside0.mk A240
            clear A240
            by_cases c25 : t238 = 0
            ·rw [if_pos c25] at H
             have c25b0 : (t238 == 0) = true := beq_iff_eq.mpr c25
             have c25b1 : (t238 != 0) = false := bne_eq_false_iff_eq.mpr c25
             clear c25
             simp only [Option.some.injEq, Prod.mk.injEq] at H
             obtain ⟨rfl, rfl, rfl, rfl, rfl, rfl, rfl⟩ := H
             have p22 : 0 ≤ (x7_1 : Int) := of_decide_eq_true (by first | (with_reducible assumption) | assumption)
             have q22 : x7_1 < (a0.size : Int) := of_decide_eq_true (by first | (with_reducible assumption) | assumption)
             have hx22 := bt_at a0 x7_1
             replace p22 := eq_true p22
             replace q22 := eq_true q22
             go_wp2_with (first | ((with_reducible refine gate_callee (f := 74) rfl ?_); refine goesL_ (some 50) rfl rfl Tryd.func74 (by kernel_rfl) rfl #[.string a0, .int .i64 x7_1] rfl ar_ ?_; (with_reducible refine (hearsayref04_escape.calls kj9 a0 x7_1 t237 t238 _ A24.out).mono ?_); rintro e w' ⟨rfl, ⟨nd, rfl⟩⟩; refine ⟨_, rfl, ?_⟩; (try (rw [drewN_self wc]; generalize hq_ : World.drewN wc _ = wc; have n0_ : Aside0 (Kd.R (Kd.int .u8) 5 wc w.heap.size (fun _ => True) u6 x6_1) := ⟨by rw [← hq_]; exact (rk_ HO_6)⟩; have n1_ : Aside0 (wc.heap[gb235]? = some (.cells #[.int .i64 x236000_1, .string x236001_1, .int .i64 x236002_1, .int .i64 x236003_1, .int .i64 x236004_1] 33 (0, 0))) := ⟨by rw [← hq_]; exact (bk_ BK235)⟩; have n2_ : Aside0 (wc.heap[gb236]? = some (.cells #[.int .i64 x237000_1, .int .i64 x237001_1] 26 (0, 0))) := ⟨by rw [← hq_]; exact (bk_ BK236)⟩; have n3_ : Aside0 (Below w.heap.size w wc) := ⟨by rw [← hq_]; exact h1_⟩; clear HO_6 BK235 BK236 HB hq_; have HO_6 := n0_; have BK235 := n1_; have BK236 := n2_; have HB := n3_; clear n0_ n1_ n2_ n3_)); have hnb26 := NB235_236.out; have hnc26 := NB236_235.out; have hcz27_0 : wc.cell? ⟨gb235, 0, none⟩ = some (.int .i64 x236000_1) := (blk_cell BK235.out 0).trans rfl; have hcz27_1 : wc.cell? ⟨gb235, 1, none⟩ = some (.string x236001_1) := (blk_cell BK235.out 1).trans rfl; have hcz27_2 : wc.cell? ⟨gb235, 2, none⟩ = some (.int .i64 x236002_1) := (blk_cell BK235.out 2).trans rfl; have hcz27_3 : wc.cell? ⟨gb235, 3, none⟩ = some (.int .i64 x236003_1) := (blk_cell BK235.out 3).trans rfl; have hcz27_4 : wc.cell? ⟨gb235, 4, none⟩ = some (.int .i64 x236004_1) := (blk_cell BK235.out 4).trans rfl; have hfz27_0 := blk_frozen BK235.out 0; have hfz27_1 := blk_frozen BK235.out 1; have hfz27_2 := blk_frozen BK235.out 2; have hfz27_3 := blk_frozen BK235.out 3; have hfz27_4 := blk_frozen BK235.out 4; have hcz28_0 : wc.cell? ⟨gb236, 0, none⟩ = some (.int .i64 x237000_1) := (blk_cell BK236.out 0).trans rfl; have hcz28_1 : wc.cell? ⟨gb236, 1, none⟩ = some (.int .i64 x237001_1) := (blk_cell BK236.out 1).trans rfl; have hfz28_0 := blk_frozen BK236.out 0; have hfz28_1 := blk_frozen BK236.out 1))
             refine bodyPost_ret (results_cc rfl _ _ gb235 gb236 33 26 #[.int .i64 0, .string (⟨#[]⟩ : ByteArray), .int .i64 0, .int .i64 0, .int .i64 0] #[.int .i64 44, .int .i64 x7_1] (0, 0) (0, 0) _ _ rfl (by (with_reducible repeat first|apply bk1_|apply bk2_|apply bk3_); refine blk_far ?_ NB235_236.out _; (with_reducible repeat first|apply bk1_|apply bk2_|apply bk3_); refine blk_far ?_ NB235_236.out _; (with_reducible repeat first|apply bk1_|apply bk2_|apply bk3_); refine blk_put (cs := #[.int .i64 0, .string (⟨#[]⟩ : ByteArray), .int .i64 0, .int .i64 0, .int .i64 x236004_1]) ?_ 4 _ rfl; (with_reducible repeat first|apply bk1_|apply bk2_|apply bk3_); refine blk_put (cs := #[.int .i64 0, .string (⟨#[]⟩ : ByteArray), .int .i64 0, .int .i64 x236003_1, .int .i64 x236004_1]) ?_ 3 _ rfl; (with_reducible repeat first|apply bk1_|apply bk2_|apply bk3_); refine blk_put (cs := #[.int .i64 0, .string (⟨#[]⟩ : ByteArray), .int .i64 x236002_1, .int .i64 x236003_1, .int .i64 x236004_1]) ?_ 2 _ rfl; (with_reducible repeat first|apply bk1_|apply bk2_|apply bk3_); refine blk_put (cs := #[.int .i64 0, .string x236001_1, .int .i64 x236002_1, .int .i64 x236003_1, .int .i64 x236004_1]) ?_ 1 _ rfl; (with_reducible repeat first|apply bk1_|apply bk2_|apply bk3_); refine blk_put (cs := #[.int .i64 x236000_1, .string x236001_1, .int .i64 x236002_1, .int .i64 x236003_1, .int .i64 x236004_1]) ?_ 0 _ rfl; (with_reducible repeat first|apply bk1_|apply bk2_|apply bk3_); exact BK235.out) Tryd.underlying33 rfl (by kernel_rfl) rfl (by (with_reducible repeat first|apply bk1_|apply bk2_|apply bk3_); refine blk_put (cs := #[.int .i64 44, .int .i64 x237001_1]) ?_ 1 _ rfl; (with_reducible repeat first|apply bk1_|apply bk2_|apply bk3_); refine blk_put (cs := #[.int .i64 x237000_1, .int .i64 x237001_1]) ?_ 0 _ rfl; (with_reducible repeat first|apply bk1_|apply bk2_|apply bk3_); refine blk_far ?_ NB236_235.out _; (with_reducible repeat first|apply bk1_|apply bk2_|apply bk3_); refine blk_far ?_ NB236_235.out _; (with_reducible repeat first|apply bk1_|apply bk2_|apply bk3_); refine blk_far ?_ NB236_235.out _; (with_reducible repeat first|apply bk1_|apply bk2_|apply bk3_); refine blk_far ?_ NB236_235.out _; (with_reducible repeat first|apply bk1_|apply bk2_|apply bk3_); refine blk_far ?_ NB236_235.out _; (with_reducible repeat first|apply bk1_|apply bk2_|apply bk3_); exact BK236.out) Tryd.underlying26 rfl (by kernel_rfl)) rfl ?_
             exact ⟨er_, h1_⟩
            ·rw [if_neg c25] at H
             have c25b0 : (t238 == 0) = false := beq_eq_false_iff_ne.mpr c25
             have c25b1 : (t238 != 0) = true := bne_iff_ne.mpr c25
             by_cases c29 : x6_1.length < 140737488355328
             ·rw [if_pos c29] at H
              have LMc29 := Aside0.mk c29
              clear c29
              obtain ⟨y239, hy239⟩ : ∃ y_ : List Int, y_ = (x6_1 ++ [t237]) := ⟨_, rfl⟩
              replace H : (hearsayref04_quoted.l0 kj9 a0 a1 y239 (wrap64 (x7_1 + t238))) = some (r1, r2, r3, r4, r5, r6, r7) := by first | (rw [hy239]; with_reducible exact H) | (have H2_ := (Option.bind_some _ _).symm.trans H; rw [hy239]; with_reducible exact H2_) | (have H2_ := (Option.bind_some _ _).symm.trans H; with_reducible exact H2_) | with_reducible exact H | (rw [hy239]; exact H) | exact H
              have Ny239 := Aside0.mk hy239
              clear hy239
              have H' := Aside0.mk H
              clear H
              have p22 : 0 ≤ (x7_1 : Int) := of_decide_eq_true (by first | (with_reducible assumption) | assumption)
              have q22 : x7_1 < (a0.size : Int) := of_decide_eq_true (by first | (with_reducible assumption) | assumption)
              have hx22 := bt_at a0 x7_1
              replace p22 := eq_true p22
              replace q22 := eq_true q22
              go_wp2_with (first | ((with_reducible refine gate_callee (f := 74) rfl ?_); refine goesL_ (some 50) rfl rfl Tryd.func74 (by kernel_rfl) rfl #[.string a0, .int .i64 x7_1] rfl ar_ ?_; (with_reducible refine (hearsayref04_escape.calls kj9 a0 x7_1 t237 t238 _ A24.out).mono ?_); rintro e w' ⟨rfl, ⟨nd, rfl⟩⟩; refine ⟨_, rfl, ?_⟩) | ((with_reducible refine gate_builtin (b := .append) (xs := #[.tmp 58, .tmp 60]) rfl ?_); at_builtin; refine Kd.R_append (Kd.int .u8) (w0 := w) w.heap.size rfl (.tmp 58) (.tmp 60) 44 5 (.int .u8 0) 1 rfl Tryd.underlying44 info5 rfl (by decide) (by omega) u6 x6_1 t237 [.int .u8 t237] (fun _ => True) (fun _ => False) rfl rfl ?aP (fun _ hk => hk.elim) ?aF ?aO ?aB ?aS ?aL ?_; (case aP => exact rfl); (case aB => exact h1_); (case aF => exact (fun _ _ => trivial)); (case aO => exact (rk_ HO_6)); (case aS => exact (below_size h1_)); (case aL => have := LMc29.out; omega); intro v240 w30 ho hb hg hat; rw [← Ny239.out] at ho; have n0_ := Aside0.mk (blk_grown (g := gb235) (o := .cells #[.int .i64 x236000_1, .string x236001_1, .int .i64 x236002_1, .int .i64 x236003_1, .int .i64 x236004_1] 33 (0, 0)) (bk_ BK235) hg (Kd.R_ne HO_6.out BK235.out (by decide))); have n1_ := Aside0.mk (blk_grown (g := gb236) (o := .cells #[.int .i64 x237000_1, .int .i64 x237001_1] 26 (0, 0)) (bk_ BK236) hg (Kd.R_ne HO_6.out BK236.out (by decide))); have n2_ := Aside0.mk (hb); have n3_ := Aside0.mk (ho); clear BK235; clear BK236; clear HB; clear HO_6; have BK235 := n0_; have BK236 := n1_; have HB := n2_; have HO241 := n3_; clear n0_ n1_ n2_ n3_; clear ho hb hg hat))
              go_roundg kj9
              case measure => have := HK1.out; have := HJ4.out; have := HJ9.out; omega
              case rel => exact ⟨(y239), (wrap64 (x7_1 + t238)), (x236000_1), (x236001_1), (x236002_1), (x236003_1), (x236004_1), (x237000_1), (x237001_1), eq_, H', ⟨by have := HK1.out; have := HJ4.out; have := HJ9.out; omega⟩, ⟨by (with_reducible repeat (first | apply Kd.R_alloc | apply Kd.R_drewN | apply Kd.R_drew)); exact HO241.out⟩, ⟨by (with_reducible repeat first|apply bk1_|apply bk2_|apply bk3_); exact BK235.out⟩, ⟨by (with_reducible repeat first|apply bk1_|apply bk2_|apply bk3_); exact BK236.out⟩, ⟨h1_⟩⟩
             ·rw [if_neg c29] at H
              exact absurd H (by simp)
           ·rw [if_neg c23] at H
            have c23b0 : ((bt a0 x7_1) == 92) = false := beq_eq_false_iff_ne.mpr c23
            have c23b1 : ((bt a0 x7_1) != 92) = true := bne_iff_ne.mpr c23
            by_cases c32 : x6_1.length < 140737488355328
            ·rw [if_pos c32] at H
             have LMc32 := Aside0.mk c32
             clear c32
             obtain ⟨y242, hy242⟩ : ∃ y_ : List Int, y_ = (x6_1 ++ [bt a0 x7_1]) := ⟨_, rfl⟩
             replace H : (hearsayref04_quoted.l0 kj9 a0 a1 y242 (wrap64 (x7_1 + 1))) = some (r1, r2, r3, r4, r5, r6, r7) := by first | (rw [hy242]; with_reducible exact H) | (have H2_ := (Option.bind_some _ _).symm.trans H; rw [hy242]; with_reducible exact H2_) | (have H2_ := (Option.bind_some _ _).symm.trans H; with_reducible exact H2_) | with_reducible exact H | (rw [hy242]; exact H) | exact H
             have Ny242 := Aside0.mk hy242
             clear hy242
             have H' := Aside0.mk H
             clear H
             have p22 : 0 ≤ (x7_1 : Int) := of_decide_eq_true (by first | (with_reducible assumption) | assumption)
             have q22 : x7_1 < (a0.size : Int) := of_decide_eq_true (by first | (with_reducible assumption) | assumption)
             have hx22 := bt_at a0 x7_1
             replace p22 := eq_true p22
             replace q22 := eq_true q22
             have p31 : 0 ≤ (x7_1 : Int) := of_decide_eq_true (by first | (with_reducible assumption) | assumption)
             have q31 : x7_1 < (a0.size : Int) := of_decide_eq_true (by first | (with_reducible assumption) | assumption)
             have hx31 := bt_at a0 x7_1
             replace p31 := eq_true p31
             replace q31 := eq_true q31
             go_wp2_with (first | ((with_reducible refine gate_builtin (b := .append) (xs := #[.tmp 39, .tmp 43]) rfl ?_); at_builtin; refine Kd.R_append (Kd.int .u8) (w0 := w) w.heap.size rfl (.tmp 39) (.tmp 43) 44 5 (.int .u8 0) 1 rfl Tryd.underlying44 info5 rfl (by decide) (by omega) u6 x6_1 (bt a0 x7_1) [.int .u8 (bt a0 x7_1)] (fun _ => True) (fun _ => False) rfl rfl ?aP (fun _ hk => hk.elim) ?aF ?aO ?aB ?aS ?aL ?_; (case aP => exact rfl); (case aB => exact h1_); (case aF => exact (fun _ _ => trivial)); (case aO => exact (rk_ HO_6)); (case aS => exact (below_size h1_)); (case aL => have := LMc32.out; omega); intro v243 w33 ho hb hg hat; rw [← Ny242.out] at ho; have n0_ := Aside0.mk (blk_grown (g := gb235) (o := .cells #[.int .i64 x236000_1, .string x236001_1, .int .i64 x236002_1, .int .i64 x236003_1, .int .i64 x236004_1] 33 (0, 0)) (bk_ BK235) hg (Kd.R_ne HO_6.out BK235.out (by decide))); have n1_ := Aside0.mk (blk_grown (g := gb236) (o := .cells #[.int .i64 x237000_1, .int .i64 x237001_1] 26 (0, 0)) (bk_ BK236) hg (Kd.R_ne HO_6.out BK236.out (by decide))); have n2_ := Aside0.mk (hb); have n3_ := Aside0.mk (ho); clear BK235; clear BK236; clear HB; clear HO_6; have BK235 := n0_; have BK236 := n1_; have HB := n2_; have HO244 := n3_; clear n0_ n1_ n2_ n3_; clear ho hb hg hat))
             go_roundg kj9
             case measure => have := HK1.out; have := HJ4.out; have := HJ9.out; omega
             case rel => exact ⟨(y242), (wrap64 (x7_1 + 1)), (x236000_1), (x236001_1), (x236002_1), (x236003_1), (x236004_1), (x237000_1), (x237001_1), eq_, H', ⟨by have := HK1.out; have := HJ4.out; have := HJ9.out; omega⟩, ⟨by (with_reducible repeat (first | apply Kd.R_alloc | apply Kd.R_drewN | apply Kd.R_drew)); exact HO244.out⟩, ⟨by (with_reducible repeat first|apply bk1_|apply bk2_|apply bk3_); exact BK235.out⟩, ⟨by (with_reducible repeat first|apply bk1_|apply bk2_|apply bk3_); exact BK236.out⟩, ⟨h1_⟩⟩
            ·rw [if_neg c32] at H
             exact absurd H (by simp)
          ·rw [if_neg c21] at H
           exact absurd H (by simp)
         ·rw [if_neg c20] at H
          exact absurd H (by simp)
     ·replace c9 := Bool.eq_false_iff.mpr c9
      subst c9
      have H1 : (if x7_1 ≥ (a0.size : Int) then (some (0, (⟨#[]⟩ : ByteArray), 0, 0, 0, 43, a1)) else (some (3, strOfNums x6_1, 0, a1, wrap64 (x7_1 + 1), 0, 0))) = some (r1, r2, r3, r4, r5, r6, r7) := by rw [if_neg (show ¬ (false = true) by decide)] at H; exact H
      clear H
      have H := H1
      clear H1
      by_cases c34 : x7_1 ≥ (a0.size : Int)
      ·rw [if_pos c34] at H
       have c34b0 : decide ((a0.size : Int) ≤ x7_1) = true := decide_eq_true c34
       clear c34
       simp only [Option.some.injEq, Prod.mk.injEq] at H
       obtain ⟨rfl, rfl, rfl, rfl, rfl, rfl, rfl⟩ := H
       have hnb35 := NB235_236.out
       have hnc35 := NB236_235.out
       have hcz36_0 : wc.cell? ⟨gb235, 0, none⟩ = some (.int .i64 x236000_1) := (blk_cell BK235.out 0).trans rfl
       have hcz36_1 : wc.cell? ⟨gb235, 1, none⟩ = some (.string x236001_1) := (blk_cell BK235.out 1).trans rfl
       have hcz36_2 : wc.cell? ⟨gb235, 2, none⟩ = some (.int .i64 x236002_1) := (blk_cell BK235.out 2).trans rfl
       have hcz36_3 : wc.cell? ⟨gb235, 3, none⟩ = some (.int .i64 x236003_1) := (blk_cell BK235.out 3).trans rfl
       have hcz36_4 : wc.cell? ⟨gb235, 4, none⟩ = some (.int .i64 x236004_1) := (blk_cell BK235.out 4).trans rfl
       have hfz36_0 := blk_frozen BK235.out 0
       have hfz36_1 := blk_frozen BK235.out 1
       have hfz36_2 := blk_frozen BK235.out 2
       have hfz36_3 := blk_frozen BK235.out 3
       have hfz36_4 := blk_frozen BK235.out 4
       have hcz37_0 : wc.cell? ⟨gb236, 0, none⟩ = some (.int .i64 x237000_1) := (blk_cell BK236.out 0).trans rfl
       have hcz37_1 : wc.cell? ⟨gb236, 1, none⟩ = some (.int .i64 x237001_1) := (blk_cell BK236.out 1).trans rfl
       have hfz37_0 := blk_frozen BK236.out 0
       have hfz37_1 := blk_frozen BK236.out 1
       go_wp2
       refine bodyPost_ret (results_cc rfl _ _ gb235 gb236 33 26 #[.int .i64 0, .string (⟨#[]⟩ : ByteArray), .int .i64 0, .int .i64 0, .int .i64 0] #[.int .i64 43, .int .i64 a1] (0, 0) (0, 0) _ _ rfl (by (with_reducible repeat first|apply bk1_|apply bk2_|apply bk3_); refine blk_far ?_ NB235_236.out _; (with_reducible repeat first|apply bk1_|apply bk2_|apply bk3_); refine blk_far ?_ NB235_236.out _; (with_reducible repeat first|apply bk1_|apply bk2_|apply bk3_); refine blk_put (cs := #[.int .i64 0, .string (⟨#[]⟩ : ByteArray), .int .i64 0, .int .i64 0, .int .i64 x236004_1]) ?_ 4 _ rfl; (with_reducible repeat first|apply bk1_|apply bk2_|apply bk3_); refine blk_put (cs := #[.int .i64 0, .string (⟨#[]⟩ : ByteArray), .int .i64 0, .int .i64 x236003_1, .int .i64 x236004_1]) ?_ 3 _ rfl; (with_reducible repeat first|apply bk1_|apply bk2_|apply bk3_); refine blk_put (cs := #[.int .i64 0, .string (⟨#[]⟩ : ByteArray), .int .i64 x236002_1, .int .i64 x236003_1, .int .i64 x236004_1]) ?_ 2 _ rfl; (with_reducible repeat first|apply bk1_|apply bk2_|apply bk3_); refine blk_put (cs := #[.int .i64 0, .string x236001_1, .int .i64 x236002_1, .int .i64 x236003_1, .int .i64 x236004_1]) ?_ 1 _ rfl; (with_reducible repeat first|apply bk1_|apply bk2_|apply bk3_); refine blk_put (cs := #[.int .i64 x236000_1, .string x236001_1, .int .i64 x236002_1, .int .i64 x236003_1, .int .i64 x236004_1]) ?_ 0 _ rfl; (with_reducible repeat first|apply bk1_|apply bk2_|apply bk3_); exact BK235.out) Tryd.underlying33 rfl (by kernel_rfl) rfl (by (with_reducible repeat first|apply bk1_|apply bk2_|apply bk3_); refine blk_put (cs := #[.int .i64 43, .int .i64 x237001_1]) ?_ 1 _ rfl; (with_reducible repeat first|apply bk1_|apply bk2_|apply bk3_); refine blk_put (cs := #[.int .i64 x237000_1, .int .i64 x237001_1]) ?_ 0 _ rfl; (with_reducible repeat first|apply bk1_|apply bk2_|apply bk3_); refine blk_far ?_ NB236_235.out _; (with_reducible repeat first|apply bk1_|apply bk2_|apply bk3_); refine blk_far ?_ NB236_235.out _; (with_reducible repeat first|apply bk1_|apply bk2_|apply bk3_); refine blk_far ?_ NB236_235.out _; (with_reducible repeat first|apply bk1_|apply bk2_|apply bk3_); refine blk_far ?_ NB236_235.out _; (with_reducible repeat first|apply bk1_|apply bk2_|apply bk3_); refine blk_far ?_ NB236_235.out _; (with_reducible repeat first|apply bk1_|apply bk2_|apply bk3_); exact BK236.out) Tryd.underlying26 rfl (by kernel_rfl)) rfl ?_
       exact ⟨er_, h1_⟩
      ·rw [if_neg c34] at H
       have c34b0 : decide ((a0.size : Int) ≤ x7_1) = false := decide_eq_false c34
       clear c34
       simp only [Option.some.injEq, Prod.mk.injEq] at H
       obtain ⟨rfl, rfl, rfl, rfl, rfl, rfl, rfl⟩ := H
       have hcv38 := own_string (P := Tryd.prog) Tryd.underlying44 Tryd.underlying5 Tryd.underlying9 (Kd.own_of_R HO_6.out)
       have hnb39 := NB235_236.out
       have hnc39 := NB236_235.out
       have hcz40_0 : wc.cell? ⟨gb235, 0, none⟩ = some (.int .i64 x236000_1) := (blk_cell BK235.out 0).trans rfl
       have hcz40_1 : wc.cell? ⟨gb235, 1, none⟩ = some (.string x236001_1) := (blk_cell BK235.out 1).trans rfl
       have hcz40_2 : wc.cell? ⟨gb235, 2, none⟩ = some (.int .i64 x236002_1) := (blk_cell BK235.out 2).trans rfl
       have hcz40_3 : wc.cell? ⟨gb235, 3, none⟩ = some (.int .i64 x236003_1) := (blk_cell BK235.out 3).trans rfl
       have hcz40_4 : wc.cell? ⟨gb235, 4, none⟩ = some (.int .i64 x236004_1) := (blk_cell BK235.out 4).trans rfl
       have hfz40_0 := blk_frozen BK235.out 0
       have hfz40_1 := blk_frozen BK235.out 1
       have hfz40_2 := blk_frozen BK235.out 2
       have hfz40_3 := blk_frozen BK235.out 3
       have hfz40_4 := blk_frozen BK235.out 4
       have hcz41_0 : wc.cell? ⟨gb236, 0, none⟩ = some (.int .i64 x237000_1) := (blk_cell BK236.out 0).trans rfl
       have hcz41_1 : wc.cell? ⟨gb236, 1, none⟩ = some (.int .i64 x237001_1) := (blk_cell BK236.out 1).trans rfl
       have hfz41_0 := blk_frozen BK236.out 0
       have hfz41_1 := blk_frozen BK236.out 1
       go_wp2
       refine bodyPost_ret (results_cc rfl _ _ gb235 gb236 33 26 #[.int .i64 3, .string (strOfNums x6_1), .int .i64 0, .int .i64 a1, .int .i64 (wrap64 (x7_1 + 1))] #[.int .i64 0, .int .i64 0] (0, 0) (0, 0) _ _ rfl (by (with_reducible repeat first|apply bk1_|apply bk2_|apply bk3_); refine blk_far ?_ NB235_236.out _; (with_reducible repeat first|apply bk1_|apply bk2_|apply bk3_); refine blk_far ?_ NB235_236.out _; (with_reducible repeat first|apply bk1_|apply bk2_|apply bk3_); refine blk_put (cs := #[.int .i64 3, .string (strOfNums x6_1), .int .i64 0, .int .i64 a1, .int .i64 x236004_1]) ?_ 4 _ rfl; (with_reducible repeat first|apply bk1_|apply bk2_|apply bk3_); refine blk_put (cs := #[.int .i64 3, .string (strOfNums x6_1), .int .i64 0, .int .i64 x236003_1, .int .i64 x236004_1]) ?_ 3 _ rfl; (with_reducible repeat first|apply bk1_|apply bk2_|apply bk3_); refine blk_put (cs := #[.int .i64 3, .string (strOfNums x6_1), .int .i64 x236002_1, .int .i64 x236003_1, .int .i64 x236004_1]) ?_ 2 _ rfl; (with_reducible repeat first|apply bk1_|apply bk2_|apply bk3_); refine blk_put (cs := #[.int .i64 3, .string x236001_1, .int .i64 x236002_1, .int .i64 x236003_1, .int .i64 x236004_1]) ?_ 1 _ rfl; (with_reducible repeat first|apply bk1_|apply bk2_|apply bk3_); refine blk_put (cs := #[.int .i64 x236000_1, .string x236001_1, .int .i64 x236002_1, .int .i64 x236003_1, .int .i64 x236004_1]) ?_ 0 _ rfl; (with_reducible repeat first|apply bk1_|apply bk2_|apply bk3_); exact BK235.out) Tryd.underlying33 rfl (by kernel_rfl) rfl (by (with_reducible repeat first|apply bk1_|apply bk2_|apply bk3_); refine blk_put (cs := #[.int .i64 0, .int .i64 x237001_1]) ?_ 1 _ rfl; (with_reducible repeat first|apply bk1_|apply bk2_|apply bk3_); refine blk_put (cs := #[.int .i64 x237000_1, .int .i64 x237001_1]) ?_ 0 _ rfl; (with_reducible repeat first|apply bk1_|apply bk2_|apply bk3_); refine blk_far ?_ NB236_235.out _; (with_reducible repeat first|apply bk1_|apply bk2_|apply bk3_); refine blk_far ?_ NB236_235.out _; (with_reducible repeat first|apply bk1_|apply bk2_|apply bk3_); refine blk_far ?_ NB236_235.out _; (with_reducible repeat first|apply bk1_|apply bk2_|apply bk3_); refine blk_far ?_ NB236_235.out _; (with_reducible repeat first|apply bk1_|apply bk2_|apply bk3_); refine blk_far ?_ NB236_235.out _; (with_reducible repeat first|apply bk1_|apply bk2_|apply bk3_); exact BK236.out) Tryd.underlying26 rfl (by kernel_rfl)) rfl ?_
       exact ⟨er_, h1_⟩

end Go.Proofs.YtmpaipbpnkfmfaaDoor.P
