/- THE PROGRAM's FUNCTIONS AS PLAIN LEAN FUNCTIONS, and proofs that its calls come to them: written by a program of this claim's own. Conditions: as each theorem states. -/
import Derived.Test.YtmpaipbpnkfmfaaDoorPx0
import Derived.Test.YtmpaipbpnkfmfaaDoorPx5
import Derived.Test.YtmpaipbpnkfmfaaDoorGl
namespace Go.Proofs.YtmpaipbpnkfmfaaDoor.P
open Go.RowKit Go.Proofs.YtmpaipbpnkfmfaaDoorW.PrintWords Go.Proofs.YtmpaipbpnkfmfaaDoorW.PrintLast Go.Proofs.YtmpaipbpnkfmfaaDoorW.PrintMore
attribute [local go_sem] max2_int min2_int max_two min_two max_three min_three max_four min_four   -- for this text's walks alone
set_option linter.unusedVariables false
set_option linter.unusedSimpArgs false

attribute [local go_sem high] isSome_setCell_
/-! ### tokens_Cut: function 14 -/
mutual
def tokens_Cut.l0 : Nat → ByteArray → List (S33) → Int → Option ((List (S33)) × Int × Int)
 | 0, _, _, _ => none
 | k + 1, x0, x6, x7 => if x7 < (x0.size : Int) then (if 0 ≤ x7 then (if (bt x0 x7) = 37 then (tokens_Cut.l1 k x0 x6 x7) else (if (bt x0 x7) = 32 then (tokens_Cut.j2 k x0 x6 x7 ((bt x0 x7) == 32)) else (if (bt x0 x7) = 9 then (tokens_Cut.j2 k x0 x6 x7 ((bt x0 x7) == 9)) else (if (bt x0 x7) = 13 then (tokens_Cut.j2 k x0 x6 x7 ((bt x0 x7) == 13)) else (tokens_Cut.j2 k x0 x6 x7 ((bt x0 x7) == 10)))))) else (none)) else (some (x6, 0, 0))
def tokens_Cut.l1 : Nat → ByteArray → List (S33) → Int → Option ((List (S33)) × Int × Int)
 | 0, _, _, _ => none
 | k + 1, x0, x6, x7 => if x7 < (x0.size : Int) then (if 0 ≤ x7 then (if (bt x0 x7) = 10 then (tokens_Cut.l0 k x0 x6 x7) else (tokens_Cut.l1 k x0 x6 (wrap64 (x7 + 1)))) else (none)) else (tokens_Cut.l0 k x0 x6 x7)
def tokens_Cut.j2 : Nat → ByteArray → List (S33) → Int → Bool → Option ((List (S33)) × Int × Int)
 | 0, _, _, _, _ => none
 | k + 1, x0, x6, x7, x38 => if x38 = true then (tokens_Cut.l0 k x0 x6 (wrap64 (x7 + 1))) else ((tokens_token.f k x0 x7).bind fun bt149 => (if bt149.2.2.2.2.2.1 = 0 then (if x6.length < 2932031007402 then (tokens_Cut.l0 k x0 (x6 ++ [(⟨bt149.1, bt149.2.1, bt149.2.2.1, bt149.2.2.2.1, bt149.2.2.2.2.1⟩ : S33)]) bt149.2.2.2.2.1) else (none)) else (some (([] : List (S33)), bt149.2.2.2.2.2.1, bt149.2.2.2.2.2.2))))
end
def tokens_Cut.f (k : Nat) (a0 : ByteArray) (a1 : Int) : Option ((List (S33)) × Int × Int) := if (a0.size : Int) > a1 then (some (([] : List (S33)), 41, 0)) else (tokens_Cut.l0 k a0 ([] : List (S33)) 0)
theorem tokens_Cut.mono_l : ∀ k, (∀ y0 y1 y2, LeO (tokens_Cut.l0 k y0 y1 y2) (tokens_Cut.l0 (k + 1) y0 y1 y2)) ∧ (∀ y0 y1 y2, LeO (tokens_Cut.l1 k y0 y1 y2) (tokens_Cut.l1 (k + 1) y0 y1 y2)) ∧ (∀ y0 y1 y2 y3, LeO (tokens_Cut.j2 k y0 y1 y2 y3) (tokens_Cut.j2 (k + 1) y0 y1 y2 y3))
 | 0 => ⟨fun _ _ _ r h => by simp [tokens_Cut.l0] at h, fun _ _ _ r h => by simp [tokens_Cut.l1] at h, fun _ _ _ _ r h => by simp [tokens_Cut.j2] at h⟩
 | k + 1 => by
  obtain ⟨ih0, ih1, ih2⟩ := tokens_Cut.mono_l k
  refine ⟨?_, ?_, ?_⟩
  ·intro y0 y1 y2
   unfold tokens_Cut.l0
   repeat' first
   | (with_reducible exact ih0 _ _ _)
   | (with_reducible exact ih1 _ _ _)
   | (with_reducible exact ih2 _ _ _ _)
   | (with_reducible exact tokens_token.mono _ _ _)
   | (with_reducible exact LeO.refl _)
   | (with_reducible exact LeO.none _)
   | (with_reducible refine LeO.ite ?_ ?_)
   | (with_reducible refine LeO.bind ?_ (fun _ => ?_))
   | exact ih0 _ _ _
   | exact ih1 _ _ _
   | exact ih2 _ _ _ _
   | exact tokens_token.mono _ _ _
   | exact LeO.none _
   | refine LeO.ite ?_ ?_
   | refine LeO.bind ?_ (fun _ => ?_)
  ·intro y0 y1 y2
   unfold tokens_Cut.l1
   repeat' first
   | (with_reducible exact ih0 _ _ _)
   | (with_reducible exact ih1 _ _ _)
   | (with_reducible exact ih2 _ _ _ _)
   | (with_reducible exact tokens_token.mono _ _ _)
   | (with_reducible exact LeO.refl _)
   | (with_reducible exact LeO.none _)
   | (with_reducible refine LeO.ite ?_ ?_)
   | (with_reducible refine LeO.bind ?_ (fun _ => ?_))
   | exact ih0 _ _ _
   | exact ih1 _ _ _
   | exact ih2 _ _ _ _
   | exact tokens_token.mono _ _ _
   | exact LeO.none _
   | refine LeO.ite ?_ ?_
   | refine LeO.bind ?_ (fun _ => ?_)
  ·intro y0 y1 y2 y3
   unfold tokens_Cut.j2
   repeat' first
   | (with_reducible exact ih0 _ _ _)
   | (with_reducible exact ih1 _ _ _)
   | (with_reducible exact ih2 _ _ _ _)
   | (with_reducible exact tokens_token.mono _ _ _)
   | (with_reducible exact LeO.refl _)
   | (with_reducible exact LeO.none _)
   | (with_reducible refine LeO.ite ?_ ?_)
   | (with_reducible refine LeO.bind ?_ (fun _ => ?_))
   | exact ih0 _ _ _
   | exact ih1 _ _ _
   | exact ih2 _ _ _ _
   | exact tokens_token.mono _ _ _
   | exact LeO.none _
   | refine LeO.ite ?_ ?_
   | refine LeO.bind ?_ (fun _ => ?_)
theorem tokens_Cut.mono : ∀ a0 a1 k, LeO (tokens_Cut.f k a0 a1) (tokens_Cut.f (k + 1) a0 a1) := by
 intro a0 a1 k
 obtain ⟨ih0, ih1, ih2⟩ := tokens_Cut.mono_l k
 unfold tokens_Cut.f
 repeat' first
   | (with_reducible exact ih0 _ _ _)
   | (with_reducible exact ih1 _ _ _)
   | (with_reducible exact ih2 _ _ _ _)
   | (with_reducible exact tokens_token.mono _ _ _)
   | (with_reducible exact LeO.refl _)
   | (with_reducible exact LeO.none _)
   | (with_reducible refine LeO.ite ?_ ?_)
   | (with_reducible refine LeO.bind ?_ (fun _ => ?_))
   | exact ih0 _ _ _
   | exact ih1 _ _ _
   | exact ih2 _ _ _ _
   | exact tokens_token.mono _ _ _
   | exact LeO.none _
   | refine LeO.ite ?_ ?_
   | refine LeO.bind ?_ (fun _ => ?_)
set_option maxHeartbeats 20000000 in
set_option maxRecDepth 100000 in
theorem tokens_Cut.calls (k : Nat) (a0 : ByteArray) (a1 : Int) (r1 : List (S33)) (r2 : Int) (r3 : Int) (w : World) (hG : Gl w) (h : tokens_Cut.f k a0 a1 = some (r1, r2, r3)) :
  Calls Tryd.prog 14 #[.string a0, .int .i64 a1] w fun e w' => ∃ v0_ : Value, e = .returned (.tuple #[v0_, .agg #[.int .i64 r2, .int .i64 r3]]) ∧ Kd.R k33 33 w' w.heap.size (fun _ => True) v0_ r1 ∧ Below w.heap.size w w' := by
 have hu26 := Tryd.underlying26
 have hu33 := Tryd.underlying33
 have HG := Aside0.mk hG
 clear hG
 have HB := Aside0.mk (Below.refl w.heap.size w)
 have H : (if (a0.size : Int) > a1 then (some (([] : List (S33)), 41, 0)) else (tokens_Cut.l0 k a0 ([] : List (S33)) 0)) = some (r1, r2, r3) := h
 clear h
 by_cases c3 : (a0.size : Int) > a1
 ·rw [if_pos c3] at H
  have c3b0 : decide (a1 < (a0.size : Int)) = true := decide_eq_true c3
  clear c3
  simp only [Option.some.injEq, Prod.mk.injEq] at H
  obtain ⟨rfl, rfl, rfl⟩ := H
  go_enter Tryd.func14, Tryd.ntmps14
  go_wp2_with (first | ((with_reducible refine gate_dst (N := 5) rfl ?_); refine box_event ?hg (N := 5) ?hd (cs := #[.int .i64 0, .int .i64 0]) (t := 26) ?hr ?_; (case hd => rfl); (case hg => rfl); (case hr => first | (go_simp; done) | (go_simp; rfl)); intro gb148 hg w4 hbox hb; have n0_ := Aside0.mk (below_step h0_ hb); have n1_ := Aside0.mk (hbox); have n2_ := Aside0.mk ((by rw [hg]; exact (below_size h0_) : w.heap.size ≤ gb148)); have n3_ := Aside0.mk ((by rw [hg]; exact (below_size h0_) : w.heap.size ≤ gb148)); clear HB; have HB := n0_; have BK148 := n1_; have GW148 := n2_; have GE148 := n3_; clear n0_ n1_ n2_ n3_; clear hb hbox hg; have hcz5_0 : w4.cell? ⟨gb148, 0, none⟩ = some (.int .i64 0) := (blk_cell BK148.out 0).trans rfl; have hcz5_1 : w4.cell? ⟨gb148, 1, none⟩ = some (.int .i64 0) := (blk_cell BK148.out 1).trans rfl; have hfz5_0 := blk_frozen BK148.out 0; have hfz5_1 := blk_frozen BK148.out 1) | go_step3)
  rw [Exit.noGoto_ret]
  refine bodyPost_ret (results_tc rfl _ _ gb148 26 #[.int .i64 41, .int .i64 0] (0, 0) _ rfl (by (with_reducible repeat first|apply bk1_|apply bk2_|apply bk3_); refine blk_put (cs := #[.int .i64 41, .int .i64 0]) ?_ 1 _ rfl; (with_reducible repeat first|apply bk1_|apply bk2_|apply bk3_); refine blk_put (cs := #[.int .i64 0, .int .i64 0]) ?_ 0 _ rfl; (with_reducible repeat first|apply bk1_|apply bk2_|apply bk3_); exact BK148.out) Tryd.underlying26 rfl (by kernel_rfl)) rfl ?_
  exact ⟨_, er_, by first | exact Kd.R_nil _ _ _ _ _ | exact Kd.N_nil _ _ _ _ _ | exact Kd.V_nil _ _ _ _ _ | exact Kd.Q_nil _ _ _ _ _ | exact Kd.S_nil _ _ _ _ _, h1_⟩
 ·rw [if_neg c3] at H
  have c3b0 : decide (a1 < (a0.size : Int)) = false := decide_eq_false c3
  clear c3
  have H' := Aside0.mk H
  clear H
  go_enter Tryd.func14, Tryd.ntmps14
  go_wp2_with (first | ((with_reducible refine gate_dst (N := 5) rfl ?_); refine box_event ?hg (N := 5) ?hd (cs := #[.int .i64 0, .int .i64 0]) (t := 26) ?hr ?_; (case hd => rfl); (case hg => rfl); (case hr => first | (go_simp; done) | (go_simp; rfl)); intro gb148 hg w6 hbox hb; have n0_ := Aside0.mk (below_step h0_ hb); have n1_ := Aside0.mk (hbox); have n2_ := Aside0.mk ((by rw [hg]; exact (below_size h0_) : w.heap.size ≤ gb148)); have n3_ := Aside0.mk ((by rw [hg]; exact (below_size h0_) : w.heap.size ≤ gb148)); clear HB; have HB := n0_; have BK148 := n1_; have GW148 := n2_; have GE148 := n3_; clear n0_ n1_ n2_ n3_; clear hb hbox hg) | go_step3)
  go_loopg [6, 7] k (fun kq v6 v7 w' => ∃ (x6_1 : List (S33)) (x7_1 : Int) (x149000_1 : Int) (x149001_1 : Int), v7 = .int .i64 x7_1 ∧ Aside0 (tokens_Cut.l0 kq a0 x6_1 x7_1 = some (r1, r2, r3)) ∧ Aside0 (kq ≤ k) ∧ Aside0 (Kd.R k33 33 w' w.heap.size (fun _ => True) v6 x6_1) ∧ Aside0 (w'.heap[gb148]? = some (.cells #[.int .i64 x149000_1, .int .i64 x149001_1] 26 (0, 0))) ∧ Aside0 (Below w.heap.size w w'))
  case atStart => exact ⟨(([] : List (S33))), (0), (0), (0), eq_, H', ⟨Nat.le_refl _⟩, ⟨by first | exact Kd.R_nil _ _ _ _ _ | exact Kd.N_nil _ _ _ _ _ | exact Kd.V_nil _ _ _ _ _ | exact Kd.Q_nil _ _ _ _ _ | exact Kd.S_nil _ _ _ _ _⟩, ⟨by (with_reducible repeat first|apply bk1_|apply bk2_|apply bk3_); exact BK148.out⟩, ⟨h1_⟩⟩
  case round =>
   clear H'
   try clear c1
   try clear p2
   try clear c3
   try clear c3b0
   try clear hcz5_0
   try clear hcz5_1
   try clear hfz5_0
   try clear hfz5_1
   obtain ⟨x6_1, x7_1, x149000_1, x149001_1, rfl, HA, HK1, HO_6, BK148, HB⟩ := hrel
   cases gk with
   | zero => exact absurd HA.out (by simp [tokens_Cut.l0])
   | succ k1 =>
    have H := HA.out
    clear HA
    simp only [tokens_Cut.l0] at H
    by_cases c7 : x7_1 < (a0.size : Int)
    ·rw [if_pos c7] at H
     have c7b0 : decide (x7_1 < (a0.size : Int)) = true := decide_eq_true c7
     clear c7
     by_cases c8 : 0 ≤ x7_1
     ·rw [if_pos c8] at H
      have c8b0 : decide (0 ≤ x7_1) = true := decide_eq_true c8
      clear c8
      by_cases c10 : (bt a0 x7_1) = 37
      ·rw [if_pos c10] at H
       have c10b0 : ((bt a0 x7_1) == 37) = true := beq_iff_eq.mpr c10
       have c10b1 : ((bt a0 x7_1) != 37) = false := bne_eq_false_iff_eq.mpr c10
       clear c10
       have H' := Aside0.mk H
       clear H
       have p9 : 0 ≤ (x7_1 : Int) := of_decide_eq_true (by first | (with_reducible assumption) | assumption)
       have q9 : x7_1 < (a0.size : Int) := of_decide_eq_true (by first | (with_reducible assumption) | assumption)
       have hx9 := bt_at a0 x7_1
       replace p9 := eq_true p9
       replace q9 := eq_true q9
       go_wp2_with go_step3
       go_loopg [7] k1 (fun kq v7 w' => ∃ (x7_2 : Int), v7 = .int .i64 x7_2 ∧ Aside0 (tokens_Cut.l1 kq a0 x6_1 x7_2 = some (r1, r2, r3)) ∧ Aside0 (kq ≤ k1) ∧ Aside0 (Kd.R k33 33 w' w.heap.size (fun _ => True) u6 x6_1) ∧ Aside0 (w'.heap[gb148]? = some (.cells #[.int .i64 x149000_1, .int .i64 x149001_1] 26 (0, 0))) ∧ Aside0 (Below w.heap.size w w'))
       case atStart => exact ⟨(x7_1), eq_, H', ⟨Nat.le_refl _⟩, ⟨by (with_reducible repeat (first | apply Kd.R_alloc | apply Kd.R_drewN | apply Kd.R_drew)); exact HO_6.out⟩, ⟨by (with_reducible repeat first|apply bk1_|apply bk2_|apply bk3_); exact BK148.out⟩, ⟨h1_⟩⟩
       case round =>
        clear H'
        try clear c1
        try clear p2
        try clear c3
        try clear c3b0
        try clear c7
        try clear c7b0
        try clear c8
        try clear c8b0
        try clear p9
        try clear q9
        try clear hx9
        try clear c10
        try clear c10b0
        try clear c10b1
        try clear hcz5_0
        try clear hcz5_1
        try clear hfz5_0
        try clear hfz5_1
        try clear p2
        try clear p9
        try clear q9
        obtain ⟨x7_2, rfl, HA, HK2, HO_6, BK148, HB⟩ := hrel
        cases gk with
        | zero => exact absurd HA.out (by simp [tokens_Cut.l1])
        | succ k2 =>
         have H := HA.out
         clear HA
         simp only [tokens_Cut.l1] at H
         by_cases c11 : x7_2 < (a0.size : Int)
         ·rw [if_pos c11] at H
          have c11b0 : decide (x7_2 < (a0.size : Int)) = true := decide_eq_true c11
          clear c11
          by_cases c12 : 0 ≤ x7_2
          ·rw [if_pos c12] at H
           have c12b0 : decide (0 ≤ x7_2) = true := decide_eq_true c12
           clear c12
           by_cases c14 : (bt a0 x7_2) = 10
           ·rw [if_pos c14] at H
            have c14b0 : ((bt a0 x7_2) == 10) = true := beq_iff_eq.mpr c14
            have c14b1 : ((bt a0 x7_2) != 10) = false := bne_eq_false_iff_eq.mpr c14
            clear c14
            have H' := Aside0.mk H
            clear H
            have p13 : 0 ≤ (x7_2 : Int) := of_decide_eq_true (by first | (with_reducible assumption) | assumption)
            have q13 : x7_2 < (a0.size : Int) := of_decide_eq_true (by first | (with_reducible assumption) | assumption)
            have hx13 := bt_at a0 x7_2
            replace p13 := eq_true p13
            replace q13 := eq_true q13
            go_wp2_with go_step3
            go_roundg k2
            case measure => have := HK1.out; have := HK2.out; omega
            case rel => exact ⟨(x6_1), (x7_2), (x149000_1), (x149001_1), eq_, H', ⟨by have := HK1.out; have := HK2.out; omega⟩, ⟨by (with_reducible repeat (first | apply Kd.R_alloc | apply Kd.R_drewN | apply Kd.R_drew)); exact HO_6.out⟩, ⟨by (with_reducible repeat first|apply bk1_|apply bk2_|apply bk3_); exact BK148.out⟩, ⟨h1_⟩⟩
           ·rw [if_neg c14] at H
            have c14b0 : ((bt a0 x7_2) == 10) = false := beq_eq_false_iff_ne.mpr c14
            have c14b1 : ((bt a0 x7_2) != 10) = true := bne_iff_ne.mpr c14
            have H' := Aside0.mk H
            clear H
            have p13 : 0 ≤ (x7_2 : Int) := of_decide_eq_true (by first | (with_reducible assumption) | assumption)
            have q13 : x7_2 < (a0.size : Int) := of_decide_eq_true (by first | (with_reducible assumption) | assumption)
            have hx13 := bt_at a0 x7_2
            replace p13 := eq_true p13
            replace q13 := eq_true q13
            go_wp2_with go_step3
            go_roundg k2
            case measure => have := HK1.out; have := HK2.out; omega
            case rel => exact ⟨(wrap64 (x7_2 + 1)), eq_, H', ⟨by have := HK1.out; have := HK2.out; omega⟩, ⟨by (with_reducible repeat (first | apply Kd.R_alloc | apply Kd.R_drewN | apply Kd.R_drew)); exact HO_6.out⟩, ⟨by (with_reducible repeat first|apply bk1_|apply bk2_|apply bk3_); exact BK148.out⟩, ⟨h1_⟩⟩
          ·rw [if_neg c12] at H
           exact absurd H (by simp)
         ·rw [if_neg c11] at H
          have c11b0 : decide (x7_2 < (a0.size : Int)) = false := decide_eq_false c11
          clear c11
          have H' := Aside0.mk H
          clear H
          go_wp2_with go_step3
          go_roundg k2
          case measure => have := HK1.out; have := HK2.out; omega
          case rel => exact ⟨(x6_1), (x7_2), (x149000_1), (x149001_1), eq_, H', ⟨by have := HK1.out; have := HK2.out; omega⟩, ⟨by (with_reducible repeat (first | apply Kd.R_alloc | apply Kd.R_drewN | apply Kd.R_drew)); exact HO_6.out⟩, ⟨by (with_reducible repeat first|apply bk1_|apply bk2_|apply bk3_); exact BK148.out⟩, ⟨h1_⟩⟩
      ·rw [if_neg c10] at H
       have c10b0 : ((bt a0 x7_1) == 37) = false := beq_eq_false_iff_ne.mpr c10
       have c10b1 : ((bt a0 x7_1) != 37) = true := bne_iff_ne.mpr c10
       have HC15 := Aside0.mk H
       clear H
       have p9 : 0 ≤ (x7_1 : Int) := of_decide_eq_true (by first | (with_reducible assumption) | assumption)
       have q9 : x7_1 < (a0.size : Int) := of_decide_eq_true (by first | (with_reducible assumption) | assumption)
       have hx9 := bt_at a0 x7_1
       replace p9 := eq_true p9
       replace q9 := eq_true q9
       go_upto_if 38 with (fail)
       go_cut [38] (fun v38 wc => ∃ (kq : Nat) (x38_14 : Bool), v38 = .bool x38_14 ∧ Aside0 (tokens_Cut.j2 kq a0 x6_1 x7_1 x38_14 = some (r1, r2, r3)) ∧ Aside0 (kq ≤ k1) ∧ Aside0 (Kd.R k33 33 wc w.heap.size (fun _ => True) u6 x6_1) ∧ Aside0 (wc.heap[gb148]? = some (.cells #[.int .i64 x149000_1, .int .i64 x149001_1] 26 (0, 0))) ∧ Aside0 (Below w.heap.size w wc))
       case first =>
        have H := HC15.out
        clear HC15
        by_cases c16 : (bt a0 x7_1) = 32
        ·rw [if_pos c16] at H
         have c16b0 : ((bt a0 x7_1) == 32) = true := beq_iff_eq.mpr c16
         have c16b1 : ((bt a0 x7_1) != 32) = false := bne_eq_false_iff_eq.mpr c16
         clear c16
         (first | rw [c16b0] | (simp only [i64_w, i32_w]; rw [c16b0]) | skip)
         have H' := Aside0.mk H
         clear H
         go_wp2_with go_step3
         go_meet
         case rel => exact ⟨_, (((bt a0 x7_1) == 32)), eq_, H', ⟨by have := HK1.out; first | omega | exact Nat.le_refl _⟩, ⟨by (with_reducible repeat (first | apply Kd.R_alloc | apply Kd.R_drewN | apply Kd.R_drew)); exact HO_6.out⟩, ⟨by (with_reducible repeat first|apply bk1_|apply bk2_|apply bk3_); exact BK148.out⟩, ⟨h1_⟩⟩
        ·rw [if_neg c16] at H
         have c16b0 : ((bt a0 x7_1) == 32) = false := beq_eq_false_iff_ne.mpr c16
         have c16b1 : ((bt a0 x7_1) != 32) = true := bne_iff_ne.mpr c16
         (first | rw [c16b0] | (simp only [i64_w, i32_w]; rw [c16b0]) | skip)
         by_cases c17 : (bt a0 x7_1) = 9
         ·rw [if_pos c17] at H
          have c17b0 : ((bt a0 x7_1) == 9) = true := beq_iff_eq.mpr c17
          have c17b1 : ((bt a0 x7_1) != 9) = false := bne_eq_false_iff_eq.mpr c17
          clear c17
          have H' := Aside0.mk H
          clear H
          go_wp2_with go_step3
          go_meet
          case rel => exact ⟨_, (((bt a0 x7_1) == 9)), eq_, H', ⟨by have := HK1.out; first | omega | exact Nat.le_refl _⟩, ⟨by (with_reducible repeat (first | apply Kd.R_alloc | apply Kd.R_drewN | apply Kd.R_drew)); exact HO_6.out⟩, ⟨by (with_reducible repeat first|apply bk1_|apply bk2_|apply bk3_); exact BK148.out⟩, ⟨h1_⟩⟩
         ·rw [if_neg c17] at H
          have c17b0 : ((bt a0 x7_1) == 9) = false := beq_eq_false_iff_ne.mpr c17
          have c17b1 : ((bt a0 x7_1) != 9) = true := bne_iff_ne.mpr c17
          by_cases c18 : (bt a0 x7_1) = 13
          ·rw [if_pos c18] at H
           have c18b0 : ((bt a0 x7_1) == 13) = true := beq_iff_eq.mpr c18
           have c18b1 : ((bt a0 x7_1) != 13) = false := bne_eq_false_iff_eq.mpr c18
           clear c18
           have H' := Aside0.mk H
           clear H
           go_wp2_with go_step3
           go_meet
           case rel => exact ⟨_, (((bt a0 x7_1) == 13)), eq_, H', ⟨by have := HK1.out; first | omega | exact Nat.le_refl _⟩, ⟨by (with_reducible repeat (first | apply Kd.R_alloc | apply Kd.R_drewN | apply Kd.R_drew)); exact HO_6.out⟩, ⟨by (with_reducible repeat first|apply bk1_|apply bk2_|apply bk3_); exact BK148.out⟩, ⟨h1_⟩⟩
          ·rw [if_neg c18] at H
           have c18b0 : ((bt a0 x7_1) == 13) = false := beq_eq_false_iff_ne.mpr c18
           have c18b1 : ((bt a0 x7_1) != 13) = true := bne_iff_ne.mpr c18
           have H' := Aside0.mk H
           clear H
           go_wp2_with go_step3
           go_meet
           case rel => exact ⟨_, (((bt a0 x7_1) == 10)), eq_, H', ⟨by have := HK1.out; first | omega | exact Nat.le_refl _⟩, ⟨by (with_reducible repeat (first | apply Kd.R_alloc | apply Kd.R_drewN | apply Kd.R_drew)); exact HO_6.out⟩, ⟨by (with_reducible repeat first|apply bk1_|apply bk2_|apply bk3_); exact BK148.out⟩, ⟨h1_⟩⟩
       case rest =>
        clear HC15
        try clear c1
        try clear p1
        try clear q1
        try clear hx1
        try clear p2
        try clear c3
        try clear c3b0
        try clear p6
        try clear c7
        try clear c7b0
        try clear c8
        try clear c8b0
        try clear p9
        try clear q9
        try clear hx9
        try clear c10
        try clear c10b0
        try clear c10b1
        try clear c11
        try clear c11b0
        try clear c12
        try clear c12b0
        try clear p13
        try clear q13
        try clear hx13
        try clear c14
        try clear c14b0
        try clear c14b1
        try clear c16
        try clear c16b0
        try clear c16b1
        try clear c17
        try clear c17b0
        try clear c17b1
        try clear c18
        try clear c18b0
        try clear c18b1
        try clear hcz5_0
        try clear hcz5_1
        try clear hfz5_0
        try clear hfz5_1
        try clear p13
        try clear p2
        try clear p9
        try clear q13
        try clear q9
        obtain ⟨kq, x38_14, rfl, HA, HJ14, HO_6, BK148, HB⟩ := hcut
        cases kq with
        | zero => exact absurd HA.out (by simp [tokens_Cut.j2])
        | succ kj14 =>
         have H := HA.out
         clear HA
         simp only [tokens_Cut.j2] at H
         by_cases c19 : x38_14 = true
         ·subst c19
          have H1 : (tokens_Cut.l0 kj14 a0 x6_1 (wrap64 (x7_1 + 1))) = some (r1, r2, r3) := by rw [if_pos rfl] at H; exact H
          clear H
          have H := H1
          clear H1
          have H' := Aside0.mk H
          clear H
          go_wp2_with go_step3
          go_roundg kj14
          case measure => have := HK1.out; have := HJ14.out; omega
          case rel => exact ⟨(x6_1), (wrap64 (x7_1 + 1)), (x149000_1), (x149001_1), eq_, H', ⟨by have := HK1.out; have := HJ14.out; omega⟩, ⟨by (with_reducible repeat (first | apply Kd.R_alloc | apply Kd.R_drewN | apply Kd.R_drew)); exact HO_6.out⟩, ⟨by (with_reducible repeat first|apply bk1_|apply bk2_|apply bk3_); exact BK148.out⟩, ⟨h1_⟩⟩
         ·replace c19 := Bool.eq_false_iff.mpr c19
          subst c19
          have H1 : ((tokens_token.f kj14 a0 x7_1).bind fun bt149 => (if bt149.2.2.2.2.2.1 = 0 then (if x6_1.length < 2932031007402 then (tokens_Cut.l0 kj14 a0 (x6_1 ++ [(⟨bt149.1, bt149.2.1, bt149.2.2.1, bt149.2.2.2.1, bt149.2.2.2.2.1⟩ : S33)]) bt149.2.2.2.2.1) else (none)) else (some (([] : List (S33)), bt149.2.2.2.2.2.1, bt149.2.2.2.2.2.2)))) = some (r1, r2, r3) := by rw [if_neg (show ¬ (false = true) by decide)] at H; exact H
          clear H
          have H := H1
          clear H1
          replace H := Option.bind_eq_some_iff.mp H
          obtain ⟨⟨t149, t150, t151, t152, t153, t154, t155⟩, A200, H⟩ := H
          replace H : (if t154 = 0 then (if x6_1.length < 2932031007402 then (tokens_Cut.l0 kj14 a0 (x6_1 ++ [(⟨t149, t150, t151, t152, t153⟩ : S33)]) t153) else (none)) else (some (([] : List (S33)), t154, t155))) = some (r1, r2, r3) := H
          have A20 := Aside0.mk A200
          clear A200
          by_cases c21 : t154 = 0
          ·rw [if_pos c21] at H
           have c21b0 : (t154 == 0) = true := beq_iff_eq.mpr c21
           have c21b1 : (t154 != 0) = false := bne_eq_false_iff_eq.mpr c21
           clear c21
           by_cases c22 : x6_1.length < 2932031007402
           ·rw [if_pos c22] at H
            have LMc22 := Aside0.mk c22
            clear c22
            obtain ⟨y158, hy158⟩ : ∃ y_ : List (S33), y_ = (x6_1 ++ [(⟨t149, t150, t151, t152, t153⟩ : S33)]) := ⟨_, rfl⟩
            replace H : (tokens_Cut.l0 kj14 a0 y158 t153) = some (r1, r2, r3) := by first | (rw [hy158]; with_reducible exact H) | (have H2_ := (Option.bind_some _ _).symm.trans H; rw [hy158]; with_reducible exact H2_) | (have H2_ := (Option.bind_some _ _).symm.trans H; with_reducible exact H2_) | with_reducible exact H | (rw [hy158]; exact H) | exact H
            have Ny158 := Aside0.mk hy158
            clear hy158
            have H' := Aside0.mk H
            clear H
            go_wp2_with (first | ((with_reducible refine gate_callee (f := 34) rfl ?_); refine goesL_ (some 48) rfl rfl Tryd.func34 (by kernel_rfl) rfl #[.string a0, .int .i64 x7_1] rfl ar_ ?_; (with_reducible refine (tokens_token.calls kj14 a0 x7_1 t149 t150 t151 t152 t153 t154 t155 _ ?side1 A20.out).mono ?_); (case side1 => exact Gl.below HG.out h1_); rintro e w23 ⟨rfl, hb⟩; refine ⟨_, rfl, ?_⟩; have n0_ := Aside0.mk (Kd.R_below (rk_ HO_6) hb); have n1_ := Aside0.mk (blk_below (g := gb148) (o := .cells #[.int .i64 x149000_1, .int .i64 x149001_1] 26 (0, 0)) (bk_ BK148) hb); have n2_ := Aside0.mk (below_step h1_ hb); clear HO_6; clear BK148; clear HB; have HO_6 := n0_; have BK148 := n1_; have HB := n2_; clear n0_ n1_ n2_; (try clear hb); (try clear hb2); (try clear hk); (try clear hi)) | ((with_reducible refine gate_dst (N := 9) rfl ?_); refine box_event ?hg (N := 9) ?hd (cs := #[.int .i64 0, .string (⟨#[]⟩ : ByteArray), .int .i64 0, .int .i64 0, .int .i64 0]) (t := 33) ?hr ?_; (case hd => rfl); (case hg => rfl); (case hr => first | (go_simp; done) | (go_simp; rfl)); intro gb156 hg w24 hbox hb; have n0_ := Aside0.mk (Kd.R_below (Kd.R_elderB (rk_ HO_6) gb156 (Nat.le_of_eq hg.symm)) hb); have n1_ := Aside0.mk (blk_below (g := gb148) (o := .cells #[.int .i64 x149000_1, .int .i64 x149001_1] 26 (0, 0)) (bk_ BK148) hb); have n2_ := Aside0.mk (below_step h1_ hb); have n3_ := Aside0.mk (hbox); have n4_ := Aside0.mk ((by rw [hg]; exact (below_size h1_) : w.heap.size ≤ gb156)); have n5_ := Aside0.mk ((by rw [hg]; exact (below_size h1_) : w.heap.size ≤ gb156)); have n6_ := Aside0.mk ((by rw [hg]; exact Nat.ne_of_lt (blk_lt (g := gb148) (o := .cells #[.int .i64 x149000_1, .int .i64 x149001_1] 26 (0, 0)) (bk_ BK148)) : gb148 ≠ gb156)); have n7_ := Aside0.mk ((by rw [hg]; exact Nat.ne_of_gt (blk_lt (g := gb148) (o := .cells #[.int .i64 x149000_1, .int .i64 x149001_1] 26 (0, 0)) (bk_ BK148)) : gb156 ≠ gb148)); clear HO_6; clear BK148; clear HB; have HO_6 := n0_; have BK148 := n1_; have HB := n2_; have BK156 := n3_; have GW156 := n4_; have GE156 := n5_; have NB148_156 := n6_; have NB156_148 := n7_; clear n0_ n1_ n2_ n3_ n4_ n5_ n6_ n7_; clear hb hbox hg) | ((with_reducible refine gate_dst (N := 10) rfl ?_); refine box_event ?hg (N := 10) ?hd (cs := #[.int .i64 0, .int .i64 0]) (t := 26) ?hr ?_; (case hd => rfl); (case hg => rfl); (case hr => first | (go_simp; done) | (go_simp; rfl)); intro gb157 hg w25 hbox hb; have n0_ := Aside0.mk (Kd.R_below (rk_ HO_6) hb); have n1_ := Aside0.mk (blk_below (g := gb148) (o := .cells #[.int .i64 x149000_1, .int .i64 x149001_1] 26 (0, 0)) (bk_ BK148) hb); have n2_ := Aside0.mk (blk_below (g := gb156) (o := .cells #[.int .i64 0, .string (⟨#[]⟩ : ByteArray), .int .i64 0, .int .i64 0, .int .i64 0] 33 (0, 0)) (bk_ BK156) hb); have n3_ := Aside0.mk (below_step h1_ hb); have n4_ := Aside0.mk (hbox); have n5_ := Aside0.mk ((by rw [hg]; exact (below_size h1_) : w.heap.size ≤ gb157)); have n6_ := Aside0.mk ((by rw [hg]; exact (below_size h1_) : w.heap.size ≤ gb157)); have n7_ := Aside0.mk ((by rw [hg]; exact Nat.ne_of_lt (blk_lt (g := gb148) (o := .cells #[.int .i64 x149000_1, .int .i64 x149001_1] 26 (0, 0)) (bk_ BK148)) : gb148 ≠ gb157)); have n8_ := Aside0.mk ((by rw [hg]; exact Nat.ne_of_gt (blk_lt (g := gb148) (o := .cells #[.int .i64 x149000_1, .int .i64 x149001_1] 26 (0, 0)) (bk_ BK148)) : gb157 ≠ gb148)); have n9_ := Aside0.mk ((by rw [hg]; exact Nat.ne_of_lt (blk_lt (g := gb156) (o := .cells #[.int .i64 0, .string (⟨#[]⟩ : ByteArray), .int .i64 0, .int .i64 0, .int .i64 0] 33 (0, 0)) (bk_ BK156)) : gb156 ≠ gb157)); have n10_ := Aside0.mk ((by rw [hg]; exact Nat.ne_of_gt (blk_lt (g := gb156) (o := .cells #[.int .i64 0, .string (⟨#[]⟩ : ByteArray), .int .i64 0, .int .i64 0, .int .i64 0] 33 (0, 0)) (bk_ BK156)) : gb157 ≠ gb156)); clear HO_6; clear BK148; clear BK156; clear HB; have HO_6 := n0_; have BK148 := n1_; have BK156 := n2_; have HB := n3_; have BK157 := n4_; have GW157 := n5_; have GE157 := n6_; have NB148_157 := n7_; have NB157_148 := n8_; have NB156_157 := n9_; have NB157_156 := n10_; clear n0_ n1_ n2_ n3_ n4_ n5_ n6_ n7_ n8_ n9_ n10_; clear hb hbox hg; have hnb26 := NB156_148.out; have hnc26 := NB148_156.out; have hnb27 := NB156_157.out; have hnc27 := NB157_156.out; have hcz28_0 : w25.cell? ⟨gb156, 0, none⟩ = some (.int .i64 0) := (blk_cell BK156.out 0).trans rfl; have hcz28_1 : w25.cell? ⟨gb156, 1, none⟩ = some (.string (⟨#[]⟩ : ByteArray)) := (blk_cell BK156.out 1).trans rfl; have hcz28_2 : w25.cell? ⟨gb156, 2, none⟩ = some (.int .i64 0) := (blk_cell BK156.out 2).trans rfl; have hcz28_3 : w25.cell? ⟨gb156, 3, none⟩ = some (.int .i64 0) := (blk_cell BK156.out 3).trans rfl; have hcz28_4 : w25.cell? ⟨gb156, 4, none⟩ = some (.int .i64 0) := (blk_cell BK156.out 4).trans rfl; have hfz28_0 := blk_frozen BK156.out 0; have hfz28_1 := blk_frozen BK156.out 1; have hfz28_2 := blk_frozen BK156.out 2; have hfz28_3 := blk_frozen BK156.out 3; have hfz28_4 := blk_frozen BK156.out 4; have hnb29 := NB157_148.out; have hnc29 := NB148_157.out; have hcz30_0 : w25.cell? ⟨gb157, 0, none⟩ = some (.int .i64 0) := (blk_cell BK157.out 0).trans rfl; have hcz30_1 : w25.cell? ⟨gb157, 1, none⟩ = some (.int .i64 0) := (blk_cell BK157.out 1).trans rfl; have hfz30_0 := blk_frozen BK157.out 0; have hfz30_1 := blk_frozen BK157.out 1) | ((with_reducible refine gate_builtin (b := .append) (xs := #[.tmp 55, .tmp 57]) rfl ?_); at_builtin; refine Kd.R_append k33 (w0 := w) w.heap.size rfl (.tmp 55) (.tmp 57) 23 33 (.agg #[(.int .i64 0), (.string ⟨#[]⟩), (.int .i64 0), (.int .i64 0), (.int .i64 0)]) 48 rfl Tryd.underlying23 info33 rfl (by decide) (by omega) u6 x6_1 (⟨t149, t150, t151, t152, t153⟩ : S33) [.int .i64 t149, .string t150, .int .i64 t151, .int .i64 t152, .int .i64 t153] (fun k_ => k_ ≠ gb156) (fun _ => False) rfl (by first | (go_simp; done) | (go_simp; rfl)) ?aP (fun _ hk => hk.elim) ?aF ?aO ?aB ?aS ?aL ?_; (case aP => exact k33_mkM _ _ _ (⟨t149, t150, t151, t152, t153⟩ : S33)); (case aB => exact h1_); (case aF => exact (fun k_ hk => Kd.freshB (g := gb156) (o := .cells #[.int .i64 t149, .string t150, .int .i64 t151, .int .i64 t152, .int .i64 t153] 33 (0, 0)) (by (with_reducible repeat first|apply bk1_|apply bk2_|apply bk3_); refine blk_far ?_ NB156_157.out _; (with_reducible repeat first|apply bk1_|apply bk2_|apply bk3_); refine blk_far ?_ NB156_157.out _; (with_reducible repeat first|apply bk1_|apply bk2_|apply bk3_); refine blk_put (cs := #[.int .i64 t149, .string t150, .int .i64 t151, .int .i64 t152, .int .i64 0]) ?_ 4 _ rfl; (with_reducible repeat first|apply bk1_|apply bk2_|apply bk3_); refine blk_put (cs := #[.int .i64 t149, .string t150, .int .i64 t151, .int .i64 0, .int .i64 0]) ?_ 3 _ rfl; (with_reducible repeat first|apply bk1_|apply bk2_|apply bk3_); refine blk_put (cs := #[.int .i64 t149, .string t150, .int .i64 0, .int .i64 0, .int .i64 0]) ?_ 2 _ rfl; (with_reducible repeat first|apply bk1_|apply bk2_|apply bk3_); refine blk_put (cs := #[.int .i64 t149, .string (⟨#[]⟩ : ByteArray), .int .i64 0, .int .i64 0, .int .i64 0]) ?_ 1 _ rfl; (with_reducible repeat first|apply bk1_|apply bk2_|apply bk3_); refine blk_put (cs := #[.int .i64 0, .string (⟨#[]⟩ : ByteArray), .int .i64 0, .int .i64 0, .int .i64 0]) ?_ 0 _ rfl; (with_reducible repeat first|apply bk1_|apply bk2_|apply bk3_); exact BK156.out) k_ hk)); (case aO => exact (by (with_reducible repeat (first | apply Kd.R_alloc | apply Kd.R_drewN | apply Kd.R_drew)); exact Kd.R_mono (Kd.R_far (p := ⟨gb157, 1, none⟩) (Kd.R_far (p := ⟨gb157, 0, none⟩) (Kd.R_far (p := ⟨gb156, 4, none⟩) (Kd.R_far (p := ⟨gb156, 3, none⟩) (Kd.R_far (p := ⟨gb156, 2, none⟩) (Kd.R_far (p := ⟨gb156, 1, none⟩) (Kd.R_far (p := ⟨gb156, 0, none⟩) (Kd.R_types (Kd.R_mono HO_6.out (fun k_ hk => (⟨hk, hk.2⟩ : _ ∧ k_ ≠ gb156))) BK157.out (by decide)) (fun _ hk => hk.1.2) (.int .i64 t149)) (fun _ hk => hk.1.2) (.string t150)) (fun _ hk => hk.1.2) (.int .i64 t151)) (fun _ hk => hk.1.2) (.int .i64 t152)) (fun _ hk => hk.1.2) (.int .i64 t153)) (fun _ hk => hk.2) (.int .i64 t154)) (fun _ hk => hk.2) (.int .i64 t155)) (fun _ hk => hk.1.1.2))); (case aS => exact (below_size h1_)); (case aL => have := LMc22.out; omega); intro v159 w31 ho hb hg hat; rw [← Ny158.out] at ho; have n0_ := Aside0.mk (blk_grown (g := gb148) (o := .cells #[.int .i64 x149000_1, .int .i64 x149001_1] 26 (0, 0)) (by (with_reducible repeat first|apply bk1_|apply bk2_|apply bk3_); refine blk_far ?_ NB148_157.out _; (with_reducible repeat first|apply bk1_|apply bk2_|apply bk3_); refine blk_far ?_ NB148_157.out _; (with_reducible repeat first|apply bk1_|apply bk2_|apply bk3_); refine blk_far ?_ NB148_156.out _; (with_reducible repeat first|apply bk1_|apply bk2_|apply bk3_); refine blk_far ?_ NB148_156.out _; (with_reducible repeat first|apply bk1_|apply bk2_|apply bk3_); refine blk_far ?_ NB148_156.out _; (with_reducible repeat first|apply bk1_|apply bk2_|apply bk3_); refine blk_far ?_ NB148_156.out _; (with_reducible repeat first|apply bk1_|apply bk2_|apply bk3_); refine blk_far ?_ NB148_156.out _; (with_reducible repeat first|apply bk1_|apply bk2_|apply bk3_); exact BK148.out) hg (Kd.R_ne HO_6.out BK148.out (by decide))); have n1_ := Aside0.mk (blk_grown (g := gb156) (o := .cells #[.int .i64 t149, .string t150, .int .i64 t151, .int .i64 t152, .int .i64 t153] 33 (0, 0)) (by (with_reducible repeat first|apply bk1_|apply bk2_|apply bk3_); refine blk_far ?_ NB156_157.out _; (with_reducible repeat first|apply bk1_|apply bk2_|apply bk3_); refine blk_far ?_ NB156_157.out _; (with_reducible repeat first|apply bk1_|apply bk2_|apply bk3_); refine blk_put (cs := #[.int .i64 t149, .string t150, .int .i64 t151, .int .i64 t152, .int .i64 0]) ?_ 4 _ rfl; (with_reducible repeat first|apply bk1_|apply bk2_|apply bk3_); refine blk_put (cs := #[.int .i64 t149, .string t150, .int .i64 t151, .int .i64 0, .int .i64 0]) ?_ 3 _ rfl; (with_reducible repeat first|apply bk1_|apply bk2_|apply bk3_); refine blk_put (cs := #[.int .i64 t149, .string t150, .int .i64 0, .int .i64 0, .int .i64 0]) ?_ 2 _ rfl; (with_reducible repeat first|apply bk1_|apply bk2_|apply bk3_); refine blk_put (cs := #[.int .i64 t149, .string (⟨#[]⟩ : ByteArray), .int .i64 0, .int .i64 0, .int .i64 0]) ?_ 1 _ rfl; (with_reducible repeat first|apply bk1_|apply bk2_|apply bk3_); refine blk_put (cs := #[.int .i64 0, .string (⟨#[]⟩ : ByteArray), .int .i64 0, .int .i64 0, .int .i64 0]) ?_ 0 _ rfl; (with_reducible repeat first|apply bk1_|apply bk2_|apply bk3_); exact BK156.out) hg (Kd.R_away HO_6.out (fun _ hk => hk.2))); have n2_ := Aside0.mk (blk_grown (g := gb157) (o := .cells #[.int .i64 t154, .int .i64 t155] 26 (0, 0)) (by (with_reducible repeat first|apply bk1_|apply bk2_|apply bk3_); refine blk_put (cs := #[.int .i64 t154, .int .i64 0]) ?_ 1 _ rfl; (with_reducible repeat first|apply bk1_|apply bk2_|apply bk3_); refine blk_put (cs := #[.int .i64 0, .int .i64 0]) ?_ 0 _ rfl; (with_reducible repeat first|apply bk1_|apply bk2_|apply bk3_); refine blk_far ?_ NB157_156.out _; (with_reducible repeat first|apply bk1_|apply bk2_|apply bk3_); refine blk_far ?_ NB157_156.out _; (with_reducible repeat first|apply bk1_|apply bk2_|apply bk3_); refine blk_far ?_ NB157_156.out _; (with_reducible repeat first|apply bk1_|apply bk2_|apply bk3_); refine blk_far ?_ NB157_156.out _; (with_reducible repeat first|apply bk1_|apply bk2_|apply bk3_); refine blk_far ?_ NB157_156.out _; (with_reducible repeat first|apply bk1_|apply bk2_|apply bk3_); exact BK157.out) hg (Kd.R_ne HO_6.out BK157.out (by decide))); have n3_ := Aside0.mk (hb); have n4_ := Aside0.mk (ho); clear BK148; clear BK156; clear BK157; clear HB; clear HO_6; have BK148 := n0_; have BK156 := n1_; have BK157 := n2_; have HB := n3_; have HO160 := n4_; clear n0_ n1_ n2_ n3_ n4_; clear ho hb hg hat; have hcz32_0 : w31.cell? ⟨gb156, 0, none⟩ = some (.int .i64 t149) := (blk_cell BK156.out 0).trans rfl; have hcz32_1 : w31.cell? ⟨gb156, 1, none⟩ = some (.string t150) := (blk_cell BK156.out 1).trans rfl; have hcz32_2 : w31.cell? ⟨gb156, 2, none⟩ = some (.int .i64 t151) := (blk_cell BK156.out 2).trans rfl; have hcz32_3 : w31.cell? ⟨gb156, 3, none⟩ = some (.int .i64 t152) := (blk_cell BK156.out 3).trans rfl; have hcz32_4 : w31.cell? ⟨gb156, 4, none⟩ = some (.int .i64 t153) := (blk_cell BK156.out 4).trans rfl; have hfz32_0 := blk_frozen BK156.out 0; have hfz32_1 := blk_frozen BK156.out 1; have hfz32_2 := blk_frozen BK156.out 2; have hfz32_3 := blk_frozen BK156.out 3; have hfz32_4 := blk_frozen BK156.out 4) | go_step3)
            go_roundg kj14
            case measure => have := HK1.out; have := HJ14.out; omega
            case rel => exact ⟨(y158), (t153), (x149000_1), (x149001_1), eq_, H', ⟨by have := HK1.out; have := HJ14.out; omega⟩, ⟨by (with_reducible repeat (first | apply Kd.R_alloc | apply Kd.R_drewN | apply Kd.R_drew)); exact Kd.R_mono HO160.out (fun _ hk => trivial)⟩, ⟨by (with_reducible repeat first|apply bk1_|apply bk2_|apply bk3_); exact BK148.out⟩, ⟨h1_⟩⟩
           ·rw [if_neg c22] at H
            exact absurd H (by simp)
          ·rw [if_neg c21] at H
           have c21b0 : (t154 == 0) = false := beq_eq_false_iff_ne.mpr c21
           have c21b1 : (t154 != 0) = true := bne_iff_ne.mpr c21
           simp only [Option.some.injEq, Prod.mk.injEq] at H
           obtain ⟨rfl, rfl, rfl⟩ := H
           try go_wp2_with (first | ((with_reducible refine gate_callee (f := 34) rfl ?_); refine goesL_ (some 48) rfl rfl Tryd.func34 (by kernel_rfl) rfl #[.string a0, .int .i64 x7_1] rfl ar_ ?_; (with_reducible refine (tokens_token.calls kj14 a0 x7_1 t149 t150 t151 t152 t153 t154 t155 _ ?side1 A20.out).mono ?_); (case side1 => exact Gl.below HG.out h1_); rintro e w33 ⟨rfl, hb⟩; refine ⟨_, rfl, ?_⟩; have n0_ := Aside0.mk (Kd.R_below (rk_ HO_6) hb); have n1_ := Aside0.mk (blk_below (g := gb148) (o := .cells #[.int .i64 x149000_1, .int .i64 x149001_1] 26 (0, 0)) (bk_ BK148) hb); have n2_ := Aside0.mk (below_step h1_ hb); clear HO_6; clear BK148; clear HB; have HO_6 := n0_; have BK148 := n1_; have HB := n2_; clear n0_ n1_ n2_; (try clear hb); (try clear hb2); (try clear hk); (try clear hi)) | ((with_reducible refine gate_dst (N := 9) rfl ?_); refine box_event ?hg (N := 9) ?hd (cs := #[.int .i64 0, .string (⟨#[]⟩ : ByteArray), .int .i64 0, .int .i64 0, .int .i64 0]) (t := 33) ?hr ?_; (case hd => rfl); (case hg => rfl); (case hr => first | (go_simp; done) | (go_simp; rfl)); intro gb156 hg w34 hbox hb; have n0_ := Aside0.mk (Kd.R_below (Kd.R_elderB (rk_ HO_6) gb156 (Nat.le_of_eq hg.symm)) hb); have n1_ := Aside0.mk (blk_below (g := gb148) (o := .cells #[.int .i64 x149000_1, .int .i64 x149001_1] 26 (0, 0)) (bk_ BK148) hb); have n2_ := Aside0.mk (below_step h1_ hb); have n3_ := Aside0.mk (hbox); have n4_ := Aside0.mk ((by rw [hg]; exact (below_size h1_) : w.heap.size ≤ gb156)); have n5_ := Aside0.mk ((by rw [hg]; exact (below_size h1_) : w.heap.size ≤ gb156)); have n6_ := Aside0.mk ((by rw [hg]; exact Nat.ne_of_lt (blk_lt (g := gb148) (o := .cells #[.int .i64 x149000_1, .int .i64 x149001_1] 26 (0, 0)) (bk_ BK148)) : gb148 ≠ gb156)); have n7_ := Aside0.mk ((by rw [hg]; exact Nat.ne_of_gt (blk_lt (g := gb148) (o := .cells #[.int .i64 x149000_1, .int .i64 x149001_1] 26 (0, 0)) (bk_ BK148)) : gb156 ≠ gb148)); clear HO_6; clear BK148; clear HB; have HO_6 := n0_; have BK148 := n1_; have HB := n2_; have BK156 := n3_; have GW156 := n4_; have GE156 := n5_; have NB148_156 := n6_; have NB156_148 := n7_; clear n0_ n1_ n2_ n3_ n4_ n5_ n6_ n7_; clear hb hbox hg) | ((with_reducible refine gate_dst (N := 10) rfl ?_); refine box_event ?hg (N := 10) ?hd (cs := #[.int .i64 0, .int .i64 0]) (t := 26) ?hr ?_; (case hd => rfl); (case hg => rfl); (case hr => first | (go_simp; done) | (go_simp; rfl)); intro gb157 hg w35 hbox hb; have n0_ := Aside0.mk (Kd.R_below (rk_ HO_6) hb); have n1_ := Aside0.mk (blk_below (g := gb148) (o := .cells #[.int .i64 x149000_1, .int .i64 x149001_1] 26 (0, 0)) (bk_ BK148) hb); have n2_ := Aside0.mk (blk_below (g := gb156) (o := .cells #[.int .i64 0, .string (⟨#[]⟩ : ByteArray), .int .i64 0, .int .i64 0, .int .i64 0] 33 (0, 0)) (bk_ BK156) hb); have n3_ := Aside0.mk (below_step h1_ hb); have n4_ := Aside0.mk (hbox); have n5_ := Aside0.mk ((by rw [hg]; exact (below_size h1_) : w.heap.size ≤ gb157)); have n6_ := Aside0.mk ((by rw [hg]; exact (below_size h1_) : w.heap.size ≤ gb157)); have n7_ := Aside0.mk ((by rw [hg]; exact Nat.ne_of_lt (blk_lt (g := gb148) (o := .cells #[.int .i64 x149000_1, .int .i64 x149001_1] 26 (0, 0)) (bk_ BK148)) : gb148 ≠ gb157)); have n8_ := Aside0.mk ((by rw [hg]; exact Nat.ne_of_gt (blk_lt (g := gb148) (o := .cells #[.int .i64 x149000_1, .int .i64 x149001_1] 26 (0, 0)) (bk_ BK148)) : gb157 ≠ gb148)); have n9_ := Aside0.mk ((by rw [hg]; exact Nat.ne_of_lt (blk_lt (g := gb156) (o := .cells #[.int .i64 0, .string (⟨#[]⟩ : ByteArray), .int .i64 0, .int .i64 0, .int .i64 0] 33 (0, 0)) (bk_ BK156)) : gb156 ≠ gb157)); have n10_ := Aside0.mk ((by rw [hg]; exact Nat.ne_of_gt (blk_lt (g := gb156) (o := .cells #[.int .i64 0, .string (⟨#[]⟩ : ByteArray), .int .i64 0, .int .i64 0, .int .i64 0] 33 (0, 0)) (bk_ BK156)) : gb157 ≠ gb156)); clear HO_6; clear BK148; clear BK156; clear HB; have HO_6 := n0_; have BK148 := n1_; have BK156 := n2_; have HB := n3_; have BK157 := n4_; have GW157 := n5_; have GE157 := n6_; have NB148_157 := n7_; have NB157_148 := n8_; have NB156_157 := n9_; have NB157_156 := n10_; clear n0_ n1_ n2_ n3_ n4_ n5_ n6_ n7_ n8_ n9_ n10_; clear hb hbox hg; have hnb36 := NB156_148.out; have hnc36 := NB148_156.out; have hnb37 := NB156_157.out; have hnc37 := NB157_156.out; have hcz38_0 : w35.cell? ⟨gb156, 0, none⟩ = some (.int .i64 0) := (blk_cell BK156.out 0).trans rfl; have hcz38_1 : w35.cell? ⟨gb156, 1, none⟩ = some (.string (⟨#[]⟩ : ByteArray)) := (blk_cell BK156.out 1).trans rfl; have hcz38_2 : w35.cell? ⟨gb156, 2, none⟩ = some (.int .i64 0) := (blk_cell BK156.out 2).trans rfl; have hcz38_3 : w35.cell? ⟨gb156, 3, none⟩ = some (.int .i64 0) := (blk_cell BK156.out 3).trans rfl; have hcz38_4 : w35.cell? ⟨gb156, 4, none⟩ = some (.int .i64 0) := (blk_cell BK156.out 4).trans rfl; have hfz38_0 := blk_frozen BK156.out 0; have hfz38_1 := blk_frozen BK156.out 1; have hfz38_2 := blk_frozen BK156.out 2; have hfz38_3 := blk_frozen BK156.out 3; have hfz38_4 := blk_frozen BK156.out 4; have hnb39 := NB157_148.out; have hnc39 := NB148_157.out; have hcz40_0 : w35.cell? ⟨gb157, 0, none⟩ = some (.int .i64 0) := (blk_cell BK157.out 0).trans rfl; have hcz40_1 : w35.cell? ⟨gb157, 1, none⟩ = some (.int .i64 0) := (blk_cell BK157.out 1).trans rfl; have hfz40_0 := blk_frozen BK157.out 0; have hfz40_1 := blk_frozen BK157.out 1) | go_step3)
           have n0_ : Aside0 (Kd.R k33 33 (((((((w35.setCell ⟨gb156, 0, none⟩ (.int .i64 t149)).setCell ⟨gb156, 1, none⟩ (.string t150)).setCell ⟨gb156, 2, none⟩ (.int .i64 t151)).setCell ⟨gb156, 3, none⟩ (.int .i64 t152)).setCell ⟨gb156, 4, none⟩ (.int .i64 t153)).setCell ⟨gb157, 0, none⟩ (.int .i64 t154)).setCell ⟨gb157, 1, none⟩ (.int .i64 t155)) w.heap.size (fun k_ => k_ ≠ gb156) u6 x6_1) := ⟨by (with_reducible repeat (first | apply Kd.R_alloc | apply Kd.R_drewN | apply Kd.R_drew)); exact Kd.R_mono (Kd.R_far (p := ⟨gb157, 1, none⟩) (Kd.R_far (p := ⟨gb157, 0, none⟩) (Kd.R_far (p := ⟨gb156, 4, none⟩) (Kd.R_far (p := ⟨gb156, 3, none⟩) (Kd.R_far (p := ⟨gb156, 2, none⟩) (Kd.R_far (p := ⟨gb156, 1, none⟩) (Kd.R_far (p := ⟨gb156, 0, none⟩) (Kd.R_types (Kd.R_mono HO_6.out (fun k_ hk => (⟨hk, hk.2⟩ : _ ∧ k_ ≠ gb156))) BK157.out (by decide)) (fun _ hk => hk.1.2) (.int .i64 t149)) (fun _ hk => hk.1.2) (.string t150)) (fun _ hk => hk.1.2) (.int .i64 t151)) (fun _ hk => hk.1.2) (.int .i64 t152)) (fun _ hk => hk.1.2) (.int .i64 t153)) (fun _ hk => hk.2) (.int .i64 t154)) (fun _ hk => hk.2) (.int .i64 t155)) (fun _ hk => hk.1.1.2)⟩
           have n1_ : Aside0 ((((((((w35.setCell ⟨gb156, 0, none⟩ (.int .i64 t149)).setCell ⟨gb156, 1, none⟩ (.string t150)).setCell ⟨gb156, 2, none⟩ (.int .i64 t151)).setCell ⟨gb156, 3, none⟩ (.int .i64 t152)).setCell ⟨gb156, 4, none⟩ (.int .i64 t153)).setCell ⟨gb157, 0, none⟩ (.int .i64 t154)).setCell ⟨gb157, 1, none⟩ (.int .i64 t155)).heap[gb148]? = some (.cells #[.int .i64 x149000_1, .int .i64 x149001_1] 26 (0, 0))) := ⟨by (with_reducible repeat first|apply bk1_|apply bk2_|apply bk3_); refine blk_far ?_ NB148_157.out _; (with_reducible repeat first|apply bk1_|apply bk2_|apply bk3_); refine blk_far ?_ NB148_157.out _; (with_reducible repeat first|apply bk1_|apply bk2_|apply bk3_); refine blk_far ?_ NB148_156.out _; (with_reducible repeat first|apply bk1_|apply bk2_|apply bk3_); refine blk_far ?_ NB148_156.out _; (with_reducible repeat first|apply bk1_|apply bk2_|apply bk3_); refine blk_far ?_ NB148_156.out _; (with_reducible repeat first|apply bk1_|apply bk2_|apply bk3_); refine blk_far ?_ NB148_156.out _; (with_reducible repeat first|apply bk1_|apply bk2_|apply bk3_); refine blk_far ?_ NB148_156.out _; (with_reducible repeat first|apply bk1_|apply bk2_|apply bk3_); exact BK148.out⟩
           have n2_ : Aside0 ((((((((w35.setCell ⟨gb156, 0, none⟩ (.int .i64 t149)).setCell ⟨gb156, 1, none⟩ (.string t150)).setCell ⟨gb156, 2, none⟩ (.int .i64 t151)).setCell ⟨gb156, 3, none⟩ (.int .i64 t152)).setCell ⟨gb156, 4, none⟩ (.int .i64 t153)).setCell ⟨gb157, 0, none⟩ (.int .i64 t154)).setCell ⟨gb157, 1, none⟩ (.int .i64 t155)).heap[gb156]? = some (.cells #[.int .i64 t149, .string t150, .int .i64 t151, .int .i64 t152, .int .i64 t153] 33 (0, 0))) := ⟨by (with_reducible repeat first|apply bk1_|apply bk2_|apply bk3_); refine blk_far ?_ NB156_157.out _; (with_reducible repeat first|apply bk1_|apply bk2_|apply bk3_); refine blk_far ?_ NB156_157.out _; (with_reducible repeat first|apply bk1_|apply bk2_|apply bk3_); refine blk_put (cs := #[.int .i64 t149, .string t150, .int .i64 t151, .int .i64 t152, .int .i64 0]) ?_ 4 _ rfl; (with_reducible repeat first|apply bk1_|apply bk2_|apply bk3_); refine blk_put (cs := #[.int .i64 t149, .string t150, .int .i64 t151, .int .i64 0, .int .i64 0]) ?_ 3 _ rfl; (with_reducible repeat first|apply bk1_|apply bk2_|apply bk3_); refine blk_put (cs := #[.int .i64 t149, .string t150, .int .i64 0, .int .i64 0, .int .i64 0]) ?_ 2 _ rfl; (with_reducible repeat first|apply bk1_|apply bk2_|apply bk3_); refine blk_put (cs := #[.int .i64 t149, .string (⟨#[]⟩ : ByteArray), .int .i64 0, .int .i64 0, .int .i64 0]) ?_ 1 _ rfl; (with_reducible repeat first|apply bk1_|apply bk2_|apply bk3_); refine blk_put (cs := #[.int .i64 0, .string (⟨#[]⟩ : ByteArray), .int .i64 0, .int .i64 0, .int .i64 0]) ?_ 0 _ rfl; (with_reducible repeat first|apply bk1_|apply bk2_|apply bk3_); exact BK156.out⟩
           have n3_ : Aside0 ((((((((w35.setCell ⟨gb156, 0, none⟩ (.int .i64 t149)).setCell ⟨gb156, 1, none⟩ (.string t150)).setCell ⟨gb156, 2, none⟩ (.int .i64 t151)).setCell ⟨gb156, 3, none⟩ (.int .i64 t152)).setCell ⟨gb156, 4, none⟩ (.int .i64 t153)).setCell ⟨gb157, 0, none⟩ (.int .i64 t154)).setCell ⟨gb157, 1, none⟩ (.int .i64 t155)).heap[gb157]? = some (.cells #[.int .i64 t154, .int .i64 t155] 26 (0, 0))) := ⟨by (with_reducible repeat first|apply bk1_|apply bk2_|apply bk3_); refine blk_put (cs := #[.int .i64 t154, .int .i64 0]) ?_ 1 _ rfl; (with_reducible repeat first|apply bk1_|apply bk2_|apply bk3_); refine blk_put (cs := #[.int .i64 0, .int .i64 0]) ?_ 0 _ rfl; (with_reducible repeat first|apply bk1_|apply bk2_|apply bk3_); refine blk_far ?_ NB157_156.out _; (with_reducible repeat first|apply bk1_|apply bk2_|apply bk3_); refine blk_far ?_ NB157_156.out _; (with_reducible repeat first|apply bk1_|apply bk2_|apply bk3_); refine blk_far ?_ NB157_156.out _; (with_reducible repeat first|apply bk1_|apply bk2_|apply bk3_); refine blk_far ?_ NB157_156.out _; (with_reducible repeat first|apply bk1_|apply bk2_|apply bk3_); refine blk_far ?_ NB157_156.out _; (with_reducible repeat first|apply bk1_|apply bk2_|apply bk3_); exact BK157.out⟩
           have n4_ : Aside0 (Below w.heap.size w (((((((w35.setCell ⟨gb156, 0, none⟩ (.int .i64 t149)).setCell ⟨gb156, 1, none⟩ (.string t150)).setCell ⟨gb156, 2, none⟩ (.int .i64 t151)).setCell ⟨gb156, 3, none⟩ (.int .i64 t152)).setCell ⟨gb156, 4, none⟩ (.int .i64 t153)).setCell ⟨gb157, 0, none⟩ (.int .i64 t154)).setCell ⟨gb157, 1, none⟩ (.int .i64 t155))) := ⟨h1_⟩
           (try clear HO_6)
           (try clear BK148)
           (try clear BK156)
           (try clear BK157)
           (try clear HB)
           generalize (((((((w35.setCell ⟨gb156, 0, none⟩ (.int .i64 t149)).setCell ⟨gb156, 1, none⟩ (.string t150)).setCell ⟨gb156, 2, none⟩ (.int .i64 t151)).setCell ⟨gb156, 3, none⟩ (.int .i64 t152)).setCell ⟨gb156, 4, none⟩ (.int .i64 t153)).setCell ⟨gb157, 0, none⟩ (.int .i64 t154)).setCell ⟨gb157, 1, none⟩ (.int .i64 t155)) = w41 at n0_ n1_ n2_ n3_ n4_ ⊢
           have HO_6 := n0_
           have BK148 := n1_
           have BK156 := n2_
           have BK157 := n3_
           have HB := n4_
           clear n0_ n1_ n2_ n3_ n4_
           have n0_ := Aside0.mk (Kd.R_drew HO_6.out)
           have n1_ := Aside0.mk (blk_drew BK148.out)
           have n2_ := Aside0.mk (blk_drew BK156.out)
           have n3_ := Aside0.mk (blk_drew BK157.out)
           have n4_ := Aside0.mk (below_drew1 HB.out)
           clear HO_6 BK148 BK156 BK157 HB
           have HO_6 := n0_
           have BK148 := n1_
           have BK156 := n2_
           have BK157 := n3_
           have HB := n4_
           clear n0_ n1_ n2_ n3_ n4_
           refine start_ (n := 3) (S := fun w' => w'.cell? ⟨gb157, 0, none⟩ = some (.int .i64 t154) ∧ w'.cell? ⟨gb157, 1, none⟩ = some (.int .i64 t155)) (ds := []) #[f_,f_,f_] (by kernel_rfl) rfl rfl ⟨(blk_cell BK157.out 0).trans rfl, (blk_cell BK157.out 1).trans rfl⟩ (fun hHeld => ?_)
           generalize w41.drew = w42 at HO_6 BK148 BK156 BK157 HB hHeld ⊢
           refine pure_ (i := 1) (N := some 4) (v := ?_) (a' := ?_) #[f_,t_,f_] rfl rfl (by kernel_rfl) (fun _ _ _ h => h) (Or.inl ⟨by rfl, ?_⟩) ?_ ?_
           rotate_left
           ·intro w'
            go_simp
            with_reducible rfl
           rotate_left
           ·simp only [Act.put, List.setIfInBounds_toArray, List.set_cons_zero, List.set_cons_succ, i64_w, i32_w]
            rfl
           refine take_ (i := 0) (N := some 54) (v := ?_) (a' := ?_) #[t_,t_,f_] rfl rfl (by kernel_rfl) (fun _ _ _ h => h) (Or.inl ⟨by rfl, ?_⟩) hHeld ?_ ?_
           rotate_left
           ·rintro w' ⟨s0, s1⟩
            go_simp
            with_reducible rfl
           rotate_left
           ·simp only [Act.put, List.setIfInBounds_toArray, List.set_cons_zero, List.set_cons_succ, i64_w, i32_w]
            rfl
           refine one_ (i := 2) (N := none) #[t_,t_,t_] rfl rfl (by kernel_rfl) (by decide) (fun K hK => ?_)
           have hs43 : w42.cell? ⟨gb148, 0, none⟩ = some (.int .i64 x149000_1) := (blk_cell BK148.out 0).trans rfl
           have hfs43 := blk_frozen BK148.out 0
           have hns43_1 := NB156_148.out
           have hns43_2 := NB157_148.out
           have hms43_1 := NB148_156.out
           have hms43_2 := NB148_157.out
           have hs44 : w42.cell? ⟨gb148, 1, none⟩ = some (.int .i64 x149001_1) := (blk_cell BK148.out 1).trans rfl
           have hfs44 := blk_frozen BK148.out 1
           have hns44_1 := NB156_148.out
           have hns44_2 := NB157_148.out
           have hms44_1 := NB148_156.out
           have hms44_2 := NB148_157.out
           refine skip_ (w1 := ?_) (by rfl) rfl ?_ ?_
           rotate_left
           ·go_simp
            rfl
           refine hK.out _ _ ⟨((cell_far (p := ⟨gb148, _, none⟩) NB157_148.out _).trans (((cell_far (p := ⟨gb148, _, none⟩) NB157_148.out _).trans (hHeld.1)))), ((cell_far (p := ⟨gb148, _, none⟩) NB157_148.out _).trans (((cell_far (p := ⟨gb148, _, none⟩) NB157_148.out _).trans (hHeld.2))))⟩ (fun hHeld => ?_)
           clear hK K
           refine done_ (by kernel_rfl) ?_
           try go_wp2_with go_step3
           rw [Exit.noGoto_ret]
           refine bodyPost_ret (results_tc rfl _ _ gb148 26 #[.int .i64 t154, .int .i64 t155] (0, 0) _ rfl (by (with_reducible repeat first|apply bk1_|apply bk2_|apply bk3_); refine blk_put (cs := #[.int .i64 t154, .int .i64 x149001_1]) ?_ 1 _ rfl; (with_reducible repeat first|apply bk1_|apply bk2_|apply bk3_); refine blk_put (cs := #[.int .i64 x149000_1, .int .i64 x149001_1]) ?_ 0 _ rfl; (with_reducible repeat first|apply bk1_|apply bk2_|apply bk3_); exact BK148.out) Tryd.underlying26 rfl (by kernel_rfl)) rfl ?_
           exact ⟨_, er_, by first | exact Kd.R_nil _ _ _ _ _ | exact Kd.N_nil _ _ _ _ _ | exact Kd.V_nil _ _ _ _ _ | exact Kd.Q_nil _ _ _ _ _ | exact Kd.S_nil _ _ _ _ _, h1_⟩
     ·rw [if_neg c8] at H
      exact absurd H (by simp)
    ·rw [if_neg c7] at H
     have c7b0 : decide (x7_1 < (a0.size : Int)) = false := decide_eq_false c7
     clear c7
     simp only [Option.some.injEq, Prod.mk.injEq] at H
     obtain ⟨rfl, rfl, rfl⟩ := H
     have hcz45_0 : wr.cell? ⟨gb148, 0, none⟩ = some (.int .i64 x149000_1) := (blk_cell BK148.out 0).trans rfl
     have hcz45_1 : wr.cell? ⟨gb148, 1, none⟩ = some (.int .i64 x149001_1) := (blk_cell BK148.out 1).trans rfl
     have hfz45_0 := blk_frozen BK148.out 0
     have hfz45_1 := blk_frozen BK148.out 1
     go_wp2_with go_step3
     rw [Exit.noGoto_ret]
     refine bodyPost_ret (results_tc rfl _ _ gb148 26 #[.int .i64 0, .int .i64 0] (0, 0) _ rfl (by (with_reducible repeat first|apply bk1_|apply bk2_|apply bk3_); refine blk_put (cs := #[.int .i64 0, .int .i64 x149001_1]) ?_ 1 _ rfl; (with_reducible repeat first|apply bk1_|apply bk2_|apply bk3_); refine blk_put (cs := #[.int .i64 x149000_1, .int .i64 x149001_1]) ?_ 0 _ rfl; (with_reducible repeat first|apply bk1_|apply bk2_|apply bk3_); exact BK148.out) Tryd.underlying26 rfl (by kernel_rfl)) rfl ?_
     exact ⟨_, er_, by (with_reducible repeat (first | apply Kd.R_alloc | apply Kd.R_drewN | apply Kd.R_drew)); exact Kd.R_mono (Kd.R_far (p := ⟨gb148, 1, none⟩) (Kd.R_far (p := ⟨gb148, 0, none⟩) (Kd.R_types HO_6.out BK148.out (by decide)) (fun _ hk => hk.2) (.int .i64 0)) (fun _ hk => hk.2) (.int .i64 0)) (fun _ hk => trivial), h1_⟩

end Go.Proofs.YtmpaipbpnkfmfaaDoor.P
