/- THE PROGRAM's FUNCTIONS AS PLAIN LEAN FUNCTIONS, and proofs that its calls come to them: written by a program of this claim's own. Conditions: as each theorem states. -/
import Derived.Test.YtmpaipbpnkfmfaaDoorPx0
import Derived.Test.YtmpaipbpnkfmfaaDoorPx2
import Derived.Test.YtmpaipbpnkfmfaaDoorPx6
import Derived.Test.YtmpaipbpnkfmfaaDoorPx12
import Derived.Test.YtmpaipbpnkfmfaaDoorPx15
import Derived.Test.YtmpaipbpnkfmfaaDoorPx19
import Derived.Test.YtmpaipbpnkfmfaaDoorGl
namespace Go.Proofs.YtmpaipbpnkfmfaaDoor.P
open Go.RowKit Go.Proofs.YtmpaipbpnkfmfaaDoorW.PrintWords Go.Proofs.YtmpaipbpnkfmfaaDoorW.PrintLast Go.Proofs.YtmpaipbpnkfmfaaDoorW.PrintMore
attribute [local go_sem] max2_int min2_int max_two min_two max_three min_three max_four min_four   -- for this text's walks alone
set_option linter.unusedVariables false
set_option linter.unusedSimpArgs false

attribute [local go_sem high] isSome_setCell_
attribute [local go_sem high] eqA33
/-! ### hearsaylaw04_TokensPlaces: function 8 -/
mutual
def hearsaylaw04_TokensPlaces.l0 : Nat → ByteArray → List (S33) → Int → Int → Option (Bool)
 | 0, _, _, _, _ => none
 | k + 1, x0, x3, x5, x6 => if x6 < (x3.length : Int) then (if 0 ≤ x6 then (if ((rd_T33 x3 x6).f3) < x5 then (hearsaylaw04_TokensPlaces.j1 k x0 x3 x6 true ((rd_T33 x3 x6).f0) ((rd_T33 x3 x6).f1) ((rd_T33 x3 x6).f2) ((rd_T33 x3 x6).f3) ((rd_T33 x3 x6).f4)) else (if ((rd_T33 x3 x6).f4) ≤ ((rd_T33 x3 x6).f3) then (hearsaylaw04_TokensPlaces.j1 k x0 x3 x6 true ((rd_T33 x3 x6).f0) ((rd_T33 x3 x6).f1) ((rd_T33 x3 x6).f2) ((rd_T33 x3 x6).f3) ((rd_T33 x3 x6).f4)) else (if ((rd_T33 x3 x6).f4) > (x0.size : Int) then (hearsaylaw04_TokensPlaces.j1 k x0 x3 x6 true ((rd_T33 x3 x6).f0) ((rd_T33 x3 x6).f1) ((rd_T33 x3 x6).f2) ((rd_T33 x3 x6).f3) ((rd_T33 x3 x6).f4)) else (if 0 ≤ x5 then (if x5 ≤ ((rd_T33 x3 x6).f3) then (if ((rd_T33 x3 x6).f3) ≤ (x0.size : Int) then ((hearsaylaw04_gap.f k (x0.extract (x5 : Int).toNat (((rd_T33 x3 x6).f3) : Int).toNat) false).bind fun t463 => (hearsaylaw04_TokensPlaces.j1 k x0 x3 x6 (!t463) ((rd_T33 x3 x6).f0) ((rd_T33 x3 x6).f1) ((rd_T33 x3 x6).f2) ((rd_T33 x3 x6).f3) ((rd_T33 x3 x6).f4))) else (none)) else (none)) else (none))))) else (none)) else (if 0 ≤ x5 then (if x5 ≤ (x0.size : Int) then ((hearsaylaw04_gap.f k (x0.extract (x5 : Int).toNat x0.size) true).bind fun t460 => (some t460)) else (none)) else (none))
def hearsaylaw04_TokensPlaces.j1 : Nat → ByteArray → List (S33) → Int → Bool → Int → ByteArray → Int → Int → Int → Option (Bool)
 | 0, _, _, _, _, _, _, _, _, _ => none
 | k + 1, x0, x3, x6, x59, x463000, x463001, x463002, x463003, x463004 => if x59 = true then (some false) else (if 0 ≤ x463003 then (if x463003 ≤ x463004 then (if x463004 ≤ (x0.size : Int) then ((tokens_Cut.f k (x0.extract (x463003 : Int).toNat (x463004 : Int).toNat) ((x0.extract (x463003 : Int).toNat (x463004 : Int).toNat).size : Int)).bind fun bt464 => (if bt464.2.1 = 0 then (if (bt464.1.length : Int) = 1 then (if 0 < (bt464.1.length : Int) then ((hearsaylaw04_bare.f ((rd_T33 bt464.1 0).f0) ((rd_T33 bt464.1 0).f1) ((rd_T33 bt464.1 0).f2) ((rd_T33 bt464.1 0).f3) ((rd_T33 bt464.1 0).f4)).bind fun bt471 => ((hearsaylaw04_bare.f x463000 x463001 x463002 x463003 x463004).bind fun bt476 => (if (!(bt471.1 == bt476.1) || (!(bt471.2.1.toList == bt476.2.1.toList) || (!(bt471.2.2.1 == bt476.2.2.1) || (!(bt471.2.2.2.1 == bt476.2.2.2.1) || (!(bt471.2.2.2.2 == bt476.2.2.2.2)))))) = true then (some false) else (if ((rd_T33 bt464.1 0).f3) = 0 then (if ((rd_T33 bt464.1 0).f4) = ((x0.extract (x463003 : Int).toNat (x463004 : Int).toNat).size : Int) then (hearsaylaw04_TokensPlaces.l0 k x0 x3 x463004 (wrap64 (x6 + 1))) else (some false)) else (some false))))) else (none)) else (some false)) else (some false))) else (none)) else (none)) else (none))
end
def hearsaylaw04_TokensPlaces.f (k : Nat) (a0 : ByteArray) : Option (Bool) := (tokens_Cut.f k a0 (a0.size : Int)).bind fun bt453 => ((hearsaylaw04_head.f k).bind fun t459 => (if t459 = true then (if bt453.2.1 = 0 then (hearsaylaw04_TokensPlaces.l0 k a0 bt453.1 0 0) else (some true)) else (some false)))
theorem hearsaylaw04_TokensPlaces.mono_l : ∀ k, (∀ y0 y1 y2 y3, LeO (hearsaylaw04_TokensPlaces.l0 k y0 y1 y2 y3) (hearsaylaw04_TokensPlaces.l0 (k + 1) y0 y1 y2 y3)) ∧ (∀ y0 y1 y2 y3 y4 y5 y6 y7 y8, LeO (hearsaylaw04_TokensPlaces.j1 k y0 y1 y2 y3 y4 y5 y6 y7 y8) (hearsaylaw04_TokensPlaces.j1 (k + 1) y0 y1 y2 y3 y4 y5 y6 y7 y8))
 | 0 => ⟨fun _ _ _ _ r h => by simp [hearsaylaw04_TokensPlaces.l0] at h, fun _ _ _ _ _ _ _ _ _ r h => by simp [hearsaylaw04_TokensPlaces.j1] at h⟩
 | k + 1 => by
  obtain ⟨ih0, ih1⟩ := hearsaylaw04_TokensPlaces.mono_l k
  refine ⟨?_, ?_⟩
  ·intro y0 y1 y2 y3
   unfold hearsaylaw04_TokensPlaces.l0
   repeat' first
   | (with_reducible exact ih0 _ _ _ _)
   | (with_reducible exact ih1 _ _ _ _ _ _ _ _ _)
   | (with_reducible exact hearsaylaw04_gap.mono _ _ _)
   | (with_reducible exact hearsaylaw04_head.mono _)
   | (with_reducible exact tokens_Cut.mono _ _ _)
   | (with_reducible exact LeO.refl _)
   | (with_reducible exact LeO.none _)
   | (with_reducible refine LeO.ite ?_ ?_)
   | (with_reducible refine LeO.bind ?_ (fun _ => ?_))
   | exact ih0 _ _ _ _
   | exact ih1 _ _ _ _ _ _ _ _ _
   | exact hearsaylaw04_gap.mono _ _ _
   | exact hearsaylaw04_head.mono _
   | exact tokens_Cut.mono _ _ _
   | exact LeO.none _
   | refine LeO.ite ?_ ?_
   | refine LeO.bind ?_ (fun _ => ?_)
  ·intro y0 y1 y2 y3 y4 y5 y6 y7 y8
   unfold hearsaylaw04_TokensPlaces.j1
   repeat' first
   | (with_reducible exact ih0 _ _ _ _)
   | (with_reducible exact ih1 _ _ _ _ _ _ _ _ _)
   | (with_reducible exact hearsaylaw04_gap.mono _ _ _)
   | (with_reducible exact hearsaylaw04_head.mono _)
   | (with_reducible exact tokens_Cut.mono _ _ _)
   | (with_reducible exact LeO.refl _)
   | (with_reducible exact LeO.none _)
   | (with_reducible refine LeO.ite ?_ ?_)
   | (with_reducible refine LeO.bind ?_ (fun _ => ?_))
   | exact ih0 _ _ _ _
   | exact ih1 _ _ _ _ _ _ _ _ _
   | exact hearsaylaw04_gap.mono _ _ _
   | exact hearsaylaw04_head.mono _
   | exact tokens_Cut.mono _ _ _
   | exact LeO.none _
   | refine LeO.ite ?_ ?_
   | refine LeO.bind ?_ (fun _ => ?_)
theorem hearsaylaw04_TokensPlaces.mono : ∀ a0 k, LeO (hearsaylaw04_TokensPlaces.f k a0) (hearsaylaw04_TokensPlaces.f (k + 1) a0) := by
 intro a0 k
 obtain ⟨ih0, ih1⟩ := hearsaylaw04_TokensPlaces.mono_l k
 unfold hearsaylaw04_TokensPlaces.f
 repeat' first
   | (with_reducible exact ih0 _ _ _ _)
   | (with_reducible exact ih1 _ _ _ _ _ _ _ _ _)
   | (with_reducible exact hearsaylaw04_gap.mono _ _ _)
   | (with_reducible exact hearsaylaw04_head.mono _)
   | (with_reducible exact tokens_Cut.mono _ _ _)
   | (with_reducible exact LeO.refl _)
   | (with_reducible exact LeO.none _)
   | (with_reducible refine LeO.ite ?_ ?_)
   | (with_reducible refine LeO.bind ?_ (fun _ => ?_))
   | exact ih0 _ _ _ _
   | exact ih1 _ _ _ _ _ _ _ _ _
   | exact hearsaylaw04_gap.mono _ _ _
   | exact hearsaylaw04_head.mono _
   | exact tokens_Cut.mono _ _ _
   | exact LeO.none _
   | refine LeO.ite ?_ ?_
   | refine LeO.bind ?_ (fun _ => ?_)
def hearsaylaw04_TokensPlaces.T15 : Bool × List (List Nat × List Nat) := (true, [([], []), ([0], [0]), ([1], [1]), ([2], [2]), ([3], [3]), ([4, 3], [3, 4]), ([5, 3], [3, 5]), ([3, 6], [3, 6]), ([7, 3], [7]), ([8], [8]), ([9, 8], [8, 9]), ([10, 8], [8, 10]), ([11, 8, 8], [8, 11]), ([8], [8]), ([13, 12, 8], [8, 13]), ([12, 14, 8], [8, 12, 14]), ([8, 15], [8, 15]), ([16, 14], [16]), ([17], [17]), ([18, 17], [17, 18]), ([19, 17], [17, 19]), ([20, 17], [17, 20]), ([21, 17], [17, 21]), ([17, 22], [17, 22]), ([23, 17], [23]), ([24], [24]), ([25, 24], [24, 25]), ([26, 24], [24, 26]), ([27, 24], [24, 27]), ([24], [24]), ([29, 24], [24, 29]), ([28, 30, 24], [24, 28, 30]), ([24, 31], [24, 31])])
def hearsaylaw04_TokensPlaces.B15 : List Nat := [0, 1, 3, 7, 15, 31, 63, 127, 255, 511, 1023, 2047, 4095, 511, 16383, 32767, 65535, 131071, 262143, 524287, 1048575, 2097151, 4194303, 8388607, 16777215, 33554431, 67108863, 134217727, 268435455, 33554431, 570425343, 2147483647, 4294967295]
theorem hearsaylaw04_TokensPlaces.tab15 : rtab .any (opsOf Tryd.f8 15) = hearsaylaw04_TokensPlaces.T15 := by kernel_rfl
theorem hearsaylaw04_TokensPlaces.bits15 : waitsOk hearsaylaw04_TokensPlaces.T15.2 hearsaylaw04_TokensPlaces.B15 = true := by kernel_rfl
set_option maxHeartbeats 20000000 in
set_option maxRecDepth 100000 in
theorem hearsaylaw04_TokensPlaces.calls (k : Nat) (a0 : ByteArray) (r : Bool) (w : World) (hG : Gl w) (h : hearsaylaw04_TokensPlaces.f k a0 = some r) :
  Calls Tryd.prog 8 #[.string a0] w fun e w' => e = .returned (.bool r) ∧ Below w.heap.size w w' := by
 have hu26 := Tryd.underlying26
 have hu33 := Tryd.underlying33
 have HG := Aside0.mk hG
 clear hG
 have HB := Aside0.mk (Below.refl w.heap.size w)
 have H : ((tokens_Cut.f k a0 (a0.size : Int)).bind fun bt453 => ((hearsaylaw04_head.f k).bind fun t459 => (if t459 = true then (if bt453.2.1 = 0 then (hearsaylaw04_TokensPlaces.l0 k a0 bt453.1 0 0) else (some true)) else (some false)))) = some r := h
 clear h
 replace H := Option.bind_eq_some_iff.mp H
 obtain ⟨⟨t453, t456, t457⟩, A20, H⟩ := H
 replace H : ((hearsaylaw04_head.f k).bind fun t459 => (if t459 = true then (if t456 = 0 then (hearsaylaw04_TokensPlaces.l0 k a0 t453 0 0) else (some true)) else (some false))) = some r := H
 have A2 := Aside0.mk A20
 clear A20
 replace H := Option.bind_eq_some_iff.mp H
 obtain ⟨t459, A30, H⟩ := H
 replace H : (if t459 = true then (if t456 = 0 then (hearsaylaw04_TokensPlaces.l0 k a0 t453 0 0) else (some true)) else (some false)) = some r := H
 have A3 := Aside0.mk A30
 clear A30
 by_cases c4 : t459 = true
 ·subst c4
  have H1 : (if t456 = 0 then (hearsaylaw04_TokensPlaces.l0 k a0 t453 0 0) else (some true)) = some r := by rw [if_pos rfl] at H; exact H
  clear H
  have H := H1
  clear H1
  by_cases c5 : t456 = 0
  ·rw [if_pos c5] at H
   have c5b0 : (t456 == 0) = true := beq_iff_eq.mpr c5
   have c5b1 : (t456 != 0) = false := bne_eq_false_iff_eq.mpr c5
   clear c5
   have H' := Aside0.mk H
   clear H
   go_enter Tryd.func8, Tryd.ntmps8
   go_wp2_with (first | ((with_reducible refine gate_callee (f := 14) rfl ?_); refine goesL_ (some 15) rfl rfl Tryd.func14 (by kernel_rfl) rfl #[.string a0, .int .i64 (a0.size : Int)] rfl (by (try simp only [List.map_toArray, List.map_cons, List.map_nil]); first | done | rfl | (simp only [List.length_drop, List.length_take]; rfl) | (simp only [beq_nil_, bne_nil_]; rfl) | (simp only [ByteArray.size_extract, Nat.min_self]; rfl) | (refine (congrArg (fun z => #[_, Value.int .i64 z]) (?_ : _ = _)); rw [ByteArray.size_extract]; have h1_ := of_decide_eq_true c34b1; have h2_ := of_decide_eq_true c35b1; have h3_ := of_decide_eq_true c36b1; omega)) ?_; (with_reducible refine (tokens_Cut.calls k a0 (a0.size : Int) t453 t456 t457 _ ?side1 A2.out).mono ?_); (case side1 => exact Gl.below HG.out (by repeat (first | (with_reducible first | exact HB.out | apply below_alloc | apply pw_below_drewN | apply below_drew1) | exact HB.out))); rintro e w6 ⟨v454, rfl, ho0, hb⟩; refine ⟨_, rfl, ?_⟩; have n0_ := Aside0.mk (Kd.R_lower ho0 (below_size (by repeat (first | (with_reducible first | exact HB.out | apply below_alloc | apply pw_below_drewN | apply below_drew1) | exact HB.out)))); have n1_ := Aside0.mk (below_step (by repeat (first | (with_reducible first | exact HB.out | apply below_alloc | apply pw_below_drewN | apply below_drew1) | exact HB.out)) hb); clear HB; have HO455 := n0_; have HB := n1_; clear n0_ n1_; (try clear hb); (try clear hb2); (try clear hk); (try clear hi); (try clear ho0)) | ((with_reducible refine gate_dst (N := 4) rfl ?_); (try (refine gate_guard (by rfl) ?_; dsimp only)); refine box_event ?hg (N := 4) ?hd (cs := #[.int .i64 0, .int .i64 0]) (t := 26) ?hr ?_; (case hd => rfl); (case hg => rfl); (case hr => first | (go_simp; done) | (go_simp; rfl)); intro gb458 hg w7 hbox hb; have n0_ := Aside0.mk (Kd.R_below (by (with_reducible repeat (first | apply Kd.R_alloc | apply Kd.R_drewN | apply Kd.R_drew)); exact HO455.out) hb); have n1_ := Aside0.mk (below_step (by repeat (first | (with_reducible first | exact HB.out | apply below_alloc | apply pw_below_drewN | apply below_drew1) | exact HB.out)) hb); have n2_ := Aside0.mk (hbox); have n3_ := Aside0.mk ((by rw [hg]; exact (below_size (by repeat (first | (with_reducible first | exact HB.out | apply below_alloc | apply pw_below_drewN | apply below_drew1) | exact HB.out))) : w.heap.size ≤ gb458)); have n4_ := Aside0.mk ((by rw [hg]; exact (below_size (by repeat (first | (with_reducible first | exact HB.out | apply below_alloc | apply pw_below_drewN | apply below_drew1) | exact HB.out))) : w.heap.size ≤ gb458)); clear HO455; clear HB; have HO455 := n0_; have HB := n1_; have BK458 := n2_; have GW458 := n3_; have GE458 := n4_; clear n0_ n1_ n2_ n3_ n4_; clear hb hbox hg; have hcz8_0 : w7.cell? ⟨gb458, 0, none⟩ = some (.int .i64 0) := (blk_cell BK458.out 0).trans rfl; have hcz8_1 : w7.cell? ⟨gb458, 1, none⟩ = some (.int .i64 0) := (blk_cell BK458.out 1).trans rfl; have hfz8_0 := blk_frozen BK458.out 0; have hfz8_1 := blk_frozen BK458.out 1) | ((with_reducible refine gate_callee (f := 17) rfl ?_); refine goesL_ (some 18) rfl rfl Tryd.func17 (by kernel_rfl) rfl #[] rfl (by (try simp only [List.map_toArray, List.map_cons, List.map_nil]); first | done | rfl | (simp only [List.length_drop, List.length_take]; rfl) | (simp only [beq_nil_, bne_nil_]; rfl) | (simp only [ByteArray.size_extract, Nat.min_self]; rfl) | (refine (congrArg (fun z => #[_, Value.int .i64 z]) (?_ : _ = _)); rw [ByteArray.size_extract]; have h1_ := of_decide_eq_true c34b1; have h2_ := of_decide_eq_true c35b1; have h3_ := of_decide_eq_true c36b1; omega)) ?_; (with_reducible refine (hearsaylaw04_head.calls k  true _ ?side1 A3.out).mono ?_); (case side1 => exact Gl.below HG.out (by repeat (first | (with_reducible first | exact HB.out | apply below_alloc | apply pw_below_drewN | apply below_drew1 | refine below_set ?_ GE458.out) | exact HB.out))); rintro e w9 ⟨rfl, hb⟩; refine ⟨_, rfl, ?_⟩; have n0_ := Aside0.mk (Kd.R_below (by (with_reducible repeat (first | apply Kd.R_alloc | apply Kd.R_drewN | apply Kd.R_drew)); exact (Kd.R_mono (Kd.R_far (p := ⟨gb458, 1, none⟩) (Kd.R_far (p := ⟨gb458, 0, none⟩) (Kd.R_types HO455.out BK458.out (by decide)) (fun _ hk => hk.2) (.int .i64 t456)) (fun _ hk => hk.2) (.int .i64 t457)) (fun _ h_ => h_.1))) hb); have n1_ := Aside0.mk (blk_below (g := gb458) (o := .cells #[.int .i64 t456, .int .i64 t457] 26 (0, 0)) (by (with_reducible repeat (first | refine blk_drewN ?_ _ | refine blk_drew ?_ | refine blk_alloc ?_ _)); refine blk_put (cs := #[.int .i64 t456, .int .i64 0]) ?_ 1 _ rfl; (with_reducible repeat (first | refine blk_drewN ?_ _ | refine blk_drew ?_ | refine blk_alloc ?_ _)); refine blk_put (cs := #[.int .i64 0, .int .i64 0]) ?_ 0 _ rfl; (with_reducible repeat (first | refine blk_drewN ?_ _ | refine blk_drew ?_ | refine blk_alloc ?_ _)); exact BK458.out) hb); have n2_ := Aside0.mk (below_step (by repeat (first | (with_reducible first | exact HB.out | apply below_alloc | apply pw_below_drewN | apply below_drew1 | refine below_set ?_ GE458.out) | exact HB.out)) hb); clear HO455; clear BK458; clear HB; have HO455 := n0_; have BK458 := n1_; have HB := n2_; clear n0_ n1_ n2_; (try clear hb); (try clear hb2); (try clear hk); (try clear hi); have hcz10_0 : w9.cell? ⟨gb458, 0, none⟩ = some (.int .i64 t456) := (blk_cell BK458.out 0).trans rfl; have hcz10_1 : w9.cell? ⟨gb458, 1, none⟩ = some (.int .i64 t457) := (blk_cell BK458.out 1).trans rfl; have hfz10_0 := blk_frozen BK458.out 0; have hfz10_1 := blk_frozen BK458.out 1))
   go_loopg [5, 6] k (fun kq v5 v6 w' => ∃ (x5_1 : Int) (x6_1 : Int), v5 = .int .i64 x5_1 ∧ v6 = .int .i64 x6_1 ∧ Aside0 (hearsaylaw04_TokensPlaces.l0 kq a0 t453 x5_1 x6_1 = some r) ∧ Aside0 (kq ≤ k) ∧ Aside0 (Kd.R k33 33 w' w.heap.size (fun _ => True) v454 t453) ∧ Aside0 (w'.heap[gb458]? = some (.cells #[.int .i64 t456, .int .i64 t457] 26 (0, 0))) ∧ Aside0 (Below w.heap.size w w'))
   case atStart => exact ⟨(0), (0), (by first | rfl | (simp; done) | (simp [*]; done) | (simp [i64_w, i32_w, IntKind.wrap_u8]; done) | (simp [*, i64_w, i32_w, IntKind.wrap_u8]; done)), (by first | rfl | (simp; done) | (simp [*]; done) | (simp [i64_w, i32_w, IntKind.wrap_u8]; done) | (simp [*, i64_w, i32_w, IntKind.wrap_u8]; done)), H', ⟨Nat.le_refl _⟩, ⟨by (with_reducible repeat (first | apply Kd.R_alloc | apply Kd.R_drewN | apply Kd.R_drew)); exact HO455.out⟩, ⟨by (with_reducible repeat (first | refine blk_drewN ?_ _ | refine blk_drew ?_ | refine blk_alloc ?_ _)); exact BK458.out⟩, ⟨by repeat (first | (with_reducible first | exact HB.out | apply below_alloc | apply pw_below_drewN | apply below_drew1 | refine below_set ?_ GE458.out) | exact HB.out)⟩⟩
   case round =>
    clear H'
    try clear c1
    try clear p2
    try clear c4
    try clear c5
    try clear c5b0
    try clear c5b1
    try clear c8
    try clear hcz10_0
    try clear hcz10_1
    try clear hcz8_0
    try clear hcz8_1
    try clear hfz10_0
    try clear hfz10_1
    try clear hfz8_0
    try clear hfz8_1
    obtain ⟨x5_1, x6_1, rfl, rfl, HA, HK1, HO_3, BK458, HB⟩ := hrel
    cases gk with
    | zero => exact absurd HA.out (by simp [hearsaylaw04_TokensPlaces.l0])
    | succ k1 =>
     have H := HA.out
     clear HA
     simp only [hearsaylaw04_TokensPlaces.l0] at H
     by_cases c11 : x6_1 < (t453.length : Int)
     ·rw [if_pos c11] at H
      have c11b0 : decide (x6_1 < (t453.length : Int)) = true := decide_eq_true c11
      clear c11
      by_cases c12 : 0 ≤ x6_1
      ·rw [if_pos c12] at H
       have c12b0 : decide (0 ≤ x6_1) = true := decide_eq_true c12
       clear c12
       have HC13 := Aside0.mk H
       clear H
       obtain ⟨Ao14, co14, eo14⟩ := Kd.R_slice HO_3.out
       subst eo14
       have p461 : 0 ≤ (x6_1 : Int) := of_decide_eq_true (by first | (with_reducible assumption) | assumption)
       have q461 : x6_1 < (t453.length : Int) := of_decide_eq_true (by first | (with_reducible assumption) | assumption)
       obtain ⟨ad461, e461, hx461_0, hx461_1, hx461_2, hx461_3, hx461_4⟩ := at_T33 (Kd.R_reads' HO_3.out).2.2 x6_1 p461 q461
       cases e461
       replace p461 := eq_true p461
       replace q461 := eq_true q461
       go_upto_region 11 with (first | ((with_reducible refine gate_dst (N := 7) rfl ?_); (try (refine gate_guard (by rfl) ?_; dsimp only)); refine box_event ?hg (N := 7) ?hd (cs := #[.int .i64 0, .string (⟨#[]⟩ : ByteArray), .int .i64 0, .int .i64 0, .int .i64 0]) (t := 33) ?hr ?_; (case hd => rfl); (case hg => rfl); (case hr => first | (go_simp; done) | (go_simp; rfl)); intro gb462 hg w15 hbox hb; have n0_ := Aside0.mk (Kd.R_below (Kd.R_elderB (by (with_reducible repeat (first | apply Kd.R_alloc | apply Kd.R_drewN | apply Kd.R_drew)); exact HO_3.out) gb462 (Nat.le_of_eq hg.symm)) hb); have n1_ := Aside0.mk (blk_below (g := gb458) (o := .cells #[.int .i64 t456, .int .i64 t457] 26 (0, 0)) (by (with_reducible repeat (first | refine blk_drewN ?_ _ | refine blk_drew ?_ | refine blk_alloc ?_ _)); exact BK458.out) hb); have n2_ := Aside0.mk (below_step (by repeat (first | (with_reducible first | exact HB.out | apply below_alloc | apply pw_below_drewN | apply below_drew1 | refine below_set ?_ GE458.out) | exact HB.out)) hb); have n3_ := Aside0.mk (hbox); have n4_ := Aside0.mk ((by rw [hg]; exact (below_size (by repeat (first | (with_reducible first | exact HB.out | apply below_alloc | apply pw_below_drewN | apply below_drew1 | refine below_set ?_ GE458.out) | exact HB.out))) : w.heap.size ≤ gb462)); have n5_ := Aside0.mk ((by rw [hg]; exact (below_size (by repeat (first | (with_reducible first | exact HB.out | apply below_alloc | apply pw_below_drewN | apply below_drew1 | refine below_set ?_ GE458.out) | exact HB.out))) : w.heap.size ≤ gb462)); have n6_ := Aside0.mk ((by rw [hg]; exact Nat.ne_of_lt (blk_lt (g := gb458) (o := .cells #[.int .i64 t456, .int .i64 t457] 26 (0, 0)) (by (with_reducible repeat (first | refine blk_drewN ?_ _ | refine blk_drew ?_ | refine blk_alloc ?_ _)); exact BK458.out)) : gb458 ≠ gb462)); have n7_ := Aside0.mk ((by rw [hg]; exact Nat.ne_of_gt (blk_lt (g := gb458) (o := .cells #[.int .i64 t456, .int .i64 t457] 26 (0, 0)) (by (with_reducible repeat (first | refine blk_drewN ?_ _ | refine blk_drew ?_ | refine blk_alloc ?_ _)); exact BK458.out)) : gb462 ≠ gb458)); clear HO_3; clear BK458; clear HB; have HO_3 := n0_; have BK458 := n1_; have HB := n2_; have BK462 := n3_; have GW462 := n4_; have GE462 := n5_; have NB458_462 := n6_; have NB462_458 := n7_; clear n0_ n1_ n2_ n3_ n4_ n5_ n6_ n7_; clear hb hbox hg; have hnb16 := NB462_458.out; have hnc16 := NB458_462.out; have hcz17_0 : w15.cell? ⟨gb462, 0, none⟩ = some (.int .i64 0) := (blk_cell BK462.out 0).trans rfl; have hcz17_1 : w15.cell? ⟨gb462, 1, none⟩ = some (.string (⟨#[]⟩ : ByteArray)) := (blk_cell BK462.out 1).trans rfl; have hcz17_2 : w15.cell? ⟨gb462, 2, none⟩ = some (.int .i64 0) := (blk_cell BK462.out 2).trans rfl; have hcz17_3 : w15.cell? ⟨gb462, 3, none⟩ = some (.int .i64 0) := (blk_cell BK462.out 3).trans rfl; have hcz17_4 : w15.cell? ⟨gb462, 4, none⟩ = some (.int .i64 0) := (blk_cell BK462.out 4).trans rfl; have hfz17_0 := blk_frozen BK462.out 0; have hfz17_1 := blk_frozen BK462.out 1; have hfz17_2 := blk_frozen BK462.out 2; have hfz17_3 := blk_frozen BK462.out 3; have hfz17_4 := blk_frozen BK462.out 4))
       (try simp only [Act.put, List.setIfInBounds_toArray, List.set_cons_zero, List.set_cons_succ])
       go_cut [59] (fun v59 wc => ∃ (kq : Nat) (x59_12 : Bool), v59 = .bool x59_12 ∧ Aside0 (hearsaylaw04_TokensPlaces.j1 kq a0 t453 x6_1 x59_12 ((rd_T33 t453 x6_1).f0) ((rd_T33 t453 x6_1).f1) ((rd_T33 t453 x6_1).f2) ((rd_T33 t453 x6_1).f3) ((rd_T33 t453 x6_1).f4) = some r) ∧ Aside0 (kq ≤ k1) ∧ Aside0 (Kd.R k33 33 wc w.heap.size (fun k_ => k_ ≠ gb462) (.slice (some ad461) t453.length co14) t453) ∧ Aside0 (wc.heap[gb458]? = some (.cells #[.int .i64 t456, .int .i64 t457] 26 (0, 0))) ∧ Aside0 (wc.heap[gb462]? = some (.cells #[.int .i64 ((rd_T33 t453 x6_1).f0), .string ((rd_T33 t453 x6_1).f1), .int .i64 ((rd_T33 t453 x6_1).f2), .int .i64 ((rd_T33 t453 x6_1).f3), .int .i64 ((rd_T33 t453 x6_1).f4)] 33 (0, 0))) ∧ Aside0 (Below w.heap.size w wc))
       case first =>
        have H := HC13.out
        clear HC13
        by_cases c18 : ((rd_T33 t453 x6_1).f3) < x5_1
        ·rw [if_pos c18] at H
         have c18b0 : decide (((rd_T33 t453 x6_1).f3) < x5_1) = true := decide_eq_true c18
         clear c18
         (first | rw [c18b0] | (simp only [i64_w, i32_w]; rw [c18b0]) | skip)
         have H' := Aside0.mk H
         clear H
         have hnb19 := NB462_458.out
         have hnc19 := NB458_462.out
         have hcz20_0 : w15.cell? ⟨gb462, 0, none⟩ = some (.int .i64 0) := (blk_cell BK462.out 0).trans rfl
         have hcz20_1 : w15.cell? ⟨gb462, 1, none⟩ = some (.string (⟨#[]⟩ : ByteArray)) := (blk_cell BK462.out 1).trans rfl
         have hcz20_2 : w15.cell? ⟨gb462, 2, none⟩ = some (.int .i64 0) := (blk_cell BK462.out 2).trans rfl
         have hcz20_3 : w15.cell? ⟨gb462, 3, none⟩ = some (.int .i64 0) := (blk_cell BK462.out 3).trans rfl
         have hcz20_4 : w15.cell? ⟨gb462, 4, none⟩ = some (.int .i64 0) := (blk_cell BK462.out 4).trans rfl
         have hfz20_0 := blk_frozen BK462.out 0
         have hfz20_1 := blk_frozen BK462.out 1
         have hfz20_2 := blk_frozen BK462.out 2
         have hfz20_3 := blk_frozen BK462.out 3
         have hfz20_4 := blk_frozen BK462.out 4
         go_wp2
         go_meet
         case rel => exact ⟨_, (true), (by first | rfl | (simp; done) | (simp [*]; done) | (simp [i64_w, i32_w, IntKind.wrap_u8]; done) | (simp [*, i64_w, i32_w, IntKind.wrap_u8]; done)), H', ⟨by have := HK1.out; first | omega | exact Nat.le_refl _⟩, ⟨by (with_reducible repeat (first | apply Kd.R_alloc | apply Kd.R_drewN | apply Kd.R_drew)); exact Kd.R_mono (Kd.R_far (p := ⟨gb462, 4, none⟩) (Kd.R_far (p := ⟨gb462, 3, none⟩) (Kd.R_far (p := ⟨gb462, 2, none⟩) (Kd.R_far (p := ⟨gb462, 1, none⟩) (Kd.R_far (p := ⟨gb462, 0, none⟩) (Kd.R_mono HO_3.out (fun k_ hk => (⟨hk, hk.2⟩ : _ ∧ k_ ≠ gb462))) (fun _ hk => hk.2) (.int .i64 ((rd_T33 t453 x6_1).f0))) (fun _ hk => hk.2) (.string ((rd_T33 t453 x6_1).f1))) (fun _ hk => hk.2) (.int .i64 ((rd_T33 t453 x6_1).f2))) (fun _ hk => hk.2) (.int .i64 ((rd_T33 t453 x6_1).f3))) (fun _ hk => hk.2) (.int .i64 ((rd_T33 t453 x6_1).f4))) (fun _ hk => hk.1.2)⟩, ⟨by (with_reducible repeat (first | refine blk_drewN ?_ _ | refine blk_drew ?_ | refine blk_alloc ?_ _)); refine blk_far ?_ NB458_462.out _; (with_reducible repeat (first | refine blk_drewN ?_ _ | refine blk_drew ?_ | refine blk_alloc ?_ _)); refine blk_far ?_ NB458_462.out _; (with_reducible repeat (first | refine blk_drewN ?_ _ | refine blk_drew ?_ | refine blk_alloc ?_ _)); refine blk_far ?_ NB458_462.out _; (with_reducible repeat (first | refine blk_drewN ?_ _ | refine blk_drew ?_ | refine blk_alloc ?_ _)); refine blk_far ?_ NB458_462.out _; (with_reducible repeat (first | refine blk_drewN ?_ _ | refine blk_drew ?_ | refine blk_alloc ?_ _)); refine blk_far ?_ NB458_462.out _; (with_reducible repeat (first | refine blk_drewN ?_ _ | refine blk_drew ?_ | refine blk_alloc ?_ _)); exact BK458.out⟩, ⟨by (with_reducible repeat (first | refine blk_drewN ?_ _ | refine blk_drew ?_ | refine blk_alloc ?_ _)); refine blk_put (cs := #[.int .i64 ((rd_T33 t453 x6_1).f0), .string ((rd_T33 t453 x6_1).f1), .int .i64 ((rd_T33 t453 x6_1).f2), .int .i64 ((rd_T33 t453 x6_1).f3), .int .i64 0]) ?_ 4 _ rfl; (with_reducible repeat (first | refine blk_drewN ?_ _ | refine blk_drew ?_ | refine blk_alloc ?_ _)); refine blk_put (cs := #[.int .i64 ((rd_T33 t453 x6_1).f0), .string ((rd_T33 t453 x6_1).f1), .int .i64 ((rd_T33 t453 x6_1).f2), .int .i64 0, .int .i64 0]) ?_ 3 _ rfl; (with_reducible repeat (first | refine blk_drewN ?_ _ | refine blk_drew ?_ | refine blk_alloc ?_ _)); refine blk_put (cs := #[.int .i64 ((rd_T33 t453 x6_1).f0), .string ((rd_T33 t453 x6_1).f1), .int .i64 0, .int .i64 0, .int .i64 0]) ?_ 2 _ rfl; (with_reducible repeat (first | refine blk_drewN ?_ _ | refine blk_drew ?_ | refine blk_alloc ?_ _)); refine blk_put (cs := #[.int .i64 ((rd_T33 t453 x6_1).f0), .string (⟨#[]⟩ : ByteArray), .int .i64 0, .int .i64 0, .int .i64 0]) ?_ 1 _ rfl; (with_reducible repeat (first | refine blk_drewN ?_ _ | refine blk_drew ?_ | refine blk_alloc ?_ _)); refine blk_put (cs := #[.int .i64 0, .string (⟨#[]⟩ : ByteArray), .int .i64 0, .int .i64 0, .int .i64 0]) ?_ 0 _ rfl; (with_reducible repeat (first | refine blk_drewN ?_ _ | refine blk_drew ?_ | refine blk_alloc ?_ _)); exact BK462.out⟩, ⟨by repeat (first | (with_reducible first | exact HB.out | apply below_alloc | apply pw_below_drewN | apply below_drew1 | refine below_set ?_ GE458.out | refine below_set ?_ GE462.out) | exact HB.out)⟩⟩
        ·rw [if_neg c18] at H
         have c18b0 : decide (((rd_T33 t453 x6_1).f3) < x5_1) = false := decide_eq_false c18
         clear c18
         (first | rw [c18b0] | (simp only [i64_w, i32_w]; rw [c18b0]) | skip)
         by_cases c21 : ((rd_T33 t453 x6_1).f4) ≤ ((rd_T33 t453 x6_1).f3)
         ·rw [if_pos c21] at H
          have c21b0 : decide (((rd_T33 t453 x6_1).f4) ≤ ((rd_T33 t453 x6_1).f3)) = true := decide_eq_true c21
          clear c21
          have H' := Aside0.mk H
          clear H
          have hnb22 := NB462_458.out
          have hnc22 := NB458_462.out
          have hcz23_0 : w15.cell? ⟨gb462, 0, none⟩ = some (.int .i64 0) := (blk_cell BK462.out 0).trans rfl
          have hcz23_1 : w15.cell? ⟨gb462, 1, none⟩ = some (.string (⟨#[]⟩ : ByteArray)) := (blk_cell BK462.out 1).trans rfl
          have hcz23_2 : w15.cell? ⟨gb462, 2, none⟩ = some (.int .i64 0) := (blk_cell BK462.out 2).trans rfl
          have hcz23_3 : w15.cell? ⟨gb462, 3, none⟩ = some (.int .i64 0) := (blk_cell BK462.out 3).trans rfl
          have hcz23_4 : w15.cell? ⟨gb462, 4, none⟩ = some (.int .i64 0) := (blk_cell BK462.out 4).trans rfl
          have hfz23_0 := blk_frozen BK462.out 0
          have hfz23_1 := blk_frozen BK462.out 1
          have hfz23_2 := blk_frozen BK462.out 2
          have hfz23_3 := blk_frozen BK462.out 3
          have hfz23_4 := blk_frozen BK462.out 4
          go_wp2
          go_meet
          case rel => exact ⟨_, (true), (by first | rfl | (simp; done) | (simp [*]; done) | (simp [i64_w, i32_w, IntKind.wrap_u8]; done) | (simp [*, i64_w, i32_w, IntKind.wrap_u8]; done)), H', ⟨by have := HK1.out; first | omega | exact Nat.le_refl _⟩, ⟨by (with_reducible repeat (first | apply Kd.R_alloc | apply Kd.R_drewN | apply Kd.R_drew)); exact Kd.R_mono (Kd.R_far (p := ⟨gb462, 4, none⟩) (Kd.R_far (p := ⟨gb462, 3, none⟩) (Kd.R_far (p := ⟨gb462, 2, none⟩) (Kd.R_far (p := ⟨gb462, 1, none⟩) (Kd.R_far (p := ⟨gb462, 0, none⟩) (Kd.R_mono HO_3.out (fun k_ hk => (⟨hk, hk.2⟩ : _ ∧ k_ ≠ gb462))) (fun _ hk => hk.2) (.int .i64 ((rd_T33 t453 x6_1).f0))) (fun _ hk => hk.2) (.string ((rd_T33 t453 x6_1).f1))) (fun _ hk => hk.2) (.int .i64 ((rd_T33 t453 x6_1).f2))) (fun _ hk => hk.2) (.int .i64 ((rd_T33 t453 x6_1).f3))) (fun _ hk => hk.2) (.int .i64 ((rd_T33 t453 x6_1).f4))) (fun _ hk => hk.1.2)⟩, ⟨by (with_reducible repeat (first | refine blk_drewN ?_ _ | refine blk_drew ?_ | refine blk_alloc ?_ _)); refine blk_far ?_ NB458_462.out _; (with_reducible repeat (first | refine blk_drewN ?_ _ | refine blk_drew ?_ | refine blk_alloc ?_ _)); refine blk_far ?_ NB458_462.out _; (with_reducible repeat (first | refine blk_drewN ?_ _ | refine blk_drew ?_ | refine blk_alloc ?_ _)); refine blk_far ?_ NB458_462.out _; (with_reducible repeat (first | refine blk_drewN ?_ _ | refine blk_drew ?_ | refine blk_alloc ?_ _)); refine blk_far ?_ NB458_462.out _; (with_reducible repeat (first | refine blk_drewN ?_ _ | refine blk_drew ?_ | refine blk_alloc ?_ _)); refine blk_far ?_ NB458_462.out _; (with_reducible repeat (first | refine blk_drewN ?_ _ | refine blk_drew ?_ | refine blk_alloc ?_ _)); exact BK458.out⟩, ⟨by (with_reducible repeat (first | refine blk_drewN ?_ _ | refine blk_drew ?_ | refine blk_alloc ?_ _)); refine blk_put (cs := #[.int .i64 ((rd_T33 t453 x6_1).f0), .string ((rd_T33 t453 x6_1).f1), .int .i64 ((rd_T33 t453 x6_1).f2), .int .i64 ((rd_T33 t453 x6_1).f3), .int .i64 0]) ?_ 4 _ rfl; (with_reducible repeat (first | refine blk_drewN ?_ _ | refine blk_drew ?_ | refine blk_alloc ?_ _)); refine blk_put (cs := #[.int .i64 ((rd_T33 t453 x6_1).f0), .string ((rd_T33 t453 x6_1).f1), .int .i64 ((rd_T33 t453 x6_1).f2), .int .i64 0, .int .i64 0]) ?_ 3 _ rfl; (with_reducible repeat (first | refine blk_drewN ?_ _ | refine blk_drew ?_ | refine blk_alloc ?_ _)); refine blk_put (cs := #[.int .i64 ((rd_T33 t453 x6_1).f0), .string ((rd_T33 t453 x6_1).f1), .int .i64 0, .int .i64 0, .int .i64 0]) ?_ 2 _ rfl; (with_reducible repeat (first | refine blk_drewN ?_ _ | refine blk_drew ?_ | refine blk_alloc ?_ _)); refine blk_put (cs := #[.int .i64 ((rd_T33 t453 x6_1).f0), .string (⟨#[]⟩ : ByteArray), .int .i64 0, .int .i64 0, .int .i64 0]) ?_ 1 _ rfl; (with_reducible repeat (first | refine blk_drewN ?_ _ | refine blk_drew ?_ | refine blk_alloc ?_ _)); refine blk_put (cs := #[.int .i64 0, .string (⟨#[]⟩ : ByteArray), .int .i64 0, .int .i64 0, .int .i64 0]) ?_ 0 _ rfl; (with_reducible repeat (first | refine blk_drewN ?_ _ | refine blk_drew ?_ | refine blk_alloc ?_ _)); exact BK462.out⟩, ⟨by repeat (first | (with_reducible first | exact HB.out | apply below_alloc | apply pw_below_drewN | apply below_drew1 | refine below_set ?_ GE458.out | refine below_set ?_ GE462.out) | exact HB.out)⟩⟩
         ·rw [if_neg c21] at H
          have c21b0 : decide (((rd_T33 t453 x6_1).f4) ≤ ((rd_T33 t453 x6_1).f3)) = false := decide_eq_false c21
          clear c21
          by_cases c24 : ((rd_T33 t453 x6_1).f4) > (a0.size : Int)
          ·rw [if_pos c24] at H
           have c24b0 : decide ((a0.size : Int) < ((rd_T33 t453 x6_1).f4)) = true := decide_eq_true c24
           clear c24
           have H' := Aside0.mk H
           clear H
           have hnb25 := NB462_458.out
           have hnc25 := NB458_462.out
           have hcz26_0 : w15.cell? ⟨gb462, 0, none⟩ = some (.int .i64 0) := (blk_cell BK462.out 0).trans rfl
           have hcz26_1 : w15.cell? ⟨gb462, 1, none⟩ = some (.string (⟨#[]⟩ : ByteArray)) := (blk_cell BK462.out 1).trans rfl
           have hcz26_2 : w15.cell? ⟨gb462, 2, none⟩ = some (.int .i64 0) := (blk_cell BK462.out 2).trans rfl
           have hcz26_3 : w15.cell? ⟨gb462, 3, none⟩ = some (.int .i64 0) := (blk_cell BK462.out 3).trans rfl
           have hcz26_4 : w15.cell? ⟨gb462, 4, none⟩ = some (.int .i64 0) := (blk_cell BK462.out 4).trans rfl
           have hfz26_0 := blk_frozen BK462.out 0
           have hfz26_1 := blk_frozen BK462.out 1
           have hfz26_2 := blk_frozen BK462.out 2
           have hfz26_3 := blk_frozen BK462.out 3
           have hfz26_4 := blk_frozen BK462.out 4
           go_wp2
           go_meet
           case rel => exact ⟨_, (true), (by first | rfl | (simp; done) | (simp [*]; done) | (simp [i64_w, i32_w, IntKind.wrap_u8]; done) | (simp [*, i64_w, i32_w, IntKind.wrap_u8]; done)), H', ⟨by have := HK1.out; first | omega | exact Nat.le_refl _⟩, ⟨by (with_reducible repeat (first | apply Kd.R_alloc | apply Kd.R_drewN | apply Kd.R_drew)); exact Kd.R_mono (Kd.R_far (p := ⟨gb462, 4, none⟩) (Kd.R_far (p := ⟨gb462, 3, none⟩) (Kd.R_far (p := ⟨gb462, 2, none⟩) (Kd.R_far (p := ⟨gb462, 1, none⟩) (Kd.R_far (p := ⟨gb462, 0, none⟩) (Kd.R_mono HO_3.out (fun k_ hk => (⟨hk, hk.2⟩ : _ ∧ k_ ≠ gb462))) (fun _ hk => hk.2) (.int .i64 ((rd_T33 t453 x6_1).f0))) (fun _ hk => hk.2) (.string ((rd_T33 t453 x6_1).f1))) (fun _ hk => hk.2) (.int .i64 ((rd_T33 t453 x6_1).f2))) (fun _ hk => hk.2) (.int .i64 ((rd_T33 t453 x6_1).f3))) (fun _ hk => hk.2) (.int .i64 ((rd_T33 t453 x6_1).f4))) (fun _ hk => hk.1.2)⟩, ⟨by (with_reducible repeat (first | refine blk_drewN ?_ _ | refine blk_drew ?_ | refine blk_alloc ?_ _)); refine blk_far ?_ NB458_462.out _; (with_reducible repeat (first | refine blk_drewN ?_ _ | refine blk_drew ?_ | refine blk_alloc ?_ _)); refine blk_far ?_ NB458_462.out _; (with_reducible repeat (first | refine blk_drewN ?_ _ | refine blk_drew ?_ | refine blk_alloc ?_ _)); refine blk_far ?_ NB458_462.out _; (with_reducible repeat (first | refine blk_drewN ?_ _ | refine blk_drew ?_ | refine blk_alloc ?_ _)); refine blk_far ?_ NB458_462.out _; (with_reducible repeat (first | refine blk_drewN ?_ _ | refine blk_drew ?_ | refine blk_alloc ?_ _)); refine blk_far ?_ NB458_462.out _; (with_reducible repeat (first | refine blk_drewN ?_ _ | refine blk_drew ?_ | refine blk_alloc ?_ _)); exact BK458.out⟩, ⟨by (with_reducible repeat (first | refine blk_drewN ?_ _ | refine blk_drew ?_ | refine blk_alloc ?_ _)); refine blk_put (cs := #[.int .i64 ((rd_T33 t453 x6_1).f0), .string ((rd_T33 t453 x6_1).f1), .int .i64 ((rd_T33 t453 x6_1).f2), .int .i64 ((rd_T33 t453 x6_1).f3), .int .i64 0]) ?_ 4 _ rfl; (with_reducible repeat (first | refine blk_drewN ?_ _ | refine blk_drew ?_ | refine blk_alloc ?_ _)); refine blk_put (cs := #[.int .i64 ((rd_T33 t453 x6_1).f0), .string ((rd_T33 t453 x6_1).f1), .int .i64 ((rd_T33 t453 x6_1).f2), .int .i64 0, .int .i64 0]) ?_ 3 _ rfl; (with_reducible repeat (first | refine blk_drewN ?_ _ | refine blk_drew ?_ | refine blk_alloc ?_ _)); refine blk_put (cs := #[.int .i64 ((rd_T33 t453 x6_1).f0), .string ((rd_T33 t453 x6_1).f1), .int .i64 0, .int .i64 0, .int .i64 0]) ?_ 2 _ rfl; (with_reducible repeat (first | refine blk_drewN ?_ _ | refine blk_drew ?_ | refine blk_alloc ?_ _)); refine blk_put (cs := #[.int .i64 ((rd_T33 t453 x6_1).f0), .string (⟨#[]⟩ : ByteArray), .int .i64 0, .int .i64 0, .int .i64 0]) ?_ 1 _ rfl; (with_reducible repeat (first | refine blk_drewN ?_ _ | refine blk_drew ?_ | refine blk_alloc ?_ _)); refine blk_put (cs := #[.int .i64 0, .string (⟨#[]⟩ : ByteArray), .int .i64 0, .int .i64 0, .int .i64 0]) ?_ 0 _ rfl; (with_reducible repeat (first | refine blk_drewN ?_ _ | refine blk_drew ?_ | refine blk_alloc ?_ _)); exact BK462.out⟩, ⟨by repeat (first | (with_reducible first | exact HB.out | apply below_alloc | apply pw_below_drewN | apply below_drew1 | refine below_set ?_ GE458.out | refine below_set ?_ GE462.out) | exact HB.out)⟩⟩
          ·rw [if_neg c24] at H
           have c24b0 : decide ((a0.size : Int) < ((rd_T33 t453 x6_1).f4)) = false := decide_eq_false c24
           clear c24
           by_cases c27 : 0 ≤ x5_1
           ·rw [if_pos c27] at H
            have c27b0 := eq_true c27
            have c27b1 : decide (0 ≤ x5_1) = true := decide_eq_true c27
            clear c27
            by_cases c28 : x5_1 ≤ ((rd_T33 t453 x6_1).f3)
            ·rw [if_pos c28] at H
             have c28b0 := eq_true c28
             have c28b1 : decide (x5_1 ≤ ((rd_T33 t453 x6_1).f3)) = true := decide_eq_true c28
             clear c28
             by_cases c29 : ((rd_T33 t453 x6_1).f3) ≤ (a0.size : Int)
             ·rw [if_pos c29] at H
              have c29b0 := eq_true c29
              have c29b1 : decide (((rd_T33 t453 x6_1).f3) ≤ (a0.size : Int)) = true := decide_eq_true c29
              clear c29
              replace H := Option.bind_eq_some_iff.mp H
              obtain ⟨t463, A300, H⟩ := H
              replace H : (hearsaylaw04_TokensPlaces.j1 k1 a0 t453 x6_1 (!t463) ((rd_T33 t453 x6_1).f0) ((rd_T33 t453 x6_1).f1) ((rd_T33 t453 x6_1).f2) ((rd_T33 t453 x6_1).f3) ((rd_T33 t453 x6_1).f4)) = some r := H
              have A30 := Aside0.mk A300
              clear A300
              have H' := Aside0.mk H
              clear H
              have hnb31 := NB462_458.out
              have hnc31 := NB458_462.out
              have hcz32_0 : w15.cell? ⟨gb462, 0, none⟩ = some (.int .i64 0) := (blk_cell BK462.out 0).trans rfl
              have hcz32_1 : w15.cell? ⟨gb462, 1, none⟩ = some (.string (⟨#[]⟩ : ByteArray)) := (blk_cell BK462.out 1).trans rfl
              have hcz32_2 : w15.cell? ⟨gb462, 2, none⟩ = some (.int .i64 0) := (blk_cell BK462.out 2).trans rfl
              have hcz32_3 : w15.cell? ⟨gb462, 3, none⟩ = some (.int .i64 0) := (blk_cell BK462.out 3).trans rfl
              have hcz32_4 : w15.cell? ⟨gb462, 4, none⟩ = some (.int .i64 0) := (blk_cell BK462.out 4).trans rfl
              have hfz32_0 := blk_frozen BK462.out 0
              have hfz32_1 := blk_frozen BK462.out 1
              have hfz32_2 := blk_frozen BK462.out 2
              have hfz32_3 := blk_frozen BK462.out 3
              have hfz32_4 := blk_frozen BK462.out 4
              go_wp2_with (first | (go_at_call 24; (with_reducible refine (hearsaylaw04_gap.calls k1 (a0.extract (x5_1 : Int).toNat (((rd_T33 t453 x6_1).f3) : Int).toNat) false t463 _ A30.out).mono ?_); rintro e w' ⟨rfl, ⟨nd, rfl⟩⟩))
              go_meet
              case rel => exact ⟨_, (!t463), (by first | rfl | (simp; done) | (simp [*]; done) | (simp [i64_w, i32_w, IntKind.wrap_u8]; done) | (simp [*, i64_w, i32_w, IntKind.wrap_u8]; done)), H', ⟨by have := HK1.out; first | omega | exact Nat.le_refl _⟩, ⟨by (with_reducible repeat (first | apply Kd.R_alloc | apply Kd.R_drewN | apply Kd.R_drew)); exact Kd.R_mono (Kd.R_far (p := ⟨gb462, 4, none⟩) (Kd.R_far (p := ⟨gb462, 3, none⟩) (Kd.R_far (p := ⟨gb462, 2, none⟩) (Kd.R_far (p := ⟨gb462, 1, none⟩) (Kd.R_far (p := ⟨gb462, 0, none⟩) (Kd.R_mono HO_3.out (fun k_ hk => (⟨hk, hk.2⟩ : _ ∧ k_ ≠ gb462))) (fun _ hk => hk.2) (.int .i64 ((rd_T33 t453 x6_1).f0))) (fun _ hk => hk.2) (.string ((rd_T33 t453 x6_1).f1))) (fun _ hk => hk.2) (.int .i64 ((rd_T33 t453 x6_1).f2))) (fun _ hk => hk.2) (.int .i64 ((rd_T33 t453 x6_1).f3))) (fun _ hk => hk.2) (.int .i64 ((rd_T33 t453 x6_1).f4))) (fun _ hk => hk.1.2)⟩, ⟨by (with_reducible repeat (first | refine blk_drewN ?_ _ | refine blk_drew ?_ | refine blk_alloc ?_ _)); refine blk_far ?_ NB458_462.out _; (with_reducible repeat (first | refine blk_drewN ?_ _ | refine blk_drew ?_ | refine blk_alloc ?_ _)); refine blk_far ?_ NB458_462.out _; (with_reducible repeat (first | refine blk_drewN ?_ _ | refine blk_drew ?_ | refine blk_alloc ?_ _)); refine blk_far ?_ NB458_462.out _; (with_reducible repeat (first | refine blk_drewN ?_ _ | refine blk_drew ?_ | refine blk_alloc ?_ _)); refine blk_far ?_ NB458_462.out _; (with_reducible repeat (first | refine blk_drewN ?_ _ | refine blk_drew ?_ | refine blk_alloc ?_ _)); refine blk_far ?_ NB458_462.out _; (with_reducible repeat (first | refine blk_drewN ?_ _ | refine blk_drew ?_ | refine blk_alloc ?_ _)); exact BK458.out⟩, ⟨by (with_reducible repeat (first | refine blk_drewN ?_ _ | refine blk_drew ?_ | refine blk_alloc ?_ _)); refine blk_put (cs := #[.int .i64 ((rd_T33 t453 x6_1).f0), .string ((rd_T33 t453 x6_1).f1), .int .i64 ((rd_T33 t453 x6_1).f2), .int .i64 ((rd_T33 t453 x6_1).f3), .int .i64 0]) ?_ 4 _ rfl; (with_reducible repeat (first | refine blk_drewN ?_ _ | refine blk_drew ?_ | refine blk_alloc ?_ _)); refine blk_put (cs := #[.int .i64 ((rd_T33 t453 x6_1).f0), .string ((rd_T33 t453 x6_1).f1), .int .i64 ((rd_T33 t453 x6_1).f2), .int .i64 0, .int .i64 0]) ?_ 3 _ rfl; (with_reducible repeat (first | refine blk_drewN ?_ _ | refine blk_drew ?_ | refine blk_alloc ?_ _)); refine blk_put (cs := #[.int .i64 ((rd_T33 t453 x6_1).f0), .string ((rd_T33 t453 x6_1).f1), .int .i64 0, .int .i64 0, .int .i64 0]) ?_ 2 _ rfl; (with_reducible repeat (first | refine blk_drewN ?_ _ | refine blk_drew ?_ | refine blk_alloc ?_ _)); refine blk_put (cs := #[.int .i64 ((rd_T33 t453 x6_1).f0), .string (⟨#[]⟩ : ByteArray), .int .i64 0, .int .i64 0, .int .i64 0]) ?_ 1 _ rfl; (with_reducible repeat (first | refine blk_drewN ?_ _ | refine blk_drew ?_ | refine blk_alloc ?_ _)); refine blk_put (cs := #[.int .i64 0, .string (⟨#[]⟩ : ByteArray), .int .i64 0, .int .i64 0, .int .i64 0]) ?_ 0 _ rfl; (with_reducible repeat (first | refine blk_drewN ?_ _ | refine blk_drew ?_ | refine blk_alloc ?_ _)); exact BK462.out⟩, ⟨by repeat (first | (with_reducible first | exact HB.out | apply below_alloc | apply pw_below_drewN | apply below_drew1 | refine below_set ?_ GE458.out | refine below_set ?_ GE462.out) | exact HB.out)⟩⟩
             ·rw [if_neg c29] at H
              exact absurd H (by simp)
            ·rw [if_neg c28] at H
             exact absurd H (by simp)
           ·rw [if_neg c27] at H
            exact absurd H (by simp)
       case rest =>
        clear HC13
        try clear c1
        try clear c2
        try clear p2
        try clear c3
        try clear c4
        try clear p4
        try clear q4
        try clear hx4
        try clear c5
        try clear c5b0
        try clear c5b1
        try clear c8
        try clear c11
        try clear c11b0
        try clear c12
        try clear c12b0
        try clear c14
        try clear c16
        try clear c17
        try clear c18
        try clear c18b0
        try clear c19
        try clear c21
        try clear c21b0
        try clear c22
        try clear c24
        try clear c24b0
        try clear c25
        try clear c27
        try clear c27b0
        try clear c27b1
        try clear c28
        try clear c28b0
        try clear c28b1
        try clear c29
        try clear c29b0
        try clear c29b1
        try clear c31
        try clear hcz10_0
        try clear hcz10_1
        try clear hcz17_0
        try clear hcz17_1
        try clear hcz17_2
        try clear hcz17_3
        try clear hcz17_4
        try clear hcz20_0
        try clear hcz20_1
        try clear hcz20_2
        try clear hcz20_3
        try clear hcz20_4
        try clear hcz23_0
        try clear hcz23_1
        try clear hcz23_2
        try clear hcz23_3
        try clear hcz23_4
        try clear hcz26_0
        try clear hcz26_1
        try clear hcz26_2
        try clear hcz26_3
        try clear hcz26_4
        try clear hcz32_0
        try clear hcz32_1
        try clear hcz32_2
        try clear hcz32_3
        try clear hcz32_4
        try clear hcz8_0
        try clear hcz8_1
        try clear hfz10_0
        try clear hfz10_1
        try clear hfz17_0
        try clear hfz17_1
        try clear hfz17_2
        try clear hfz17_3
        try clear hfz17_4
        try clear hfz20_0
        try clear hfz20_1
        try clear hfz20_2
        try clear hfz20_3
        try clear hfz20_4
        try clear hfz23_0
        try clear hfz23_1
        try clear hfz23_2
        try clear hfz23_3
        try clear hfz23_4
        try clear hfz26_0
        try clear hfz26_1
        try clear hfz26_2
        try clear hfz26_3
        try clear hfz26_4
        try clear hfz32_0
        try clear hfz32_1
        try clear hfz32_2
        try clear hfz32_3
        try clear hfz32_4
        try clear hfz8_0
        try clear hfz8_1
        try clear hx461_0
        try clear hx461_1
        try clear hx461_2
        try clear hx461_3
        try clear hx461_4
        try clear p2
        try clear p461
        try clear q461
        obtain ⟨kq, x59_12, rfl, HA, HJ12, HO_3, BK458, BK462, HB⟩ := hcut
        cases kq with
        | zero => exact absurd HA.out (by simp [hearsaylaw04_TokensPlaces.j1])
        | succ kj12 =>
         have H := HA.out
         clear HA
         simp only [hearsaylaw04_TokensPlaces.j1] at H
         by_cases c33 : x59_12 = true
         ·subst c33
          have H1 : (some false) = some r := by rw [if_pos rfl] at H; exact H
          clear H
          have H := H1
          clear H1
          obtain rfl := Option.some.inj H
          go_wp2
          go_ret
          exact ⟨by first | rfl | (simp [errW_none, errW_some] <;> rfl) | (simp [*, errW_none, errW_some] <;> rfl), by repeat (first | (with_reducible first | exact HB.out | apply below_alloc | apply pw_below_drewN | apply below_drew1 | refine below_set ?_ GE458.out | refine below_set ?_ GE462.out) | exact HB.out)⟩
         ·replace c33 := Bool.eq_false_iff.mpr c33
          subst c33
          have H1 : (if 0 ≤ ((rd_T33 t453 x6_1).f3) then (if ((rd_T33 t453 x6_1).f3) ≤ ((rd_T33 t453 x6_1).f4) then (if ((rd_T33 t453 x6_1).f4) ≤ (a0.size : Int) then ((tokens_Cut.f kj12 (a0.extract (((rd_T33 t453 x6_1).f3) : Int).toNat (((rd_T33 t453 x6_1).f4) : Int).toNat) ((a0.extract (((rd_T33 t453 x6_1).f3) : Int).toNat (((rd_T33 t453 x6_1).f4) : Int).toNat).size : Int)).bind fun bt464 => (if bt464.2.1 = 0 then (if (bt464.1.length : Int) = 1 then (if 0 < (bt464.1.length : Int) then ((hearsaylaw04_bare.f ((rd_T33 bt464.1 0).f0) ((rd_T33 bt464.1 0).f1) ((rd_T33 bt464.1 0).f2) ((rd_T33 bt464.1 0).f3) ((rd_T33 bt464.1 0).f4)).bind fun bt471 => ((hearsaylaw04_bare.f ((rd_T33 t453 x6_1).f0) ((rd_T33 t453 x6_1).f1) ((rd_T33 t453 x6_1).f2) ((rd_T33 t453 x6_1).f3) ((rd_T33 t453 x6_1).f4)).bind fun bt476 => (if (!(bt471.1 == bt476.1) || (!(bt471.2.1.toList == bt476.2.1.toList) || (!(bt471.2.2.1 == bt476.2.2.1) || (!(bt471.2.2.2.1 == bt476.2.2.2.1) || (!(bt471.2.2.2.2 == bt476.2.2.2.2)))))) = true then (some false) else (if ((rd_T33 bt464.1 0).f3) = 0 then (if ((rd_T33 bt464.1 0).f4) = ((a0.extract (((rd_T33 t453 x6_1).f3) : Int).toNat (((rd_T33 t453 x6_1).f4) : Int).toNat).size : Int) then (hearsaylaw04_TokensPlaces.l0 kj12 a0 t453 ((rd_T33 t453 x6_1).f4) (wrap64 (x6_1 + 1))) else (some false)) else (some false))))) else (none)) else (some false)) else (some false))) else (none)) else (none)) else (none)) = some r := by rw [if_neg (show ¬ (false = true) by decide)] at H; exact H
          clear H
          have H := H1
          clear H1
          by_cases c34 : 0 ≤ ((rd_T33 t453 x6_1).f3)
          ·rw [if_pos c34] at H
           have c34b0 := eq_true c34
           have c34b1 : decide (0 ≤ ((rd_T33 t453 x6_1).f3)) = true := decide_eq_true c34
           clear c34
           by_cases c35 : ((rd_T33 t453 x6_1).f3) ≤ ((rd_T33 t453 x6_1).f4)
           ·rw [if_pos c35] at H
            have c35b0 := eq_true c35
            have c35b1 : decide (((rd_T33 t453 x6_1).f3) ≤ ((rd_T33 t453 x6_1).f4)) = true := decide_eq_true c35
            clear c35
            by_cases c36 : ((rd_T33 t453 x6_1).f4) ≤ (a0.size : Int)
            ·rw [if_pos c36] at H
             have c36b0 := eq_true c36
             have c36b1 : decide (((rd_T33 t453 x6_1).f4) ≤ (a0.size : Int)) = true := decide_eq_true c36
             clear c36
             replace H := Option.bind_eq_some_iff.mp H
             obtain ⟨⟨t464, t467, t468⟩, A370, H⟩ := H
             replace H : (if t467 = 0 then (if (t464.length : Int) = 1 then (if 0 < (t464.length : Int) then ((hearsaylaw04_bare.f ((rd_T33 t464 0).f0) ((rd_T33 t464 0).f1) ((rd_T33 t464 0).f2) ((rd_T33 t464 0).f3) ((rd_T33 t464 0).f4)).bind fun bt471 => ((hearsaylaw04_bare.f ((rd_T33 t453 x6_1).f0) ((rd_T33 t453 x6_1).f1) ((rd_T33 t453 x6_1).f2) ((rd_T33 t453 x6_1).f3) ((rd_T33 t453 x6_1).f4)).bind fun bt476 => (if (!(bt471.1 == bt476.1) || (!(bt471.2.1.toList == bt476.2.1.toList) || (!(bt471.2.2.1 == bt476.2.2.1) || (!(bt471.2.2.2.1 == bt476.2.2.2.1) || (!(bt471.2.2.2.2 == bt476.2.2.2.2)))))) = true then (some false) else (if ((rd_T33 t464 0).f3) = 0 then (if ((rd_T33 t464 0).f4) = ((a0.extract (((rd_T33 t453 x6_1).f3) : Int).toNat (((rd_T33 t453 x6_1).f4) : Int).toNat).size : Int) then (hearsaylaw04_TokensPlaces.l0 kj12 a0 t453 ((rd_T33 t453 x6_1).f4) (wrap64 (x6_1 + 1))) else (some false)) else (some false))))) else (none)) else (some false)) else (some false)) = some r := H
             have A37 := Aside0.mk A370
             clear A370
             by_cases c38 : t467 = 0
             ·rw [if_pos c38] at H
              have c38b0 : (t467 == 0) = true := beq_iff_eq.mpr c38
              have c38b1 : (t467 != 0) = false := bne_eq_false_iff_eq.mpr c38
              clear c38
              by_cases c39 : (t464.length : Int) = 1
              ·rw [if_pos c39] at H
               have c39b0 : ((t464.length : Int) == 1) = true := beq_iff_eq.mpr c39
               have c39b1 : ((t464.length : Int) != 1) = false := bne_eq_false_iff_eq.mpr c39
               clear c39
               by_cases c40 : 0 < (t464.length : Int)
               ·rw [if_pos c40] at H
                have c40b0 : decide (0 < (t464.length : Int)) = true := decide_eq_true c40
                have c40b1 : decide (0 < t464.length) = true := decide_eq_true (by omega)
                clear c40
                replace H := Option.bind_eq_some_iff.mp H
                obtain ⟨⟨t471, t472, t473, t474, t475⟩, A410, H⟩ := H
                replace H : ((hearsaylaw04_bare.f ((rd_T33 t453 x6_1).f0) ((rd_T33 t453 x6_1).f1) ((rd_T33 t453 x6_1).f2) ((rd_T33 t453 x6_1).f3) ((rd_T33 t453 x6_1).f4)).bind fun bt476 => (if (!(t471 == bt476.1) || (!(t472.toList == bt476.2.1.toList) || (!(t473 == bt476.2.2.1) || (!(t474 == bt476.2.2.2.1) || (!(t475 == bt476.2.2.2.2)))))) = true then (some false) else (if ((rd_T33 t464 0).f3) = 0 then (if ((rd_T33 t464 0).f4) = ((a0.extract (((rd_T33 t453 x6_1).f3) : Int).toNat (((rd_T33 t453 x6_1).f4) : Int).toNat).size : Int) then (hearsaylaw04_TokensPlaces.l0 kj12 a0 t453 ((rd_T33 t453 x6_1).f4) (wrap64 (x6_1 + 1))) else (some false)) else (some false)))) = some r := H
                have A41 := Aside0.mk A410
                clear A410
                replace H := Option.bind_eq_some_iff.mp H
                obtain ⟨⟨t476, t477, t478, t479, t480⟩, A420, H⟩ := H
                replace H : (if (!(t471 == t476) || (!(t472.toList == t477.toList) || (!(t473 == t478) || (!(t474 == t479) || (!(t475 == t480)))))) = true then (some false) else (if ((rd_T33 t464 0).f3) = 0 then (if ((rd_T33 t464 0).f4) = ((a0.extract (((rd_T33 t453 x6_1).f3) : Int).toNat (((rd_T33 t453 x6_1).f4) : Int).toNat).size : Int) then (hearsaylaw04_TokensPlaces.l0 kj12 a0 t453 ((rd_T33 t453 x6_1).f4) (wrap64 (x6_1 + 1))) else (some false)) else (some false))) = some r := H
                have A42 := Aside0.mk A420
                clear A420
                by_cases c43 : (!(t471 == t476) || (!(t472.toList == t477.toList) || (!(t473 == t478) || (!(t474 == t479) || (!(t475 == t480)))))) = true
                ·rw [if_pos c43] at H
                 have c43b0 : (!(t471 == t476) || (!(t472.toList == t477.toList) || (!(t473 == t478) || (!(t474 == t479) || (!(t475 == t480)))))) = true := c43
                 clear c43
                 obtain rfl := Option.some.inj H
                 have hnb44 := NB462_458.out
                 have hnc44 := NB458_462.out
                 have hcz45_0 : wc.cell? ⟨gb462, 0, none⟩ = some (.int .i64 ((rd_T33 t453 x6_1).f0)) := (blk_cell BK462.out 0).trans rfl
                 have hcz45_1 : wc.cell? ⟨gb462, 1, none⟩ = some (.string ((rd_T33 t453 x6_1).f1)) := (blk_cell BK462.out 1).trans rfl
                 have hcz45_2 : wc.cell? ⟨gb462, 2, none⟩ = some (.int .i64 ((rd_T33 t453 x6_1).f2)) := (blk_cell BK462.out 2).trans rfl
                 have hcz45_3 : wc.cell? ⟨gb462, 3, none⟩ = some (.int .i64 ((rd_T33 t453 x6_1).f3)) := (blk_cell BK462.out 3).trans rfl
                 have hcz45_4 : wc.cell? ⟨gb462, 4, none⟩ = some (.int .i64 ((rd_T33 t453 x6_1).f4)) := (blk_cell BK462.out 4).trans rfl
                 have hfz45_0 := blk_frozen BK462.out 0
                 have hfz45_1 := blk_frozen BK462.out 1
                 have hfz45_2 := blk_frozen BK462.out 2
                 have hfz45_3 := blk_frozen BK462.out 3
                 have hfz45_4 := blk_frozen BK462.out 4
                 try go_wp2_with (first | ((with_reducible refine gate_callee (f := 14) rfl ?_); refine goesL_ (some 70) rfl rfl Tryd.func14 (by kernel_rfl) rfl #[.string (a0.extract (((rd_T33 t453 x6_1).f3) : Int).toNat (((rd_T33 t453 x6_1).f4) : Int).toNat), .int .i64 ((a0.extract (((rd_T33 t453 x6_1).f3) : Int).toNat (((rd_T33 t453 x6_1).f4) : Int).toNat).size : Int)] rfl (by (try simp only [List.map_toArray, List.map_cons, List.map_nil]); first | done | rfl | (simp only [List.length_drop, List.length_take]; rfl) | (simp only [beq_nil_, bne_nil_]; rfl) | (simp only [ByteArray.size_extract, Nat.min_self]; rfl) | (refine (congrArg (fun z => #[_, Value.int .i64 z]) (?_ : _ = _)); rw [ByteArray.size_extract]; have h1_ := of_decide_eq_true c34b1; have h2_ := of_decide_eq_true c35b1; have h3_ := of_decide_eq_true c36b1; omega)) ?_; (with_reducible refine (tokens_Cut.calls kj12 (a0.extract (((rd_T33 t453 x6_1).f3) : Int).toNat (((rd_T33 t453 x6_1).f4) : Int).toNat) ((a0.extract (((rd_T33 t453 x6_1).f3) : Int).toNat (((rd_T33 t453 x6_1).f4) : Int).toNat).size : Int) t464 t467 t468 _ ?side1 A37.out).mono ?_); (case side1 => exact Gl.below HG.out (by repeat (first | (with_reducible first | exact HB.out | apply below_alloc | apply pw_below_drewN | apply below_drew1 | refine below_set ?_ GE458.out | refine below_set ?_ GE462.out) | exact HB.out))); rintro e w46 ⟨v465, rfl, ho0, hb⟩; refine ⟨_, rfl, ?_⟩; have n0_ := Aside0.mk (Kd.R_elder' (by (with_reducible repeat (first | apply Kd.R_alloc | apply Kd.R_drewN | apply Kd.R_drew)); exact HO_3.out) (Kd.R_base ho0) hb); have n1_ := Aside0.mk (Kd.R_lower (Kd.R_newB (Kd.R_new' ho0 (Kd.R_lt (by (with_reducible repeat (first | apply Kd.R_alloc | apply Kd.R_drewN | apply Kd.R_drew)); exact HO_3.out))) (g := gb462) (o := .cells #[.int .i64 ((rd_T33 t453 x6_1).f0), .string ((rd_T33 t453 x6_1).f1), .int .i64 ((rd_T33 t453 x6_1).f2), .int .i64 ((rd_T33 t453 x6_1).f3), .int .i64 ((rd_T33 t453 x6_1).f4)] 33 (0, 0)) (by (with_reducible repeat (first | refine blk_drewN ?_ _ | refine blk_drew ?_ | refine blk_alloc ?_ _)); exact BK462.out)) (below_size (by repeat (first | (with_reducible first | exact HB.out | apply below_alloc | apply pw_below_drewN | apply below_drew1 | refine below_set ?_ GE458.out | refine below_set ?_ GE462.out) | exact HB.out)))); have n2_ := Aside0.mk (blk_below (g := gb458) (o := .cells #[.int .i64 t456, .int .i64 t457] 26 (0, 0)) (by (with_reducible repeat (first | refine blk_drewN ?_ _ | refine blk_drew ?_ | refine blk_alloc ?_ _)); exact BK458.out) hb); have n3_ := Aside0.mk (blk_below (g := gb462) (o := .cells #[.int .i64 ((rd_T33 t453 x6_1).f0), .string ((rd_T33 t453 x6_1).f1), .int .i64 ((rd_T33 t453 x6_1).f2), .int .i64 ((rd_T33 t453 x6_1).f3), .int .i64 ((rd_T33 t453 x6_1).f4)] 33 (0, 0)) (by (with_reducible repeat (first | refine blk_drewN ?_ _ | refine blk_drew ?_ | refine blk_alloc ?_ _)); exact BK462.out) hb); have n4_ := Aside0.mk (below_step (by repeat (first | (with_reducible first | exact HB.out | apply below_alloc | apply pw_below_drewN | apply below_drew1 | refine below_set ?_ GE458.out | refine below_set ?_ GE462.out) | exact HB.out)) hb); clear HO_3; clear BK458; clear BK462; clear HB; have HO_3 := n0_; have HO466 := n1_; have BK458 := n2_; have BK462 := n3_; have HB := n4_; clear n0_ n1_ n2_ n3_ n4_; (try clear hb); (try clear hb2); (try clear hk); (try clear hi); (try clear ho0)) | ((with_reducible refine gate_dst (N := 10) rfl ?_); (try (refine gate_guard (by rfl) ?_; dsimp only)); refine box_event ?hg (N := 10) ?hd (cs := #[.int .i64 0, .int .i64 0]) (t := 26) ?hr ?_; (case hd => rfl); (case hg => rfl); (case hr => first | (go_simp; done) | (go_simp; rfl)); intro gb469 hg w47 hbox hb; have n0_ := Aside0.mk (Kd.R_below (by (with_reducible repeat (first | apply Kd.R_alloc | apply Kd.R_drewN | apply Kd.R_drew)); exact HO_3.out) hb); have n1_ := Aside0.mk (Kd.R_below (by (with_reducible repeat (first | apply Kd.R_alloc | apply Kd.R_drewN | apply Kd.R_drew)); exact HO466.out) hb); have n2_ := Aside0.mk (blk_below (g := gb458) (o := .cells #[.int .i64 t456, .int .i64 t457] 26 (0, 0)) (by (with_reducible repeat (first | refine blk_drewN ?_ _ | refine blk_drew ?_ | refine blk_alloc ?_ _)); exact BK458.out) hb); have n3_ := Aside0.mk (blk_below (g := gb462) (o := .cells #[.int .i64 ((rd_T33 t453 x6_1).f0), .string ((rd_T33 t453 x6_1).f1), .int .i64 ((rd_T33 t453 x6_1).f2), .int .i64 ((rd_T33 t453 x6_1).f3), .int .i64 ((rd_T33 t453 x6_1).f4)] 33 (0, 0)) (by (with_reducible repeat (first | refine blk_drewN ?_ _ | refine blk_drew ?_ | refine blk_alloc ?_ _)); exact BK462.out) hb); have n4_ := Aside0.mk (below_step (by repeat (first | (with_reducible first | exact HB.out | apply below_alloc | apply pw_below_drewN | apply below_drew1 | refine below_set ?_ GE458.out | refine below_set ?_ GE462.out) | exact HB.out)) hb); have n5_ := Aside0.mk (hbox); have n6_ := Aside0.mk ((by rw [hg]; exact (below_size (by repeat (first | (with_reducible first | exact HB.out | apply below_alloc | apply pw_below_drewN | apply below_drew1 | refine below_set ?_ GE458.out | refine below_set ?_ GE462.out) | exact HB.out))) : w.heap.size ≤ gb469)); have n7_ := Aside0.mk ((by rw [hg]; exact (below_size (by repeat (first | (with_reducible first | exact HB.out | apply below_alloc | apply pw_below_drewN | apply below_drew1 | refine below_set ?_ GE458.out | refine below_set ?_ GE462.out) | exact HB.out))) : w.heap.size ≤ gb469)); have n8_ := Aside0.mk ((by rw [hg]; exact Nat.ne_of_lt (blk_lt (g := gb458) (o := .cells #[.int .i64 t456, .int .i64 t457] 26 (0, 0)) (by (with_reducible repeat (first | refine blk_drewN ?_ _ | refine blk_drew ?_ | refine blk_alloc ?_ _)); exact BK458.out)) : gb458 ≠ gb469)); have n9_ := Aside0.mk ((by rw [hg]; exact Nat.ne_of_gt (blk_lt (g := gb458) (o := .cells #[.int .i64 t456, .int .i64 t457] 26 (0, 0)) (by (with_reducible repeat (first | refine blk_drewN ?_ _ | refine blk_drew ?_ | refine blk_alloc ?_ _)); exact BK458.out)) : gb469 ≠ gb458)); have n10_ := Aside0.mk ((by rw [hg]; exact Nat.ne_of_lt (blk_lt (g := gb462) (o := .cells #[.int .i64 ((rd_T33 t453 x6_1).f0), .string ((rd_T33 t453 x6_1).f1), .int .i64 ((rd_T33 t453 x6_1).f2), .int .i64 ((rd_T33 t453 x6_1).f3), .int .i64 ((rd_T33 t453 x6_1).f4)] 33 (0, 0)) (by (with_reducible repeat (first | refine blk_drewN ?_ _ | refine blk_drew ?_ | refine blk_alloc ?_ _)); exact BK462.out)) : gb462 ≠ gb469)); have n11_ := Aside0.mk ((by rw [hg]; exact Nat.ne_of_gt (blk_lt (g := gb462) (o := .cells #[.int .i64 ((rd_T33 t453 x6_1).f0), .string ((rd_T33 t453 x6_1).f1), .int .i64 ((rd_T33 t453 x6_1).f2), .int .i64 ((rd_T33 t453 x6_1).f3), .int .i64 ((rd_T33 t453 x6_1).f4)] 33 (0, 0)) (by (with_reducible repeat (first | refine blk_drewN ?_ _ | refine blk_drew ?_ | refine blk_alloc ?_ _)); exact BK462.out)) : gb469 ≠ gb462)); clear HO_3; clear HO466; clear BK458; clear BK462; clear HB; have HO_3 := n0_; have HO466 := n1_; have BK458 := n2_; have BK462 := n3_; have HB := n4_; have BK469 := n5_; have GW469 := n6_; have GE469 := n7_; have NB458_469 := n8_; have NB469_458 := n9_; have NB462_469 := n10_; have NB469_462 := n11_; clear n0_ n1_ n2_ n3_ n4_ n5_ n6_ n7_ n8_ n9_ n10_ n11_; clear hb hbox hg; have hnb48 := NB469_458.out; have hnc48 := NB458_469.out; have hnb49 := NB469_462.out; have hnc49 := NB462_469.out; have hcz50_0 : w47.cell? ⟨gb469, 0, none⟩ = some (.int .i64 0) := (blk_cell BK469.out 0).trans rfl; have hcz50_1 : w47.cell? ⟨gb469, 1, none⟩ = some (.int .i64 0) := (blk_cell BK469.out 1).trans rfl; have hfz50_0 := blk_frozen BK469.out 0; have hfz50_1 := blk_frozen BK469.out 1))
                 have n0_ : Aside0 (Kd.R k33 33 ((w47.setCell ⟨gb469, 0, none⟩ (.int .i64 t467)).setCell ⟨gb469, 1, none⟩ (.int .i64 t468)) w.heap.size (fun k_ => some k_ ≠ (v465 : Value).ownBlock ∧ k_ ≠ gb462) (.slice (some ad461) t453.length co14) t453) := ⟨by (with_reducible repeat (first | apply Kd.R_alloc | apply Kd.R_drewN | apply Kd.R_drew)); exact Kd.R_mono (Kd.R_far (p := ⟨gb469, 1, none⟩) (Kd.R_far (p := ⟨gb469, 0, none⟩) (Kd.R_types HO_3.out BK469.out (by decide)) (fun _ hk => hk.2) (.int .i64 t467)) (fun _ hk => hk.2) (.int .i64 t468)) (fun _ hk => ⟨hk.1.2, hk.1.1⟩)⟩
                 have n1_ : Aside0 (Kd.R k33 33 ((w47.setCell ⟨gb469, 0, none⟩ (.int .i64 t467)).setCell ⟨gb469, 1, none⟩ (.int .i64 t468)) w.heap.size (fun k_ => some k_ ≠ (.slice (some ad461) t453.length co14 : Value).ownBlock ∧ k_ ≠ gb462) v465 t464) := ⟨by (with_reducible repeat (first | apply Kd.R_alloc | apply Kd.R_drewN | apply Kd.R_drew)); exact Kd.R_mono (Kd.R_far (p := ⟨gb469, 1, none⟩) (Kd.R_far (p := ⟨gb469, 0, none⟩) (Kd.R_types HO466.out BK469.out (by decide)) (fun _ hk => hk.2) (.int .i64 t467)) (fun _ hk => hk.2) (.int .i64 t468)) (fun _ hk => ⟨hk.1.1.2, hk.1.2⟩)⟩
                 have n2_ : Aside0 (((w47.setCell ⟨gb469, 0, none⟩ (.int .i64 t467)).setCell ⟨gb469, 1, none⟩ (.int .i64 t468)).heap[gb458]? = some (.cells #[.int .i64 t456, .int .i64 t457] 26 (0, 0))) := ⟨by (with_reducible repeat (first | refine blk_drewN ?_ _ | refine blk_drew ?_ | refine blk_alloc ?_ _)); refine blk_far ?_ NB458_469.out _; (with_reducible repeat (first | refine blk_drewN ?_ _ | refine blk_drew ?_ | refine blk_alloc ?_ _)); refine blk_far ?_ NB458_469.out _; (with_reducible repeat (first | refine blk_drewN ?_ _ | refine blk_drew ?_ | refine blk_alloc ?_ _)); exact BK458.out⟩
                 have n3_ : Aside0 (((w47.setCell ⟨gb469, 0, none⟩ (.int .i64 t467)).setCell ⟨gb469, 1, none⟩ (.int .i64 t468)).heap[gb462]? = some (.cells #[.int .i64 ((rd_T33 t453 x6_1).f0), .string ((rd_T33 t453 x6_1).f1), .int .i64 ((rd_T33 t453 x6_1).f2), .int .i64 ((rd_T33 t453 x6_1).f3), .int .i64 ((rd_T33 t453 x6_1).f4)] 33 (0, 0))) := ⟨by (with_reducible repeat (first | refine blk_drewN ?_ _ | refine blk_drew ?_ | refine blk_alloc ?_ _)); refine blk_far ?_ NB462_469.out _; (with_reducible repeat (first | refine blk_drewN ?_ _ | refine blk_drew ?_ | refine blk_alloc ?_ _)); refine blk_far ?_ NB462_469.out _; (with_reducible repeat (first | refine blk_drewN ?_ _ | refine blk_drew ?_ | refine blk_alloc ?_ _)); exact BK462.out⟩
                 have n4_ : Aside0 (((w47.setCell ⟨gb469, 0, none⟩ (.int .i64 t467)).setCell ⟨gb469, 1, none⟩ (.int .i64 t468)).heap[gb469]? = some (.cells #[.int .i64 t467, .int .i64 t468] 26 (0, 0))) := ⟨by (with_reducible repeat (first | refine blk_drewN ?_ _ | refine blk_drew ?_ | refine blk_alloc ?_ _)); refine blk_put (cs := #[.int .i64 t467, .int .i64 0]) ?_ 1 _ rfl; (with_reducible repeat (first | refine blk_drewN ?_ _ | refine blk_drew ?_ | refine blk_alloc ?_ _)); refine blk_put (cs := #[.int .i64 0, .int .i64 0]) ?_ 0 _ rfl; (with_reducible repeat (first | refine blk_drewN ?_ _ | refine blk_drew ?_ | refine blk_alloc ?_ _)); exact BK469.out⟩
                 have n5_ : Aside0 (Below w.heap.size w ((w47.setCell ⟨gb469, 0, none⟩ (.int .i64 t467)).setCell ⟨gb469, 1, none⟩ (.int .i64 t468))) := ⟨by repeat (first | (with_reducible first | exact HB.out | apply below_alloc | apply pw_below_drewN | apply below_drew1 | refine below_set ?_ GE458.out | refine below_set ?_ GE462.out | refine below_set ?_ GE469.out) | exact HB.out)⟩
                 (try clear HO_3)
                 (try clear HO466)
                 (try clear BK458)
                 (try clear BK462)
                 (try clear BK469)
                 (try clear HB)
                 generalize ((w47.setCell ⟨gb469, 0, none⟩ (.int .i64 t467)).setCell ⟨gb469, 1, none⟩ (.int .i64 t468)) = w51 at n0_ n1_ n2_ n3_ n4_ n5_ ⊢
                 have HO_3 := n0_
                 have HO466 := n1_
                 have BK458 := n2_
                 have BK462 := n3_
                 have BK469 := n4_
                 have HB := n5_
                 clear n0_ n1_ n2_ n3_ n4_ n5_
                 have n0_ := Aside0.mk (Kd.R_drew HO_3.out)
                 have n1_ := Aside0.mk (Kd.R_drew HO466.out)
                 have n2_ := Aside0.mk (blk_drew BK458.out)
                 have n3_ := Aside0.mk (blk_drew BK462.out)
                 have n4_ := Aside0.mk (blk_drew BK469.out)
                 have n5_ := Aside0.mk (below_drew1 HB.out)
                 clear HO_3
                 clear HO466
                 clear BK458
                 clear BK462
                 clear BK469
                 clear HB
                 have HO_3 := n0_
                 have HO466 := n1_
                 have BK458 := n2_
                 have BK462 := n3_
                 have BK469 := n4_
                 have HB := n5_
                 clear n0_ n1_ n2_ n3_ n4_ n5_
                 obtain ⟨Ao53, co53, eo53⟩ := Kd.R_slice HO466.out
                 (first | subst eo53 | (injection eo53 with f1_ f2_ f3_; have f4_ := f1_.symm; have f5_ := f3_.symm; clear f1_ f2_ f3_; subst f4_; subst f5_))
                 have p470 : 0 ≤ (0 : Int) := (by omega)
                 have q470 : 0 < (t464.length : Int) := of_decide_eq_true (by first | (with_reducible assumption) | assumption)
                 obtain ⟨ad470, e470, hx470_0, hx470_1, hx470_2, hx470_3, hx470_4⟩ := at_T33 (Kd.R_reads' HO466.out).2.2 0 p470 q470
                 cases e470
                 have qi470 : (0 < t464.length) = True := eq_true (by omega)
                 (try simp only [show ((0 : Int)).toNat = 0 from rfl, show 0 * 5 = 0 from rfl, Addr.add_zero'] at hx470_0 hx470_1 hx470_2 hx470_3 hx470_4)
                 replace p470 := eq_true p470
                 replace q470 := eq_true q470
                 refine start_ (n := 33) (S := fun w' => w'.cell? ⟨gb469, 0, none⟩ = some (.int .i64 t467) ∧ w'.cell? ⟨gb469, 1, none⟩ = some (.int .i64 t468) ∧ w'.cell? ⟨gb462, 0, none⟩ = some (.int .i64 ((rd_T33 t453 x6_1).f0)) ∧ w'.cell? ⟨gb462, 1, none⟩ = some (.string ((rd_T33 t453 x6_1).f1)) ∧ w'.cell? ⟨gb462, 2, none⟩ = some (.int .i64 ((rd_T33 t453 x6_1).f2)) ∧ w'.cell? ⟨gb462, 3, none⟩ = some (.int .i64 ((rd_T33 t453 x6_1).f3)) ∧ w'.cell? ⟨gb462, 4, none⟩ = some (.int .i64 ((rd_T33 t453 x6_1).f4)) ∧ w'.cell? ad470 = some (.int .i64 ((rd_T33 t464 0).f0)) ∧ w'.cell? ⟨ad470.block, ad470.off + 1, none⟩ = some (.string ((rd_T33 t464 0).f1)) ∧ w'.cell? ⟨ad470.block, ad470.off + 2, none⟩ = some (.int .i64 ((rd_T33 t464 0).f2)) ∧ w'.cell? ⟨ad470.block, ad470.off + 3, none⟩ = some (.int .i64 ((rd_T33 t464 0).f3)) ∧ w'.cell? ⟨ad470.block, ad470.off + 4, none⟩ = some (.int .i64 ((rd_T33 t464 0).f4))) (ds := []) #[f_,f_,f_,f_,f_,f_,f_,f_,f_,f_,f_,f_,f_,f_,f_,f_,f_,f_,f_,f_,f_,f_,f_,f_,f_,f_,f_,f_,f_,f_,f_,f_,f_] (by kernel_rfl) rfl rfl ⟨(blk_cell BK469.out 0).trans rfl, (blk_cell BK469.out 1).trans rfl, (blk_cell BK462.out 0).trans rfl, (blk_cell BK462.out 1).trans rfl, (blk_cell BK462.out 2).trans rfl, (blk_cell BK462.out 3).trans rfl, (blk_cell BK462.out 4).trans rfl, hx470_0, hx470_1, hx470_2, hx470_3, hx470_4⟩ (fun hHeld => ?_); refine with_tabW hearsaylaw04_TokensPlaces.tab15 hearsaylaw04_TokensPlaces.bits15 (fun HT_ HW_ => ?_)
                 generalize w51.drew = w52 at HO_3 HO466 BK458 BK462 BK469 HB hx470_0 hx470_1 hx470_2 hx470_3 hx470_4 hHeld ⊢
                 refine pB_ HT_ 0 73 #[t_,f_,f_,f_,f_,f_,f_,f_,f_,f_,f_,f_,f_,f_,f_,f_,f_,f_,f_,f_,f_,f_,f_,f_,f_,f_,f_,f_,f_,f_,f_,f_,f_] ?_
                 refine take_ (i := 1) (N := some 74) (v := ?_) (a' := ?_) #[t_,t_,f_,f_,f_,f_,f_,f_,f_,f_,f_,f_,f_,f_,f_,f_,f_,f_,f_,f_,f_,f_,f_,f_,f_,f_,f_,f_,f_,f_,f_,f_,f_] rfl rfl (take_ofW HT_.out HW_.out (by kernel_rfl)) (fun _ _ _ h => h) (Or.inl ⟨by rfl, ?_⟩) hHeld ?_ ?_
                 rotate_left
                 ·rintro w' ⟨s0, s1, s2, s3, s4, s5, s6, s7, s8, s9, s10, s11⟩
                  go_simp
                  with_reducible rfl
                 rotate_left
                 ·simp only [Act.put, List.setIfInBounds_toArray, List.set_cons_zero, List.set_cons_succ, i64_w, i32_w]
                  rfl
                 refine pB_ HT_ 2 75 #[t_,t_,t_,f_,f_,f_,f_,f_,f_,f_,f_,f_,f_,f_,f_,f_,f_,f_,f_,f_,f_,f_,f_,f_,f_,f_,f_,f_,f_,f_,f_,f_,f_] ?_
                 refine pB_ HT_ 3 76 #[t_,t_,t_,t_,f_,f_,f_,f_,f_,f_,f_,f_,f_,f_,f_,f_,f_,f_,f_,f_,f_,f_,f_,f_,f_,f_,f_,f_,f_,f_,f_,f_,f_] ?_
                 refine pB_ HT_ 4 77 #[t_,t_,t_,t_,t_,f_,f_,f_,f_,f_,f_,f_,f_,f_,f_,f_,f_,f_,f_,f_,f_,f_,f_,f_,f_,f_,f_,f_,f_,f_,f_,f_,f_] ?_
                 refine pB_ HT_ 5 78 #[t_,t_,t_,t_,t_,t_,f_,f_,f_,f_,f_,f_,f_,f_,f_,f_,f_,f_,f_,f_,f_,f_,f_,f_,f_,f_,f_,f_,f_,f_,f_,f_,f_] ?_
                 refine pB_ HT_ 6 79 #[t_,t_,t_,t_,t_,t_,t_,f_,f_,f_,f_,f_,f_,f_,f_,f_,f_,f_,f_,f_,f_,f_,f_,f_,f_,f_,f_,f_,f_,f_,f_,f_,f_] ?_
                 refine pB_ HT_ 7 80 #[t_,t_,t_,t_,t_,t_,t_,t_,f_,f_,f_,f_,f_,f_,f_,f_,f_,f_,f_,f_,f_,f_,f_,f_,f_,f_,f_,f_,f_,f_,f_,f_,f_] ?_
                 refine pB_ HT_ 8 81 #[t_,t_,t_,t_,t_,t_,t_,t_,t_,f_,f_,f_,f_,f_,f_,f_,f_,f_,f_,f_,f_,f_,f_,f_,f_,f_,f_,f_,f_,f_,f_,f_,f_] ?_
                 refine pB_ HT_ 9 82 #[t_,t_,t_,t_,t_,t_,t_,t_,t_,t_,f_,f_,f_,f_,f_,f_,f_,f_,f_,f_,f_,f_,f_,f_,f_,f_,f_,f_,f_,f_,f_,f_,f_] ?_
                 refine pB_ HT_ 10 83 #[t_,t_,t_,t_,t_,t_,t_,t_,t_,t_,t_,f_,f_,f_,f_,f_,f_,f_,f_,f_,f_,f_,f_,f_,f_,f_,f_,f_,f_,f_,f_,f_,f_] ?_
                 refine take_ (i := 11) (N := some 84) (v := ?_) (a' := ?_) #[t_,t_,t_,t_,t_,t_,t_,t_,t_,t_,t_,t_,f_,f_,f_,f_,f_,f_,f_,f_,f_,f_,f_,f_,f_,f_,f_,f_,f_,f_,f_,f_,f_] rfl rfl (take_ofW HT_.out HW_.out (by kernel_rfl)) (fun _ _ _ h => h) (Or.inl ⟨by rfl, ?_⟩) hHeld ?_ ?_
                 rotate_left
                 ·rintro w' ⟨s0, s1, s2, s3, s4, s5, s6, s7, s8, s9, s10, s11⟩
                  go_simp
                  with_reducible rfl
                 rotate_left
                 ·simp only [Act.put, List.setIfInBounds_toArray, List.set_cons_zero, List.set_cons_succ, i64_w, i32_w]
                  rfl
                 refine take_ (i := 13) (N := some 86) (v := ?_) (a' := ?_) #[t_,t_,t_,t_,t_,t_,t_,t_,t_,t_,t_,t_,f_,t_,f_,f_,f_,f_,f_,f_,f_,f_,f_,f_,f_,f_,f_,f_,f_,f_,f_,f_,f_] rfl rfl (take_ofW HT_.out HW_.out (by kernel_rfl)) (fun _ _ _ h => h) (Or.inl ⟨by rfl, ?_⟩) hHeld ?_ ?_
                 rotate_left
                 ·rintro w' ⟨s0, s1, s2, s3, s4, s5, s6, s7, s8, s9, s10, s11⟩
                  go_simp
                  with_reducible rfl
                 rotate_left
                 ·simp only [Act.put, List.setIfInBounds_toArray, List.set_cons_zero, List.set_cons_succ, i64_w, i32_w]
                  rfl
                 refine one_ (i := 12) (N := some 85) #[t_,t_,t_,t_,t_,t_,t_,t_,t_,t_,t_,t_,t_,t_,f_,f_,f_,f_,f_,f_,f_,f_,f_,f_,f_,f_,f_,f_,f_,f_,f_,f_,f_] rfl rfl (one_of HT_.out (by kernel_rfl)) (by decide) (fun K hK => ?_)
                 refine goes_ Tryd.func25 (by kernel_rfl) rfl #[.agg #[.int .i64 ((rd_T33 t464 0).f0), .string ((rd_T33 t464 0).f1), .int .i64 ((rd_T33 t464 0).f2), .int .i64 ((rd_T33 t464 0).f3), .int .i64 ((rd_T33 t464 0).f4)]] (by rfl) rfl rfl (by (try simp only [List.map_toArray, List.map_cons, List.map_nil]); first | done | rfl | (simp only [List.length_drop, List.length_take]; rfl) | (simp only [beq_nil_, bne_nil_]; rfl) | (simp only [ByteArray.size_extract, Nat.min_self]; rfl) | (refine (congrArg (fun z => #[_, Value.int .i64 z]) (?_ : _ = _)); rw [ByteArray.size_extract]; have h1_ := of_decide_eq_true c34b1; have h2_ := of_decide_eq_true c35b1; have h3_ := of_decide_eq_true c36b1; omega)) ?_
                 with_reducible refine (hearsaylaw04_bare.calls ((rd_T33 t464 0).f0) ((rd_T33 t464 0).f1) ((rd_T33 t464 0).f2) ((rd_T33 t464 0).f3) ((rd_T33 t464 0).f4) t471 t472 t473 t474 t475 _ A41.out).mono ?_
                 rintro e w54 ⟨rfl, hb⟩
                 have HS7_ := (hb.cell (World.block_lt_of_cell? _ _ (hHeld.2.2.2.2.2.2.2.1))).trans (hHeld.2.2.2.2.2.2.2.1)
                 have HS8_ := (hb.cell (World.block_lt_of_cell? _ _ (hHeld.2.2.2.2.2.2.2.2.1))).trans (hHeld.2.2.2.2.2.2.2.2.1)
                 have HS9_ := (hb.cell (World.block_lt_of_cell? _ _ (hHeld.2.2.2.2.2.2.2.2.2.1))).trans (hHeld.2.2.2.2.2.2.2.2.2.1)
                 have HS10_ := (hb.cell (World.block_lt_of_cell? _ _ (hHeld.2.2.2.2.2.2.2.2.2.2.1))).trans (hHeld.2.2.2.2.2.2.2.2.2.2.1)
                 have HS11_ := (hb.cell (World.block_lt_of_cell? _ _ (hHeld.2.2.2.2.2.2.2.2.2.2.2))).trans (hHeld.2.2.2.2.2.2.2.2.2.2.2)
                 refine ⟨_, rfl, ?_⟩
                 have n0_ := Aside0.mk (Kd.R_below (by (with_reducible repeat (first | apply Kd.R_alloc | apply Kd.R_drewN | apply Kd.R_drew)); exact HO_3.out) hb)
                 have n1_ := Aside0.mk (Kd.R_below (by (with_reducible repeat (first | apply Kd.R_alloc | apply Kd.R_drewN | apply Kd.R_drew)); exact HO466.out) hb)
                 have n2_ := Aside0.mk (blk_below (g := gb458) (o := .cells #[.int .i64 t456, .int .i64 t457] 26 (0, 0)) (by (with_reducible repeat (first | refine blk_drewN ?_ _ | refine blk_drew ?_ | refine blk_alloc ?_ _)); exact BK458.out) hb)
                 have n3_ := Aside0.mk (blk_below (g := gb462) (o := .cells #[.int .i64 ((rd_T33 t453 x6_1).f0), .string ((rd_T33 t453 x6_1).f1), .int .i64 ((rd_T33 t453 x6_1).f2), .int .i64 ((rd_T33 t453 x6_1).f3), .int .i64 ((rd_T33 t453 x6_1).f4)] 33 (0, 0)) (by (with_reducible repeat (first | refine blk_drewN ?_ _ | refine blk_drew ?_ | refine blk_alloc ?_ _)); exact BK462.out) hb)
                 have n4_ := Aside0.mk (blk_below (g := gb469) (o := .cells #[.int .i64 t467, .int .i64 t468] 26 (0, 0)) (by (with_reducible repeat (first | refine blk_drewN ?_ _ | refine blk_drew ?_ | refine blk_alloc ?_ _)); exact BK469.out) hb)
                 have n5_ := Aside0.mk (below_step (by repeat (first | (with_reducible first | exact HB.out | apply below_alloc | apply pw_below_drewN | apply below_drew1 | refine below_set ?_ GE458.out | refine below_set ?_ GE462.out | refine below_set ?_ GE469.out) | exact HB.out)) hb)
                 clear HO_3
                 clear HO466
                 clear BK458
                 clear BK462
                 clear BK469
                 clear HB
                 have HO_3 := n0_
                 have HO466 := n1_
                 have BK458 := n2_
                 have BK462 := n3_
                 have BK469 := n4_
                 have HB := n5_
                 clear n0_ n1_ n2_ n3_ n4_ n5_
                 (try clear hb)
                 (try clear hb2)
                 (try clear hk)
                 (try clear hi)
                 refine hK.out _ _ ⟨(blk_cell BK469.out 0).trans rfl, (blk_cell BK469.out 1).trans rfl, (blk_cell BK462.out 0).trans rfl, (blk_cell BK462.out 1).trans rfl, (blk_cell BK462.out 2).trans rfl, (blk_cell BK462.out 3).trans rfl, (blk_cell BK462.out 4).trans rfl, HS7_, HS8_, HS9_, HS10_, HS11_⟩ (fun hHeld => ?_)
                 clear hK K
                 refine norm_ (a' := ?_) ?_ ?_
                 rotate_left
                 ·show Act.put _ (some 85) _ = _
                  simp only [Act.put, List.setIfInBounds_toArray, List.set_cons_zero, List.set_cons_succ, i64_w, i32_w]
                  rfl
                 refine one_ (i := 14) (N := some 87) #[t_,t_,t_,t_,t_,t_,t_,t_,t_,t_,t_,t_,t_,t_,t_,f_,f_,f_,f_,f_,f_,f_,f_,f_,f_,f_,f_,f_,f_,f_,f_,f_,f_] rfl rfl (one_of HT_.out (by kernel_rfl)) (by decide) (fun K hK => ?_)
                 refine goes_ Tryd.func25 (by kernel_rfl) rfl #[.agg #[.int .i64 ((rd_T33 t453 x6_1).f0), .string ((rd_T33 t453 x6_1).f1), .int .i64 ((rd_T33 t453 x6_1).f2), .int .i64 ((rd_T33 t453 x6_1).f3), .int .i64 ((rd_T33 t453 x6_1).f4)]] (by rfl) rfl rfl (by (try simp only [List.map_toArray, List.map_cons, List.map_nil]); first | done | rfl | (simp only [List.length_drop, List.length_take]; rfl) | (simp only [beq_nil_, bne_nil_]; rfl) | (simp only [ByteArray.size_extract, Nat.min_self]; rfl) | (refine (congrArg (fun z => #[_, Value.int .i64 z]) (?_ : _ = _)); rw [ByteArray.size_extract]; have h1_ := of_decide_eq_true c34b1; have h2_ := of_decide_eq_true c35b1; have h3_ := of_decide_eq_true c36b1; omega)) ?_
                 with_reducible refine (hearsaylaw04_bare.calls ((rd_T33 t453 x6_1).f0) ((rd_T33 t453 x6_1).f1) ((rd_T33 t453 x6_1).f2) ((rd_T33 t453 x6_1).f3) ((rd_T33 t453 x6_1).f4) t476 t477 t478 t479 t480 _ A42.out).mono ?_
                 rintro e w55 ⟨rfl, hb⟩
                 have HS7_ := (hb.cell (World.block_lt_of_cell? _ _ (hHeld.2.2.2.2.2.2.2.1))).trans (hHeld.2.2.2.2.2.2.2.1)
                 have HS8_ := (hb.cell (World.block_lt_of_cell? _ _ (hHeld.2.2.2.2.2.2.2.2.1))).trans (hHeld.2.2.2.2.2.2.2.2.1)
                 have HS9_ := (hb.cell (World.block_lt_of_cell? _ _ (hHeld.2.2.2.2.2.2.2.2.2.1))).trans (hHeld.2.2.2.2.2.2.2.2.2.1)
                 have HS10_ := (hb.cell (World.block_lt_of_cell? _ _ (hHeld.2.2.2.2.2.2.2.2.2.2.1))).trans (hHeld.2.2.2.2.2.2.2.2.2.2.1)
                 have HS11_ := (hb.cell (World.block_lt_of_cell? _ _ (hHeld.2.2.2.2.2.2.2.2.2.2.2))).trans (hHeld.2.2.2.2.2.2.2.2.2.2.2)
                 refine ⟨_, rfl, ?_⟩
                 have n0_ := Aside0.mk (Kd.R_below (by (with_reducible repeat (first | apply Kd.R_alloc | apply Kd.R_drewN | apply Kd.R_drew)); exact HO_3.out) hb)
                 have n1_ := Aside0.mk (Kd.R_below (by (with_reducible repeat (first | apply Kd.R_alloc | apply Kd.R_drewN | apply Kd.R_drew)); exact HO466.out) hb)
                 have n2_ := Aside0.mk (blk_below (g := gb458) (o := .cells #[.int .i64 t456, .int .i64 t457] 26 (0, 0)) (by (with_reducible repeat (first | refine blk_drewN ?_ _ | refine blk_drew ?_ | refine blk_alloc ?_ _)); exact BK458.out) hb)
                 have n3_ := Aside0.mk (blk_below (g := gb462) (o := .cells #[.int .i64 ((rd_T33 t453 x6_1).f0), .string ((rd_T33 t453 x6_1).f1), .int .i64 ((rd_T33 t453 x6_1).f2), .int .i64 ((rd_T33 t453 x6_1).f3), .int .i64 ((rd_T33 t453 x6_1).f4)] 33 (0, 0)) (by (with_reducible repeat (first | refine blk_drewN ?_ _ | refine blk_drew ?_ | refine blk_alloc ?_ _)); exact BK462.out) hb)
                 have n4_ := Aside0.mk (blk_below (g := gb469) (o := .cells #[.int .i64 t467, .int .i64 t468] 26 (0, 0)) (by (with_reducible repeat (first | refine blk_drewN ?_ _ | refine blk_drew ?_ | refine blk_alloc ?_ _)); exact BK469.out) hb)
                 have n5_ := Aside0.mk (below_step (by repeat (first | (with_reducible first | exact HB.out | apply below_alloc | apply pw_below_drewN | apply below_drew1 | refine below_set ?_ GE458.out | refine below_set ?_ GE462.out | refine below_set ?_ GE469.out) | exact HB.out)) hb)
                 clear HO_3
                 clear HO466
                 clear BK458
                 clear BK462
                 clear BK469
                 clear HB
                 have HO_3 := n0_
                 have HO466 := n1_
                 have BK458 := n2_
                 have BK462 := n3_
                 have BK469 := n4_
                 have HB := n5_
                 clear n0_ n1_ n2_ n3_ n4_ n5_
                 (try clear hb)
                 (try clear hb2)
                 (try clear hk)
                 (try clear hi)
                 refine hK.out _ _ ⟨(blk_cell BK469.out 0).trans rfl, (blk_cell BK469.out 1).trans rfl, (blk_cell BK462.out 0).trans rfl, (blk_cell BK462.out 1).trans rfl, (blk_cell BK462.out 2).trans rfl, (blk_cell BK462.out 3).trans rfl, (blk_cell BK462.out 4).trans rfl, HS7_, HS8_, HS9_, HS10_, HS11_⟩ (fun hHeld => ?_)
                 clear hK K
                 refine norm_ (a' := ?_) ?_ ?_
                 rotate_left
                 ·show Act.put _ (some 87) _ = _
                  simp only [Act.put, List.setIfInBounds_toArray, List.set_cons_zero, List.set_cons_succ, i64_w, i32_w]
                  rfl
                 refine pB_ HT_ 15 88 #[t_,t_,t_,t_,t_,t_,t_,t_,t_,t_,t_,t_,t_,t_,t_,t_,f_,f_,f_,f_,f_,f_,f_,f_,f_,f_,f_,f_,f_,f_,f_,f_,f_] ?_
                 refine pB_ HT_ 16 89 #[t_,t_,t_,t_,t_,t_,t_,t_,t_,t_,t_,t_,t_,t_,t_,t_,t_,f_,f_,f_,f_,f_,f_,f_,f_,f_,f_,f_,f_,f_,f_,f_,f_] ?_
                 refine pB_ HT_ 17 90 #[t_,t_,t_,t_,t_,t_,t_,t_,t_,t_,t_,t_,t_,t_,t_,t_,t_,t_,f_,f_,f_,f_,f_,f_,f_,f_,f_,f_,f_,f_,f_,f_,f_] ?_
                 refine pA_ HT_ 18 91 #[t_,t_,t_,t_,t_,t_,t_,t_,t_,t_,t_,t_,t_,t_,t_,t_,t_,t_,t_,f_,f_,f_,f_,f_,f_,f_,f_,f_,f_,f_,f_,f_,f_] ?_
                 refine pA_ HT_ 19 92 #[t_,t_,t_,t_,t_,t_,t_,t_,t_,t_,t_,t_,t_,t_,t_,t_,t_,t_,t_,t_,f_,f_,f_,f_,f_,f_,f_,f_,f_,f_,f_,f_,f_] ?_
                 refine pA_ HT_ 20 93 #[t_,t_,t_,t_,t_,t_,t_,t_,t_,t_,t_,t_,t_,t_,t_,t_,t_,t_,t_,t_,t_,f_,f_,f_,f_,f_,f_,f_,f_,f_,f_,f_,f_] ?_
                 refine pA_ HT_ 21 94 #[t_,t_,t_,t_,t_,t_,t_,t_,t_,t_,t_,t_,t_,t_,t_,t_,t_,t_,t_,t_,t_,t_,f_,f_,f_,f_,f_,f_,f_,f_,f_,f_,f_] ?_
                 refine pA_ HT_ 22 95 #[t_,t_,t_,t_,t_,t_,t_,t_,t_,t_,t_,t_,t_,t_,t_,t_,t_,t_,t_,t_,t_,t_,t_,f_,f_,f_,f_,f_,f_,f_,f_,f_,f_] ?_
                 refine pB_ HT_ 23 96 #[t_,t_,t_,t_,t_,t_,t_,t_,t_,t_,t_,t_,t_,t_,t_,t_,t_,t_,t_,t_,t_,t_,t_,t_,f_,f_,f_,f_,f_,f_,f_,f_,f_] ?_
                 refine pB_ HT_ 24 97 #[t_,t_,t_,t_,t_,t_,t_,t_,t_,t_,t_,t_,t_,t_,t_,t_,t_,t_,t_,t_,t_,t_,t_,t_,t_,f_,f_,f_,f_,f_,f_,f_,f_] ?_
                 refine pA_ HT_ 25 98 #[t_,t_,t_,t_,t_,t_,t_,t_,t_,t_,t_,t_,t_,t_,t_,t_,t_,t_,t_,t_,t_,t_,t_,t_,t_,t_,f_,f_,f_,f_,f_,f_,f_] ?_
                 refine pA_ HT_ 26 99 #[t_,t_,t_,t_,t_,t_,t_,t_,t_,t_,t_,t_,t_,t_,t_,t_,t_,t_,t_,t_,t_,t_,t_,t_,t_,t_,t_,f_,f_,f_,f_,f_,f_] ?_
                 refine pA_ HT_ 27 100 #[t_,t_,t_,t_,t_,t_,t_,t_,t_,t_,t_,t_,t_,t_,t_,t_,t_,t_,t_,t_,t_,t_,t_,t_,t_,t_,t_,t_,f_,f_,f_,f_,f_] ?_
                 refine pA_ HT_ 28 101 #[t_,t_,t_,t_,t_,t_,t_,t_,t_,t_,t_,t_,t_,t_,t_,t_,t_,t_,t_,t_,t_,t_,t_,t_,t_,t_,t_,t_,t_,f_,f_,f_,f_] ?_
                 refine pA_ HT_ 29 102 #[t_,t_,t_,t_,t_,t_,t_,t_,t_,t_,t_,t_,t_,t_,t_,t_,t_,t_,t_,t_,t_,t_,t_,t_,t_,t_,t_,t_,t_,t_,f_,f_,f_] ?_
                 refine pA_ HT_ 30 103 #[t_,t_,t_,t_,t_,t_,t_,t_,t_,t_,t_,t_,t_,t_,t_,t_,t_,t_,t_,t_,t_,t_,t_,t_,t_,t_,t_,t_,t_,t_,t_,f_,f_] ?_
                 refine pA_ HT_ 31 104 #[t_,t_,t_,t_,t_,t_,t_,t_,t_,t_,t_,t_,t_,t_,t_,t_,t_,t_,t_,t_,t_,t_,t_,t_,t_,t_,t_,t_,t_,t_,t_,t_,f_] ?_
                 refine pB_ HT_ 32 105 #[t_,t_,t_,t_,t_,t_,t_,t_,t_,t_,t_,t_,t_,t_,t_,t_,t_,t_,t_,t_,t_,t_,t_,t_,t_,t_,t_,t_,t_,t_,t_,t_,t_] ?_
                 refine done_ (done_of HT_.out (by kernel_rfl)) ?_
                 try go_wp2
                 go_ret
                 exact ⟨by first | rfl | (simp [errW_none, errW_some] <;> rfl) | (simp [*, errW_none, errW_some] <;> rfl), by repeat (first | (with_reducible first | exact HB.out | apply below_alloc | apply pw_below_drewN | apply below_drew1 | refine below_set ?_ GE458.out | refine below_set ?_ GE462.out | refine below_set ?_ GE469.out) | exact HB.out)⟩
                ·rw [if_neg c43] at H
                 have c43b0 : (!(t471 == t476) || (!(t472.toList == t477.toList) || (!(t473 == t478) || (!(t474 == t479) || (!(t475 == t480)))))) = false := by simpa using c43
                 clear c43
                 by_cases c56 : ((rd_T33 t464 0).f3) = 0
                 ·rw [if_pos c56] at H
                  have c56b0 : (((rd_T33 t464 0).f3) == 0) = true := beq_iff_eq.mpr c56
                  have c56b1 : (((rd_T33 t464 0).f3) != 0) = false := bne_eq_false_iff_eq.mpr c56
                  clear c56
                  by_cases c57 : ((rd_T33 t464 0).f4) = ((a0.extract (((rd_T33 t453 x6_1).f3) : Int).toNat (((rd_T33 t453 x6_1).f4) : Int).toNat).size : Int)
                  ·rw [if_pos c57] at H
                   have c57b0 : (((rd_T33 t464 0).f4) == ((a0.extract (((rd_T33 t453 x6_1).f3) : Int).toNat (((rd_T33 t453 x6_1).f4) : Int).toNat).size : Int)) = true := beq_iff_eq.mpr c57
                   have c57b1 : (((rd_T33 t464 0).f4) != ((a0.extract (((rd_T33 t453 x6_1).f3) : Int).toNat (((rd_T33 t453 x6_1).f4) : Int).toNat).size : Int)) = false := bne_eq_false_iff_eq.mpr c57
                   have c57z : (((rd_T33 t464 0).f4) != ((Int.toNat ((rd_T33 t453 x6_1).f4) - Int.toNat ((rd_T33 t453 x6_1).f3) : Nat) : Int)) = false := by have h_ := c57b1; rw [ByteArray.size_extract, Nat.min_eq_left (by have h3_ := of_decide_eq_true c36b1; omega)] at h_; exact h_
                   clear c57
                   have H' := Aside0.mk H
                   clear H
                   have hnb58 := NB462_458.out
                   have hnc58 := NB458_462.out
                   have hcz59_0 : wc.cell? ⟨gb462, 0, none⟩ = some (.int .i64 ((rd_T33 t453 x6_1).f0)) := (blk_cell BK462.out 0).trans rfl
                   have hcz59_1 : wc.cell? ⟨gb462, 1, none⟩ = some (.string ((rd_T33 t453 x6_1).f1)) := (blk_cell BK462.out 1).trans rfl
                   have hcz59_2 : wc.cell? ⟨gb462, 2, none⟩ = some (.int .i64 ((rd_T33 t453 x6_1).f2)) := (blk_cell BK462.out 2).trans rfl
                   have hcz59_3 : wc.cell? ⟨gb462, 3, none⟩ = some (.int .i64 ((rd_T33 t453 x6_1).f3)) := (blk_cell BK462.out 3).trans rfl
                   have hcz59_4 : wc.cell? ⟨gb462, 4, none⟩ = some (.int .i64 ((rd_T33 t453 x6_1).f4)) := (blk_cell BK462.out 4).trans rfl
                   have hfz59_0 := blk_frozen BK462.out 0
                   have hfz59_1 := blk_frozen BK462.out 1
                   have hfz59_2 := blk_frozen BK462.out 2
                   have hfz59_3 := blk_frozen BK462.out 3
                   have hfz59_4 := blk_frozen BK462.out 4
                   try go_wp2_with (first | ((with_reducible refine gate_callee (f := 14) rfl ?_); refine goesL_ (some 70) rfl rfl Tryd.func14 (by kernel_rfl) rfl #[.string (a0.extract (((rd_T33 t453 x6_1).f3) : Int).toNat (((rd_T33 t453 x6_1).f4) : Int).toNat), .int .i64 ((a0.extract (((rd_T33 t453 x6_1).f3) : Int).toNat (((rd_T33 t453 x6_1).f4) : Int).toNat).size : Int)] rfl (by (try simp only [List.map_toArray, List.map_cons, List.map_nil]); first | done | rfl | (simp only [List.length_drop, List.length_take]; rfl) | (simp only [beq_nil_, bne_nil_]; rfl) | (simp only [ByteArray.size_extract, Nat.min_self]; rfl) | (refine (congrArg (fun z => #[_, Value.int .i64 z]) (?_ : _ = _)); rw [ByteArray.size_extract]; have h1_ := of_decide_eq_true c34b1; have h2_ := of_decide_eq_true c35b1; have h3_ := of_decide_eq_true c36b1; omega)) ?_; (with_reducible refine (tokens_Cut.calls kj12 (a0.extract (((rd_T33 t453 x6_1).f3) : Int).toNat (((rd_T33 t453 x6_1).f4) : Int).toNat) ((a0.extract (((rd_T33 t453 x6_1).f3) : Int).toNat (((rd_T33 t453 x6_1).f4) : Int).toNat).size : Int) t464 t467 t468 _ ?side1 A37.out).mono ?_); (case side1 => exact Gl.below HG.out (by repeat (first | (with_reducible first | exact HB.out | apply below_alloc | apply pw_below_drewN | apply below_drew1 | refine below_set ?_ GE458.out | refine below_set ?_ GE462.out) | exact HB.out))); rintro e w60 ⟨v465, rfl, ho0, hb⟩; refine ⟨_, rfl, ?_⟩; have n0_ := Aside0.mk (Kd.R_elder' (by (with_reducible repeat (first | apply Kd.R_alloc | apply Kd.R_drewN | apply Kd.R_drew)); exact HO_3.out) (Kd.R_base ho0) hb); have n1_ := Aside0.mk (Kd.R_lower (Kd.R_newB (Kd.R_new' ho0 (Kd.R_lt (by (with_reducible repeat (first | apply Kd.R_alloc | apply Kd.R_drewN | apply Kd.R_drew)); exact HO_3.out))) (g := gb462) (o := .cells #[.int .i64 ((rd_T33 t453 x6_1).f0), .string ((rd_T33 t453 x6_1).f1), .int .i64 ((rd_T33 t453 x6_1).f2), .int .i64 ((rd_T33 t453 x6_1).f3), .int .i64 ((rd_T33 t453 x6_1).f4)] 33 (0, 0)) (by (with_reducible repeat (first | refine blk_drewN ?_ _ | refine blk_drew ?_ | refine blk_alloc ?_ _)); exact BK462.out)) (below_size (by repeat (first | (with_reducible first | exact HB.out | apply below_alloc | apply pw_below_drewN | apply below_drew1 | refine below_set ?_ GE458.out | refine below_set ?_ GE462.out) | exact HB.out)))); have n2_ := Aside0.mk (blk_below (g := gb458) (o := .cells #[.int .i64 t456, .int .i64 t457] 26 (0, 0)) (by (with_reducible repeat (first | refine blk_drewN ?_ _ | refine blk_drew ?_ | refine blk_alloc ?_ _)); exact BK458.out) hb); have n3_ := Aside0.mk (blk_below (g := gb462) (o := .cells #[.int .i64 ((rd_T33 t453 x6_1).f0), .string ((rd_T33 t453 x6_1).f1), .int .i64 ((rd_T33 t453 x6_1).f2), .int .i64 ((rd_T33 t453 x6_1).f3), .int .i64 ((rd_T33 t453 x6_1).f4)] 33 (0, 0)) (by (with_reducible repeat (first | refine blk_drewN ?_ _ | refine blk_drew ?_ | refine blk_alloc ?_ _)); exact BK462.out) hb); have n4_ := Aside0.mk (below_step (by repeat (first | (with_reducible first | exact HB.out | apply below_alloc | apply pw_below_drewN | apply below_drew1 | refine below_set ?_ GE458.out | refine below_set ?_ GE462.out) | exact HB.out)) hb); clear HO_3; clear BK458; clear BK462; clear HB; have HO_3 := n0_; have HO466 := n1_; have BK458 := n2_; have BK462 := n3_; have HB := n4_; clear n0_ n1_ n2_ n3_ n4_; (try clear hb); (try clear hb2); (try clear hk); (try clear hi); (try clear ho0)) | ((with_reducible refine gate_dst (N := 10) rfl ?_); (try (refine gate_guard (by rfl) ?_; dsimp only)); refine box_event ?hg (N := 10) ?hd (cs := #[.int .i64 0, .int .i64 0]) (t := 26) ?hr ?_; (case hd => rfl); (case hg => rfl); (case hr => first | (go_simp; done) | (go_simp; rfl)); intro gb469 hg w61 hbox hb; have n0_ := Aside0.mk (Kd.R_below (by (with_reducible repeat (first | apply Kd.R_alloc | apply Kd.R_drewN | apply Kd.R_drew)); exact HO_3.out) hb); have n1_ := Aside0.mk (Kd.R_below (by (with_reducible repeat (first | apply Kd.R_alloc | apply Kd.R_drewN | apply Kd.R_drew)); exact HO466.out) hb); have n2_ := Aside0.mk (blk_below (g := gb458) (o := .cells #[.int .i64 t456, .int .i64 t457] 26 (0, 0)) (by (with_reducible repeat (first | refine blk_drewN ?_ _ | refine blk_drew ?_ | refine blk_alloc ?_ _)); exact BK458.out) hb); have n3_ := Aside0.mk (blk_below (g := gb462) (o := .cells #[.int .i64 ((rd_T33 t453 x6_1).f0), .string ((rd_T33 t453 x6_1).f1), .int .i64 ((rd_T33 t453 x6_1).f2), .int .i64 ((rd_T33 t453 x6_1).f3), .int .i64 ((rd_T33 t453 x6_1).f4)] 33 (0, 0)) (by (with_reducible repeat (first | refine blk_drewN ?_ _ | refine blk_drew ?_ | refine blk_alloc ?_ _)); exact BK462.out) hb); have n4_ := Aside0.mk (below_step (by repeat (first | (with_reducible first | exact HB.out | apply below_alloc | apply pw_below_drewN | apply below_drew1 | refine below_set ?_ GE458.out | refine below_set ?_ GE462.out) | exact HB.out)) hb); have n5_ := Aside0.mk (hbox); have n6_ := Aside0.mk ((by rw [hg]; exact (below_size (by repeat (first | (with_reducible first | exact HB.out | apply below_alloc | apply pw_below_drewN | apply below_drew1 | refine below_set ?_ GE458.out | refine below_set ?_ GE462.out) | exact HB.out))) : w.heap.size ≤ gb469)); have n7_ := Aside0.mk ((by rw [hg]; exact (below_size (by repeat (first | (with_reducible first | exact HB.out | apply below_alloc | apply pw_below_drewN | apply below_drew1 | refine below_set ?_ GE458.out | refine below_set ?_ GE462.out) | exact HB.out))) : w.heap.size ≤ gb469)); have n8_ := Aside0.mk ((by rw [hg]; exact Nat.ne_of_lt (blk_lt (g := gb458) (o := .cells #[.int .i64 t456, .int .i64 t457] 26 (0, 0)) (by (with_reducible repeat (first | refine blk_drewN ?_ _ | refine blk_drew ?_ | refine blk_alloc ?_ _)); exact BK458.out)) : gb458 ≠ gb469)); have n9_ := Aside0.mk ((by rw [hg]; exact Nat.ne_of_gt (blk_lt (g := gb458) (o := .cells #[.int .i64 t456, .int .i64 t457] 26 (0, 0)) (by (with_reducible repeat (first | refine blk_drewN ?_ _ | refine blk_drew ?_ | refine blk_alloc ?_ _)); exact BK458.out)) : gb469 ≠ gb458)); have n10_ := Aside0.mk ((by rw [hg]; exact Nat.ne_of_lt (blk_lt (g := gb462) (o := .cells #[.int .i64 ((rd_T33 t453 x6_1).f0), .string ((rd_T33 t453 x6_1).f1), .int .i64 ((rd_T33 t453 x6_1).f2), .int .i64 ((rd_T33 t453 x6_1).f3), .int .i64 ((rd_T33 t453 x6_1).f4)] 33 (0, 0)) (by (with_reducible repeat (first | refine blk_drewN ?_ _ | refine blk_drew ?_ | refine blk_alloc ?_ _)); exact BK462.out)) : gb462 ≠ gb469)); have n11_ := Aside0.mk ((by rw [hg]; exact Nat.ne_of_gt (blk_lt (g := gb462) (o := .cells #[.int .i64 ((rd_T33 t453 x6_1).f0), .string ((rd_T33 t453 x6_1).f1), .int .i64 ((rd_T33 t453 x6_1).f2), .int .i64 ((rd_T33 t453 x6_1).f3), .int .i64 ((rd_T33 t453 x6_1).f4)] 33 (0, 0)) (by (with_reducible repeat (first | refine blk_drewN ?_ _ | refine blk_drew ?_ | refine blk_alloc ?_ _)); exact BK462.out)) : gb469 ≠ gb462)); clear HO_3; clear HO466; clear BK458; clear BK462; clear HB; have HO_3 := n0_; have HO466 := n1_; have BK458 := n2_; have BK462 := n3_; have HB := n4_; have BK469 := n5_; have GW469 := n6_; have GE469 := n7_; have NB458_469 := n8_; have NB469_458 := n9_; have NB462_469 := n10_; have NB469_462 := n11_; clear n0_ n1_ n2_ n3_ n4_ n5_ n6_ n7_ n8_ n9_ n10_ n11_; clear hb hbox hg; have hnb62 := NB469_458.out; have hnc62 := NB458_469.out; have hnb63 := NB469_462.out; have hnc63 := NB462_469.out; have hcz64_0 : w61.cell? ⟨gb469, 0, none⟩ = some (.int .i64 0) := (blk_cell BK469.out 0).trans rfl; have hcz64_1 : w61.cell? ⟨gb469, 1, none⟩ = some (.int .i64 0) := (blk_cell BK469.out 1).trans rfl; have hfz64_0 := blk_frozen BK469.out 0; have hfz64_1 := blk_frozen BK469.out 1))
                   have n0_ : Aside0 (Kd.R k33 33 ((w61.setCell ⟨gb469, 0, none⟩ (.int .i64 t467)).setCell ⟨gb469, 1, none⟩ (.int .i64 t468)) w.heap.size (fun k_ => some k_ ≠ (v465 : Value).ownBlock ∧ k_ ≠ gb462) (.slice (some ad461) t453.length co14) t453) := ⟨by (with_reducible repeat (first | apply Kd.R_alloc | apply Kd.R_drewN | apply Kd.R_drew)); exact Kd.R_mono (Kd.R_far (p := ⟨gb469, 1, none⟩) (Kd.R_far (p := ⟨gb469, 0, none⟩) (Kd.R_types HO_3.out BK469.out (by decide)) (fun _ hk => hk.2) (.int .i64 t467)) (fun _ hk => hk.2) (.int .i64 t468)) (fun _ hk => ⟨hk.1.2, hk.1.1⟩)⟩
                   have n1_ : Aside0 (Kd.R k33 33 ((w61.setCell ⟨gb469, 0, none⟩ (.int .i64 t467)).setCell ⟨gb469, 1, none⟩ (.int .i64 t468)) w.heap.size (fun k_ => some k_ ≠ (.slice (some ad461) t453.length co14 : Value).ownBlock ∧ k_ ≠ gb462) v465 t464) := ⟨by (with_reducible repeat (first | apply Kd.R_alloc | apply Kd.R_drewN | apply Kd.R_drew)); exact Kd.R_mono (Kd.R_far (p := ⟨gb469, 1, none⟩) (Kd.R_far (p := ⟨gb469, 0, none⟩) (Kd.R_types HO466.out BK469.out (by decide)) (fun _ hk => hk.2) (.int .i64 t467)) (fun _ hk => hk.2) (.int .i64 t468)) (fun _ hk => ⟨hk.1.1.2, hk.1.2⟩)⟩
                   have n2_ : Aside0 (((w61.setCell ⟨gb469, 0, none⟩ (.int .i64 t467)).setCell ⟨gb469, 1, none⟩ (.int .i64 t468)).heap[gb458]? = some (.cells #[.int .i64 t456, .int .i64 t457] 26 (0, 0))) := ⟨by (with_reducible repeat (first | refine blk_drewN ?_ _ | refine blk_drew ?_ | refine blk_alloc ?_ _)); refine blk_far ?_ NB458_469.out _; (with_reducible repeat (first | refine blk_drewN ?_ _ | refine blk_drew ?_ | refine blk_alloc ?_ _)); refine blk_far ?_ NB458_469.out _; (with_reducible repeat (first | refine blk_drewN ?_ _ | refine blk_drew ?_ | refine blk_alloc ?_ _)); exact BK458.out⟩
                   have n3_ : Aside0 (((w61.setCell ⟨gb469, 0, none⟩ (.int .i64 t467)).setCell ⟨gb469, 1, none⟩ (.int .i64 t468)).heap[gb462]? = some (.cells #[.int .i64 ((rd_T33 t453 x6_1).f0), .string ((rd_T33 t453 x6_1).f1), .int .i64 ((rd_T33 t453 x6_1).f2), .int .i64 ((rd_T33 t453 x6_1).f3), .int .i64 ((rd_T33 t453 x6_1).f4)] 33 (0, 0))) := ⟨by (with_reducible repeat (first | refine blk_drewN ?_ _ | refine blk_drew ?_ | refine blk_alloc ?_ _)); refine blk_far ?_ NB462_469.out _; (with_reducible repeat (first | refine blk_drewN ?_ _ | refine blk_drew ?_ | refine blk_alloc ?_ _)); refine blk_far ?_ NB462_469.out _; (with_reducible repeat (first | refine blk_drewN ?_ _ | refine blk_drew ?_ | refine blk_alloc ?_ _)); exact BK462.out⟩
                   have n4_ : Aside0 (((w61.setCell ⟨gb469, 0, none⟩ (.int .i64 t467)).setCell ⟨gb469, 1, none⟩ (.int .i64 t468)).heap[gb469]? = some (.cells #[.int .i64 t467, .int .i64 t468] 26 (0, 0))) := ⟨by (with_reducible repeat (first | refine blk_drewN ?_ _ | refine blk_drew ?_ | refine blk_alloc ?_ _)); refine blk_put (cs := #[.int .i64 t467, .int .i64 0]) ?_ 1 _ rfl; (with_reducible repeat (first | refine blk_drewN ?_ _ | refine blk_drew ?_ | refine blk_alloc ?_ _)); refine blk_put (cs := #[.int .i64 0, .int .i64 0]) ?_ 0 _ rfl; (with_reducible repeat (first | refine blk_drewN ?_ _ | refine blk_drew ?_ | refine blk_alloc ?_ _)); exact BK469.out⟩
                   have n5_ : Aside0 (Below w.heap.size w ((w61.setCell ⟨gb469, 0, none⟩ (.int .i64 t467)).setCell ⟨gb469, 1, none⟩ (.int .i64 t468))) := ⟨by repeat (first | (with_reducible first | exact HB.out | apply below_alloc | apply pw_below_drewN | apply below_drew1 | refine below_set ?_ GE458.out | refine below_set ?_ GE462.out | refine below_set ?_ GE469.out) | exact HB.out)⟩
                   (try clear HO_3)
                   (try clear HO466)
                   (try clear BK458)
                   (try clear BK462)
                   (try clear BK469)
                   (try clear HB)
                   generalize ((w61.setCell ⟨gb469, 0, none⟩ (.int .i64 t467)).setCell ⟨gb469, 1, none⟩ (.int .i64 t468)) = w65 at n0_ n1_ n2_ n3_ n4_ n5_ ⊢
                   have HO_3 := n0_
                   have HO466 := n1_
                   have BK458 := n2_
                   have BK462 := n3_
                   have BK469 := n4_
                   have HB := n5_
                   clear n0_ n1_ n2_ n3_ n4_ n5_
                   have n0_ := Aside0.mk (Kd.R_drew HO_3.out)
                   have n1_ := Aside0.mk (Kd.R_drew HO466.out)
                   have n2_ := Aside0.mk (blk_drew BK458.out)
                   have n3_ := Aside0.mk (blk_drew BK462.out)
                   have n4_ := Aside0.mk (blk_drew BK469.out)
                   have n5_ := Aside0.mk (below_drew1 HB.out)
                   clear HO_3
                   clear HO466
                   clear BK458
                   clear BK462
                   clear BK469
                   clear HB
                   have HO_3 := n0_
                   have HO466 := n1_
                   have BK458 := n2_
                   have BK462 := n3_
                   have BK469 := n4_
                   have HB := n5_
                   clear n0_ n1_ n2_ n3_ n4_ n5_
                   obtain ⟨Ao67, co67, eo67⟩ := Kd.R_slice HO466.out
                   (first | subst eo67 | (injection eo67 with f1_ f2_ f3_; have f4_ := f1_.symm; have f5_ := f3_.symm; clear f1_ f2_ f3_; subst f4_; subst f5_))
                   have p470 : 0 ≤ (0 : Int) := (by omega)
                   have q470 : 0 < (t464.length : Int) := of_decide_eq_true (by first | (with_reducible assumption) | assumption)
                   obtain ⟨ad470, e470, hx470_0, hx470_1, hx470_2, hx470_3, hx470_4⟩ := at_T33 (Kd.R_reads' HO466.out).2.2 0 p470 q470
                   cases e470
                   have qi470 : (0 < t464.length) = True := eq_true (by omega)
                   (try simp only [show ((0 : Int)).toNat = 0 from rfl, show 0 * 5 = 0 from rfl, Addr.add_zero'] at hx470_0 hx470_1 hx470_2 hx470_3 hx470_4)
                   replace p470 := eq_true p470
                   replace q470 := eq_true q470
                   have p481 : 0 ≤ (0 : Int) := (by omega)
                   have q481 : 0 < (t464.length : Int) := of_decide_eq_true (by first | (with_reducible assumption) | assumption)
                   obtain ⟨ad481, e481, hx481_0, hx481_1, hx481_2, hx481_3, hx481_4⟩ := at_T33 (Kd.R_reads' HO466.out).2.2 0 p481 q481
                   obtain rfl : ad470 = ad481 := (by injection e481)
                   have qi481 : (0 < t464.length) = True := eq_true (by omega)
                   (try simp only [show ((0 : Int)).toNat = 0 from rfl, show 0 * 5 = 0 from rfl, Addr.add_zero'] at hx481_0 hx481_1 hx481_2 hx481_3 hx481_4)
                   replace p481 := eq_true p481
                   replace q481 := eq_true q481
                   have p482 : 0 ≤ (0 : Int) := (by omega)
                   have q482 : 0 < (t464.length : Int) := of_decide_eq_true (by first | (with_reducible assumption) | assumption)
                   obtain ⟨ad482, e482, hx482_0, hx482_1, hx482_2, hx482_3, hx482_4⟩ := at_T33 (Kd.R_reads' HO466.out).2.2 0 p482 q482
                   obtain rfl : ad470 = ad482 := (by injection e482)
                   have qi482 : (0 < t464.length) = True := eq_true (by omega)
                   (try simp only [show ((0 : Int)).toNat = 0 from rfl, show 0 * 5 = 0 from rfl, Addr.add_zero'] at hx482_0 hx482_1 hx482_2 hx482_3 hx482_4)
                   replace p482 := eq_true p482
                   replace q482 := eq_true q482
                   refine start_ (n := 33) (S := fun w' => w'.cell? ⟨gb469, 0, none⟩ = some (.int .i64 t467) ∧ w'.cell? ⟨gb469, 1, none⟩ = some (.int .i64 t468) ∧ w'.cell? ⟨gb462, 0, none⟩ = some (.int .i64 ((rd_T33 t453 x6_1).f0)) ∧ w'.cell? ⟨gb462, 1, none⟩ = some (.string ((rd_T33 t453 x6_1).f1)) ∧ w'.cell? ⟨gb462, 2, none⟩ = some (.int .i64 ((rd_T33 t453 x6_1).f2)) ∧ w'.cell? ⟨gb462, 3, none⟩ = some (.int .i64 ((rd_T33 t453 x6_1).f3)) ∧ w'.cell? ⟨gb462, 4, none⟩ = some (.int .i64 ((rd_T33 t453 x6_1).f4)) ∧ w'.cell? ad470 = some (.int .i64 ((rd_T33 t464 0).f0)) ∧ w'.cell? ⟨ad470.block, ad470.off + 1, none⟩ = some (.string ((rd_T33 t464 0).f1)) ∧ w'.cell? ⟨ad470.block, ad470.off + 2, none⟩ = some (.int .i64 ((rd_T33 t464 0).f2)) ∧ w'.cell? ⟨ad470.block, ad470.off + 3, none⟩ = some (.int .i64 ((rd_T33 t464 0).f3)) ∧ w'.cell? ⟨ad470.block, ad470.off + 4, none⟩ = some (.int .i64 ((rd_T33 t464 0).f4)) ∧ w'.cell? ad470 = some (.int .i64 ((rd_T33 t464 0).f0)) ∧ w'.cell? ⟨ad470.block, ad470.off + 1, none⟩ = some (.string ((rd_T33 t464 0).f1)) ∧ w'.cell? ⟨ad470.block, ad470.off + 2, none⟩ = some (.int .i64 ((rd_T33 t464 0).f2)) ∧ w'.cell? ⟨ad470.block, ad470.off + 3, none⟩ = some (.int .i64 ((rd_T33 t464 0).f3)) ∧ w'.cell? ⟨ad470.block, ad470.off + 4, none⟩ = some (.int .i64 ((rd_T33 t464 0).f4)) ∧ w'.cell? ad470 = some (.int .i64 ((rd_T33 t464 0).f0)) ∧ w'.cell? ⟨ad470.block, ad470.off + 1, none⟩ = some (.string ((rd_T33 t464 0).f1)) ∧ w'.cell? ⟨ad470.block, ad470.off + 2, none⟩ = some (.int .i64 ((rd_T33 t464 0).f2)) ∧ w'.cell? ⟨ad470.block, ad470.off + 3, none⟩ = some (.int .i64 ((rd_T33 t464 0).f3)) ∧ w'.cell? ⟨ad470.block, ad470.off + 4, none⟩ = some (.int .i64 ((rd_T33 t464 0).f4))) (ds := []) #[f_,f_,f_,f_,f_,f_,f_,f_,f_,f_,f_,f_,f_,f_,f_,f_,f_,f_,f_,f_,f_,f_,f_,f_,f_,f_,f_,f_,f_,f_,f_,f_,f_] (by kernel_rfl) rfl rfl ⟨(blk_cell BK469.out 0).trans rfl, (blk_cell BK469.out 1).trans rfl, (blk_cell BK462.out 0).trans rfl, (blk_cell BK462.out 1).trans rfl, (blk_cell BK462.out 2).trans rfl, (blk_cell BK462.out 3).trans rfl, (blk_cell BK462.out 4).trans rfl, hx470_0, hx470_1, hx470_2, hx470_3, hx470_4, hx481_0, hx481_1, hx481_2, hx481_3, hx481_4, hx482_0, hx482_1, hx482_2, hx482_3, hx482_4⟩ (fun hHeld => ?_); refine with_tabW hearsaylaw04_TokensPlaces.tab15 hearsaylaw04_TokensPlaces.bits15 (fun HT_ HW_ => ?_)
                   generalize w65.drew = w66 at HO_3 HO466 BK458 BK462 BK469 HB hx470_0 hx470_1 hx470_2 hx470_3 hx470_4 hx481_0 hx481_1 hx481_2 hx481_3 hx481_4 hx482_0 hx482_1 hx482_2 hx482_3 hx482_4 hHeld ⊢
                   refine pB_ HT_ 0 73 #[t_,f_,f_,f_,f_,f_,f_,f_,f_,f_,f_,f_,f_,f_,f_,f_,f_,f_,f_,f_,f_,f_,f_,f_,f_,f_,f_,f_,f_,f_,f_,f_,f_] ?_
                   refine take_ (i := 1) (N := some 74) (v := ?_) (a' := ?_) #[t_,t_,f_,f_,f_,f_,f_,f_,f_,f_,f_,f_,f_,f_,f_,f_,f_,f_,f_,f_,f_,f_,f_,f_,f_,f_,f_,f_,f_,f_,f_,f_,f_] rfl rfl (take_ofW HT_.out HW_.out (by kernel_rfl)) (fun _ _ _ h => h) (Or.inl ⟨by rfl, ?_⟩) hHeld ?_ ?_
                   rotate_left
                   ·rintro w' ⟨s0, s1, s2, s3, s4, s5, s6, s7, s8, s9, s10, s11, s12, s13, s14, s15, s16, s17, s18, s19, s20, s21⟩
                    go_simp
                    with_reducible rfl
                   rotate_left
                   ·simp only [Act.put, List.setIfInBounds_toArray, List.set_cons_zero, List.set_cons_succ, i64_w, i32_w]
                    rfl
                   refine pB_ HT_ 2 75 #[t_,t_,t_,f_,f_,f_,f_,f_,f_,f_,f_,f_,f_,f_,f_,f_,f_,f_,f_,f_,f_,f_,f_,f_,f_,f_,f_,f_,f_,f_,f_,f_,f_] ?_
                   refine pB_ HT_ 3 76 #[t_,t_,t_,t_,f_,f_,f_,f_,f_,f_,f_,f_,f_,f_,f_,f_,f_,f_,f_,f_,f_,f_,f_,f_,f_,f_,f_,f_,f_,f_,f_,f_,f_] ?_
                   refine pB_ HT_ 4 77 #[t_,t_,t_,t_,t_,f_,f_,f_,f_,f_,f_,f_,f_,f_,f_,f_,f_,f_,f_,f_,f_,f_,f_,f_,f_,f_,f_,f_,f_,f_,f_,f_,f_] ?_
                   refine pB_ HT_ 5 78 #[t_,t_,t_,t_,t_,t_,f_,f_,f_,f_,f_,f_,f_,f_,f_,f_,f_,f_,f_,f_,f_,f_,f_,f_,f_,f_,f_,f_,f_,f_,f_,f_,f_] ?_
                   refine pB_ HT_ 6 79 #[t_,t_,t_,t_,t_,t_,t_,f_,f_,f_,f_,f_,f_,f_,f_,f_,f_,f_,f_,f_,f_,f_,f_,f_,f_,f_,f_,f_,f_,f_,f_,f_,f_] ?_
                   refine pB_ HT_ 7 80 #[t_,t_,t_,t_,t_,t_,t_,t_,f_,f_,f_,f_,f_,f_,f_,f_,f_,f_,f_,f_,f_,f_,f_,f_,f_,f_,f_,f_,f_,f_,f_,f_,f_] ?_
                   refine pB_ HT_ 8 81 #[t_,t_,t_,t_,t_,t_,t_,t_,t_,f_,f_,f_,f_,f_,f_,f_,f_,f_,f_,f_,f_,f_,f_,f_,f_,f_,f_,f_,f_,f_,f_,f_,f_] ?_
                   refine pB_ HT_ 9 82 #[t_,t_,t_,t_,t_,t_,t_,t_,t_,t_,f_,f_,f_,f_,f_,f_,f_,f_,f_,f_,f_,f_,f_,f_,f_,f_,f_,f_,f_,f_,f_,f_,f_] ?_
                   refine pB_ HT_ 10 83 #[t_,t_,t_,t_,t_,t_,t_,t_,t_,t_,t_,f_,f_,f_,f_,f_,f_,f_,f_,f_,f_,f_,f_,f_,f_,f_,f_,f_,f_,f_,f_,f_,f_] ?_
                   refine take_ (i := 11) (N := some 84) (v := ?_) (a' := ?_) #[t_,t_,t_,t_,t_,t_,t_,t_,t_,t_,t_,t_,f_,f_,f_,f_,f_,f_,f_,f_,f_,f_,f_,f_,f_,f_,f_,f_,f_,f_,f_,f_,f_] rfl rfl (take_ofW HT_.out HW_.out (by kernel_rfl)) (fun _ _ _ h => h) (Or.inl ⟨by rfl, ?_⟩) hHeld ?_ ?_
                   rotate_left
                   ·rintro w' ⟨s0, s1, s2, s3, s4, s5, s6, s7, s8, s9, s10, s11, s12, s13, s14, s15, s16, s17, s18, s19, s20, s21⟩
                    go_simp
                    with_reducible rfl
                   rotate_left
                   ·simp only [Act.put, List.setIfInBounds_toArray, List.set_cons_zero, List.set_cons_succ, i64_w, i32_w]
                    rfl
                   refine take_ (i := 13) (N := some 86) (v := ?_) (a' := ?_) #[t_,t_,t_,t_,t_,t_,t_,t_,t_,t_,t_,t_,f_,t_,f_,f_,f_,f_,f_,f_,f_,f_,f_,f_,f_,f_,f_,f_,f_,f_,f_,f_,f_] rfl rfl (take_ofW HT_.out HW_.out (by kernel_rfl)) (fun _ _ _ h => h) (Or.inl ⟨by rfl, ?_⟩) hHeld ?_ ?_
                   rotate_left
                   ·rintro w' ⟨s0, s1, s2, s3, s4, s5, s6, s7, s8, s9, s10, s11, s12, s13, s14, s15, s16, s17, s18, s19, s20, s21⟩
                    go_simp
                    with_reducible rfl
                   rotate_left
                   ·simp only [Act.put, List.setIfInBounds_toArray, List.set_cons_zero, List.set_cons_succ, i64_w, i32_w]
                    rfl
                   refine one_ (i := 12) (N := some 85) #[t_,t_,t_,t_,t_,t_,t_,t_,t_,t_,t_,t_,t_,t_,f_,f_,f_,f_,f_,f_,f_,f_,f_,f_,f_,f_,f_,f_,f_,f_,f_,f_,f_] rfl rfl (one_of HT_.out (by kernel_rfl)) (by decide) (fun K hK => ?_)
                   refine goes_ Tryd.func25 (by kernel_rfl) rfl #[.agg #[.int .i64 ((rd_T33 t464 0).f0), .string ((rd_T33 t464 0).f1), .int .i64 ((rd_T33 t464 0).f2), .int .i64 ((rd_T33 t464 0).f3), .int .i64 ((rd_T33 t464 0).f4)]] (by rfl) rfl rfl (by (try simp only [List.map_toArray, List.map_cons, List.map_nil]); first | done | rfl | (simp only [List.length_drop, List.length_take]; rfl) | (simp only [beq_nil_, bne_nil_]; rfl) | (simp only [ByteArray.size_extract, Nat.min_self]; rfl) | (refine (congrArg (fun z => #[_, Value.int .i64 z]) (?_ : _ = _)); rw [ByteArray.size_extract]; have h1_ := of_decide_eq_true c34b1; have h2_ := of_decide_eq_true c35b1; have h3_ := of_decide_eq_true c36b1; omega)) ?_
                   with_reducible refine (hearsaylaw04_bare.calls ((rd_T33 t464 0).f0) ((rd_T33 t464 0).f1) ((rd_T33 t464 0).f2) ((rd_T33 t464 0).f3) ((rd_T33 t464 0).f4) t471 t472 t473 t474 t475 _ A41.out).mono ?_
                   rintro e w68 ⟨rfl, hb⟩
                   have HS7_ := (hb.cell (World.block_lt_of_cell? _ _ (hHeld.2.2.2.2.2.2.2.1))).trans (hHeld.2.2.2.2.2.2.2.1)
                   have HS8_ := (hb.cell (World.block_lt_of_cell? _ _ (hHeld.2.2.2.2.2.2.2.2.1))).trans (hHeld.2.2.2.2.2.2.2.2.1)
                   have HS9_ := (hb.cell (World.block_lt_of_cell? _ _ (hHeld.2.2.2.2.2.2.2.2.2.1))).trans (hHeld.2.2.2.2.2.2.2.2.2.1)
                   have HS10_ := (hb.cell (World.block_lt_of_cell? _ _ (hHeld.2.2.2.2.2.2.2.2.2.2.1))).trans (hHeld.2.2.2.2.2.2.2.2.2.2.1)
                   have HS11_ := (hb.cell (World.block_lt_of_cell? _ _ (hHeld.2.2.2.2.2.2.2.2.2.2.2.1))).trans (hHeld.2.2.2.2.2.2.2.2.2.2.2.1)
                   have HS12_ := (hb.cell (World.block_lt_of_cell? _ _ (hHeld.2.2.2.2.2.2.2.2.2.2.2.2.1))).trans (hHeld.2.2.2.2.2.2.2.2.2.2.2.2.1)
                   have HS13_ := (hb.cell (World.block_lt_of_cell? _ _ (hHeld.2.2.2.2.2.2.2.2.2.2.2.2.2.1))).trans (hHeld.2.2.2.2.2.2.2.2.2.2.2.2.2.1)
                   have HS14_ := (hb.cell (World.block_lt_of_cell? _ _ (hHeld.2.2.2.2.2.2.2.2.2.2.2.2.2.2.1))).trans (hHeld.2.2.2.2.2.2.2.2.2.2.2.2.2.2.1)
                   have HS15_ := (hb.cell (World.block_lt_of_cell? _ _ (hHeld.2.2.2.2.2.2.2.2.2.2.2.2.2.2.2.1))).trans (hHeld.2.2.2.2.2.2.2.2.2.2.2.2.2.2.2.1)
                   have HS16_ := (hb.cell (World.block_lt_of_cell? _ _ (hHeld.2.2.2.2.2.2.2.2.2.2.2.2.2.2.2.2.1))).trans (hHeld.2.2.2.2.2.2.2.2.2.2.2.2.2.2.2.2.1)
                   have HS17_ := (hb.cell (World.block_lt_of_cell? _ _ (hHeld.2.2.2.2.2.2.2.2.2.2.2.2.2.2.2.2.2.1))).trans (hHeld.2.2.2.2.2.2.2.2.2.2.2.2.2.2.2.2.2.1)
                   have HS18_ := (hb.cell (World.block_lt_of_cell? _ _ (hHeld.2.2.2.2.2.2.2.2.2.2.2.2.2.2.2.2.2.2.1))).trans (hHeld.2.2.2.2.2.2.2.2.2.2.2.2.2.2.2.2.2.2.1)
                   have HS19_ := (hb.cell (World.block_lt_of_cell? _ _ (hHeld.2.2.2.2.2.2.2.2.2.2.2.2.2.2.2.2.2.2.2.1))).trans (hHeld.2.2.2.2.2.2.2.2.2.2.2.2.2.2.2.2.2.2.2.1)
                   have HS20_ := (hb.cell (World.block_lt_of_cell? _ _ (hHeld.2.2.2.2.2.2.2.2.2.2.2.2.2.2.2.2.2.2.2.2.1))).trans (hHeld.2.2.2.2.2.2.2.2.2.2.2.2.2.2.2.2.2.2.2.2.1)
                   have HS21_ := (hb.cell (World.block_lt_of_cell? _ _ (hHeld.2.2.2.2.2.2.2.2.2.2.2.2.2.2.2.2.2.2.2.2.2))).trans (hHeld.2.2.2.2.2.2.2.2.2.2.2.2.2.2.2.2.2.2.2.2.2)
                   refine ⟨_, rfl, ?_⟩
                   have n0_ := Aside0.mk (Kd.R_below (by (with_reducible repeat (first | apply Kd.R_alloc | apply Kd.R_drewN | apply Kd.R_drew)); exact HO_3.out) hb)
                   have n1_ := Aside0.mk (Kd.R_below (by (with_reducible repeat (first | apply Kd.R_alloc | apply Kd.R_drewN | apply Kd.R_drew)); exact HO466.out) hb)
                   have n2_ := Aside0.mk (blk_below (g := gb458) (o := .cells #[.int .i64 t456, .int .i64 t457] 26 (0, 0)) (by (with_reducible repeat (first | refine blk_drewN ?_ _ | refine blk_drew ?_ | refine blk_alloc ?_ _)); exact BK458.out) hb)
                   have n3_ := Aside0.mk (blk_below (g := gb462) (o := .cells #[.int .i64 ((rd_T33 t453 x6_1).f0), .string ((rd_T33 t453 x6_1).f1), .int .i64 ((rd_T33 t453 x6_1).f2), .int .i64 ((rd_T33 t453 x6_1).f3), .int .i64 ((rd_T33 t453 x6_1).f4)] 33 (0, 0)) (by (with_reducible repeat (first | refine blk_drewN ?_ _ | refine blk_drew ?_ | refine blk_alloc ?_ _)); exact BK462.out) hb)
                   have n4_ := Aside0.mk (blk_below (g := gb469) (o := .cells #[.int .i64 t467, .int .i64 t468] 26 (0, 0)) (by (with_reducible repeat (first | refine blk_drewN ?_ _ | refine blk_drew ?_ | refine blk_alloc ?_ _)); exact BK469.out) hb)
                   have n5_ := Aside0.mk (below_step (by repeat (first | (with_reducible first | exact HB.out | apply below_alloc | apply pw_below_drewN | apply below_drew1 | refine below_set ?_ GE458.out | refine below_set ?_ GE462.out | refine below_set ?_ GE469.out) | exact HB.out)) hb)
                   clear HO_3
                   clear HO466
                   clear BK458
                   clear BK462
                   clear BK469
                   clear HB
                   have HO_3 := n0_
                   have HO466 := n1_
                   have BK458 := n2_
                   have BK462 := n3_
                   have BK469 := n4_
                   have HB := n5_
                   clear n0_ n1_ n2_ n3_ n4_ n5_
                   (try clear hb)
                   (try clear hb2)
                   (try clear hk)
                   (try clear hi)
                   refine hK.out _ _ ⟨(blk_cell BK469.out 0).trans rfl, (blk_cell BK469.out 1).trans rfl, (blk_cell BK462.out 0).trans rfl, (blk_cell BK462.out 1).trans rfl, (blk_cell BK462.out 2).trans rfl, (blk_cell BK462.out 3).trans rfl, (blk_cell BK462.out 4).trans rfl, HS7_, HS8_, HS9_, HS10_, HS11_, HS12_, HS13_, HS14_, HS15_, HS16_, HS17_, HS18_, HS19_, HS20_, HS21_⟩ (fun hHeld => ?_)
                   clear hK K
                   refine norm_ (a' := ?_) ?_ ?_
                   rotate_left
                   ·show Act.put _ (some 85) _ = _
                    simp only [Act.put, List.setIfInBounds_toArray, List.set_cons_zero, List.set_cons_succ, i64_w, i32_w]
                    rfl
                   refine one_ (i := 14) (N := some 87) #[t_,t_,t_,t_,t_,t_,t_,t_,t_,t_,t_,t_,t_,t_,t_,f_,f_,f_,f_,f_,f_,f_,f_,f_,f_,f_,f_,f_,f_,f_,f_,f_,f_] rfl rfl (one_of HT_.out (by kernel_rfl)) (by decide) (fun K hK => ?_)
                   refine goes_ Tryd.func25 (by kernel_rfl) rfl #[.agg #[.int .i64 ((rd_T33 t453 x6_1).f0), .string ((rd_T33 t453 x6_1).f1), .int .i64 ((rd_T33 t453 x6_1).f2), .int .i64 ((rd_T33 t453 x6_1).f3), .int .i64 ((rd_T33 t453 x6_1).f4)]] (by rfl) rfl rfl (by (try simp only [List.map_toArray, List.map_cons, List.map_nil]); first | done | rfl | (simp only [List.length_drop, List.length_take]; rfl) | (simp only [beq_nil_, bne_nil_]; rfl) | (simp only [ByteArray.size_extract, Nat.min_self]; rfl) | (refine (congrArg (fun z => #[_, Value.int .i64 z]) (?_ : _ = _)); rw [ByteArray.size_extract]; have h1_ := of_decide_eq_true c34b1; have h2_ := of_decide_eq_true c35b1; have h3_ := of_decide_eq_true c36b1; omega)) ?_
                   with_reducible refine (hearsaylaw04_bare.calls ((rd_T33 t453 x6_1).f0) ((rd_T33 t453 x6_1).f1) ((rd_T33 t453 x6_1).f2) ((rd_T33 t453 x6_1).f3) ((rd_T33 t453 x6_1).f4) t476 t477 t478 t479 t480 _ A42.out).mono ?_
                   rintro e w69 ⟨rfl, hb⟩
                   have HS7_ := (hb.cell (World.block_lt_of_cell? _ _ (hHeld.2.2.2.2.2.2.2.1))).trans (hHeld.2.2.2.2.2.2.2.1)
                   have HS8_ := (hb.cell (World.block_lt_of_cell? _ _ (hHeld.2.2.2.2.2.2.2.2.1))).trans (hHeld.2.2.2.2.2.2.2.2.1)
                   have HS9_ := (hb.cell (World.block_lt_of_cell? _ _ (hHeld.2.2.2.2.2.2.2.2.2.1))).trans (hHeld.2.2.2.2.2.2.2.2.2.1)
                   have HS10_ := (hb.cell (World.block_lt_of_cell? _ _ (hHeld.2.2.2.2.2.2.2.2.2.2.1))).trans (hHeld.2.2.2.2.2.2.2.2.2.2.1)
                   have HS11_ := (hb.cell (World.block_lt_of_cell? _ _ (hHeld.2.2.2.2.2.2.2.2.2.2.2.1))).trans (hHeld.2.2.2.2.2.2.2.2.2.2.2.1)
                   have HS12_ := (hb.cell (World.block_lt_of_cell? _ _ (hHeld.2.2.2.2.2.2.2.2.2.2.2.2.1))).trans (hHeld.2.2.2.2.2.2.2.2.2.2.2.2.1)
                   have HS13_ := (hb.cell (World.block_lt_of_cell? _ _ (hHeld.2.2.2.2.2.2.2.2.2.2.2.2.2.1))).trans (hHeld.2.2.2.2.2.2.2.2.2.2.2.2.2.1)
                   have HS14_ := (hb.cell (World.block_lt_of_cell? _ _ (hHeld.2.2.2.2.2.2.2.2.2.2.2.2.2.2.1))).trans (hHeld.2.2.2.2.2.2.2.2.2.2.2.2.2.2.1)
                   have HS15_ := (hb.cell (World.block_lt_of_cell? _ _ (hHeld.2.2.2.2.2.2.2.2.2.2.2.2.2.2.2.1))).trans (hHeld.2.2.2.2.2.2.2.2.2.2.2.2.2.2.2.1)
                   have HS16_ := (hb.cell (World.block_lt_of_cell? _ _ (hHeld.2.2.2.2.2.2.2.2.2.2.2.2.2.2.2.2.1))).trans (hHeld.2.2.2.2.2.2.2.2.2.2.2.2.2.2.2.2.1)
                   have HS17_ := (hb.cell (World.block_lt_of_cell? _ _ (hHeld.2.2.2.2.2.2.2.2.2.2.2.2.2.2.2.2.2.1))).trans (hHeld.2.2.2.2.2.2.2.2.2.2.2.2.2.2.2.2.2.1)
                   have HS18_ := (hb.cell (World.block_lt_of_cell? _ _ (hHeld.2.2.2.2.2.2.2.2.2.2.2.2.2.2.2.2.2.2.1))).trans (hHeld.2.2.2.2.2.2.2.2.2.2.2.2.2.2.2.2.2.2.1)
                   have HS19_ := (hb.cell (World.block_lt_of_cell? _ _ (hHeld.2.2.2.2.2.2.2.2.2.2.2.2.2.2.2.2.2.2.2.1))).trans (hHeld.2.2.2.2.2.2.2.2.2.2.2.2.2.2.2.2.2.2.2.1)
                   have HS20_ := (hb.cell (World.block_lt_of_cell? _ _ (hHeld.2.2.2.2.2.2.2.2.2.2.2.2.2.2.2.2.2.2.2.2.1))).trans (hHeld.2.2.2.2.2.2.2.2.2.2.2.2.2.2.2.2.2.2.2.2.1)
                   have HS21_ := (hb.cell (World.block_lt_of_cell? _ _ (hHeld.2.2.2.2.2.2.2.2.2.2.2.2.2.2.2.2.2.2.2.2.2))).trans (hHeld.2.2.2.2.2.2.2.2.2.2.2.2.2.2.2.2.2.2.2.2.2)
                   refine ⟨_, rfl, ?_⟩
                   have n0_ := Aside0.mk (Kd.R_below (by (with_reducible repeat (first | apply Kd.R_alloc | apply Kd.R_drewN | apply Kd.R_drew)); exact HO_3.out) hb)
                   have n1_ := Aside0.mk (Kd.R_below (by (with_reducible repeat (first | apply Kd.R_alloc | apply Kd.R_drewN | apply Kd.R_drew)); exact HO466.out) hb)
                   have n2_ := Aside0.mk (blk_below (g := gb458) (o := .cells #[.int .i64 t456, .int .i64 t457] 26 (0, 0)) (by (with_reducible repeat (first | refine blk_drewN ?_ _ | refine blk_drew ?_ | refine blk_alloc ?_ _)); exact BK458.out) hb)
                   have n3_ := Aside0.mk (blk_below (g := gb462) (o := .cells #[.int .i64 ((rd_T33 t453 x6_1).f0), .string ((rd_T33 t453 x6_1).f1), .int .i64 ((rd_T33 t453 x6_1).f2), .int .i64 ((rd_T33 t453 x6_1).f3), .int .i64 ((rd_T33 t453 x6_1).f4)] 33 (0, 0)) (by (with_reducible repeat (first | refine blk_drewN ?_ _ | refine blk_drew ?_ | refine blk_alloc ?_ _)); exact BK462.out) hb)
                   have n4_ := Aside0.mk (blk_below (g := gb469) (o := .cells #[.int .i64 t467, .int .i64 t468] 26 (0, 0)) (by (with_reducible repeat (first | refine blk_drewN ?_ _ | refine blk_drew ?_ | refine blk_alloc ?_ _)); exact BK469.out) hb)
                   have n5_ := Aside0.mk (below_step (by repeat (first | (with_reducible first | exact HB.out | apply below_alloc | apply pw_below_drewN | apply below_drew1 | refine below_set ?_ GE458.out | refine below_set ?_ GE462.out | refine below_set ?_ GE469.out) | exact HB.out)) hb)
                   clear HO_3
                   clear HO466
                   clear BK458
                   clear BK462
                   clear BK469
                   clear HB
                   have HO_3 := n0_
                   have HO466 := n1_
                   have BK458 := n2_
                   have BK462 := n3_
                   have BK469 := n4_
                   have HB := n5_
                   clear n0_ n1_ n2_ n3_ n4_ n5_
                   (try clear hb)
                   (try clear hb2)
                   (try clear hk)
                   (try clear hi)
                   refine hK.out _ _ ⟨(blk_cell BK469.out 0).trans rfl, (blk_cell BK469.out 1).trans rfl, (blk_cell BK462.out 0).trans rfl, (blk_cell BK462.out 1).trans rfl, (blk_cell BK462.out 2).trans rfl, (blk_cell BK462.out 3).trans rfl, (blk_cell BK462.out 4).trans rfl, HS7_, HS8_, HS9_, HS10_, HS11_, HS12_, HS13_, HS14_, HS15_, HS16_, HS17_, HS18_, HS19_, HS20_, HS21_⟩ (fun hHeld => ?_)
                   clear hK K
                   refine norm_ (a' := ?_) ?_ ?_
                   rotate_left
                   ·show Act.put _ (some 87) _ = _
                    simp only [Act.put, List.setIfInBounds_toArray, List.set_cons_zero, List.set_cons_succ, i64_w, i32_w]
                    rfl
                   refine pB_ HT_ 15 88 #[t_,t_,t_,t_,t_,t_,t_,t_,t_,t_,t_,t_,t_,t_,t_,t_,f_,f_,f_,f_,f_,f_,f_,f_,f_,f_,f_,f_,f_,f_,f_,f_,f_] ?_
                   refine pB_ HT_ 16 89 #[t_,t_,t_,t_,t_,t_,t_,t_,t_,t_,t_,t_,t_,t_,t_,t_,t_,f_,f_,f_,f_,f_,f_,f_,f_,f_,f_,f_,f_,f_,f_,f_,f_] ?_
                   refine pB_ HT_ 17 90 #[t_,t_,t_,t_,t_,t_,t_,t_,t_,t_,t_,t_,t_,t_,t_,t_,t_,t_,f_,f_,f_,f_,f_,f_,f_,f_,f_,f_,f_,f_,f_,f_,f_] ?_
                   refine pB_ HT_ 18 91 #[t_,t_,t_,t_,t_,t_,t_,t_,t_,t_,t_,t_,t_,t_,t_,t_,t_,t_,t_,f_,f_,f_,f_,f_,f_,f_,f_,f_,f_,f_,f_,f_,f_] ?_
                   refine pB_ HT_ 19 92 #[t_,t_,t_,t_,t_,t_,t_,t_,t_,t_,t_,t_,t_,t_,t_,t_,t_,t_,t_,t_,f_,f_,f_,f_,f_,f_,f_,f_,f_,f_,f_,f_,f_] ?_
                   refine pB_ HT_ 20 93 #[t_,t_,t_,t_,t_,t_,t_,t_,t_,t_,t_,t_,t_,t_,t_,t_,t_,t_,t_,t_,t_,f_,f_,f_,f_,f_,f_,f_,f_,f_,f_,f_,f_] ?_
                   refine take_ (i := 21) (N := some 94) (v := ?_) (a' := ?_) #[t_,t_,t_,t_,t_,t_,t_,t_,t_,t_,t_,t_,t_,t_,t_,t_,t_,t_,t_,t_,t_,t_,f_,f_,f_,f_,f_,f_,f_,f_,f_,f_,f_] rfl rfl (take_ofW HT_.out HW_.out (by kernel_rfl)) (fun _ _ _ h => h) (Or.inl ⟨by rfl, ?_⟩) hHeld ?_ ?_
                   rotate_left
                   ·rintro w' ⟨s0, s1, s2, s3, s4, s5, s6, s7, s8, s9, s10, s11, s12, s13, s14, s15, s16, s17, s18, s19, s20, s21⟩
                    go_simp
                    with_reducible rfl
                   rotate_left
                   ·simp only [Act.put, List.setIfInBounds_toArray, List.set_cons_zero, List.set_cons_succ, i64_w, i32_w]
                    rfl
                   refine pB_ HT_ 22 95 #[t_,t_,t_,t_,t_,t_,t_,t_,t_,t_,t_,t_,t_,t_,t_,t_,t_,t_,t_,t_,t_,t_,t_,f_,f_,f_,f_,f_,f_,f_,f_,f_,f_] ?_
                   refine pB_ HT_ 23 96 #[t_,t_,t_,t_,t_,t_,t_,t_,t_,t_,t_,t_,t_,t_,t_,t_,t_,t_,t_,t_,t_,t_,t_,t_,f_,f_,f_,f_,f_,f_,f_,f_,f_] ?_
                   refine pB_ HT_ 24 97 #[t_,t_,t_,t_,t_,t_,t_,t_,t_,t_,t_,t_,t_,t_,t_,t_,t_,t_,t_,t_,t_,t_,t_,t_,t_,f_,f_,f_,f_,f_,f_,f_,f_] ?_
                   refine pB_ HT_ 25 98 #[t_,t_,t_,t_,t_,t_,t_,t_,t_,t_,t_,t_,t_,t_,t_,t_,t_,t_,t_,t_,t_,t_,t_,t_,t_,t_,f_,f_,f_,f_,f_,f_,f_] ?_
                   refine pB_ HT_ 26 99 #[t_,t_,t_,t_,t_,t_,t_,t_,t_,t_,t_,t_,t_,t_,t_,t_,t_,t_,t_,t_,t_,t_,t_,t_,t_,t_,t_,f_,f_,f_,f_,f_,f_] ?_
                   refine pB_ HT_ 27 100 #[t_,t_,t_,t_,t_,t_,t_,t_,t_,t_,t_,t_,t_,t_,t_,t_,t_,t_,t_,t_,t_,t_,t_,t_,t_,t_,t_,t_,f_,f_,f_,f_,f_] ?_
                   refine pB_ HT_ 29 102 #[t_,t_,t_,t_,t_,t_,t_,t_,t_,t_,t_,t_,t_,t_,t_,t_,t_,t_,t_,t_,t_,t_,t_,t_,t_,t_,t_,t_,f_,t_,f_,f_,f_] ?_
                   refine pB_ HT_ 30 103 #[t_,t_,t_,t_,t_,t_,t_,t_,t_,t_,t_,t_,t_,t_,t_,t_,t_,t_,t_,t_,t_,t_,t_,t_,t_,t_,t_,t_,f_,t_,t_,f_,f_] ?_
                   refine take_ (i := 28) (N := some 101) (v := ?_) (a' := ?_) #[t_,t_,t_,t_,t_,t_,t_,t_,t_,t_,t_,t_,t_,t_,t_,t_,t_,t_,t_,t_,t_,t_,t_,t_,t_,t_,t_,t_,t_,t_,t_,f_,f_] rfl rfl (take_ofW HT_.out HW_.out (by kernel_rfl)) (fun _ _ _ h => h) (Or.inl ⟨by rfl, ?_⟩) hHeld ?_ ?_
                   rotate_left
                   ·rintro w' ⟨s0, s1, s2, s3, s4, s5, s6, s7, s8, s9, s10, s11, s12, s13, s14, s15, s16, s17, s18, s19, s20, s21⟩
                    go_simp
                    with_reducible rfl
                   rotate_left
                   ·simp only [Act.put, List.setIfInBounds_toArray, List.set_cons_zero, List.set_cons_succ, i64_w, i32_w]
                    rfl
                   refine pB_ HT_ 31 104 #[t_,t_,t_,t_,t_,t_,t_,t_,t_,t_,t_,t_,t_,t_,t_,t_,t_,t_,t_,t_,t_,t_,t_,t_,t_,t_,t_,t_,t_,t_,t_,t_,f_] ?_
                   refine pB_ HT_ 32 105 #[t_,t_,t_,t_,t_,t_,t_,t_,t_,t_,t_,t_,t_,t_,t_,t_,t_,t_,t_,t_,t_,t_,t_,t_,t_,t_,t_,t_,t_,t_,t_,t_,t_] ?_
                   refine done_ (done_of HT_.out (by kernel_rfl)) ?_
                   have hcz70_0 : w69.cell? ⟨gb462, 0, none⟩ = some (.int .i64 ((rd_T33 t453 x6_1).f0)) := (blk_cell BK462.out 0).trans rfl
                   have hcz70_1 : w69.cell? ⟨gb462, 1, none⟩ = some (.string ((rd_T33 t453 x6_1).f1)) := (blk_cell BK462.out 1).trans rfl
                   have hcz70_2 : w69.cell? ⟨gb462, 2, none⟩ = some (.int .i64 ((rd_T33 t453 x6_1).f2)) := (blk_cell BK462.out 2).trans rfl
                   have hcz70_3 : w69.cell? ⟨gb462, 3, none⟩ = some (.int .i64 ((rd_T33 t453 x6_1).f3)) := (blk_cell BK462.out 3).trans rfl
                   have hcz70_4 : w69.cell? ⟨gb462, 4, none⟩ = some (.int .i64 ((rd_T33 t453 x6_1).f4)) := (blk_cell BK462.out 4).trans rfl
                   have hfz70_0 := blk_frozen BK462.out 0
                   have hfz70_1 := blk_frozen BK462.out 1
                   have hfz70_2 := blk_frozen BK462.out 2
                   have hfz70_3 := blk_frozen BK462.out 3
                   have hfz70_4 := blk_frozen BK462.out 4
                   try go_wp2
                   go_roundg kj12
                   case measure => have := HK1.out; have := HJ12.out; omega
                   case rel => exact ⟨(((rd_T33 t453 x6_1).f4)), (wrap64 (x6_1 + 1)), (by first | rfl | (simp; done) | (simp [*]; done) | (simp [i64_w, i32_w, IntKind.wrap_u8]; done) | (simp [*, i64_w, i32_w, IntKind.wrap_u8]; done)), (by first | rfl | (simp; done) | (simp [*]; done) | (simp [i64_w, i32_w, IntKind.wrap_u8]; done) | (simp [*, i64_w, i32_w, IntKind.wrap_u8]; done)), H', ⟨by have := HK1.out; have := HJ12.out; omega⟩, ⟨by (with_reducible repeat (first | apply Kd.R_alloc | apply Kd.R_drewN | apply Kd.R_drew)); exact Kd.R_mono HO_3.out (fun _ hk => trivial)⟩, ⟨by (with_reducible repeat (first | refine blk_drewN ?_ _ | refine blk_drew ?_ | refine blk_alloc ?_ _)); exact BK458.out⟩, ⟨by repeat (first | (with_reducible first | exact HB.out | apply below_alloc | apply pw_below_drewN | apply below_drew1 | refine below_set ?_ GE458.out | refine below_set ?_ GE462.out | refine below_set ?_ GE469.out) | exact HB.out)⟩⟩
                  ·rw [if_neg c57] at H
                   have c57b0 : (((rd_T33 t464 0).f4) == ((a0.extract (((rd_T33 t453 x6_1).f3) : Int).toNat (((rd_T33 t453 x6_1).f4) : Int).toNat).size : Int)) = false := beq_eq_false_iff_ne.mpr c57
                   have c57b1 : (((rd_T33 t464 0).f4) != ((a0.extract (((rd_T33 t453 x6_1).f3) : Int).toNat (((rd_T33 t453 x6_1).f4) : Int).toNat).size : Int)) = true := bne_iff_ne.mpr c57
                   have c57z : (((rd_T33 t464 0).f4) != ((Int.toNat ((rd_T33 t453 x6_1).f4) - Int.toNat ((rd_T33 t453 x6_1).f3) : Nat) : Int)) = true := by have h_ := c57b1; rw [ByteArray.size_extract, Nat.min_eq_left (by have h3_ := of_decide_eq_true c36b1; omega)] at h_; exact h_
                   obtain rfl := Option.some.inj H
                   have hnb71 := NB462_458.out
                   have hnc71 := NB458_462.out
                   have hcz72_0 : wc.cell? ⟨gb462, 0, none⟩ = some (.int .i64 ((rd_T33 t453 x6_1).f0)) := (blk_cell BK462.out 0).trans rfl
                   have hcz72_1 : wc.cell? ⟨gb462, 1, none⟩ = some (.string ((rd_T33 t453 x6_1).f1)) := (blk_cell BK462.out 1).trans rfl
                   have hcz72_2 : wc.cell? ⟨gb462, 2, none⟩ = some (.int .i64 ((rd_T33 t453 x6_1).f2)) := (blk_cell BK462.out 2).trans rfl
                   have hcz72_3 : wc.cell? ⟨gb462, 3, none⟩ = some (.int .i64 ((rd_T33 t453 x6_1).f3)) := (blk_cell BK462.out 3).trans rfl
                   have hcz72_4 : wc.cell? ⟨gb462, 4, none⟩ = some (.int .i64 ((rd_T33 t453 x6_1).f4)) := (blk_cell BK462.out 4).trans rfl
                   have hfz72_0 := blk_frozen BK462.out 0
                   have hfz72_1 := blk_frozen BK462.out 1
                   have hfz72_2 := blk_frozen BK462.out 2
                   have hfz72_3 := blk_frozen BK462.out 3
                   have hfz72_4 := blk_frozen BK462.out 4
                   try go_wp2_with (first | ((with_reducible refine gate_callee (f := 14) rfl ?_); refine goesL_ (some 70) rfl rfl Tryd.func14 (by kernel_rfl) rfl #[.string (a0.extract (((rd_T33 t453 x6_1).f3) : Int).toNat (((rd_T33 t453 x6_1).f4) : Int).toNat), .int .i64 ((a0.extract (((rd_T33 t453 x6_1).f3) : Int).toNat (((rd_T33 t453 x6_1).f4) : Int).toNat).size : Int)] rfl (by (try simp only [List.map_toArray, List.map_cons, List.map_nil]); first | done | rfl | (simp only [List.length_drop, List.length_take]; rfl) | (simp only [beq_nil_, bne_nil_]; rfl) | (simp only [ByteArray.size_extract, Nat.min_self]; rfl) | (refine (congrArg (fun z => #[_, Value.int .i64 z]) (?_ : _ = _)); rw [ByteArray.size_extract]; have h1_ := of_decide_eq_true c34b1; have h2_ := of_decide_eq_true c35b1; have h3_ := of_decide_eq_true c36b1; omega)) ?_; (with_reducible refine (tokens_Cut.calls kj12 (a0.extract (((rd_T33 t453 x6_1).f3) : Int).toNat (((rd_T33 t453 x6_1).f4) : Int).toNat) ((a0.extract (((rd_T33 t453 x6_1).f3) : Int).toNat (((rd_T33 t453 x6_1).f4) : Int).toNat).size : Int) t464 t467 t468 _ ?side1 A37.out).mono ?_); (case side1 => exact Gl.below HG.out (by repeat (first | (with_reducible first | exact HB.out | apply below_alloc | apply pw_below_drewN | apply below_drew1 | refine below_set ?_ GE458.out | refine below_set ?_ GE462.out) | exact HB.out))); rintro e w73 ⟨v465, rfl, ho0, hb⟩; refine ⟨_, rfl, ?_⟩; have n0_ := Aside0.mk (Kd.R_elder' (by (with_reducible repeat (first | apply Kd.R_alloc | apply Kd.R_drewN | apply Kd.R_drew)); exact HO_3.out) (Kd.R_base ho0) hb); have n1_ := Aside0.mk (Kd.R_lower (Kd.R_newB (Kd.R_new' ho0 (Kd.R_lt (by (with_reducible repeat (first | apply Kd.R_alloc | apply Kd.R_drewN | apply Kd.R_drew)); exact HO_3.out))) (g := gb462) (o := .cells #[.int .i64 ((rd_T33 t453 x6_1).f0), .string ((rd_T33 t453 x6_1).f1), .int .i64 ((rd_T33 t453 x6_1).f2), .int .i64 ((rd_T33 t453 x6_1).f3), .int .i64 ((rd_T33 t453 x6_1).f4)] 33 (0, 0)) (by (with_reducible repeat (first | refine blk_drewN ?_ _ | refine blk_drew ?_ | refine blk_alloc ?_ _)); exact BK462.out)) (below_size (by repeat (first | (with_reducible first | exact HB.out | apply below_alloc | apply pw_below_drewN | apply below_drew1 | refine below_set ?_ GE458.out | refine below_set ?_ GE462.out) | exact HB.out)))); have n2_ := Aside0.mk (blk_below (g := gb458) (o := .cells #[.int .i64 t456, .int .i64 t457] 26 (0, 0)) (by (with_reducible repeat (first | refine blk_drewN ?_ _ | refine blk_drew ?_ | refine blk_alloc ?_ _)); exact BK458.out) hb); have n3_ := Aside0.mk (blk_below (g := gb462) (o := .cells #[.int .i64 ((rd_T33 t453 x6_1).f0), .string ((rd_T33 t453 x6_1).f1), .int .i64 ((rd_T33 t453 x6_1).f2), .int .i64 ((rd_T33 t453 x6_1).f3), .int .i64 ((rd_T33 t453 x6_1).f4)] 33 (0, 0)) (by (with_reducible repeat (first | refine blk_drewN ?_ _ | refine blk_drew ?_ | refine blk_alloc ?_ _)); exact BK462.out) hb); have n4_ := Aside0.mk (below_step (by repeat (first | (with_reducible first | exact HB.out | apply below_alloc | apply pw_below_drewN | apply below_drew1 | refine below_set ?_ GE458.out | refine below_set ?_ GE462.out) | exact HB.out)) hb); clear HO_3; clear BK458; clear BK462; clear HB; have HO_3 := n0_; have HO466 := n1_; have BK458 := n2_; have BK462 := n3_; have HB := n4_; clear n0_ n1_ n2_ n3_ n4_; (try clear hb); (try clear hb2); (try clear hk); (try clear hi); (try clear ho0)) | ((with_reducible refine gate_dst (N := 10) rfl ?_); (try (refine gate_guard (by rfl) ?_; dsimp only)); refine box_event ?hg (N := 10) ?hd (cs := #[.int .i64 0, .int .i64 0]) (t := 26) ?hr ?_; (case hd => rfl); (case hg => rfl); (case hr => first | (go_simp; done) | (go_simp; rfl)); intro gb469 hg w74 hbox hb; have n0_ := Aside0.mk (Kd.R_below (by (with_reducible repeat (first | apply Kd.R_alloc | apply Kd.R_drewN | apply Kd.R_drew)); exact HO_3.out) hb); have n1_ := Aside0.mk (Kd.R_below (by (with_reducible repeat (first | apply Kd.R_alloc | apply Kd.R_drewN | apply Kd.R_drew)); exact HO466.out) hb); have n2_ := Aside0.mk (blk_below (g := gb458) (o := .cells #[.int .i64 t456, .int .i64 t457] 26 (0, 0)) (by (with_reducible repeat (first | refine blk_drewN ?_ _ | refine blk_drew ?_ | refine blk_alloc ?_ _)); exact BK458.out) hb); have n3_ := Aside0.mk (blk_below (g := gb462) (o := .cells #[.int .i64 ((rd_T33 t453 x6_1).f0), .string ((rd_T33 t453 x6_1).f1), .int .i64 ((rd_T33 t453 x6_1).f2), .int .i64 ((rd_T33 t453 x6_1).f3), .int .i64 ((rd_T33 t453 x6_1).f4)] 33 (0, 0)) (by (with_reducible repeat (first | refine blk_drewN ?_ _ | refine blk_drew ?_ | refine blk_alloc ?_ _)); exact BK462.out) hb); have n4_ := Aside0.mk (below_step (by repeat (first | (with_reducible first | exact HB.out | apply below_alloc | apply pw_below_drewN | apply below_drew1 | refine below_set ?_ GE458.out | refine below_set ?_ GE462.out) | exact HB.out)) hb); have n5_ := Aside0.mk (hbox); have n6_ := Aside0.mk ((by rw [hg]; exact (below_size (by repeat (first | (with_reducible first | exact HB.out | apply below_alloc | apply pw_below_drewN | apply below_drew1 | refine below_set ?_ GE458.out | refine below_set ?_ GE462.out) | exact HB.out))) : w.heap.size ≤ gb469)); have n7_ := Aside0.mk ((by rw [hg]; exact (below_size (by repeat (first | (with_reducible first | exact HB.out | apply below_alloc | apply pw_below_drewN | apply below_drew1 | refine below_set ?_ GE458.out | refine below_set ?_ GE462.out) | exact HB.out))) : w.heap.size ≤ gb469)); have n8_ := Aside0.mk ((by rw [hg]; exact Nat.ne_of_lt (blk_lt (g := gb458) (o := .cells #[.int .i64 t456, .int .i64 t457] 26 (0, 0)) (by (with_reducible repeat (first | refine blk_drewN ?_ _ | refine blk_drew ?_ | refine blk_alloc ?_ _)); exact BK458.out)) : gb458 ≠ gb469)); have n9_ := Aside0.mk ((by rw [hg]; exact Nat.ne_of_gt (blk_lt (g := gb458) (o := .cells #[.int .i64 t456, .int .i64 t457] 26 (0, 0)) (by (with_reducible repeat (first | refine blk_drewN ?_ _ | refine blk_drew ?_ | refine blk_alloc ?_ _)); exact BK458.out)) : gb469 ≠ gb458)); have n10_ := Aside0.mk ((by rw [hg]; exact Nat.ne_of_lt (blk_lt (g := gb462) (o := .cells #[.int .i64 ((rd_T33 t453 x6_1).f0), .string ((rd_T33 t453 x6_1).f1), .int .i64 ((rd_T33 t453 x6_1).f2), .int .i64 ((rd_T33 t453 x6_1).f3), .int .i64 ((rd_T33 t453 x6_1).f4)] 33 (0, 0)) (by (with_reducible repeat (first | refine blk_drewN ?_ _ | refine blk_drew ?_ | refine blk_alloc ?_ _)); exact BK462.out)) : gb462 ≠ gb469)); have n11_ := Aside0.mk ((by rw [hg]; exact Nat.ne_of_gt (blk_lt (g := gb462) (o := .cells #[.int .i64 ((rd_T33 t453 x6_1).f0), .string ((rd_T33 t453 x6_1).f1), .int .i64 ((rd_T33 t453 x6_1).f2), .int .i64 ((rd_T33 t453 x6_1).f3), .int .i64 ((rd_T33 t453 x6_1).f4)] 33 (0, 0)) (by (with_reducible repeat (first | refine blk_drewN ?_ _ | refine blk_drew ?_ | refine blk_alloc ?_ _)); exact BK462.out)) : gb469 ≠ gb462)); clear HO_3; clear HO466; clear BK458; clear BK462; clear HB; have HO_3 := n0_; have HO466 := n1_; have BK458 := n2_; have BK462 := n3_; have HB := n4_; have BK469 := n5_; have GW469 := n6_; have GE469 := n7_; have NB458_469 := n8_; have NB469_458 := n9_; have NB462_469 := n10_; have NB469_462 := n11_; clear n0_ n1_ n2_ n3_ n4_ n5_ n6_ n7_ n8_ n9_ n10_ n11_; clear hb hbox hg; have hnb75 := NB469_458.out; have hnc75 := NB458_469.out; have hnb76 := NB469_462.out; have hnc76 := NB462_469.out; have hcz77_0 : w74.cell? ⟨gb469, 0, none⟩ = some (.int .i64 0) := (blk_cell BK469.out 0).trans rfl; have hcz77_1 : w74.cell? ⟨gb469, 1, none⟩ = some (.int .i64 0) := (blk_cell BK469.out 1).trans rfl; have hfz77_0 := blk_frozen BK469.out 0; have hfz77_1 := blk_frozen BK469.out 1))
                   have n0_ : Aside0 (Kd.R k33 33 ((w74.setCell ⟨gb469, 0, none⟩ (.int .i64 t467)).setCell ⟨gb469, 1, none⟩ (.int .i64 t468)) w.heap.size (fun k_ => some k_ ≠ (v465 : Value).ownBlock ∧ k_ ≠ gb462) (.slice (some ad461) t453.length co14) t453) := ⟨by (with_reducible repeat (first | apply Kd.R_alloc | apply Kd.R_drewN | apply Kd.R_drew)); exact Kd.R_mono (Kd.R_far (p := ⟨gb469, 1, none⟩) (Kd.R_far (p := ⟨gb469, 0, none⟩) (Kd.R_types HO_3.out BK469.out (by decide)) (fun _ hk => hk.2) (.int .i64 t467)) (fun _ hk => hk.2) (.int .i64 t468)) (fun _ hk => ⟨hk.1.2, hk.1.1⟩)⟩
                   have n1_ : Aside0 (Kd.R k33 33 ((w74.setCell ⟨gb469, 0, none⟩ (.int .i64 t467)).setCell ⟨gb469, 1, none⟩ (.int .i64 t468)) w.heap.size (fun k_ => some k_ ≠ (.slice (some ad461) t453.length co14 : Value).ownBlock ∧ k_ ≠ gb462) v465 t464) := ⟨by (with_reducible repeat (first | apply Kd.R_alloc | apply Kd.R_drewN | apply Kd.R_drew)); exact Kd.R_mono (Kd.R_far (p := ⟨gb469, 1, none⟩) (Kd.R_far (p := ⟨gb469, 0, none⟩) (Kd.R_types HO466.out BK469.out (by decide)) (fun _ hk => hk.2) (.int .i64 t467)) (fun _ hk => hk.2) (.int .i64 t468)) (fun _ hk => ⟨hk.1.1.2, hk.1.2⟩)⟩
                   have n2_ : Aside0 (((w74.setCell ⟨gb469, 0, none⟩ (.int .i64 t467)).setCell ⟨gb469, 1, none⟩ (.int .i64 t468)).heap[gb458]? = some (.cells #[.int .i64 t456, .int .i64 t457] 26 (0, 0))) := ⟨by (with_reducible repeat (first | refine blk_drewN ?_ _ | refine blk_drew ?_ | refine blk_alloc ?_ _)); refine blk_far ?_ NB458_469.out _; (with_reducible repeat (first | refine blk_drewN ?_ _ | refine blk_drew ?_ | refine blk_alloc ?_ _)); refine blk_far ?_ NB458_469.out _; (with_reducible repeat (first | refine blk_drewN ?_ _ | refine blk_drew ?_ | refine blk_alloc ?_ _)); exact BK458.out⟩
                   have n3_ : Aside0 (((w74.setCell ⟨gb469, 0, none⟩ (.int .i64 t467)).setCell ⟨gb469, 1, none⟩ (.int .i64 t468)).heap[gb462]? = some (.cells #[.int .i64 ((rd_T33 t453 x6_1).f0), .string ((rd_T33 t453 x6_1).f1), .int .i64 ((rd_T33 t453 x6_1).f2), .int .i64 ((rd_T33 t453 x6_1).f3), .int .i64 ((rd_T33 t453 x6_1).f4)] 33 (0, 0))) := ⟨by (with_reducible repeat (first | refine blk_drewN ?_ _ | refine blk_drew ?_ | refine blk_alloc ?_ _)); refine blk_far ?_ NB462_469.out _; (with_reducible repeat (first | refine blk_drewN ?_ _ | refine blk_drew ?_ | refine blk_alloc ?_ _)); refine blk_far ?_ NB462_469.out _; (with_reducible repeat (first | refine blk_drewN ?_ _ | refine blk_drew ?_ | refine blk_alloc ?_ _)); exact BK462.out⟩
                   have n4_ : Aside0 (((w74.setCell ⟨gb469, 0, none⟩ (.int .i64 t467)).setCell ⟨gb469, 1, none⟩ (.int .i64 t468)).heap[gb469]? = some (.cells #[.int .i64 t467, .int .i64 t468] 26 (0, 0))) := ⟨by (with_reducible repeat (first | refine blk_drewN ?_ _ | refine blk_drew ?_ | refine blk_alloc ?_ _)); refine blk_put (cs := #[.int .i64 t467, .int .i64 0]) ?_ 1 _ rfl; (with_reducible repeat (first | refine blk_drewN ?_ _ | refine blk_drew ?_ | refine blk_alloc ?_ _)); refine blk_put (cs := #[.int .i64 0, .int .i64 0]) ?_ 0 _ rfl; (with_reducible repeat (first | refine blk_drewN ?_ _ | refine blk_drew ?_ | refine blk_alloc ?_ _)); exact BK469.out⟩
                   have n5_ : Aside0 (Below w.heap.size w ((w74.setCell ⟨gb469, 0, none⟩ (.int .i64 t467)).setCell ⟨gb469, 1, none⟩ (.int .i64 t468))) := ⟨by repeat (first | (with_reducible first | exact HB.out | apply below_alloc | apply pw_below_drewN | apply below_drew1 | refine below_set ?_ GE458.out | refine below_set ?_ GE462.out | refine below_set ?_ GE469.out) | exact HB.out)⟩
                   (try clear HO_3)
                   (try clear HO466)
                   (try clear BK458)
                   (try clear BK462)
                   (try clear BK469)
                   (try clear HB)
                   generalize ((w74.setCell ⟨gb469, 0, none⟩ (.int .i64 t467)).setCell ⟨gb469, 1, none⟩ (.int .i64 t468)) = w78 at n0_ n1_ n2_ n3_ n4_ n5_ ⊢
                   have HO_3 := n0_
                   have HO466 := n1_
                   have BK458 := n2_
                   have BK462 := n3_
                   have BK469 := n4_
                   have HB := n5_
                   clear n0_ n1_ n2_ n3_ n4_ n5_
                   have n0_ := Aside0.mk (Kd.R_drew HO_3.out)
                   have n1_ := Aside0.mk (Kd.R_drew HO466.out)
                   have n2_ := Aside0.mk (blk_drew BK458.out)
                   have n3_ := Aside0.mk (blk_drew BK462.out)
                   have n4_ := Aside0.mk (blk_drew BK469.out)
                   have n5_ := Aside0.mk (below_drew1 HB.out)
                   clear HO_3
                   clear HO466
                   clear BK458
                   clear BK462
                   clear BK469
                   clear HB
                   have HO_3 := n0_
                   have HO466 := n1_
                   have BK458 := n2_
                   have BK462 := n3_
                   have BK469 := n4_
                   have HB := n5_
                   clear n0_ n1_ n2_ n3_ n4_ n5_
                   obtain ⟨Ao80, co80, eo80⟩ := Kd.R_slice HO466.out
                   (first | subst eo80 | (injection eo80 with f1_ f2_ f3_; have f4_ := f1_.symm; have f5_ := f3_.symm; clear f1_ f2_ f3_; subst f4_; subst f5_))
                   have p470 : 0 ≤ (0 : Int) := (by omega)
                   have q470 : 0 < (t464.length : Int) := of_decide_eq_true (by first | (with_reducible assumption) | assumption)
                   obtain ⟨ad470, e470, hx470_0, hx470_1, hx470_2, hx470_3, hx470_4⟩ := at_T33 (Kd.R_reads' HO466.out).2.2 0 p470 q470
                   cases e470
                   have qi470 : (0 < t464.length) = True := eq_true (by omega)
                   (try simp only [show ((0 : Int)).toNat = 0 from rfl, show 0 * 5 = 0 from rfl, Addr.add_zero'] at hx470_0 hx470_1 hx470_2 hx470_3 hx470_4)
                   replace p470 := eq_true p470
                   replace q470 := eq_true q470
                   have p481 : 0 ≤ (0 : Int) := (by omega)
                   have q481 : 0 < (t464.length : Int) := of_decide_eq_true (by first | (with_reducible assumption) | assumption)
                   obtain ⟨ad481, e481, hx481_0, hx481_1, hx481_2, hx481_3, hx481_4⟩ := at_T33 (Kd.R_reads' HO466.out).2.2 0 p481 q481
                   obtain rfl : ad470 = ad481 := (by injection e481)
                   have qi481 : (0 < t464.length) = True := eq_true (by omega)
                   (try simp only [show ((0 : Int)).toNat = 0 from rfl, show 0 * 5 = 0 from rfl, Addr.add_zero'] at hx481_0 hx481_1 hx481_2 hx481_3 hx481_4)
                   replace p481 := eq_true p481
                   replace q481 := eq_true q481
                   have p482 : 0 ≤ (0 : Int) := (by omega)
                   have q482 : 0 < (t464.length : Int) := of_decide_eq_true (by first | (with_reducible assumption) | assumption)
                   obtain ⟨ad482, e482, hx482_0, hx482_1, hx482_2, hx482_3, hx482_4⟩ := at_T33 (Kd.R_reads' HO466.out).2.2 0 p482 q482
                   obtain rfl : ad470 = ad482 := (by injection e482)
                   have qi482 : (0 < t464.length) = True := eq_true (by omega)
                   (try simp only [show ((0 : Int)).toNat = 0 from rfl, show 0 * 5 = 0 from rfl, Addr.add_zero'] at hx482_0 hx482_1 hx482_2 hx482_3 hx482_4)
                   replace p482 := eq_true p482
                   replace q482 := eq_true q482
                   refine start_ (n := 33) (S := fun w' => w'.cell? ⟨gb469, 0, none⟩ = some (.int .i64 t467) ∧ w'.cell? ⟨gb469, 1, none⟩ = some (.int .i64 t468) ∧ w'.cell? ⟨gb462, 0, none⟩ = some (.int .i64 ((rd_T33 t453 x6_1).f0)) ∧ w'.cell? ⟨gb462, 1, none⟩ = some (.string ((rd_T33 t453 x6_1).f1)) ∧ w'.cell? ⟨gb462, 2, none⟩ = some (.int .i64 ((rd_T33 t453 x6_1).f2)) ∧ w'.cell? ⟨gb462, 3, none⟩ = some (.int .i64 ((rd_T33 t453 x6_1).f3)) ∧ w'.cell? ⟨gb462, 4, none⟩ = some (.int .i64 ((rd_T33 t453 x6_1).f4)) ∧ w'.cell? ad470 = some (.int .i64 ((rd_T33 t464 0).f0)) ∧ w'.cell? ⟨ad470.block, ad470.off + 1, none⟩ = some (.string ((rd_T33 t464 0).f1)) ∧ w'.cell? ⟨ad470.block, ad470.off + 2, none⟩ = some (.int .i64 ((rd_T33 t464 0).f2)) ∧ w'.cell? ⟨ad470.block, ad470.off + 3, none⟩ = some (.int .i64 ((rd_T33 t464 0).f3)) ∧ w'.cell? ⟨ad470.block, ad470.off + 4, none⟩ = some (.int .i64 ((rd_T33 t464 0).f4)) ∧ w'.cell? ad470 = some (.int .i64 ((rd_T33 t464 0).f0)) ∧ w'.cell? ⟨ad470.block, ad470.off + 1, none⟩ = some (.string ((rd_T33 t464 0).f1)) ∧ w'.cell? ⟨ad470.block, ad470.off + 2, none⟩ = some (.int .i64 ((rd_T33 t464 0).f2)) ∧ w'.cell? ⟨ad470.block, ad470.off + 3, none⟩ = some (.int .i64 ((rd_T33 t464 0).f3)) ∧ w'.cell? ⟨ad470.block, ad470.off + 4, none⟩ = some (.int .i64 ((rd_T33 t464 0).f4)) ∧ w'.cell? ad470 = some (.int .i64 ((rd_T33 t464 0).f0)) ∧ w'.cell? ⟨ad470.block, ad470.off + 1, none⟩ = some (.string ((rd_T33 t464 0).f1)) ∧ w'.cell? ⟨ad470.block, ad470.off + 2, none⟩ = some (.int .i64 ((rd_T33 t464 0).f2)) ∧ w'.cell? ⟨ad470.block, ad470.off + 3, none⟩ = some (.int .i64 ((rd_T33 t464 0).f3)) ∧ w'.cell? ⟨ad470.block, ad470.off + 4, none⟩ = some (.int .i64 ((rd_T33 t464 0).f4))) (ds := []) #[f_,f_,f_,f_,f_,f_,f_,f_,f_,f_,f_,f_,f_,f_,f_,f_,f_,f_,f_,f_,f_,f_,f_,f_,f_,f_,f_,f_,f_,f_,f_,f_,f_] (by kernel_rfl) rfl rfl ⟨(blk_cell BK469.out 0).trans rfl, (blk_cell BK469.out 1).trans rfl, (blk_cell BK462.out 0).trans rfl, (blk_cell BK462.out 1).trans rfl, (blk_cell BK462.out 2).trans rfl, (blk_cell BK462.out 3).trans rfl, (blk_cell BK462.out 4).trans rfl, hx470_0, hx470_1, hx470_2, hx470_3, hx470_4, hx481_0, hx481_1, hx481_2, hx481_3, hx481_4, hx482_0, hx482_1, hx482_2, hx482_3, hx482_4⟩ (fun hHeld => ?_); refine with_tabW hearsaylaw04_TokensPlaces.tab15 hearsaylaw04_TokensPlaces.bits15 (fun HT_ HW_ => ?_)
                   generalize w78.drew = w79 at HO_3 HO466 BK458 BK462 BK469 HB hx470_0 hx470_1 hx470_2 hx470_3 hx470_4 hx481_0 hx481_1 hx481_2 hx481_3 hx481_4 hx482_0 hx482_1 hx482_2 hx482_3 hx482_4 hHeld ⊢
                   refine pB_ HT_ 0 73 #[t_,f_,f_,f_,f_,f_,f_,f_,f_,f_,f_,f_,f_,f_,f_,f_,f_,f_,f_,f_,f_,f_,f_,f_,f_,f_,f_,f_,f_,f_,f_,f_,f_] ?_
                   refine take_ (i := 1) (N := some 74) (v := ?_) (a' := ?_) #[t_,t_,f_,f_,f_,f_,f_,f_,f_,f_,f_,f_,f_,f_,f_,f_,f_,f_,f_,f_,f_,f_,f_,f_,f_,f_,f_,f_,f_,f_,f_,f_,f_] rfl rfl (take_ofW HT_.out HW_.out (by kernel_rfl)) (fun _ _ _ h => h) (Or.inl ⟨by rfl, ?_⟩) hHeld ?_ ?_
                   rotate_left
                   ·rintro w' ⟨s0, s1, s2, s3, s4, s5, s6, s7, s8, s9, s10, s11, s12, s13, s14, s15, s16, s17, s18, s19, s20, s21⟩
                    go_simp
                    with_reducible rfl
                   rotate_left
                   ·simp only [Act.put, List.setIfInBounds_toArray, List.set_cons_zero, List.set_cons_succ, i64_w, i32_w]
                    rfl
                   refine pB_ HT_ 2 75 #[t_,t_,t_,f_,f_,f_,f_,f_,f_,f_,f_,f_,f_,f_,f_,f_,f_,f_,f_,f_,f_,f_,f_,f_,f_,f_,f_,f_,f_,f_,f_,f_,f_] ?_
                   refine pB_ HT_ 3 76 #[t_,t_,t_,t_,f_,f_,f_,f_,f_,f_,f_,f_,f_,f_,f_,f_,f_,f_,f_,f_,f_,f_,f_,f_,f_,f_,f_,f_,f_,f_,f_,f_,f_] ?_
                   refine pB_ HT_ 4 77 #[t_,t_,t_,t_,t_,f_,f_,f_,f_,f_,f_,f_,f_,f_,f_,f_,f_,f_,f_,f_,f_,f_,f_,f_,f_,f_,f_,f_,f_,f_,f_,f_,f_] ?_
                   refine pB_ HT_ 5 78 #[t_,t_,t_,t_,t_,t_,f_,f_,f_,f_,f_,f_,f_,f_,f_,f_,f_,f_,f_,f_,f_,f_,f_,f_,f_,f_,f_,f_,f_,f_,f_,f_,f_] ?_
                   refine pB_ HT_ 6 79 #[t_,t_,t_,t_,t_,t_,t_,f_,f_,f_,f_,f_,f_,f_,f_,f_,f_,f_,f_,f_,f_,f_,f_,f_,f_,f_,f_,f_,f_,f_,f_,f_,f_] ?_
                   refine pB_ HT_ 7 80 #[t_,t_,t_,t_,t_,t_,t_,t_,f_,f_,f_,f_,f_,f_,f_,f_,f_,f_,f_,f_,f_,f_,f_,f_,f_,f_,f_,f_,f_,f_,f_,f_,f_] ?_
                   refine pB_ HT_ 8 81 #[t_,t_,t_,t_,t_,t_,t_,t_,t_,f_,f_,f_,f_,f_,f_,f_,f_,f_,f_,f_,f_,f_,f_,f_,f_,f_,f_,f_,f_,f_,f_,f_,f_] ?_
                   refine pB_ HT_ 9 82 #[t_,t_,t_,t_,t_,t_,t_,t_,t_,t_,f_,f_,f_,f_,f_,f_,f_,f_,f_,f_,f_,f_,f_,f_,f_,f_,f_,f_,f_,f_,f_,f_,f_] ?_
                   refine pB_ HT_ 10 83 #[t_,t_,t_,t_,t_,t_,t_,t_,t_,t_,t_,f_,f_,f_,f_,f_,f_,f_,f_,f_,f_,f_,f_,f_,f_,f_,f_,f_,f_,f_,f_,f_,f_] ?_
                   refine take_ (i := 11) (N := some 84) (v := ?_) (a' := ?_) #[t_,t_,t_,t_,t_,t_,t_,t_,t_,t_,t_,t_,f_,f_,f_,f_,f_,f_,f_,f_,f_,f_,f_,f_,f_,f_,f_,f_,f_,f_,f_,f_,f_] rfl rfl (take_ofW HT_.out HW_.out (by kernel_rfl)) (fun _ _ _ h => h) (Or.inl ⟨by rfl, ?_⟩) hHeld ?_ ?_
                   rotate_left
                   ·rintro w' ⟨s0, s1, s2, s3, s4, s5, s6, s7, s8, s9, s10, s11, s12, s13, s14, s15, s16, s17, s18, s19, s20, s21⟩
                    go_simp
                    with_reducible rfl
                   rotate_left
                   ·simp only [Act.put, List.setIfInBounds_toArray, List.set_cons_zero, List.set_cons_succ, i64_w, i32_w]
                    rfl
                   refine take_ (i := 13) (N := some 86) (v := ?_) (a' := ?_) #[t_,t_,t_,t_,t_,t_,t_,t_,t_,t_,t_,t_,f_,t_,f_,f_,f_,f_,f_,f_,f_,f_,f_,f_,f_,f_,f_,f_,f_,f_,f_,f_,f_] rfl rfl (take_ofW HT_.out HW_.out (by kernel_rfl)) (fun _ _ _ h => h) (Or.inl ⟨by rfl, ?_⟩) hHeld ?_ ?_
                   rotate_left
                   ·rintro w' ⟨s0, s1, s2, s3, s4, s5, s6, s7, s8, s9, s10, s11, s12, s13, s14, s15, s16, s17, s18, s19, s20, s21⟩
                    go_simp
                    with_reducible rfl
                   rotate_left
                   ·simp only [Act.put, List.setIfInBounds_toArray, List.set_cons_zero, List.set_cons_succ, i64_w, i32_w]
                    rfl
                   refine one_ (i := 12) (N := some 85) #[t_,t_,t_,t_,t_,t_,t_,t_,t_,t_,t_,t_,t_,t_,f_,f_,f_,f_,f_,f_,f_,f_,f_,f_,f_,f_,f_,f_,f_,f_,f_,f_,f_] rfl rfl (one_of HT_.out (by kernel_rfl)) (by decide) (fun K hK => ?_)
                   refine goes_ Tryd.func25 (by kernel_rfl) rfl #[.agg #[.int .i64 ((rd_T33 t464 0).f0), .string ((rd_T33 t464 0).f1), .int .i64 ((rd_T33 t464 0).f2), .int .i64 ((rd_T33 t464 0).f3), .int .i64 ((rd_T33 t464 0).f4)]] (by rfl) rfl rfl (by (try simp only [List.map_toArray, List.map_cons, List.map_nil]); first | done | rfl | (simp only [List.length_drop, List.length_take]; rfl) | (simp only [beq_nil_, bne_nil_]; rfl) | (simp only [ByteArray.size_extract, Nat.min_self]; rfl) | (refine (congrArg (fun z => #[_, Value.int .i64 z]) (?_ : _ = _)); rw [ByteArray.size_extract]; have h1_ := of_decide_eq_true c34b1; have h2_ := of_decide_eq_true c35b1; have h3_ := of_decide_eq_true c36b1; omega)) ?_
                   with_reducible refine (hearsaylaw04_bare.calls ((rd_T33 t464 0).f0) ((rd_T33 t464 0).f1) ((rd_T33 t464 0).f2) ((rd_T33 t464 0).f3) ((rd_T33 t464 0).f4) t471 t472 t473 t474 t475 _ A41.out).mono ?_
                   rintro e w81 ⟨rfl, hb⟩
                   have HS7_ := (hb.cell (World.block_lt_of_cell? _ _ (hHeld.2.2.2.2.2.2.2.1))).trans (hHeld.2.2.2.2.2.2.2.1)
                   have HS8_ := (hb.cell (World.block_lt_of_cell? _ _ (hHeld.2.2.2.2.2.2.2.2.1))).trans (hHeld.2.2.2.2.2.2.2.2.1)
                   have HS9_ := (hb.cell (World.block_lt_of_cell? _ _ (hHeld.2.2.2.2.2.2.2.2.2.1))).trans (hHeld.2.2.2.2.2.2.2.2.2.1)
                   have HS10_ := (hb.cell (World.block_lt_of_cell? _ _ (hHeld.2.2.2.2.2.2.2.2.2.2.1))).trans (hHeld.2.2.2.2.2.2.2.2.2.2.1)
                   have HS11_ := (hb.cell (World.block_lt_of_cell? _ _ (hHeld.2.2.2.2.2.2.2.2.2.2.2.1))).trans (hHeld.2.2.2.2.2.2.2.2.2.2.2.1)
                   have HS12_ := (hb.cell (World.block_lt_of_cell? _ _ (hHeld.2.2.2.2.2.2.2.2.2.2.2.2.1))).trans (hHeld.2.2.2.2.2.2.2.2.2.2.2.2.1)
                   have HS13_ := (hb.cell (World.block_lt_of_cell? _ _ (hHeld.2.2.2.2.2.2.2.2.2.2.2.2.2.1))).trans (hHeld.2.2.2.2.2.2.2.2.2.2.2.2.2.1)
                   have HS14_ := (hb.cell (World.block_lt_of_cell? _ _ (hHeld.2.2.2.2.2.2.2.2.2.2.2.2.2.2.1))).trans (hHeld.2.2.2.2.2.2.2.2.2.2.2.2.2.2.1)
                   have HS15_ := (hb.cell (World.block_lt_of_cell? _ _ (hHeld.2.2.2.2.2.2.2.2.2.2.2.2.2.2.2.1))).trans (hHeld.2.2.2.2.2.2.2.2.2.2.2.2.2.2.2.1)
                   have HS16_ := (hb.cell (World.block_lt_of_cell? _ _ (hHeld.2.2.2.2.2.2.2.2.2.2.2.2.2.2.2.2.1))).trans (hHeld.2.2.2.2.2.2.2.2.2.2.2.2.2.2.2.2.1)
                   have HS17_ := (hb.cell (World.block_lt_of_cell? _ _ (hHeld.2.2.2.2.2.2.2.2.2.2.2.2.2.2.2.2.2.1))).trans (hHeld.2.2.2.2.2.2.2.2.2.2.2.2.2.2.2.2.2.1)
                   have HS18_ := (hb.cell (World.block_lt_of_cell? _ _ (hHeld.2.2.2.2.2.2.2.2.2.2.2.2.2.2.2.2.2.2.1))).trans (hHeld.2.2.2.2.2.2.2.2.2.2.2.2.2.2.2.2.2.2.1)
                   have HS19_ := (hb.cell (World.block_lt_of_cell? _ _ (hHeld.2.2.2.2.2.2.2.2.2.2.2.2.2.2.2.2.2.2.2.1))).trans (hHeld.2.2.2.2.2.2.2.2.2.2.2.2.2.2.2.2.2.2.2.1)
                   have HS20_ := (hb.cell (World.block_lt_of_cell? _ _ (hHeld.2.2.2.2.2.2.2.2.2.2.2.2.2.2.2.2.2.2.2.2.1))).trans (hHeld.2.2.2.2.2.2.2.2.2.2.2.2.2.2.2.2.2.2.2.2.1)
                   have HS21_ := (hb.cell (World.block_lt_of_cell? _ _ (hHeld.2.2.2.2.2.2.2.2.2.2.2.2.2.2.2.2.2.2.2.2.2))).trans (hHeld.2.2.2.2.2.2.2.2.2.2.2.2.2.2.2.2.2.2.2.2.2)
                   refine ⟨_, rfl, ?_⟩
                   have n0_ := Aside0.mk (Kd.R_below (by (with_reducible repeat (first | apply Kd.R_alloc | apply Kd.R_drewN | apply Kd.R_drew)); exact HO_3.out) hb)
                   have n1_ := Aside0.mk (Kd.R_below (by (with_reducible repeat (first | apply Kd.R_alloc | apply Kd.R_drewN | apply Kd.R_drew)); exact HO466.out) hb)
                   have n2_ := Aside0.mk (blk_below (g := gb458) (o := .cells #[.int .i64 t456, .int .i64 t457] 26 (0, 0)) (by (with_reducible repeat (first | refine blk_drewN ?_ _ | refine blk_drew ?_ | refine blk_alloc ?_ _)); exact BK458.out) hb)
                   have n3_ := Aside0.mk (blk_below (g := gb462) (o := .cells #[.int .i64 ((rd_T33 t453 x6_1).f0), .string ((rd_T33 t453 x6_1).f1), .int .i64 ((rd_T33 t453 x6_1).f2), .int .i64 ((rd_T33 t453 x6_1).f3), .int .i64 ((rd_T33 t453 x6_1).f4)] 33 (0, 0)) (by (with_reducible repeat (first | refine blk_drewN ?_ _ | refine blk_drew ?_ | refine blk_alloc ?_ _)); exact BK462.out) hb)
                   have n4_ := Aside0.mk (blk_below (g := gb469) (o := .cells #[.int .i64 t467, .int .i64 t468] 26 (0, 0)) (by (with_reducible repeat (first | refine blk_drewN ?_ _ | refine blk_drew ?_ | refine blk_alloc ?_ _)); exact BK469.out) hb)
                   have n5_ := Aside0.mk (below_step (by repeat (first | (with_reducible first | exact HB.out | apply below_alloc | apply pw_below_drewN | apply below_drew1 | refine below_set ?_ GE458.out | refine below_set ?_ GE462.out | refine below_set ?_ GE469.out) | exact HB.out)) hb)
                   clear HO_3
                   clear HO466
                   clear BK458
                   clear BK462
                   clear BK469
                   clear HB
                   have HO_3 := n0_
                   have HO466 := n1_
                   have BK458 := n2_
                   have BK462 := n3_
                   have BK469 := n4_
                   have HB := n5_
                   clear n0_ n1_ n2_ n3_ n4_ n5_
                   (try clear hb)
                   (try clear hb2)
                   (try clear hk)
                   (try clear hi)
                   refine hK.out _ _ ⟨(blk_cell BK469.out 0).trans rfl, (blk_cell BK469.out 1).trans rfl, (blk_cell BK462.out 0).trans rfl, (blk_cell BK462.out 1).trans rfl, (blk_cell BK462.out 2).trans rfl, (blk_cell BK462.out 3).trans rfl, (blk_cell BK462.out 4).trans rfl, HS7_, HS8_, HS9_, HS10_, HS11_, HS12_, HS13_, HS14_, HS15_, HS16_, HS17_, HS18_, HS19_, HS20_, HS21_⟩ (fun hHeld => ?_)
                   clear hK K
                   refine norm_ (a' := ?_) ?_ ?_
                   rotate_left
                   ·show Act.put _ (some 85) _ = _
                    simp only [Act.put, List.setIfInBounds_toArray, List.set_cons_zero, List.set_cons_succ, i64_w, i32_w]
                    rfl
                   refine one_ (i := 14) (N := some 87) #[t_,t_,t_,t_,t_,t_,t_,t_,t_,t_,t_,t_,t_,t_,t_,f_,f_,f_,f_,f_,f_,f_,f_,f_,f_,f_,f_,f_,f_,f_,f_,f_,f_] rfl rfl (one_of HT_.out (by kernel_rfl)) (by decide) (fun K hK => ?_)
                   refine goes_ Tryd.func25 (by kernel_rfl) rfl #[.agg #[.int .i64 ((rd_T33 t453 x6_1).f0), .string ((rd_T33 t453 x6_1).f1), .int .i64 ((rd_T33 t453 x6_1).f2), .int .i64 ((rd_T33 t453 x6_1).f3), .int .i64 ((rd_T33 t453 x6_1).f4)]] (by rfl) rfl rfl (by (try simp only [List.map_toArray, List.map_cons, List.map_nil]); first | done | rfl | (simp only [List.length_drop, List.length_take]; rfl) | (simp only [beq_nil_, bne_nil_]; rfl) | (simp only [ByteArray.size_extract, Nat.min_self]; rfl) | (refine (congrArg (fun z => #[_, Value.int .i64 z]) (?_ : _ = _)); rw [ByteArray.size_extract]; have h1_ := of_decide_eq_true c34b1; have h2_ := of_decide_eq_true c35b1; have h3_ := of_decide_eq_true c36b1; omega)) ?_
                   with_reducible refine (hearsaylaw04_bare.calls ((rd_T33 t453 x6_1).f0) ((rd_T33 t453 x6_1).f1) ((rd_T33 t453 x6_1).f2) ((rd_T33 t453 x6_1).f3) ((rd_T33 t453 x6_1).f4) t476 t477 t478 t479 t480 _ A42.out).mono ?_
                   rintro e w82 ⟨rfl, hb⟩
                   have HS7_ := (hb.cell (World.block_lt_of_cell? _ _ (hHeld.2.2.2.2.2.2.2.1))).trans (hHeld.2.2.2.2.2.2.2.1)
                   have HS8_ := (hb.cell (World.block_lt_of_cell? _ _ (hHeld.2.2.2.2.2.2.2.2.1))).trans (hHeld.2.2.2.2.2.2.2.2.1)
                   have HS9_ := (hb.cell (World.block_lt_of_cell? _ _ (hHeld.2.2.2.2.2.2.2.2.2.1))).trans (hHeld.2.2.2.2.2.2.2.2.2.1)
                   have HS10_ := (hb.cell (World.block_lt_of_cell? _ _ (hHeld.2.2.2.2.2.2.2.2.2.2.1))).trans (hHeld.2.2.2.2.2.2.2.2.2.2.1)
                   have HS11_ := (hb.cell (World.block_lt_of_cell? _ _ (hHeld.2.2.2.2.2.2.2.2.2.2.2.1))).trans (hHeld.2.2.2.2.2.2.2.2.2.2.2.1)
                   have HS12_ := (hb.cell (World.block_lt_of_cell? _ _ (hHeld.2.2.2.2.2.2.2.2.2.2.2.2.1))).trans (hHeld.2.2.2.2.2.2.2.2.2.2.2.2.1)
                   have HS13_ := (hb.cell (World.block_lt_of_cell? _ _ (hHeld.2.2.2.2.2.2.2.2.2.2.2.2.2.1))).trans (hHeld.2.2.2.2.2.2.2.2.2.2.2.2.2.1)
                   have HS14_ := (hb.cell (World.block_lt_of_cell? _ _ (hHeld.2.2.2.2.2.2.2.2.2.2.2.2.2.2.1))).trans (hHeld.2.2.2.2.2.2.2.2.2.2.2.2.2.2.1)
                   have HS15_ := (hb.cell (World.block_lt_of_cell? _ _ (hHeld.2.2.2.2.2.2.2.2.2.2.2.2.2.2.2.1))).trans (hHeld.2.2.2.2.2.2.2.2.2.2.2.2.2.2.2.1)
                   have HS16_ := (hb.cell (World.block_lt_of_cell? _ _ (hHeld.2.2.2.2.2.2.2.2.2.2.2.2.2.2.2.2.1))).trans (hHeld.2.2.2.2.2.2.2.2.2.2.2.2.2.2.2.2.1)
                   have HS17_ := (hb.cell (World.block_lt_of_cell? _ _ (hHeld.2.2.2.2.2.2.2.2.2.2.2.2.2.2.2.2.2.1))).trans (hHeld.2.2.2.2.2.2.2.2.2.2.2.2.2.2.2.2.2.1)
                   have HS18_ := (hb.cell (World.block_lt_of_cell? _ _ (hHeld.2.2.2.2.2.2.2.2.2.2.2.2.2.2.2.2.2.2.1))).trans (hHeld.2.2.2.2.2.2.2.2.2.2.2.2.2.2.2.2.2.2.1)
                   have HS19_ := (hb.cell (World.block_lt_of_cell? _ _ (hHeld.2.2.2.2.2.2.2.2.2.2.2.2.2.2.2.2.2.2.2.1))).trans (hHeld.2.2.2.2.2.2.2.2.2.2.2.2.2.2.2.2.2.2.2.1)
                   have HS20_ := (hb.cell (World.block_lt_of_cell? _ _ (hHeld.2.2.2.2.2.2.2.2.2.2.2.2.2.2.2.2.2.2.2.2.1))).trans (hHeld.2.2.2.2.2.2.2.2.2.2.2.2.2.2.2.2.2.2.2.2.1)
                   have HS21_ := (hb.cell (World.block_lt_of_cell? _ _ (hHeld.2.2.2.2.2.2.2.2.2.2.2.2.2.2.2.2.2.2.2.2.2))).trans (hHeld.2.2.2.2.2.2.2.2.2.2.2.2.2.2.2.2.2.2.2.2.2)
                   refine ⟨_, rfl, ?_⟩
                   have n0_ := Aside0.mk (Kd.R_below (by (with_reducible repeat (first | apply Kd.R_alloc | apply Kd.R_drewN | apply Kd.R_drew)); exact HO_3.out) hb)
                   have n1_ := Aside0.mk (Kd.R_below (by (with_reducible repeat (first | apply Kd.R_alloc | apply Kd.R_drewN | apply Kd.R_drew)); exact HO466.out) hb)
                   have n2_ := Aside0.mk (blk_below (g := gb458) (o := .cells #[.int .i64 t456, .int .i64 t457] 26 (0, 0)) (by (with_reducible repeat (first | refine blk_drewN ?_ _ | refine blk_drew ?_ | refine blk_alloc ?_ _)); exact BK458.out) hb)
                   have n3_ := Aside0.mk (blk_below (g := gb462) (o := .cells #[.int .i64 ((rd_T33 t453 x6_1).f0), .string ((rd_T33 t453 x6_1).f1), .int .i64 ((rd_T33 t453 x6_1).f2), .int .i64 ((rd_T33 t453 x6_1).f3), .int .i64 ((rd_T33 t453 x6_1).f4)] 33 (0, 0)) (by (with_reducible repeat (first | refine blk_drewN ?_ _ | refine blk_drew ?_ | refine blk_alloc ?_ _)); exact BK462.out) hb)
                   have n4_ := Aside0.mk (blk_below (g := gb469) (o := .cells #[.int .i64 t467, .int .i64 t468] 26 (0, 0)) (by (with_reducible repeat (first | refine blk_drewN ?_ _ | refine blk_drew ?_ | refine blk_alloc ?_ _)); exact BK469.out) hb)
                   have n5_ := Aside0.mk (below_step (by repeat (first | (with_reducible first | exact HB.out | apply below_alloc | apply pw_below_drewN | apply below_drew1 | refine below_set ?_ GE458.out | refine below_set ?_ GE462.out | refine below_set ?_ GE469.out) | exact HB.out)) hb)
                   clear HO_3
                   clear HO466
                   clear BK458
                   clear BK462
                   clear BK469
                   clear HB
                   have HO_3 := n0_
                   have HO466 := n1_
                   have BK458 := n2_
                   have BK462 := n3_
                   have BK469 := n4_
                   have HB := n5_
                   clear n0_ n1_ n2_ n3_ n4_ n5_
                   (try clear hb)
                   (try clear hb2)
                   (try clear hk)
                   (try clear hi)
                   refine hK.out _ _ ⟨(blk_cell BK469.out 0).trans rfl, (blk_cell BK469.out 1).trans rfl, (blk_cell BK462.out 0).trans rfl, (blk_cell BK462.out 1).trans rfl, (blk_cell BK462.out 2).trans rfl, (blk_cell BK462.out 3).trans rfl, (blk_cell BK462.out 4).trans rfl, HS7_, HS8_, HS9_, HS10_, HS11_, HS12_, HS13_, HS14_, HS15_, HS16_, HS17_, HS18_, HS19_, HS20_, HS21_⟩ (fun hHeld => ?_)
                   clear hK K
                   refine norm_ (a' := ?_) ?_ ?_
                   rotate_left
                   ·show Act.put _ (some 87) _ = _
                    simp only [Act.put, List.setIfInBounds_toArray, List.set_cons_zero, List.set_cons_succ, i64_w, i32_w]
                    rfl
                   refine pB_ HT_ 15 88 #[t_,t_,t_,t_,t_,t_,t_,t_,t_,t_,t_,t_,t_,t_,t_,t_,f_,f_,f_,f_,f_,f_,f_,f_,f_,f_,f_,f_,f_,f_,f_,f_,f_] ?_
                   refine pB_ HT_ 16 89 #[t_,t_,t_,t_,t_,t_,t_,t_,t_,t_,t_,t_,t_,t_,t_,t_,t_,f_,f_,f_,f_,f_,f_,f_,f_,f_,f_,f_,f_,f_,f_,f_,f_] ?_
                   refine pB_ HT_ 17 90 #[t_,t_,t_,t_,t_,t_,t_,t_,t_,t_,t_,t_,t_,t_,t_,t_,t_,t_,f_,f_,f_,f_,f_,f_,f_,f_,f_,f_,f_,f_,f_,f_,f_] ?_
                   refine pB_ HT_ 18 91 #[t_,t_,t_,t_,t_,t_,t_,t_,t_,t_,t_,t_,t_,t_,t_,t_,t_,t_,t_,f_,f_,f_,f_,f_,f_,f_,f_,f_,f_,f_,f_,f_,f_] ?_
                   refine pB_ HT_ 19 92 #[t_,t_,t_,t_,t_,t_,t_,t_,t_,t_,t_,t_,t_,t_,t_,t_,t_,t_,t_,t_,f_,f_,f_,f_,f_,f_,f_,f_,f_,f_,f_,f_,f_] ?_
                   refine pB_ HT_ 20 93 #[t_,t_,t_,t_,t_,t_,t_,t_,t_,t_,t_,t_,t_,t_,t_,t_,t_,t_,t_,t_,t_,f_,f_,f_,f_,f_,f_,f_,f_,f_,f_,f_,f_] ?_
                   refine take_ (i := 21) (N := some 94) (v := ?_) (a' := ?_) #[t_,t_,t_,t_,t_,t_,t_,t_,t_,t_,t_,t_,t_,t_,t_,t_,t_,t_,t_,t_,t_,t_,f_,f_,f_,f_,f_,f_,f_,f_,f_,f_,f_] rfl rfl (take_ofW HT_.out HW_.out (by kernel_rfl)) (fun _ _ _ h => h) (Or.inl ⟨by rfl, ?_⟩) hHeld ?_ ?_
                   rotate_left
                   ·rintro w' ⟨s0, s1, s2, s3, s4, s5, s6, s7, s8, s9, s10, s11, s12, s13, s14, s15, s16, s17, s18, s19, s20, s21⟩
                    go_simp
                    with_reducible rfl
                   rotate_left
                   ·simp only [Act.put, List.setIfInBounds_toArray, List.set_cons_zero, List.set_cons_succ, i64_w, i32_w]
                    rfl
                   refine pB_ HT_ 22 95 #[t_,t_,t_,t_,t_,t_,t_,t_,t_,t_,t_,t_,t_,t_,t_,t_,t_,t_,t_,t_,t_,t_,t_,f_,f_,f_,f_,f_,f_,f_,f_,f_,f_] ?_
                   refine pB_ HT_ 23 96 #[t_,t_,t_,t_,t_,t_,t_,t_,t_,t_,t_,t_,t_,t_,t_,t_,t_,t_,t_,t_,t_,t_,t_,t_,f_,f_,f_,f_,f_,f_,f_,f_,f_] ?_
                   refine pB_ HT_ 24 97 #[t_,t_,t_,t_,t_,t_,t_,t_,t_,t_,t_,t_,t_,t_,t_,t_,t_,t_,t_,t_,t_,t_,t_,t_,t_,f_,f_,f_,f_,f_,f_,f_,f_] ?_
                   refine pB_ HT_ 25 98 #[t_,t_,t_,t_,t_,t_,t_,t_,t_,t_,t_,t_,t_,t_,t_,t_,t_,t_,t_,t_,t_,t_,t_,t_,t_,t_,f_,f_,f_,f_,f_,f_,f_] ?_
                   refine pB_ HT_ 26 99 #[t_,t_,t_,t_,t_,t_,t_,t_,t_,t_,t_,t_,t_,t_,t_,t_,t_,t_,t_,t_,t_,t_,t_,t_,t_,t_,t_,f_,f_,f_,f_,f_,f_] ?_
                   refine pB_ HT_ 27 100 #[t_,t_,t_,t_,t_,t_,t_,t_,t_,t_,t_,t_,t_,t_,t_,t_,t_,t_,t_,t_,t_,t_,t_,t_,t_,t_,t_,t_,f_,f_,f_,f_,f_] ?_
                   refine pB_ HT_ 29 102 #[t_,t_,t_,t_,t_,t_,t_,t_,t_,t_,t_,t_,t_,t_,t_,t_,t_,t_,t_,t_,t_,t_,t_,t_,t_,t_,t_,t_,f_,t_,f_,f_,f_] ?_
                   refine pB_ HT_ 30 103 #[t_,t_,t_,t_,t_,t_,t_,t_,t_,t_,t_,t_,t_,t_,t_,t_,t_,t_,t_,t_,t_,t_,t_,t_,t_,t_,t_,t_,f_,t_,t_,f_,f_] ?_
                   refine take_ (i := 28) (N := some 101) (v := ?_) (a' := ?_) #[t_,t_,t_,t_,t_,t_,t_,t_,t_,t_,t_,t_,t_,t_,t_,t_,t_,t_,t_,t_,t_,t_,t_,t_,t_,t_,t_,t_,t_,t_,t_,f_,f_] rfl rfl (take_ofW HT_.out HW_.out (by kernel_rfl)) (fun _ _ _ h => h) (Or.inl ⟨by rfl, ?_⟩) hHeld ?_ ?_
                   rotate_left
                   ·rintro w' ⟨s0, s1, s2, s3, s4, s5, s6, s7, s8, s9, s10, s11, s12, s13, s14, s15, s16, s17, s18, s19, s20, s21⟩
                    go_simp
                    with_reducible rfl
                   rotate_left
                   ·simp only [Act.put, List.setIfInBounds_toArray, List.set_cons_zero, List.set_cons_succ, i64_w, i32_w]
                    rfl
                   refine pB_ HT_ 31 104 #[t_,t_,t_,t_,t_,t_,t_,t_,t_,t_,t_,t_,t_,t_,t_,t_,t_,t_,t_,t_,t_,t_,t_,t_,t_,t_,t_,t_,t_,t_,t_,t_,f_] ?_
                   refine pB_ HT_ 32 105 #[t_,t_,t_,t_,t_,t_,t_,t_,t_,t_,t_,t_,t_,t_,t_,t_,t_,t_,t_,t_,t_,t_,t_,t_,t_,t_,t_,t_,t_,t_,t_,t_,t_] ?_
                   refine done_ (done_of HT_.out (by kernel_rfl)) ?_
                   try go_wp2
                   go_ret
                   exact ⟨by first | rfl | (simp [errW_none, errW_some] <;> rfl) | (simp [*, errW_none, errW_some] <;> rfl), by repeat (first | (with_reducible first | exact HB.out | apply below_alloc | apply pw_below_drewN | apply below_drew1 | refine below_set ?_ GE458.out | refine below_set ?_ GE462.out | refine below_set ?_ GE469.out) | exact HB.out)⟩
                 ·rw [if_neg c56] at H
                  have c56b0 : (((rd_T33 t464 0).f3) == 0) = false := beq_eq_false_iff_ne.mpr c56
                  have c56b1 : (((rd_T33 t464 0).f3) != 0) = true := bne_iff_ne.mpr c56
                  obtain rfl := Option.some.inj H
                  have hnb83 := NB462_458.out
                  have hnc83 := NB458_462.out
                  have hcz84_0 : wc.cell? ⟨gb462, 0, none⟩ = some (.int .i64 ((rd_T33 t453 x6_1).f0)) := (blk_cell BK462.out 0).trans rfl
                  have hcz84_1 : wc.cell? ⟨gb462, 1, none⟩ = some (.string ((rd_T33 t453 x6_1).f1)) := (blk_cell BK462.out 1).trans rfl
                  have hcz84_2 : wc.cell? ⟨gb462, 2, none⟩ = some (.int .i64 ((rd_T33 t453 x6_1).f2)) := (blk_cell BK462.out 2).trans rfl
                  have hcz84_3 : wc.cell? ⟨gb462, 3, none⟩ = some (.int .i64 ((rd_T33 t453 x6_1).f3)) := (blk_cell BK462.out 3).trans rfl
                  have hcz84_4 : wc.cell? ⟨gb462, 4, none⟩ = some (.int .i64 ((rd_T33 t453 x6_1).f4)) := (blk_cell BK462.out 4).trans rfl
                  have hfz84_0 := blk_frozen BK462.out 0
                  have hfz84_1 := blk_frozen BK462.out 1
                  have hfz84_2 := blk_frozen BK462.out 2
                  have hfz84_3 := blk_frozen BK462.out 3
                  have hfz84_4 := blk_frozen BK462.out 4
                  try go_wp2_with (first | ((with_reducible refine gate_callee (f := 14) rfl ?_); refine goesL_ (some 70) rfl rfl Tryd.func14 (by kernel_rfl) rfl #[.string (a0.extract (((rd_T33 t453 x6_1).f3) : Int).toNat (((rd_T33 t453 x6_1).f4) : Int).toNat), .int .i64 ((a0.extract (((rd_T33 t453 x6_1).f3) : Int).toNat (((rd_T33 t453 x6_1).f4) : Int).toNat).size : Int)] rfl (by (try simp only [List.map_toArray, List.map_cons, List.map_nil]); first | done | rfl | (simp only [List.length_drop, List.length_take]; rfl) | (simp only [beq_nil_, bne_nil_]; rfl) | (simp only [ByteArray.size_extract, Nat.min_self]; rfl) | (refine (congrArg (fun z => #[_, Value.int .i64 z]) (?_ : _ = _)); rw [ByteArray.size_extract]; have h1_ := of_decide_eq_true c34b1; have h2_ := of_decide_eq_true c35b1; have h3_ := of_decide_eq_true c36b1; omega)) ?_; (with_reducible refine (tokens_Cut.calls kj12 (a0.extract (((rd_T33 t453 x6_1).f3) : Int).toNat (((rd_T33 t453 x6_1).f4) : Int).toNat) ((a0.extract (((rd_T33 t453 x6_1).f3) : Int).toNat (((rd_T33 t453 x6_1).f4) : Int).toNat).size : Int) t464 t467 t468 _ ?side1 A37.out).mono ?_); (case side1 => exact Gl.below HG.out (by repeat (first | (with_reducible first | exact HB.out | apply below_alloc | apply pw_below_drewN | apply below_drew1 | refine below_set ?_ GE458.out | refine below_set ?_ GE462.out) | exact HB.out))); rintro e w85 ⟨v465, rfl, ho0, hb⟩; refine ⟨_, rfl, ?_⟩; have n0_ := Aside0.mk (Kd.R_elder' (by (with_reducible repeat (first | apply Kd.R_alloc | apply Kd.R_drewN | apply Kd.R_drew)); exact HO_3.out) (Kd.R_base ho0) hb); have n1_ := Aside0.mk (Kd.R_lower (Kd.R_newB (Kd.R_new' ho0 (Kd.R_lt (by (with_reducible repeat (first | apply Kd.R_alloc | apply Kd.R_drewN | apply Kd.R_drew)); exact HO_3.out))) (g := gb462) (o := .cells #[.int .i64 ((rd_T33 t453 x6_1).f0), .string ((rd_T33 t453 x6_1).f1), .int .i64 ((rd_T33 t453 x6_1).f2), .int .i64 ((rd_T33 t453 x6_1).f3), .int .i64 ((rd_T33 t453 x6_1).f4)] 33 (0, 0)) (by (with_reducible repeat (first | refine blk_drewN ?_ _ | refine blk_drew ?_ | refine blk_alloc ?_ _)); exact BK462.out)) (below_size (by repeat (first | (with_reducible first | exact HB.out | apply below_alloc | apply pw_below_drewN | apply below_drew1 | refine below_set ?_ GE458.out | refine below_set ?_ GE462.out) | exact HB.out)))); have n2_ := Aside0.mk (blk_below (g := gb458) (o := .cells #[.int .i64 t456, .int .i64 t457] 26 (0, 0)) (by (with_reducible repeat (first | refine blk_drewN ?_ _ | refine blk_drew ?_ | refine blk_alloc ?_ _)); exact BK458.out) hb); have n3_ := Aside0.mk (blk_below (g := gb462) (o := .cells #[.int .i64 ((rd_T33 t453 x6_1).f0), .string ((rd_T33 t453 x6_1).f1), .int .i64 ((rd_T33 t453 x6_1).f2), .int .i64 ((rd_T33 t453 x6_1).f3), .int .i64 ((rd_T33 t453 x6_1).f4)] 33 (0, 0)) (by (with_reducible repeat (first | refine blk_drewN ?_ _ | refine blk_drew ?_ | refine blk_alloc ?_ _)); exact BK462.out) hb); have n4_ := Aside0.mk (below_step (by repeat (first | (with_reducible first | exact HB.out | apply below_alloc | apply pw_below_drewN | apply below_drew1 | refine below_set ?_ GE458.out | refine below_set ?_ GE462.out) | exact HB.out)) hb); clear HO_3; clear BK458; clear BK462; clear HB; have HO_3 := n0_; have HO466 := n1_; have BK458 := n2_; have BK462 := n3_; have HB := n4_; clear n0_ n1_ n2_ n3_ n4_; (try clear hb); (try clear hb2); (try clear hk); (try clear hi); (try clear ho0)) | ((with_reducible refine gate_dst (N := 10) rfl ?_); (try (refine gate_guard (by rfl) ?_; dsimp only)); refine box_event ?hg (N := 10) ?hd (cs := #[.int .i64 0, .int .i64 0]) (t := 26) ?hr ?_; (case hd => rfl); (case hg => rfl); (case hr => first | (go_simp; done) | (go_simp; rfl)); intro gb469 hg w86 hbox hb; have n0_ := Aside0.mk (Kd.R_below (by (with_reducible repeat (first | apply Kd.R_alloc | apply Kd.R_drewN | apply Kd.R_drew)); exact HO_3.out) hb); have n1_ := Aside0.mk (Kd.R_below (by (with_reducible repeat (first | apply Kd.R_alloc | apply Kd.R_drewN | apply Kd.R_drew)); exact HO466.out) hb); have n2_ := Aside0.mk (blk_below (g := gb458) (o := .cells #[.int .i64 t456, .int .i64 t457] 26 (0, 0)) (by (with_reducible repeat (first | refine blk_drewN ?_ _ | refine blk_drew ?_ | refine blk_alloc ?_ _)); exact BK458.out) hb); have n3_ := Aside0.mk (blk_below (g := gb462) (o := .cells #[.int .i64 ((rd_T33 t453 x6_1).f0), .string ((rd_T33 t453 x6_1).f1), .int .i64 ((rd_T33 t453 x6_1).f2), .int .i64 ((rd_T33 t453 x6_1).f3), .int .i64 ((rd_T33 t453 x6_1).f4)] 33 (0, 0)) (by (with_reducible repeat (first | refine blk_drewN ?_ _ | refine blk_drew ?_ | refine blk_alloc ?_ _)); exact BK462.out) hb); have n4_ := Aside0.mk (below_step (by repeat (first | (with_reducible first | exact HB.out | apply below_alloc | apply pw_below_drewN | apply below_drew1 | refine below_set ?_ GE458.out | refine below_set ?_ GE462.out) | exact HB.out)) hb); have n5_ := Aside0.mk (hbox); have n6_ := Aside0.mk ((by rw [hg]; exact (below_size (by repeat (first | (with_reducible first | exact HB.out | apply below_alloc | apply pw_below_drewN | apply below_drew1 | refine below_set ?_ GE458.out | refine below_set ?_ GE462.out) | exact HB.out))) : w.heap.size ≤ gb469)); have n7_ := Aside0.mk ((by rw [hg]; exact (below_size (by repeat (first | (with_reducible first | exact HB.out | apply below_alloc | apply pw_below_drewN | apply below_drew1 | refine below_set ?_ GE458.out | refine below_set ?_ GE462.out) | exact HB.out))) : w.heap.size ≤ gb469)); have n8_ := Aside0.mk ((by rw [hg]; exact Nat.ne_of_lt (blk_lt (g := gb458) (o := .cells #[.int .i64 t456, .int .i64 t457] 26 (0, 0)) (by (with_reducible repeat (first | refine blk_drewN ?_ _ | refine blk_drew ?_ | refine blk_alloc ?_ _)); exact BK458.out)) : gb458 ≠ gb469)); have n9_ := Aside0.mk ((by rw [hg]; exact Nat.ne_of_gt (blk_lt (g := gb458) (o := .cells #[.int .i64 t456, .int .i64 t457] 26 (0, 0)) (by (with_reducible repeat (first | refine blk_drewN ?_ _ | refine blk_drew ?_ | refine blk_alloc ?_ _)); exact BK458.out)) : gb469 ≠ gb458)); have n10_ := Aside0.mk ((by rw [hg]; exact Nat.ne_of_lt (blk_lt (g := gb462) (o := .cells #[.int .i64 ((rd_T33 t453 x6_1).f0), .string ((rd_T33 t453 x6_1).f1), .int .i64 ((rd_T33 t453 x6_1).f2), .int .i64 ((rd_T33 t453 x6_1).f3), .int .i64 ((rd_T33 t453 x6_1).f4)] 33 (0, 0)) (by (with_reducible repeat (first | refine blk_drewN ?_ _ | refine blk_drew ?_ | refine blk_alloc ?_ _)); exact BK462.out)) : gb462 ≠ gb469)); have n11_ := Aside0.mk ((by rw [hg]; exact Nat.ne_of_gt (blk_lt (g := gb462) (o := .cells #[.int .i64 ((rd_T33 t453 x6_1).f0), .string ((rd_T33 t453 x6_1).f1), .int .i64 ((rd_T33 t453 x6_1).f2), .int .i64 ((rd_T33 t453 x6_1).f3), .int .i64 ((rd_T33 t453 x6_1).f4)] 33 (0, 0)) (by (with_reducible repeat (first | refine blk_drewN ?_ _ | refine blk_drew ?_ | refine blk_alloc ?_ _)); exact BK462.out)) : gb469 ≠ gb462)); clear HO_3; clear HO466; clear BK458; clear BK462; clear HB; have HO_3 := n0_; have HO466 := n1_; have BK458 := n2_; have BK462 := n3_; have HB := n4_; have BK469 := n5_; have GW469 := n6_; have GE469 := n7_; have NB458_469 := n8_; have NB469_458 := n9_; have NB462_469 := n10_; have NB469_462 := n11_; clear n0_ n1_ n2_ n3_ n4_ n5_ n6_ n7_ n8_ n9_ n10_ n11_; clear hb hbox hg; have hnb87 := NB469_458.out; have hnc87 := NB458_469.out; have hnb88 := NB469_462.out; have hnc88 := NB462_469.out; have hcz89_0 : w86.cell? ⟨gb469, 0, none⟩ = some (.int .i64 0) := (blk_cell BK469.out 0).trans rfl; have hcz89_1 : w86.cell? ⟨gb469, 1, none⟩ = some (.int .i64 0) := (blk_cell BK469.out 1).trans rfl; have hfz89_0 := blk_frozen BK469.out 0; have hfz89_1 := blk_frozen BK469.out 1))
                  have n0_ : Aside0 (Kd.R k33 33 ((w86.setCell ⟨gb469, 0, none⟩ (.int .i64 t467)).setCell ⟨gb469, 1, none⟩ (.int .i64 t468)) w.heap.size (fun k_ => some k_ ≠ (v465 : Value).ownBlock ∧ k_ ≠ gb462) (.slice (some ad461) t453.length co14) t453) := ⟨by (with_reducible repeat (first | apply Kd.R_alloc | apply Kd.R_drewN | apply Kd.R_drew)); exact Kd.R_mono (Kd.R_far (p := ⟨gb469, 1, none⟩) (Kd.R_far (p := ⟨gb469, 0, none⟩) (Kd.R_types HO_3.out BK469.out (by decide)) (fun _ hk => hk.2) (.int .i64 t467)) (fun _ hk => hk.2) (.int .i64 t468)) (fun _ hk => ⟨hk.1.2, hk.1.1⟩)⟩
                  have n1_ : Aside0 (Kd.R k33 33 ((w86.setCell ⟨gb469, 0, none⟩ (.int .i64 t467)).setCell ⟨gb469, 1, none⟩ (.int .i64 t468)) w.heap.size (fun k_ => some k_ ≠ (.slice (some ad461) t453.length co14 : Value).ownBlock ∧ k_ ≠ gb462) v465 t464) := ⟨by (with_reducible repeat (first | apply Kd.R_alloc | apply Kd.R_drewN | apply Kd.R_drew)); exact Kd.R_mono (Kd.R_far (p := ⟨gb469, 1, none⟩) (Kd.R_far (p := ⟨gb469, 0, none⟩) (Kd.R_types HO466.out BK469.out (by decide)) (fun _ hk => hk.2) (.int .i64 t467)) (fun _ hk => hk.2) (.int .i64 t468)) (fun _ hk => ⟨hk.1.1.2, hk.1.2⟩)⟩
                  have n2_ : Aside0 (((w86.setCell ⟨gb469, 0, none⟩ (.int .i64 t467)).setCell ⟨gb469, 1, none⟩ (.int .i64 t468)).heap[gb458]? = some (.cells #[.int .i64 t456, .int .i64 t457] 26 (0, 0))) := ⟨by (with_reducible repeat (first | refine blk_drewN ?_ _ | refine blk_drew ?_ | refine blk_alloc ?_ _)); refine blk_far ?_ NB458_469.out _; (with_reducible repeat (first | refine blk_drewN ?_ _ | refine blk_drew ?_ | refine blk_alloc ?_ _)); refine blk_far ?_ NB458_469.out _; (with_reducible repeat (first | refine blk_drewN ?_ _ | refine blk_drew ?_ | refine blk_alloc ?_ _)); exact BK458.out⟩
                  have n3_ : Aside0 (((w86.setCell ⟨gb469, 0, none⟩ (.int .i64 t467)).setCell ⟨gb469, 1, none⟩ (.int .i64 t468)).heap[gb462]? = some (.cells #[.int .i64 ((rd_T33 t453 x6_1).f0), .string ((rd_T33 t453 x6_1).f1), .int .i64 ((rd_T33 t453 x6_1).f2), .int .i64 ((rd_T33 t453 x6_1).f3), .int .i64 ((rd_T33 t453 x6_1).f4)] 33 (0, 0))) := ⟨by (with_reducible repeat (first | refine blk_drewN ?_ _ | refine blk_drew ?_ | refine blk_alloc ?_ _)); refine blk_far ?_ NB462_469.out _; (with_reducible repeat (first | refine blk_drewN ?_ _ | refine blk_drew ?_ | refine blk_alloc ?_ _)); refine blk_far ?_ NB462_469.out _; (with_reducible repeat (first | refine blk_drewN ?_ _ | refine blk_drew ?_ | refine blk_alloc ?_ _)); exact BK462.out⟩
                  have n4_ : Aside0 (((w86.setCell ⟨gb469, 0, none⟩ (.int .i64 t467)).setCell ⟨gb469, 1, none⟩ (.int .i64 t468)).heap[gb469]? = some (.cells #[.int .i64 t467, .int .i64 t468] 26 (0, 0))) := ⟨by (with_reducible repeat (first | refine blk_drewN ?_ _ | refine blk_drew ?_ | refine blk_alloc ?_ _)); refine blk_put (cs := #[.int .i64 t467, .int .i64 0]) ?_ 1 _ rfl; (with_reducible repeat (first | refine blk_drewN ?_ _ | refine blk_drew ?_ | refine blk_alloc ?_ _)); refine blk_put (cs := #[.int .i64 0, .int .i64 0]) ?_ 0 _ rfl; (with_reducible repeat (first | refine blk_drewN ?_ _ | refine blk_drew ?_ | refine blk_alloc ?_ _)); exact BK469.out⟩
                  have n5_ : Aside0 (Below w.heap.size w ((w86.setCell ⟨gb469, 0, none⟩ (.int .i64 t467)).setCell ⟨gb469, 1, none⟩ (.int .i64 t468))) := ⟨by repeat (first | (with_reducible first | exact HB.out | apply below_alloc | apply pw_below_drewN | apply below_drew1 | refine below_set ?_ GE458.out | refine below_set ?_ GE462.out | refine below_set ?_ GE469.out) | exact HB.out)⟩
                  (try clear HO_3)
                  (try clear HO466)
                  (try clear BK458)
                  (try clear BK462)
                  (try clear BK469)
                  (try clear HB)
                  generalize ((w86.setCell ⟨gb469, 0, none⟩ (.int .i64 t467)).setCell ⟨gb469, 1, none⟩ (.int .i64 t468)) = w90 at n0_ n1_ n2_ n3_ n4_ n5_ ⊢
                  have HO_3 := n0_
                  have HO466 := n1_
                  have BK458 := n2_
                  have BK462 := n3_
                  have BK469 := n4_
                  have HB := n5_
                  clear n0_ n1_ n2_ n3_ n4_ n5_
                  have n0_ := Aside0.mk (Kd.R_drew HO_3.out)
                  have n1_ := Aside0.mk (Kd.R_drew HO466.out)
                  have n2_ := Aside0.mk (blk_drew BK458.out)
                  have n3_ := Aside0.mk (blk_drew BK462.out)
                  have n4_ := Aside0.mk (blk_drew BK469.out)
                  have n5_ := Aside0.mk (below_drew1 HB.out)
                  clear HO_3
                  clear HO466
                  clear BK458
                  clear BK462
                  clear BK469
                  clear HB
                  have HO_3 := n0_
                  have HO466 := n1_
                  have BK458 := n2_
                  have BK462 := n3_
                  have BK469 := n4_
                  have HB := n5_
                  clear n0_ n1_ n2_ n3_ n4_ n5_
                  obtain ⟨Ao92, co92, eo92⟩ := Kd.R_slice HO466.out
                  (first | subst eo92 | (injection eo92 with f1_ f2_ f3_; have f4_ := f1_.symm; have f5_ := f3_.symm; clear f1_ f2_ f3_; subst f4_; subst f5_))
                  have p470 : 0 ≤ (0 : Int) := (by omega)
                  have q470 : 0 < (t464.length : Int) := of_decide_eq_true (by first | (with_reducible assumption) | assumption)
                  obtain ⟨ad470, e470, hx470_0, hx470_1, hx470_2, hx470_3, hx470_4⟩ := at_T33 (Kd.R_reads' HO466.out).2.2 0 p470 q470
                  cases e470
                  have qi470 : (0 < t464.length) = True := eq_true (by omega)
                  (try simp only [show ((0 : Int)).toNat = 0 from rfl, show 0 * 5 = 0 from rfl, Addr.add_zero'] at hx470_0 hx470_1 hx470_2 hx470_3 hx470_4)
                  replace p470 := eq_true p470
                  replace q470 := eq_true q470
                  have p481 : 0 ≤ (0 : Int) := (by omega)
                  have q481 : 0 < (t464.length : Int) := of_decide_eq_true (by first | (with_reducible assumption) | assumption)
                  obtain ⟨ad481, e481, hx481_0, hx481_1, hx481_2, hx481_3, hx481_4⟩ := at_T33 (Kd.R_reads' HO466.out).2.2 0 p481 q481
                  obtain rfl : ad470 = ad481 := (by injection e481)
                  have qi481 : (0 < t464.length) = True := eq_true (by omega)
                  (try simp only [show ((0 : Int)).toNat = 0 from rfl, show 0 * 5 = 0 from rfl, Addr.add_zero'] at hx481_0 hx481_1 hx481_2 hx481_3 hx481_4)
                  replace p481 := eq_true p481
                  replace q481 := eq_true q481
                  refine start_ (n := 33) (S := fun w' => w'.cell? ⟨gb469, 0, none⟩ = some (.int .i64 t467) ∧ w'.cell? ⟨gb469, 1, none⟩ = some (.int .i64 t468) ∧ w'.cell? ⟨gb462, 0, none⟩ = some (.int .i64 ((rd_T33 t453 x6_1).f0)) ∧ w'.cell? ⟨gb462, 1, none⟩ = some (.string ((rd_T33 t453 x6_1).f1)) ∧ w'.cell? ⟨gb462, 2, none⟩ = some (.int .i64 ((rd_T33 t453 x6_1).f2)) ∧ w'.cell? ⟨gb462, 3, none⟩ = some (.int .i64 ((rd_T33 t453 x6_1).f3)) ∧ w'.cell? ⟨gb462, 4, none⟩ = some (.int .i64 ((rd_T33 t453 x6_1).f4)) ∧ w'.cell? ad470 = some (.int .i64 ((rd_T33 t464 0).f0)) ∧ w'.cell? ⟨ad470.block, ad470.off + 1, none⟩ = some (.string ((rd_T33 t464 0).f1)) ∧ w'.cell? ⟨ad470.block, ad470.off + 2, none⟩ = some (.int .i64 ((rd_T33 t464 0).f2)) ∧ w'.cell? ⟨ad470.block, ad470.off + 3, none⟩ = some (.int .i64 ((rd_T33 t464 0).f3)) ∧ w'.cell? ⟨ad470.block, ad470.off + 4, none⟩ = some (.int .i64 ((rd_T33 t464 0).f4)) ∧ w'.cell? ad470 = some (.int .i64 ((rd_T33 t464 0).f0)) ∧ w'.cell? ⟨ad470.block, ad470.off + 1, none⟩ = some (.string ((rd_T33 t464 0).f1)) ∧ w'.cell? ⟨ad470.block, ad470.off + 2, none⟩ = some (.int .i64 ((rd_T33 t464 0).f2)) ∧ w'.cell? ⟨ad470.block, ad470.off + 3, none⟩ = some (.int .i64 ((rd_T33 t464 0).f3)) ∧ w'.cell? ⟨ad470.block, ad470.off + 4, none⟩ = some (.int .i64 ((rd_T33 t464 0).f4))) (ds := []) #[f_,f_,f_,f_,f_,f_,f_,f_,f_,f_,f_,f_,f_,f_,f_,f_,f_,f_,f_,f_,f_,f_,f_,f_,f_,f_,f_,f_,f_,f_,f_,f_,f_] (by kernel_rfl) rfl rfl ⟨(blk_cell BK469.out 0).trans rfl, (blk_cell BK469.out 1).trans rfl, (blk_cell BK462.out 0).trans rfl, (blk_cell BK462.out 1).trans rfl, (blk_cell BK462.out 2).trans rfl, (blk_cell BK462.out 3).trans rfl, (blk_cell BK462.out 4).trans rfl, hx470_0, hx470_1, hx470_2, hx470_3, hx470_4, hx481_0, hx481_1, hx481_2, hx481_3, hx481_4⟩ (fun hHeld => ?_); refine with_tabW hearsaylaw04_TokensPlaces.tab15 hearsaylaw04_TokensPlaces.bits15 (fun HT_ HW_ => ?_)
                  generalize w90.drew = w91 at HO_3 HO466 BK458 BK462 BK469 HB hx470_0 hx470_1 hx470_2 hx470_3 hx470_4 hx481_0 hx481_1 hx481_2 hx481_3 hx481_4 hHeld ⊢
                  refine pB_ HT_ 0 73 #[t_,f_,f_,f_,f_,f_,f_,f_,f_,f_,f_,f_,f_,f_,f_,f_,f_,f_,f_,f_,f_,f_,f_,f_,f_,f_,f_,f_,f_,f_,f_,f_,f_] ?_
                  refine take_ (i := 1) (N := some 74) (v := ?_) (a' := ?_) #[t_,t_,f_,f_,f_,f_,f_,f_,f_,f_,f_,f_,f_,f_,f_,f_,f_,f_,f_,f_,f_,f_,f_,f_,f_,f_,f_,f_,f_,f_,f_,f_,f_] rfl rfl (take_ofW HT_.out HW_.out (by kernel_rfl)) (fun _ _ _ h => h) (Or.inl ⟨by rfl, ?_⟩) hHeld ?_ ?_
                  rotate_left
                  ·rintro w' ⟨s0, s1, s2, s3, s4, s5, s6, s7, s8, s9, s10, s11, s12, s13, s14, s15, s16⟩
                   go_simp
                   with_reducible rfl
                  rotate_left
                  ·simp only [Act.put, List.setIfInBounds_toArray, List.set_cons_zero, List.set_cons_succ, i64_w, i32_w]
                   rfl
                  refine pB_ HT_ 2 75 #[t_,t_,t_,f_,f_,f_,f_,f_,f_,f_,f_,f_,f_,f_,f_,f_,f_,f_,f_,f_,f_,f_,f_,f_,f_,f_,f_,f_,f_,f_,f_,f_,f_] ?_
                  refine pB_ HT_ 3 76 #[t_,t_,t_,t_,f_,f_,f_,f_,f_,f_,f_,f_,f_,f_,f_,f_,f_,f_,f_,f_,f_,f_,f_,f_,f_,f_,f_,f_,f_,f_,f_,f_,f_] ?_
                  refine pB_ HT_ 4 77 #[t_,t_,t_,t_,t_,f_,f_,f_,f_,f_,f_,f_,f_,f_,f_,f_,f_,f_,f_,f_,f_,f_,f_,f_,f_,f_,f_,f_,f_,f_,f_,f_,f_] ?_
                  refine pB_ HT_ 5 78 #[t_,t_,t_,t_,t_,t_,f_,f_,f_,f_,f_,f_,f_,f_,f_,f_,f_,f_,f_,f_,f_,f_,f_,f_,f_,f_,f_,f_,f_,f_,f_,f_,f_] ?_
                  refine pB_ HT_ 6 79 #[t_,t_,t_,t_,t_,t_,t_,f_,f_,f_,f_,f_,f_,f_,f_,f_,f_,f_,f_,f_,f_,f_,f_,f_,f_,f_,f_,f_,f_,f_,f_,f_,f_] ?_
                  refine pB_ HT_ 7 80 #[t_,t_,t_,t_,t_,t_,t_,t_,f_,f_,f_,f_,f_,f_,f_,f_,f_,f_,f_,f_,f_,f_,f_,f_,f_,f_,f_,f_,f_,f_,f_,f_,f_] ?_
                  refine pB_ HT_ 8 81 #[t_,t_,t_,t_,t_,t_,t_,t_,t_,f_,f_,f_,f_,f_,f_,f_,f_,f_,f_,f_,f_,f_,f_,f_,f_,f_,f_,f_,f_,f_,f_,f_,f_] ?_
                  refine pB_ HT_ 9 82 #[t_,t_,t_,t_,t_,t_,t_,t_,t_,t_,f_,f_,f_,f_,f_,f_,f_,f_,f_,f_,f_,f_,f_,f_,f_,f_,f_,f_,f_,f_,f_,f_,f_] ?_
                  refine pB_ HT_ 10 83 #[t_,t_,t_,t_,t_,t_,t_,t_,t_,t_,t_,f_,f_,f_,f_,f_,f_,f_,f_,f_,f_,f_,f_,f_,f_,f_,f_,f_,f_,f_,f_,f_,f_] ?_
                  refine take_ (i := 11) (N := some 84) (v := ?_) (a' := ?_) #[t_,t_,t_,t_,t_,t_,t_,t_,t_,t_,t_,t_,f_,f_,f_,f_,f_,f_,f_,f_,f_,f_,f_,f_,f_,f_,f_,f_,f_,f_,f_,f_,f_] rfl rfl (take_ofW HT_.out HW_.out (by kernel_rfl)) (fun _ _ _ h => h) (Or.inl ⟨by rfl, ?_⟩) hHeld ?_ ?_
                  rotate_left
                  ·rintro w' ⟨s0, s1, s2, s3, s4, s5, s6, s7, s8, s9, s10, s11, s12, s13, s14, s15, s16⟩
                   go_simp
                   with_reducible rfl
                  rotate_left
                  ·simp only [Act.put, List.setIfInBounds_toArray, List.set_cons_zero, List.set_cons_succ, i64_w, i32_w]
                   rfl
                  refine take_ (i := 13) (N := some 86) (v := ?_) (a' := ?_) #[t_,t_,t_,t_,t_,t_,t_,t_,t_,t_,t_,t_,f_,t_,f_,f_,f_,f_,f_,f_,f_,f_,f_,f_,f_,f_,f_,f_,f_,f_,f_,f_,f_] rfl rfl (take_ofW HT_.out HW_.out (by kernel_rfl)) (fun _ _ _ h => h) (Or.inl ⟨by rfl, ?_⟩) hHeld ?_ ?_
                  rotate_left
                  ·rintro w' ⟨s0, s1, s2, s3, s4, s5, s6, s7, s8, s9, s10, s11, s12, s13, s14, s15, s16⟩
                   go_simp
                   with_reducible rfl
                  rotate_left
                  ·simp only [Act.put, List.setIfInBounds_toArray, List.set_cons_zero, List.set_cons_succ, i64_w, i32_w]
                   rfl
                  refine one_ (i := 12) (N := some 85) #[t_,t_,t_,t_,t_,t_,t_,t_,t_,t_,t_,t_,t_,t_,f_,f_,f_,f_,f_,f_,f_,f_,f_,f_,f_,f_,f_,f_,f_,f_,f_,f_,f_] rfl rfl (one_of HT_.out (by kernel_rfl)) (by decide) (fun K hK => ?_)
                  refine goes_ Tryd.func25 (by kernel_rfl) rfl #[.agg #[.int .i64 ((rd_T33 t464 0).f0), .string ((rd_T33 t464 0).f1), .int .i64 ((rd_T33 t464 0).f2), .int .i64 ((rd_T33 t464 0).f3), .int .i64 ((rd_T33 t464 0).f4)]] (by rfl) rfl rfl (by (try simp only [List.map_toArray, List.map_cons, List.map_nil]); first | done | rfl | (simp only [List.length_drop, List.length_take]; rfl) | (simp only [beq_nil_, bne_nil_]; rfl) | (simp only [ByteArray.size_extract, Nat.min_self]; rfl) | (refine (congrArg (fun z => #[_, Value.int .i64 z]) (?_ : _ = _)); rw [ByteArray.size_extract]; have h1_ := of_decide_eq_true c34b1; have h2_ := of_decide_eq_true c35b1; have h3_ := of_decide_eq_true c36b1; omega)) ?_
                  with_reducible refine (hearsaylaw04_bare.calls ((rd_T33 t464 0).f0) ((rd_T33 t464 0).f1) ((rd_T33 t464 0).f2) ((rd_T33 t464 0).f3) ((rd_T33 t464 0).f4) t471 t472 t473 t474 t475 _ A41.out).mono ?_
                  rintro e w93 ⟨rfl, hb⟩
                  have HS7_ := (hb.cell (World.block_lt_of_cell? _ _ (hHeld.2.2.2.2.2.2.2.1))).trans (hHeld.2.2.2.2.2.2.2.1)
                  have HS8_ := (hb.cell (World.block_lt_of_cell? _ _ (hHeld.2.2.2.2.2.2.2.2.1))).trans (hHeld.2.2.2.2.2.2.2.2.1)
                  have HS9_ := (hb.cell (World.block_lt_of_cell? _ _ (hHeld.2.2.2.2.2.2.2.2.2.1))).trans (hHeld.2.2.2.2.2.2.2.2.2.1)
                  have HS10_ := (hb.cell (World.block_lt_of_cell? _ _ (hHeld.2.2.2.2.2.2.2.2.2.2.1))).trans (hHeld.2.2.2.2.2.2.2.2.2.2.1)
                  have HS11_ := (hb.cell (World.block_lt_of_cell? _ _ (hHeld.2.2.2.2.2.2.2.2.2.2.2.1))).trans (hHeld.2.2.2.2.2.2.2.2.2.2.2.1)
                  have HS12_ := (hb.cell (World.block_lt_of_cell? _ _ (hHeld.2.2.2.2.2.2.2.2.2.2.2.2.1))).trans (hHeld.2.2.2.2.2.2.2.2.2.2.2.2.1)
                  have HS13_ := (hb.cell (World.block_lt_of_cell? _ _ (hHeld.2.2.2.2.2.2.2.2.2.2.2.2.2.1))).trans (hHeld.2.2.2.2.2.2.2.2.2.2.2.2.2.1)
                  have HS14_ := (hb.cell (World.block_lt_of_cell? _ _ (hHeld.2.2.2.2.2.2.2.2.2.2.2.2.2.2.1))).trans (hHeld.2.2.2.2.2.2.2.2.2.2.2.2.2.2.1)
                  have HS15_ := (hb.cell (World.block_lt_of_cell? _ _ (hHeld.2.2.2.2.2.2.2.2.2.2.2.2.2.2.2.1))).trans (hHeld.2.2.2.2.2.2.2.2.2.2.2.2.2.2.2.1)
                  have HS16_ := (hb.cell (World.block_lt_of_cell? _ _ (hHeld.2.2.2.2.2.2.2.2.2.2.2.2.2.2.2.2))).trans (hHeld.2.2.2.2.2.2.2.2.2.2.2.2.2.2.2.2)
                  refine ⟨_, rfl, ?_⟩
                  have n0_ := Aside0.mk (Kd.R_below (by (with_reducible repeat (first | apply Kd.R_alloc | apply Kd.R_drewN | apply Kd.R_drew)); exact HO_3.out) hb)
                  have n1_ := Aside0.mk (Kd.R_below (by (with_reducible repeat (first | apply Kd.R_alloc | apply Kd.R_drewN | apply Kd.R_drew)); exact HO466.out) hb)
                  have n2_ := Aside0.mk (blk_below (g := gb458) (o := .cells #[.int .i64 t456, .int .i64 t457] 26 (0, 0)) (by (with_reducible repeat (first | refine blk_drewN ?_ _ | refine blk_drew ?_ | refine blk_alloc ?_ _)); exact BK458.out) hb)
                  have n3_ := Aside0.mk (blk_below (g := gb462) (o := .cells #[.int .i64 ((rd_T33 t453 x6_1).f0), .string ((rd_T33 t453 x6_1).f1), .int .i64 ((rd_T33 t453 x6_1).f2), .int .i64 ((rd_T33 t453 x6_1).f3), .int .i64 ((rd_T33 t453 x6_1).f4)] 33 (0, 0)) (by (with_reducible repeat (first | refine blk_drewN ?_ _ | refine blk_drew ?_ | refine blk_alloc ?_ _)); exact BK462.out) hb)
                  have n4_ := Aside0.mk (blk_below (g := gb469) (o := .cells #[.int .i64 t467, .int .i64 t468] 26 (0, 0)) (by (with_reducible repeat (first | refine blk_drewN ?_ _ | refine blk_drew ?_ | refine blk_alloc ?_ _)); exact BK469.out) hb)
                  have n5_ := Aside0.mk (below_step (by repeat (first | (with_reducible first | exact HB.out | apply below_alloc | apply pw_below_drewN | apply below_drew1 | refine below_set ?_ GE458.out | refine below_set ?_ GE462.out | refine below_set ?_ GE469.out) | exact HB.out)) hb)
                  clear HO_3
                  clear HO466
                  clear BK458
                  clear BK462
                  clear BK469
                  clear HB
                  have HO_3 := n0_
                  have HO466 := n1_
                  have BK458 := n2_
                  have BK462 := n3_
                  have BK469 := n4_
                  have HB := n5_
                  clear n0_ n1_ n2_ n3_ n4_ n5_
                  (try clear hb)
                  (try clear hb2)
                  (try clear hk)
                  (try clear hi)
                  refine hK.out _ _ ⟨(blk_cell BK469.out 0).trans rfl, (blk_cell BK469.out 1).trans rfl, (blk_cell BK462.out 0).trans rfl, (blk_cell BK462.out 1).trans rfl, (blk_cell BK462.out 2).trans rfl, (blk_cell BK462.out 3).trans rfl, (blk_cell BK462.out 4).trans rfl, HS7_, HS8_, HS9_, HS10_, HS11_, HS12_, HS13_, HS14_, HS15_, HS16_⟩ (fun hHeld => ?_)
                  clear hK K
                  refine norm_ (a' := ?_) ?_ ?_
                  rotate_left
                  ·show Act.put _ (some 85) _ = _
                   simp only [Act.put, List.setIfInBounds_toArray, List.set_cons_zero, List.set_cons_succ, i64_w, i32_w]
                   rfl
                  refine one_ (i := 14) (N := some 87) #[t_,t_,t_,t_,t_,t_,t_,t_,t_,t_,t_,t_,t_,t_,t_,f_,f_,f_,f_,f_,f_,f_,f_,f_,f_,f_,f_,f_,f_,f_,f_,f_,f_] rfl rfl (one_of HT_.out (by kernel_rfl)) (by decide) (fun K hK => ?_)
                  refine goes_ Tryd.func25 (by kernel_rfl) rfl #[.agg #[.int .i64 ((rd_T33 t453 x6_1).f0), .string ((rd_T33 t453 x6_1).f1), .int .i64 ((rd_T33 t453 x6_1).f2), .int .i64 ((rd_T33 t453 x6_1).f3), .int .i64 ((rd_T33 t453 x6_1).f4)]] (by rfl) rfl rfl (by (try simp only [List.map_toArray, List.map_cons, List.map_nil]); first | done | rfl | (simp only [List.length_drop, List.length_take]; rfl) | (simp only [beq_nil_, bne_nil_]; rfl) | (simp only [ByteArray.size_extract, Nat.min_self]; rfl) | (refine (congrArg (fun z => #[_, Value.int .i64 z]) (?_ : _ = _)); rw [ByteArray.size_extract]; have h1_ := of_decide_eq_true c34b1; have h2_ := of_decide_eq_true c35b1; have h3_ := of_decide_eq_true c36b1; omega)) ?_
                  with_reducible refine (hearsaylaw04_bare.calls ((rd_T33 t453 x6_1).f0) ((rd_T33 t453 x6_1).f1) ((rd_T33 t453 x6_1).f2) ((rd_T33 t453 x6_1).f3) ((rd_T33 t453 x6_1).f4) t476 t477 t478 t479 t480 _ A42.out).mono ?_
                  rintro e w94 ⟨rfl, hb⟩
                  have HS7_ := (hb.cell (World.block_lt_of_cell? _ _ (hHeld.2.2.2.2.2.2.2.1))).trans (hHeld.2.2.2.2.2.2.2.1)
                  have HS8_ := (hb.cell (World.block_lt_of_cell? _ _ (hHeld.2.2.2.2.2.2.2.2.1))).trans (hHeld.2.2.2.2.2.2.2.2.1)
                  have HS9_ := (hb.cell (World.block_lt_of_cell? _ _ (hHeld.2.2.2.2.2.2.2.2.2.1))).trans (hHeld.2.2.2.2.2.2.2.2.2.1)
                  have HS10_ := (hb.cell (World.block_lt_of_cell? _ _ (hHeld.2.2.2.2.2.2.2.2.2.2.1))).trans (hHeld.2.2.2.2.2.2.2.2.2.2.1)
                  have HS11_ := (hb.cell (World.block_lt_of_cell? _ _ (hHeld.2.2.2.2.2.2.2.2.2.2.2.1))).trans (hHeld.2.2.2.2.2.2.2.2.2.2.2.1)
                  have HS12_ := (hb.cell (World.block_lt_of_cell? _ _ (hHeld.2.2.2.2.2.2.2.2.2.2.2.2.1))).trans (hHeld.2.2.2.2.2.2.2.2.2.2.2.2.1)
                  have HS13_ := (hb.cell (World.block_lt_of_cell? _ _ (hHeld.2.2.2.2.2.2.2.2.2.2.2.2.2.1))).trans (hHeld.2.2.2.2.2.2.2.2.2.2.2.2.2.1)
                  have HS14_ := (hb.cell (World.block_lt_of_cell? _ _ (hHeld.2.2.2.2.2.2.2.2.2.2.2.2.2.2.1))).trans (hHeld.2.2.2.2.2.2.2.2.2.2.2.2.2.2.1)
                  have HS15_ := (hb.cell (World.block_lt_of_cell? _ _ (hHeld.2.2.2.2.2.2.2.2.2.2.2.2.2.2.2.1))).trans (hHeld.2.2.2.2.2.2.2.2.2.2.2.2.2.2.2.1)
                  have HS16_ := (hb.cell (World.block_lt_of_cell? _ _ (hHeld.2.2.2.2.2.2.2.2.2.2.2.2.2.2.2.2))).trans (hHeld.2.2.2.2.2.2.2.2.2.2.2.2.2.2.2.2)
                  refine ⟨_, rfl, ?_⟩
                  have n0_ := Aside0.mk (Kd.R_below (by (with_reducible repeat (first | apply Kd.R_alloc | apply Kd.R_drewN | apply Kd.R_drew)); exact HO_3.out) hb)
                  have n1_ := Aside0.mk (Kd.R_below (by (with_reducible repeat (first | apply Kd.R_alloc | apply Kd.R_drewN | apply Kd.R_drew)); exact HO466.out) hb)
                  have n2_ := Aside0.mk (blk_below (g := gb458) (o := .cells #[.int .i64 t456, .int .i64 t457] 26 (0, 0)) (by (with_reducible repeat (first | refine blk_drewN ?_ _ | refine blk_drew ?_ | refine blk_alloc ?_ _)); exact BK458.out) hb)
                  have n3_ := Aside0.mk (blk_below (g := gb462) (o := .cells #[.int .i64 ((rd_T33 t453 x6_1).f0), .string ((rd_T33 t453 x6_1).f1), .int .i64 ((rd_T33 t453 x6_1).f2), .int .i64 ((rd_T33 t453 x6_1).f3), .int .i64 ((rd_T33 t453 x6_1).f4)] 33 (0, 0)) (by (with_reducible repeat (first | refine blk_drewN ?_ _ | refine blk_drew ?_ | refine blk_alloc ?_ _)); exact BK462.out) hb)
                  have n4_ := Aside0.mk (blk_below (g := gb469) (o := .cells #[.int .i64 t467, .int .i64 t468] 26 (0, 0)) (by (with_reducible repeat (first | refine blk_drewN ?_ _ | refine blk_drew ?_ | refine blk_alloc ?_ _)); exact BK469.out) hb)
                  have n5_ := Aside0.mk (below_step (by repeat (first | (with_reducible first | exact HB.out | apply below_alloc | apply pw_below_drewN | apply below_drew1 | refine below_set ?_ GE458.out | refine below_set ?_ GE462.out | refine below_set ?_ GE469.out) | exact HB.out)) hb)
                  clear HO_3
                  clear HO466
                  clear BK458
                  clear BK462
                  clear BK469
                  clear HB
                  have HO_3 := n0_
                  have HO466 := n1_
                  have BK458 := n2_
                  have BK462 := n3_
                  have BK469 := n4_
                  have HB := n5_
                  clear n0_ n1_ n2_ n3_ n4_ n5_
                  (try clear hb)
                  (try clear hb2)
                  (try clear hk)
                  (try clear hi)
                  refine hK.out _ _ ⟨(blk_cell BK469.out 0).trans rfl, (blk_cell BK469.out 1).trans rfl, (blk_cell BK462.out 0).trans rfl, (blk_cell BK462.out 1).trans rfl, (blk_cell BK462.out 2).trans rfl, (blk_cell BK462.out 3).trans rfl, (blk_cell BK462.out 4).trans rfl, HS7_, HS8_, HS9_, HS10_, HS11_, HS12_, HS13_, HS14_, HS15_, HS16_⟩ (fun hHeld => ?_)
                  clear hK K
                  refine norm_ (a' := ?_) ?_ ?_
                  rotate_left
                  ·show Act.put _ (some 87) _ = _
                   simp only [Act.put, List.setIfInBounds_toArray, List.set_cons_zero, List.set_cons_succ, i64_w, i32_w]
                   rfl
                  refine pB_ HT_ 15 88 #[t_,t_,t_,t_,t_,t_,t_,t_,t_,t_,t_,t_,t_,t_,t_,t_,f_,f_,f_,f_,f_,f_,f_,f_,f_,f_,f_,f_,f_,f_,f_,f_,f_] ?_
                  refine pB_ HT_ 16 89 #[t_,t_,t_,t_,t_,t_,t_,t_,t_,t_,t_,t_,t_,t_,t_,t_,t_,f_,f_,f_,f_,f_,f_,f_,f_,f_,f_,f_,f_,f_,f_,f_,f_] ?_
                  refine pB_ HT_ 17 90 #[t_,t_,t_,t_,t_,t_,t_,t_,t_,t_,t_,t_,t_,t_,t_,t_,t_,t_,f_,f_,f_,f_,f_,f_,f_,f_,f_,f_,f_,f_,f_,f_,f_] ?_
                  refine pB_ HT_ 18 91 #[t_,t_,t_,t_,t_,t_,t_,t_,t_,t_,t_,t_,t_,t_,t_,t_,t_,t_,t_,f_,f_,f_,f_,f_,f_,f_,f_,f_,f_,f_,f_,f_,f_] ?_
                  refine pB_ HT_ 19 92 #[t_,t_,t_,t_,t_,t_,t_,t_,t_,t_,t_,t_,t_,t_,t_,t_,t_,t_,t_,t_,f_,f_,f_,f_,f_,f_,f_,f_,f_,f_,f_,f_,f_] ?_
                  refine pB_ HT_ 20 93 #[t_,t_,t_,t_,t_,t_,t_,t_,t_,t_,t_,t_,t_,t_,t_,t_,t_,t_,t_,t_,t_,f_,f_,f_,f_,f_,f_,f_,f_,f_,f_,f_,f_] ?_
                  refine take_ (i := 21) (N := some 94) (v := ?_) (a' := ?_) #[t_,t_,t_,t_,t_,t_,t_,t_,t_,t_,t_,t_,t_,t_,t_,t_,t_,t_,t_,t_,t_,t_,f_,f_,f_,f_,f_,f_,f_,f_,f_,f_,f_] rfl rfl (take_ofW HT_.out HW_.out (by kernel_rfl)) (fun _ _ _ h => h) (Or.inl ⟨by rfl, ?_⟩) hHeld ?_ ?_
                  rotate_left
                  ·rintro w' ⟨s0, s1, s2, s3, s4, s5, s6, s7, s8, s9, s10, s11, s12, s13, s14, s15, s16⟩
                   go_simp
                   with_reducible rfl
                  rotate_left
                  ·simp only [Act.put, List.setIfInBounds_toArray, List.set_cons_zero, List.set_cons_succ, i64_w, i32_w]
                   rfl
                  refine pB_ HT_ 22 95 #[t_,t_,t_,t_,t_,t_,t_,t_,t_,t_,t_,t_,t_,t_,t_,t_,t_,t_,t_,t_,t_,t_,t_,f_,f_,f_,f_,f_,f_,f_,f_,f_,f_] ?_
                  refine pB_ HT_ 23 96 #[t_,t_,t_,t_,t_,t_,t_,t_,t_,t_,t_,t_,t_,t_,t_,t_,t_,t_,t_,t_,t_,t_,t_,t_,f_,f_,f_,f_,f_,f_,f_,f_,f_] ?_
                  refine pB_ HT_ 24 97 #[t_,t_,t_,t_,t_,t_,t_,t_,t_,t_,t_,t_,t_,t_,t_,t_,t_,t_,t_,t_,t_,t_,t_,t_,t_,f_,f_,f_,f_,f_,f_,f_,f_] ?_
                  refine pA_ HT_ 25 98 #[t_,t_,t_,t_,t_,t_,t_,t_,t_,t_,t_,t_,t_,t_,t_,t_,t_,t_,t_,t_,t_,t_,t_,t_,t_,t_,f_,f_,f_,f_,f_,f_,f_] ?_
                  refine pA_ HT_ 26 99 #[t_,t_,t_,t_,t_,t_,t_,t_,t_,t_,t_,t_,t_,t_,t_,t_,t_,t_,t_,t_,t_,t_,t_,t_,t_,t_,t_,f_,f_,f_,f_,f_,f_] ?_
                  refine pA_ HT_ 27 100 #[t_,t_,t_,t_,t_,t_,t_,t_,t_,t_,t_,t_,t_,t_,t_,t_,t_,t_,t_,t_,t_,t_,t_,t_,t_,t_,t_,t_,f_,f_,f_,f_,f_] ?_
                  refine pA_ HT_ 28 101 #[t_,t_,t_,t_,t_,t_,t_,t_,t_,t_,t_,t_,t_,t_,t_,t_,t_,t_,t_,t_,t_,t_,t_,t_,t_,t_,t_,t_,t_,f_,f_,f_,f_] ?_
                  refine pA_ HT_ 29 102 #[t_,t_,t_,t_,t_,t_,t_,t_,t_,t_,t_,t_,t_,t_,t_,t_,t_,t_,t_,t_,t_,t_,t_,t_,t_,t_,t_,t_,t_,t_,f_,f_,f_] ?_
                  refine pA_ HT_ 30 103 #[t_,t_,t_,t_,t_,t_,t_,t_,t_,t_,t_,t_,t_,t_,t_,t_,t_,t_,t_,t_,t_,t_,t_,t_,t_,t_,t_,t_,t_,t_,t_,f_,f_] ?_
                  refine pA_ HT_ 31 104 #[t_,t_,t_,t_,t_,t_,t_,t_,t_,t_,t_,t_,t_,t_,t_,t_,t_,t_,t_,t_,t_,t_,t_,t_,t_,t_,t_,t_,t_,t_,t_,t_,f_] ?_
                  refine pB_ HT_ 32 105 #[t_,t_,t_,t_,t_,t_,t_,t_,t_,t_,t_,t_,t_,t_,t_,t_,t_,t_,t_,t_,t_,t_,t_,t_,t_,t_,t_,t_,t_,t_,t_,t_,t_] ?_
                  refine done_ (done_of HT_.out (by kernel_rfl)) ?_
                  try go_wp2
                  go_ret
                  exact ⟨by first | rfl | (simp [errW_none, errW_some] <;> rfl) | (simp [*, errW_none, errW_some] <;> rfl), by repeat (first | (with_reducible first | exact HB.out | apply below_alloc | apply pw_below_drewN | apply below_drew1 | refine below_set ?_ GE458.out | refine below_set ?_ GE462.out | refine below_set ?_ GE469.out) | exact HB.out)⟩
               ·rw [if_neg c40] at H
                exact absurd H (by simp)
              ·rw [if_neg c39] at H
               have c39b0 : ((t464.length : Int) == 1) = false := beq_eq_false_iff_ne.mpr c39
               have c39b1 : ((t464.length : Int) != 1) = true := bne_iff_ne.mpr c39
               obtain rfl := Option.some.inj H
               have hnb95 := NB462_458.out
               have hnc95 := NB458_462.out
               have hcz96_0 : wc.cell? ⟨gb462, 0, none⟩ = some (.int .i64 ((rd_T33 t453 x6_1).f0)) := (blk_cell BK462.out 0).trans rfl
               have hcz96_1 : wc.cell? ⟨gb462, 1, none⟩ = some (.string ((rd_T33 t453 x6_1).f1)) := (blk_cell BK462.out 1).trans rfl
               have hcz96_2 : wc.cell? ⟨gb462, 2, none⟩ = some (.int .i64 ((rd_T33 t453 x6_1).f2)) := (blk_cell BK462.out 2).trans rfl
               have hcz96_3 : wc.cell? ⟨gb462, 3, none⟩ = some (.int .i64 ((rd_T33 t453 x6_1).f3)) := (blk_cell BK462.out 3).trans rfl
               have hcz96_4 : wc.cell? ⟨gb462, 4, none⟩ = some (.int .i64 ((rd_T33 t453 x6_1).f4)) := (blk_cell BK462.out 4).trans rfl
               have hfz96_0 := blk_frozen BK462.out 0
               have hfz96_1 := blk_frozen BK462.out 1
               have hfz96_2 := blk_frozen BK462.out 2
               have hfz96_3 := blk_frozen BK462.out 3
               have hfz96_4 := blk_frozen BK462.out 4
               try go_wp2_with (first | ((with_reducible refine gate_callee (f := 14) rfl ?_); refine goesL_ (some 70) rfl rfl Tryd.func14 (by kernel_rfl) rfl #[.string (a0.extract (((rd_T33 t453 x6_1).f3) : Int).toNat (((rd_T33 t453 x6_1).f4) : Int).toNat), .int .i64 ((a0.extract (((rd_T33 t453 x6_1).f3) : Int).toNat (((rd_T33 t453 x6_1).f4) : Int).toNat).size : Int)] rfl (by (try simp only [List.map_toArray, List.map_cons, List.map_nil]); first | done | rfl | (simp only [List.length_drop, List.length_take]; rfl) | (simp only [beq_nil_, bne_nil_]; rfl) | (simp only [ByteArray.size_extract, Nat.min_self]; rfl) | (refine (congrArg (fun z => #[_, Value.int .i64 z]) (?_ : _ = _)); rw [ByteArray.size_extract]; have h1_ := of_decide_eq_true c34b1; have h2_ := of_decide_eq_true c35b1; have h3_ := of_decide_eq_true c36b1; omega)) ?_; (with_reducible refine (tokens_Cut.calls kj12 (a0.extract (((rd_T33 t453 x6_1).f3) : Int).toNat (((rd_T33 t453 x6_1).f4) : Int).toNat) ((a0.extract (((rd_T33 t453 x6_1).f3) : Int).toNat (((rd_T33 t453 x6_1).f4) : Int).toNat).size : Int) t464 t467 t468 _ ?side1 A37.out).mono ?_); (case side1 => exact Gl.below HG.out (by repeat (first | (with_reducible first | exact HB.out | apply below_alloc | apply pw_below_drewN | apply below_drew1 | refine below_set ?_ GE458.out | refine below_set ?_ GE462.out) | exact HB.out))); rintro e w97 ⟨v465, rfl, ho0, hb⟩; refine ⟨_, rfl, ?_⟩; have n0_ := Aside0.mk (Kd.R_elder' (by (with_reducible repeat (first | apply Kd.R_alloc | apply Kd.R_drewN | apply Kd.R_drew)); exact HO_3.out) (Kd.R_base ho0) hb); have n1_ := Aside0.mk (Kd.R_lower (Kd.R_newB (Kd.R_new' ho0 (Kd.R_lt (by (with_reducible repeat (first | apply Kd.R_alloc | apply Kd.R_drewN | apply Kd.R_drew)); exact HO_3.out))) (g := gb462) (o := .cells #[.int .i64 ((rd_T33 t453 x6_1).f0), .string ((rd_T33 t453 x6_1).f1), .int .i64 ((rd_T33 t453 x6_1).f2), .int .i64 ((rd_T33 t453 x6_1).f3), .int .i64 ((rd_T33 t453 x6_1).f4)] 33 (0, 0)) (by (with_reducible repeat (first | refine blk_drewN ?_ _ | refine blk_drew ?_ | refine blk_alloc ?_ _)); exact BK462.out)) (below_size (by repeat (first | (with_reducible first | exact HB.out | apply below_alloc | apply pw_below_drewN | apply below_drew1 | refine below_set ?_ GE458.out | refine below_set ?_ GE462.out) | exact HB.out)))); have n2_ := Aside0.mk (blk_below (g := gb458) (o := .cells #[.int .i64 t456, .int .i64 t457] 26 (0, 0)) (by (with_reducible repeat (first | refine blk_drewN ?_ _ | refine blk_drew ?_ | refine blk_alloc ?_ _)); exact BK458.out) hb); have n3_ := Aside0.mk (blk_below (g := gb462) (o := .cells #[.int .i64 ((rd_T33 t453 x6_1).f0), .string ((rd_T33 t453 x6_1).f1), .int .i64 ((rd_T33 t453 x6_1).f2), .int .i64 ((rd_T33 t453 x6_1).f3), .int .i64 ((rd_T33 t453 x6_1).f4)] 33 (0, 0)) (by (with_reducible repeat (first | refine blk_drewN ?_ _ | refine blk_drew ?_ | refine blk_alloc ?_ _)); exact BK462.out) hb); have n4_ := Aside0.mk (below_step (by repeat (first | (with_reducible first | exact HB.out | apply below_alloc | apply pw_below_drewN | apply below_drew1 | refine below_set ?_ GE458.out | refine below_set ?_ GE462.out) | exact HB.out)) hb); clear HO_3; clear BK458; clear BK462; clear HB; have HO_3 := n0_; have HO466 := n1_; have BK458 := n2_; have BK462 := n3_; have HB := n4_; clear n0_ n1_ n2_ n3_ n4_; (try clear hb); (try clear hb2); (try clear hk); (try clear hi); (try clear ho0)) | ((with_reducible refine gate_dst (N := 10) rfl ?_); (try (refine gate_guard (by rfl) ?_; dsimp only)); refine box_event ?hg (N := 10) ?hd (cs := #[.int .i64 0, .int .i64 0]) (t := 26) ?hr ?_; (case hd => rfl); (case hg => rfl); (case hr => first | (go_simp; done) | (go_simp; rfl)); intro gb469 hg w98 hbox hb; have n0_ := Aside0.mk (Kd.R_below (by (with_reducible repeat (first | apply Kd.R_alloc | apply Kd.R_drewN | apply Kd.R_drew)); exact HO_3.out) hb); have n1_ := Aside0.mk (Kd.R_below (by (with_reducible repeat (first | apply Kd.R_alloc | apply Kd.R_drewN | apply Kd.R_drew)); exact HO466.out) hb); have n2_ := Aside0.mk (blk_below (g := gb458) (o := .cells #[.int .i64 t456, .int .i64 t457] 26 (0, 0)) (by (with_reducible repeat (first | refine blk_drewN ?_ _ | refine blk_drew ?_ | refine blk_alloc ?_ _)); exact BK458.out) hb); have n3_ := Aside0.mk (blk_below (g := gb462) (o := .cells #[.int .i64 ((rd_T33 t453 x6_1).f0), .string ((rd_T33 t453 x6_1).f1), .int .i64 ((rd_T33 t453 x6_1).f2), .int .i64 ((rd_T33 t453 x6_1).f3), .int .i64 ((rd_T33 t453 x6_1).f4)] 33 (0, 0)) (by (with_reducible repeat (first | refine blk_drewN ?_ _ | refine blk_drew ?_ | refine blk_alloc ?_ _)); exact BK462.out) hb); have n4_ := Aside0.mk (below_step (by repeat (first | (with_reducible first | exact HB.out | apply below_alloc | apply pw_below_drewN | apply below_drew1 | refine below_set ?_ GE458.out | refine below_set ?_ GE462.out) | exact HB.out)) hb); have n5_ := Aside0.mk (hbox); have n6_ := Aside0.mk ((by rw [hg]; exact (below_size (by repeat (first | (with_reducible first | exact HB.out | apply below_alloc | apply pw_below_drewN | apply below_drew1 | refine below_set ?_ GE458.out | refine below_set ?_ GE462.out) | exact HB.out))) : w.heap.size ≤ gb469)); have n7_ := Aside0.mk ((by rw [hg]; exact (below_size (by repeat (first | (with_reducible first | exact HB.out | apply below_alloc | apply pw_below_drewN | apply below_drew1 | refine below_set ?_ GE458.out | refine below_set ?_ GE462.out) | exact HB.out))) : w.heap.size ≤ gb469)); have n8_ := Aside0.mk ((by rw [hg]; exact Nat.ne_of_lt (blk_lt (g := gb458) (o := .cells #[.int .i64 t456, .int .i64 t457] 26 (0, 0)) (by (with_reducible repeat (first | refine blk_drewN ?_ _ | refine blk_drew ?_ | refine blk_alloc ?_ _)); exact BK458.out)) : gb458 ≠ gb469)); have n9_ := Aside0.mk ((by rw [hg]; exact Nat.ne_of_gt (blk_lt (g := gb458) (o := .cells #[.int .i64 t456, .int .i64 t457] 26 (0, 0)) (by (with_reducible repeat (first | refine blk_drewN ?_ _ | refine blk_drew ?_ | refine blk_alloc ?_ _)); exact BK458.out)) : gb469 ≠ gb458)); have n10_ := Aside0.mk ((by rw [hg]; exact Nat.ne_of_lt (blk_lt (g := gb462) (o := .cells #[.int .i64 ((rd_T33 t453 x6_1).f0), .string ((rd_T33 t453 x6_1).f1), .int .i64 ((rd_T33 t453 x6_1).f2), .int .i64 ((rd_T33 t453 x6_1).f3), .int .i64 ((rd_T33 t453 x6_1).f4)] 33 (0, 0)) (by (with_reducible repeat (first | refine blk_drewN ?_ _ | refine blk_drew ?_ | refine blk_alloc ?_ _)); exact BK462.out)) : gb462 ≠ gb469)); have n11_ := Aside0.mk ((by rw [hg]; exact Nat.ne_of_gt (blk_lt (g := gb462) (o := .cells #[.int .i64 ((rd_T33 t453 x6_1).f0), .string ((rd_T33 t453 x6_1).f1), .int .i64 ((rd_T33 t453 x6_1).f2), .int .i64 ((rd_T33 t453 x6_1).f3), .int .i64 ((rd_T33 t453 x6_1).f4)] 33 (0, 0)) (by (with_reducible repeat (first | refine blk_drewN ?_ _ | refine blk_drew ?_ | refine blk_alloc ?_ _)); exact BK462.out)) : gb469 ≠ gb462)); clear HO_3; clear HO466; clear BK458; clear BK462; clear HB; have HO_3 := n0_; have HO466 := n1_; have BK458 := n2_; have BK462 := n3_; have HB := n4_; have BK469 := n5_; have GW469 := n6_; have GE469 := n7_; have NB458_469 := n8_; have NB469_458 := n9_; have NB462_469 := n10_; have NB469_462 := n11_; clear n0_ n1_ n2_ n3_ n4_ n5_ n6_ n7_ n8_ n9_ n10_ n11_; clear hb hbox hg; have hnb99 := NB469_458.out; have hnc99 := NB458_469.out; have hnb100 := NB469_462.out; have hnc100 := NB462_469.out; have hcz101_0 : w98.cell? ⟨gb469, 0, none⟩ = some (.int .i64 0) := (blk_cell BK469.out 0).trans rfl; have hcz101_1 : w98.cell? ⟨gb469, 1, none⟩ = some (.int .i64 0) := (blk_cell BK469.out 1).trans rfl; have hfz101_0 := blk_frozen BK469.out 0; have hfz101_1 := blk_frozen BK469.out 1))
               have n0_ : Aside0 (Kd.R k33 33 ((w98.setCell ⟨gb469, 0, none⟩ (.int .i64 t467)).setCell ⟨gb469, 1, none⟩ (.int .i64 t468)) w.heap.size (fun k_ => some k_ ≠ (v465 : Value).ownBlock ∧ k_ ≠ gb462) (.slice (some ad461) t453.length co14) t453) := ⟨by (with_reducible repeat (first | apply Kd.R_alloc | apply Kd.R_drewN | apply Kd.R_drew)); exact Kd.R_mono (Kd.R_far (p := ⟨gb469, 1, none⟩) (Kd.R_far (p := ⟨gb469, 0, none⟩) (Kd.R_types HO_3.out BK469.out (by decide)) (fun _ hk => hk.2) (.int .i64 t467)) (fun _ hk => hk.2) (.int .i64 t468)) (fun _ hk => ⟨hk.1.2, hk.1.1⟩)⟩
               have n1_ : Aside0 (Kd.R k33 33 ((w98.setCell ⟨gb469, 0, none⟩ (.int .i64 t467)).setCell ⟨gb469, 1, none⟩ (.int .i64 t468)) w.heap.size (fun k_ => some k_ ≠ (.slice (some ad461) t453.length co14 : Value).ownBlock ∧ k_ ≠ gb462) v465 t464) := ⟨by (with_reducible repeat (first | apply Kd.R_alloc | apply Kd.R_drewN | apply Kd.R_drew)); exact Kd.R_mono (Kd.R_far (p := ⟨gb469, 1, none⟩) (Kd.R_far (p := ⟨gb469, 0, none⟩) (Kd.R_types HO466.out BK469.out (by decide)) (fun _ hk => hk.2) (.int .i64 t467)) (fun _ hk => hk.2) (.int .i64 t468)) (fun _ hk => ⟨hk.1.1.2, hk.1.2⟩)⟩
               have n2_ : Aside0 (((w98.setCell ⟨gb469, 0, none⟩ (.int .i64 t467)).setCell ⟨gb469, 1, none⟩ (.int .i64 t468)).heap[gb458]? = some (.cells #[.int .i64 t456, .int .i64 t457] 26 (0, 0))) := ⟨by (with_reducible repeat (first | refine blk_drewN ?_ _ | refine blk_drew ?_ | refine blk_alloc ?_ _)); refine blk_far ?_ NB458_469.out _; (with_reducible repeat (first | refine blk_drewN ?_ _ | refine blk_drew ?_ | refine blk_alloc ?_ _)); refine blk_far ?_ NB458_469.out _; (with_reducible repeat (first | refine blk_drewN ?_ _ | refine blk_drew ?_ | refine blk_alloc ?_ _)); exact BK458.out⟩
               have n3_ : Aside0 (((w98.setCell ⟨gb469, 0, none⟩ (.int .i64 t467)).setCell ⟨gb469, 1, none⟩ (.int .i64 t468)).heap[gb462]? = some (.cells #[.int .i64 ((rd_T33 t453 x6_1).f0), .string ((rd_T33 t453 x6_1).f1), .int .i64 ((rd_T33 t453 x6_1).f2), .int .i64 ((rd_T33 t453 x6_1).f3), .int .i64 ((rd_T33 t453 x6_1).f4)] 33 (0, 0))) := ⟨by (with_reducible repeat (first | refine blk_drewN ?_ _ | refine blk_drew ?_ | refine blk_alloc ?_ _)); refine blk_far ?_ NB462_469.out _; (with_reducible repeat (first | refine blk_drewN ?_ _ | refine blk_drew ?_ | refine blk_alloc ?_ _)); refine blk_far ?_ NB462_469.out _; (with_reducible repeat (first | refine blk_drewN ?_ _ | refine blk_drew ?_ | refine blk_alloc ?_ _)); exact BK462.out⟩
               have n4_ : Aside0 (((w98.setCell ⟨gb469, 0, none⟩ (.int .i64 t467)).setCell ⟨gb469, 1, none⟩ (.int .i64 t468)).heap[gb469]? = some (.cells #[.int .i64 t467, .int .i64 t468] 26 (0, 0))) := ⟨by (with_reducible repeat (first | refine blk_drewN ?_ _ | refine blk_drew ?_ | refine blk_alloc ?_ _)); refine blk_put (cs := #[.int .i64 t467, .int .i64 0]) ?_ 1 _ rfl; (with_reducible repeat (first | refine blk_drewN ?_ _ | refine blk_drew ?_ | refine blk_alloc ?_ _)); refine blk_put (cs := #[.int .i64 0, .int .i64 0]) ?_ 0 _ rfl; (with_reducible repeat (first | refine blk_drewN ?_ _ | refine blk_drew ?_ | refine blk_alloc ?_ _)); exact BK469.out⟩
               have n5_ : Aside0 (Below w.heap.size w ((w98.setCell ⟨gb469, 0, none⟩ (.int .i64 t467)).setCell ⟨gb469, 1, none⟩ (.int .i64 t468))) := ⟨by repeat (first | (with_reducible first | exact HB.out | apply below_alloc | apply pw_below_drewN | apply below_drew1 | refine below_set ?_ GE458.out | refine below_set ?_ GE462.out | refine below_set ?_ GE469.out) | exact HB.out)⟩
               (try clear HO_3)
               (try clear HO466)
               (try clear BK458)
               (try clear BK462)
               (try clear BK469)
               (try clear HB)
               generalize ((w98.setCell ⟨gb469, 0, none⟩ (.int .i64 t467)).setCell ⟨gb469, 1, none⟩ (.int .i64 t468)) = w102 at n0_ n1_ n2_ n3_ n4_ n5_ ⊢
               have HO_3 := n0_
               have HO466 := n1_
               have BK458 := n2_
               have BK462 := n3_
               have BK469 := n4_
               have HB := n5_
               clear n0_ n1_ n2_ n3_ n4_ n5_
               have n0_ := Aside0.mk (Kd.R_drew HO_3.out)
               have n1_ := Aside0.mk (Kd.R_drew HO466.out)
               have n2_ := Aside0.mk (blk_drew BK458.out)
               have n3_ := Aside0.mk (blk_drew BK462.out)
               have n4_ := Aside0.mk (blk_drew BK469.out)
               have n5_ := Aside0.mk (below_drew1 HB.out)
               clear HO_3
               clear HO466
               clear BK458
               clear BK462
               clear BK469
               clear HB
               have HO_3 := n0_
               have HO466 := n1_
               have BK458 := n2_
               have BK462 := n3_
               have BK469 := n4_
               have HB := n5_
               clear n0_ n1_ n2_ n3_ n4_ n5_
               obtain ⟨Ao104, co104, eo104⟩ := Kd.R_slice HO466.out
               (first | subst eo104 | (injection eo104 with f1_ f2_ f3_; have f4_ := f1_.symm; have f5_ := f3_.symm; clear f1_ f2_ f3_; subst f4_; subst f5_))
               refine start_ (n := 33) (S := fun w' => w'.cell? ⟨gb469, 0, none⟩ = some (.int .i64 t467) ∧ w'.cell? ⟨gb469, 1, none⟩ = some (.int .i64 t468)) (ds := []) #[f_,f_,f_,f_,f_,f_,f_,f_,f_,f_,f_,f_,f_,f_,f_,f_,f_,f_,f_,f_,f_,f_,f_,f_,f_,f_,f_,f_,f_,f_,f_,f_,f_] (by kernel_rfl) rfl rfl ⟨(blk_cell BK469.out 0).trans rfl, (blk_cell BK469.out 1).trans rfl⟩ (fun hHeld => ?_); refine with_tabW hearsaylaw04_TokensPlaces.tab15 hearsaylaw04_TokensPlaces.bits15 (fun HT_ HW_ => ?_)
               generalize w102.drew = w103 at HO_3 HO466 BK458 BK462 BK469 HB hHeld ⊢
               refine pB_ HT_ 0 73 #[t_,f_,f_,f_,f_,f_,f_,f_,f_,f_,f_,f_,f_,f_,f_,f_,f_,f_,f_,f_,f_,f_,f_,f_,f_,f_,f_,f_,f_,f_,f_,f_,f_] ?_
               refine take_ (i := 1) (N := some 74) (v := ?_) (a' := ?_) #[t_,t_,f_,f_,f_,f_,f_,f_,f_,f_,f_,f_,f_,f_,f_,f_,f_,f_,f_,f_,f_,f_,f_,f_,f_,f_,f_,f_,f_,f_,f_,f_,f_] rfl rfl (take_ofW HT_.out HW_.out (by kernel_rfl)) (fun _ _ _ h => h) (Or.inl ⟨by rfl, ?_⟩) hHeld ?_ ?_
               rotate_left
               ·rintro w' ⟨s0, s1⟩
                go_simp
                with_reducible rfl
               rotate_left
               ·simp only [Act.put, List.setIfInBounds_toArray, List.set_cons_zero, List.set_cons_succ, i64_w, i32_w]
                rfl
               refine pB_ HT_ 2 75 #[t_,t_,t_,f_,f_,f_,f_,f_,f_,f_,f_,f_,f_,f_,f_,f_,f_,f_,f_,f_,f_,f_,f_,f_,f_,f_,f_,f_,f_,f_,f_,f_,f_] ?_
               refine pB_ HT_ 3 76 #[t_,t_,t_,t_,f_,f_,f_,f_,f_,f_,f_,f_,f_,f_,f_,f_,f_,f_,f_,f_,f_,f_,f_,f_,f_,f_,f_,f_,f_,f_,f_,f_,f_] ?_
               refine pB_ HT_ 4 77 #[t_,t_,t_,t_,t_,f_,f_,f_,f_,f_,f_,f_,f_,f_,f_,f_,f_,f_,f_,f_,f_,f_,f_,f_,f_,f_,f_,f_,f_,f_,f_,f_,f_] ?_
               refine pB_ HT_ 5 78 #[t_,t_,t_,t_,t_,t_,f_,f_,f_,f_,f_,f_,f_,f_,f_,f_,f_,f_,f_,f_,f_,f_,f_,f_,f_,f_,f_,f_,f_,f_,f_,f_,f_] ?_
               refine pB_ HT_ 6 79 #[t_,t_,t_,t_,t_,t_,t_,f_,f_,f_,f_,f_,f_,f_,f_,f_,f_,f_,f_,f_,f_,f_,f_,f_,f_,f_,f_,f_,f_,f_,f_,f_,f_] ?_
               refine pB_ HT_ 7 80 #[t_,t_,t_,t_,t_,t_,t_,t_,f_,f_,f_,f_,f_,f_,f_,f_,f_,f_,f_,f_,f_,f_,f_,f_,f_,f_,f_,f_,f_,f_,f_,f_,f_] ?_
               refine pB_ HT_ 8 81 #[t_,t_,t_,t_,t_,t_,t_,t_,t_,f_,f_,f_,f_,f_,f_,f_,f_,f_,f_,f_,f_,f_,f_,f_,f_,f_,f_,f_,f_,f_,f_,f_,f_] ?_
               refine pA_ HT_ 9 82 #[t_,t_,t_,t_,t_,t_,t_,t_,t_,t_,f_,f_,f_,f_,f_,f_,f_,f_,f_,f_,f_,f_,f_,f_,f_,f_,f_,f_,f_,f_,f_,f_,f_] ?_
               refine pA_ HT_ 10 83 #[t_,t_,t_,t_,t_,t_,t_,t_,t_,t_,t_,f_,f_,f_,f_,f_,f_,f_,f_,f_,f_,f_,f_,f_,f_,f_,f_,f_,f_,f_,f_,f_,f_] ?_
               refine pA_ HT_ 11 84 #[t_,t_,t_,t_,t_,t_,t_,t_,t_,t_,t_,t_,f_,f_,f_,f_,f_,f_,f_,f_,f_,f_,f_,f_,f_,f_,f_,f_,f_,f_,f_,f_,f_] ?_
               refine pA_ HT_ 12 85 #[t_,t_,t_,t_,t_,t_,t_,t_,t_,t_,t_,t_,t_,f_,f_,f_,f_,f_,f_,f_,f_,f_,f_,f_,f_,f_,f_,f_,f_,f_,f_,f_,f_] ?_
               refine pA_ HT_ 13 86 #[t_,t_,t_,t_,t_,t_,t_,t_,t_,t_,t_,t_,t_,t_,f_,f_,f_,f_,f_,f_,f_,f_,f_,f_,f_,f_,f_,f_,f_,f_,f_,f_,f_] ?_
               refine pA_ HT_ 14 87 #[t_,t_,t_,t_,t_,t_,t_,t_,t_,t_,t_,t_,t_,t_,t_,f_,f_,f_,f_,f_,f_,f_,f_,f_,f_,f_,f_,f_,f_,f_,f_,f_,f_] ?_
               refine pA_ HT_ 15 88 #[t_,t_,t_,t_,t_,t_,t_,t_,t_,t_,t_,t_,t_,t_,t_,t_,f_,f_,f_,f_,f_,f_,f_,f_,f_,f_,f_,f_,f_,f_,f_,f_,f_] ?_
               refine pB_ HT_ 16 89 #[t_,t_,t_,t_,t_,t_,t_,t_,t_,t_,t_,t_,t_,t_,t_,t_,t_,f_,f_,f_,f_,f_,f_,f_,f_,f_,f_,f_,f_,f_,f_,f_,f_] ?_
               refine pB_ HT_ 17 90 #[t_,t_,t_,t_,t_,t_,t_,t_,t_,t_,t_,t_,t_,t_,t_,t_,t_,t_,f_,f_,f_,f_,f_,f_,f_,f_,f_,f_,f_,f_,f_,f_,f_] ?_
               refine pA_ HT_ 18 91 #[t_,t_,t_,t_,t_,t_,t_,t_,t_,t_,t_,t_,t_,t_,t_,t_,t_,t_,t_,f_,f_,f_,f_,f_,f_,f_,f_,f_,f_,f_,f_,f_,f_] ?_
               refine pA_ HT_ 19 92 #[t_,t_,t_,t_,t_,t_,t_,t_,t_,t_,t_,t_,t_,t_,t_,t_,t_,t_,t_,t_,f_,f_,f_,f_,f_,f_,f_,f_,f_,f_,f_,f_,f_] ?_
               refine pA_ HT_ 20 93 #[t_,t_,t_,t_,t_,t_,t_,t_,t_,t_,t_,t_,t_,t_,t_,t_,t_,t_,t_,t_,t_,f_,f_,f_,f_,f_,f_,f_,f_,f_,f_,f_,f_] ?_
               refine pA_ HT_ 21 94 #[t_,t_,t_,t_,t_,t_,t_,t_,t_,t_,t_,t_,t_,t_,t_,t_,t_,t_,t_,t_,t_,t_,f_,f_,f_,f_,f_,f_,f_,f_,f_,f_,f_] ?_
               refine pA_ HT_ 22 95 #[t_,t_,t_,t_,t_,t_,t_,t_,t_,t_,t_,t_,t_,t_,t_,t_,t_,t_,t_,t_,t_,t_,t_,f_,f_,f_,f_,f_,f_,f_,f_,f_,f_] ?_
               refine pB_ HT_ 23 96 #[t_,t_,t_,t_,t_,t_,t_,t_,t_,t_,t_,t_,t_,t_,t_,t_,t_,t_,t_,t_,t_,t_,t_,t_,f_,f_,f_,f_,f_,f_,f_,f_,f_] ?_
               refine pB_ HT_ 24 97 #[t_,t_,t_,t_,t_,t_,t_,t_,t_,t_,t_,t_,t_,t_,t_,t_,t_,t_,t_,t_,t_,t_,t_,t_,t_,f_,f_,f_,f_,f_,f_,f_,f_] ?_
               refine pA_ HT_ 25 98 #[t_,t_,t_,t_,t_,t_,t_,t_,t_,t_,t_,t_,t_,t_,t_,t_,t_,t_,t_,t_,t_,t_,t_,t_,t_,t_,f_,f_,f_,f_,f_,f_,f_] ?_
               refine pA_ HT_ 26 99 #[t_,t_,t_,t_,t_,t_,t_,t_,t_,t_,t_,t_,t_,t_,t_,t_,t_,t_,t_,t_,t_,t_,t_,t_,t_,t_,t_,f_,f_,f_,f_,f_,f_] ?_
               refine pA_ HT_ 27 100 #[t_,t_,t_,t_,t_,t_,t_,t_,t_,t_,t_,t_,t_,t_,t_,t_,t_,t_,t_,t_,t_,t_,t_,t_,t_,t_,t_,t_,f_,f_,f_,f_,f_] ?_
               refine pA_ HT_ 28 101 #[t_,t_,t_,t_,t_,t_,t_,t_,t_,t_,t_,t_,t_,t_,t_,t_,t_,t_,t_,t_,t_,t_,t_,t_,t_,t_,t_,t_,t_,f_,f_,f_,f_] ?_
               refine pA_ HT_ 29 102 #[t_,t_,t_,t_,t_,t_,t_,t_,t_,t_,t_,t_,t_,t_,t_,t_,t_,t_,t_,t_,t_,t_,t_,t_,t_,t_,t_,t_,t_,t_,f_,f_,f_] ?_
               refine pA_ HT_ 30 103 #[t_,t_,t_,t_,t_,t_,t_,t_,t_,t_,t_,t_,t_,t_,t_,t_,t_,t_,t_,t_,t_,t_,t_,t_,t_,t_,t_,t_,t_,t_,t_,f_,f_] ?_
               refine pA_ HT_ 31 104 #[t_,t_,t_,t_,t_,t_,t_,t_,t_,t_,t_,t_,t_,t_,t_,t_,t_,t_,t_,t_,t_,t_,t_,t_,t_,t_,t_,t_,t_,t_,t_,t_,f_] ?_
               refine pB_ HT_ 32 105 #[t_,t_,t_,t_,t_,t_,t_,t_,t_,t_,t_,t_,t_,t_,t_,t_,t_,t_,t_,t_,t_,t_,t_,t_,t_,t_,t_,t_,t_,t_,t_,t_,t_] ?_
               refine done_ (done_of HT_.out (by kernel_rfl)) ?_
               try go_wp2
               go_ret
               exact ⟨by first | rfl | (simp [errW_none, errW_some] <;> rfl) | (simp [*, errW_none, errW_some] <;> rfl), by repeat (first | (with_reducible first | exact HB.out | apply below_alloc | apply pw_below_drewN | apply below_drew1 | refine below_set ?_ GE458.out | refine below_set ?_ GE462.out | refine below_set ?_ GE469.out) | exact HB.out)⟩
             ·rw [if_neg c38] at H
              have c38b0 : (t467 == 0) = false := beq_eq_false_iff_ne.mpr c38
              have c38b1 : (t467 != 0) = true := bne_iff_ne.mpr c38
              obtain rfl := Option.some.inj H
              have hnb105 := NB462_458.out
              have hnc105 := NB458_462.out
              have hcz106_0 : wc.cell? ⟨gb462, 0, none⟩ = some (.int .i64 ((rd_T33 t453 x6_1).f0)) := (blk_cell BK462.out 0).trans rfl
              have hcz106_1 : wc.cell? ⟨gb462, 1, none⟩ = some (.string ((rd_T33 t453 x6_1).f1)) := (blk_cell BK462.out 1).trans rfl
              have hcz106_2 : wc.cell? ⟨gb462, 2, none⟩ = some (.int .i64 ((rd_T33 t453 x6_1).f2)) := (blk_cell BK462.out 2).trans rfl
              have hcz106_3 : wc.cell? ⟨gb462, 3, none⟩ = some (.int .i64 ((rd_T33 t453 x6_1).f3)) := (blk_cell BK462.out 3).trans rfl
              have hcz106_4 : wc.cell? ⟨gb462, 4, none⟩ = some (.int .i64 ((rd_T33 t453 x6_1).f4)) := (blk_cell BK462.out 4).trans rfl
              have hfz106_0 := blk_frozen BK462.out 0
              have hfz106_1 := blk_frozen BK462.out 1
              have hfz106_2 := blk_frozen BK462.out 2
              have hfz106_3 := blk_frozen BK462.out 3
              have hfz106_4 := blk_frozen BK462.out 4
              try go_wp2_with (first | ((with_reducible refine gate_callee (f := 14) rfl ?_); refine goesL_ (some 70) rfl rfl Tryd.func14 (by kernel_rfl) rfl #[.string (a0.extract (((rd_T33 t453 x6_1).f3) : Int).toNat (((rd_T33 t453 x6_1).f4) : Int).toNat), .int .i64 ((a0.extract (((rd_T33 t453 x6_1).f3) : Int).toNat (((rd_T33 t453 x6_1).f4) : Int).toNat).size : Int)] rfl (by (try simp only [List.map_toArray, List.map_cons, List.map_nil]); first | done | rfl | (simp only [List.length_drop, List.length_take]; rfl) | (simp only [beq_nil_, bne_nil_]; rfl) | (simp only [ByteArray.size_extract, Nat.min_self]; rfl) | (refine (congrArg (fun z => #[_, Value.int .i64 z]) (?_ : _ = _)); rw [ByteArray.size_extract]; have h1_ := of_decide_eq_true c34b1; have h2_ := of_decide_eq_true c35b1; have h3_ := of_decide_eq_true c36b1; omega)) ?_; (with_reducible refine (tokens_Cut.calls kj12 (a0.extract (((rd_T33 t453 x6_1).f3) : Int).toNat (((rd_T33 t453 x6_1).f4) : Int).toNat) ((a0.extract (((rd_T33 t453 x6_1).f3) : Int).toNat (((rd_T33 t453 x6_1).f4) : Int).toNat).size : Int) t464 t467 t468 _ ?side1 A37.out).mono ?_); (case side1 => exact Gl.below HG.out (by repeat (first | (with_reducible first | exact HB.out | apply below_alloc | apply pw_below_drewN | apply below_drew1 | refine below_set ?_ GE458.out | refine below_set ?_ GE462.out) | exact HB.out))); rintro e w107 ⟨v465, rfl, ho0, hb⟩; refine ⟨_, rfl, ?_⟩; have n0_ := Aside0.mk (Kd.R_elder' (by (with_reducible repeat (first | apply Kd.R_alloc | apply Kd.R_drewN | apply Kd.R_drew)); exact HO_3.out) (Kd.R_base ho0) hb); have n1_ := Aside0.mk (Kd.R_lower (Kd.R_newB (Kd.R_new' ho0 (Kd.R_lt (by (with_reducible repeat (first | apply Kd.R_alloc | apply Kd.R_drewN | apply Kd.R_drew)); exact HO_3.out))) (g := gb462) (o := .cells #[.int .i64 ((rd_T33 t453 x6_1).f0), .string ((rd_T33 t453 x6_1).f1), .int .i64 ((rd_T33 t453 x6_1).f2), .int .i64 ((rd_T33 t453 x6_1).f3), .int .i64 ((rd_T33 t453 x6_1).f4)] 33 (0, 0)) (by (with_reducible repeat (first | refine blk_drewN ?_ _ | refine blk_drew ?_ | refine blk_alloc ?_ _)); exact BK462.out)) (below_size (by repeat (first | (with_reducible first | exact HB.out | apply below_alloc | apply pw_below_drewN | apply below_drew1 | refine below_set ?_ GE458.out | refine below_set ?_ GE462.out) | exact HB.out)))); have n2_ := Aside0.mk (blk_below (g := gb458) (o := .cells #[.int .i64 t456, .int .i64 t457] 26 (0, 0)) (by (with_reducible repeat (first | refine blk_drewN ?_ _ | refine blk_drew ?_ | refine blk_alloc ?_ _)); exact BK458.out) hb); have n3_ := Aside0.mk (blk_below (g := gb462) (o := .cells #[.int .i64 ((rd_T33 t453 x6_1).f0), .string ((rd_T33 t453 x6_1).f1), .int .i64 ((rd_T33 t453 x6_1).f2), .int .i64 ((rd_T33 t453 x6_1).f3), .int .i64 ((rd_T33 t453 x6_1).f4)] 33 (0, 0)) (by (with_reducible repeat (first | refine blk_drewN ?_ _ | refine blk_drew ?_ | refine blk_alloc ?_ _)); exact BK462.out) hb); have n4_ := Aside0.mk (below_step (by repeat (first | (with_reducible first | exact HB.out | apply below_alloc | apply pw_below_drewN | apply below_drew1 | refine below_set ?_ GE458.out | refine below_set ?_ GE462.out) | exact HB.out)) hb); clear HO_3; clear BK458; clear BK462; clear HB; have HO_3 := n0_; have HO466 := n1_; have BK458 := n2_; have BK462 := n3_; have HB := n4_; clear n0_ n1_ n2_ n3_ n4_; (try clear hb); (try clear hb2); (try clear hk); (try clear hi); (try clear ho0)) | ((with_reducible refine gate_dst (N := 10) rfl ?_); (try (refine gate_guard (by rfl) ?_; dsimp only)); refine box_event ?hg (N := 10) ?hd (cs := #[.int .i64 0, .int .i64 0]) (t := 26) ?hr ?_; (case hd => rfl); (case hg => rfl); (case hr => first | (go_simp; done) | (go_simp; rfl)); intro gb469 hg w108 hbox hb; have n0_ := Aside0.mk (Kd.R_below (by (with_reducible repeat (first | apply Kd.R_alloc | apply Kd.R_drewN | apply Kd.R_drew)); exact HO_3.out) hb); have n1_ := Aside0.mk (Kd.R_below (by (with_reducible repeat (first | apply Kd.R_alloc | apply Kd.R_drewN | apply Kd.R_drew)); exact HO466.out) hb); have n2_ := Aside0.mk (blk_below (g := gb458) (o := .cells #[.int .i64 t456, .int .i64 t457] 26 (0, 0)) (by (with_reducible repeat (first | refine blk_drewN ?_ _ | refine blk_drew ?_ | refine blk_alloc ?_ _)); exact BK458.out) hb); have n3_ := Aside0.mk (blk_below (g := gb462) (o := .cells #[.int .i64 ((rd_T33 t453 x6_1).f0), .string ((rd_T33 t453 x6_1).f1), .int .i64 ((rd_T33 t453 x6_1).f2), .int .i64 ((rd_T33 t453 x6_1).f3), .int .i64 ((rd_T33 t453 x6_1).f4)] 33 (0, 0)) (by (with_reducible repeat (first | refine blk_drewN ?_ _ | refine blk_drew ?_ | refine blk_alloc ?_ _)); exact BK462.out) hb); have n4_ := Aside0.mk (below_step (by repeat (first | (with_reducible first | exact HB.out | apply below_alloc | apply pw_below_drewN | apply below_drew1 | refine below_set ?_ GE458.out | refine below_set ?_ GE462.out) | exact HB.out)) hb); have n5_ := Aside0.mk (hbox); have n6_ := Aside0.mk ((by rw [hg]; exact (below_size (by repeat (first | (with_reducible first | exact HB.out | apply below_alloc | apply pw_below_drewN | apply below_drew1 | refine below_set ?_ GE458.out | refine below_set ?_ GE462.out) | exact HB.out))) : w.heap.size ≤ gb469)); have n7_ := Aside0.mk ((by rw [hg]; exact (below_size (by repeat (first | (with_reducible first | exact HB.out | apply below_alloc | apply pw_below_drewN | apply below_drew1 | refine below_set ?_ GE458.out | refine below_set ?_ GE462.out) | exact HB.out))) : w.heap.size ≤ gb469)); have n8_ := Aside0.mk ((by rw [hg]; exact Nat.ne_of_lt (blk_lt (g := gb458) (o := .cells #[.int .i64 t456, .int .i64 t457] 26 (0, 0)) (by (with_reducible repeat (first | refine blk_drewN ?_ _ | refine blk_drew ?_ | refine blk_alloc ?_ _)); exact BK458.out)) : gb458 ≠ gb469)); have n9_ := Aside0.mk ((by rw [hg]; exact Nat.ne_of_gt (blk_lt (g := gb458) (o := .cells #[.int .i64 t456, .int .i64 t457] 26 (0, 0)) (by (with_reducible repeat (first | refine blk_drewN ?_ _ | refine blk_drew ?_ | refine blk_alloc ?_ _)); exact BK458.out)) : gb469 ≠ gb458)); have n10_ := Aside0.mk ((by rw [hg]; exact Nat.ne_of_lt (blk_lt (g := gb462) (o := .cells #[.int .i64 ((rd_T33 t453 x6_1).f0), .string ((rd_T33 t453 x6_1).f1), .int .i64 ((rd_T33 t453 x6_1).f2), .int .i64 ((rd_T33 t453 x6_1).f3), .int .i64 ((rd_T33 t453 x6_1).f4)] 33 (0, 0)) (by (with_reducible repeat (first | refine blk_drewN ?_ _ | refine blk_drew ?_ | refine blk_alloc ?_ _)); exact BK462.out)) : gb462 ≠ gb469)); have n11_ := Aside0.mk ((by rw [hg]; exact Nat.ne_of_gt (blk_lt (g := gb462) (o := .cells #[.int .i64 ((rd_T33 t453 x6_1).f0), .string ((rd_T33 t453 x6_1).f1), .int .i64 ((rd_T33 t453 x6_1).f2), .int .i64 ((rd_T33 t453 x6_1).f3), .int .i64 ((rd_T33 t453 x6_1).f4)] 33 (0, 0)) (by (with_reducible repeat (first | refine blk_drewN ?_ _ | refine blk_drew ?_ | refine blk_alloc ?_ _)); exact BK462.out)) : gb469 ≠ gb462)); clear HO_3; clear HO466; clear BK458; clear BK462; clear HB; have HO_3 := n0_; have HO466 := n1_; have BK458 := n2_; have BK462 := n3_; have HB := n4_; have BK469 := n5_; have GW469 := n6_; have GE469 := n7_; have NB458_469 := n8_; have NB469_458 := n9_; have NB462_469 := n10_; have NB469_462 := n11_; clear n0_ n1_ n2_ n3_ n4_ n5_ n6_ n7_ n8_ n9_ n10_ n11_; clear hb hbox hg; have hnb109 := NB469_458.out; have hnc109 := NB458_469.out; have hnb110 := NB469_462.out; have hnc110 := NB462_469.out; have hcz111_0 : w108.cell? ⟨gb469, 0, none⟩ = some (.int .i64 0) := (blk_cell BK469.out 0).trans rfl; have hcz111_1 : w108.cell? ⟨gb469, 1, none⟩ = some (.int .i64 0) := (blk_cell BK469.out 1).trans rfl; have hfz111_0 := blk_frozen BK469.out 0; have hfz111_1 := blk_frozen BK469.out 1))
              have n0_ : Aside0 (Kd.R k33 33 ((w108.setCell ⟨gb469, 0, none⟩ (.int .i64 t467)).setCell ⟨gb469, 1, none⟩ (.int .i64 t468)) w.heap.size (fun k_ => some k_ ≠ (v465 : Value).ownBlock ∧ k_ ≠ gb462) (.slice (some ad461) t453.length co14) t453) := ⟨by (with_reducible repeat (first | apply Kd.R_alloc | apply Kd.R_drewN | apply Kd.R_drew)); exact Kd.R_mono (Kd.R_far (p := ⟨gb469, 1, none⟩) (Kd.R_far (p := ⟨gb469, 0, none⟩) (Kd.R_types HO_3.out BK469.out (by decide)) (fun _ hk => hk.2) (.int .i64 t467)) (fun _ hk => hk.2) (.int .i64 t468)) (fun _ hk => ⟨hk.1.2, hk.1.1⟩)⟩
              have n1_ : Aside0 (Kd.R k33 33 ((w108.setCell ⟨gb469, 0, none⟩ (.int .i64 t467)).setCell ⟨gb469, 1, none⟩ (.int .i64 t468)) w.heap.size (fun k_ => some k_ ≠ (.slice (some ad461) t453.length co14 : Value).ownBlock ∧ k_ ≠ gb462) v465 t464) := ⟨by (with_reducible repeat (first | apply Kd.R_alloc | apply Kd.R_drewN | apply Kd.R_drew)); exact Kd.R_mono (Kd.R_far (p := ⟨gb469, 1, none⟩) (Kd.R_far (p := ⟨gb469, 0, none⟩) (Kd.R_types HO466.out BK469.out (by decide)) (fun _ hk => hk.2) (.int .i64 t467)) (fun _ hk => hk.2) (.int .i64 t468)) (fun _ hk => ⟨hk.1.1.2, hk.1.2⟩)⟩
              have n2_ : Aside0 (((w108.setCell ⟨gb469, 0, none⟩ (.int .i64 t467)).setCell ⟨gb469, 1, none⟩ (.int .i64 t468)).heap[gb458]? = some (.cells #[.int .i64 t456, .int .i64 t457] 26 (0, 0))) := ⟨by (with_reducible repeat (first | refine blk_drewN ?_ _ | refine blk_drew ?_ | refine blk_alloc ?_ _)); refine blk_far ?_ NB458_469.out _; (with_reducible repeat (first | refine blk_drewN ?_ _ | refine blk_drew ?_ | refine blk_alloc ?_ _)); refine blk_far ?_ NB458_469.out _; (with_reducible repeat (first | refine blk_drewN ?_ _ | refine blk_drew ?_ | refine blk_alloc ?_ _)); exact BK458.out⟩
              have n3_ : Aside0 (((w108.setCell ⟨gb469, 0, none⟩ (.int .i64 t467)).setCell ⟨gb469, 1, none⟩ (.int .i64 t468)).heap[gb462]? = some (.cells #[.int .i64 ((rd_T33 t453 x6_1).f0), .string ((rd_T33 t453 x6_1).f1), .int .i64 ((rd_T33 t453 x6_1).f2), .int .i64 ((rd_T33 t453 x6_1).f3), .int .i64 ((rd_T33 t453 x6_1).f4)] 33 (0, 0))) := ⟨by (with_reducible repeat (first | refine blk_drewN ?_ _ | refine blk_drew ?_ | refine blk_alloc ?_ _)); refine blk_far ?_ NB462_469.out _; (with_reducible repeat (first | refine blk_drewN ?_ _ | refine blk_drew ?_ | refine blk_alloc ?_ _)); refine blk_far ?_ NB462_469.out _; (with_reducible repeat (first | refine blk_drewN ?_ _ | refine blk_drew ?_ | refine blk_alloc ?_ _)); exact BK462.out⟩
              have n4_ : Aside0 (((w108.setCell ⟨gb469, 0, none⟩ (.int .i64 t467)).setCell ⟨gb469, 1, none⟩ (.int .i64 t468)).heap[gb469]? = some (.cells #[.int .i64 t467, .int .i64 t468] 26 (0, 0))) := ⟨by (with_reducible repeat (first | refine blk_drewN ?_ _ | refine blk_drew ?_ | refine blk_alloc ?_ _)); refine blk_put (cs := #[.int .i64 t467, .int .i64 0]) ?_ 1 _ rfl; (with_reducible repeat (first | refine blk_drewN ?_ _ | refine blk_drew ?_ | refine blk_alloc ?_ _)); refine blk_put (cs := #[.int .i64 0, .int .i64 0]) ?_ 0 _ rfl; (with_reducible repeat (first | refine blk_drewN ?_ _ | refine blk_drew ?_ | refine blk_alloc ?_ _)); exact BK469.out⟩
              have n5_ : Aside0 (Below w.heap.size w ((w108.setCell ⟨gb469, 0, none⟩ (.int .i64 t467)).setCell ⟨gb469, 1, none⟩ (.int .i64 t468))) := ⟨by repeat (first | (with_reducible first | exact HB.out | apply below_alloc | apply pw_below_drewN | apply below_drew1 | refine below_set ?_ GE458.out | refine below_set ?_ GE462.out | refine below_set ?_ GE469.out) | exact HB.out)⟩
              (try clear HO_3)
              (try clear HO466)
              (try clear BK458)
              (try clear BK462)
              (try clear BK469)
              (try clear HB)
              generalize ((w108.setCell ⟨gb469, 0, none⟩ (.int .i64 t467)).setCell ⟨gb469, 1, none⟩ (.int .i64 t468)) = w112 at n0_ n1_ n2_ n3_ n4_ n5_ ⊢
              have HO_3 := n0_
              have HO466 := n1_
              have BK458 := n2_
              have BK462 := n3_
              have BK469 := n4_
              have HB := n5_
              clear n0_ n1_ n2_ n3_ n4_ n5_
              have n0_ := Aside0.mk (Kd.R_drew HO_3.out)
              have n1_ := Aside0.mk (Kd.R_drew HO466.out)
              have n2_ := Aside0.mk (blk_drew BK458.out)
              have n3_ := Aside0.mk (blk_drew BK462.out)
              have n4_ := Aside0.mk (blk_drew BK469.out)
              have n5_ := Aside0.mk (below_drew1 HB.out)
              clear HO_3
              clear HO466
              clear BK458
              clear BK462
              clear BK469
              clear HB
              have HO_3 := n0_
              have HO466 := n1_
              have BK458 := n2_
              have BK462 := n3_
              have BK469 := n4_
              have HB := n5_
              clear n0_ n1_ n2_ n3_ n4_ n5_
              refine start_ (n := 33) (S := fun w' => w'.cell? ⟨gb469, 0, none⟩ = some (.int .i64 t467) ∧ w'.cell? ⟨gb469, 1, none⟩ = some (.int .i64 t468)) (ds := []) #[f_,f_,f_,f_,f_,f_,f_,f_,f_,f_,f_,f_,f_,f_,f_,f_,f_,f_,f_,f_,f_,f_,f_,f_,f_,f_,f_,f_,f_,f_,f_,f_,f_] (by kernel_rfl) rfl rfl ⟨(blk_cell BK469.out 0).trans rfl, (blk_cell BK469.out 1).trans rfl⟩ (fun hHeld => ?_); refine with_tabW hearsaylaw04_TokensPlaces.tab15 hearsaylaw04_TokensPlaces.bits15 (fun HT_ HW_ => ?_)
              generalize w112.drew = w113 at HO_3 HO466 BK458 BK462 BK469 HB hHeld ⊢
              refine pB_ HT_ 0 73 #[t_,f_,f_,f_,f_,f_,f_,f_,f_,f_,f_,f_,f_,f_,f_,f_,f_,f_,f_,f_,f_,f_,f_,f_,f_,f_,f_,f_,f_,f_,f_,f_,f_] ?_
              refine take_ (i := 1) (N := some 74) (v := ?_) (a' := ?_) #[t_,t_,f_,f_,f_,f_,f_,f_,f_,f_,f_,f_,f_,f_,f_,f_,f_,f_,f_,f_,f_,f_,f_,f_,f_,f_,f_,f_,f_,f_,f_,f_,f_] rfl rfl (take_ofW HT_.out HW_.out (by kernel_rfl)) (fun _ _ _ h => h) (Or.inl ⟨by rfl, ?_⟩) hHeld ?_ ?_
              rotate_left
              ·rintro w' ⟨s0, s1⟩
               go_simp
               with_reducible rfl
              rotate_left
              ·simp only [Act.put, List.setIfInBounds_toArray, List.set_cons_zero, List.set_cons_succ, i64_w, i32_w]
               rfl
              refine pB_ HT_ 2 75 #[t_,t_,t_,f_,f_,f_,f_,f_,f_,f_,f_,f_,f_,f_,f_,f_,f_,f_,f_,f_,f_,f_,f_,f_,f_,f_,f_,f_,f_,f_,f_,f_,f_] ?_
              refine pB_ HT_ 3 76 #[t_,t_,t_,t_,f_,f_,f_,f_,f_,f_,f_,f_,f_,f_,f_,f_,f_,f_,f_,f_,f_,f_,f_,f_,f_,f_,f_,f_,f_,f_,f_,f_,f_] ?_
              refine pA_ HT_ 4 77 #[t_,t_,t_,t_,t_,f_,f_,f_,f_,f_,f_,f_,f_,f_,f_,f_,f_,f_,f_,f_,f_,f_,f_,f_,f_,f_,f_,f_,f_,f_,f_,f_,f_] ?_
              refine pA_ HT_ 5 78 #[t_,t_,t_,t_,t_,t_,f_,f_,f_,f_,f_,f_,f_,f_,f_,f_,f_,f_,f_,f_,f_,f_,f_,f_,f_,f_,f_,f_,f_,f_,f_,f_,f_] ?_
              refine pA_ HT_ 6 79 #[t_,t_,t_,t_,t_,t_,t_,f_,f_,f_,f_,f_,f_,f_,f_,f_,f_,f_,f_,f_,f_,f_,f_,f_,f_,f_,f_,f_,f_,f_,f_,f_,f_] ?_
              refine pB_ HT_ 7 80 #[t_,t_,t_,t_,t_,t_,t_,t_,f_,f_,f_,f_,f_,f_,f_,f_,f_,f_,f_,f_,f_,f_,f_,f_,f_,f_,f_,f_,f_,f_,f_,f_,f_] ?_
              refine pB_ HT_ 8 81 #[t_,t_,t_,t_,t_,t_,t_,t_,t_,f_,f_,f_,f_,f_,f_,f_,f_,f_,f_,f_,f_,f_,f_,f_,f_,f_,f_,f_,f_,f_,f_,f_,f_] ?_
              refine pA_ HT_ 9 82 #[t_,t_,t_,t_,t_,t_,t_,t_,t_,t_,f_,f_,f_,f_,f_,f_,f_,f_,f_,f_,f_,f_,f_,f_,f_,f_,f_,f_,f_,f_,f_,f_,f_] ?_
              refine pA_ HT_ 10 83 #[t_,t_,t_,t_,t_,t_,t_,t_,t_,t_,t_,f_,f_,f_,f_,f_,f_,f_,f_,f_,f_,f_,f_,f_,f_,f_,f_,f_,f_,f_,f_,f_,f_] ?_
              refine pA_ HT_ 11 84 #[t_,t_,t_,t_,t_,t_,t_,t_,t_,t_,t_,t_,f_,f_,f_,f_,f_,f_,f_,f_,f_,f_,f_,f_,f_,f_,f_,f_,f_,f_,f_,f_,f_] ?_
              refine pA_ HT_ 12 85 #[t_,t_,t_,t_,t_,t_,t_,t_,t_,t_,t_,t_,t_,f_,f_,f_,f_,f_,f_,f_,f_,f_,f_,f_,f_,f_,f_,f_,f_,f_,f_,f_,f_] ?_
              refine pA_ HT_ 13 86 #[t_,t_,t_,t_,t_,t_,t_,t_,t_,t_,t_,t_,t_,t_,f_,f_,f_,f_,f_,f_,f_,f_,f_,f_,f_,f_,f_,f_,f_,f_,f_,f_,f_] ?_
              refine pA_ HT_ 14 87 #[t_,t_,t_,t_,t_,t_,t_,t_,t_,t_,t_,t_,t_,t_,t_,f_,f_,f_,f_,f_,f_,f_,f_,f_,f_,f_,f_,f_,f_,f_,f_,f_,f_] ?_
              refine pA_ HT_ 15 88 #[t_,t_,t_,t_,t_,t_,t_,t_,t_,t_,t_,t_,t_,t_,t_,t_,f_,f_,f_,f_,f_,f_,f_,f_,f_,f_,f_,f_,f_,f_,f_,f_,f_] ?_
              refine pB_ HT_ 16 89 #[t_,t_,t_,t_,t_,t_,t_,t_,t_,t_,t_,t_,t_,t_,t_,t_,t_,f_,f_,f_,f_,f_,f_,f_,f_,f_,f_,f_,f_,f_,f_,f_,f_] ?_
              refine pB_ HT_ 17 90 #[t_,t_,t_,t_,t_,t_,t_,t_,t_,t_,t_,t_,t_,t_,t_,t_,t_,t_,f_,f_,f_,f_,f_,f_,f_,f_,f_,f_,f_,f_,f_,f_,f_] ?_
              refine pA_ HT_ 18 91 #[t_,t_,t_,t_,t_,t_,t_,t_,t_,t_,t_,t_,t_,t_,t_,t_,t_,t_,t_,f_,f_,f_,f_,f_,f_,f_,f_,f_,f_,f_,f_,f_,f_] ?_
              refine pA_ HT_ 19 92 #[t_,t_,t_,t_,t_,t_,t_,t_,t_,t_,t_,t_,t_,t_,t_,t_,t_,t_,t_,t_,f_,f_,f_,f_,f_,f_,f_,f_,f_,f_,f_,f_,f_] ?_
              refine pA_ HT_ 20 93 #[t_,t_,t_,t_,t_,t_,t_,t_,t_,t_,t_,t_,t_,t_,t_,t_,t_,t_,t_,t_,t_,f_,f_,f_,f_,f_,f_,f_,f_,f_,f_,f_,f_] ?_
              refine pA_ HT_ 21 94 #[t_,t_,t_,t_,t_,t_,t_,t_,t_,t_,t_,t_,t_,t_,t_,t_,t_,t_,t_,t_,t_,t_,f_,f_,f_,f_,f_,f_,f_,f_,f_,f_,f_] ?_
              refine pA_ HT_ 22 95 #[t_,t_,t_,t_,t_,t_,t_,t_,t_,t_,t_,t_,t_,t_,t_,t_,t_,t_,t_,t_,t_,t_,t_,f_,f_,f_,f_,f_,f_,f_,f_,f_,f_] ?_
              refine pB_ HT_ 23 96 #[t_,t_,t_,t_,t_,t_,t_,t_,t_,t_,t_,t_,t_,t_,t_,t_,t_,t_,t_,t_,t_,t_,t_,t_,f_,f_,f_,f_,f_,f_,f_,f_,f_] ?_
              refine pB_ HT_ 24 97 #[t_,t_,t_,t_,t_,t_,t_,t_,t_,t_,t_,t_,t_,t_,t_,t_,t_,t_,t_,t_,t_,t_,t_,t_,t_,f_,f_,f_,f_,f_,f_,f_,f_] ?_
              refine pA_ HT_ 25 98 #[t_,t_,t_,t_,t_,t_,t_,t_,t_,t_,t_,t_,t_,t_,t_,t_,t_,t_,t_,t_,t_,t_,t_,t_,t_,t_,f_,f_,f_,f_,f_,f_,f_] ?_
              refine pA_ HT_ 26 99 #[t_,t_,t_,t_,t_,t_,t_,t_,t_,t_,t_,t_,t_,t_,t_,t_,t_,t_,t_,t_,t_,t_,t_,t_,t_,t_,t_,f_,f_,f_,f_,f_,f_] ?_
              refine pA_ HT_ 27 100 #[t_,t_,t_,t_,t_,t_,t_,t_,t_,t_,t_,t_,t_,t_,t_,t_,t_,t_,t_,t_,t_,t_,t_,t_,t_,t_,t_,t_,f_,f_,f_,f_,f_] ?_
              refine pA_ HT_ 28 101 #[t_,t_,t_,t_,t_,t_,t_,t_,t_,t_,t_,t_,t_,t_,t_,t_,t_,t_,t_,t_,t_,t_,t_,t_,t_,t_,t_,t_,t_,f_,f_,f_,f_] ?_
              refine pA_ HT_ 29 102 #[t_,t_,t_,t_,t_,t_,t_,t_,t_,t_,t_,t_,t_,t_,t_,t_,t_,t_,t_,t_,t_,t_,t_,t_,t_,t_,t_,t_,t_,t_,f_,f_,f_] ?_
              refine pA_ HT_ 30 103 #[t_,t_,t_,t_,t_,t_,t_,t_,t_,t_,t_,t_,t_,t_,t_,t_,t_,t_,t_,t_,t_,t_,t_,t_,t_,t_,t_,t_,t_,t_,t_,f_,f_] ?_
              refine pA_ HT_ 31 104 #[t_,t_,t_,t_,t_,t_,t_,t_,t_,t_,t_,t_,t_,t_,t_,t_,t_,t_,t_,t_,t_,t_,t_,t_,t_,t_,t_,t_,t_,t_,t_,t_,f_] ?_
              refine pB_ HT_ 32 105 #[t_,t_,t_,t_,t_,t_,t_,t_,t_,t_,t_,t_,t_,t_,t_,t_,t_,t_,t_,t_,t_,t_,t_,t_,t_,t_,t_,t_,t_,t_,t_,t_,t_] ?_
              refine done_ (done_of HT_.out (by kernel_rfl)) ?_
              try go_wp2
              go_ret
              exact ⟨by first | rfl | (simp [errW_none, errW_some] <;> rfl) | (simp [*, errW_none, errW_some] <;> rfl), by repeat (first | (with_reducible first | exact HB.out | apply below_alloc | apply pw_below_drewN | apply below_drew1 | refine below_set ?_ GE458.out | refine below_set ?_ GE462.out | refine below_set ?_ GE469.out) | exact HB.out)⟩
            ·rw [if_neg c36] at H
             exact absurd H (by simp)
           ·rw [if_neg c35] at H
            exact absurd H (by simp)
          ·rw [if_neg c34] at H
           exact absurd H (by simp)
      ·rw [if_neg c12] at H
       exact absurd H (by simp)
     ·rw [if_neg c11] at H
      have c11b0 : decide (x6_1 < (t453.length : Int)) = false := decide_eq_false c11
      clear c11
      by_cases c114 : 0 ≤ x5_1
      ·rw [if_pos c114] at H
       have c114b0 := eq_true c114
       have c114b1 : decide (0 ≤ x5_1) = true := decide_eq_true c114
       clear c114
       by_cases c115 : x5_1 ≤ (a0.size : Int)
       ·rw [if_pos c115] at H
        have c115b0 := eq_true c115
        have c115b1 : decide (x5_1 ≤ (a0.size : Int)) = true := decide_eq_true c115
        clear c115
        replace H := Option.bind_eq_some_iff.mp H
        obtain ⟨t460, A1160, H⟩ := H
        replace H : (some t460) = some r := H
        have A116 := Aside0.mk A1160
        clear A1160
        obtain rfl := Option.some.inj H
        obtain ⟨Ao117, co117, eo117⟩ := Kd.R_slice HO_3.out
        subst eo117
        go_wp2_with (first | ((with_reducible refine gate_callee (f := 24) rfl ?_); refine goesL_ (some 111) rfl rfl Tryd.func24 (by kernel_rfl) rfl #[.string (a0.extract (x5_1 : Int).toNat a0.size), .bool true] rfl (by (try simp only [List.map_toArray, List.map_cons, List.map_nil]); first | done | rfl | (simp only [List.length_drop, List.length_take]; rfl) | (simp only [beq_nil_, bne_nil_]; rfl) | (simp only [ByteArray.size_extract, Nat.min_self]; rfl) | (refine (congrArg (fun z => #[_, Value.int .i64 z]) (?_ : _ = _)); rw [ByteArray.size_extract]; have h1_ := of_decide_eq_true c34b1; have h2_ := of_decide_eq_true c35b1; have h3_ := of_decide_eq_true c36b1; omega)) ?_; (with_reducible refine (hearsaylaw04_gap.calls k1 (a0.extract (x5_1 : Int).toNat a0.size) true t460 _ A116.out).mono ?_); rintro e w' ⟨rfl, ⟨nd, rfl⟩⟩; refine ⟨_, rfl, ?_⟩))
        go_ret
        exact ⟨by first | rfl | (simp [errW_none, errW_some] <;> rfl) | (simp [*, errW_none, errW_some] <;> rfl), by repeat (first | (with_reducible first | exact HB.out | apply below_alloc | apply pw_below_drewN | apply below_drew1 | refine below_set ?_ GE458.out) | exact HB.out)⟩
       ·rw [if_neg c115] at H
        exact absurd H (by simp)
      ·rw [if_neg c114] at H
       exact absurd H (by simp)
  ·rw [if_neg c5] at H
   have c5b0 : (t456 == 0) = false := beq_eq_false_iff_ne.mpr c5
   have c5b1 : (t456 != 0) = true := bne_iff_ne.mpr c5
   obtain rfl := Option.some.inj H
   go_enter Tryd.func8, Tryd.ntmps8
   go_wp2_with (first | ((with_reducible refine gate_callee (f := 14) rfl ?_); refine goesL_ (some 15) rfl rfl Tryd.func14 (by kernel_rfl) rfl #[.string a0, .int .i64 (a0.size : Int)] rfl (by (try simp only [List.map_toArray, List.map_cons, List.map_nil]); first | done | rfl | (simp only [List.length_drop, List.length_take]; rfl) | (simp only [beq_nil_, bne_nil_]; rfl) | (simp only [ByteArray.size_extract, Nat.min_self]; rfl) | (refine (congrArg (fun z => #[_, Value.int .i64 z]) (?_ : _ = _)); rw [ByteArray.size_extract]; have h1_ := of_decide_eq_true c34b1; have h2_ := of_decide_eq_true c35b1; have h3_ := of_decide_eq_true c36b1; omega)) ?_; (with_reducible refine (tokens_Cut.calls k a0 (a0.size : Int) t453 t456 t457 _ ?side1 A2.out).mono ?_); (case side1 => exact Gl.below HG.out (by repeat (first | (with_reducible first | exact HB.out | apply below_alloc | apply pw_below_drewN | apply below_drew1) | exact HB.out))); rintro e w118 ⟨v454, rfl, ho0, hb⟩; refine ⟨_, rfl, ?_⟩; have n0_ := Aside0.mk (Kd.R_lower ho0 (below_size (by repeat (first | (with_reducible first | exact HB.out | apply below_alloc | apply pw_below_drewN | apply below_drew1) | exact HB.out)))); have n1_ := Aside0.mk (below_step (by repeat (first | (with_reducible first | exact HB.out | apply below_alloc | apply pw_below_drewN | apply below_drew1) | exact HB.out)) hb); clear HB; have HO455 := n0_; have HB := n1_; clear n0_ n1_; (try clear hb); (try clear hb2); (try clear hk); (try clear hi); (try clear ho0)) | ((with_reducible refine gate_dst (N := 4) rfl ?_); (try (refine gate_guard (by rfl) ?_; dsimp only)); refine box_event ?hg (N := 4) ?hd (cs := #[.int .i64 0, .int .i64 0]) (t := 26) ?hr ?_; (case hd => rfl); (case hg => rfl); (case hr => first | (go_simp; done) | (go_simp; rfl)); intro gb458 hg w119 hbox hb; have n0_ := Aside0.mk (Kd.R_below (by (with_reducible repeat (first | apply Kd.R_alloc | apply Kd.R_drewN | apply Kd.R_drew)); exact HO455.out) hb); have n1_ := Aside0.mk (below_step (by repeat (first | (with_reducible first | exact HB.out | apply below_alloc | apply pw_below_drewN | apply below_drew1) | exact HB.out)) hb); have n2_ := Aside0.mk (hbox); have n3_ := Aside0.mk ((by rw [hg]; exact (below_size (by repeat (first | (with_reducible first | exact HB.out | apply below_alloc | apply pw_below_drewN | apply below_drew1) | exact HB.out))) : w.heap.size ≤ gb458)); have n4_ := Aside0.mk ((by rw [hg]; exact (below_size (by repeat (first | (with_reducible first | exact HB.out | apply below_alloc | apply pw_below_drewN | apply below_drew1) | exact HB.out))) : w.heap.size ≤ gb458)); clear HO455; clear HB; have HO455 := n0_; have HB := n1_; have BK458 := n2_; have GW458 := n3_; have GE458 := n4_; clear n0_ n1_ n2_ n3_ n4_; clear hb hbox hg; have hcz120_0 : w119.cell? ⟨gb458, 0, none⟩ = some (.int .i64 0) := (blk_cell BK458.out 0).trans rfl; have hcz120_1 : w119.cell? ⟨gb458, 1, none⟩ = some (.int .i64 0) := (blk_cell BK458.out 1).trans rfl; have hfz120_0 := blk_frozen BK458.out 0; have hfz120_1 := blk_frozen BK458.out 1) | ((with_reducible refine gate_callee (f := 17) rfl ?_); refine goesL_ (some 18) rfl rfl Tryd.func17 (by kernel_rfl) rfl #[] rfl (by (try simp only [List.map_toArray, List.map_cons, List.map_nil]); first | done | rfl | (simp only [List.length_drop, List.length_take]; rfl) | (simp only [beq_nil_, bne_nil_]; rfl) | (simp only [ByteArray.size_extract, Nat.min_self]; rfl) | (refine (congrArg (fun z => #[_, Value.int .i64 z]) (?_ : _ = _)); rw [ByteArray.size_extract]; have h1_ := of_decide_eq_true c34b1; have h2_ := of_decide_eq_true c35b1; have h3_ := of_decide_eq_true c36b1; omega)) ?_; (with_reducible refine (hearsaylaw04_head.calls k  true _ ?side1 A3.out).mono ?_); (case side1 => exact Gl.below HG.out (by repeat (first | (with_reducible first | exact HB.out | apply below_alloc | apply pw_below_drewN | apply below_drew1 | refine below_set ?_ GE458.out) | exact HB.out))); rintro e w121 ⟨rfl, hb⟩; refine ⟨_, rfl, ?_⟩; have n0_ := Aside0.mk (Kd.R_below (by (with_reducible repeat (first | apply Kd.R_alloc | apply Kd.R_drewN | apply Kd.R_drew)); exact (Kd.R_mono (Kd.R_far (p := ⟨gb458, 1, none⟩) (Kd.R_far (p := ⟨gb458, 0, none⟩) (Kd.R_types HO455.out BK458.out (by decide)) (fun _ hk => hk.2) (.int .i64 t456)) (fun _ hk => hk.2) (.int .i64 t457)) (fun _ h_ => h_.1))) hb); have n1_ := Aside0.mk (blk_below (g := gb458) (o := .cells #[.int .i64 t456, .int .i64 t457] 26 (0, 0)) (by (with_reducible repeat (first | refine blk_drewN ?_ _ | refine blk_drew ?_ | refine blk_alloc ?_ _)); refine blk_put (cs := #[.int .i64 t456, .int .i64 0]) ?_ 1 _ rfl; (with_reducible repeat (first | refine blk_drewN ?_ _ | refine blk_drew ?_ | refine blk_alloc ?_ _)); refine blk_put (cs := #[.int .i64 0, .int .i64 0]) ?_ 0 _ rfl; (with_reducible repeat (first | refine blk_drewN ?_ _ | refine blk_drew ?_ | refine blk_alloc ?_ _)); exact BK458.out) hb); have n2_ := Aside0.mk (below_step (by repeat (first | (with_reducible first | exact HB.out | apply below_alloc | apply pw_below_drewN | apply below_drew1 | refine below_set ?_ GE458.out) | exact HB.out)) hb); clear HO455; clear BK458; clear HB; have HO455 := n0_; have BK458 := n1_; have HB := n2_; clear n0_ n1_ n2_; (try clear hb); (try clear hb2); (try clear hk); (try clear hi); have hcz122_0 : w121.cell? ⟨gb458, 0, none⟩ = some (.int .i64 t456) := (blk_cell BK458.out 0).trans rfl; have hcz122_1 : w121.cell? ⟨gb458, 1, none⟩ = some (.int .i64 t457) := (blk_cell BK458.out 1).trans rfl; have hfz122_0 := blk_frozen BK458.out 0; have hfz122_1 := blk_frozen BK458.out 1))
   go_ret
   exact ⟨by first | rfl | (simp [errW_none, errW_some] <;> rfl) | (simp [*, errW_none, errW_some] <;> rfl), by repeat (first | (with_reducible first | exact HB.out | apply below_alloc | apply pw_below_drewN | apply below_drew1 | refine below_set ?_ GE458.out) | exact HB.out)⟩
 ·replace c4 := Bool.eq_false_iff.mpr c4
  subst c4
  have H1 : (some false) = some r := by rw [if_neg (show ¬ (false = true) by decide)] at H; exact H
  clear H
  have H := H1
  clear H1
  obtain rfl := Option.some.inj H
  go_enter Tryd.func8, Tryd.ntmps8
  go_wp2_with (first | ((with_reducible refine gate_callee (f := 14) rfl ?_); refine goesL_ (some 15) rfl rfl Tryd.func14 (by kernel_rfl) rfl #[.string a0, .int .i64 (a0.size : Int)] rfl (by (try simp only [List.map_toArray, List.map_cons, List.map_nil]); first | done | rfl | (simp only [List.length_drop, List.length_take]; rfl) | (simp only [beq_nil_, bne_nil_]; rfl) | (simp only [ByteArray.size_extract, Nat.min_self]; rfl) | (refine (congrArg (fun z => #[_, Value.int .i64 z]) (?_ : _ = _)); rw [ByteArray.size_extract]; have h1_ := of_decide_eq_true c34b1; have h2_ := of_decide_eq_true c35b1; have h3_ := of_decide_eq_true c36b1; omega)) ?_; (with_reducible refine (tokens_Cut.calls k a0 (a0.size : Int) t453 t456 t457 _ ?side1 A2.out).mono ?_); (case side1 => exact Gl.below HG.out (by repeat (first | (with_reducible first | exact HB.out | apply below_alloc | apply pw_below_drewN | apply below_drew1) | exact HB.out))); rintro e w123 ⟨v454, rfl, ho0, hb⟩; refine ⟨_, rfl, ?_⟩; have n0_ := Aside0.mk (Kd.R_lower ho0 (below_size (by repeat (first | (with_reducible first | exact HB.out | apply below_alloc | apply pw_below_drewN | apply below_drew1) | exact HB.out)))); have n1_ := Aside0.mk (below_step (by repeat (first | (with_reducible first | exact HB.out | apply below_alloc | apply pw_below_drewN | apply below_drew1) | exact HB.out)) hb); clear HB; have HO455 := n0_; have HB := n1_; clear n0_ n1_; (try clear hb); (try clear hb2); (try clear hk); (try clear hi); (try clear ho0)) | ((with_reducible refine gate_dst (N := 4) rfl ?_); (try (refine gate_guard (by rfl) ?_; dsimp only)); refine box_event ?hg (N := 4) ?hd (cs := #[.int .i64 0, .int .i64 0]) (t := 26) ?hr ?_; (case hd => rfl); (case hg => rfl); (case hr => first | (go_simp; done) | (go_simp; rfl)); intro gb458 hg w124 hbox hb; have n0_ := Aside0.mk (Kd.R_below (by (with_reducible repeat (first | apply Kd.R_alloc | apply Kd.R_drewN | apply Kd.R_drew)); exact HO455.out) hb); have n1_ := Aside0.mk (below_step (by repeat (first | (with_reducible first | exact HB.out | apply below_alloc | apply pw_below_drewN | apply below_drew1) | exact HB.out)) hb); have n2_ := Aside0.mk (hbox); have n3_ := Aside0.mk ((by rw [hg]; exact (below_size (by repeat (first | (with_reducible first | exact HB.out | apply below_alloc | apply pw_below_drewN | apply below_drew1) | exact HB.out))) : w.heap.size ≤ gb458)); have n4_ := Aside0.mk ((by rw [hg]; exact (below_size (by repeat (first | (with_reducible first | exact HB.out | apply below_alloc | apply pw_below_drewN | apply below_drew1) | exact HB.out))) : w.heap.size ≤ gb458)); clear HO455; clear HB; have HO455 := n0_; have HB := n1_; have BK458 := n2_; have GW458 := n3_; have GE458 := n4_; clear n0_ n1_ n2_ n3_ n4_; clear hb hbox hg; have hcz125_0 : w124.cell? ⟨gb458, 0, none⟩ = some (.int .i64 0) := (blk_cell BK458.out 0).trans rfl; have hcz125_1 : w124.cell? ⟨gb458, 1, none⟩ = some (.int .i64 0) := (blk_cell BK458.out 1).trans rfl; have hfz125_0 := blk_frozen BK458.out 0; have hfz125_1 := blk_frozen BK458.out 1) | ((with_reducible refine gate_callee (f := 17) rfl ?_); refine goesL_ (some 18) rfl rfl Tryd.func17 (by kernel_rfl) rfl #[] rfl (by (try simp only [List.map_toArray, List.map_cons, List.map_nil]); first | done | rfl | (simp only [List.length_drop, List.length_take]; rfl) | (simp only [beq_nil_, bne_nil_]; rfl) | (simp only [ByteArray.size_extract, Nat.min_self]; rfl) | (refine (congrArg (fun z => #[_, Value.int .i64 z]) (?_ : _ = _)); rw [ByteArray.size_extract]; have h1_ := of_decide_eq_true c34b1; have h2_ := of_decide_eq_true c35b1; have h3_ := of_decide_eq_true c36b1; omega)) ?_; (with_reducible refine (hearsaylaw04_head.calls k  false _ ?side1 A3.out).mono ?_); (case side1 => exact Gl.below HG.out (by repeat (first | (with_reducible first | exact HB.out | apply below_alloc | apply pw_below_drewN | apply below_drew1 | refine below_set ?_ GE458.out) | exact HB.out))); rintro e w126 ⟨rfl, hb⟩; refine ⟨_, rfl, ?_⟩; have n0_ := Aside0.mk (Kd.R_below (by (with_reducible repeat (first | apply Kd.R_alloc | apply Kd.R_drewN | apply Kd.R_drew)); exact (Kd.R_mono (Kd.R_far (p := ⟨gb458, 1, none⟩) (Kd.R_far (p := ⟨gb458, 0, none⟩) (Kd.R_types HO455.out BK458.out (by decide)) (fun _ hk => hk.2) (.int .i64 t456)) (fun _ hk => hk.2) (.int .i64 t457)) (fun _ h_ => h_.1))) hb); have n1_ := Aside0.mk (blk_below (g := gb458) (o := .cells #[.int .i64 t456, .int .i64 t457] 26 (0, 0)) (by (with_reducible repeat (first | refine blk_drewN ?_ _ | refine blk_drew ?_ | refine blk_alloc ?_ _)); refine blk_put (cs := #[.int .i64 t456, .int .i64 0]) ?_ 1 _ rfl; (with_reducible repeat (first | refine blk_drewN ?_ _ | refine blk_drew ?_ | refine blk_alloc ?_ _)); refine blk_put (cs := #[.int .i64 0, .int .i64 0]) ?_ 0 _ rfl; (with_reducible repeat (first | refine blk_drewN ?_ _ | refine blk_drew ?_ | refine blk_alloc ?_ _)); exact BK458.out) hb); have n2_ := Aside0.mk (below_step (by repeat (first | (with_reducible first | exact HB.out | apply below_alloc | apply pw_below_drewN | apply below_drew1 | refine below_set ?_ GE458.out) | exact HB.out)) hb); clear HO455; clear BK458; clear HB; have HO455 := n0_; have BK458 := n1_; have HB := n2_; clear n0_ n1_ n2_; (try clear hb); (try clear hb2); (try clear hk); (try clear hi)))
  go_ret
  exact ⟨by first | rfl | (simp [errW_none, errW_some] <;> rfl) | (simp [*, errW_none, errW_some] <;> rfl), by repeat (first | (with_reducible first | exact HB.out | apply below_alloc | apply pw_below_drewN | apply below_drew1 | refine below_set ?_ GE458.out) | exact HB.out)⟩

end Go.Proofs.YtmpaipbpnkfmfaaDoor.P
