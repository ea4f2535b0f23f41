/- THE PROGRAM's FUNCTIONS AS PLAIN LEAN FUNCTIONS, and proofs that its calls come to them: written by a program of this claim's own. Conditions: as each theorem states. -/
import Derived.Test.YtmpaipbpnkfmfaaDoorPx0
import Derived.Test.YtmpaipbpnkfmfaaDoorPx1
import Derived.Test.YtmpaipbpnkfmfaaDoorPx6
import Derived.Test.YtmpaipbpnkfmfaaDoorPx14
import Derived.Test.YtmpaipbpnkfmfaaDoorPx19
import Derived.Test.YtmpaipbpnkfmfaaDoorPx27
import Derived.Test.YtmpaipbpnkfmfaaDoorGl
namespace Go.Proofs.YtmpaipbpnkfmfaaDoor.P
open Go.RowKit Go.Proofs.YtmpaipbpnkfmfaaDoorW.PrintWords Go.Proofs.YtmpaipbpnkfmfaaDoorW.PrintLast Go.Proofs.YtmpaipbpnkfmfaaDoorW.PrintMore
attribute [local go_sem] max2_int min2_int max_two min_two max_three min_three max_four min_four   -- for this text's walks alone
set_option linter.unusedVariables false
set_option linter.unusedSimpArgs false

attribute [local go_sem high] isSome_setCell_
attribute [local go_sem high] eqA26
/-! ### hearsaylaw04_TokensCuts: function 3 -/
mutual
def hearsaylaw04_TokensCuts.j0 : Nat → ByteArray → List Int → Bool → Option (Bool)
 | 0, _, _, _ => none
 | k + 1, x0, x2, x33 => if x33 = true then (some false) else (hearsaylaw04_TokensCuts.l0 k x0 x2 0)
def hearsaylaw04_TokensCuts.l0 : Nat → ByteArray → List Int → Int → Option (Bool)
 | 0, _, _, _ => none
 | k + 1, x0, x2, x11 => if x11 < (x2.length : Int) then (if 0 ≤ x11 then (if (rd x2 x11) < 0 then (hearsaylaw04_TokensCuts.j2 k x0 x2 x11 true) else (hearsaylaw04_TokensCuts.j2 k x0 x2 x11 (decide ((rd x2 x11) > (x0.size : Int))))) else (none)) else ((hearsaylaw04_head.f k).bind fun t531 => (some t531))
def hearsaylaw04_TokensCuts.j2 : Nat → ByteArray → List Int → Int → Bool → Option (Bool)
 | 0, _, _, _, _ => none
 | k + 1, x0, x2, x11, x53 => if x53 = true then (hearsaylaw04_TokensCuts.l0 k x0 x2 (wrap64 (x11 + 1))) else (if 0 ≤ x11 then (if x11 < (x2.length : Int) then (if 0 ≤ (rd x2 x11) then (if (rd x2 x11) ≤ (x0.size : Int) then ((tokens_Cut.f k (x0.extract 0 ((rd x2 x11) : Int).toNat) ((x0.extract 0 ((rd x2 x11) : Int).toNat).size : Int)).bind fun bt535 => ((hearsayref04_Cut.f k (x0.extract 0 ((rd x2 x11) : Int).toNat) ((x0.extract 0 ((rd x2 x11) : Int).toNat).size : Int)).bind fun bt540 => (if (!(bt535.2.1 == bt540.2.1) || (!(bt535.2.2 == bt540.2.2))) = true then (some false) else ((hearsaylaw04_same.f k bt535.1 bt540.1).bind fun t545 => (if t545 = true then (hearsaylaw04_TokensCuts.l0 k x0 x2 (wrap64 (x11 + 1))) else (some false)))))) else (none)) else (none)) else (none)) else (none))
end
def hearsaylaw04_TokensCuts.f (k : Nat) (a0 : ByteArray) (a1 : Int) (l2 : List Int) : Option (Bool) := (tokens_Cut.f k a0 a1).bind fun bt518 => ((hearsayref04_Cut.f k a0 a1).bind fun bt524 => (if (!(bt518.2.1 == bt524.2.1) || (!(bt518.2.2 == bt524.2.2))) = true then (hearsaylaw04_TokensCuts.j0 k a0 l2 true) else ((hearsaylaw04_same.f k bt518.1 bt524.1).bind fun t530 => (hearsaylaw04_TokensCuts.j0 k a0 l2 (!t530)))))
theorem hearsaylaw04_TokensCuts.mono_l : ∀ k, (∀ y0 y1 y2, LeO (hearsaylaw04_TokensCuts.j0 k y0 y1 y2) (hearsaylaw04_TokensCuts.j0 (k + 1) y0 y1 y2)) ∧ (∀ y0 y1 y2, LeO (hearsaylaw04_TokensCuts.l0 k y0 y1 y2) (hearsaylaw04_TokensCuts.l0 (k + 1) y0 y1 y2)) ∧ (∀ y0 y1 y2 y3, LeO (hearsaylaw04_TokensCuts.j2 k y0 y1 y2 y3) (hearsaylaw04_TokensCuts.j2 (k + 1) y0 y1 y2 y3))
 | 0 => ⟨fun _ _ _ r h => by simp [hearsaylaw04_TokensCuts.j0] at h, fun _ _ _ r h => by simp [hearsaylaw04_TokensCuts.l0] at h, fun _ _ _ _ r h => by simp [hearsaylaw04_TokensCuts.j2] at h⟩
 | k + 1 => by
  obtain ⟨ih0, ih1, ih2⟩ := hearsaylaw04_TokensCuts.mono_l k
  refine ⟨?_, ?_, ?_⟩
  ·intro y0 y1 y2
   unfold hearsaylaw04_TokensCuts.j0
   repeat' first
   | (with_reducible exact ih0 _ _ _)
   | (with_reducible exact ih1 _ _ _)
   | (with_reducible exact ih2 _ _ _ _)
   | (with_reducible exact hearsaylaw04_head.mono _)
   | (with_reducible exact hearsaylaw04_same.mono _ _ _)
   | (with_reducible exact hearsayref04_Cut.mono _ _ _)
   | (with_reducible exact tokens_Cut.mono _ _ _)
   | (with_reducible exact LeO.refl _)
   | (with_reducible exact LeO.none _)
   | (with_reducible refine LeO.ite ?_ ?_)
   | (with_reducible refine LeO.bind ?_ (fun _ => ?_))
   | exact ih0 _ _ _
   | exact ih1 _ _ _
   | exact ih2 _ _ _ _
   | exact hearsaylaw04_head.mono _
   | exact hearsaylaw04_same.mono _ _ _
   | exact hearsayref04_Cut.mono _ _ _
   | exact tokens_Cut.mono _ _ _
   | exact LeO.none _
   | refine LeO.ite ?_ ?_
   | refine LeO.bind ?_ (fun _ => ?_)
  ·intro y0 y1 y2
   unfold hearsaylaw04_TokensCuts.l0
   repeat' first
   | (with_reducible exact ih0 _ _ _)
   | (with_reducible exact ih1 _ _ _)
   | (with_reducible exact ih2 _ _ _ _)
   | (with_reducible exact hearsaylaw04_head.mono _)
   | (with_reducible exact hearsaylaw04_same.mono _ _ _)
   | (with_reducible exact hearsayref04_Cut.mono _ _ _)
   | (with_reducible exact tokens_Cut.mono _ _ _)
   | (with_reducible exact LeO.refl _)
   | (with_reducible exact LeO.none _)
   | (with_reducible refine LeO.ite ?_ ?_)
   | (with_reducible refine LeO.bind ?_ (fun _ => ?_))
   | exact ih0 _ _ _
   | exact ih1 _ _ _
   | exact ih2 _ _ _ _
   | exact hearsaylaw04_head.mono _
   | exact hearsaylaw04_same.mono _ _ _
   | exact hearsayref04_Cut.mono _ _ _
   | exact tokens_Cut.mono _ _ _
   | exact LeO.none _
   | refine LeO.ite ?_ ?_
   | refine LeO.bind ?_ (fun _ => ?_)
  ·intro y0 y1 y2 y3
   unfold hearsaylaw04_TokensCuts.j2
   repeat' first
   | (with_reducible exact ih0 _ _ _)
   | (with_reducible exact ih1 _ _ _)
   | (with_reducible exact ih2 _ _ _ _)
   | (with_reducible exact hearsaylaw04_head.mono _)
   | (with_reducible exact hearsaylaw04_same.mono _ _ _)
   | (with_reducible exact hearsayref04_Cut.mono _ _ _)
   | (with_reducible exact tokens_Cut.mono _ _ _)
   | (with_reducible exact LeO.refl _)
   | (with_reducible exact LeO.none _)
   | (with_reducible refine LeO.ite ?_ ?_)
   | (with_reducible refine LeO.bind ?_ (fun _ => ?_))
   | exact ih0 _ _ _
   | exact ih1 _ _ _
   | exact ih2 _ _ _ _
   | exact hearsaylaw04_head.mono _
   | exact hearsaylaw04_same.mono _ _ _
   | exact hearsayref04_Cut.mono _ _ _
   | exact tokens_Cut.mono _ _ _
   | exact LeO.none _
   | refine LeO.ite ?_ ?_
   | refine LeO.bind ?_ (fun _ => ?_)
theorem hearsaylaw04_TokensCuts.mono : ∀ a0 a1 a2 k, LeO (hearsaylaw04_TokensCuts.f k a0 a1 a2) (hearsaylaw04_TokensCuts.f (k + 1) a0 a1 a2) := by
 intro a0 a1 a2 k
 obtain ⟨ih0, ih1, ih2⟩ := hearsaylaw04_TokensCuts.mono_l k
 unfold hearsaylaw04_TokensCuts.f
 repeat' first
   | (with_reducible exact ih0 _ _ _)
   | (with_reducible exact ih1 _ _ _)
   | (with_reducible exact ih2 _ _ _ _)
   | (with_reducible exact hearsaylaw04_head.mono _)
   | (with_reducible exact hearsaylaw04_same.mono _ _ _)
   | (with_reducible exact hearsayref04_Cut.mono _ _ _)
   | (with_reducible exact tokens_Cut.mono _ _ _)
   | (with_reducible exact LeO.refl _)
   | (with_reducible exact LeO.none _)
   | (with_reducible refine LeO.ite ?_ ?_)
   | (with_reducible refine LeO.bind ?_ (fun _ => ?_))
   | exact ih0 _ _ _
   | exact ih1 _ _ _
   | exact ih2 _ _ _ _
   | exact hearsaylaw04_head.mono _
   | exact hearsaylaw04_same.mono _ _ _
   | exact hearsayref04_Cut.mono _ _ _
   | exact tokens_Cut.mono _ _ _
   | exact LeO.none _
   | refine LeO.ite ?_ ?_
   | refine LeO.bind ?_ (fun _ => ?_)
set_option maxHeartbeats 20000000 in
set_option maxRecDepth 100000 in
theorem hearsaylaw04_TokensCuts.calls (k : Nat) (a0 : ByteArray) (a1 : Int) (A2 : Option Addr) (c2 : Nat) (l2 : List Int) (r : Bool) (w : World) (hr2 : Kd.C (Kd.int .i64) w A2 l2.length l2) (hc2 : l2.length ≤ c2) (hG : GlR w) (h : hearsaylaw04_TokensCuts.f k a0 a1 l2 = some r) :
  Calls Tryd.prog 3 #[.string a0, .int .i64 a1, .slice A2 l2.length c2] w fun e w' => e = .returned (.bool r) ∧ Below w.heap.size w w' := by
 have hu26 := Tryd.underlying26
 have HG := Aside0.mk hG
 clear hG
 have HR2 := Aside0.mk hr2
 have HC2 := Aside0.mk hc2
 clear hr2 hc2
 have HB := Aside0.mk (Below.refl w.heap.size w)
 have H : ((tokens_Cut.f k a0 a1).bind fun bt518 => ((hearsayref04_Cut.f k a0 a1).bind fun bt524 => (if (!(bt518.2.1 == bt524.2.1) || (!(bt518.2.2 == bt524.2.2))) = true then (hearsaylaw04_TokensCuts.j0 k a0 l2 true) else ((hearsaylaw04_same.f k bt518.1 bt524.1).bind fun t530 => (hearsaylaw04_TokensCuts.j0 k a0 l2 (!t530)))))) = some r := h
 clear h
 replace H := Option.bind_eq_some_iff.mp H
 obtain ⟨⟨t518, t521, t522⟩, A40, H⟩ := H
 replace H : ((hearsayref04_Cut.f k a0 a1).bind fun bt524 => (if (!(t521 == bt524.2.1) || (!(t522 == bt524.2.2))) = true then (hearsaylaw04_TokensCuts.j0 k a0 l2 true) else ((hearsaylaw04_same.f k t518 bt524.1).bind fun t530 => (hearsaylaw04_TokensCuts.j0 k a0 l2 (!t530))))) = some r := H
 have A4 := Aside0.mk A40
 clear A40
 replace H := Option.bind_eq_some_iff.mp H
 obtain ⟨⟨t524, t527, t528⟩, A50, H⟩ := H
 replace H : (if (!(t521 == t527) || (!(t522 == t528))) = true then (hearsaylaw04_TokensCuts.j0 k a0 l2 true) else ((hearsaylaw04_same.f k t518 t524).bind fun t530 => (hearsaylaw04_TokensCuts.j0 k a0 l2 (!t530)))) = some r := H
 have A5 := Aside0.mk A50
 clear A50
 have HC6 := Aside0.mk H
 clear H
 go_enter Tryd.func3, Tryd.ntmps3
 go_upto_region 3 with (first | ((with_reducible refine gate_callee (f := 14) rfl ?_); refine goesL_ (some 16) rfl rfl Tryd.func14 (by kernel_rfl) rfl #[.string a0, .int .i64 a1] rfl (by (try simp only [List.map_toArray, List.map_cons, List.map_nil]); first | done | rfl | (simp only [List.length_drop, List.length_take]; rfl) | (simp only [beq_nil_, bne_nil_]; rfl) | (simp only [ByteArray.size_extract, Nat.min_self]; rfl) | (refine (congrArg (fun z => #[_, Value.int .i64 z]) (?_ : _ = _)); rw [ByteArray.size_extract]; have h1_ := of_decide_eq_true c32b1; have h2_ := of_decide_eq_true c33b1; omega)) ?_; (with_reducible refine (tokens_Cut.calls k a0 a1 t518 t521 t522 _ ?side1 A4.out).mono ?_); (case side1 => exact Gl.below HG.out.gl h0_); rintro e w7 ⟨v519, rfl, ho0, hb⟩; refine ⟨_, rfl, ?_⟩; have n0_ := Aside0.mk (Kd.R_lower ho0 (below_size h0_)); have n1_ := Aside0.mk (below_step h0_ hb); clear HB; have HO520 := n0_; have HB := n1_; clear n0_ n1_; (try clear hb); (try clear hb2); (try clear hk); (try clear hi); (try clear ho0)) | ((with_reducible refine gate_dst (N := 8) rfl ?_); (try (refine gate_guard (by rfl) ?_; dsimp only)); refine box_event ?hg (N := 8) ?hd (cs := #[.int .i64 0, .int .i64 0]) (t := 26) ?hr ?_; (case hd => rfl); (case hg => rfl); (case hr => first | (go_simp; done) | (go_simp; rfl)); intro gb523 hg w8 hbox hb; have n0_ := Aside0.mk (Kd.R_below (rk_ HO520) hb); have n1_ := Aside0.mk (below_step h0_ hb); have n2_ := Aside0.mk (hbox); have n3_ := Aside0.mk ((by rw [hg]; exact (below_size h0_) : w.heap.size ≤ gb523)); have n4_ := Aside0.mk ((by rw [hg]; exact (below_size h0_) : w.heap.size ≤ gb523)); clear HO520; clear HB; have HO520 := n0_; have HB := n1_; have BK523 := n2_; have GW523 := n3_; have GE523 := n4_; clear n0_ n1_ n2_ n3_ n4_; clear hb hbox hg; have hcz9_0 : w8.cell? ⟨gb523, 0, none⟩ = some (.int .i64 0) := (blk_cell BK523.out 0).trans rfl; have hcz9_1 : w8.cell? ⟨gb523, 1, none⟩ = some (.int .i64 0) := (blk_cell BK523.out 1).trans rfl; have hfz9_0 := blk_frozen BK523.out 0; have hfz9_1 := blk_frozen BK523.out 1) | ((with_reducible refine gate_callee (f := 15) rfl ?_); refine goesL_ (some 22) rfl rfl Tryd.func15 (by kernel_rfl) rfl #[.string a0, .int .i64 a1] rfl (by (try simp only [List.map_toArray, List.map_cons, List.map_nil]); first | done | rfl | (simp only [List.length_drop, List.length_take]; rfl) | (simp only [beq_nil_, bne_nil_]; rfl) | (simp only [ByteArray.size_extract, Nat.min_self]; rfl) | (refine (congrArg (fun z => #[_, Value.int .i64 z]) (?_ : _ = _)); rw [ByteArray.size_extract]; have h1_ := of_decide_eq_true c32b1; have h2_ := of_decide_eq_true c33b1; omega)) ?_; (with_reducible refine (hearsayref04_Cut.calls k a0 a1 t524 t527 t528 _ ?side1 A5.out).mono ?_); (case side1 => exact GlR.below HG.out h1_); rintro e w10 ⟨v525, rfl, ho0, hb⟩; refine ⟨_, rfl, ?_⟩; have n0_ := Aside0.mk (Kd.R_elder' (by (with_reducible repeat (first | apply Kd.R_alloc | apply Kd.R_drewN | apply Kd.R_drew)); exact (Kd.R_mono (Kd.R_far (p := ⟨gb523, 1, none⟩) (Kd.R_far (p := ⟨gb523, 0, none⟩) (Kd.R_types HO520.out BK523.out (by decide)) (fun _ hk => hk.2) (.int .i64 t521)) (fun _ hk => hk.2) (.int .i64 t522)) (fun _ h_ => h_.1))) (Kd.R_base ho0) hb); have n1_ := Aside0.mk (Kd.R_lower (Kd.R_new' ho0 (Kd.R_lt (by (with_reducible repeat (first | apply Kd.R_alloc | apply Kd.R_drewN | apply Kd.R_drew)); exact (Kd.R_mono (Kd.R_far (p := ⟨gb523, 1, none⟩) (Kd.R_far (p := ⟨gb523, 0, none⟩) (Kd.R_types HO520.out BK523.out (by decide)) (fun _ hk => hk.2) (.int .i64 t521)) (fun _ hk => hk.2) (.int .i64 t522)) (fun _ h_ => h_.1))))) (below_size h1_)); have n2_ := Aside0.mk (blk_below (g := gb523) (o := .cells #[.int .i64 t521, .int .i64 t522] 26 (0, 0)) (by (with_reducible repeat first|apply bk1_|apply bk2_|apply bk3_); refine blk_put (cs := #[.int .i64 t521, .int .i64 0]) ?_ 1 _ rfl; (with_reducible repeat first|apply bk1_|apply bk2_|apply bk3_); refine blk_put (cs := #[.int .i64 0, .int .i64 0]) ?_ 0 _ rfl; (with_reducible repeat first|apply bk1_|apply bk2_|apply bk3_); exact BK523.out) hb); have n3_ := Aside0.mk (below_step h1_ hb); clear HO520; clear BK523; clear HB; have HO520 := n0_; have HO526 := n1_; have BK523 := n2_; have HB := n3_; clear n0_ n1_ n2_ n3_; (try clear hb); (try clear hb2); (try clear hk); (try clear hi); (try clear ho0)) | ((with_reducible refine gate_dst (N := 10) rfl ?_); (try (refine gate_guard (by rfl) ?_; dsimp only)); refine box_event ?hg (N := 10) ?hd (cs := #[.int .i64 0, .int .i64 0]) (t := 26) ?hr ?_; (case hd => rfl); (case hg => rfl); (case hr => first | (go_simp; done) | (go_simp; rfl)); intro gb529 hg w11 hbox hb; have n0_ := Aside0.mk (Kd.R_below (rk_ HO520) hb); have n1_ := Aside0.mk (Kd.R_below (rk_ HO526) hb); have n2_ := Aside0.mk (blk_below (g := gb523) (o := .cells #[.int .i64 t521, .int .i64 t522] 26 (0, 0)) (bk_ BK523) hb); have n3_ := Aside0.mk (below_step h1_ hb); have n4_ := Aside0.mk (hbox); have n5_ := Aside0.mk ((by rw [hg]; exact (below_size h1_) : w.heap.size ≤ gb529)); have n6_ := Aside0.mk ((by rw [hg]; exact (below_size h1_) : w.heap.size ≤ gb529)); have n7_ := Aside0.mk ((by rw [hg]; exact Nat.ne_of_lt (blk_lt (g := gb523) (o := .cells #[.int .i64 t521, .int .i64 t522] 26 (0, 0)) (bk_ BK523)) : gb523 ≠ gb529)); have n8_ := Aside0.mk ((by rw [hg]; exact Nat.ne_of_gt (blk_lt (g := gb523) (o := .cells #[.int .i64 t521, .int .i64 t522] 26 (0, 0)) (bk_ BK523)) : gb529 ≠ gb523)); clear HO520; clear HO526; clear BK523; clear HB; have HO520 := n0_; have HO526 := n1_; have BK523 := n2_; have HB := n3_; have BK529 := n4_; have GW529 := n5_; have GE529 := n6_; have NB523_529 := n7_; have NB529_523 := n8_; clear n0_ n1_ n2_ n3_ n4_ n5_ n6_ n7_ n8_; clear hb hbox hg; have hnb12 := NB529_523.out; have hnc12 := NB523_529.out; have hcz13_0 : w11.cell? ⟨gb529, 0, none⟩ = some (.int .i64 0) := (blk_cell BK529.out 0).trans rfl; have hcz13_1 : w11.cell? ⟨gb529, 1, none⟩ = some (.int .i64 0) := (blk_cell BK529.out 1).trans rfl; have hfz13_0 := blk_frozen BK529.out 0; have hfz13_1 := blk_frozen BK529.out 1))
 (try simp only [Act.put, List.setIfInBounds_toArray, List.set_cons_zero, List.set_cons_succ])
 go_cut [33] (fun v33 wc => ∃ (kq : Nat) (x33_5 : Bool), v33 = .bool x33_5 ∧ Aside0 (hearsaylaw04_TokensCuts.j0 kq a0 l2 x33_5 = some r) ∧ Aside0 (kq ≤ k) ∧ Aside0 (wc.heap[gb523]? = some (.cells #[.int .i64 t521, .int .i64 t522] 26 (0, 0))) ∧ Aside0 (wc.heap[gb529]? = some (.cells #[.int .i64 t527, .int .i64 t528] 26 (0, 0))) ∧ Aside0 (Below w.heap.size w wc))
 case first =>
  have H := HC6.out
  clear HC6
  by_cases c14 : (!(t521 == t527) || (!(t522 == t528))) = true
  ·rw [if_pos c14] at H
   have c14b0 : (!(t521 == t527) || (!(t522 == t528))) = true := c14
   clear c14
   (first | rw [c14b0] | (simp only [i64_w, i32_w]; rw [c14b0]) | skip)
   have H' := Aside0.mk H
   clear H
   have hnb15 := NB523_529.out
   have hnc15 := NB529_523.out
   have hcz16_0 : w11.cell? ⟨gb523, 0, none⟩ = some (.int .i64 t521) := (blk_cell BK523.out 0).trans rfl
   have hcz16_1 : w11.cell? ⟨gb523, 1, none⟩ = some (.int .i64 t522) := (blk_cell BK523.out 1).trans rfl
   have hfz16_0 := blk_frozen BK523.out 0
   have hfz16_1 := blk_frozen BK523.out 1
   have hcz17_0 : w11.cell? ⟨gb529, 0, none⟩ = some (.int .i64 0) := (blk_cell BK529.out 0).trans rfl
   have hcz17_1 : w11.cell? ⟨gb529, 1, none⟩ = some (.int .i64 0) := (blk_cell BK529.out 1).trans rfl
   have hfz17_0 := blk_frozen BK529.out 0
   have hfz17_1 := blk_frozen BK529.out 1
   go_wp2
   go_meet
   case rel => exact ⟨_, (true), eq_, H', ⟨by first | omega | exact Nat.le_refl _⟩, ⟨by (with_reducible repeat first|apply bk1_|apply bk2_|apply bk3_); refine blk_far ?_ NB523_529.out _; (with_reducible repeat first|apply bk1_|apply bk2_|apply bk3_); refine blk_far ?_ NB523_529.out _; (with_reducible repeat first|apply bk1_|apply bk2_|apply bk3_); exact BK523.out⟩, ⟨by (with_reducible repeat first|apply bk1_|apply bk2_|apply bk3_); refine blk_put (cs := #[.int .i64 t527, .int .i64 0]) ?_ 1 _ rfl; (with_reducible repeat first|apply bk1_|apply bk2_|apply bk3_); refine blk_put (cs := #[.int .i64 0, .int .i64 0]) ?_ 0 _ rfl; (with_reducible repeat first|apply bk1_|apply bk2_|apply bk3_); exact BK529.out⟩, ⟨h1_⟩⟩
  ·rw [if_neg c14] at H
   have c14b0 : (!(t521 == t527) || (!(t522 == t528))) = false := by simpa using c14
   clear c14
   (first | rw [c14b0] | (simp only [i64_w, i32_w]; rw [c14b0]) | skip)
   replace H := Option.bind_eq_some_iff.mp H
   obtain ⟨t530, A180, H⟩ := H
   replace H : (hearsaylaw04_TokensCuts.j0 k a0 l2 (!t530)) = some r := H
   have A18 := Aside0.mk A180
   clear A180
   have H' := Aside0.mk H
   clear H
   have hnb19 := NB523_529.out
   have hnc19 := NB529_523.out
   have hcz20_0 : w11.cell? ⟨gb523, 0, none⟩ = some (.int .i64 t521) := (blk_cell BK523.out 0).trans rfl
   have hcz20_1 : w11.cell? ⟨gb523, 1, none⟩ = some (.int .i64 t522) := (blk_cell BK523.out 1).trans rfl
   have hfz20_0 := blk_frozen BK523.out 0
   have hfz20_1 := blk_frozen BK523.out 1
   have hcz21_0 : w11.cell? ⟨gb529, 0, none⟩ = some (.int .i64 0) := (blk_cell BK529.out 0).trans rfl
   have hcz21_1 : w11.cell? ⟨gb529, 1, none⟩ = some (.int .i64 0) := (blk_cell BK529.out 1).trans rfl
   have hfz21_0 := blk_frozen BK529.out 0
   have hfz21_1 := blk_frozen BK529.out 1
   obtain ⟨Ao22, co22, eo22⟩ := Kd.R_slice HO520.out
   subst eo22
   obtain ⟨Ao23, co23, eo23⟩ := Kd.R_slice HO526.out
   subst eo23
   go_wp2_with (first | (go_at_call 16; (with_reducible refine (hearsaylaw04_same.calls k _ _ t518 _ _ t524 t530 _ ?side1 ?side2 ?side3 ?side4 A18.out).mono ?_); (case side1 => refine (Kd.R_reads' (e := 33) (base := w.heap.size) (ok := fun k_ => (True ∧ some k_ ≠ (.slice Ao23 t524.length co23 : Value).ownBlock)) (n := t518.length) (c := co22) ?_).2.2; exact (by (with_reducible repeat (first | apply Kd.R_alloc | apply Kd.R_drewN | apply Kd.R_drew)); exact (Kd.R_mono (Kd.R_far (p := ⟨gb529, 1, none⟩) (Kd.R_far (p := ⟨gb529, 0, none⟩) (Kd.R_types HO520.out BK529.out (by decide)) (fun _ hk => hk.2) (.int .i64 t527)) (fun _ hk => hk.2) (.int .i64 t528)) (fun _ h_ => h_.1)))); (case side2 => exact (Kd.R_reads' HO520.out).2.1); (case side3 => refine (Kd.R_reads' (e := 33) (base := w.heap.size) (ok := fun k_ => (True ∧ some k_ ≠ (.slice Ao22 t518.length co22 : Value).ownBlock)) (n := t524.length) (c := co23) ?_).2.2; exact (by (with_reducible repeat (first | apply Kd.R_alloc | apply Kd.R_drewN | apply Kd.R_drew)); exact (Kd.R_mono (Kd.R_far (p := ⟨gb529, 1, none⟩) (Kd.R_far (p := ⟨gb529, 0, none⟩) (Kd.R_types HO526.out BK529.out (by decide)) (fun _ hk => hk.2) (.int .i64 t527)) (fun _ hk => hk.2) (.int .i64 t528)) (fun _ h_ => h_.1)))); (case side4 => exact (Kd.R_reads' HO526.out).2.1); rintro e w' ⟨rfl, ⟨nd, rfl⟩⟩))
   go_meet
   case rel => exact ⟨_, (!t530), eq_, H', ⟨by first | omega | exact Nat.le_refl _⟩, ⟨by (with_reducible repeat first|apply bk1_|apply bk2_|apply bk3_); refine blk_far ?_ NB523_529.out _; (with_reducible repeat first|apply bk1_|apply bk2_|apply bk3_); refine blk_far ?_ NB523_529.out _; (with_reducible repeat first|apply bk1_|apply bk2_|apply bk3_); exact BK523.out⟩, ⟨by (with_reducible repeat first|apply bk1_|apply bk2_|apply bk3_); refine blk_put (cs := #[.int .i64 t527, .int .i64 0]) ?_ 1 _ rfl; (with_reducible repeat first|apply bk1_|apply bk2_|apply bk3_); refine blk_put (cs := #[.int .i64 0, .int .i64 0]) ?_ 0 _ rfl; (with_reducible repeat first|apply bk1_|apply bk2_|apply bk3_); exact BK529.out⟩, ⟨h1_⟩⟩
 case rest =>
  clear HC6
  try clear c1
  try clear c2
  try clear p2
  try clear c3
  try clear c12
  try clear c14
  try clear c14b0
  try clear c15
  try clear c19
  try clear hcz13_0
  try clear hcz13_1
  try clear hcz16_0
  try clear hcz16_1
  try clear hcz17_0
  try clear hcz17_1
  try clear hcz20_0
  try clear hcz20_1
  try clear hcz21_0
  try clear hcz21_1
  try clear hcz9_0
  try clear hcz9_1
  try clear hfz13_0
  try clear hfz13_1
  try clear hfz16_0
  try clear hfz16_1
  try clear hfz17_0
  try clear hfz17_1
  try clear hfz20_0
  try clear hfz20_1
  try clear hfz21_0
  try clear hfz21_1
  try clear hfz9_0
  try clear hfz9_1
  obtain ⟨kq, x33_5, rfl, HA, HJ5, BK523, BK529, HB⟩ := hcut
  cases kq with
  | zero => exact absurd HA.out (by simp [hearsaylaw04_TokensCuts.j0])
  | succ kj5 =>
   have H := HA.out
   clear HA
   simp only [hearsaylaw04_TokensCuts.j0] at H
   by_cases c24 : x33_5 = true
   ·subst c24
    have H1 : (some false) = some r := by rw [if_pos rfl] at H; exact H
    clear H
    have H := H1
    clear H1
    obtain rfl := Option.some.inj H
    go_wp2
    go_ret
    exact ⟨er_, h1_⟩
   ·replace c24 := Bool.eq_false_iff.mpr c24
    subst c24
    have H1 : (hearsaylaw04_TokensCuts.l0 kj5 a0 l2 0) = some r := by rw [if_neg (show ¬ (false = true) by decide)] at H; exact H
    clear H
    have H := H1
    clear H1
    have H' := Aside0.mk H
    clear H
    go_wp2
    go_loopg [11] kj5 (fun kq v11 w' => ∃ (x11_2 : Int) (x524000_2 : Int) (x524001_2 : Int) (x530000_2 : Int) (x530001_2 : Int), v11 = .int .i64 x11_2 ∧ Aside0 (hearsaylaw04_TokensCuts.l0 kq a0 l2 x11_2 = some r) ∧ Aside0 (kq ≤ kj5) ∧ Aside0 (w'.heap[gb523]? = some (.cells #[.int .i64 x524000_2, .int .i64 x524001_2] 26 (0, 0))) ∧ Aside0 (w'.heap[gb529]? = some (.cells #[.int .i64 x530000_2, .int .i64 x530001_2] 26 (0, 0))) ∧ Aside0 (Below w.heap.size w w'))
    case atStart => exact ⟨(0), (t521), (t522), (t527), (t528), eq_, H', ⟨Nat.le_refl _⟩, ⟨by (with_reducible repeat first|apply bk1_|apply bk2_|apply bk3_); exact BK523.out⟩, ⟨by (with_reducible repeat first|apply bk1_|apply bk2_|apply bk3_); exact BK529.out⟩, ⟨h1_⟩⟩
    case round =>
     clear H'
     try clear c1
     try clear c2
     try clear p2
     try clear c3
     try clear c12
     try clear c14
     try clear c14b0
     try clear c15
     try clear c19
     try clear c24
     try clear hcz13_0
     try clear hcz13_1
     try clear hcz16_0
     try clear hcz16_1
     try clear hcz17_0
     try clear hcz17_1
     try clear hcz20_0
     try clear hcz20_1
     try clear hcz21_0
     try clear hcz21_1
     try clear hcz9_0
     try clear hcz9_1
     try clear hfz13_0
     try clear hfz13_1
     try clear hfz16_0
     try clear hfz16_1
     try clear hfz17_0
     try clear hfz17_1
     try clear hfz20_0
     try clear hfz20_1
     try clear hfz21_0
     try clear hfz21_1
     try clear hfz9_0
     try clear hfz9_1
     try clear p2
     obtain ⟨x11_2, x524000_2, x524001_2, x530000_2, x530001_2, rfl, HA, HK2, BK523, BK529, HB⟩ := hrel
     cases gk with
     | zero => exact absurd HA.out (by simp [hearsaylaw04_TokensCuts.l0])
     | succ k2 =>
      have H := HA.out
      clear HA
      simp only [hearsaylaw04_TokensCuts.l0] at H
      by_cases c25 : x11_2 < (l2.length : Int)
      ·rw [if_pos c25] at H
       have c25b0 : decide (x11_2 < (l2.length : Int)) = true := decide_eq_true c25
       clear c25
       have HC26 := Aside0.mk H
       clear H
       go_upto_region 8 with (fail)
       go_cut [53] (fun v53 wc => ∃ (kq : Nat) (x53_25 : Bool), v53 = .bool x53_25 ∧ Aside0 (hearsaylaw04_TokensCuts.j2 kq a0 l2 x11_2 x53_25 = some r) ∧ Aside0 (kq ≤ k2) ∧ Aside0 (wc.heap[gb523]? = some (.cells #[.int .i64 x524000_2, .int .i64 x524001_2] 26 (0, 0))) ∧ Aside0 (wc.heap[gb529]? = some (.cells #[.int .i64 x530000_2, .int .i64 x530001_2] 26 (0, 0))) ∧ Aside0 (Below w.heap.size w wc))
       case first =>
        have H := HC26.out
        clear HC26
        by_cases c27 : 0 ≤ x11_2
        ·rw [if_pos c27] at H
         have c27b0 : decide (0 ≤ x11_2) = true := decide_eq_true c27
         clear c27
         (first | rw [c27b0] | (simp only [i64_w, i32_w]; rw [c27b0]) | skip)
         by_cases c28 : (rd l2 x11_2) < 0
         ·rw [if_pos c28] at H
          have c28b0 : decide ((rd l2 x11_2) < 0) = true := decide_eq_true c28
          clear c28
          have H' := Aside0.mk H
          clear H
          have p532 : 0 ≤ (x11_2 : Int) := of_decide_eq_true (by first | (with_reducible assumption) | assumption)
          have q532 : x11_2 < (l2.length : Int) := of_decide_eq_true (by first | (with_reducible assumption) | assumption)
          obtain ⟨ad532, e532, hx532_0⟩ := Kd.at_int HR2.out x11_2 p532 q532
          cases e532
          replace hx532_0 := (HB.out.cell (World.block_lt_of_cell? w _ hx532_0)).trans hx532_0
          replace p532 := eq_true p532
          replace q532 := eq_true q532
          go_wp2
          go_meet
          case rel => exact ⟨_, (true), eq_, H', ⟨by have := HJ5.out; have := HK2.out; first | omega | exact Nat.le_refl _⟩, ⟨by (with_reducible repeat first|apply bk1_|apply bk2_|apply bk3_); exact BK523.out⟩, ⟨by (with_reducible repeat first|apply bk1_|apply bk2_|apply bk3_); exact BK529.out⟩, ⟨h1_⟩⟩
         ·rw [if_neg c28] at H
          have c28b0 : decide ((rd l2 x11_2) < 0) = false := decide_eq_false c28
          clear c28
          have H' := Aside0.mk H
          clear H
          have p532 : 0 ≤ (x11_2 : Int) := of_decide_eq_true (by first | (with_reducible assumption) | assumption)
          have q532 : x11_2 < (l2.length : Int) := of_decide_eq_true (by first | (with_reducible assumption) | assumption)
          obtain ⟨ad532, e532, hx532_0⟩ := Kd.at_int HR2.out x11_2 p532 q532
          cases e532
          replace hx532_0 := (HB.out.cell (World.block_lt_of_cell? w _ hx532_0)).trans hx532_0
          replace p532 := eq_true p532
          replace q532 := eq_true q532
          have p533 : 0 ≤ (x11_2 : Int) := of_decide_eq_true (by first | (with_reducible assumption) | assumption)
          have q533 : x11_2 < (l2.length : Int) := of_decide_eq_true (by first | (with_reducible assumption) | assumption)
          obtain ⟨ad533, e533, hx533_0⟩ := Kd.at_int HR2.out x11_2 p533 q533
          obtain rfl : ad532 = ad533 := (by injection e533)
          replace hx533_0 := (HB.out.cell (World.block_lt_of_cell? w _ hx533_0)).trans hx533_0
          replace p533 := eq_true p533
          replace q533 := eq_true q533
          go_wp2
          go_meet
          case rel => exact ⟨_, (decide ((rd l2 x11_2) > (a0.size : Int))), eq_, H', ⟨by have := HJ5.out; have := HK2.out; first | omega | exact Nat.le_refl _⟩, ⟨by (with_reducible repeat first|apply bk1_|apply bk2_|apply bk3_); exact BK523.out⟩, ⟨by (with_reducible repeat first|apply bk1_|apply bk2_|apply bk3_); exact BK529.out⟩, ⟨h1_⟩⟩
        ·rw [if_neg c27] at H
         exact absurd H (by simp)
       case rest =>
        clear HC26
        try clear c1
        try clear c2
        try clear p2
        try clear c3
        try clear p5
        try clear q5
        try clear hx5
        try clear c12
        try clear c14
        try clear c14b0
        try clear c15
        try clear c19
        try clear c24
        try clear c25
        try clear c25b0
        try clear c27
        try clear c27b0
        try clear c28
        try clear c28b0
        try clear hcz13_0
        try clear hcz13_1
        try clear hcz16_0
        try clear hcz16_1
        try clear hcz17_0
        try clear hcz17_1
        try clear hcz20_0
        try clear hcz20_1
        try clear hcz21_0
        try clear hcz21_1
        try clear hcz9_0
        try clear hcz9_1
        try clear hfz13_0
        try clear hfz13_1
        try clear hfz16_0
        try clear hfz16_1
        try clear hfz17_0
        try clear hfz17_1
        try clear hfz20_0
        try clear hfz20_1
        try clear hfz21_0
        try clear hfz21_1
        try clear hfz9_0
        try clear hfz9_1
        try clear hx532_0
        try clear hx533_0
        try clear p2
        try clear p532
        try clear p533
        try clear q532
        try clear q533
        obtain ⟨kq, x53_25, rfl, HA, HJ25, BK523, BK529, HB⟩ := hcut
        cases kq with
        | zero => exact absurd HA.out (by simp [hearsaylaw04_TokensCuts.j2])
        | succ kj25 =>
         have H := HA.out
         clear HA
         simp only [hearsaylaw04_TokensCuts.j2] at H
         by_cases c29 : x53_25 = true
         ·subst c29
          have H1 : (hearsaylaw04_TokensCuts.l0 kj25 a0 l2 (wrap64 (x11_2 + 1))) = some r := by rw [if_pos rfl] at H; exact H
          clear H
          have H := H1
          clear H1
          have H' := Aside0.mk H
          clear H
          go_wp2
          go_roundg kj25
          case measure => have := HJ5.out; have := HK2.out; have := HJ25.out; omega
          case rel => exact ⟨(wrap64 (x11_2 + 1)), (x524000_2), (x524001_2), (x530000_2), (x530001_2), eq_, H', ⟨by have := HJ5.out; have := HK2.out; have := HJ25.out; omega⟩, ⟨by (with_reducible repeat first|apply bk1_|apply bk2_|apply bk3_); exact BK523.out⟩, ⟨by (with_reducible repeat first|apply bk1_|apply bk2_|apply bk3_); exact BK529.out⟩, ⟨h1_⟩⟩
         ·replace c29 := Bool.eq_false_iff.mpr c29
          subst c29
          have H1 : (if 0 ≤ x11_2 then (if x11_2 < (l2.length : Int) then (if 0 ≤ (rd l2 x11_2) then (if (rd l2 x11_2) ≤ (a0.size : Int) then ((tokens_Cut.f kj25 (a0.extract 0 ((rd l2 x11_2) : Int).toNat) ((a0.extract 0 ((rd l2 x11_2) : Int).toNat).size : Int)).bind fun bt535 => ((hearsayref04_Cut.f kj25 (a0.extract 0 ((rd l2 x11_2) : Int).toNat) ((a0.extract 0 ((rd l2 x11_2) : Int).toNat).size : Int)).bind fun bt540 => (if (!(bt535.2.1 == bt540.2.1) || (!(bt535.2.2 == bt540.2.2))) = true then (some false) else ((hearsaylaw04_same.f kj25 bt535.1 bt540.1).bind fun t545 => (if t545 = true then (hearsaylaw04_TokensCuts.l0 kj25 a0 l2 (wrap64 (x11_2 + 1))) else (some false)))))) else (none)) else (none)) else (none)) else (none)) = some r := by rw [if_neg (show ¬ (false = true) by decide)] at H; exact H
          clear H
          have H := H1
          clear H1
          by_cases c30 : 0 ≤ x11_2
          ·rw [if_pos c30] at H
           have c30b0 : decide (0 ≤ x11_2) = true := decide_eq_true c30
           clear c30
           by_cases c31 : x11_2 < (l2.length : Int)
           ·rw [if_pos c31] at H
            have c31b0 : decide (x11_2 < (l2.length : Int)) = true := decide_eq_true c31
            clear c31
            by_cases c32 : 0 ≤ (rd l2 x11_2)
            ·rw [if_pos c32] at H
             have c32b0 := eq_true c32
             have c32b1 : decide (0 ≤ (rd l2 x11_2)) = true := decide_eq_true c32
             clear c32
             by_cases c33 : (rd l2 x11_2) ≤ (a0.size : Int)
             ·rw [if_pos c33] at H
              have c33b0 := eq_true c33
              have c33b1 : decide ((rd l2 x11_2) ≤ (a0.size : Int)) = true := decide_eq_true c33
              clear c33
              replace H := Option.bind_eq_some_iff.mp H
              obtain ⟨⟨t535, t538, t539⟩, A340, H⟩ := H
              replace H : ((hearsayref04_Cut.f kj25 (a0.extract 0 ((rd l2 x11_2) : Int).toNat) ((a0.extract 0 ((rd l2 x11_2) : Int).toNat).size : Int)).bind fun bt540 => (if (!(t538 == bt540.2.1) || (!(t539 == bt540.2.2))) = true then (some false) else ((hearsaylaw04_same.f kj25 t535 bt540.1).bind fun t545 => (if t545 = true then (hearsaylaw04_TokensCuts.l0 kj25 a0 l2 (wrap64 (x11_2 + 1))) else (some false))))) = some r := H
              have A34 := Aside0.mk A340
              clear A340
              replace H := Option.bind_eq_some_iff.mp H
              obtain ⟨⟨t540, t543, t544⟩, A350, H⟩ := H
              replace H : (if (!(t538 == t543) || (!(t539 == t544))) = true then (some false) else ((hearsaylaw04_same.f kj25 t535 t540).bind fun t545 => (if t545 = true then (hearsaylaw04_TokensCuts.l0 kj25 a0 l2 (wrap64 (x11_2 + 1))) else (some false)))) = some r := H
              have A35 := Aside0.mk A350
              clear A350
              by_cases c36 : (!(t538 == t543) || (!(t539 == t544))) = true
              ·rw [if_pos c36] at H
               have c36b0 : (!(t538 == t543) || (!(t539 == t544))) = true := c36
               clear c36
               obtain rfl := Option.some.inj H
               have p534 : 0 ≤ (x11_2 : Int) := of_decide_eq_true (by first | (with_reducible assumption) | assumption)
               have q534 : x11_2 < (l2.length : Int) := of_decide_eq_true (by first | (with_reducible assumption) | assumption)
               obtain ⟨ad534, e534, hx534_0⟩ := Kd.at_int HR2.out x11_2 p534 q534
               cases e534
               replace hx534_0 := (HB.out.cell (World.block_lt_of_cell? w _ hx534_0)).trans hx534_0
               replace p534 := eq_true p534
               replace q534 := eq_true q534
               go_wp2_with (first | ((with_reducible refine gate_callee (f := 14) rfl ?_); refine goesL_ (some 64) rfl rfl Tryd.func14 (by kernel_rfl) rfl #[.string (a0.extract 0 ((rd l2 x11_2) : Int).toNat), .int .i64 ((a0.extract 0 ((rd l2 x11_2) : Int).toNat).size : Int)] rfl (by (try simp only [List.map_toArray, List.map_cons, List.map_nil]); first | done | rfl | (simp only [List.length_drop, List.length_take]; rfl) | (simp only [beq_nil_, bne_nil_]; rfl) | (simp only [ByteArray.size_extract, Nat.min_self]; rfl) | (refine (congrArg (fun z => #[_, Value.int .i64 z]) (?_ : _ = _)); rw [ByteArray.size_extract]; have h1_ := of_decide_eq_true c32b1; have h2_ := of_decide_eq_true c33b1; omega)) ?_; (with_reducible refine (tokens_Cut.calls kj25 (a0.extract 0 ((rd l2 x11_2) : Int).toNat) ((a0.extract 0 ((rd l2 x11_2) : Int).toNat).size : Int) t535 t538 t539 _ ?side1 A34.out).mono ?_); (case side1 => exact Gl.below HG.out.gl h1_); rintro e w37 ⟨v536, rfl, ho0, hb⟩; refine ⟨_, rfl, ?_⟩; have n0_ := Aside0.mk (Kd.R_lower ho0 (below_size h1_)); have n1_ := Aside0.mk (blk_below (g := gb523) (o := .cells #[.int .i64 x524000_2, .int .i64 x524001_2] 26 (0, 0)) (bk_ BK523) hb); have n2_ := Aside0.mk (blk_below (g := gb529) (o := .cells #[.int .i64 x530000_2, .int .i64 x530001_2] 26 (0, 0)) (bk_ BK529) hb); have n3_ := Aside0.mk (below_step h1_ hb); clear BK523; clear BK529; clear HB; have HO537 := n0_; have BK523 := n1_; have BK529 := n2_; have HB := n3_; clear n0_ n1_ n2_ n3_; (try clear hb); (try clear hb2); (try clear hk); (try clear hi); (try clear ho0); have hnb38 := NB523_529.out; have hnc38 := NB529_523.out; have hcz39_0 : w37.cell? ⟨gb523, 0, none⟩ = some (.int .i64 x524000_2) := (blk_cell BK523.out 0).trans rfl; have hcz39_1 : w37.cell? ⟨gb523, 1, none⟩ = some (.int .i64 x524001_2) := (blk_cell BK523.out 1).trans rfl; have hfz39_0 := blk_frozen BK523.out 0; have hfz39_1 := blk_frozen BK523.out 1) | ((with_reducible refine gate_callee (f := 15) rfl ?_); refine goesL_ (some 71) rfl rfl Tryd.func15 (by kernel_rfl) rfl #[.string (a0.extract 0 ((rd l2 x11_2) : Int).toNat), .int .i64 ((a0.extract 0 ((rd l2 x11_2) : Int).toNat).size : Int)] rfl (by (try simp only [List.map_toArray, List.map_cons, List.map_nil]); first | done | rfl | (simp only [List.length_drop, List.length_take]; rfl) | (simp only [beq_nil_, bne_nil_]; rfl) | (simp only [ByteArray.size_extract, Nat.min_self]; rfl) | (refine (congrArg (fun z => #[_, Value.int .i64 z]) (?_ : _ = _)); rw [ByteArray.size_extract]; have h1_ := of_decide_eq_true c32b1; have h2_ := of_decide_eq_true c33b1; omega)) ?_; (with_reducible refine (hearsayref04_Cut.calls kj25 (a0.extract 0 ((rd l2 x11_2) : Int).toNat) ((a0.extract 0 ((rd l2 x11_2) : Int).toNat).size : Int) t540 t543 t544 _ ?side1 A35.out).mono ?_); (case side1 => exact GlR.below HG.out h1_); rintro e w40 ⟨v541, rfl, ho0, hb⟩; refine ⟨_, rfl, ?_⟩; have n0_ := Aside0.mk (Kd.R_elder' (by (with_reducible repeat (first | apply Kd.R_alloc | apply Kd.R_drewN | apply Kd.R_drew)); exact (Kd.R_mono (Kd.R_far (p := ⟨gb523, 1, none⟩) (Kd.R_far (p := ⟨gb523, 0, none⟩) (Kd.R_types HO537.out BK523.out (by decide)) (fun _ hk => hk.2) (.int .i64 t538)) (fun _ hk => hk.2) (.int .i64 t539)) (fun _ h_ => h_.1))) (Kd.R_base ho0) hb); have n1_ := Aside0.mk (Kd.R_lower (Kd.R_new' ho0 (Kd.R_lt (by (with_reducible repeat (first | apply Kd.R_alloc | apply Kd.R_drewN | apply Kd.R_drew)); exact (Kd.R_mono (Kd.R_far (p := ⟨gb523, 1, none⟩) (Kd.R_far (p := ⟨gb523, 0, none⟩) (Kd.R_types HO537.out BK523.out (by decide)) (fun _ hk => hk.2) (.int .i64 t538)) (fun _ hk => hk.2) (.int .i64 t539)) (fun _ h_ => h_.1))))) (below_size h1_)); have n2_ := Aside0.mk (blk_below (g := gb523) (o := .cells #[.int .i64 t538, .int .i64 t539] 26 (0, 0)) (by (with_reducible repeat first|apply bk1_|apply bk2_|apply bk3_); refine blk_put (cs := #[.int .i64 t538, .int .i64 x524001_2]) ?_ 1 _ rfl; (with_reducible repeat first|apply bk1_|apply bk2_|apply bk3_); refine blk_put (cs := #[.int .i64 x524000_2, .int .i64 x524001_2]) ?_ 0 _ rfl; (with_reducible repeat first|apply bk1_|apply bk2_|apply bk3_); exact BK523.out) hb); have n3_ := Aside0.mk (blk_below (g := gb529) (o := .cells #[.int .i64 x530000_2, .int .i64 x530001_2] 26 (0, 0)) (by (with_reducible repeat first|apply bk1_|apply bk2_|apply bk3_); refine blk_far ?_ NB529_523.out _; (with_reducible repeat first|apply bk1_|apply bk2_|apply bk3_); refine blk_far ?_ NB529_523.out _; (with_reducible repeat first|apply bk1_|apply bk2_|apply bk3_); exact BK529.out) hb); have n4_ := Aside0.mk (below_step h1_ hb); clear HO537; clear BK523; clear BK529; clear HB; have HO537 := n0_; have HO542 := n1_; have BK523 := n2_; have BK529 := n3_; have HB := n4_; clear n0_ n1_ n2_ n3_ n4_; (try clear hb); (try clear hb2); (try clear hk); (try clear hi); (try clear ho0); have hcz41_0 : w40.cell? ⟨gb529, 0, none⟩ = some (.int .i64 x530000_2) := (blk_cell BK529.out 0).trans rfl; have hcz41_1 : w40.cell? ⟨gb529, 1, none⟩ = some (.int .i64 x530001_2) := (blk_cell BK529.out 1).trans rfl; have hfz41_0 := blk_frozen BK529.out 0; have hfz41_1 := blk_frozen BK529.out 1; have hcz42_0 : w40.cell? ⟨gb523, 0, none⟩ = some (.int .i64 t538) := (blk_cell BK523.out 0).trans rfl; have hcz42_1 : w40.cell? ⟨gb523, 1, none⟩ = some (.int .i64 t539) := (blk_cell BK523.out 1).trans rfl; have hfz42_0 := blk_frozen BK523.out 0; have hfz42_1 := blk_frozen BK523.out 1))
               go_ret
               exact ⟨er_, h1_⟩
              ·rw [if_neg c36] at H
               have c36b0 : (!(t538 == t543) || (!(t539 == t544))) = false := by simpa using c36
               clear c36
               replace H := Option.bind_eq_some_iff.mp H
               obtain ⟨t545, A430, H⟩ := H
               replace H : (if t545 = true then (hearsaylaw04_TokensCuts.l0 kj25 a0 l2 (wrap64 (x11_2 + 1))) else (some false)) = some r := H
               have A43 := Aside0.mk A430
               clear A430
               by_cases c44 : t545 = true
               ·subst c44
                have H1 : (hearsaylaw04_TokensCuts.l0 kj25 a0 l2 (wrap64 (x11_2 + 1))) = some r := by rw [if_pos rfl] at H; exact H
                clear H
                have H := H1
                clear H1
                have H' := Aside0.mk H
                clear H
                have p534 : 0 ≤ (x11_2 : Int) := of_decide_eq_true (by first | (with_reducible assumption) | assumption)
                have q534 : x11_2 < (l2.length : Int) := of_decide_eq_true (by first | (with_reducible assumption) | assumption)
                obtain ⟨ad534, e534, hx534_0⟩ := Kd.at_int HR2.out x11_2 p534 q534
                cases e534
                replace hx534_0 := (HB.out.cell (World.block_lt_of_cell? w _ hx534_0)).trans hx534_0
                replace p534 := eq_true p534
                replace q534 := eq_true q534
                go_wp2_with (first | ((with_reducible refine gate_callee (f := 14) rfl ?_); refine goesL_ (some 64) rfl rfl Tryd.func14 (by kernel_rfl) rfl #[.string (a0.extract 0 ((rd l2 x11_2) : Int).toNat), .int .i64 ((a0.extract 0 ((rd l2 x11_2) : Int).toNat).size : Int)] rfl (by (try simp only [List.map_toArray, List.map_cons, List.map_nil]); first | done | rfl | (simp only [List.length_drop, List.length_take]; rfl) | (simp only [beq_nil_, bne_nil_]; rfl) | (simp only [ByteArray.size_extract, Nat.min_self]; rfl) | (refine (congrArg (fun z => #[_, Value.int .i64 z]) (?_ : _ = _)); rw [ByteArray.size_extract]; have h1_ := of_decide_eq_true c32b1; have h2_ := of_decide_eq_true c33b1; omega)) ?_; (with_reducible refine (tokens_Cut.calls kj25 (a0.extract 0 ((rd l2 x11_2) : Int).toNat) ((a0.extract 0 ((rd l2 x11_2) : Int).toNat).size : Int) t535 t538 t539 _ ?side1 A34.out).mono ?_); (case side1 => exact Gl.below HG.out.gl h1_); rintro e w45 ⟨v536, rfl, ho0, hb⟩; refine ⟨_, rfl, ?_⟩; have n0_ := Aside0.mk (Kd.R_lower ho0 (below_size h1_)); have n1_ := Aside0.mk (blk_below (g := gb523) (o := .cells #[.int .i64 x524000_2, .int .i64 x524001_2] 26 (0, 0)) (bk_ BK523) hb); have n2_ := Aside0.mk (blk_below (g := gb529) (o := .cells #[.int .i64 x530000_2, .int .i64 x530001_2] 26 (0, 0)) (bk_ BK529) hb); have n3_ := Aside0.mk (below_step h1_ hb); clear BK523; clear BK529; clear HB; have HO537 := n0_; have BK523 := n1_; have BK529 := n2_; have HB := n3_; clear n0_ n1_ n2_ n3_; (try clear hb); (try clear hb2); (try clear hk); (try clear hi); (try clear ho0); have hnb46 := NB523_529.out; have hnc46 := NB529_523.out; have hcz47_0 : w45.cell? ⟨gb523, 0, none⟩ = some (.int .i64 x524000_2) := (blk_cell BK523.out 0).trans rfl; have hcz47_1 : w45.cell? ⟨gb523, 1, none⟩ = some (.int .i64 x524001_2) := (blk_cell BK523.out 1).trans rfl; have hfz47_0 := blk_frozen BK523.out 0; have hfz47_1 := blk_frozen BK523.out 1) | ((with_reducible refine gate_callee (f := 15) rfl ?_); refine goesL_ (some 71) rfl rfl Tryd.func15 (by kernel_rfl) rfl #[.string (a0.extract 0 ((rd l2 x11_2) : Int).toNat), .int .i64 ((a0.extract 0 ((rd l2 x11_2) : Int).toNat).size : Int)] rfl (by (try simp only [List.map_toArray, List.map_cons, List.map_nil]); first | done | rfl | (simp only [List.length_drop, List.length_take]; rfl) | (simp only [beq_nil_, bne_nil_]; rfl) | (simp only [ByteArray.size_extract, Nat.min_self]; rfl) | (refine (congrArg (fun z => #[_, Value.int .i64 z]) (?_ : _ = _)); rw [ByteArray.size_extract]; have h1_ := of_decide_eq_true c32b1; have h2_ := of_decide_eq_true c33b1; omega)) ?_; (with_reducible refine (hearsayref04_Cut.calls kj25 (a0.extract 0 ((rd l2 x11_2) : Int).toNat) ((a0.extract 0 ((rd l2 x11_2) : Int).toNat).size : Int) t540 t543 t544 _ ?side1 A35.out).mono ?_); (case side1 => exact GlR.below HG.out h1_); rintro e w48 ⟨v541, rfl, ho0, hb⟩; refine ⟨_, rfl, ?_⟩; have n0_ := Aside0.mk (Kd.R_elder' (by (with_reducible repeat (first | apply Kd.R_alloc | apply Kd.R_drewN | apply Kd.R_drew)); exact (Kd.R_mono (Kd.R_far (p := ⟨gb523, 1, none⟩) (Kd.R_far (p := ⟨gb523, 0, none⟩) (Kd.R_types HO537.out BK523.out (by decide)) (fun _ hk => hk.2) (.int .i64 t538)) (fun _ hk => hk.2) (.int .i64 t539)) (fun _ h_ => h_.1))) (Kd.R_base ho0) hb); have n1_ := Aside0.mk (Kd.R_lower (Kd.R_new' ho0 (Kd.R_lt (by (with_reducible repeat (first | apply Kd.R_alloc | apply Kd.R_drewN | apply Kd.R_drew)); exact (Kd.R_mono (Kd.R_far (p := ⟨gb523, 1, none⟩) (Kd.R_far (p := ⟨gb523, 0, none⟩) (Kd.R_types HO537.out BK523.out (by decide)) (fun _ hk => hk.2) (.int .i64 t538)) (fun _ hk => hk.2) (.int .i64 t539)) (fun _ h_ => h_.1))))) (below_size h1_)); have n2_ := Aside0.mk (blk_below (g := gb523) (o := .cells #[.int .i64 t538, .int .i64 t539] 26 (0, 0)) (by (with_reducible repeat first|apply bk1_|apply bk2_|apply bk3_); refine blk_put (cs := #[.int .i64 t538, .int .i64 x524001_2]) ?_ 1 _ rfl; (with_reducible repeat first|apply bk1_|apply bk2_|apply bk3_); refine blk_put (cs := #[.int .i64 x524000_2, .int .i64 x524001_2]) ?_ 0 _ rfl; (with_reducible repeat first|apply bk1_|apply bk2_|apply bk3_); exact BK523.out) hb); have n3_ := Aside0.mk (blk_below (g := gb529) (o := .cells #[.int .i64 x530000_2, .int .i64 x530001_2] 26 (0, 0)) (by (with_reducible repeat first|apply bk1_|apply bk2_|apply bk3_); refine blk_far ?_ NB529_523.out _; (with_reducible repeat first|apply bk1_|apply bk2_|apply bk3_); refine blk_far ?_ NB529_523.out _; (with_reducible repeat first|apply bk1_|apply bk2_|apply bk3_); exact BK529.out) hb); have n4_ := Aside0.mk (below_step h1_ hb); clear HO537; clear BK523; clear BK529; clear HB; have HO537 := n0_; have HO542 := n1_; have BK523 := n2_; have BK529 := n3_; have HB := n4_; clear n0_ n1_ n2_ n3_ n4_; (try clear hb); (try clear hb2); (try clear hk); (try clear hi); (try clear ho0); have hcz49_0 : w48.cell? ⟨gb529, 0, none⟩ = some (.int .i64 x530000_2) := (blk_cell BK529.out 0).trans rfl; have hcz49_1 : w48.cell? ⟨gb529, 1, none⟩ = some (.int .i64 x530001_2) := (blk_cell BK529.out 1).trans rfl; have hfz49_0 := blk_frozen BK529.out 0; have hfz49_1 := blk_frozen BK529.out 1; have hcz50_0 : w48.cell? ⟨gb523, 0, none⟩ = some (.int .i64 t538) := (blk_cell BK523.out 0).trans rfl; have hcz50_1 : w48.cell? ⟨gb523, 1, none⟩ = some (.int .i64 t539) := (blk_cell BK523.out 1).trans rfl; have hfz50_0 := blk_frozen BK523.out 0; have hfz50_1 := blk_frozen BK523.out 1; obtain ⟨Ao51, co51, eo51⟩ := Kd.R_slice HO537.out; subst eo51; obtain ⟨Ao52, co52, eo52⟩ := Kd.R_slice HO542.out; subst eo52) | (go_at_call 16; (with_reducible refine (hearsaylaw04_same.calls kj25 _ _ t535 _ _ t540 true _ ?side1 ?side2 ?side3 ?side4 A43.out).mono ?_); (case side1 => refine (Kd.R_reads' (e := 33) (base := w.heap.size) (ok := fun k_ => (True ∧ some k_ ≠ (.slice Ao52 t540.length co52 : Value).ownBlock)) (n := t535.length) (c := co51) ?_).2.2; exact (by (with_reducible repeat (first | apply Kd.R_alloc | apply Kd.R_drewN | apply Kd.R_drew)); exact (Kd.R_mono (Kd.R_far (p := ⟨gb529, 1, none⟩) (Kd.R_far (p := ⟨gb529, 0, none⟩) (Kd.R_types HO537.out BK529.out (by decide)) (fun _ hk => hk.2) (.int .i64 t543)) (fun _ hk => hk.2) (.int .i64 t544)) (fun _ h_ => h_.1)))); (case side2 => exact (Kd.R_reads' HO537.out).2.1); (case side3 => refine (Kd.R_reads' (e := 33) (base := w.heap.size) (ok := fun k_ => (True ∧ some k_ ≠ (.slice Ao51 t535.length co51 : Value).ownBlock)) (n := t540.length) (c := co52) ?_).2.2; exact (by (with_reducible repeat (first | apply Kd.R_alloc | apply Kd.R_drewN | apply Kd.R_drew)); exact (Kd.R_mono (Kd.R_far (p := ⟨gb529, 1, none⟩) (Kd.R_far (p := ⟨gb529, 0, none⟩) (Kd.R_types HO542.out BK529.out (by decide)) (fun _ hk => hk.2) (.int .i64 t543)) (fun _ hk => hk.2) (.int .i64 t544)) (fun _ h_ => h_.1)))); (case side4 => exact (Kd.R_reads' HO542.out).2.1); rintro e w' ⟨rfl, ⟨nd, rfl⟩⟩))
                go_roundg kj25
                case measure => have := HJ5.out; have := HK2.out; have := HJ25.out; omega
                case rel => exact ⟨(wrap64 (x11_2 + 1)), (t538), (t539), (t543), (t544), eq_, H', ⟨by have := HJ5.out; have := HK2.out; have := HJ25.out; omega⟩, ⟨by (with_reducible repeat first|apply bk1_|apply bk2_|apply bk3_); refine blk_far ?_ NB523_529.out _; (with_reducible repeat first|apply bk1_|apply bk2_|apply bk3_); refine blk_far ?_ NB523_529.out _; (with_reducible repeat first|apply bk1_|apply bk2_|apply bk3_); exact BK523.out⟩, ⟨by (with_reducible repeat first|apply bk1_|apply bk2_|apply bk3_); refine blk_put (cs := #[.int .i64 t543, .int .i64 x530001_2]) ?_ 1 _ rfl; (with_reducible repeat first|apply bk1_|apply bk2_|apply bk3_); refine blk_put (cs := #[.int .i64 x530000_2, .int .i64 x530001_2]) ?_ 0 _ rfl; (with_reducible repeat first|apply bk1_|apply bk2_|apply bk3_); exact BK529.out⟩, ⟨h1_⟩⟩
               ·replace c44 := Bool.eq_false_iff.mpr c44
                subst c44
                have H1 : (some false) = some r := by rw [if_neg (show ¬ (false = true) by decide)] at H; exact H
                clear H
                have H := H1
                clear H1
                obtain rfl := Option.some.inj H
                have p534 : 0 ≤ (x11_2 : Int) := of_decide_eq_true (by first | (with_reducible assumption) | assumption)
                have q534 : x11_2 < (l2.length : Int) := of_decide_eq_true (by first | (with_reducible assumption) | assumption)
                obtain ⟨ad534, e534, hx534_0⟩ := Kd.at_int HR2.out x11_2 p534 q534
                cases e534
                replace hx534_0 := (HB.out.cell (World.block_lt_of_cell? w _ hx534_0)).trans hx534_0
                replace p534 := eq_true p534
                replace q534 := eq_true q534
                go_wp2_with (first | ((with_reducible refine gate_callee (f := 14) rfl ?_); refine goesL_ (some 64) rfl rfl Tryd.func14 (by kernel_rfl) rfl #[.string (a0.extract 0 ((rd l2 x11_2) : Int).toNat), .int .i64 ((a0.extract 0 ((rd l2 x11_2) : Int).toNat).size : Int)] rfl (by (try simp only [List.map_toArray, List.map_cons, List.map_nil]); first | done | rfl | (simp only [List.length_drop, List.length_take]; rfl) | (simp only [beq_nil_, bne_nil_]; rfl) | (simp only [ByteArray.size_extract, Nat.min_self]; rfl) | (refine (congrArg (fun z => #[_, Value.int .i64 z]) (?_ : _ = _)); rw [ByteArray.size_extract]; have h1_ := of_decide_eq_true c32b1; have h2_ := of_decide_eq_true c33b1; omega)) ?_; (with_reducible refine (tokens_Cut.calls kj25 (a0.extract 0 ((rd l2 x11_2) : Int).toNat) ((a0.extract 0 ((rd l2 x11_2) : Int).toNat).size : Int) t535 t538 t539 _ ?side1 A34.out).mono ?_); (case side1 => exact Gl.below HG.out.gl h1_); rintro e w53 ⟨v536, rfl, ho0, hb⟩; refine ⟨_, rfl, ?_⟩; have n0_ := Aside0.mk (Kd.R_lower ho0 (below_size h1_)); have n1_ := Aside0.mk (blk_below (g := gb523) (o := .cells #[.int .i64 x524000_2, .int .i64 x524001_2] 26 (0, 0)) (bk_ BK523) hb); have n2_ := Aside0.mk (blk_below (g := gb529) (o := .cells #[.int .i64 x530000_2, .int .i64 x530001_2] 26 (0, 0)) (bk_ BK529) hb); have n3_ := Aside0.mk (below_step h1_ hb); clear BK523; clear BK529; clear HB; have HO537 := n0_; have BK523 := n1_; have BK529 := n2_; have HB := n3_; clear n0_ n1_ n2_ n3_; (try clear hb); (try clear hb2); (try clear hk); (try clear hi); (try clear ho0); have hnb54 := NB523_529.out; have hnc54 := NB529_523.out; have hcz55_0 : w53.cell? ⟨gb523, 0, none⟩ = some (.int .i64 x524000_2) := (blk_cell BK523.out 0).trans rfl; have hcz55_1 : w53.cell? ⟨gb523, 1, none⟩ = some (.int .i64 x524001_2) := (blk_cell BK523.out 1).trans rfl; have hfz55_0 := blk_frozen BK523.out 0; have hfz55_1 := blk_frozen BK523.out 1) | ((with_reducible refine gate_callee (f := 15) rfl ?_); refine goesL_ (some 71) rfl rfl Tryd.func15 (by kernel_rfl) rfl #[.string (a0.extract 0 ((rd l2 x11_2) : Int).toNat), .int .i64 ((a0.extract 0 ((rd l2 x11_2) : Int).toNat).size : Int)] rfl (by (try simp only [List.map_toArray, List.map_cons, List.map_nil]); first | done | rfl | (simp only [List.length_drop, List.length_take]; rfl) | (simp only [beq_nil_, bne_nil_]; rfl) | (simp only [ByteArray.size_extract, Nat.min_self]; rfl) | (refine (congrArg (fun z => #[_, Value.int .i64 z]) (?_ : _ = _)); rw [ByteArray.size_extract]; have h1_ := of_decide_eq_true c32b1; have h2_ := of_decide_eq_true c33b1; omega)) ?_; (with_reducible refine (hearsayref04_Cut.calls kj25 (a0.extract 0 ((rd l2 x11_2) : Int).toNat) ((a0.extract 0 ((rd l2 x11_2) : Int).toNat).size : Int) t540 t543 t544 _ ?side1 A35.out).mono ?_); (case side1 => exact GlR.below HG.out h1_); rintro e w56 ⟨v541, rfl, ho0, hb⟩; refine ⟨_, rfl, ?_⟩; have n0_ := Aside0.mk (Kd.R_elder' (by (with_reducible repeat (first | apply Kd.R_alloc | apply Kd.R_drewN | apply Kd.R_drew)); exact (Kd.R_mono (Kd.R_far (p := ⟨gb523, 1, none⟩) (Kd.R_far (p := ⟨gb523, 0, none⟩) (Kd.R_types HO537.out BK523.out (by decide)) (fun _ hk => hk.2) (.int .i64 t538)) (fun _ hk => hk.2) (.int .i64 t539)) (fun _ h_ => h_.1))) (Kd.R_base ho0) hb); have n1_ := Aside0.mk (Kd.R_lower (Kd.R_new' ho0 (Kd.R_lt (by (with_reducible repeat (first | apply Kd.R_alloc | apply Kd.R_drewN | apply Kd.R_drew)); exact (Kd.R_mono (Kd.R_far (p := ⟨gb523, 1, none⟩) (Kd.R_far (p := ⟨gb523, 0, none⟩) (Kd.R_types HO537.out BK523.out (by decide)) (fun _ hk => hk.2) (.int .i64 t538)) (fun _ hk => hk.2) (.int .i64 t539)) (fun _ h_ => h_.1))))) (below_size h1_)); have n2_ := Aside0.mk (blk_below (g := gb523) (o := .cells #[.int .i64 t538, .int .i64 t539] 26 (0, 0)) (by (with_reducible repeat first|apply bk1_|apply bk2_|apply bk3_); refine blk_put (cs := #[.int .i64 t538, .int .i64 x524001_2]) ?_ 1 _ rfl; (with_reducible repeat first|apply bk1_|apply bk2_|apply bk3_); refine blk_put (cs := #[.int .i64 x524000_2, .int .i64 x524001_2]) ?_ 0 _ rfl; (with_reducible repeat first|apply bk1_|apply bk2_|apply bk3_); exact BK523.out) hb); have n3_ := Aside0.mk (blk_below (g := gb529) (o := .cells #[.int .i64 x530000_2, .int .i64 x530001_2] 26 (0, 0)) (by (with_reducible repeat first|apply bk1_|apply bk2_|apply bk3_); refine blk_far ?_ NB529_523.out _; (with_reducible repeat first|apply bk1_|apply bk2_|apply bk3_); refine blk_far ?_ NB529_523.out _; (with_reducible repeat first|apply bk1_|apply bk2_|apply bk3_); exact BK529.out) hb); have n4_ := Aside0.mk (below_step h1_ hb); clear HO537; clear BK523; clear BK529; clear HB; have HO537 := n0_; have HO542 := n1_; have BK523 := n2_; have BK529 := n3_; have HB := n4_; clear n0_ n1_ n2_ n3_ n4_; (try clear hb); (try clear hb2); (try clear hk); (try clear hi); (try clear ho0); have hcz57_0 : w56.cell? ⟨gb529, 0, none⟩ = some (.int .i64 x530000_2) := (blk_cell BK529.out 0).trans rfl; have hcz57_1 : w56.cell? ⟨gb529, 1, none⟩ = some (.int .i64 x530001_2) := (blk_cell BK529.out 1).trans rfl; have hfz57_0 := blk_frozen BK529.out 0; have hfz57_1 := blk_frozen BK529.out 1; have hcz58_0 : w56.cell? ⟨gb523, 0, none⟩ = some (.int .i64 t538) := (blk_cell BK523.out 0).trans rfl; have hcz58_1 : w56.cell? ⟨gb523, 1, none⟩ = some (.int .i64 t539) := (blk_cell BK523.out 1).trans rfl; have hfz58_0 := blk_frozen BK523.out 0; have hfz58_1 := blk_frozen BK523.out 1; obtain ⟨Ao59, co59, eo59⟩ := Kd.R_slice HO537.out; subst eo59; obtain ⟨Ao60, co60, eo60⟩ := Kd.R_slice HO542.out; subst eo60) | (go_at_call 16; (with_reducible refine (hearsaylaw04_same.calls kj25 _ _ t535 _ _ t540 false _ ?side1 ?side2 ?side3 ?side4 A43.out).mono ?_); (case side1 => refine (Kd.R_reads' (e := 33) (base := w.heap.size) (ok := fun k_ => (True ∧ some k_ ≠ (.slice Ao60 t540.length co60 : Value).ownBlock)) (n := t535.length) (c := co59) ?_).2.2; exact (by (with_reducible repeat (first | apply Kd.R_alloc | apply Kd.R_drewN | apply Kd.R_drew)); exact (Kd.R_mono (Kd.R_far (p := ⟨gb529, 1, none⟩) (Kd.R_far (p := ⟨gb529, 0, none⟩) (Kd.R_types HO537.out BK529.out (by decide)) (fun _ hk => hk.2) (.int .i64 t543)) (fun _ hk => hk.2) (.int .i64 t544)) (fun _ h_ => h_.1)))); (case side2 => exact (Kd.R_reads' HO537.out).2.1); (case side3 => refine (Kd.R_reads' (e := 33) (base := w.heap.size) (ok := fun k_ => (True ∧ some k_ ≠ (.slice Ao59 t535.length co59 : Value).ownBlock)) (n := t540.length) (c := co60) ?_).2.2; exact (by (with_reducible repeat (first | apply Kd.R_alloc | apply Kd.R_drewN | apply Kd.R_drew)); exact (Kd.R_mono (Kd.R_far (p := ⟨gb529, 1, none⟩) (Kd.R_far (p := ⟨gb529, 0, none⟩) (Kd.R_types HO542.out BK529.out (by decide)) (fun _ hk => hk.2) (.int .i64 t543)) (fun _ hk => hk.2) (.int .i64 t544)) (fun _ h_ => h_.1)))); (case side4 => exact (Kd.R_reads' HO542.out).2.1); rintro e w' ⟨rfl, ⟨nd, rfl⟩⟩))
                go_ret
                exact ⟨er_, h1_⟩
             ·rw [if_neg c33] at H
              exact absurd H (by simp)
            ·rw [if_neg c32] at H
             exact absurd H (by simp)
           ·rw [if_neg c31] at H
            exact absurd H (by simp)
          ·rw [if_neg c30] at H
           exact absurd H (by simp)
      ·rw [if_neg c25] at H
       have c25b0 : decide (x11_2 < (l2.length : Int)) = false := decide_eq_false c25
       clear c25
       replace H := Option.bind_eq_some_iff.mp H
       obtain ⟨t531, A610, H⟩ := H
       replace H : (some t531) = some r := H
       have A61 := Aside0.mk A610
       clear A610
       obtain rfl := Option.some.inj H
       go_wp2_with (first | ((with_reducible refine gate_callee (f := 17) rfl ?_); refine goesL_ (some 83) rfl rfl Tryd.func17 (by kernel_rfl) rfl #[] rfl (by (try simp only [List.map_toArray, List.map_cons, List.map_nil]); first | done | rfl | (simp only [List.length_drop, List.length_take]; rfl) | (simp only [beq_nil_, bne_nil_]; rfl) | (simp only [ByteArray.size_extract, Nat.min_self]; rfl) | (refine (congrArg (fun z => #[_, Value.int .i64 z]) (?_ : _ = _)); rw [ByteArray.size_extract]; have h1_ := of_decide_eq_true c32b1; have h2_ := of_decide_eq_true c33b1; omega)) ?_; (with_reducible refine (hearsaylaw04_head.calls k2  t531 _ ?side1 A61.out).mono ?_); (case side1 => exact Gl.below HG.out.gl h1_); rintro e w62 ⟨rfl, hb⟩; refine ⟨_, rfl, ?_⟩; have n0_ := Aside0.mk (blk_below (g := gb523) (o := .cells #[.int .i64 x524000_2, .int .i64 x524001_2] 26 (0, 0)) (bk_ BK523) hb); have n1_ := Aside0.mk (blk_below (g := gb529) (o := .cells #[.int .i64 x530000_2, .int .i64 x530001_2] 26 (0, 0)) (bk_ BK529) hb); have n2_ := Aside0.mk (below_step h1_ hb); clear BK523; clear BK529; clear HB; have BK523 := n0_; have BK529 := n1_; have HB := n2_; clear n0_ n1_ n2_; (try clear hb); (try clear hb2); (try clear hk); (try clear hi)))
       go_ret
       exact ⟨er_, h1_⟩

end Go.Proofs.YtmpaipbpnkfmfaaDoor.P
