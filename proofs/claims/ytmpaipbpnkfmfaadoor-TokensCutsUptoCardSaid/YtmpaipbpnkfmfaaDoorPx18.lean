/- THE PROGRAM's FUNCTIONS AS PLAIN LEAN FUNCTIONS, and proofs that its calls come to them: written by a program of this claim's own. Conditions: as each theorem states. -/
import Derived.Test.YtmpaipbpnkfmfaaDoorPx0
namespace Go.Proofs.YtmpaipbpnkfmfaaDoor.P
open Go.RowKit Go.Proofs.YtmpaipbpnkfmfaaDoorW.PrintWords Go.Proofs.YtmpaipbpnkfmfaaDoorW.PrintLast Go.Proofs.YtmpaipbpnkfmfaaDoorW.PrintMore
attribute [local go_sem] max2_int min2_int max_two min_two max_three min_three max_four min_four   -- for this text's walks alone
set_option linter.unusedVariables false
set_option linter.unusedSimpArgs false

attribute [local go_sem high] isSome_setCell_
/-! ### hearsaylaw04_copied: function 22 -/
def hearsaylaw04_copied.f (l0 : List (S33)) : Option ((List (S33))) := if ([] : List (S33)).length + l0.length < 2932031007402 then (some (([] : List (S33)) ++ l0)) else (none)
set_option maxHeartbeats 20000000 in
set_option maxRecDepth 100000 in
theorem hearsaylaw04_copied.calls (A0 : Option Addr) (c0 : Nat) (l0 : List (S33)) (r : List (S33)) (w : World) (hr0 : Kd.C k33 w A0 l0.length l0) (hc0 : l0.length ≤ c0) (h : hearsaylaw04_copied.f l0 = some r) :
  Calls Tryd.prog 22 #[.slice A0 l0.length c0] w fun e w' => ∃ v0_ : Value, e = .returned (v0_) ∧ Kd.R k33 33 w' w.heap.size (fun _ => True) v0_ r ∧ Below w.heap.size w w' := by
 have HR0 := Aside0.mk hr0
 have HC0 := Aside0.mk hc0
 clear hr0 hc0
 have HB := Aside0.mk (Below.refl w.heap.size w)
 have H : (if ([] : List (S33)).length + l0.length < 2932031007402 then (some (([] : List (S33)) ++ l0)) else (none)) = some r := h
 clear h
 by_cases c2 : ([] : List (S33)).length + l0.length < 2932031007402
 ·rw [if_pos c2] at H
  have LMc2 := Aside0.mk c2
  clear c2
  obtain ⟨y305, hy305⟩ : ∃ y_ : List (S33), y_ = (([] : List (S33)) ++ l0) := ⟨_, rfl⟩
  replace H : (some y305) = some r := by first | (rw [hy305]; with_reducible exact H) | (have H2_ := (Option.bind_some _ _).symm.trans H; rw [hy305]; with_reducible exact H2_) | (have H2_ := (Option.bind_some _ _).symm.trans H; with_reducible exact H2_) | with_reducible exact H | (rw [hy305]; exact H) | exact H
  have Ny305 := Aside0.mk hy305
  clear hy305
  obtain rfl := Option.some.inj H
  go_enter Tryd.func22, Tryd.ntmps22
  go_wp2_with (first | ((with_reducible refine gate_builtin (b := .append) (xs := #[.tmp 4, .tmp 5]) rfl ?_); at_builtin; refine Kd.R_append_rows k33 (w0 := w) w.heap.size rfl (.tmp 4) (.tmp 5) 23 33 (.agg #[(.int .i64 0), (.string ⟨#[]⟩), (.int .i64 0), (.int .i64 0), (.int .i64 0)]) 48 rfl Tryd.underlying23 info33 rfl (by decide) (by omega) (.slice none 0 0) ([] : List (S33)) l0 _ _ _ (fun _ => True) (fun _ => False) rfl rfl ?aO ?aR (fun _ _ h => h) (fun _ h => h.elim) ?aF ?aB ?aS ?aL ?_; (case aR => repeat (first | exact HR0.out | (with_reducible refine Kd.C_alloc ?_ _) | (with_reducible refine Kd.C_drewN ?_ _) | (with_reducible refine Kd.C_drew ?_))); (case aB => exact h0_); (case aF => exact (fun _ _ => trivial)); (case aO => exact ((Kd.R_nil _ _ _ _ (fun _ => True)))); (case aS => exact (below_size h0_)); (case aL => have := LMc2.out; omega); intro v306 w3 ho hb hg hat; rw [← Ny305.out] at ho; have n0_ := Aside0.mk (hb); have n1_ := Aside0.mk (ho); clear HB; have HB := n0_; have HO307 := n1_; clear n0_ n1_; clear ho hb hg hat))
  go_ret
  exact ⟨_, er_, by (with_reducible repeat (first | apply Kd.R_alloc | apply Kd.R_drewN | apply Kd.R_drew)); exact HO307.out, h0_⟩
 ·rw [if_neg c2] at H
  exact absurd H (by simp)

/-! ### tokens_apart: function 44 -/
mutual
def tokens_apart.j1 : Nat → Int → ByteArray → Int → Int → Int → Option (Bool)
 | 0, _, _, _, _, _ => none
 | k + 1, x310000, x310001, x310002, x310003, x310004 => if x310000 = 1 then (tokens_apart.j2 k x310000 (x310000 == 1) x310000 x310001 x310002 x310003 x310004) else (if x310000 = 2 then (tokens_apart.j2 k x310000 (x310000 == 2) x310000 x310001 x310002 x310003 x310004) else (tokens_apart.j2 k x310000 (x310000 == 5) x310000 x310001 x310002 x310003 x310004))
def tokens_apart.j2 : Nat → Int → Bool → Int → ByteArray → Int → Int → Int → Option (Bool)
 | 0, _, _, _, _, _, _, _ => none
 | k + 1, x19, x20, x310000, x310001, x310002, x310003, x310004 => if x20 = true then (some true) else (if x19 = 4 then (some (decide (x310002 ≥ 0))) else (some false))
def tokens_apart.j0 : Nat → Int → Bool → Int → ByteArray → Int → Int → Int → Option (Bool)
 | 0, _, _, _, _, _, _, _ => none
 | k + 1, x6, x9, x310000, x310001, x310002, x310003, x310004 => if x9 = true then (tokens_apart.j1 k x310000 x310001 x310002 x310003 x310004) else (if x6 = 5 then (tokens_apart.j1 k x310000 x310001 x310002 x310003 x310004) else (if x6 = 4 then (tokens_apart.j1 k x310000 x310001 x310002 x310003 x310004) else (some false)))
end
def tokens_apart.f (k : Nat) (a0_0 : Int) (a0_1 : ByteArray) (a0_2 : Int) (a0_3 : Int) (a0_4 : Int) (a1_0 : Int) (a1_1 : ByteArray) (a1_2 : Int) (a1_3 : Int) (a1_4 : Int) : Option (Bool) := if a0_0 = 15 then (some (a1_0 == 13)) else (if a0_0 = 1 then (tokens_apart.j0 k a0_0 (a0_0 == 1) a1_0 a1_1 a1_2 a1_3 a1_4) else (tokens_apart.j0 k a0_0 (a0_0 == 2) a1_0 a1_1 a1_2 a1_3 a1_4))
theorem tokens_apart.mono_l : ∀ k, (∀ y0 y1 y2 y3 y4, LeO (tokens_apart.j1 k y0 y1 y2 y3 y4) (tokens_apart.j1 (k + 1) y0 y1 y2 y3 y4)) ∧ (∀ y0 y1 y2 y3 y4 y5 y6, LeO (tokens_apart.j2 k y0 y1 y2 y3 y4 y5 y6) (tokens_apart.j2 (k + 1) y0 y1 y2 y3 y4 y5 y6)) ∧ (∀ y0 y1 y2 y3 y4 y5 y6, LeO (tokens_apart.j0 k y0 y1 y2 y3 y4 y5 y6) (tokens_apart.j0 (k + 1) y0 y1 y2 y3 y4 y5 y6))
 | 0 => ⟨fun _ _ _ _ _ r h => by simp [tokens_apart.j1] at h, fun _ _ _ _ _ _ _ r h => by simp [tokens_apart.j2] at h, fun _ _ _ _ _ _ _ r h => by simp [tokens_apart.j0] at h⟩
 | k + 1 => by
  obtain ⟨ih0, ih1, ih2⟩ := tokens_apart.mono_l k
  refine ⟨?_, ?_, ?_⟩
  ·intro y0 y1 y2 y3 y4
   unfold tokens_apart.j1
   repeat' first
   | (with_reducible exact ih0 _ _ _ _ _)
   | (with_reducible exact ih1 _ _ _ _ _ _ _)
   | (with_reducible exact ih2 _ _ _ _ _ _ _)
   | (with_reducible exact LeO.refl _)
   | (with_reducible exact LeO.none _)
   | (with_reducible refine LeO.ite ?_ ?_)
   | (with_reducible refine LeO.bind ?_ (fun _ => ?_))
   | exact ih0 _ _ _ _ _
   | exact ih1 _ _ _ _ _ _ _
   | exact ih2 _ _ _ _ _ _ _
   | exact LeO.none _
   | refine LeO.ite ?_ ?_
   | refine LeO.bind ?_ (fun _ => ?_)
  ·intro y0 y1 y2 y3 y4 y5 y6
   unfold tokens_apart.j2
   repeat' first
   | (with_reducible exact ih0 _ _ _ _ _)
   | (with_reducible exact ih1 _ _ _ _ _ _ _)
   | (with_reducible exact ih2 _ _ _ _ _ _ _)
   | (with_reducible exact LeO.refl _)
   | (with_reducible exact LeO.none _)
   | (with_reducible refine LeO.ite ?_ ?_)
   | (with_reducible refine LeO.bind ?_ (fun _ => ?_))
   | exact ih0 _ _ _ _ _
   | exact ih1 _ _ _ _ _ _ _
   | exact ih2 _ _ _ _ _ _ _
   | exact LeO.none _
   | refine LeO.ite ?_ ?_
   | refine LeO.bind ?_ (fun _ => ?_)
  ·intro y0 y1 y2 y3 y4 y5 y6
   unfold tokens_apart.j0
   repeat' first
   | (with_reducible exact ih0 _ _ _ _ _)
   | (with_reducible exact ih1 _ _ _ _ _ _ _)
   | (with_reducible exact ih2 _ _ _ _ _ _ _)
   | (with_reducible exact LeO.refl _)
   | (with_reducible exact LeO.none _)
   | (with_reducible refine LeO.ite ?_ ?_)
   | (with_reducible refine LeO.bind ?_ (fun _ => ?_))
   | exact ih0 _ _ _ _ _
   | exact ih1 _ _ _ _ _ _ _
   | exact ih2 _ _ _ _ _ _ _
   | exact LeO.none _
   | refine LeO.ite ?_ ?_
   | refine LeO.bind ?_ (fun _ => ?_)
theorem tokens_apart.mono : ∀ a0 a1 a2 a3 a4 a5 a6 a7 a8 a9 k, LeO (tokens_apart.f k a0 a1 a2 a3 a4 a5 a6 a7 a8 a9) (tokens_apart.f (k + 1) a0 a1 a2 a3 a4 a5 a6 a7 a8 a9) := by
 intro a0 a1 a2 a3 a4 a5 a6 a7 a8 a9 k
 obtain ⟨ih0, ih1, ih2⟩ := tokens_apart.mono_l k
 unfold tokens_apart.f
 repeat' first
   | (with_reducible exact ih0 _ _ _ _ _)
   | (with_reducible exact ih1 _ _ _ _ _ _ _)
   | (with_reducible exact ih2 _ _ _ _ _ _ _)
   | (with_reducible exact LeO.refl _)
   | (with_reducible exact LeO.none _)
   | (with_reducible refine LeO.ite ?_ ?_)
   | (with_reducible refine LeO.bind ?_ (fun _ => ?_))
   | exact ih0 _ _ _ _ _
   | exact ih1 _ _ _ _ _ _ _
   | exact ih2 _ _ _ _ _ _ _
   | exact LeO.none _
   | refine LeO.ite ?_ ?_
   | refine LeO.bind ?_ (fun _ => ?_)
set_option maxHeartbeats 20000000 in
set_option maxRecDepth 100000 in
theorem tokens_apart.calls (k : Nat) (a0_0 : Int) (a0_1 : ByteArray) (a0_2 : Int) (a0_3 : Int) (a0_4 : Int) (a1_0 : Int) (a1_1 : ByteArray) (a1_2 : Int) (a1_3 : Int) (a1_4 : Int) (r : Bool) (w : World) (h : tokens_apart.f k a0_0 a0_1 a0_2 a0_3 a0_4 a1_0 a1_1 a1_2 a1_3 a1_4 = some r) :
  Calls Tryd.prog 44 #[.agg #[.int .i64 a0_0, .string a0_1, .int .i64 a0_2, .int .i64 a0_3, .int .i64 a0_4], .agg #[.int .i64 a1_0, .string a1_1, .int .i64 a1_2, .int .i64 a1_3, .int .i64 a1_4]] w fun e w' => e = .returned (.bool r) ∧ Below w.heap.size w w' := by
 have hu33 := Tryd.underlying33
 have HB := Aside0.mk (Below.refl w.heap.size w)
 have H : (if a0_0 = 15 then (some (a1_0 == 13)) else (if a0_0 = 1 then (tokens_apart.j0 k a0_0 (a0_0 == 1) a1_0 a1_1 a1_2 a1_3 a1_4) else (tokens_apart.j0 k a0_0 (a0_0 == 2) a1_0 a1_1 a1_2 a1_3 a1_4))) = some r := h
 clear h
 have HC3 := Aside0.mk H
 clear H
 go_enter Tryd.func44, Tryd.ntmps44
 go_upto_block 3 with (first | ((with_reducible refine gate_dst (N := 2) rfl ?_); refine box_event ?hg (N := 2) ?hd (cs := #[.int .i64 a0_0, .string a0_1, .int .i64 a0_2, .int .i64 a0_3, .int .i64 a0_4]) (t := 33) ?hr ?_; (case hd => rfl); (case hg => rfl); (case hr => first | (go_simp; done) | (go_simp; rfl)); intro gb308 hg w4 hbox hb; have n0_ := Aside0.mk (below_step h0_ hb); have n1_ := Aside0.mk (hbox); have n2_ := Aside0.mk ((by rw [hg]; exact (below_size h0_) : w.heap.size ≤ gb308)); have n3_ := Aside0.mk ((by rw [hg]; exact (below_size h0_) : w.heap.size ≤ gb308)); clear HB; have HB := n0_; have BK308 := n1_; have GW308 := n2_; have GE308 := n3_; clear n0_ n1_ n2_ n3_; clear hb hbox hg) | ((with_reducible refine gate_dst (N := 3) rfl ?_); refine box_event ?hg (N := 3) ?hd (cs := #[.int .i64 a1_0, .string a1_1, .int .i64 a1_2, .int .i64 a1_3, .int .i64 a1_4]) (t := 33) ?hr ?_; (case hd => rfl); (case hg => rfl); (case hr => first | (go_simp; done) | (go_simp; rfl)); intro gb309 hg w5 hbox hb; have n0_ := Aside0.mk (blk_below (g := gb308) (o := .cells #[.int .i64 a0_0, .string a0_1, .int .i64 a0_2, .int .i64 a0_3, .int .i64 a0_4] 33 (0, 0)) (bk_ BK308) hb); have n1_ := Aside0.mk (below_step h1_ hb); have n2_ := Aside0.mk (hbox); have n3_ := Aside0.mk ((by rw [hg]; exact (below_size h1_) : w.heap.size ≤ gb309)); have n4_ := Aside0.mk ((by rw [hg]; exact (below_size h1_) : w.heap.size ≤ gb309)); have n5_ := Aside0.mk ((by rw [hg]; exact Nat.ne_of_lt (blk_lt (g := gb308) (o := .cells #[.int .i64 a0_0, .string a0_1, .int .i64 a0_2, .int .i64 a0_3, .int .i64 a0_4] 33 (0, 0)) (bk_ BK308)) : gb308 ≠ gb309)); have n6_ := Aside0.mk ((by rw [hg]; exact Nat.ne_of_gt (blk_lt (g := gb308) (o := .cells #[.int .i64 a0_0, .string a0_1, .int .i64 a0_2, .int .i64 a0_3, .int .i64 a0_4] 33 (0, 0)) (bk_ BK308)) : gb309 ≠ gb308)); clear BK308; clear HB; have BK308 := n0_; have HB := n1_; have BK309 := n2_; have GW309 := n3_; have GE309 := n4_; have NB308_309 := n5_; have NB309_308 := n6_; clear n0_ n1_ n2_ n3_ n4_ n5_ n6_; clear hb hbox hg; have hnb6 := NB308_309.out; have hnc6 := NB309_308.out; have hcz7_0 : w5.cell? ⟨gb308, 0, none⟩ = some (.int .i64 a0_0) := (blk_cell BK308.out 0).trans rfl; have hcz7_1 : w5.cell? ⟨gb308, 1, none⟩ = some (.string a0_1) := (blk_cell BK308.out 1).trans rfl; have hcz7_2 : w5.cell? ⟨gb308, 2, none⟩ = some (.int .i64 a0_2) := (blk_cell BK308.out 2).trans rfl; have hcz7_3 : w5.cell? ⟨gb308, 3, none⟩ = some (.int .i64 a0_3) := (blk_cell BK308.out 3).trans rfl; have hcz7_4 : w5.cell? ⟨gb308, 4, none⟩ = some (.int .i64 a0_4) := (blk_cell BK308.out 4).trans rfl; have hfz7_0 := blk_frozen BK308.out 0; have hfz7_1 := blk_frozen BK308.out 1; have hfz7_2 := blk_frozen BK308.out 2; have hfz7_3 := blk_frozen BK308.out 3; have hfz7_4 := blk_frozen BK308.out 4))
 (try simp only [Act.put, List.setIfInBounds_toArray, List.set_cons_zero, List.set_cons_succ])
 go_cut [] (fun wc => ∃ (kq : Nat), Aside0 (tokens_apart.j1 kq a1_0 a1_1 a1_2 a1_3 a1_4 = some r) ∧ Aside0 (kq ≤ k) ∧ Aside0 (wc.heap[gb308]? = some (.cells #[.int .i64 a0_0, .string a0_1, .int .i64 a0_2, .int .i64 a0_3, .int .i64 a0_4] 33 (0, 0))) ∧ Aside0 (wc.heap[gb309]? = some (.cells #[.int .i64 a1_0, .string a1_1, .int .i64 a1_2, .int .i64 a1_3, .int .i64 a1_4] 33 (0, 0))) ∧ Aside0 (Below w.heap.size w wc))
 case first =>
  have H := HC3.out
  clear HC3
  by_cases c8 : a0_0 = 15
  ·rw [if_pos c8] at H
   have c8b0 : (a0_0 == 15) = true := beq_iff_eq.mpr c8
   have c8b1 : (a0_0 != 15) = false := bne_eq_false_iff_eq.mpr c8
   clear c8
   (first | rw [c8b0] | (simp only [i64_w, i32_w]; rw [c8b0]) | skip)
   obtain rfl := Option.some.inj H
   have hnb9 := NB309_308.out
   have hnc9 := NB308_309.out
   have hcz10_0 : w5.cell? ⟨gb309, 0, none⟩ = some (.int .i64 a1_0) := (blk_cell BK309.out 0).trans rfl
   have hcz10_1 : w5.cell? ⟨gb309, 1, none⟩ = some (.string a1_1) := (blk_cell BK309.out 1).trans rfl
   have hcz10_2 : w5.cell? ⟨gb309, 2, none⟩ = some (.int .i64 a1_2) := (blk_cell BK309.out 2).trans rfl
   have hcz10_3 : w5.cell? ⟨gb309, 3, none⟩ = some (.int .i64 a1_3) := (blk_cell BK309.out 3).trans rfl
   have hcz10_4 : w5.cell? ⟨gb309, 4, none⟩ = some (.int .i64 a1_4) := (blk_cell BK309.out 4).trans rfl
   have hfz10_0 := blk_frozen BK309.out 0
   have hfz10_1 := blk_frozen BK309.out 1
   have hfz10_2 := blk_frozen BK309.out 2
   have hfz10_3 := blk_frozen BK309.out 3
   have hfz10_4 := blk_frozen BK309.out 4
   go_wp2
   go_ret
   exact ⟨er_, h1_⟩
  ·rw [if_neg c8] at H
   have c8b0 : (a0_0 == 15) = false := beq_eq_false_iff_ne.mpr c8
   have c8b1 : (a0_0 != 15) = true := bne_iff_ne.mpr c8
   (first | rw [c8b0] | (simp only [i64_w, i32_w]; rw [c8b0]) | skip)
   have HC11 := Aside0.mk H
   clear H
   go_upto_if 9 with (fail)
   go_cut [9] (fun v9 wc => ∃ (kq : Nat) (x9_10 : Bool), v9 = .bool x9_10 ∧ Aside0 (tokens_apart.j0 kq a0_0 x9_10 a1_0 a1_1 a1_2 a1_3 a1_4 = some r) ∧ Aside0 (kq ≤ k) ∧ Aside0 (wc.heap[gb308]? = some (.cells #[.int .i64 a0_0, .string a0_1, .int .i64 a0_2, .int .i64 a0_3, .int .i64 a0_4] 33 (0, 0))) ∧ Aside0 (wc.heap[gb309]? = some (.cells #[.int .i64 a1_0, .string a1_1, .int .i64 a1_2, .int .i64 a1_3, .int .i64 a1_4] 33 (0, 0))) ∧ Aside0 (Below w.heap.size w wc))
   case first =>
    have H := HC11.out
    clear HC11
    by_cases c12 : a0_0 = 1
    ·rw [if_pos c12] at H
     have c12b0 : (a0_0 == 1) = true := beq_iff_eq.mpr c12
     have c12b1 : (a0_0 != 1) = false := bne_eq_false_iff_eq.mpr c12
     clear c12
     (first | rw [c12b0] | (simp only [i64_w, i32_w]; rw [c12b0]) | skip)
     have H' := Aside0.mk H
     clear H
     go_wp2
     go_meet
     case rel => exact ⟨_, ((a0_0 == 1)), eq_, H', ⟨by first | omega | exact Nat.le_refl _⟩, ⟨by (with_reducible repeat first|apply bk1_|apply bk2_|apply bk3_); exact BK308.out⟩, ⟨by (with_reducible repeat first|apply bk1_|apply bk2_|apply bk3_); exact BK309.out⟩, ⟨h1_⟩⟩
    ·rw [if_neg c12] at H
     have c12b0 : (a0_0 == 1) = false := beq_eq_false_iff_ne.mpr c12
     have c12b1 : (a0_0 != 1) = true := bne_iff_ne.mpr c12
     (first | rw [c12b0] | (simp only [i64_w, i32_w]; rw [c12b0]) | skip)
     have H' := Aside0.mk H
     clear H
     go_wp2
     go_meet
     case rel => exact ⟨_, ((a0_0 == 2)), eq_, H', ⟨by first | omega | exact Nat.le_refl _⟩, ⟨by (with_reducible repeat first|apply bk1_|apply bk2_|apply bk3_); exact BK308.out⟩, ⟨by (with_reducible repeat first|apply bk1_|apply bk2_|apply bk3_); exact BK309.out⟩, ⟨h1_⟩⟩
   case rest =>
    clear HC11
    try clear c1
    try clear p2
    try clear c4
    try clear c6
    try clear c8
    try clear c8b0
    try clear c8b1
    try clear c9
    try clear c12
    try clear c12b0
    try clear c12b1
    try clear hcz10_0
    try clear hcz10_1
    try clear hcz10_2
    try clear hcz10_3
    try clear hcz10_4
    try clear hcz7_0
    try clear hcz7_1
    try clear hcz7_2
    try clear hcz7_3
    try clear hcz7_4
    try clear hfz10_0
    try clear hfz10_1
    try clear hfz10_2
    try clear hfz10_3
    try clear hfz10_4
    try clear hfz7_0
    try clear hfz7_1
    try clear hfz7_2
    try clear hfz7_3
    try clear hfz7_4
    obtain ⟨kq, x9_10, rfl, HA, HJ10, BK308, BK309, HB⟩ := hcut
    cases kq with
    | zero => exact absurd HA.out (by simp [tokens_apart.j0])
    | succ kj10 =>
     have H := HA.out
     clear HA
     simp only [tokens_apart.j0] at H
     by_cases c13 : x9_10 = true
     ·subst c13
      have H1 : (tokens_apart.j1 kj10 a1_0 a1_1 a1_2 a1_3 a1_4) = some r := by rw [if_pos rfl] at H; exact H
      clear H
      have H := H1
      clear H1
      have H' := Aside0.mk H
      clear H
      go_wp2
      go_meet
      case rel => exact ⟨_, H', ⟨by have := HJ10.out; first | omega | exact Nat.le_refl _⟩, ⟨by (with_reducible repeat first|apply bk1_|apply bk2_|apply bk3_); exact BK308.out⟩, ⟨by (with_reducible repeat first|apply bk1_|apply bk2_|apply bk3_); exact BK309.out⟩, ⟨h1_⟩⟩
     ·replace c13 := Bool.eq_false_iff.mpr c13
      subst c13
      have H1 : (if a0_0 = 5 then (tokens_apart.j1 kj10 a1_0 a1_1 a1_2 a1_3 a1_4) else (if a0_0 = 4 then (tokens_apart.j1 kj10 a1_0 a1_1 a1_2 a1_3 a1_4) else (some false))) = some r := by rw [if_neg (show ¬ (false = true) by decide)] at H; exact H
      clear H
      have H := H1
      clear H1
      by_cases c14 : a0_0 = 5
      ·rw [if_pos c14] at H
       have c14b0 : (a0_0 == 5) = true := beq_iff_eq.mpr c14
       have c14b1 : (a0_0 != 5) = false := bne_eq_false_iff_eq.mpr c14
       clear c14
       have H' := Aside0.mk H
       clear H
       go_wp2
       go_meet
       case rel => exact ⟨_, H', ⟨by have := HJ10.out; first | omega | exact Nat.le_refl _⟩, ⟨by (with_reducible repeat first|apply bk1_|apply bk2_|apply bk3_); exact BK308.out⟩, ⟨by (with_reducible repeat first|apply bk1_|apply bk2_|apply bk3_); exact BK309.out⟩, ⟨h1_⟩⟩
      ·rw [if_neg c14] at H
       have c14b0 : (a0_0 == 5) = false := beq_eq_false_iff_ne.mpr c14
       have c14b1 : (a0_0 != 5) = true := bne_iff_ne.mpr c14
       by_cases c15 : a0_0 = 4
       ·rw [if_pos c15] at H
        have c15b0 : (a0_0 == 4) = true := beq_iff_eq.mpr c15
        have c15b1 : (a0_0 != 4) = false := bne_eq_false_iff_eq.mpr c15
        clear c15
        have H' := Aside0.mk H
        clear H
        go_wp2
        go_meet
        case rel => exact ⟨_, H', ⟨by have := HJ10.out; first | omega | exact Nat.le_refl _⟩, ⟨by (with_reducible repeat first|apply bk1_|apply bk2_|apply bk3_); exact BK308.out⟩, ⟨by (with_reducible repeat first|apply bk1_|apply bk2_|apply bk3_); exact BK309.out⟩, ⟨h1_⟩⟩
       ·rw [if_neg c15] at H
        have c15b0 : (a0_0 == 4) = false := beq_eq_false_iff_ne.mpr c15
        have c15b1 : (a0_0 != 4) = true := bne_iff_ne.mpr c15
        obtain rfl := Option.some.inj H
        go_wp2
        go_ret
        exact ⟨er_, h1_⟩
 case rest =>
  clear HC3
  try clear c1
  try clear p2
  try clear c4
  try clear c6
  try clear c8
  try clear c8b0
  try clear c8b1
  try clear c9
  try clear c12
  try clear c12b0
  try clear c12b1
  try clear c13
  try clear c14
  try clear c14b0
  try clear c14b1
  try clear c15
  try clear c15b0
  try clear c15b1
  try clear hcz10_0
  try clear hcz10_1
  try clear hcz10_2
  try clear hcz10_3
  try clear hcz10_4
  try clear hcz7_0
  try clear hcz7_1
  try clear hcz7_2
  try clear hcz7_3
  try clear hcz7_4
  try clear hfz10_0
  try clear hfz10_1
  try clear hfz10_2
  try clear hfz10_3
  try clear hfz10_4
  try clear hfz7_0
  try clear hfz7_1
  try clear hfz7_2
  try clear hfz7_3
  try clear hfz7_4
  try clear p2
  obtain ⟨kq, HA, HJ2, BK308, BK309, HB⟩ := hcut
  cases kq with
  | zero => exact absurd HA.out (by simp [tokens_apart.j1])
  | succ kj2 =>
   have H := HA.out
   clear HA
   simp only [tokens_apart.j1] at H
   have HC16 := Aside0.mk H
   clear H
   have hnb17 := NB309_308.out
   have hnc17 := NB308_309.out
   have hcz18_0 : wc.cell? ⟨gb309, 0, none⟩ = some (.int .i64 a1_0) := (blk_cell BK309.out 0).trans rfl
   have hcz18_1 : wc.cell? ⟨gb309, 1, none⟩ = some (.string a1_1) := (blk_cell BK309.out 1).trans rfl
   have hcz18_2 : wc.cell? ⟨gb309, 2, none⟩ = some (.int .i64 a1_2) := (blk_cell BK309.out 2).trans rfl
   have hcz18_3 : wc.cell? ⟨gb309, 3, none⟩ = some (.int .i64 a1_3) := (blk_cell BK309.out 3).trans rfl
   have hcz18_4 : wc.cell? ⟨gb309, 4, none⟩ = some (.int .i64 a1_4) := (blk_cell BK309.out 4).trans rfl
   have hfz18_0 := blk_frozen BK309.out 0
   have hfz18_1 := blk_frozen BK309.out 1
   have hfz18_2 := blk_frozen BK309.out 2
   have hfz18_3 := blk_frozen BK309.out 3
   have hfz18_4 := blk_frozen BK309.out 4
   go_upto_if 20 with (fail)
   go_cut [20] (fun v20 wc => ∃ (kq : Nat) (x20_15 : Bool), v20 = .bool x20_15 ∧ Aside0 (tokens_apart.j2 kq a1_0 x20_15 a1_0 a1_1 a1_2 a1_3 a1_4 = some r) ∧ Aside0 (kq ≤ kj2) ∧ Aside0 (wc.heap[gb308]? = some (.cells #[.int .i64 a0_0, .string a0_1, .int .i64 a0_2, .int .i64 a0_3, .int .i64 a0_4] 33 (0, 0))) ∧ Aside0 (wc.heap[gb309]? = some (.cells #[.int .i64 a1_0, .string a1_1, .int .i64 a1_2, .int .i64 a1_3, .int .i64 a1_4] 33 (0, 0))) ∧ Aside0 (Below w.heap.size w wc))
   case first =>
    have H := HC16.out
    clear HC16
    by_cases c19 : a1_0 = 1
    ·rw [if_pos c19] at H
     have c19b0 : (a1_0 == 1) = true := beq_iff_eq.mpr c19
     have c19b1 : (a1_0 != 1) = false := bne_eq_false_iff_eq.mpr c19
     clear c19
     (first | rw [c19b0] | (simp only [i64_w, i32_w]; rw [c19b0]) | skip)
     have H' := Aside0.mk H
     clear H
     go_wp2
     go_meet
     case rel => exact ⟨_, ((a1_0 == 1)), eq_, H', ⟨by have := HJ2.out; first | omega | exact Nat.le_refl _⟩, ⟨by (with_reducible repeat first|apply bk1_|apply bk2_|apply bk3_); exact BK308.out⟩, ⟨by (with_reducible repeat first|apply bk1_|apply bk2_|apply bk3_); exact BK309.out⟩, ⟨h1_⟩⟩
    ·rw [if_neg c19] at H
     have c19b0 : (a1_0 == 1) = false := beq_eq_false_iff_ne.mpr c19
     have c19b1 : (a1_0 != 1) = true := bne_iff_ne.mpr c19
     (first | rw [c19b0] | (simp only [i64_w, i32_w]; rw [c19b0]) | skip)
     by_cases c20 : a1_0 = 2
     ·rw [if_pos c20] at H
      have c20b0 : (a1_0 == 2) = true := beq_iff_eq.mpr c20
      have c20b1 : (a1_0 != 2) = false := bne_eq_false_iff_eq.mpr c20
      clear c20
      have H' := Aside0.mk H
      clear H
      go_wp2
      go_meet
      case rel => exact ⟨_, ((a1_0 == 2)), eq_, H', ⟨by have := HJ2.out; first | omega | exact Nat.le_refl _⟩, ⟨by (with_reducible repeat first|apply bk1_|apply bk2_|apply bk3_); exact BK308.out⟩, ⟨by (with_reducible repeat first|apply bk1_|apply bk2_|apply bk3_); exact BK309.out⟩, ⟨h1_⟩⟩
     ·rw [if_neg c20] at H
      have c20b0 : (a1_0 == 2) = false := beq_eq_false_iff_ne.mpr c20
      have c20b1 : (a1_0 != 2) = true := bne_iff_ne.mpr c20
      have H' := Aside0.mk H
      clear H
      go_wp2
      go_meet
      case rel => exact ⟨_, ((a1_0 == 5)), eq_, H', ⟨by have := HJ2.out; first | omega | exact Nat.le_refl _⟩, ⟨by (with_reducible repeat first|apply bk1_|apply bk2_|apply bk3_); exact BK308.out⟩, ⟨by (with_reducible repeat first|apply bk1_|apply bk2_|apply bk3_); exact BK309.out⟩, ⟨h1_⟩⟩
   case rest =>
    clear HC16
    try clear c1
    try clear c2
    try clear p2
    try clear c4
    try clear c6
    try clear c8
    try clear c8b0
    try clear c8b1
    try clear c9
    try clear c12
    try clear c12b0
    try clear c12b1
    try clear c13
    try clear c14
    try clear c14b0
    try clear c14b1
    try clear c15
    try clear c15b0
    try clear c15b1
    try clear c17
    try clear c19
    try clear c19b0
    try clear c19b1
    try clear c20
    try clear c20b0
    try clear c20b1
    try clear hcz10_0
    try clear hcz10_1
    try clear hcz10_2
    try clear hcz10_3
    try clear hcz10_4
    try clear hcz18_0
    try clear hcz18_1
    try clear hcz18_2
    try clear hcz18_3
    try clear hcz18_4
    try clear hcz7_0
    try clear hcz7_1
    try clear hcz7_2
    try clear hcz7_3
    try clear hcz7_4
    try clear hfz10_0
    try clear hfz10_1
    try clear hfz10_2
    try clear hfz10_3
    try clear hfz10_4
    try clear hfz18_0
    try clear hfz18_1
    try clear hfz18_2
    try clear hfz18_3
    try clear hfz18_4
    try clear hfz7_0
    try clear hfz7_1
    try clear hfz7_2
    try clear hfz7_3
    try clear hfz7_4
    try clear p2
    obtain ⟨kq, x20_15, rfl, HA, HJ15, BK308, BK309, HB⟩ := hcut
    cases kq with
    | zero => exact absurd HA.out (by simp [tokens_apart.j2])
    | succ kj15 =>
     have H := HA.out
     clear HA
     simp only [tokens_apart.j2] at H
     by_cases c21 : x20_15 = true
     ·subst c21
      have H1 : (some true) = some r := by rw [if_pos rfl] at H; exact H
      clear H
      have H := H1
      clear H1
      obtain rfl := Option.some.inj H
      go_wp2
      go_ret
      exact ⟨er_, h1_⟩
     ·replace c21 := Bool.eq_false_iff.mpr c21
      subst c21
      have H1 : (if a1_0 = 4 then (some (decide (a1_2 ≥ 0))) else (some false)) = some r := by rw [if_neg (show ¬ (false = true) by decide)] at H; exact H
      clear H
      have H := H1
      clear H1
      by_cases c22 : a1_0 = 4
      ·rw [if_pos c22] at H
       have c22b0 : (a1_0 == 4) = true := beq_iff_eq.mpr c22
       have c22b1 : (a1_0 != 4) = false := bne_eq_false_iff_eq.mpr c22
       clear c22
       obtain rfl := Option.some.inj H
       have hnb23 := NB309_308.out
       have hnc23 := NB308_309.out
       have hcz24_0 : wc.cell? ⟨gb309, 0, none⟩ = some (.int .i64 a1_0) := (blk_cell BK309.out 0).trans rfl
       have hcz24_1 : wc.cell? ⟨gb309, 1, none⟩ = some (.string a1_1) := (blk_cell BK309.out 1).trans rfl
       have hcz24_2 : wc.cell? ⟨gb309, 2, none⟩ = some (.int .i64 a1_2) := (blk_cell BK309.out 2).trans rfl
       have hcz24_3 : wc.cell? ⟨gb309, 3, none⟩ = some (.int .i64 a1_3) := (blk_cell BK309.out 3).trans rfl
       have hcz24_4 : wc.cell? ⟨gb309, 4, none⟩ = some (.int .i64 a1_4) := (blk_cell BK309.out 4).trans rfl
       have hfz24_0 := blk_frozen BK309.out 0
       have hfz24_1 := blk_frozen BK309.out 1
       have hfz24_2 := blk_frozen BK309.out 2
       have hfz24_3 := blk_frozen BK309.out 3
       have hfz24_4 := blk_frozen BK309.out 4
       go_wp2
       go_ret
       exact ⟨er_, h1_⟩
      ·rw [if_neg c22] at H
       have c22b0 : (a1_0 == 4) = false := beq_eq_false_iff_ne.mpr c22
       have c22b1 : (a1_0 != 4) = true := bne_iff_ne.mpr c22
       obtain rfl := Option.some.inj H
       go_wp2
       go_ret
       exact ⟨er_, h1_⟩

-- GIVEN: function 20 (tokens_Join)

end Go.Proofs.YtmpaipbpnkfmfaaDoor.P
