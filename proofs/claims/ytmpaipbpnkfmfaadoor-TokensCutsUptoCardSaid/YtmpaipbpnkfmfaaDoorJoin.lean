/-
  A GIVEN FUNCTION, PROVED BY HAND: Join over the library's Builder: what its call computes, as a plain Lean function over the printed Spell and apart. Conditions: as the theorem states.
-/
import Derived.Test.YtmpaipbpnkfmfaaDoorPx8
import Derived.Test.YtmpaipbpnkfmfaaDoorPx18
import Derived.Test.YtmpaipbpnkfmfaaDoorBuild
import Derived.Deep.RegionWith
import Derived.Deep.RegionHeld3
import Derived.Outline
namespace Go.Proofs.YtmpaipbpnkfmfaaDoor.P
open Go.RowKit Go.Shelf Go.Proofs.YtmpaipbpnkfmfaaDoorW.PrintWords Go.Proofs.YtmpaipbpnkfmfaaDoorW.PrintLast

def tokens_Join.l0 : Nat → List S33 → Nat → List UInt8 → Option (ByteArray × Bool)
  | 0, _, _, _ => none
  | k + 1, l, i, b =>
    if i < l.length then
      (tokens_Spell.f k (rd_T33 l i).f0 (rd_T33 l i).f1 (rd_T33 l i).f2 (rd_T33 l i).f3 (rd_T33 l i).f4).bind fun r =>
        if r.2 = true then
          (if i = 0 then some false else tokens_apart.f k (rd_T33 l ((i : Int) - 1)).f0 (rd_T33 l ((i : Int) - 1)).f1 (rd_T33 l ((i : Int) - 1)).f2 (rd_T33 l ((i : Int) - 1)).f3 (rd_T33 l ((i : Int) - 1)).f4
            (rd_T33 l i).f0 (rd_T33 l i).f1 (rd_T33 l i).f2 (rd_T33 l i).f3 (rd_T33 l i).f4).bind fun a =>
            if b.length + 1 + r.1.size ≤ 140737488355328 then tokens_Join.l0 k l (i + 1) (b ++ ((if a = true then [32] else []) ++ r.1.data.toList)) else none
        else some ((⟨#[]⟩ : ByteArray), false)
    else some ((⟨b.toArray⟩ : ByteArray), true)
def tokens_Join.f (k : Nat) (l : List S33) : Option (ByteArray × Bool) := if l.length ≤ 4611686018427387904 then tokens_Join.l0 k l 0 [] else none

theorem tokens_Join.mono_l : ∀ k l i b, LeO (tokens_Join.l0 k l i b) (tokens_Join.l0 (k + 1) l i b) := by
  intro k
  induction k with
  | zero => intro l i b; simp only [tokens_Join.l0]; exact LeO.none _
  | succ k ih =>
    intro l i b
    rw [tokens_Join.l0, tokens_Join.l0]
    refine LeO.ite ?_ (LeO.refl _)
    refine LeO.bind (tokens_Spell.mono _ _ _ _ _ _) fun r => ?_
    refine LeO.ite ?_ (LeO.refl _)
    refine LeO.bind (LeO.ite (LeO.refl _) (tokens_apart.mono _ _ _ _ _ _ _ _ _ _ _)) fun a => ?_
    exact LeO.ite (ih _ _ _) (LeO.none _)
theorem tokens_Join.mono : ∀ l k, LeO (tokens_Join.f k l) (tokens_Join.f (k + 1) l) := fun l k => LeO.ite (tokens_Join.mono_l k l 0 []) (LeO.none _)

theorem isB_below {B b : Nat} {bs : List Value} {W W1 : World} (h : Lib.IsBuilder 70 5 B b bs W) (hb : Below W.heap.size W W1) : Lib.IsBuilder 70 5 B b bs W1 := by
  have key : ∀ p, Lib.BuilderAt 70 5 B b p bs W → Lib.BuilderAt 70 5 B b p bs W1 := by
    intro p h
    have hlt := h.lt
    obtain ⟨h0, v, h1, h2, h3⟩ := h
    exact ⟨h0, v, by rw [hb.block b hlt]; exact h1, pw_own_below h2 hb, h3⟩
  exact h.imp (key _) (key _)
theorem isB_lt {B b : Nat} {bs : List Value} {W : World} (h : Lib.IsBuilder 70 5 B b bs W) : b < W.heap.size := by
  rcases h with h | h
  · exact h.lt
  · exact h.lt
theorem byteCells_app (a : List UInt8) (s : ByteArray) : Lib.byteCells a ++ Lib.strCells s = Lib.byteCells (a ++ s.data.toList) := by
  simp [Lib.byteCells, Lib.strCells]
theorem byteCells_one (a : List UInt8) : Lib.byteCells a ++ [.int .u8 32] = Lib.byteCells (a ++ [32]) := by
  simp [Lib.byteCells]

theorem byteCells_len (a : List UInt8) : (Lib.byteCells a).length = a.length := by simp [Lib.byteCells]
theorem below_draws_ (B : Nat) (w : World) (n : Nat) : Below B w (w.drewN n) := ⟨rfl, rfl, rfl, Nat.le_refl _, fun _ _ => rfl⟩
theorem isB_draws {B b : Nat} {bs : List Value} {W : World} (h : Lib.IsBuilder 70 5 B b bs W) (n : Nat) : Lib.IsBuilder 70 5 B b bs (W.drewN n) := isB_below h (below_draws_ _ _ _)
theorem opt_if {α : Type} {p : Prop} [Decidable p] {x : Option α} {r : α} (h : (if p then x else none) = some r) : p ∧ x = some r := by
  by_cases c : p
  · rw [if_pos c] at h; exact ⟨c, h⟩
  · rw [if_neg c] at h; cases h

set_option maxHeartbeats 2000000 in
set_option maxRecDepth 100000 in
theorem tokens_Join.calls (k : Nat) (A0 : Option Addr) (c0 : Nat) (l0 : List (S33)) (r1 : ByteArray) (r2 : Bool) (w : World) (hr0 : Kd.C k33 w A0 l0.length l0) (hc0 : l0.length ≤ c0) (hG : Gl w) (h : tokens_Join.f k l0 = some (r1, r2)) :
    Calls Tryd.prog 20 #[.slice A0 l0.length c0] w fun e w' => e = .returned (.tuple #[.string r1, .bool r2]) ∧ Below w.heap.size w w' := by
  have HR0 := Aside0.mk hr0
  have HC0 := Aside0.mk hc0
  have HG := Aside0.mk hG
  unfold tokens_Join.f at h
  have cl : l0.length ≤ 4611686018427387904 := by
    by_cases cl : l0.length ≤ 4611686018427387904
    · exact cl
    · rw [if_neg cl] at h; exact absurd h (by simp)
  rw [if_pos cl] at h
  have HL := Aside0.mk cl
  have H' := Aside0.mk h
  clear hr0 hc0 hG h cl
  have hu33 := Tryd.underlying33
  have hu70 := Tryd.underlying70
  go_enter Tryd.func20, Tryd.ntmps20
  go_wp2
  go_loopg [11] k (fun kq v11 w' => ∃ (i : Nat) (b : List UInt8), v11 = .int .i64 (i : Int) ∧ Aside0 (i ≤ l0.length) ∧ Aside0 (tokens_Join.l0 kq l0 i b = some (r1, r2)) ∧ Aside0 (kq ≤ k) ∧ Aside0 (Lib.IsBuilder 70 5 w.heap.size w.heap.size (Lib.byteCells b) w') ∧ Aside0 (Below w.heap.size w w'))
  case atStart => exact ⟨0, [], rfl, ⟨Nat.zero_le _⟩, H', ⟨Nat.le_refl _⟩, ⟨Lib.fresh_isBuilder 70 5 w⟩, ⟨(Below.refl _ _).alloc (Nat.le_refl _) _⟩⟩
  case round =>
    clear H'
    obtain ⟨i, b, rfl, HI, HA, HK, HBu, HB⟩ := hrel
    cases gk with
    | zero => exact absurd HA.out (by simp [tokens_Join.l0])
    | succ k1 =>
      have H := HA.out
      clear HA
      simp only [tokens_Join.l0] at H
      by_cases c1 : i < l0.length
      · rw [if_pos c1] at H
        obtain ⟨⟨s, ok⟩, h1, H⟩ := Option.bind_eq_some_iff.1 H
        have A1 := Aside0.mk h1
        clear h1
        have c1b0 : decide ((i : Int) < (l0.length : Int)) = true := decide_eq_true (by omega)
        obtain ⟨ad, e1, hx0, hx1, hx2, hx3, hx4⟩ := at_T33 HR0.out (i : Int) (by omega) (by omega)
        cases e1
        simp only [Int.toNat_natCast] at hx0 hx1 hx2 hx3 hx4
        replace hx0 := (HB.out.cell (World.block_lt_of_cell? w _ hx0)).trans hx0
        replace hx1 := (HB.out.cell (World.block_lt_of_cell? w _ hx1)).trans hx1
        replace hx2 := (HB.out.cell (World.block_lt_of_cell? w _ hx2)).trans hx2
        replace hx3 := (HB.out.cell (World.block_lt_of_cell? w _ hx3)).trans hx3
        replace hx4 := (HB.out.cell (World.block_lt_of_cell? w _ hx4)).trans hx4
        go_wp2_with fail
        have HBa := Aside0.mk (HB.out.alloc HB.out.size (.cells #[.int .i64 (rd_T33 l0 (i : Int)).f0, .string (rd_T33 l0 (i : Int)).f1, .int .i64 (rd_T33 l0 (i : Int)).f2, .int .i64 (rd_T33 l0 (i : Int)).f3, .int .i64 (rd_T33 l0 (i : Int)).f4] 33))
        refine (tokens_Spell.calls k1 _ _ _ _ _ s ok _ (HG.out.below HBa.out) A1.out).mono ?_
        rintro e w1 ⟨rfl, hb1⟩
        have HB1 := Aside0.mk (HBa.out.trans (hb1.mono HBa.out.size))
        have HBu1 := Aside0.mk (isB_below (isB_below HBu.out ((Below.refl wr.heap.size wr).alloc (Nat.le_refl _) _)) hb1)
        have BT := Aside0.mk ((hb1.block wr.heap.size (by simp)).trans (heap_alloc_new wr _))
        have GT := Aside0.mk HB.out.size
        obtain ⟨g6, hg6⟩ : ∃ g : Nat, wr.heap.size = g := ⟨_, rfl⟩
        rw [hg6] at BT GT ⊢
        clear hx0 hx1 hx2 hx3 hx4 hb1 HBa HBu HB hg6 A1
        have d0 := (blk_cell BT.out 0).trans rfl
        have d1 := (blk_cell BT.out 1).trans rfl
        have d2 := (blk_cell BT.out 2).trans rfl
        have d3 := (blk_cell BT.out 3).trans rfl
        have d4 := (blk_cell BT.out 4).trans rfl
        cases ok with
        | false =>
          simp only [Bool.false_eq_true, if_false, Option.some.injEq, Prod.mk.injEq] at H
          obtain ⟨rfl, rfl⟩ := H
          go_wp2
          go_ret2
          exact ⟨rfl, HB1.out⟩
        | true =>
          simp only [if_true] at H
          obtain ⟨a, h2, H⟩ := Option.bind_eq_some_iff.1 H
          by_cases c2 : i = 0
          · rw [if_pos c2] at h2
            obtain rfl := Option.some.inj h2
            subst c2
            replace H : (if b.length + 1 + s.size ≤ 140737488355328 then tokens_Join.l0 k1 l0 1 (b ++ s.data.toList) else none) = some (r1, r2) := H
            obtain ⟨cs, H9⟩ := opt_if H
            have H' := Aside0.mk H9
            clear H H9
            have z0 : decide ((0 : Int) < ((0 : Nat) : Int)) = false := rfl
            have z1 : decide ((0 : Nat) < (0 : Nat)) = false := rfl
            go_wp2_with fail
            go_quiet (fail)
            go_wp2_with (go_at_call 46; refine (Bu.writeString w.heap.size w.heap.size (Lib.byteCells b) s _ (isB_draws HBu1.out _) (by simp only [byteCells_len]; omega) ?hsz).mono ?_; (case hsz => have := HB1.out.size; exact this); rintro e w3 ⟨rfl, hbu3, hb3⟩)
            rw [byteCells_app] at hbu3
            go_roundg k1
            case measure => have := HK.out; omega
            case rel => exact ⟨1, b ++ s.data.toList, rfl, ⟨by omega⟩, H', ⟨by have := HK.out; omega⟩, ⟨Or.inr hbu3⟩, ⟨HB1.out.trans ((below_draws_ _ _ _).trans hb3)⟩⟩
          · rw [if_neg c2] at h2
            have A2 := Aside0.mk h2
            clear h2
            obtain ⟨ad', e1, hx0, hx1, hx2, hx3, hx4⟩ := at_T33 HR0.out ((i : Int) - 1) (by omega) (by omega)
            cases e1
            rw [show ((i : Int) - 1).toNat = i - 1 by omega] at hx0 hx1 hx2 hx3 hx4
            replace hx0 := (HB1.out.cell (World.block_lt_of_cell? w _ hx0)).trans hx0
            replace hx1 := (HB1.out.cell (World.block_lt_of_cell? w _ hx1)).trans hx1
            replace hx2 := (HB1.out.cell (World.block_lt_of_cell? w _ hx2)).trans hx2
            replace hx3 := (HB1.out.cell (World.block_lt_of_cell? w _ hx3)).trans hx3
            replace hx4 := (HB1.out.cell (World.block_lt_of_cell? w _ hx4)).trans hx4
            have c2b : decide ((0 : Int) < (i : Int)) = true := decide_eq_true (by omega)
            have c2c : decide (0 < i) = true := decide_eq_true (by omega)
            have c2n : 0 < i := by omega
            have cw : IntKind.i64.wrap ((i : Int) - 1) = (i : Int) - 1 := (i64_w _).trans (by have := HL.out; unfold wrap64; omega)
            have ca : 0 ≤ (i : Int) - 1 := by omega
            have cb : (i : Int) - 1 < (l0.length : Int) := by omega
            have cc : ((i : Int) - 1).toNat = i - 1 := by omega
            clear c2
            go_wp2_with fail
            go_region_with (go_at_call 44; refine (tokens_apart.calls k1 _ _ _ _ _ _ _ _ _ _ a _ A2.out).mono ?_; rintro e w2 ⟨rfl, hb2⟩)
            all_goals (
              have HB2 := Aside0.mk (HB1.out.trans (((Below.refl _ _).drew).trans (hb2.mono HB1.out.size)))
              have HBu2 := Aside0.mk (isB_below (isB_draws HBu1.out 1) hb2)
              clear hb2 HB1 HBu1 hx0 hx1 hx2 hx3 hx4 A2
              have cw1 : IntKind.i64.wrap ((i : Int) + 1) = ((i + 1 : Nat) : Int) := (i64_w _).trans (by have := HL.out; unfold wrap64; omega)
              go_step
              go_step
              cases a with
              | false =>
                simp only [Bool.false_eq_true, if_false, List.nil_append] at H
                obtain ⟨cs, H9⟩ := opt_if H
                have H' := Aside0.mk H9
                clear H H9
                go_wp2_with (go_at_call 46; refine (Bu.writeString w.heap.size w.heap.size (Lib.byteCells b) s _ (HBu2.out) (by simp only [byteCells_len]; omega) ?hsz).mono ?_; (case hsz => have := HB2.out.size; exact this); rintro e w3 ⟨rfl, hbu3, hb3⟩)
                rw [byteCells_app] at hbu3
                go_roundg k1
                case measure => have := HK.out; omega
                case rel => exact ⟨i + 1, b ++ s.data.toList, by first | rfl | (simp only [cw1]; done) | (rw [cw1]; done) | (simp; done), ⟨by omega⟩, H', ⟨by have := HK.out; omega⟩, ⟨Or.inr hbu3⟩, ⟨HB2.out.trans hb3⟩⟩
              | true =>
                simp only [if_true, List.singleton_append] at H
                obtain ⟨cs, H9⟩ := opt_if H
                have H' := Aside0.mk H9
                clear H H9
                go_wp2_with (go_at_call 45; refine (Bu.writeByte w.heap.size w.heap.size (Lib.byteCells b) 32 _ (HBu2.out) (by simp only [byteCells_len]; omega) ?hsz).mono ?_; (case hsz => have := HB2.out.size; exact this); rintro e w3 ⟨rfl, hbu3, hb3⟩)
                rw [byteCells_one] at hbu3
                have HB3 := Aside0.mk (HB2.out.trans hb3)
                have HBu3 := Aside0.mk (Or.inr hbu3 : Lib.IsBuilder 70 5 w.heap.size w.heap.size _ w3)
                clear hbu3 hb3
                go_wp2_with (go_at_call 46; refine (Bu.writeString w.heap.size w.heap.size (Lib.byteCells (b ++ [32])) s _ (HBu3.out) (by simp only [byteCells_len, List.length_append, List.length_singleton]; omega) ?hsz).mono ?_; (case hsz => have := HB3.out.size; exact this); rintro e w4 ⟨rfl, hbu4, hb4⟩)
                rw [byteCells_app, List.append_assoc] at hbu4
                go_roundg k1
                case measure => have := HK.out; omega
                case rel => exact ⟨i + 1, b ++ ([32] ++ s.data.toList), by first | rfl | (simp only [cw1]; done) | (rw [cw1]; done) | (simp; done), ⟨by omega⟩, H', ⟨by have := HK.out; omega⟩, ⟨Or.inr hbu4⟩, ⟨HB3.out.trans hb4⟩⟩)
      · rw [if_neg c1] at H
        simp only [Option.some.injEq, Prod.mk.injEq] at H
        obtain ⟨rfl, rfl⟩ := H
        have c1b0 : decide ((i : Int) < (l0.length : Int)) = false := decide_eq_false (by omega)
        have c1b1 : decide (i < l0.length) = false := decide_eq_false c1
        have c1n : l0.length ≤ i := by omega
        clear c1
        go_wp2_with (go_at_call 47; refine (Tryd.Builder_String_any w.heap.size w.heap.size b _ HBu.out HB.out.size).mono ?_; rintro e w2 ⟨rfl, hb2⟩)
        go_ret2
        exact ⟨rfl, HB.out.trans hb2⟩

end Go.Proofs.YtmpaipbpnkfmfaaDoor.P
