/-
  PLAIN: TokensFront comes to true. Conditions: texts of at most 2^20 bytes.
-/
import Derived.Test.YtmpaipbpnkfmfaaDoorPx22
import Derived.Test.YtmpaipbpnkfmfaaDoorPure
import Derived.Test.YtmpaipbpnkfmfaaDoorTokA
namespace Go.Proofs.YtmpaipbpnkfmfaaDoor.CutPure
open Go.RowKit Go.Proofs.YtmpaipbpnkfmfaaDoor.P Go.Proofs.YtmpaipbpnkfmfaaDoorW.PrintWords Go.Proofs.YtmpaipbpnkfmfaaDoorW.PrintLast Go.Proofs.YtmpaipbpnkfmfaaDoor.Br
open Go.Proofs.YtmpaipbpnkfmfaaDoor

theorem front_f (s m : ByteArray) (hs : s.size ≤ 1048576) (hm : m.size ≤ 1048576) : Ev (fun k => hearsaylaw04_TokensFront.f k s m) true := by
  obtain ⟨K1, h1⟩ := cutall s (by omega)
  obtain ⟨K2, h2⟩ := head_f
  have g := good s
  by_cases he : (Tk.cut 0 0 (bs s)).e = 0
  · obtain ⟨L, hL⟩ := res_of s he
    rw [hL] at h1
    refine ⟨K1 + K2, fun k hk => ?_⟩
    have h1k : tokens_Cut.f k s (s.size : Int) = _ := h1 k (by omega)
    have h2k : hearsaylaw04_head.f k = _ := h2 k (by omega)
    show hearsaylaw04_TokensFront.f k s m = _
    unfold hearsaylaw04_TokensFront.f
    rw [h1k, Option.bind_some, h2k, Option.bind_some, if_pos rfl, encC_ok, if_pos rfl]
    rfl
  · have herr := Tk.cut_err _ (bs s) 0 (Nat.le_refl _)
    obtain ⟨q, e1, e2, e3, e4⟩ := Tk.cut_front _ (bs s) 0 (Nat.le_refl _) he
    rw [bs_length] at e2
    have hf : bs (s.extract 0 q) = (bs s).take q := by rw [bs_extract, List.drop_zero, Nat.sub_zero]
    have hfs : (s.extract 0 q).size ≤ 1048576 := by rw [ByteArray.size_extract]; omega
    obtain ⟨K3, h3⟩ := cutall (s.extract 0 q) (by omega)
    rw [hf] at h3
    have hsz1 : (s ++ (⟨#[32]⟩ : ByteArray)).size = s.size + 1 := by rw [← bs_length, bs_append, List.length_append, bs_length]; rfl
    have hsz2 : ((s ++ (⟨#[32]⟩ : ByteArray)) ++ m).size = s.size + 1 + m.size := by rw [← bs_length, bs_append, List.length_append, bs_length, bs_length, hsz1]
    obtain ⟨K4, h4⟩ := cutall ((s ++ (⟨#[32]⟩ : ByteArray)) ++ m) (by omega)
    have hlong : bs ((s ++ (⟨#[32]⟩ : ByteArray)) ++ m) = bs s ++ 32 :: bs m := by
      rw [bs_append, bs_append, List.append_assoc]; rfl
    rw [hlong] at h4
    simp only [encC] at h1 h3 h4
    rw [if_neg he] at h1
    have e4m := fun h43 h44 => (e4.resolve_left h43).resolve_left h44 (bs m)
    generalize hE : (Tk.cut 0 0 (bs s)).e = E at *
    generalize hP : (Tk.cut 0 0 (bs s)).p = p at *
    generalize hE3 : (Tk.cut 0 0 ((bs s).take q)).e = E3 at *
    generalize hE4 : (Tk.cut 0 0 (bs s ++ 32 :: bs m)).e = E4 at *
    generalize hP4 : (Tk.cut 0 0 (bs s ++ 32 :: bs m)).p = p4 at *
    refine ⟨K1 + K2 + K3 + K4 + 2, fun k hk => ?_⟩
    obtain ⟨k, rfl⟩ : ∃ j, k = j + 1 := ⟨k - 1, by omega⟩
    have h1k : tokens_Cut.f (k + 1) s (s.size : Int) = _ := h1 (k + 1) (by omega)
    have h2k : hearsaylaw04_head.f (k + 1) = _ := h2 (k + 1) (by omega)
    have h3k : tokens_Cut.f k (s.extract 0 q) ((s.extract 0 q).size : Int) = _ := h3 k (by omega)
    have h4k : tokens_Cut.f k ((s ++ (⟨#[32]⟩ : ByteArray)) ++ m) (((s ++ (⟨#[32]⟩ : ByteArray)) ++ m).size : Int) = _ := h4 k (by omega)
    have hpq : p = ((q : Nat) : Int) := by omega
    show hearsaylaw04_TokensFront.f (k + 1) s m = _
    unfold hearsaylaw04_TokensFront.f
    rw [h1k, Option.bind_some, h2k, Option.bind_some, if_pos rfl, if_neg he, if_neg (show ¬ p < 0 by omega), if_neg (show ¬ p ≥ (s.size : Int) by omega)]
    have hfin : (if (E4 == E && (p4 == p)) = true then (some true) else (if E = 43 then (some true) else (some (E == 44)))) = some true := by
      by_cases h43 : E = 43
      · rw [if_pos h43]; split <;> rfl
      · by_cases h44 : E = 44
        · rw [if_neg h43, h44]; split <;> rfl
        · obtain ⟨a1, a2⟩ := e4m h43 h44
          rw [a1, a2, if_pos (by simp)]
    show hearsaylaw04_TokensFront.j0 (k + 1) s m (E == 41) E p = _
    rw [hearsaylaw04_TokensFront.j0, if_neg (by simp; omega), if_pos (by omega), if_pos (by omega), hpq, Int.toNat_natCast, h3k, Option.bind_some, ← hpq]
    by_cases h44 : E = 44
    · rw [if_pos h44] at e3
      rw [if_pos h44, if_pos e3, if_pos (by omega), if_pos (by omega), h4k, Option.bind_some]
      exact hfin
    · rw [if_neg h44] at e3
      rw [if_neg h44, if_pos e3, if_pos (by omega), if_pos (by omega), h4k, Option.bind_some]
      exact hfin

end Go.Proofs.YtmpaipbpnkfmfaaDoor.CutPure
