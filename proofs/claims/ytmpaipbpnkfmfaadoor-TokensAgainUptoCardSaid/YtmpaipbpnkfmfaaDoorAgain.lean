/-
  PLAIN: TokensAgain comes to true. Conditions: texts of at most 2^20 bytes.
-/
import Derived.Test.YtmpaipbpnkfmfaaDoorPx21
import Derived.Test.YtmpaipbpnkfmfaaDoorPure
namespace Go.Proofs.YtmpaipbpnkfmfaaDoor.CutPure
open Go.RowKit Go.Proofs.YtmpaipbpnkfmfaaDoor.P Go.Proofs.YtmpaipbpnkfmfaaDoorW.PrintWords Go.Proofs.YtmpaipbpnkfmfaaDoorW.PrintLast Go.Proofs.YtmpaipbpnkfmfaaDoor.Br
open Go.Proofs.YtmpaipbpnkfmfaaDoor

theorem again_f (s : ByteArray) (hs : s.size ≤ 1048576) : Ev (fun k => hearsaylaw04_TokensAgain.f k s) true := by
  obtain ⟨K1, h1⟩ := cutall s (by omega)
  obtain ⟨K2, h2⟩ := head_f
  have g := good s
  by_cases he : (Tk.cut 0 0 (bs s)).e = 0
  · obtain ⟨L, hL⟩ := res_of s he
    rw [hL] at h1 g
    have gw := g.ws
    simp only at gw
    have hlw := len_wsum L
    obtain ⟨K3, h3⟩ := joinall L g.fin (by omega)
    obtain ⟨w, hw⟩ : ∃ w, Tk.join L = some w := by
      have := Tk.join_some L 0
      have gs := g.sp
      simp only at gs
      rw [gs] at this
      exact Option.isSome_iff_exists.1 this
    rw [hw, encJ_some] at h3
    have hb := join_bytes L 0 w g.fin hw
    have hbs : bs (strOfNums w) = w := bs_str w hb
    have hsum := Tk.join_sum L 0 w hw
    have hsw := sumsp_wsum L g.fin
    obtain ⟨L', hL', hk⟩ := Tk.cut_join Tk.stop_join L 0 w 0 g.fin hw
    obtain ⟨K4, h4⟩ := cutall (strOfNums w) (by rw [son_len]; omega)
    rw [hbs, hL'] at h4
    have f' := Tk.fine_key L L' hk.symm g.fin
    have w' := Tk.wsum_key L L' hk.symm
    obtain ⟨K5, h5⟩ := joinall L' f' (by omega)
    rw [show Tk.join L' = some w from (Tk.join_key L' L 0 hk).trans hw, encJ_some] at h5
    have hlw' := len_wsum L'
    obtain ⟨K6, h6⟩ := alike_f (L'.map toS) (L.map toS) (by rw [List.length_map]; omega) (key_lk L' L hk)
    refine ⟨K1 + K2 + K3 + K4 + K5 + K6, fun k hk => ?_⟩
    have h1k : tokens_Cut.f k s (s.size : Int) = _ := h1 k (by omega)
    have h2k : hearsaylaw04_head.f k = _ := h2 k (by omega)
    have h3k : tokens_Join.f k (L.map toS) = _ := h3 k (by omega)
    have h4k : tokens_Cut.f k (strOfNums w) ((strOfNums w).size : Int) = _ := h4 k (by omega)
    have h5k : tokens_Join.f k (L'.map toS) = _ := h5 k (by omega)
    have h6k : hearsaylaw04_alike.f k (L'.map toS) (L.map toS) = _ := h6 k (by omega)
    show hearsaylaw04_TokensAgain.f k s = _
    unfold hearsaylaw04_TokensAgain.f
    rw [h1k, Option.bind_some, h2k, Option.bind_some, if_pos rfl, encC_ok, if_pos rfl, copied_eq _ (by rw [List.length_map]; omega), Option.bind_some, h3k, Option.bind_some, if_pos rfl, h4k, Option.bind_some, encC_ok,
      copied_eq _ (by rw [List.length_map]; omega), Option.bind_some, h5k, Option.bind_some, if_pos rfl, h6k, Option.bind_some, if_pos rfl, if_pos rfl]
    simp
  · refine ⟨K1 + K2, fun k hk => ?_⟩
    have h1k : tokens_Cut.f k s (s.size : Int) = _ := h1 k (by omega)
    have h2k : hearsaylaw04_head.f k = _ := h2 k (by omega)
    show hearsaylaw04_TokensAgain.f k s = _
    unfold hearsaylaw04_TokensAgain.f
    rw [h1k, Option.bind_some, h2k, Option.bind_some, if_pos rfl]
    simp only [encC, if_neg he]
    rfl

end Go.Proofs.YtmpaipbpnkfmfaaDoor.CutPure
