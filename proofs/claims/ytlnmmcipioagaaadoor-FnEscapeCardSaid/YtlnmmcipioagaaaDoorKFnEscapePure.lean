/- A drawn text that is escaped has no sign that begins a tag or ends a value, and is read by references as it was, if it is right. (A plain statement over numbers and lists; the row behind it carries it to the program.) Conditions: none beyond the row's own. -/
import Derived.Test.YtlnmmcipioagaaaDoorKFnEscapey1
namespace Go.Proofs.YtlnmmcipioagaaaDoor.Pure
open Go.RowKit Go.Proofs.YtlnmmcipioagaaaDoor.X Go.Proofs.YtlnmmcipioagaaaDoorW.PrintWords Go.Proofs.YtlnmmcipioagaaaDoorW.PrintLast Go.Proofs.YtlnmmcipioagaaaDoorW.PrintMore Go.Proofs.YtlnmmcipioagaaaDoor.Y
set_option linter.unusedVariables false
set_option linter.unusedSimpArgs false
theorem FnEscape : laws_FnEscape.Pure := by
  intro l _ hl hw
  by_cases hb : l.length ≤ 1048576
  · obtain ⟨⟨s, v⟩, ⟨k1, h1⟩, hs⟩ := DrawEscape_p l hb
    simp only at hs
    obtain ⟨hsz, hby⟩ := hs
    obtain ⟨k2, h2⟩ := spec_Escape_ev s v (by omega)
    obtain ⟨hcl, hge, hle⟩ := esc_clean s v
    obtain ⟨k3, h3⟩ := spec_UtfOk_ev (bytesOf s) (bytesOf_wf s)
    by_cases hu : utfOk (bytesOf s) = true ∧ (impl_Escape.f s v).size ≤ 3000
    · have hr := utfOk_noBom (fun x hx => (bytesOf_range s x hx).1) hu.1
      have hok : ∀ x ∈ utfRead (bytesOf s), pointOk x = true := by
        rw [hr]; exact urAll_ok _ (fun x hx => (bytesOf_range s x hx).1)
      have hlen := utfRead_len (bytesOf s)
      have hput : putAll (utfRead (bytesOf s)) = bytesOf s := by
        have h := hu.1
        unfold utfOk at h
        simp only [Bool.and_eq_true, decide_eq_true_eq] at h
        have h2 := h.2
        unfold pointsPut at h2
        rw [if_neg (by omega)] at h2
        exact h2
      generalize hpts : utfRead (bytesOf s) = pts at *
      have hdr : ∀ p ∈ pts, drawnP p := fun p hp => pt_of_bytes (hok p hp) (fun b hb => hby b (by rw [← hput]; exact mem_putAll hp (hok p hp) hb))
      have he : bytesOf (impl_Escape.f s v) = putAll (pts.flatMap (escP v)) := by
        show toI (impl_Escape.f s v).data.toList = _
        rw [esc_data]
        exact esc_put v pts s.data.toList hdr (show bytesOf s = putAll pts from hput.symm)
      have hel : (putAll (pts.flatMap (escP v))).length ≤ 3000 := by rw [← he, bytesOf_length]; exact hu.2
      have hm : utfRead (bytesOf (impl_Escape.f s v)) = pts.flatMap (escP v) := by
        rw [he, noBom_drawn v pts hdr, if_neg (by omega)]
      obtain ⟨k4, h4⟩ := spec_UtfRead_ev (bytesOf (impl_Escape.f s v)) (bytesOf_wf _)
      rw [hm] at h4
      have hml : (pts.flatMap (escP v)).length ≤ 3000 := by have := (putAll_len (pts.flatMap (escP v))).1; omega
      obtain ⟨k5, h5⟩ := esc_l1 v (pts.flatMap (escP v)) hml pts [] 0 hdr (by simp) (by omega) (by have := hlen.1; simp; omega)
      obtain ⟨k6, h6⟩ := impl_PointsPut_ev pts
      have hpp : pointsPut pts = bytesOf s := by unfold pointsPut; rw [if_neg (by have := hlen.1; omega)]; exact hput
      rw [hpp] at h6
      refine ⟨k1 + k2 + k3 + k4 + k5 + k6, fun _ => ⟨s, v, _, h1 _ (by omega), by omega, rfl, by omega, h2 _ (by omega), hcl, hge, _, h3 _ (by omega), fun _ _ => ⟨_, _, _, h4 _ (by omega), h5 _ (by omega), h6 _ (by omega), str_bytes s⟩⟩⟩
    · exact ⟨k1 + k2 + k3, fun _ => ⟨s, v, _, h1 _ (by omega), by omega, rfl, by omega, h2 _ (by omega), hcl, hge, _, h3 _ (by omega), fun e1 e2 => absurd ⟨e1, e2⟩ hu⟩⟩
  · exact ⟨0, fun h => absurd h hb⟩

end Go.Proofs.YtlnmmcipioagaaaDoor.Pure
