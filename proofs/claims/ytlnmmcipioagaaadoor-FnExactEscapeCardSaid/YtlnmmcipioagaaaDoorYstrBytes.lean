/- Plain lemmas over numbers and lists (strBytes). Conditions: as each states. -/
import Derived.Test.YtlnmmcipioagaaaDoorXx0
import Derived.Test.YtlnmmcipioagaaaDoorYbase
import Derived.Lib.Bytes
import Derived.Lib.LazyBuf
namespace Go.Proofs.YtlnmmcipioagaaaDoor.Y
open Go.RowKit Go.Proofs.YtlnmmcipioagaaaDoor.X Go.Proofs.YtlnmmcipioagaaaDoorW.PrintWords Go.Proofs.YtlnmmcipioagaaaDoorW.PrintLast Go.Proofs.YtlnmmcipioagaaaDoorW.PrintMore Go.Proofs.YtlnmmcipioagaaaDoor.Y
set_option linter.unusedVariables false
set_option linter.unusedSimpArgs false
theorem data_eta (s : ByteArray) : (⟨s.data.toList.toArray⟩ : ByteArray) = s := by cases s; simp
theorem str_bytes (s : ByteArray) : strOfNums (bytesOf s) = s := by
  unfold bytesOf
  rw [Lib.Lz.strOfNums_map]
theorem bytes_str {b : List Int} (h : ∀ x ∈ b, 0 ≤ x ∧ x ≤ 255) : bytesOf (strOfNums b) = b := by
  have e : (strOfNums b).data.toList = Lib.bytesOf b := by rw [← Lib.toList_data, Lib.strOfNums_toList]
  unfold bytesOf
  rw [e]
  unfold Lib.bytesOf
  rw [List.map_map]
  conv => rhs; rw [← List.map_id b]
  refine List.map_congr_left (fun x hx => ?_)
  have := h x hx
  simp only [Function.comp, id]
  have : (UInt8.ofNat x.toNat).toNat = x.toNat := by simp; omega
  omega
theorem bytesOf_range (s : ByteArray) : ∀ x ∈ bytesOf s, 0 ≤ x ∧ x ≤ 255 := by
  intro x hx
  unfold bytesOf at hx
  obtain ⟨b, _, rfl⟩ := List.mem_map.1 hx
  have := b.toNat_lt
  omega
theorem bytesOf_wf (s : ByteArray) : ∀ x ∈ bytesOf s, (Lit.int .u8 x).wf = true := fun x hx => by
  simp only [Lit.wf, Bool.and_eq_true, decide_eq_true_eq]; exact bytesOf_range s x hx
theorem bytes_ext {s t : ByteArray} (h : bytesOf s = bytesOf t) : s = t := by rw [← str_bytes s, h, str_bytes]
theorem toList_ext {s t : ByteArray} (h : s.toList = t.toList) : s = t := by
  rw [Lib.toList_data, Lib.toList_data] at h
  rw [← data_eta s, h, data_eta]
theorem str_size (b : List Int) : (strOfNums b).size = b.length := by
  have e : (strOfNums b).data.toList = Lib.bytesOf b := by rw [← Lib.toList_data, Lib.strOfNums_toList]
  have := congrArg List.length e
  simpa [Lib.bytesOf] using this

end Go.Proofs.YtlnmmcipioagaaaDoor.Y
