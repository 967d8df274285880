/- Plain lemmas over numbers and lists for FnLower. Conditions: as each states. -/
import Derived.Lib.Bytes
import Derived.Lib.LazyBuf
import Derived.Test.YtplgbnalflpdhaaKFnLowerx3
/- Plain lemmas over numbers and lists (base). Conditions: as each states. -/
namespace Go.Proofs.Ytplgbnalflpdhaa.Y
open Go.RowKit Go.Proofs.Ytplgbnalflpdhaa.X Go.Proofs.YtplgbnalflpdhaaW.PrintWords Go.Proofs.YtplgbnalflpdhaaW.PrintLast Go.Proofs.YtplgbnalflpdhaaW.PrintMore Go.Proofs.Ytplgbnalflpdhaa.Y
set_option linter.unusedVariables false
set_option linter.unusedSimpArgs false
theorem wf64 {x : Int} (h : (Lit.int .i64 x).wf = true) : -9223372036854775808 ≤ x ∧ x ≤ 9223372036854775807 := by
  simp only [Lit.wf, Bool.and_eq_true, decide_eq_true_eq] at h
  exact h
theorem wf8 {x : Int} (h : (Lit.int .u8 x).wf = true) : 0 ≤ x ∧ x ≤ 255 := by
  simp only [Lit.wf, Bool.and_eq_true, decide_eq_true_eq] at h
  exact h
theorem w64 {x : Int} (h : -9223372036854775808 ≤ x) (h' : x ≤ 9223372036854775807) : wrap64 x = x := by unfold wrap64; omega
theorem w64_range (x : Int) : -9223372036854775808 ≤ wrap64 x ∧ wrap64 x ≤ 9223372036854775807 := by unfold wrap64; omega
theorem ev_pos {α : Type} {c : Prop} [Decidable c] {g f : Nat → Option α} {r : α} (hc : c) (h : Ev g r) : Ev (fun k => if c then g k else f k) r := by
  simpa only [if_pos hc] using h
theorem ev_neg {α : Type} {c : Prop} [Decidable c] {g f : Nat → Option α} {r : α} (hc : ¬ c) (h : Ev f r) : Ev (fun k => if c then g k else f k) r := by
  simpa only [if_neg hc] using h
theorem ev_const {α : Type} {g : Option α} {r : α} (h : g = some r) : Ev (fun _ => g) r := ⟨0, fun _ _ => h⟩
theorem ev_some {α : Type} {r r' : α} (h : r = r') : Ev (fun _ => some r) r' := ⟨0, fun _ _ => by rw [h]⟩
theorem ev_bindS {α β : Type} {g : Option α} {f : Nat → α → Option β} {a : α} {r : β} (h : g = some a) (k : Ev (fun n => f n a) r) : Ev (fun n => g.bind (f n)) r := by
  subst h; exact k
theorem rd_app_left {xs ys : List Int} {i : Int} (h0 : 0 ≤ i) (h : i < xs.length) : rd (xs ++ ys) i = rd xs i := by
  unfold rd; rw [List.getD_eq_getElem?_getD, List.getD_eq_getElem?_getD, List.getElem?_append_left (by omega)]
theorem rd_drop {xs : List Int} {i : Int} {v : Int} {ys : List Int} (h : xs.drop i.toNat = v :: ys) : rd xs i = v := by
  unfold rd
  have : xs[i.toNat]? = some v := by
    have := congrArg (fun l => l[0]?) h
    simpa using this
  rw [List.getD_eq_getElem?_getD, this]; rfl
/-- One round: what follows is read off by 'simp only [F.j0]'. -/
theorem ev_succ {α : Type} {g : Nat → Option α} {r : α} (h : Ev (fun k => g (k + 1)) r) : Ev g r := Ev.step (fun _ => rfl) h
theorem ev_cast {α : Type} {g : Nat → Option α} {r r' : α} (h : Ev g r) (e : r = r') : Ev g r' := by subst e; exact h

end Go.Proofs.Ytplgbnalflpdhaa.Y

/- Plain lemmas over numbers and lists (inrS). Conditions: as each states. -/
namespace Go.Proofs.Ytplgbnalflpdhaa.Y
open Go.RowKit Go.Proofs.Ytplgbnalflpdhaa.X Go.Proofs.YtplgbnalflpdhaaW.PrintWords Go.Proofs.YtplgbnalflpdhaaW.PrintLast Go.Proofs.YtplgbnalflpdhaaW.PrintMore Go.Proofs.Ytplgbnalflpdhaa.Y
set_option linter.unusedVariables false
set_option linter.unusedSimpArgs false
theorem spec_l1In_eq (x a b : Int) : spec_l1In.f x a b = some (decide (a ≤ x ∧ x ≤ b)) := by
  unfold spec_l1In.f
  by_cases h : x ≥ a
  · rw [if_pos h]; congr 1; simp; omega
  · rw [if_neg h]; congr 1; simp; omega

end Go.Proofs.Ytplgbnalflpdhaa.Y

/- Plain lemmas over numbers and lists (lowerD). Conditions: as each states. -/
namespace Go.Proofs.Ytplgbnalflpdhaa.Y
open Go.RowKit Go.Proofs.Ytplgbnalflpdhaa.X Go.Proofs.YtplgbnalflpdhaaW.PrintWords Go.Proofs.YtplgbnalflpdhaaW.PrintLast Go.Proofs.YtplgbnalflpdhaaW.PrintMore Go.Proofs.Ytplgbnalflpdhaa.Y
set_option linter.unusedVariables false
set_option linter.unusedSimpArgs false
def lowerOf (x : Int) : Int := if 65 ≤ x ∧ x ≤ 90 then x + 32 else x

end Go.Proofs.Ytplgbnalflpdhaa.Y

/- Plain lemmas over numbers and lists (lowerS). Conditions: as each states. -/
namespace Go.Proofs.Ytplgbnalflpdhaa.Y
open Go.RowKit Go.Proofs.Ytplgbnalflpdhaa.X Go.Proofs.YtplgbnalflpdhaaW.PrintWords Go.Proofs.YtplgbnalflpdhaaW.PrintLast Go.Proofs.YtplgbnalflpdhaaW.PrintMore Go.Proofs.Ytplgbnalflpdhaa.Y
set_option linter.unusedVariables false
set_option linter.unusedSimpArgs false
theorem spec_LowerOf_eq (x : Int) : spec_LowerOf.f x = some (lowerOf x) := by
  unfold spec_LowerOf.f lowerOf
  simp only [spec_l1In_eq, Option.bind_some]
  by_cases h : 65 ≤ x ∧ x ≤ 90
  · simp only [h, and_self, decide_true, if_true]; rw [w64 (by omega) (by omega)]
  · simp [h]

end Go.Proofs.Ytplgbnalflpdhaa.Y

/- Plain lemmas over numbers and lists (pokD). Conditions: as each states. -/
namespace Go.Proofs.Ytplgbnalflpdhaa.Y
open Go.RowKit Go.Proofs.Ytplgbnalflpdhaa.X Go.Proofs.YtplgbnalflpdhaaW.PrintWords Go.Proofs.YtplgbnalflpdhaaW.PrintLast Go.Proofs.YtplgbnalflpdhaaW.PrintMore Go.Proofs.Ytplgbnalflpdhaa.Y
set_option linter.unusedVariables false
set_option linter.unusedSimpArgs false
def pointOk (x : Int) : Bool := decide (0 ≤ x ∧ x ≤ 1114111) && !decide (55296 ≤ x ∧ x ≤ 57343)

end Go.Proofs.Ytplgbnalflpdhaa.Y

/- Plain lemmas over numbers and lists (num). Conditions: as each states. -/
namespace Go.Proofs.Ytplgbnalflpdhaa.Y
open Go.RowKit Go.Proofs.Ytplgbnalflpdhaa.X Go.Proofs.YtplgbnalflpdhaaW.PrintWords Go.Proofs.YtplgbnalflpdhaaW.PrintLast Go.Proofs.YtplgbnalflpdhaaW.PrintMore Go.Proofs.Ytplgbnalflpdhaa.Y
set_option linter.unusedVariables false
set_option linter.unusedSimpArgs false
def numForm : Nat → Int → List Int
  | 0, x => [x]
  | n + 1, x => if x > 127 then (x % 128 + 128) :: numForm n (x / 128) else [x]
theorem numForm_len (n : Nat) : ∀ x, (numForm n x).length ≤ n + 1 := by
  induction n with
  | zero => intro x; simp [numForm]
  | succ n ih => intro x; unfold numForm; split <;> simp [ih]
theorem wraps_i64 (n : Int) (h₀ : 0 ≤ n) (h₁ : n < 2 ^ 63) : IntKind.i64.wrap n = n := by rw [IntKind.wrap_i64]; omega
theorem and127 {x : Int} (h0 : 0 ≤ x) (h1 : x ≤ 9223372036854775807) : Go.bits .and .i64 x 127 = x % 128 := bits_mask .i64 63 (by decide) wraps_i64 7 (by decide) x h0 (by omega)
theorem or128 {y : Int} (h0 : 0 ≤ y) (h1 : y < 128) : Go.bits .or .i64 128 y = 128 + y := bits_join .i64 63 (by decide) wraps_i64 7 128 y (by decide) (by decide) (by decide) h0 h1 (by omega)
theorem pow128 (x : Int) (n : Nat) (h : x < 128 ^ (n + 1 + 1)) : x / 128 < 128 ^ (n + 1) := by
  rw [Int.pow_succ] at h
  generalize (128 : Int) ^ (n + 1) = p at *
  omega

end Go.Proofs.Ytplgbnalflpdhaa.Y

/- Plain lemmas over numbers and lists (utf8D). Conditions: as each states. -/
namespace Go.Proofs.Ytplgbnalflpdhaa.Y
open Go.RowKit Go.Proofs.Ytplgbnalflpdhaa.X Go.Proofs.YtplgbnalflpdhaaW.PrintWords Go.Proofs.YtplgbnalflpdhaaW.PrintLast Go.Proofs.YtplgbnalflpdhaaW.PrintMore Go.Proofs.Ytplgbnalflpdhaa.Y
set_option linter.unusedVariables false
set_option linter.unusedSimpArgs false
def utf8 (x : Int) : List Int :=
  if x < 128 then [x] else if x < 2048 then [192 + x / 64, 128 + x % 64] else if x < 65536 then [224 + x / 4096, 128 + x / 64 % 64, 128 + x % 64] else [240 + x / 262144, 128 + x / 4096 % 64, 128 + x / 64 % 64, 128 + x % 64]
def point (x : Int) : Int := if pointOk x = true then x else 65533
def pointPut (x : Int) : List Int := utf8 (point x)
theorem pointOk_iff (x : Int) : pointOk x = true ↔ (0 ≤ x ∧ x ≤ 1114111) ∧ ¬ (55296 ≤ x ∧ x ≤ 57343) := by unfold pointOk; simp; omega
theorem pointOk_point (x : Int) : pointOk (point x) = true := by
  unfold point; split
  · assumption
  · decide
theorem point_of {x : Int} (h : pointOk x = true) : point x = x := by unfold point; rw [if_pos h]
theorem point_range (x : Int) : 0 ≤ point x ∧ point x ≤ 1114111 := ((pointOk_iff _).1 (pointOk_point x)).1
theorem utf8_len (x : Int) : 1 ≤ (utf8 x).length ∧ (utf8 x).length ≤ 4 := by
  unfold utf8
  split
  · simp
  · split
    · simp
    · split <;> simp
theorem pointPut_len (x : Int) : 1 ≤ (pointPut x).length ∧ (pointPut x).length ≤ 4 := utf8_len _
theorem utf8_bytes {x : Int} (h0 : 0 ≤ x) (h1 : x ≤ 1114111) : ∀ b ∈ utf8 x, 0 ≤ b ∧ b ≤ 255 := by
  intro b hb
  unfold utf8 at hb
  split at hb
  · simp at hb; omega
  · split at hb
    · simp at hb; omega
    · split at hb
      · simp at hb; omega
      · simp at hb; omega
theorem and63 {x : Int} (h0 : 0 ≤ x) (h1 : x ≤ 9223372036854775807) : Go.bits .and .i64 x 63 = x % 64 := bits_mask .i64 63 (by decide) wraps_i64 6 (by decide) x h0 (by omega)
theorem or192 {y : Int} (h0 : 0 ≤ y) (h1 : y < 32) : Go.bits .or .i64 192 y = 192 + y := bits_join .i64 63 (by decide) wraps_i64 5 192 y (by decide) (by decide) (by decide) h0 h1 (by omega)
theorem or224 {y : Int} (h0 : 0 ≤ y) (h1 : y < 16) : Go.bits .or .i64 224 y = 224 + y := bits_join .i64 63 (by decide) wraps_i64 4 224 y (by decide) (by decide) (by decide) h0 h1 (by omega)
theorem or240 {y : Int} (h0 : 0 ≤ y) (h1 : y < 8) : Go.bits .or .i64 240 y = 240 + y := bits_join .i64 63 (by decide) wraps_i64 3 240 y (by decide) (by decide) (by decide) h0 h1 (by omega)
theorem m256 {y : Int} (h0 : 0 ≤ y) (h1 : y < 256) : y % 256 = y := Int.emod_eq_of_lt h0 h1

end Go.Proofs.Ytplgbnalflpdhaa.Y

/- Plain lemmas over numbers and lists (pointsPut). Conditions: as each states. -/
namespace Go.Proofs.Ytplgbnalflpdhaa.Y
open Go.RowKit Go.Proofs.Ytplgbnalflpdhaa.X Go.Proofs.YtplgbnalflpdhaaW.PrintWords Go.Proofs.YtplgbnalflpdhaaW.PrintLast Go.Proofs.YtplgbnalflpdhaaW.PrintMore Go.Proofs.Ytplgbnalflpdhaa.Y
set_option linter.unusedVariables false
set_option linter.unusedSimpArgs false
def putAll (l : List Int) : List Int := l.flatMap pointPut
theorem putAll_len (l : List Int) : l.length ≤ (putAll l).length ∧ (putAll l).length ≤ 4 * l.length := by
  induction l with
  | nil => simp [putAll]
  | cons x xs ih =>
    have := pointPut_len x
    simp only [putAll, List.flatMap_cons, List.length_append, List.length_cons] at *
    omega
theorem rd_get {l : List Int} {i : Int} (h0 : 0 ≤ i) (h : i < l.length) : rd l i = l[i.toNat]'(by omega) := by
  unfold rd; rw [List.getD_eq_getElem?_getD, List.getElem?_eq_getElem (by omega)]; rfl
theorem drop_cons {l : List Int} {i : Int} (h0 : 0 ≤ i) (h : i < l.length) : l.drop i.toNat = rd l i :: l.drop (i + 1).toNat := by
  have e : (i + 1).toNat = i.toNat + 1 := by omega
  rw [e, rd_get h0 h]; exact List.drop_eq_getElem_cons (by omega)

end Go.Proofs.Ytplgbnalflpdhaa.Y

/- Plain lemmas over numbers and lists (lowTextS). Conditions: as each states. -/
namespace Go.Proofs.Ytplgbnalflpdhaa.Y
open Go.RowKit Go.Proofs.Ytplgbnalflpdhaa.X Go.Proofs.YtplgbnalflpdhaaW.PrintWords Go.Proofs.YtplgbnalflpdhaaW.PrintLast Go.Proofs.YtplgbnalflpdhaaW.PrintMore Go.Proofs.Ytplgbnalflpdhaa.Y
set_option linter.unusedVariables false
set_option linter.unusedSimpArgs false
-- USES impl_LowerText.f
theorem lowByte_of (x : Int) : lowByte x = lowerOf x := rfl
theorem spec_LowerText_l (s : ByteArray) (hs : s.size ≤ 1048576) : ∀ (d : Nat) (i : Int) (acc : List Int), 0 ≤ i → i + d = s.size → acc.length ≤ i → Ev (fun k => spec_LowerText.l0 k s acc i) (strOfNums (acc ++ ((bytesOf s).drop i.toNat).map lowByte)) := by
  intro d
  have hl := bytesOf_length s
  induction d with
  | zero =>
    intro i acc h0 h ha
    refine ev_succ ?_
    simp only [spec_LowerText.l0]
    refine ev_neg (by omega) (ev_some ?_)
    rw [List.drop_of_length_le (by omega)]; simp
  | succ d ih =>
    intro i acc h0 h ha
    refine ev_succ ?_
    have hb := bt_range s i
    simp only [spec_LowerText.l0, spec_LowerOf_eq, Option.bind_some]
    rw [w64 (x := bt s i) (by omega) (by omega), w64 (x := i + 1) (by omega) (by omega), drop_cons h0 (by omega), rd_bytesOf]
    have e : lowerOf (bt s i) % 256 = lowByte (bt s i) := by unfold lowerOf lowByte; split <;> omega
    rw [e]
    refine ev_pos (by omega) (ev_pos h0 (ev_pos (by omega) ?_))
    have := ih (i + 1) (acc ++ [lowByte (bt s i)]) (by omega) (by omega) (by rw [List.length_append, List.length_singleton]; omega)
    simpa using this
theorem spec_LowerText_ev (s : ByteArray) (hs : s.size ≤ 1048576) : Ev (fun k => spec_LowerText.f k s) (strOfNums ((bytesOf s).map lowByte)) := by
  have := spec_LowerText_l s hs s.size 0 [] (by omega) (by omega) (by simp)
  simpa [spec_LowerText.f] using this
theorem impl_LowerText_eq (s : ByteArray) (hs : s.size ≤ 1048576) : impl_LowerText.f s = some (strOfNums ((bytesOf s).map lowByte)) := by
  unfold impl_LowerText.f; rw [if_pos hs]

end Go.Proofs.Ytplgbnalflpdhaa.Y

/- Plain lemmas over numbers and lists (strBytes). Conditions: as each states. -/
namespace Go.Proofs.Ytplgbnalflpdhaa.Y
open Go.RowKit Go.Proofs.Ytplgbnalflpdhaa.X Go.Proofs.YtplgbnalflpdhaaW.PrintWords Go.Proofs.YtplgbnalflpdhaaW.PrintLast Go.Proofs.YtplgbnalflpdhaaW.PrintMore Go.Proofs.Ytplgbnalflpdhaa.Y
set_option linter.unusedVariables false
set_option linter.unusedSimpArgs false
theorem data_eta (s : ByteArray) : (⟨s.data.toList.toArray⟩ : ByteArray) = s := by cases s; simp
theorem str_bytes (s : ByteArray) : strOfNums (bytesOf s) = s := by
  unfold bytesOf
  rw [Lib.Lz.strOfNums_map]
theorem bytes_str {b : List Int} (h : ∀ x ∈ b, 0 ≤ x ∧ x ≤ 255) : bytesOf (strOfNums b) = b := by
  have e : (strOfNums b).data.toList = Lib.bytesOf b := by rw [← Lib.toList_data, Lib.strOfNums_toList]
  unfold bytesOf
  rw [e]
  unfold Lib.bytesOf
  rw [List.map_map]
  conv => rhs; rw [← List.map_id b]
  refine List.map_congr_left (fun x hx => ?_)
  have := h x hx
  simp only [Function.comp, id]
  have : (UInt8.ofNat x.toNat).toNat = x.toNat := by simp; omega
  omega
theorem bytesOf_range (s : ByteArray) : ∀ x ∈ bytesOf s, 0 ≤ x ∧ x ≤ 255 := by
  intro x hx
  unfold bytesOf at hx
  obtain ⟨b, _, rfl⟩ := List.mem_map.1 hx
  have := b.toNat_lt
  omega
theorem bytesOf_wf (s : ByteArray) : ∀ x ∈ bytesOf s, (Lit.int .u8 x).wf = true := fun x hx => by
  simp only [Lit.wf, Bool.and_eq_true, decide_eq_true_eq]; exact bytesOf_range s x hx
theorem bytes_ext {s t : ByteArray} (h : bytesOf s = bytesOf t) : s = t := by rw [← str_bytes s, h, str_bytes]
theorem toList_ext {s t : ByteArray} (h : s.toList = t.toList) : s = t := by
  rw [Lib.toList_data, Lib.toList_data] at h
  rw [← data_eta s, h, data_eta]
theorem str_size (b : List Int) : (strOfNums b).size = b.length := by
  have e : (strOfNums b).data.toList = Lib.bytesOf b := by rw [← Lib.toList_data, Lib.strOfNums_toList]
  have := congrArg List.length e
  simpa [Lib.bytesOf] using this

end Go.Proofs.Ytplgbnalflpdhaa.Y

/- Plain lemmas over numbers and lists (lowD). Conditions: as each states. -/
namespace Go.Proofs.Ytplgbnalflpdhaa.Y
open Go.RowKit Go.Proofs.Ytplgbnalflpdhaa.X Go.Proofs.YtplgbnalflpdhaaW.PrintWords Go.Proofs.YtplgbnalflpdhaaW.PrintLast Go.Proofs.YtplgbnalflpdhaaW.PrintMore Go.Proofs.Ytplgbnalflpdhaa.Y
set_option linter.unusedVariables false
set_option linter.unusedSimpArgs false
def lowText (s : ByteArray) : ByteArray := strOfNums ((bytesOf s).map lowByte)
theorem lowByte_range {x : Int} (h : 0 ≤ x ∧ x ≤ 255) : 0 ≤ lowByte x ∧ lowByte x ≤ 255 := by unfold lowByte; split <;> omega
theorem lowText_bytes (s : ByteArray) : bytesOf (lowText s) = (bytesOf s).map lowByte := by
  unfold lowText
  rw [bytes_str]
  intro x hx
  obtain ⟨y, hy, rfl⟩ := List.mem_map.1 hx
  exact lowByte_range (bytesOf_range s y hy)
theorem lowText_size (s : ByteArray) : (lowText s).size = s.size := by
  rw [← bytesOf_length, lowText_bytes, List.length_map, bytesOf_length]
theorem lowByte_twice (x : Int) : lowByte (lowByte x) = lowByte x := by unfold lowByte; (repeat' split) <;> omega
theorem lowText_twice (s : ByteArray) : lowText (lowText s) = lowText s := by
  apply bytes_ext
  rw [lowText_bytes, lowText_bytes, List.map_map]
  exact List.map_congr_left (fun x _ => lowByte_twice x)
theorem lowText_bt (s : ByteArray) (i : Int) (h0 : 0 ≤ i) (h : i < s.size) : bt (lowText s) i = lowByte (bt s i) := by
  have hl := bytesOf_length s
  rw [← rd_bytesOf, ← rd_bytesOf, lowText_bytes]
  rw [rd_get h0 (by rw [List.length_map]; omega), rd_get h0 (by omega)]
  simp

end Go.Proofs.Ytplgbnalflpdhaa.Y

/- Plain lemmas over numbers and lists (draw). Conditions: as each states. -/
namespace Go.Proofs.Ytplgbnalflpdhaa.Y
open Go.RowKit Go.Proofs.Ytplgbnalflpdhaa.X Go.Proofs.YtplgbnalflpdhaaW.PrintWords Go.Proofs.YtplgbnalflpdhaaW.PrintLast Go.Proofs.YtplgbnalflpdhaaW.PrintMore Go.Proofs.Ytplgbnalflpdhaa.Y
set_option linter.unusedVariables false
set_option linter.unusedSimpArgs false
theorem and_range (x : Int) (m : Nat) (hm : m < 2 ^ 31) : 0 ≤ Go.bits .and .i64 x m ∧ Go.bits .and .i64 x m ≤ m := by
  have h : (BitVec.ofInt IntKind.i64.bits x &&& BitVec.ofInt IntKind.i64.bits (m : Int)).toNat ≤ m := by
    rw [BitVec.toNat_and]
    refine Nat.le_trans Nat.and_le_right ?_
    rw [BitVec.ofInt_natCast, BitVec.toNat_ofNat]
    exact Nat.mod_le _ _
  simp only [Go.bits]
  generalize (BitVec.ofInt IntKind.i64.bits x &&& BitVec.ofInt IntKind.i64.bits (m : Int)).toNat = t at *
  rw [wraps_i64 _ (by omega) (by omega)]
  omega
theorem l1Byte_ok (l : List Int) (i h : Int) (hl : l.length ≤ 1048576) (h0 : 0 ≤ i) (h1 : i ≤ l.length) : ∃ v i' h', spec_l1Byte.f l i h = some (v, i', h') ∧ (0 ≤ v ∧ v ≤ 255) ∧ 0 ≤ i' ∧ i' ≤ l.length := by
  unfold spec_l1Byte.f
  by_cases c : i < l.length
  · rw [if_pos c, if_pos h0, w64 (x := i + 1) (by omega) (by omega)]
    exact ⟨_, _, _, rfl, and_range _ 255 (by decide), by omega, by omega⟩
  · rw [if_neg c]
    exact ⟨_, _, _, rfl, and_range _ 255 (by decide), h0, h1⟩
theorem l1Below_ok (l : List Int) (i h n : Int) (hl : l.length ≤ 1048576) (h0 : 0 ≤ i) (h1 : i ≤ l.length) (hn : n ≤ 1000000000) : ∃ v i' h', spec_l1Below.f l i h n = some (v, i', h') ∧ (0 ≤ v ∧ (v < n ∨ n ≤ 0 ∧ v = 0)) ∧ 0 ≤ i' ∧ i' ≤ l.length := by
  unfold spec_l1Below.f
  by_cases c : n ≤ 0
  · rw [if_pos c]; exact ⟨_, _, _, rfl, ⟨by omega, .inr ⟨c, rfl⟩⟩, h0, h1⟩
  · rw [if_neg c]
    by_cases d : n ≤ 256
    · obtain ⟨v, i', h', e, hv, hi⟩ := l1Byte_ok l i h hl h0 h1
      rw [if_pos d, e]
      refine ⟨_, _, _, by rw [Option.bind_some, if_neg (by omega)], ⟨?_, .inl ?_⟩, hi⟩
      · rw [Int.tmod_eq_emod_of_nonneg hv.1]; exact Int.emod_nonneg _ (by omega)
      · rw [Int.tmod_eq_emod_of_nonneg hv.1]; exact Int.emod_lt_of_pos _ (by omega)
    · obtain ⟨v1, i1, h1', e1, hv1, hi1⟩ := l1Byte_ok l i h hl h0 h1
      obtain ⟨v2, i2, h2', e2, hv2, hi2⟩ := l1Byte_ok l i1 h1' hl hi1.1 hi1.2
      obtain ⟨v3, i3, h3', e3, hv3, hi3⟩ := l1Byte_ok l i2 h2' hl hi2.1 hi2.2
      obtain ⟨v4, i4, h4', e4, hv4, hi4⟩ := l1Byte_ok l i3 h3' hl hi3.1 hi3.2
      rw [if_neg d, e1, Option.bind_some, e2, Option.bind_some, e3, Option.bind_some, e4, Option.bind_some, if_neg (by omega)]
      have hw : wrap64 ((wrap64 ((wrap64 ((wrap64 (v1 * 16777216)) + (wrap64 (v2 * 65536)))) + (wrap64 (v3 * 256)))) + v4) = v1 * 16777216 + v2 * 65536 + v3 * 256 + v4 := by
        rw [w64 (x := v1 * _) (by omega) (by omega), w64 (x := v2 * _) (by omega) (by omega), w64 (x := v3 * _) (by omega) (by omega), w64 (x := v1 * 16777216 + v2 * 65536) (by omega) (by omega), w64 (x := v1 * 16777216 + v2 * 65536 + v3 * 256) (by omega) (by omega), w64 (by omega) (by omega)]
      refine ⟨_, _, _, rfl, ⟨?_, .inl ?_⟩, hi4⟩
      · simp only [hw]; rw [Int.tmod_eq_emod_of_nonneg (by omega)]; exact Int.emod_nonneg _ (by omega)
      · simp only [hw]; rw [Int.tmod_eq_emod_of_nonneg (by omega)]; exact Int.emod_lt_of_pos _ (by omega)
theorem l1PickInt_ok (l : List Int) (i h : Int) (m : List Int) (hl : l.length ≤ 1048576) (h0 : 0 ≤ i) (h1 : i ≤ l.length) (hm : 0 < m.length) (hm2 : m.length ≤ 1000) : ∃ v i' h', spec_l1PickInt.f l i h m = some (v, i', h') ∧ v ∈ m ∧ 0 ≤ i' ∧ i' ≤ l.length := by
  unfold spec_l1PickInt.f
  obtain ⟨v, i', h', e, hv, hi⟩ := l1Below_ok l i h m.length hl h0 h1 (by omega)
  rw [e, Option.bind_some, if_pos hv.1, if_pos (by show v < _; omega)]
  refine ⟨_, _, _, rfl, ?_, hi⟩
  show rd m v ∈ m
  unfold rd
  rw [List.getD_eq_getElem?_getD, List.getElem?_eq_getElem (by omega)]
  exact List.getElem_mem _

end Go.Proofs.Ytplgbnalflpdhaa.Y

/- Plain lemmas over numbers and lists (draw2). Conditions: as each states. -/
namespace Go.Proofs.Ytplgbnalflpdhaa.Y
open Go.RowKit Go.Proofs.Ytplgbnalflpdhaa.X Go.Proofs.YtplgbnalflpdhaaW.PrintWords Go.Proofs.YtplgbnalflpdhaaW.PrintLast Go.Proofs.YtplgbnalflpdhaaW.PrintMore Go.Proofs.Ytplgbnalflpdhaa.Y
set_option linter.unusedVariables false
set_option linter.unusedSimpArgs false
theorem l1New_l0 (l : List Int) (hl : l.length ≤ 1048576) : ∀ (d : Nat) (i h : Int), 0 ≤ i → i + d = l.length → ∃ h', Ev (fun k => spec_l1New.l0 k l h i) (l, 0, h') := by
  intro d
  induction d with
  | zero =>
    intro i h h0 hd
    exact ⟨h, Ev.step (f := fun _ => some (l, 0, h)) (fun k => by simp only [spec_l1New.l0]; rw [if_neg (by omega)]) (Ev.now _)⟩
  | succ d ih =>
    intro i h h0 hd
    by_cases c : i < 4000
    · obtain ⟨h', e⟩ := ih (i + 1) (Go.bits .and .i64 (wrap64 ((wrap64 ((wrap64 (h * 131)) + (wrap64 (rd l i)))) + 7)) 1073741823) (by omega) (by omega)
      refine ⟨h', Ev.step (fun k => ?_) e⟩
      simp only [spec_l1New.l0]; rw [if_pos (by omega), if_pos c, if_pos h0, w64 (x := i + 1) (by omega) (by omega)]
    · exact ⟨h, Ev.step (f := fun _ => some (l, 0, h)) (fun k => by simp only [spec_l1New.l0]; rw [if_pos (by omega), if_neg c]) (Ev.now _)⟩
theorem l1New_ok (l : List Int) (hl : l.length ≤ 1048576) : ∃ h', Ev (fun k => spec_l1New.f k l) (l, 0, h') := by
  unfold spec_l1New.f
  exact l1New_l0 l hl l.length 0 _ (by omega) (by omega)

end Go.Proofs.Ytplgbnalflpdhaa.Y

/- Plain lemmas over numbers and lists (drawPoint). Conditions: as each states. -/
namespace Go.Proofs.Ytplgbnalflpdhaa.Y
open Go.RowKit Go.Proofs.Ytplgbnalflpdhaa.X Go.Proofs.YtplgbnalflpdhaaW.PrintWords Go.Proofs.YtplgbnalflpdhaaW.PrintLast Go.Proofs.YtplgbnalflpdhaaW.PrintMore Go.Proofs.Ytplgbnalflpdhaa.Y
set_option linter.unusedVariables false
set_option linter.unusedSimpArgs false
theorem l1DrawPoint_ok (l : List Int) (i h : Int) (hl : l.length ≤ 1048576) (h0 : 0 ≤ i) (h1 : i ≤ l.length) : ∃ v i' h', spec_l1DrawPoint.f l i h = some (v, i', h') ∧ (-1 ≤ v ∧ v ≤ 1200000) ∧ 0 ≤ i' ∧ i' ≤ l.length := by
  unfold spec_l1DrawPoint.f
  obtain ⟨a, i1, g1, e1, ha, hi1⟩ := l1Below_ok l i h 1200000 hl h0 h1 (by omega)
  obtain ⟨b, i2, g2, e2, hb, hi2⟩ := l1Below_ok l i1 g1 90 hl hi1.1 hi1.2 (by omega)
  rw [e1, Option.bind_some, e2, Option.bind_some]
  obtain ⟨v, i3, g3, e3, hv, hi3⟩ := l1PickInt_ok l i2 g2 [0, 65, 97, 127, 128, 255, 2047, 2048, 55295, 55296, 57343, 57344, 65279, 65533, 65535, 65536, 1114111, 1114112, (-1), a, wrap64 (32 + b)] hl hi2.1 hi2.2 (by simp) (by simp)
  rw [e3, Option.bind_some]
  refine ⟨_, _, _, rfl, ?_, hi3⟩
  rw [w64 (x := 32 + b) (by omega) (by omega)] at hv
  simp only [List.mem_cons, List.not_mem_nil, or_false] at hv
  show -1 ≤ v ∧ v ≤ 1200000
  omega
theorem DrawPointPut_ok (l : List Int) (hl : l.length ≤ 1048576) : ∃ v, Ev (fun k => spec_DrawPointPut.f k l) v ∧ -1 ≤ v ∧ v ≤ 1200000 := by
  unfold spec_DrawPointPut.f
  obtain ⟨h, e⟩ := l1New_ok l hl
  obtain ⟨v, i', h', e2, hv, _⟩ := l1DrawPoint_ok l 0 h hl (by omega) (by omega)
  exact ⟨v, Ev.bind e (ev_bindS e2 (Ev.now _)), hv⟩

end Go.Proofs.Ytplgbnalflpdhaa.Y

/- Plain lemmas over numbers and lists (evp). Conditions: as each states. -/
namespace Go.Proofs.Ytplgbnalflpdhaa.Y
open Go.RowKit Go.Proofs.Ytplgbnalflpdhaa.X Go.Proofs.YtplgbnalflpdhaaW.PrintWords Go.Proofs.YtplgbnalflpdhaaW.PrintLast Go.Proofs.YtplgbnalflpdhaaW.PrintMore Go.Proofs.Ytplgbnalflpdhaa.Y
set_option linter.unusedVariables false
set_option linter.unusedSimpArgs false
/-- Behind rounds enough there is an answer, of which something is told. -/
def EvP {α : Type} (g : Nat → Option α) (Q : α → Prop) : Prop := ∃ r, Ev g r ∧ Q r
theorem EvP.bind {α β : Type} {g : Nat → Option α} {f : Nat → α → Option β} {P : α → Prop} {Q : β → Prop} (h : EvP g P) (hf : ∀ a, P a → EvP (fun k => f k a) Q) : EvP (fun k => (g k).bind (f k)) Q := by
  obtain ⟨a, e, hp⟩ := h
  obtain ⟨r, e2, hq⟩ := hf a hp
  exact ⟨r, Ev.bind e e2, hq⟩
theorem EvP.pos {α : Type} {c : Prop} [Decidable c] {g f : Nat → Option α} {Q : α → Prop} (hc : c) (h : EvP g Q) : EvP (fun k => if c then g k else f k) Q := by
  obtain ⟨r, e, hq⟩ := h; exact ⟨r, ev_pos hc e, hq⟩
theorem EvP.neg {α : Type} {c : Prop} [Decidable c] {g f : Nat → Option α} {Q : α → Prop} (hc : ¬ c) (h : EvP f Q) : EvP (fun k => if c then g k else f k) Q := by
  obtain ⟨r, e, hq⟩ := h; exact ⟨r, ev_neg hc e, hq⟩
theorem EvP.ite {α : Type} {c : Prop} [Decidable c] {g f : Nat → Option α} {Q : α → Prop} (h1 : c → EvP g Q) (h2 : ¬ c → EvP f Q) : EvP (fun k => if c then g k else f k) Q := by
  by_cases hc : c
  · exact EvP.pos hc (h1 hc)
  · exact EvP.neg hc (h2 hc)
theorem EvP.some {α : Type} {r : α} {Q : α → Prop} (h : Q r) : EvP (fun _ => Option.some r) Q := ⟨r, Ev.now _, h⟩
theorem EvP.const {α : Type} {g : Option α} {P : α → Prop} (h : ∃ a, g = Option.some a ∧ P a) : EvP (fun _ => g) P := by
  obtain ⟨a, e, hp⟩ := h; exact ⟨a, ev_const e, hp⟩
theorem EvP.succ {α : Type} {g : Nat → Option α} {Q : α → Prop} (h : EvP (fun k => g (k + 1)) Q) : EvP g Q := by
  obtain ⟨r, e, hq⟩ := h; exact ⟨r, ev_succ e, hq⟩
theorem EvP.mono {α : Type} {g : Nat → Option α} {P Q : α → Prop} (h : EvP g P) (hi : ∀ a, P a → Q a) : EvP g Q := by
  obtain ⟨r, e, hq⟩ := h; exact ⟨r, e, hi r hq⟩
theorem EvP.of {α : Type} {g : Nat → Option α} {r : α} {Q : α → Prop} (h : Ev g r) (hq : Q r) : EvP g Q := ⟨r, h, hq⟩
theorem EvP.ev {α : Type} {g : Nat → Option α} {r : α} (h : EvP g (fun x => x = r)) : Ev g r := by
  obtain ⟨x, e, hx⟩ := h
  subst hx
  exact e
/-- A callee that goes round not at all. -/
theorem EvP.bindS {α β : Type} {g : Option α} {f : Nat → α → Option β} {P : α → Prop} {Q : β → Prop} (h : ∃ a, g = Option.some a ∧ P a) (hf : ∀ a, P a → EvP (fun k => f k a) Q) : EvP (fun k => g.bind (f k)) Q := by
  obtain ⟨a, rfl, hp⟩ := h
  exact hf a hp

end Go.Proofs.Ytplgbnalflpdhaa.Y

/- Plain lemmas over numbers and lists (drawP). Conditions: as each states. -/
namespace Go.Proofs.Ytplgbnalflpdhaa.Y
open Go.RowKit Go.Proofs.Ytplgbnalflpdhaa.X Go.Proofs.YtplgbnalflpdhaaW.PrintWords Go.Proofs.YtplgbnalflpdhaaW.PrintLast Go.Proofs.YtplgbnalflpdhaaW.PrintMore Go.Proofs.Ytplgbnalflpdhaa.Y
set_option linter.unusedVariables false
set_option linter.unusedSimpArgs false
theorem l1Byte_p (l : List Int) (i h : Int) (hl : l.length ≤ 1048576) (hi : 0 ≤ i ∧ i ≤ l.length) : ∃ a, spec_l1Byte.f l i h = some a ∧ (0 ≤ a.1 ∧ a.1 ≤ 255) ∧ 0 ≤ a.2.1 ∧ a.2.1 ≤ l.length := by
  obtain ⟨v, i', h', e, hv, hj⟩ := l1Byte_ok l i h hl hi.1 hi.2
  exact ⟨_, e, hv, hj⟩
theorem l1Below_p (l : List Int) (i h n : Int) (hl : l.length ≤ 1048576) (hi : 0 ≤ i ∧ i ≤ l.length) (hn : n ≤ 1000000000) : ∃ a, spec_l1Below.f l i h n = some a ∧ (0 ≤ a.1 ∧ (a.1 < n ∨ n ≤ 0 ∧ a.1 = 0)) ∧ 0 ≤ a.2.1 ∧ a.2.1 ≤ l.length := by
  obtain ⟨v, i', h', e, hv, hj⟩ := l1Below_ok l i h n hl hi.1 hi.2 hn
  exact ⟨_, e, hv, hj⟩
theorem l1PickInt_p (l : List Int) (i h : Int) (m : List Int) (hl : l.length ≤ 1048576) (hi : 0 ≤ i ∧ i ≤ l.length) (hm : 0 < m.length) (hm2 : m.length ≤ 1000) : ∃ a, spec_l1PickInt.f l i h m = some a ∧ a.1 ∈ m ∧ 0 ≤ a.2.1 ∧ a.2.1 ≤ l.length := by
  obtain ⟨v, i', h', e, hv, hj⟩ := l1PickInt_ok l i h m hl hi.1 hi.2 hm hm2
  exact ⟨_, e, hv, hj⟩
theorem l1DrawPoint_p (l : List Int) (i h : Int) (hl : l.length ≤ 1048576) (hi : 0 ≤ i ∧ i ≤ l.length) : ∃ a, spec_l1DrawPoint.f l i h = some a ∧ (-1 ≤ a.1 ∧ a.1 ≤ 1200000) ∧ 0 ≤ a.2.1 ∧ a.2.1 ≤ l.length := by
  obtain ⟨v, i', h', e, hv, hj⟩ := l1DrawPoint_ok l i h hl hi.1 hi.2
  exact ⟨_, e, hv, hj⟩
theorem l1New_p (l : List Int) (hl : l.length ≤ 1048576) : EvP (fun k => spec_l1New.f k l) (fun a => a.1 = l ∧ 0 ≤ a.2.1 ∧ a.2.1 ≤ (l.length : Int)) := by
  obtain ⟨h', e⟩ := l1New_ok l hl
  exact ⟨_, e, rfl, by simp, by simp⟩

end Go.Proofs.Ytplgbnalflpdhaa.Y

/- Plain lemmas over numbers and lists (drawPick). Conditions: as each states. -/
namespace Go.Proofs.Ytplgbnalflpdhaa.Y
open Go.RowKit Go.Proofs.Ytplgbnalflpdhaa.X Go.Proofs.YtplgbnalflpdhaaW.PrintWords Go.Proofs.YtplgbnalflpdhaaW.PrintLast Go.Proofs.YtplgbnalflpdhaaW.PrintMore Go.Proofs.Ytplgbnalflpdhaa.Y
set_option linter.unusedVariables false
set_option linter.unusedSimpArgs false
theorem l1Pick_p (l : List Int) (i h : Int) (m : List ByteArray) (hl : l.length ≤ 1048576) (hi : 0 ≤ i ∧ i ≤ l.length) (hm : 0 < m.length) (hm2 : m.length ≤ 1000) : ∃ a, spec_l1Pick.f l i h m = some a ∧ a.1 ∈ m ∧ 0 ≤ a.2.1 ∧ a.2.1 ≤ l.length := by
  unfold spec_l1Pick.f
  obtain ⟨b, e, hv, hj⟩ := l1Below_p l i h m.length hl hi (by omega)
  rw [e, Option.bind_some, if_pos hv.1, if_pos (by omega)]
  refine ⟨_, rfl, ?_, hj⟩
  show rdOf ByteArray.empty m b.1 ∈ m
  unfold rdOf
  rw [List.getD_eq_getElem?_getD, List.getElem?_eq_getElem (by omega)]
  exact List.getElem_mem _

end Go.Proofs.Ytplgbnalflpdhaa.Y

/- Plain lemmas over numbers and lists (drawOnce). Conditions: as each states. -/
namespace Go.Proofs.Ytplgbnalflpdhaa.Y
open Go.RowKit Go.Proofs.Ytplgbnalflpdhaa.X Go.Proofs.YtplgbnalflpdhaaW.PrintWords Go.Proofs.YtplgbnalflpdhaaW.PrintLast Go.Proofs.YtplgbnalflpdhaaW.PrintMore Go.Proofs.Ytplgbnalflpdhaa.Y
set_option linter.unusedVariables false
set_option linter.unusedSimpArgs false
theorem l1Once_p (l : List Int) (i h n : Int) (hl : l.length ≤ 1048576) (hi : 0 ≤ i ∧ i ≤ l.length) (hn : n ≤ 1000000000) : ∃ a, spec_l1Once.f l i h n = some a ∧ True ∧ 0 ≤ a.2.1 ∧ a.2.1 ≤ l.length := by
  obtain ⟨a, e, _, hj⟩ := l1Below_p l i h n hl hi hn
  unfold spec_l1Once.f
  rw [e, Option.bind_some]
  exact ⟨_, rfl, True.intro, hj⟩

end Go.Proofs.Ytplgbnalflpdhaa.Y

/- Plain lemmas over numbers and lists (drawBytes). Conditions: as each states. -/
namespace Go.Proofs.Ytplgbnalflpdhaa.Y
open Go.RowKit Go.Proofs.Ytplgbnalflpdhaa.X Go.Proofs.YtplgbnalflpdhaaW.PrintWords Go.Proofs.YtplgbnalflpdhaaW.PrintLast Go.Proofs.YtplgbnalflpdhaaW.PrintMore Go.Proofs.Ytplgbnalflpdhaa.Y
set_option linter.unusedVariables false
set_option linter.unusedSimpArgs false
theorem l1DrawBytes_l0 (l : List Int) (hl : l.length ≤ 1048576) (n : Int) (hn : n ≤ 1000) : ∀ (d : Nat) (acc : List Int) (c i h : Int), 0 ≤ i ∧ i ≤ l.length → 0 ≤ c → c + d = n ∨ (n ≤ c ∧ d = 0) → (∀ x ∈ acc, 0 ≤ x ∧ x ≤ 255) → acc.length + d ≤ 1000 → EvP (fun k => spec_l1DrawBytes.l0 k acc n c l i h) (fun b => ((∀ x ∈ b.1, 0 ≤ x ∧ x ≤ 255) ∧ b.1.length ≤ acc.length + d) ∧ 0 ≤ b.2.1 ∧ b.2.1 ≤ l.length) := by
  intro d
  induction d with
  | zero =>
    intro acc c i h hi hc hd ha hx
    refine EvP.succ ?_
    simp only [spec_l1DrawBytes.l0]
    exact EvP.neg (by omega) (EvP.some ⟨⟨ha, by simp⟩, hi⟩)
  | succ d ih =>
    intro acc c i h hi hc hd ha hx
    refine EvP.succ ?_
    simp only [spec_l1DrawBytes.l0]
    refine EvP.pos (by omega) (EvP.bindS (l1Byte_p l i h hl hi) (fun p hp => ?_))
    rw [w64 (x := c + 1) (by omega) (by omega)]
    refine EvP.pos (by omega) (EvP.mono (ih _ (c + 1) _ _ hp.2 (by omega) (by omega) ?_ (by rw [List.length_append, List.length_singleton]; omega)) (fun a h => ⟨⟨h.1.1, ?_⟩, h.2⟩))
    · intro x hx
      rcases List.mem_append.1 hx with h | h
      · exact ha x h
      · simp at h; omega
    · have := h.1.2; rw [List.length_append, List.length_singleton] at this; omega
theorem l1DrawBytes_p (l : List Int) (hl : l.length ≤ 1048576) (i h n : Int) (hi : 0 ≤ i ∧ i ≤ l.length) (hn0 : 0 ≤ n) (hn : n ≤ 900) : EvP (fun k => spec_l1DrawBytes.f k l i h n) (fun b => ((∀ x ∈ b.1, 0 ≤ x ∧ x ≤ 255) ∧ b.1.length ≤ n) ∧ 0 ≤ b.2.1 ∧ b.2.1 ≤ l.length) := by
  unfold spec_l1DrawBytes.f
  rw [w64 (x := n + 1) (by omega) (by omega)]
  refine EvP.bindS (l1Below_p l _ _ _ hl hi (by omega)) (fun b hb => ?_)
  refine EvP.mono (l1DrawBytes_l0 l hl b.1 (by omega) b.1.toNat [] 0 _ _ hb.2 (by omega) (by omega) (by simp) (by simp; omega)) (fun a h => ⟨⟨h.1.1, ?_⟩, h.2⟩)
  have := h.1.2; simp at this; omega

end Go.Proofs.Ytplgbnalflpdhaa.Y

/- Plain lemmas over numbers and lists (drawName). Conditions: as each states. -/
namespace Go.Proofs.Ytplgbnalflpdhaa.Y
open Go.RowKit Go.Proofs.Ytplgbnalflpdhaa.X Go.Proofs.YtplgbnalflpdhaaW.PrintWords Go.Proofs.YtplgbnalflpdhaaW.PrintLast Go.Proofs.YtplgbnalflpdhaaW.PrintMore Go.Proofs.Ytplgbnalflpdhaa.Y
set_option linter.unusedVariables false
set_option linter.unusedSimpArgs false
theorem l2DrawName_l0 (l : List Int) (hl : l.length ≤ 1048576) : ∀ (d : Nat) (s : ByteArray) (i h : Int), 0 ≤ i ∧ i ≤ l.length → s.size + d = 61 → EvP (fun k => spec_l2DrawName.l0 k s l i h) (fun a => a.1.size ≤ 61 ∧ 0 ≤ a.2.1 ∧ a.2.1 ≤ l.length) := by
  intro d
  induction d with
  | zero =>
    intro s i h hi hs
    refine EvP.succ ?_
    simp only [spec_l2DrawName.l0]
    refine EvP.bindS (l1Below_p l i h 2 hl hi (by omega)) (fun p hp => ?_)
    rw [w64 (x := 60 + p.1) (by omega) (by omega)]
    exact EvP.neg (by omega) (EvP.some ⟨by show s.size ≤ 61; omega, hp.2⟩)
  | succ d ih =>
    intro s i h hi hs
    refine EvP.succ ?_
    simp only [spec_l2DrawName.l0]
    refine EvP.bindS (l1Below_p l i h 2 hl hi (by omega)) (fun p hp => ?_)
    rw [w64 (x := 60 + p.1) (by omega) (by omega)]
    refine EvP.ite (fun _ => EvP.pos (by omega) (ih _ _ _ hp.2 ?_)) (fun _ => EvP.some ⟨by show s.size ≤ 61; omega, hp.2⟩)
    rw [ByteArray.size_append]
    show s.size + 1 + d = 61
    omega
theorem l2DrawName_p (l : List Int) (hl : l.length ≤ 1048576) (i h : Int) (hi : 0 ≤ i ∧ i ≤ l.length) : EvP (fun k => spec_l2DrawName.f k l i h) (fun a => a.1.size ≤ 61 ∧ 0 ≤ a.2.1 ∧ a.2.1 ≤ l.length) := by
  unfold spec_l2DrawName.f
  have hm : ∀ s ∈ ([(⟨#[112]⟩ : ByteArray), (⟨#[100, 105, 118]⟩ : ByteArray), (⟨#[98]⟩ : ByteArray), (⟨#[105]⟩ : ByteArray), (⟨#[97]⟩ : ByteArray), (⟨#[120, 45, 121]⟩ : ByteArray), (⟨#[104, 49]⟩ : ByteArray), (⟨#[76, 73]⟩ : ByteArray), (⟨#[116, 105, 116, 108, 101]⟩ : ByteArray), (⟨#[195, 169]⟩ : ByteArray), (⟨#[97, 195, 169]⟩ : ByteArray), (⟨#[49, 97]⟩ : ByteArray), (⟨#[]⟩ : ByteArray), (⟨#[97, 32, 98]⟩ : ByteArray), (⟨#[97, 47, 98]⟩ : ByteArray), (⟨#[97, 62, 98]⟩ : ByteArray)] : List ByteArray), s.size ≤ 20 := by decide
  refine EvP.bindS (l1Pick_p l i h _ hl hi (by simp) (by simp)) (fun p hp => ?_)
  have hz := hm p.1 hp.1
  refine EvP.bindS (l1Once_p l _ _ 20 hl hp.2 (by omega)) (fun q hq => ?_)
  refine EvP.ite (fun _ => ?_) (fun _ => EvP.some ⟨by show p.1.size ≤ 61; omega, hq.2⟩)
  exact l2DrawName_l0 l hl (61 - p.1.size) _ _ _ hq.2 (by omega)
theorem DrawNameOk_p (l : List Int) (hl : l.length ≤ 1048576) : EvP (fun k => spec_DrawNameOk.f k l) (fun s => s.size ≤ 100) := by
  unfold spec_DrawNameOk.f
  refine EvP.bind (l1New_p l hl) (fun c hc => ?_)
  rw [hc.1]
  refine EvP.bind (l2DrawName_p l hl _ _ hc.2) (fun s hs => ?_)
  refine EvP.bindS (l1Once_p l _ _ 4 hl hs.2 (by omega)) (fun q hq => ?_)
  refine EvP.ite (fun _ => ?_) (fun _ => EvP.some (by omega))
  refine EvP.bind (l1DrawBytes_p l hl _ _ 2 hq.2 (by omega) (by omega)) (fun b hb => ?_)
  have h1 := hb.1.2
  have h2 := str_size b.1
  refine EvP.pos (by omega) (EvP.some ?_)
  rw [ByteArray.size_append]; omega
theorem DrawLowerText_p (l : List Int) (hl : l.length ≤ 1048576) : EvP (fun k => spec_DrawLowerText.f k l) (fun s => s.size ≤ 100) := by
  unfold spec_DrawLowerText.f
  refine EvP.bind (l1New_p l hl) (fun c hc => ?_)
  rw [hc.1]
  refine EvP.bind (l2DrawName_p l hl _ _ hc.2) (fun s hs => ?_)
  refine EvP.bind (l1DrawBytes_p l hl _ _ 3 hc.2 (by omega) (by omega)) (fun b hb => ?_)
  have h1 := hb.1.2
  have h2 := str_size b.1
  refine EvP.pos (by omega) (EvP.some ?_)
  rw [ByteArray.size_append]; omega

end Go.Proofs.Ytplgbnalflpdhaa.Y

/- Plain lemmas over numbers and lists (utfR). Conditions: as each states. -/
namespace Go.Proofs.Ytplgbnalflpdhaa.Y
open Go.RowKit Go.Proofs.Ytplgbnalflpdhaa.X Go.Proofs.YtplgbnalflpdhaaW.PrintWords Go.Proofs.YtplgbnalflpdhaaW.PrintLast Go.Proofs.YtplgbnalflpdhaaW.PrintMore Go.Proofs.Ytplgbnalflpdhaa.Y
set_option linter.unusedVariables false
set_option linter.unusedSimpArgs false
def formN (b : Int) : Nat := if b < 128 then 1 else if 194 ≤ b ∧ b ≤ 223 then 2 else if 224 ≤ b ∧ b ≤ 239 then 3 else if 240 ≤ b ∧ b ≤ 244 then 4 else 0
def formX (b : Int) : Int := if b < 128 then b else if b ≤ 223 then b - 192 else if b ≤ 239 then b - 224 else b - 240
def low1 (b : Int) : Int := if b = 224 then 160 else if b = 240 then 144 else 128
def high1 (b : Int) : Int := if b = 237 then 159 else if b = 244 then 143 else 191
/-- How many of the next d bytes stand in their bounds, the first in those that are told. -/
def mk : Nat → List Int → Int → Int → Nat
  | 0, _, _, _ => 0
  | _ + 1, [], _, _ => 0
  | d + 1, b :: r, lo, hi => if lo ≤ b ∧ b ≤ hi then mk d r 128 191 + 1 else 0
def vl : Nat → List Int → Int → Int
  | 0, _, x => x
  | _ + 1, [], x => x
  | d + 1, b :: r, x => vl d r (64 * x + b - 128)
def readPt : List Int → Int × Nat
  | [] => (65533, 1)
  | b :: r => if formN b = 0 then (65533, 1) else if mk (formN b - 1) r (low1 b) (high1 b) < formN b - 1 then (65533, mk (formN b - 1) r (low1 b) (high1 b) + 1) else (vl (formN b - 1) r (formX b), formN b)
def ur : Nat → List Int → List Int
  | 0, _ => []
  | _ + 1, [] => []
  | n + 1, b :: r => (readPt (b :: r)).1 :: ur n ((b :: r).drop (readPt (b :: r)).2)
theorem mk_le : ∀ (d : Nat) (r : List Int) (lo hi : Int), mk d r lo hi ≤ d ∧ mk d r lo hi ≤ r.length
  | 0, r, lo, hi => by simp [mk]
  | d + 1, [], lo, hi => by simp [mk]
  | d + 1, b :: r, lo, hi => by
    unfold mk; split
    · have := mk_le d r 128 191; simp only [List.length_cons]; omega
    · simp
theorem formN_le (b : Int) : formN b ≤ 4 := by
  unfold formN; split
  · omega
  · split
    · omega
    · split
      · omega
      · split <;> omega
theorem readPt_n (b : Int) (r : List Int) : 1 ≤ (readPt (b :: r)).2 ∧ (readPt (b :: r)).2 ≤ (b :: r).length := by
  have h := mk_le (formN b - 1) r (low1 b) (high1 b)
  simp only [readPt]
  by_cases h0 : formN b = 0
  · rw [if_pos h0]; simp
  · rw [if_neg h0]
    by_cases h1 : mk (formN b - 1) r (low1 b) (high1 b) < formN b - 1
    · rw [if_pos h1]; simp only [List.length_cons]; omega
    · rw [if_neg h1]; simp only [List.length_cons]; omega
theorem ur_nil (n : Nat) : ur n [] = [] := by cases n <;> rfl
theorem ur_len : ∀ (n : Nat) (l : List Int), (ur n l).length ≤ l.length
  | 0, l => by simp [ur]
  | n + 1, [] => by simp [ur]
  | n + 1, b :: r => by
    have h := readPt_n b r
    have := ur_len n ((b :: r).drop (readPt (b :: r)).2)
    simp only [ur, List.length_cons, List.length_drop] at *
    omega
/-- Where there are rounds enough, how many does not count. -/
theorem ur_more : ∀ (n m : Nat) (l : List Int), l.length ≤ n → l.length ≤ m → ur n l = ur m l := by
  intro n
  induction n with
  | zero =>
    intro m l h _
    have : l = [] := List.length_eq_zero_iff.1 (by omega)
    subst this; rw [ur_nil, ur_nil]
  | succ n ih =>
    intro m l h h'
    cases l with
    | nil => rw [ur_nil, ur_nil]
    | cons b r =>
      cases m with
      | zero => simp at h'
      | succ m =>
        have hn := readPt_n b r
        simp only [List.length_cons] at h h' hn
        simp only [ur]
        rw [ih m _ (by simp only [List.length_drop, List.length_cons]; omega) (by simp only [List.length_drop, List.length_cons]; omega)]
def urAll (l : List Int) : List Int := ur l.length l
theorem urAll_cons (b : Int) (r : List Int) : urAll (b :: r) = (readPt (b :: r)).1 :: urAll ((b :: r).drop (readPt (b :: r)).2) := by
  have hn := readPt_n b r
  show (readPt (b :: r)).1 :: ur r.length _ = _
  unfold urAll
  rw [ur_more r.length _ _ (by simp only [List.length_drop, List.length_cons] at *; omega) (Nat.le_refl _)]
theorem urAll_len (l : List Int) : (urAll l).length ≤ l.length := ur_len _ _
def unBom (l : List Int) : List Int := if l.take 3 = [239, 187, 191] then l.drop 3 else l
def utfRead (l : List Int) : List Int := if (l.length : Int) > 3000 then [] else urAll (unBom l)
theorem unBom_len (l : List Int) : (unBom l).length ≤ l.length := by unfold unBom; split <;> simp
theorem utfRead_len (l : List Int) : (utfRead l).length ≤ 3000 ∧ (utfRead l).length ≤ l.length := by
  unfold utfRead; split
  · simp
  · have := urAll_len (unBom l); have := unBom_len l; omega
theorem rd_bytes {l : List Int} (hw : ∀ x ∈ l, (Lit.int .u8 x).wf = true) (i : Int) : 0 ≤ rd l i ∧ rd l i ≤ 255 := by
  unfold rd
  rw [List.getD_eq_getElem?_getD]
  cases h : l[i.toNat]? with
  | none => simp
  | some v => exact wf8 (hw v (List.mem_of_getElem? h))
theorem wf_drop {l : List Int} (hw : ∀ x ∈ l, (Lit.int .u8 x).wf = true) (n : Nat) : ∀ x ∈ l.drop n, (Lit.int .u8 x).wf = true := fun x hx => hw x (List.mem_of_mem_drop hx)
def lim : Nat → Int
  | 0 => 1099511627776
  | 1 => 4294967296
  | 2 => 16777216
  | _ => 65536

end Go.Proofs.Ytplgbnalflpdhaa.Y

/- Plain lemmas over numbers and lists (utfReadS). Conditions: as each states. -/
namespace Go.Proofs.Ytplgbnalflpdhaa.Y
open Go.RowKit Go.Proofs.Ytplgbnalflpdhaa.X Go.Proofs.YtplgbnalflpdhaaW.PrintWords Go.Proofs.YtplgbnalflpdhaaW.PrintLast Go.Proofs.YtplgbnalflpdhaaW.PrintMore Go.Proofs.Ytplgbnalflpdhaa.Y
set_option linter.unusedVariables false
set_option linter.unusedSimpArgs false
theorem l1Forms_eq (b : Int) : spec_l1Forms.f b = some (formN b : Int) := by
  unfold spec_l1Forms.f formN
  simp only [spec_l1In_eq, Option.bind_some, decide_eq_true_eq]
  by_cases a : b < 128
  · simp [a]
  · simp only [if_neg a]
    split
    · rfl
    · split
      · rfl
      · split <;> rfl
theorem l1Fits_eq (b : Int) (c : Int) (x : Int) : spec_l1Fits.f b c x = some (decide ((if c = 1 then low1 b else 128) ≤ x ∧ x ≤ (if c = 1 then high1 b else 191))) := by
  unfold spec_l1Fits.f low1 high1
  simp only [spec_l1In_eq, Option.bind_some]
  by_cases hc : c = 1
  · simp only [if_pos hc]
    by_cases h1 : b = 224
    · subst h1; simp
    · by_cases h2 : b = 237
      · subst h2; simp
      · by_cases h3 : b = 240
        · subst h3; simp
        · by_cases h4 : b = 244
          · subst h4; simp
          · simp [h1, h2, h3, h4]
  · simp [hc]
theorem l1Read_l1 (l acc : List Int) (hl : l.length ≤ 1000000000) (hw : ∀ x ∈ l, (Lit.int .u8 x).wf = true) (a n : Int) (ha : 0 ≤ a) (ha2 : a < l.length) (b : Int) (res : List Int) : ∀ (d : Nat) (c : Nat), 1 ≤ c → (c : Int) + d = n → n ≤ 4 → (m : Nat) → m = mk d (l.drop (a + c).toNat) (if (c : Int) = 1 then low1 b else 128) (if (c : Int) = 1 then high1 b else 191) →
    Ev (fun k => spec_l1Read.j2 k l acc a b n ((c + m : Nat) : Int)) res → Ev (fun k => spec_l1Read.l1 k l acc a b n c) res := by
  intro d
  induction d with
  | zero =>
    intro c h1 hd h4 m hm hj
    have : m = 0 := by rw [hm]; simp [mk]
    subst this
    refine Ev.step (f := fun k => spec_l1Read.j2 k l acc a b n c) (fun k => ?_) hj
    simp only [spec_l1Read.l1]; rw [if_neg (by omega)]
  | succ d ih =>
    intro c h1 hd h4 m hm hj
    have e1 : wrap64 (a + c) = a + c := w64 (by omega) (by omega)
    by_cases hlt : a + c < l.length
    · rw [drop_cons (by omega) hlt] at hm
      have hb := rd_bytes hw (a + c)
      unfold mk at hm
      by_cases hf : (if (c : Int) = 1 then low1 b else 128) ≤ rd l (a + c) ∧ rd l (a + c) ≤ (if (c : Int) = 1 then high1 b else 191)
      · rw [if_pos hf] at hm
        refine Ev.step (f := fun k => spec_l1Read.l1 k l acc a b n ((c + 1 : Nat) : Int)) (fun k => ?_) (ih (c + 1) (by omega) (by omega) h4 (m - 1) ?_ ?_)
        · simp only [spec_l1Read.l1, e1, l1Fits_eq, Option.bind_some]
          rw [w64 (x := rd l (a + c)) (by omega) (by omega), decide_eq_true hf, if_pos (by omega), if_pos hlt, if_pos (by omega), if_pos rfl, w64 (x := (c : Int) + 1) (by omega) (by omega)]; rfl
        · rw [if_neg (by omega), if_neg (by omega), show a + ((c + 1 : Nat) : Int) = a + c + 1 by omega]; omega
        · rwa [show c + 1 + (m - 1) = c + m by omega]
      · rw [if_neg hf] at hm
        subst hm
        refine Ev.step (f := fun k => spec_l1Read.j2 k l acc a b n c) (fun k => ?_) hj
        simp only [spec_l1Read.l1, e1, l1Fits_eq, Option.bind_some]
        rw [w64 (x := rd l (a + c)) (by omega) (by omega), decide_eq_false hf, if_pos (by omega), if_pos hlt, if_pos (by omega), if_neg (by simp)]
    · rw [List.drop_of_length_le (by omega)] at hm
      unfold mk at hm
      subst hm
      refine Ev.step (f := fun k => spec_l1Read.j2 k l acc a b n c) (fun k => ?_) hj
      simp only [spec_l1Read.l1, e1]
      rw [if_pos (by omega), if_neg hlt]
theorem l1Read_l2 (l acc : List Int) (hl : l.length ≤ 1000000000) (hacc : acc.length ≤ 1000000000) (hw : ∀ x ∈ l, (Lit.int .u8 x).wf = true) (a n : Int) (ha : 0 ≤ a) (han : a + n ≤ l.length) (res : List Int) : ∀ (d : Nat) (c : Nat) (x : Int), 1 ≤ c → (c : Int) + d = n → n ≤ 4 → (m : Int) → m = vl d (l.drop (a + c).toNat) x → mk d (l.drop (a + c).toNat) 0 255 = 0 ∨ True → -lim d ≤ x → x ≤ lim d →
    Ev (fun k => spec_l1Read.l0 k l (acc ++ [m]) (a + n)) res → Ev (fun k => spec_l1Read.l2 k l acc a n x c) res := by
  intro d
  induction d with
  | zero =>
    intro c x h1 hd h4 m hm _ hx0 hx1 hj
    simp only [vl] at hm; subst hm
    refine Ev.step (f := fun k => spec_l1Read.l0 k l (acc ++ [m]) (a + n)) (fun k => ?_) hj
    simp only [spec_l1Read.l2]; rw [if_neg (by omega), if_pos (by omega), w64 (by omega) (by omega)]
  | succ d ih =>
    intro c x h1 hd h4 m hm _ hx0 hx1 hj
    have e1 : wrap64 (a + c) = a + c := w64 (by omega) (by omega)
    have hlt : a + c < l.length := by omega
    rw [drop_cons (by omega) hlt] at hm
    have hb := rd_bytes hw (a + c)
    simp only [vl] at hm
    have hL : lim (d + 1) ≤ 4294967296 ∧ 64 * lim (d + 1) + 255 ≤ lim d := by
      have : d = 0 ∨ d = 1 ∨ d = 2 := by omega
      rcases this with rfl | rfl | rfl <;> simp [lim]
    refine Ev.step (f := fun k => spec_l1Read.l2 k l acc a n (64 * x + rd l (a + c) - 128) ((c + 1 : Nat) : Int)) (fun k => ?_) (ih (c + 1) _ (by omega) (by omega) h4 m ?_ (.inr trivial) (by omega) (by omega) hj)
    · simp only [spec_l1Read.l2, e1]
      rw [w64 (x := rd l (a + c)) (by omega) (by omega), w64 (x := 64 * x) (by omega) (by omega), w64 (x := 64 * x + _) (by omega) (by omega), w64 (x := _ - 128) (by omega) (by omega), w64 (x := (c : Int) + 1) (by omega) (by omega), if_pos (by omega), if_pos (by omega), if_pos hlt]; rfl
    · rw [hm, show a + ((c + 1 : Nat) : Int) = a + c + 1 by omega]
theorem l1Read_l0 (l : List Int) (hl : l.length ≤ 1000000000) (hw : ∀ x ∈ l, (Lit.int .u8 x).wf = true) : ∀ (d : Nat) (a : Int) (acc : List Int), 0 ≤ a → a ≤ l.length → l.length - a ≤ d → acc.length ≤ a →
    Ev (fun k => spec_l1Read.l0 k l acc a) (acc ++ urAll (l.drop a.toNat)) := by
  intro d
  induction d with
  | zero =>
    intro a acc h0 h1 h2 h3
    refine Ev.step (f := fun _ => some acc) (fun k => ?_) (ev_some ?_)
    · simp only [spec_l1Read.l0]; rw [if_neg (by omega)]
    · rw [List.drop_of_length_le (by omega)]; simp [urAll, ur]
  | succ d ih =>
    intro a acc h0 h1 h2 h3
    by_cases hlt : a < l.length
    · have hb := rd_bytes hw a
      have hr := readPt_n (rd l a) (l.drop (a + 1).toNat)
      have hcons := drop_cons h0 hlt
      have hmk := mk_le (formN (rd l a) - 1) (l.drop (a + 1).toNat) (low1 (rd l a)) (high1 (rd l a))
      have hf4 := formN_le (rd l a)
      have hlen : (l.drop (a + 1).toNat).length = l.length - a.toNat - 1 := by rw [List.length_drop]; omega
      rw [hlen] at hmk
      rw [hcons, urAll_cons, ← hcons]
      have hdd : ∀ m : Nat, (l.drop a.toNat).drop m = l.drop (a + m).toNat := fun m => by rw [List.drop_drop]; congr 1; omega
      rw [hdd]
      have key : Ev (fun k => spec_l1Read.l0 k l (acc ++ [(readPt (l.drop a.toNat)).1]) (a + ((readPt (l.drop a.toNat)).2 : Int))) (acc ++ (readPt (l.drop a.toNat)).1 :: urAll (l.drop (a + ((readPt (l.drop a.toNat)).2 : Int)).toNat)) := by
        rw [← hcons] at hr
        rw [List.length_drop] at hr
        have := ih (a + ((readPt (l.drop a.toNat)).2 : Int)) (acc ++ [(readPt (l.drop a.toNat)).1]) (by omega) (by omega) (by omega) (by simp; omega)
        simpa using this
      generalize hres : acc ++ (readPt (l.drop a.toNat)).1 :: urAll (l.drop (a + ((readPt (l.drop a.toNat)).2 : Int)).toNat) = res at *
      rw [hcons] at key
      simp only [readPt] at key
      refine Ev.step (f := fun k => spec_l1Read.l1 k l acc a (rd l a) (formN (rd l a) : Int) ((1 : Nat) : Int)) (fun k => ?_) ?_
      · simp only [spec_l1Read.l0, l1Forms_eq, Option.bind_some]; rw [if_pos hlt, if_pos h0, w64 (x := rd l a) (by omega) (by omega)]; rfl
      by_cases hz : formN (rd l a) = 0
      · rw [if_pos hz] at key
        refine Ev.step (f := fun k => spec_l1Read.j2 k l acc a (rd l a) (formN (rd l a) : Int) 1) (fun k => ?_) (Ev.step (f := fun k => spec_l1Read.j3 k l acc a (rd l a) (formN (rd l a) : Int) 1 true) (fun k => ?_) (Ev.step (fun k => ?_) key))
        · simp only [spec_l1Read.l1]; rw [if_neg (by omega)]; rfl
        · simp only [spec_l1Read.j2]; rw [if_pos (by omega)]
        · simp only [spec_l1Read.j3, if_true]; rw [if_pos (by omega), w64 (by omega) (by omega)]; rfl
      · rw [if_neg hz] at key
        refine l1Read_l1 l acc hl hw a _ h0 hlt (rd l a) res (formN (rd l a) - 1) 1 (by omega) (by omega) (by omega) (mk (formN (rd l a) - 1) (l.drop (a + 1).toNat) (low1 (rd l a)) (high1 (rd l a))) rfl ?_
        generalize hm : mk (formN (rd l a) - 1) (l.drop (a + 1).toNat) (low1 (rd l a)) (high1 (rd l a)) = m at *
        by_cases hs : m < formN (rd l a) - 1
        · rw [if_pos hs] at key
          refine Ev.step (f := fun k => spec_l1Read.j3 k l acc a (rd l a) (formN (rd l a) : Int) ((1 + m : Nat) : Int) true) (fun k => ?_) (Ev.step (fun k => ?_) key)
          · simp only [spec_l1Read.j2]; rw [if_neg (by omega), decide_eq_true (by omega)]
          · simp only [spec_l1Read.j3, if_true]; rw [if_pos (by omega), w64 (by omega) (by omega), Nat.add_comm 1 m]
        · rw [if_neg hs] at key
          refine Ev.step (f := fun k => spec_l1Read.j3 k l acc a (rd l a) (formN (rd l a) : Int) ((1 + m : Nat) : Int) false) (fun k => ?_) (Ev.step (f := fun k => spec_l1Read.j4 k l acc a (formN (rd l a) : Int) (formX (rd l a))) (fun k => ?_) (Ev.step (f := fun k => spec_l1Read.l2 k l acc a (formN (rd l a) : Int) (formX (rd l a)) ((1 : Nat) : Int)) (fun k => ?_) ?_))
          · simp only [spec_l1Read.j2]; rw [if_neg (by omega), decide_eq_false (by omega)]
          · simp only [spec_l1Read.j3, Bool.false_eq_true, if_false]
            have : formN (rd l a) = 1 ∧ rd l a < 128 ∨ formN (rd l a) = 2 ∧ 194 ≤ rd l a ∧ rd l a ≤ 223 ∨ formN (rd l a) = 3 ∧ 224 ≤ rd l a ∧ rd l a ≤ 239 ∨ formN (rd l a) = 4 ∧ 240 ≤ rd l a ∧ rd l a ≤ 244 := by
              unfold formN at hz ⊢
              by_cases a1 : rd l a < 128
              · simp [a1]
              · by_cases a2 : 194 ≤ rd l a ∧ rd l a ≤ 223
                · simp [a1, a2]
                · by_cases a3 : 224 ≤ rd l a ∧ rd l a ≤ 239
                  · simp [a1, a2, a3]
                  · by_cases a4 : 240 ≤ rd l a ∧ rd l a ≤ 244
                    · simp [a1, a2, a3, a4]
                    · simp [a1, a2, a3, a4] at hz
            have hx : formN (rd l a) = 1 ∧ formX (rd l a) = rd l a ∨ formN (rd l a) = 2 ∧ formX (rd l a) = rd l a - 192 ∨ formN (rd l a) = 3 ∧ formX (rd l a) = rd l a - 224 ∨ formN (rd l a) = 4 ∧ formX (rd l a) = rd l a - 240 := by
              unfold formX
              rcases this with ⟨h, g⟩ | ⟨h, g, g'⟩ | ⟨h, g, g'⟩ | ⟨h, g, g'⟩
              · exact .inl ⟨h, by rw [if_pos g]⟩
              · exact .inr (.inl ⟨h, by rw [if_neg (by omega), if_pos (by omega)]⟩)
              · exact .inr (.inr (.inl ⟨h, by rw [if_neg (by omega), if_neg (by omega), if_pos (by omega)]⟩))
              · exact .inr (.inr (.inr ⟨h, by rw [if_neg (by omega), if_neg (by omega), if_neg (by omega)]⟩))
            rcases hx with ⟨h, g⟩ | ⟨h, g⟩ | ⟨h, g⟩ | ⟨h, g⟩
            · rw [h, g]; rfl
            · rw [h, g, w64 (x := rd l a - 192) (by omega) (by omega)]; rfl
            · rw [h, g, w64 (x := rd l a - 224) (by omega) (by omega)]; rfl
            · rw [h, g, w64 (x := rd l a - 240) (by omega) (by omega)]; rfl
          · simp only [spec_l1Read.j4]; rfl
          · have hX : -255 ≤ formX (rd l a) ∧ formX (rd l a) ≤ 255 := by
              unfold formX; split
              · omega
              · split
                · omega
                · split <;> omega
            have hL : 255 ≤ lim (formN (rd l a) - 1) := by
              unfold lim; split <;> omega
            exact l1Read_l2 l acc hl (by omega) hw a _ h0 (by omega) res (formN (rd l a) - 1) 1 (formX (rd l a)) (by omega) (by omega) (by omega) _ rfl (.inr trivial) (by omega) (by omega) key
    · refine Ev.step (f := fun _ => some acc) (fun k => ?_) (ev_some ?_)
      · simp only [spec_l1Read.l0]; rw [if_neg hlt]
      · rw [List.drop_of_length_le (by omega)]; simp [urAll, ur]
theorem l1Read_ev (l : List Int) (hl : l.length ≤ 1000000000) (hw : ∀ x ∈ l, (Lit.int .u8 x).wf = true) : Ev (fun k => spec_l1Read.f k l) (urAll l) := by
  unfold spec_l1Read.f
  simpa using l1Read_l0 l hl hw l.length 0 [] (by omega) (by omega) (by omega) (by simp)
theorem spec_UtfRead_ev (l : List Int) (hw : ∀ x ∈ l, (Lit.int .u8 x).wf = true) : Ev (fun k => spec_UtfRead.f k l) (utfRead l) := by
  unfold spec_UtfRead.f utfRead
  by_cases h : (l.length : Int) > 3000
  · simp only [if_pos h]; exact Ev.now _
  simp only [if_neg h]
  have hj : ∀ c : Bool, (c = true → 3 ≤ l.length) → Ev (fun k => spec_UtfRead.j0 k l c) (urAll (if c = true then l.drop 3 else l)) := by
    intro c hc
    refine ev_succ ?_
    simp only [spec_UtfRead.j0]
    cases c with
    | true => exact ev_pos rfl (ev_pos (by have := hc rfl; omega) (Ev.bind (l1Read_ev _ (by simp only [List.length_drop]; omega) (wf_drop hw 3)) (Ev.now _)))
    | false => exact ev_neg (by simp) (Ev.bind (l1Read_ev l (by omega) hw) (Ev.now _))
  by_cases h3 : l.length ≥ 3
  · obtain ⟨a, b, c, r, rfl⟩ : ∃ a b c r, l = a :: b :: c :: r := by
      match l, h3 with
      | a :: b :: c :: r, _ => exact ⟨a, b, c, r, rfl⟩
    have e0 : rd (a :: b :: c :: r) 0 = a := rfl
    have e1 : rd (a :: b :: c :: r) 1 = b := rfl
    have e2 : rd (a :: b :: c :: r) 2 = c := rfl
    refine ev_pos (by omega) (ev_pos (by simp only [List.length_cons]; omega) ?_)
    simp only [e0, e1, e2]
    have hu : unBom (a :: b :: c :: r) = if (decide (a = 239) && decide (b = 187) && decide (c = 191)) = true then (a :: b :: c :: r).drop 3 else a :: b :: c :: r := by
      unfold unBom
      have : (a :: b :: c :: r).take 3 = [a, b, c] := rfl
      rw [this]
      by_cases g : a = 239 ∧ b = 187 ∧ c = 191
      · obtain ⟨rfl, rfl, rfl⟩ := g; simp
      · rw [if_neg (by simpa using g), if_neg (by simpa [and_assoc] using g)]
    rw [hu]
    by_cases g1 : a = 239
    · refine ev_pos g1 (ev_pos (by simp only [List.length_cons]; omega) ?_)
      by_cases g2 : b = 187
      · refine ev_pos g2 (ev_pos (by simp only [List.length_cons]; omega) ?_)
        have := hj (c == 191) (fun _ => h3)
        rw [show (decide (a = 239) && decide (b = 187) && decide (c = 191)) = (c == 191) by simp [g1, g2]; rfl]
        exact this
      · refine ev_neg g2 ?_
        rw [show (decide (a = 239) && decide (b = 187) && decide (c = 191)) = false by simp [g2]]
        exact hj false (by simp)
    · refine ev_neg g1 ?_
      rw [show (decide (a = 239) && decide (b = 187) && decide (c = 191)) = false by simp [g1]]
      exact hj false (by simp)
  · refine ev_neg (by omega) ?_
    have : unBom l = l := by
      unfold unBom; rw [if_neg]
      intro g; have := congrArg List.length g; simp at this; omega
    rw [this]
    exact hj false (by simp)

end Go.Proofs.Ytplgbnalflpdhaa.Y

/- Plain lemmas over numbers and lists (strNums). Conditions: as each states. -/
namespace Go.Proofs.Ytplgbnalflpdhaa.Y
open Go.RowKit Go.Proofs.Ytplgbnalflpdhaa.X Go.Proofs.YtplgbnalflpdhaaW.PrintWords Go.Proofs.YtplgbnalflpdhaaW.PrintLast Go.Proofs.YtplgbnalflpdhaaW.PrintMore Go.Proofs.Ytplgbnalflpdhaa.Y
set_option linter.unusedVariables false
set_option linter.unusedSimpArgs false
theorem byte_inj {a b : Int} (ha : 0 ≤ a ∧ a ≤ 255) (hb : 0 ≤ b ∧ b ≤ 255) (h : UInt8.ofNat a.toNat = UInt8.ofNat b.toNat) : a = b := by
  have := congrArg UInt8.toNat h
  simp only [UInt8.toNat_ofNat'] at this
  omega
theorem bytes_inj : ∀ (l m : List Int), (∀ x ∈ l, (Lit.int .u8 x).wf = true) → (∀ x ∈ m, (Lit.int .u8 x).wf = true) → Lib.bytesOf l = Lib.bytesOf m → l = m
  | [], [], _, _, _ => rfl
  | [], b :: m, _, _, h => by simp [Lib.bytesOf] at h
  | a :: l, [], _, _, h => by simp [Lib.bytesOf] at h
  | a :: l, b :: m, hl, hm, h => by
    simp only [Lib.bytesOf, List.map_cons, List.cons.injEq] at h
    have e1 := byte_inj (wf8 (hl a (by simp))) (wf8 (hm b (by simp))) h.1
    have e2 := bytes_inj l m (fun x hx => hl x (by simp [hx])) (fun x hx => hm x (by simp [hx])) h.2
    rw [e1, e2]
theorem nums_eq (l m : List Int) (hl : ∀ x ∈ l, (Lit.int .u8 x).wf = true) (hm : ∀ x ∈ m, (Lit.int .u8 x).wf = true) : ((strOfNums l).toList == (strOfNums m).toList) = decide (l = m) := by
  rw [Lib.strOfNums_toList, Lib.strOfNums_toList]
  by_cases h : l = m
  · subst h; simp
  · have : Lib.bytesOf l ≠ Lib.bytesOf m := fun e => h (bytes_inj l m hl hm e)
    simp [h, this]

end Go.Proofs.Ytplgbnalflpdhaa.Y

/- Plain lemmas over numbers and lists (utfReadI). Conditions: as each states. -/
namespace Go.Proofs.Ytplgbnalflpdhaa.Y
open Go.RowKit Go.Proofs.Ytplgbnalflpdhaa.X Go.Proofs.YtplgbnalflpdhaaW.PrintWords Go.Proofs.YtplgbnalflpdhaaW.PrintLast Go.Proofs.YtplgbnalflpdhaaW.PrintMore Go.Proofs.Ytplgbnalflpdhaa.Y
set_option linter.unusedVariables false
set_option linter.unusedSimpArgs false
theorem and31 {x : Int} (h0 : 0 ≤ x) (h1 : x ≤ 255) : Go.bits .and .u8 x 31 = x % 32 := bits_mask .u8 8 (by decide) wraps_u8 5 (by decide) x h0 (by omega)
theorem and15 {x : Int} (h0 : 0 ≤ x) (h1 : x ≤ 255) : Go.bits .and .u8 x 15 = x % 16 := bits_mask .u8 8 (by decide) wraps_u8 4 (by decide) x h0 (by omega)
theorem and7 {x : Int} (h0 : 0 ≤ x) (h1 : x ≤ 255) : Go.bits .and .u8 x 7 = x % 8 := bits_mask .u8 8 (by decide) wraps_u8 3 (by decide) x h0 (by omega)
theorem and63b {x : Int} (h0 : 0 ≤ x) (h1 : x ≤ 255) : Go.bits .and .u8 x 63 = x % 64 := bits_mask .u8 8 (by decide) wraps_u8 6 (by decide) x h0 (by omega)
theorem formOf_ev (b : Int) (h0 : 0 ≤ b) (h1 : b ≤ 255) : Ev (fun k => impl_formOf.f k b) ((formN b : Int), if formN b = 0 then 0 else formX b) := by
  unfold impl_formOf.f
  by_cases a : b < 128
  · refine ev_pos a (ev_some ?_)
    have e : formN b = 1 := by unfold formN; rw [if_pos a]
    rw [e]; unfold formX; rw [if_pos a, w64 (by omega) (by omega)]; rfl
  refine ev_neg a ?_
  have step : Ev (fun k => impl_formOf.j0 k b (decide (194 ≤ b ∧ b ≤ 223))) ((formN b : Int), if formN b = 0 then 0 else formX b) := by
    refine ev_succ ?_
    simp only [impl_formOf.j0, decide_eq_true_eq]
    by_cases c : 194 ≤ b ∧ b ≤ 223
    · refine ev_pos c (ev_some ?_)
      have e : formN b = 2 := by unfold formN; rw [if_neg a, if_pos c]
      rw [e, and31 h0 h1, w64 (by omega) (by omega)]; rw [if_neg (by omega)]; unfold formX; rw [if_neg a, if_pos (by omega), show b % 32 = b - 192 by omega]; rfl
    refine ev_neg c ?_
    have step : Ev (fun k => impl_formOf.j1 k b (decide (224 ≤ b ∧ b ≤ 239))) ((formN b : Int), if formN b = 0 then 0 else formX b) := by
      refine ev_succ ?_
      simp only [impl_formOf.j1, decide_eq_true_eq]
      by_cases d : 224 ≤ b ∧ b ≤ 239
      · refine ev_pos d (ev_some ?_)
        have e : formN b = 3 := by unfold formN; rw [if_neg a, if_neg c, if_pos d]
        rw [e, and15 h0 h1, w64 (by omega) (by omega)]; rw [if_neg (by omega)]; unfold formX; rw [if_neg a, if_neg (by omega), if_pos (by omega), show b % 16 = b - 224 by omega]; rfl
      refine ev_neg d ?_
      by_cases e : 240 ≤ b ∧ b ≤ 244
      · refine ev_pos e.1 (ev_pos e.2 (ev_some ?_))
        have e4 : formN b = 4 := by unfold formN; rw [if_neg a, if_neg c, if_neg d, if_pos e]
        rw [e4, and7 h0 h1, w64 (by omega) (by omega)]; rw [if_neg (by omega)]; unfold formX; rw [if_neg a, if_neg (by omega), if_neg (by omega), show b % 8 = b - 240 by omega]; rfl
      · have e0 : formN b = 0 := by unfold formN; rw [if_neg a, if_neg c, if_neg d, if_neg e]
        rw [e0]
        by_cases g : b ≥ 240
        · exact ev_pos g (ev_neg (by omega) (ev_some (by simp)))
        · exact ev_neg g (ev_some (by simp))
    by_cases g : b ≥ 224
    · refine ev_pos g ?_
      rwa [show decide (224 ≤ b ∧ b ≤ 239) = decide (b ≤ 239) by simp; omega] at step
    · refine ev_neg g ?_
      rwa [show decide (224 ≤ b ∧ b ≤ 239) = false by simp; omega] at step
  by_cases g : b ≥ 194
  · refine ev_pos g ?_
    rwa [show decide (194 ≤ b ∧ b ≤ 223) = decide (b ≤ 223) by simp; omega] at step
  · refine ev_neg g ?_
    rwa [show decide (194 ≤ b ∧ b ≤ 223) = false by simp; omega] at step
theorem boundsOf_eq (b : Int) : impl_boundsOf.f b = some (low1 b, high1 b) := by
  unfold impl_boundsOf.f low1 high1
  by_cases h1 : b = 224
  · subst h1; simp
  · by_cases h2 : b = 237
    · subst h2; simp
    · by_cases h3 : b = 240
      · subst h3; simp
      · by_cases h4 : b = 244
        · subst h4; simp
        · simp [h1, h2, h3, h4]
theorem or6 {x y : Int} (h0 : 0 ≤ x) (h1 : x ≤ 4294967296) (h2 : 0 ≤ y) (h3 : y < 64) : Go.bits .or .i64 (x * 64) y = x * 64 + y :=
  bits_join .i64 63 (by decide) wraps_i64 6 (x * 64) y (by omega) (by omega) (by omega) h2 h3 (by omega)
theorem readPoint_l0 (l : List Int) (hl : l.length ≤ 1000000000) (hw : ∀ x ∈ l, (Lit.int .u8 x).wf = true) (n : Nat) (hn : n ≤ 4) : ∀ (d i : Nat) (x lo hi : Int), 1 ≤ i → i + d = n → 0 ≤ x → x ≤ lim d → 128 ≤ lo → hi ≤ 191 →
    Ev (fun k => impl_readPoint.l0 k l n x lo hi i) (if mk d (l.drop i) lo hi < d then (65533, ((mk d (l.drop i) lo hi + i : Nat) : Int)) else (vl d (l.drop i) x, (n : Int))) := by
  intro d
  induction d with
  | zero =>
    intro i x lo hi h1 hd h0 hx hlo hhi
    refine Ev.step (f := fun _ => some (x, (n : Int))) (fun k => ?_) (ev_some ?_)
    · simp only [impl_readPoint.l0]; rw [if_neg (by omega)]
    · rw [if_neg (by omega)]; rfl
  | succ d ih =>
    intro i x lo hi h1 hd h0 hx hlo hhi
    by_cases hlt : (i : Int) < l.length
    · have hb := rd_bytes hw i
      have hc := drop_cons (l := l) (i := (i : Int)) (by omega) hlt
      rw [show ((i : Int)).toNat = i by omega, show ((i : Int) + 1).toNat = i + 1 by omega] at hc
      rw [hc]
      by_cases hf : lo ≤ rd l i ∧ rd l i ≤ hi
      · have hL : lim (d + 1) ≤ 4294967296 ∧ 64 * lim (d + 1) + 255 ≤ lim d := by
          have : d = 0 ∨ d = 1 ∨ d = 2 := by omega
          rcases this with rfl | rfl | rfl <;> simp [lim]
        have := ih (i + 1) (64 * x + rd l i - 128) 128 191 (by omega) (by omega) (by omega) (by omega) (by omega) (by omega)
        refine Ev.step (f := fun k => impl_readPoint.l0 k l n (64 * x + rd l i - 128) 128 191 ((i + 1 : Nat) : Int)) (fun k => ?_) ?_
        · simp only [impl_readPoint.l0]
          rw [if_pos (by omega), if_neg (by omega), if_pos (by omega), if_pos hlt, if_neg (by omega), if_neg (by omega), and63b (by omega) (by omega), w64 (x := rd l i % 64) (by omega) (by omega), w64 (x := x * 64) (by omega) (by omega), or6 h0 (by omega) (by omega) (by omega), w64 (x := (i : Int) + 1) (by omega) (by omega), show x * 64 + rd l i % 64 = 64 * x + rd l i - 128 by omega]; rfl
        · simp only [mk, vl, if_pos hf]
          by_cases hm : mk d (l.drop (i + 1)) 128 191 < d
          · rw [if_pos hm] at this; rw [if_pos (by omega)]
            rwa [show mk d (l.drop (i + 1)) 128 191 + 1 + i = mk d (l.drop (i + 1)) 128 191 + (i + 1) by omega]
          · rw [if_neg hm] at this; rw [if_neg (by omega)]; exact this
      · simp only [mk, if_neg hf]
        refine Ev.step (f := fun _ => some (65533, (i : Int))) (fun k => ?_) (ev_some ?_)
        · simp only [impl_readPoint.l0]
          rw [if_pos (by omega), if_neg (by omega), if_pos (by omega), if_pos hlt]
          by_cases g : rd l i < lo
          · rw [if_pos g]
          · rw [if_neg g, if_pos (by omega)]
        · rw [if_pos (by omega)]; simp
    · rw [List.drop_of_length_le (by omega)]
      rw [show mk (d + 1) [] lo hi = 0 from rfl]
      refine Ev.step (f := fun _ => some (65533, (i : Int))) (fun k => ?_) (ev_some ?_)
      · simp only [impl_readPoint.l0]
        rw [if_pos (by omega), if_pos (by omega)]
      · rw [if_pos (by omega)]; simp
theorem readPoint_ev (b : Int) (r : List Int) (hl : (b :: r).length ≤ 1000000000) (hw : ∀ x ∈ b :: r, (Lit.int .u8 x).wf = true) : Ev (fun k => impl_readPoint.f k (b :: r)) ((readPt (b :: r)).1, ((readPt (b :: r)).2 : Int)) := by
  have hb := wf8 (hw b (by simp))
  have e0 : rd (b :: r) 0 = b := rfl
  unfold impl_readPoint.f
  refine ev_pos (by simp only [List.length_cons]; omega) ?_
  simp only [e0, boundsOf_eq, Option.bind_some]
  refine Ev.bind (formOf_ev b hb.1 hb.2) ?_
  simp only [readPt]
  by_cases hz : formN b = 0
  · simp only [if_pos hz]; exact ev_pos (show (formN b : Int) = 0 by omega) (ev_some rfl)
  · refine ev_neg (show ¬ (formN b : Int) = 0 by omega) ?_
    simp only [if_neg hz]
    have hX : 0 ≤ formX b ∧ formX b ≤ 255 := by
      unfold formN at hz; unfold formX
      by_cases a1 : b < 128
      · rw [if_pos a1]; omega
      · by_cases a2 : b ≤ 223
        · rw [if_neg a1, if_pos a2]; rw [if_neg a1] at hz
          by_cases a3 : 194 ≤ b ∧ b ≤ 223
          · omega
          · rw [if_neg a3, if_neg (by omega), if_neg (by omega)] at hz; simp at hz
        · by_cases a3 : b ≤ 239
          · rw [if_neg a1, if_neg a2, if_pos a3]; omega
          · rw [if_neg a1, if_neg a2, if_neg a3]; omega
    have hL : 255 ≤ lim (formN b - 1) := by
      unfold lim; split <;> omega
    have hlo : 128 ≤ low1 b ∧ high1 b ≤ 191 := by
      unfold low1 high1
      constructor
      · split
        · omega
        · split <;> omega
      · split
        · omega
        · split <;> omega
    have := readPoint_l0 (b :: r) hl hw (formN b) (formN_le b) (formN b - 1) 1 (formX b) (low1 b) (high1 b) (by omega) (by omega) hX.1 (by omega) hlo.1 hlo.2
    refine Ev.congr (fun k => ?_) (ev_cast this ?_)
    · rfl
    · simp only [List.drop_succ_cons, List.drop_zero]
      split <;> rfl

end Go.Proofs.Ytplgbnalflpdhaa.Y

/- Plain lemmas over numbers and lists (utfReadI2). Conditions: as each states. -/
namespace Go.Proofs.Ytplgbnalflpdhaa.Y
open Go.RowKit Go.Proofs.Ytplgbnalflpdhaa.X Go.Proofs.YtplgbnalflpdhaaW.PrintWords Go.Proofs.YtplgbnalflpdhaaW.PrintLast Go.Proofs.YtplgbnalflpdhaaW.PrintMore Go.Proofs.Ytplgbnalflpdhaa.Y
set_option linter.unusedVariables false
set_option linter.unusedSimpArgs false
theorem trim_eq (l : List Int) (hw : ∀ x ∈ l, (Lit.int .u8 x).wf = true) : bytes_TrimPrefix.f l [239, 187, 191] = some (unBom l) := by
  have hp : bytes_HasPrefix.f l [239, 187, 191] = some (decide (l.take 3 = [239, 187, 191])) := by
    unfold bytes_HasPrefix.f bytes_Equal.f
    by_cases h : l.length ≥ 3
    · rw [if_pos (by simp only [List.length_cons, List.length_nil]; omega)]
      show some (_ == _) = _
      rw [nums_eq _ _ (fun x hx => hw x (List.mem_of_mem_take hx)) (by decide)]
      rfl
    · rw [if_neg (by simp only [List.length_cons, List.length_nil]; omega)]
      have : ¬ l.take 3 = [239, 187, 191] := by
        intro g; have := congrArg List.length g; simp at this; omega
      rw [decide_eq_false this]
  unfold bytes_TrimPrefix.f unBom
  rw [hp, Option.bind_some]
  by_cases h : l.take 3 = [239, 187, 191]
  · have h3 : 3 ≤ l.length := by have := congrArg List.length h; simp at this; omega
    rw [decide_eq_true h, if_pos rfl, if_pos h, if_pos (by simp), if_pos (by simp only [List.length_cons, List.length_nil]; omega)]
    rfl
  · rw [decide_eq_false h, if_neg (by simp), if_neg h]
theorem impl_UtfRead_l0 : ∀ (d : Nat) (l acc : List Int), l.length ≤ d → d ≤ 100000 → (∀ x ∈ l, (Lit.int .u8 x).wf = true) → acc.length + l.length ≤ 100000 →
    Ev (fun k => impl_UtfRead.l0 k l acc) (acc ++ urAll l) := by
  intro d
  induction d with
  | zero =>
    intro l acc h _ hw ha
    have : l = [] := List.length_eq_zero_iff.1 (by omega)
    subst this
    refine Ev.step (f := fun _ => some acc) (fun k => ?_) (ev_some (by simp [urAll, ur]))
    simp [impl_UtfRead.l0]
  | succ d ih =>
    intro l acc h hd hw ha
    cases l with
    | nil =>
      refine Ev.step (f := fun _ => some acc) (fun k => ?_) (ev_some (by simp [urAll, ur]))
      simp [impl_UtfRead.l0]
    | cons b r =>
      have hn := readPt_n b r
      refine Ev.step (f := fun k => (impl_readPoint.f k (b :: r)).bind fun bt => if acc.length < 17592186044416 then (if 0 ≤ bt.2 then (if bt.2 ≤ ((b :: r).length : Int) then impl_UtfRead.l0 k ((b :: r).drop (bt.2 : Int).toNat) (acc ++ [bt.1]) else none) else none) else none) (fun k => ?_) (Ev.bind (readPoint_ev b r (by omega) hw) ?_)
      · simp only [impl_UtfRead.l0]; rw [if_pos (by simp only [List.length_cons]; omega)]
      · refine ev_pos (by omega) (ev_pos (by simp only; omega) (ev_pos (by simp only; omega) ?_))
        have := ih ((b :: r).drop (readPt (b :: r)).2) (acc ++ [(readPt (b :: r)).1]) (by simp only [List.length_drop, List.length_cons] at *; omega) (by omega) (wf_drop hw _) (by simp only [List.length_append, List.length_drop, List.length_cons, List.length_nil] at *; omega)
        rw [urAll_cons]
        simpa using this
theorem wf_unBom {l : List Int} (hw : ∀ x ∈ l, (Lit.int .u8 x).wf = true) : ∀ x ∈ unBom l, (Lit.int .u8 x).wf = true := by
  unfold unBom; split
  · exact wf_drop hw 3
  · exact hw
theorem impl_UtfRead_ev (l : List Int) (hw : ∀ x ∈ l, (Lit.int .u8 x).wf = true) : Ev (fun k => impl_UtfRead.f k l) (utfRead l) := by
  unfold impl_UtfRead.f utfRead
  by_cases h : (l.length : Int) > 3000
  · simp only [if_pos h]; exact Ev.now _
  simp only [if_neg h, trim_eq l hw, Option.bind_some]
  have hu := unBom_len l
  simpa using impl_UtfRead_l0 (unBom l).length (unBom l) [] (Nat.le_refl _) (by omega) (wf_unBom hw) (by simp; omega)

end Go.Proofs.Ytplgbnalflpdhaa.Y

/- Plain lemmas over numbers and lists (inrI). Conditions: as each states. -/
namespace Go.Proofs.Ytplgbnalflpdhaa.Y
open Go.RowKit Go.Proofs.Ytplgbnalflpdhaa.X Go.Proofs.YtplgbnalflpdhaaW.PrintWords Go.Proofs.YtplgbnalflpdhaaW.PrintLast Go.Proofs.YtplgbnalflpdhaaW.PrintMore Go.Proofs.Ytplgbnalflpdhaa.Y
set_option linter.unusedVariables false
set_option linter.unusedSimpArgs false
theorem impl_inRange_eq (x a b : Int) : impl_inRange.f x a b = some (decide (a ≤ x ∧ x ≤ b)) := by
  unfold impl_inRange.f
  by_cases h : x ≥ a
  · rw [if_pos h]; congr 1; simp; omega
  · rw [if_neg h]; congr 1; simp; omega

end Go.Proofs.Ytplgbnalflpdhaa.Y

/- Plain lemmas over numbers and lists (pokI). Conditions: as each states. -/
namespace Go.Proofs.Ytplgbnalflpdhaa.Y
open Go.RowKit Go.Proofs.Ytplgbnalflpdhaa.X Go.Proofs.YtplgbnalflpdhaaW.PrintWords Go.Proofs.YtplgbnalflpdhaaW.PrintLast Go.Proofs.YtplgbnalflpdhaaW.PrintMore Go.Proofs.Ytplgbnalflpdhaa.Y
set_option linter.unusedVariables false
set_option linter.unusedSimpArgs false
theorem impl_PointOk_eq (x : Int) : impl_PointOk.f x = some (pointOk x) := by
  unfold impl_PointOk.f pointOk
  simp only [impl_inRange_eq, Option.bind_some]
  by_cases h : 0 ≤ x ∧ x ≤ 1114111 <;> simp [h]

end Go.Proofs.Ytplgbnalflpdhaa.Y

/- Plain lemmas over numbers and lists (putI). Conditions: as each states. -/
namespace Go.Proofs.Ytplgbnalflpdhaa.Y
open Go.RowKit Go.Proofs.Ytplgbnalflpdhaa.X Go.Proofs.YtplgbnalflpdhaaW.PrintWords Go.Proofs.YtplgbnalflpdhaaW.PrintLast Go.Proofs.YtplgbnalflpdhaaW.PrintMore Go.Proofs.Ytplgbnalflpdhaa.Y
set_option linter.unusedVariables false
set_option linter.unusedSimpArgs false
theorem impl_putPoint_good (k : Nat) (l : List Int) (x : Int) (hl : l.length + 4 < 140737488355328) (hp : pointOk x = true) : impl_putPoint.f (k + 1) l x = some (l ++ utf8 x) := by
  obtain ⟨h0, h1⟩ := ((pointOk_iff x).1 hp).1
  simp only [impl_putPoint.f, impl_PointOk_eq, Option.bind_some, hp, if_true]
  unfold utf8
  by_cases a : x < 128
  · simp only [if_pos a]; rw [if_pos (by omega), Int.emod_eq_of_lt h0 (by omega)]
  · by_cases b : x < 2048
    · simp only [if_neg a, if_pos b, List.length_cons, List.length_nil]
      rw [if_pos (by omega), and63 h0 (by omega), or192 (by omega) (by omega), or128 (by omega) (by omega), m256 (y := 192 + x / 64) (by omega) (by omega), m256 (y := 128 + x % 64) (by omega) (by omega)]
    · by_cases c : x < 65536
      · simp only [if_neg a, if_neg b, if_pos c, List.length_cons, List.length_nil]
        rw [if_pos (by omega), and63 (x := x / 64) (by omega) (by omega), and63 h0 (by omega), or224 (by omega) (by omega), or128 (by omega) (by omega), or128 (by omega) (by omega), m256 (y := 224 + x / 4096) (by omega) (by omega), m256 (y := 128 + x / 64 % 64) (by omega) (by omega), m256 (y := 128 + x % 64) (by omega) (by omega)]
      · simp only [if_neg a, if_neg b, if_neg c, List.length_cons, List.length_nil]
        rw [if_pos (by omega), and63 (x := x / 64) (by omega) (by omega), and63 (x := x / 4096) (by omega) (by omega), and63 h0 (by omega), or240 (by omega) (by omega), or128 (by omega) (by omega), or128 (by omega) (by omega), or128 (by omega) (by omega), m256 (y := 240 + x / 262144) (by omega) (by omega), m256 (y := 128 + x / 4096 % 64) (by omega) (by omega), m256 (y := 128 + x / 64 % 64) (by omega) (by omega), m256 (y := 128 + x % 64) (by omega) (by omega)]
theorem impl_putPoint_eq (k : Nat) (l : List Int) (x : Int) (hl : l.length + 4 < 140737488355328) : impl_putPoint.f (k + 2) l x = some (l ++ pointPut x) := by
  unfold pointPut point
  by_cases hp : pointOk x = true
  · rw [if_pos hp]; exact impl_putPoint_good (k + 1) l x hl hp
  · rw [if_neg hp]
    have : pointOk x = false := by simpa using hp
    simp only [impl_putPoint.f, impl_PointOk_eq, Option.bind_some, this, Bool.false_eq_true, if_false]
    have h := impl_putPoint_good k l 65533 hl (by decide)
    simp only [impl_putPoint.f, impl_PointOk_eq, Option.bind_some] at h
    rw [h]; rfl
theorem impl_putPoint_ev (l : List Int) (x : Int) (hl : l.length + 4 < 140737488355328) : Ev (fun k => impl_putPoint.f k l x) (l ++ pointPut x) :=
  ⟨2, fun k hk => by
    obtain ⟨m, rfl⟩ : ∃ m, k = m + 2 := ⟨k - 2, by omega⟩
    exact impl_putPoint_eq m l x hl⟩
theorem impl_PointPut_ev (x : Int) : Ev (fun k => impl_PointPut.f k x) (pointPut x) := by
  unfold impl_PointPut.f
  exact Ev.bind (impl_putPoint_ev [] x (by simp)) (Ev.now _)

end Go.Proofs.Ytplgbnalflpdhaa.Y

/- Plain lemmas over numbers and lists (pointsPutI). Conditions: as each states. -/
namespace Go.Proofs.Ytplgbnalflpdhaa.Y
open Go.RowKit Go.Proofs.Ytplgbnalflpdhaa.X Go.Proofs.YtplgbnalflpdhaaW.PrintWords Go.Proofs.YtplgbnalflpdhaaW.PrintLast Go.Proofs.YtplgbnalflpdhaaW.PrintMore Go.Proofs.Ytplgbnalflpdhaa.Y
set_option linter.unusedVariables false
set_option linter.unusedSimpArgs false
theorem impl_PointsPut_l (l : List Int) (hl : l.length ≤ 3000) : ∀ (d : Nat) (i : Int) (acc : List Int), 0 ≤ i → i + d = l.length → acc.length + 4 * d ≤ 100000 →
    Ev (fun k => impl_PointsPut.l0 k acc l (l.length : Int) i) (acc ++ putAll (l.drop i.toNat)) := by
  intro d
  induction d with
  | zero =>
    intro i acc h0 h ha
    refine Ev.step (f := fun _ => some acc) (fun k => ?_) (ev_some ?_)
    · simp only [impl_PointsPut.l0]; rw [if_neg (by omega)]
    · rw [List.drop_of_length_le (by omega)]; simp [putAll]
  | succ d ih =>
    intro i acc h0 h ha
    have hp := pointPut_len (rd l i)
    refine Ev.step (f := fun k => (impl_putPoint.f k acc (rd l i)).bind fun t => impl_PointsPut.l0 k t l (l.length : Int) (i + 1)) (fun k => ?_) (Ev.bind (impl_putPoint_ev acc (rd l i) (by omega)) ?_)
    · simp only [impl_PointsPut.l0]; rw [if_pos (by omega), if_pos h0, if_pos (by omega), w64 (by omega) (by omega)]
    · have := ih (i + 1) (acc ++ pointPut (rd l i)) (by omega) (by omega) (by simp; omega)
      rw [drop_cons h0 (by omega)]
      simpa [putAll] using this
def pointsPut (l : List Int) : List Int := if (l.length : Int) > 3000 then [] else putAll l
theorem impl_PointsPut_ev (l : List Int) : Ev (fun k => impl_PointsPut.f k l) (pointsPut l) := by
  unfold impl_PointsPut.f pointsPut
  by_cases h : (l.length : Int) > 3000
  · simp only [if_pos h]; exact Ev.now _
  · simp only [if_neg h]
    simpa using impl_PointsPut_l l (by omega) l.length 0 [] (by omega) (by omega) (by simp; omega)

end Go.Proofs.Ytplgbnalflpdhaa.Y

/- Plain lemmas over numbers and lists (pokS). Conditions: as each states. -/
namespace Go.Proofs.Ytplgbnalflpdhaa.Y
open Go.RowKit Go.Proofs.Ytplgbnalflpdhaa.X Go.Proofs.YtplgbnalflpdhaaW.PrintWords Go.Proofs.YtplgbnalflpdhaaW.PrintLast Go.Proofs.YtplgbnalflpdhaaW.PrintMore Go.Proofs.Ytplgbnalflpdhaa.Y
set_option linter.unusedVariables false
set_option linter.unusedSimpArgs false
theorem spec_PointOk_eq (x : Int) : spec_PointOk.f x = some (pointOk x) := by
  unfold spec_PointOk.f pointOk
  simp only [spec_l1In_eq, Option.bind_some]
  by_cases h : 0 ≤ x ∧ x ≤ 1114111 <;> simp [h]

end Go.Proofs.Ytplgbnalflpdhaa.Y

/- Plain lemmas over numbers and lists (putS). Conditions: as each states. -/
namespace Go.Proofs.Ytplgbnalflpdhaa.Y
open Go.RowKit Go.Proofs.Ytplgbnalflpdhaa.X Go.Proofs.YtplgbnalflpdhaaW.PrintWords Go.Proofs.YtplgbnalflpdhaaW.PrintLast Go.Proofs.YtplgbnalflpdhaaW.PrintMore Go.Proofs.Ytplgbnalflpdhaa.Y
set_option linter.unusedVariables false
set_option linter.unusedSimpArgs false
theorem spec_l1Point_eq (x : Int) : spec_l1Point.f x = some (point x) := by
  unfold spec_l1Point.f point
  simp only [spec_PointOk_eq, Option.bind_some]
  split <;> rfl
theorem spec_PointPut_eq (x : Int) : spec_PointPut.f x = some (pointPut x) := by
  unfold spec_PointPut.f pointPut utf8
  simp only [spec_l1Point_eq, Option.bind_some]
  obtain ⟨h0, h1⟩ := point_range x
  generalize point x = p at *
  by_cases a : p < 128
  · simp only [if_pos a]; congr 2; omega
  · by_cases b : p < 2048
    · simp only [if_neg a, if_pos b, Int.tdiv_eq_ediv_of_nonneg h0, Int.tmod_eq_emod_of_nonneg h0]
      rw [w64 (x := p / 64) (by omega) (by omega), w64 (by omega) (by omega), w64 (by omega) (by omega), m256 (y := 192 + p / 64) (by omega) (by omega), m256 (y := 128 + p % 64) (by omega) (by omega)]
    · by_cases c : p < 65536
      · simp only [if_neg a, if_neg b, if_pos c, Int.tdiv_eq_ediv_of_nonneg h0, Int.tmod_eq_emod_of_nonneg h0]
        rw [w64 (x := p / 64) (by omega) (by omega), w64 (x := p / 4096) (by omega) (by omega), Int.tmod_eq_emod_of_nonneg (by omega), w64 (by omega) (by omega), w64 (by omega) (by omega), w64 (by omega) (by omega), m256 (y := 224 + p / 4096) (by omega) (by omega), m256 (y := 128 + p / 64 % 64) (by omega) (by omega), m256 (y := 128 + p % 64) (by omega) (by omega)]
      · simp only [if_neg a, if_neg b, if_neg c, Int.tdiv_eq_ediv_of_nonneg h0, Int.tmod_eq_emod_of_nonneg h0]
        rw [w64 (x := p / 64) (by omega) (by omega), w64 (x := p / 4096) (by omega) (by omega), w64 (x := p / 262144) (by omega) (by omega), Int.tmod_eq_emod_of_nonneg (by omega), Int.tmod_eq_emod_of_nonneg (by omega), w64 (by omega) (by omega), w64 (by omega) (by omega), w64 (by omega) (by omega), w64 (by omega) (by omega), m256 (y := 240 + p / 262144) (by omega) (by omega), m256 (y := 128 + p / 4096 % 64) (by omega) (by omega), m256 (y := 128 + p / 64 % 64) (by omega) (by omega), m256 (y := 128 + p % 64) (by omega) (by omega)]

end Go.Proofs.Ytplgbnalflpdhaa.Y

/- Plain lemmas over numbers and lists (pointsPutS). Conditions: as each states. -/
namespace Go.Proofs.Ytplgbnalflpdhaa.Y
open Go.RowKit Go.Proofs.Ytplgbnalflpdhaa.X Go.Proofs.YtplgbnalflpdhaaW.PrintWords Go.Proofs.YtplgbnalflpdhaaW.PrintLast Go.Proofs.YtplgbnalflpdhaaW.PrintMore Go.Proofs.Ytplgbnalflpdhaa.Y
set_option linter.unusedVariables false
set_option linter.unusedSimpArgs false
theorem spec_l1Put_l (l : List Int) (hl : l.length ≤ 1000000) : ∀ (d : Nat) (i : Int) (acc : List Int), 0 ≤ i → i + d = l.length → acc.length + 4 * d ≤ 100000000 →
    Ev (fun k => spec_l1Put.l0 k l acc i) (acc ++ putAll (l.drop i.toNat)) := by
  intro d
  induction d with
  | zero =>
    intro i acc h0 h ha
    refine Ev.step (f := fun _ => some acc) (fun k => ?_) (ev_some ?_)
    · simp only [spec_l1Put.l0]; rw [if_neg (by omega)]
    · rw [List.drop_of_length_le (by omega)]; simp [putAll]
  | succ d ih =>
    intro i acc h0 h ha
    have hp := pointPut_len (rd l i)
    refine Ev.step (f := fun k => spec_l1Put.l0 k l (acc ++ pointPut (rd l i)) (i + 1)) (fun k => ?_) ?_
    · simp only [spec_l1Put.l0, spec_PointPut_eq, Option.bind_some]; rw [if_pos (by omega), if_pos h0, if_pos (by omega), w64 (by omega) (by omega)]
    · have := ih (i + 1) (acc ++ pointPut (rd l i)) (by omega) (by omega) (by simp; omega)
      rw [drop_cons h0 (by omega)]
      simpa [putAll] using this
theorem spec_l1Put_ev (l : List Int) (hl : l.length ≤ 1000000) : Ev (fun k => spec_l1Put.f k l) (putAll l) := by
  unfold spec_l1Put.f
  simpa using spec_l1Put_l l hl l.length 0 [] (by omega) (by omega) (by simp; omega)
theorem spec_PointsPut_ev (l : List Int) : Ev (fun k => spec_PointsPut.f k l) (if (l.length : Int) > 3000 then [] else putAll l) := by
  unfold spec_PointsPut.f
  by_cases h : (l.length : Int) > 3000
  · simp only [if_pos h]; exact Ev.now _
  · simp only [if_neg h]
    exact Ev.bind (spec_l1Put_ev l (by omega)) (Ev.now _)

end Go.Proofs.Ytplgbnalflpdhaa.Y

/- Plain lemmas over numbers and lists (utfOk). Conditions: as each states. -/
namespace Go.Proofs.Ytplgbnalflpdhaa.Y
open Go.RowKit Go.Proofs.Ytplgbnalflpdhaa.X Go.Proofs.YtplgbnalflpdhaaW.PrintWords Go.Proofs.YtplgbnalflpdhaaW.PrintLast Go.Proofs.YtplgbnalflpdhaaW.PrintMore Go.Proofs.Ytplgbnalflpdhaa.Y
set_option linter.unusedVariables false
set_option linter.unusedSimpArgs false
theorem wf_of8 {x : Int} (h : 0 ≤ x ∧ x ≤ 255) : (Lit.int .u8 x).wf = true := by
  simp only [Lit.wf, Bool.and_eq_true, decide_eq_true_eq]; exact h
theorem putAll_wf (l : List Int) : ∀ x ∈ putAll l, (Lit.int .u8 x).wf = true := by
  intro x hx
  simp only [putAll, List.mem_flatMap] at hx
  obtain ⟨a, _, hx⟩ := hx
  exact wf_of8 (utf8_bytes (point_range a).1 (point_range a).2 x hx)
theorem pointsPut_wf (l : List Int) : ∀ x ∈ pointsPut l, (Lit.int .u8 x).wf = true := by
  unfold pointsPut; split
  · simp
  · exact putAll_wf l
def utfOk (l : List Int) : Bool := decide (l.length ≤ 3000) && decide (pointsPut (utfRead l) = l)
theorem spec_UtfOk_ev (l : List Int) (hw : ∀ x ∈ l, (Lit.int .u8 x).wf = true) : Ev (fun k => spec_UtfOk.f k l) (utfOk l) := by
  unfold spec_UtfOk.f utfOk
  by_cases h : (l.length : Int) ≤ 3000
  · refine ev_pos h (Ev.bind (spec_UtfRead_ev l hw) (Ev.bind (spec_PointsPut_ev _) (ev_some ?_)))
    show (_ == _) = _
    have e : (if ((utfRead l).length : Int) > 3000 then [] else putAll (utfRead l)) = pointsPut (utfRead l) := rfl
    rw [e, nums_eq _ _ (pointsPut_wf _) hw, decide_eq_true (show l.length ≤ 3000 by omega), Bool.true_and]
  · exact ev_neg h (ev_some (by rw [decide_eq_false (show ¬ l.length ≤ 3000 by omega), Bool.false_and]))
theorem impl_UtfOk_ev (l : List Int) (hw : ∀ x ∈ l, (Lit.int .u8 x).wf = true) : Ev (fun k => impl_UtfOk.f k l) (utfOk l) := by
  unfold impl_UtfOk.f utfOk
  by_cases h : (l.length : Int) ≤ 3000
  · refine ev_pos h (Ev.bind (impl_UtfRead_ev l hw) (Ev.bind (impl_PointsPut_ev _) ?_))
    simp only [bytes_Equal.f, Option.bind_some]
    refine ev_some ?_
    rw [nums_eq _ _ (pointsPut_wf _) hw, decide_eq_true (show l.length ≤ 3000 by omega), Bool.true_and]
  · exact ev_neg h (ev_some (by rw [decide_eq_false (show ¬ l.length ≤ 3000 by omega), Bool.false_and]))

end Go.Proofs.Ytplgbnalflpdhaa.Y

/- Plain lemmas over numbers and lists (nameD). Conditions: as each states. -/
namespace Go.Proofs.Ytplgbnalflpdhaa.Y
open Go.RowKit Go.Proofs.Ytplgbnalflpdhaa.X Go.Proofs.YtplgbnalflpdhaaW.PrintWords Go.Proofs.YtplgbnalflpdhaaW.PrintLast Go.Proofs.YtplgbnalflpdhaaW.PrintMore Go.Proofs.Ytplgbnalflpdhaa.Y
set_option linter.unusedVariables false
set_option linter.unusedSimpArgs false
def blank (x : Int) : Bool := decide (x = 9) || decide (x = 10) || decide (x = 12) || decide (x = 32)
def outer (x : Int) : Bool := blank x || decide (x = 47) || decide (x = 62) || decide (x = 0) || decide (65 ≤ x ∧ x ≤ 90)
def textOk (s : ByteArray) : Bool := utfOk (bytesOf s)
def nameOk (s : ByteArray) : Bool := decide (1 ≤ s.size ∧ s.size ≤ 60) && (decide (97 ≤ bt s 0 ∧ bt s 0 ≤ 122) && textOk s) && (bytesOf s).all (fun x => !outer x)
theorem bt_0 (s : ByteArray) (i : Int) : 0 ≤ bt s i ∧ bt s i ≤ 255 := bt_range s i

end Go.Proofs.Ytplgbnalflpdhaa.Y

/- Plain lemmas over numbers and lists (textOkI). Conditions: as each states. -/
namespace Go.Proofs.Ytplgbnalflpdhaa.Y
open Go.RowKit Go.Proofs.Ytplgbnalflpdhaa.X Go.Proofs.YtplgbnalflpdhaaW.PrintWords Go.Proofs.YtplgbnalflpdhaaW.PrintLast Go.Proofs.YtplgbnalflpdhaaW.PrintMore Go.Proofs.Ytplgbnalflpdhaa.Y
set_option linter.unusedVariables false
set_option linter.unusedSimpArgs false
theorem impl_textOk_ev (s : ByteArray) (h : s.size ≤ 140737488355328) : Ev (fun k => impl_textOk.f k s) (textOk s) := by
  unfold impl_textOk.f
  exact ev_pos h (Ev.bind (impl_UtfOk_ev _ (bytesOf_wf s)) (Ev.now _))

end Go.Proofs.Ytplgbnalflpdhaa.Y

/- Plain lemmas over numbers and lists (nameI). Conditions: as each states. -/
namespace Go.Proofs.Ytplgbnalflpdhaa.Y
open Go.RowKit Go.Proofs.Ytplgbnalflpdhaa.X Go.Proofs.YtplgbnalflpdhaaW.PrintWords Go.Proofs.YtplgbnalflpdhaaW.PrintLast Go.Proofs.YtplgbnalflpdhaaW.PrintMore Go.Proofs.Ytplgbnalflpdhaa.Y
set_option linter.unusedVariables false
set_option linter.unusedSimpArgs false
theorem impl_IsBlank_eq (x : Int) : impl_IsBlank.f x = some (blank x) := by
  unfold impl_IsBlank.f blank
  by_cases a : x = 9
  · simp [a]
  · by_cases b : x = 10
    · simp [b]
    · by_cases c : x = 12
      · simp [c]
      · simp only [if_neg a, if_neg b, if_neg c, decide_eq_false a, decide_eq_false b, decide_eq_false c, Bool.false_or]
        rfl
theorem impl_isOuter_eq (x : Int) : impl_isOuter.f x = some (outer x) := by
  unfold impl_isOuter.f outer
  simp only [impl_IsBlank_eq, impl_inRange_eq, Option.bind_some]
  cases blank x with
  | true => simp
  | false =>
    by_cases a : x = 47
    · simp [a]
    · by_cases b : x = 62
      · simp [b]
      · by_cases c : x = 0
        · simp [c]
        · simp [a, b, c]
theorem impl_NameOk_l0 (l : List Int) (hl : l.length ≤ 1000) (hb : ∀ x ∈ l, 0 ≤ x ∧ x ≤ 255) : ∀ (d : Nat) (i : Int), 0 ≤ i → i + d = l.length → Ev (fun k => impl_NameOk.l0 k l (l.length : Int) i) ((l.drop i.toNat).all (fun x => !outer x)) := by
  intro d
  induction d with
  | zero =>
    intro i h0 h
    refine ev_succ ?_
    simp only [impl_NameOk.l0]
    refine ev_neg (by omega) (ev_some ?_)
    rw [List.drop_of_length_le (by omega)]; rfl
  | succ d ih =>
    intro i h0 h
    refine ev_succ ?_
    simp only [impl_NameOk.l0]
    have hr := hb (rd l i) (by rw [rd_get h0 (by omega)]; exact List.getElem_mem _)
    rw [w64 (x := rd l i) (by omega) (by omega), w64 (x := i + 1) (by omega) (by omega), drop_cons h0 (by omega)]
    simp only [impl_isOuter_eq, Option.bind_some, List.all_cons]
    refine ev_pos (by omega) (ev_pos h0 (ev_pos (by omega) ?_))
    by_cases ho : outer (rd l i) = true
    · exact ev_pos ho (ev_some (by rw [ho]; rfl))
    · refine ev_neg ho (ev_cast (ih (i + 1) (by omega) (by omega)) ?_)
      simp only [Bool.not_eq_true] at ho
      rw [ho]; rfl
theorem impl_NameOk_ev (s : ByteArray) (hs : s.size ≤ 140737488355328) : Ev (fun k => impl_NameOk.f k s) (nameOk s) := by
  unfold impl_NameOk.f nameOk
  simp only [impl_inRange_eq, Option.bind_some]
  have hj : ∀ c : Bool, Ev (fun k => impl_NameOk.j0 k s c) (if c = true then false else (bytesOf s).all (fun x => !outer x)) ∨ ¬ s.size ≤ 60 := by
    intro c
    by_cases h60 : s.size ≤ 60
    · left
      refine ev_succ ?_
      simp only [impl_NameOk.j0]
      cases c with
      | true => exact ev_pos (by simp) (Ev.now _)
      | false =>
        refine ev_neg (by simp) (ev_pos (by omega) ?_)
        simp only [Option.bind_some]
        have := impl_NameOk_l0 (bytesOf s) (by rw [bytesOf_length]; omega) (bytesOf_range s) (bytesOf s).length 0 (by omega) (by omega)
        simpa using this
    · exact .inr h60
  have hjt : Ev (fun k => impl_NameOk.j0 k s true) false := by
    refine ev_succ ?_
    simp only [impl_NameOk.j0]
    exact ev_pos (by simp) (Ev.now _)
  by_cases hsz : 1 ≤ s.size ∧ s.size ≤ 60
  · rw [decide_eq_true hsz, decide_eq_true (show (1 : Int) ≤ s.size ∧ (s.size : Int) ≤ 60 by omega)]
    refine ev_pos (by simp) (ev_pos (by omega) ?_)
    by_cases h1 : bt s 0 < 97
    · rw [decide_eq_false (show ¬ (97 ≤ bt s 0 ∧ bt s 0 ≤ 122) by omega)]
      exact ev_pos h1 (ev_cast hjt (by simp))
    · refine ev_neg h1 ?_
      by_cases h2 : bt s 0 > 122
      · rw [decide_eq_false (show ¬ (97 ≤ bt s 0 ∧ bt s 0 ≤ 122) by omega)]
        exact ev_pos h2 (ev_cast hjt (by simp))
      · rw [decide_eq_true (show (97 ≤ bt s 0 ∧ bt s 0 ≤ 122) by omega)]
        refine ev_neg h2 (Ev.bind (impl_textOk_ev s hs) ?_)
        rcases hj (!textOk s) with h | h
        · refine ev_cast h ?_
          cases textOk s <;> simp
        · exact absurd hsz.2 h
  · rw [decide_eq_false hsz, decide_eq_false (show ¬ ((1 : Int) ≤ s.size ∧ (s.size : Int) ≤ 60) by omega)]
    exact ev_neg (by simp) (ev_cast hjt (by simp))

end Go.Proofs.Ytplgbnalflpdhaa.Y

/- Plain lemmas over numbers and lists (textOkS). Conditions: as each states. -/
namespace Go.Proofs.Ytplgbnalflpdhaa.Y
open Go.RowKit Go.Proofs.Ytplgbnalflpdhaa.X Go.Proofs.YtplgbnalflpdhaaW.PrintWords Go.Proofs.YtplgbnalflpdhaaW.PrintLast Go.Proofs.YtplgbnalflpdhaaW.PrintMore Go.Proofs.Ytplgbnalflpdhaa.Y
set_option linter.unusedVariables false
set_option linter.unusedSimpArgs false
theorem spec_l1Ok_ev (s : ByteArray) (h : s.size ≤ 140737488355328) : Ev (fun k => spec_l1Ok.f k s) (textOk s) := by
  unfold spec_l1Ok.f
  exact ev_pos h (Ev.bind (spec_UtfOk_ev _ (bytesOf_wf s)) (Ev.now _))

end Go.Proofs.Ytplgbnalflpdhaa.Y

/- Plain lemmas over numbers and lists (nameS). Conditions: as each states. -/
namespace Go.Proofs.Ytplgbnalflpdhaa.Y
open Go.RowKit Go.Proofs.Ytplgbnalflpdhaa.X Go.Proofs.YtplgbnalflpdhaaW.PrintWords Go.Proofs.YtplgbnalflpdhaaW.PrintLast Go.Proofs.YtplgbnalflpdhaaW.PrintMore Go.Proofs.Ytplgbnalflpdhaa.Y
set_option linter.unusedVariables false
set_option linter.unusedSimpArgs false
theorem spec_IsBlank_eq (x : Int) : spec_IsBlank.f x = some (blank x) := by
  unfold spec_IsBlank.f blank
  by_cases a : x = 9
  · simp [a]
  · by_cases b : x = 10
    · simp [b]
    · by_cases c : x = 12
      · simp [c]
      · simp only [if_neg a, if_neg b, if_neg c, decide_eq_false a, decide_eq_false b, decide_eq_false c, Bool.false_or]
        rfl
theorem spec_NameOk_l0 (s : ByteArray) (hl : s.size ≤ 1000) : ∀ (d : Nat) (i : Int), 0 ≤ i → i + d = s.size → Ev (fun k => spec_NameOk.l0 k s i) (((bytesOf s).drop i.toNat).all (fun x => !outer x)) := by
  intro d
  have hlen := bytesOf_length s
  induction d with
  | zero =>
    intro i h0 h
    refine ev_succ ?_
    simp only [spec_NameOk.l0]
    refine ev_neg (by omega) (ev_some ?_)
    rw [List.drop_of_length_le (by omega)]; rfl
  | succ d ih =>
    intro i h0 h
    refine ev_succ ?_
    simp only [spec_NameOk.l0]
    have hr := bt_range s i
    rw [w64 (x := bt s i) (by omega) (by omega), w64 (x := i + 1) (by omega) (by omega), drop_cons h0 (by omega), rd_bytesOf]
    simp only [spec_IsBlank_eq, Option.bind_some, List.all_cons]
    have hi := ih (i + 1) (by omega) (by omega)
    refine ev_pos (by omega) (ev_pos h0 ?_)
    generalize bt s i = x at *
    unfold outer at hi ⊢
    by_cases h1 : blank x = true
    · exact ev_pos h1 (ev_some (by rw [h1]; rfl))
    refine ev_neg h1 ?_
    by_cases h2 : x = 47
    · exact ev_pos h2 (ev_some (by simp [h2]))
    refine ev_neg h2 ?_
    by_cases h3 : x = 62
    · exact ev_pos h3 (ev_some (by simp [h3]))
    refine ev_neg h3 ?_
    by_cases h4 : x = 0
    · exact ev_pos h4 (ev_some (by simp [h4]))
    refine ev_neg h4 ?_
    by_cases h5 : x ≥ 65
    · refine ev_pos h5 ?_
      by_cases h6 : x ≤ 90
      · exact ev_pos h6 (ev_some (by simp [h5, h6]))
      · exact ev_neg h6 (ev_cast hi (by simp [h1, h2, h3, h4, h6]))
    · exact ev_neg h5 (ev_cast hi (by simp [h1, h2, h3, h4]; omega))
theorem spec_NameOk_ev (s : ByteArray) (hs : s.size ≤ 140737488355328) : Ev (fun k => spec_NameOk.f k s) (nameOk s) := by
  unfold spec_NameOk.f nameOk
  simp only [spec_l1In_eq, Option.bind_some]
  have hjt : Ev (fun k => spec_NameOk.j0 k s true) false := by
    refine ev_succ ?_
    simp only [spec_NameOk.j0]
    exact ev_pos (by simp) (Ev.now _)
  by_cases hsz : 1 ≤ s.size ∧ s.size ≤ 60
  · rw [decide_eq_true hsz, decide_eq_true (show (1 : Int) ≤ s.size ∧ (s.size : Int) ≤ 60 by omega)]
    refine ev_pos (by simp) (Ev.bind (spec_l1Ok_ev s hs) ?_)
    cases textOk s with
    | false => exact ev_neg (by simp) (ev_cast hjt (by simp))
    | true =>
      refine ev_pos (by simp) (ev_pos (by omega) ?_)
      by_cases h1 : bt s 0 < 97
      · rw [decide_eq_false (show ¬ (97 ≤ bt s 0 ∧ bt s 0 ≤ 122) by omega)]
        exact ev_pos h1 (ev_cast hjt (by simp))
      · refine ev_neg h1 ?_
        by_cases h2 : bt s 0 > 122
        · rw [decide_eq_false (show ¬ (97 ≤ bt s 0 ∧ bt s 0 ≤ 122) by omega), decide_eq_true h2]
          exact ev_cast hjt (by simp)
        · rw [decide_eq_true (show (97 ≤ bt s 0 ∧ bt s 0 ≤ 122) by omega), decide_eq_false h2]
          refine ev_succ ?_
          simp only [spec_NameOk.j0]
          refine ev_neg (by simp) (ev_cast (spec_NameOk_l0 s (by omega) s.size 0 (by omega) (by omega)) (by simp))
  · rw [decide_eq_false hsz, decide_eq_false (show ¬ ((1 : Int) ≤ s.size ∧ (s.size : Int) ≤ 60) by omega)]
    exact ev_neg (by simp) (ev_cast hjt (by simp))

end Go.Proofs.Ytplgbnalflpdhaa.Y

/- Plain lemmas over numbers and lists (alphaD). Conditions: as each states. -/
namespace Go.Proofs.Ytplgbnalflpdhaa.Y
open Go.RowKit Go.Proofs.Ytplgbnalflpdhaa.X Go.Proofs.YtplgbnalflpdhaaW.PrintWords Go.Proofs.YtplgbnalflpdhaaW.PrintLast Go.Proofs.YtplgbnalflpdhaaW.PrintMore Go.Proofs.Ytplgbnalflpdhaa.Y
set_option linter.unusedVariables false
set_option linter.unusedSimpArgs false
def isAlpha (x : Int) : Bool := decide (65 ≤ x ∧ x ≤ 90) || decide (97 ≤ x ∧ x ≤ 122)

end Go.Proofs.Ytplgbnalflpdhaa.Y

/- Plain lemmas over numbers and lists (alphaI). Conditions: as each states. -/
namespace Go.Proofs.Ytplgbnalflpdhaa.Y
open Go.RowKit Go.Proofs.Ytplgbnalflpdhaa.X Go.Proofs.YtplgbnalflpdhaaW.PrintWords Go.Proofs.YtplgbnalflpdhaaW.PrintLast Go.Proofs.YtplgbnalflpdhaaW.PrintMore Go.Proofs.Ytplgbnalflpdhaa.Y
set_option linter.unusedVariables false
set_option linter.unusedSimpArgs false
theorem impl_IsAlpha_eq (x : Int) : impl_IsAlpha.f x = some (isAlpha x) := by
  unfold impl_IsAlpha.f isAlpha
  simp only [impl_inRange_eq, Option.bind_some]
  by_cases h : 65 ≤ x ∧ x ≤ 90 <;> simp [h]

end Go.Proofs.Ytplgbnalflpdhaa.Y

/- Plain lemmas over numbers and lists (lowerI). Conditions: as each states. -/
namespace Go.Proofs.Ytplgbnalflpdhaa.Y
open Go.RowKit Go.Proofs.Ytplgbnalflpdhaa.X Go.Proofs.YtplgbnalflpdhaaW.PrintWords Go.Proofs.YtplgbnalflpdhaaW.PrintLast Go.Proofs.YtplgbnalflpdhaaW.PrintMore Go.Proofs.Ytplgbnalflpdhaa.Y
set_option linter.unusedVariables false
set_option linter.unusedSimpArgs false
theorem impl_LowerOf_eq (x : Int) : impl_LowerOf.f x = some (lowerOf x) := by
  unfold impl_LowerOf.f lowerOf
  simp only [impl_inRange_eq, Option.bind_some]
  by_cases h : 65 ≤ x ∧ x ≤ 90
  · simp only [h, and_self, decide_true, if_true]; rw [w64 (x := x - 65) (by omega) (by omega), w64 (by omega) (by omega)]; congr 1; omega
  · simp [h]

end Go.Proofs.Ytplgbnalflpdhaa.Y

