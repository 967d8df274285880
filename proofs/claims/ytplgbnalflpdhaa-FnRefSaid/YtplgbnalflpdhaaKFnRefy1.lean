/- Plain lemmas over numbers and lists for FnRef. Conditions: as each states. -/
import Derived.Lib.Bytes
import Derived.Lib.LazyBuf
import Derived.Lib.Strings
import Derived.Test.YtplgbnalflpdhaaKFnRefx4
/- Plain lemmas over numbers and lists (base). Conditions: as each states. -/
namespace Go.Proofs.Ytplgbnalflpdhaa.Y
open Go.RowKit Go.Proofs.Ytplgbnalflpdhaa.X Go.Proofs.YtplgbnalflpdhaaW.PrintWords Go.Proofs.YtplgbnalflpdhaaW.PrintLast Go.Proofs.YtplgbnalflpdhaaW.PrintMore Go.Proofs.Ytplgbnalflpdhaa.Y
set_option linter.unusedVariables false
set_option linter.unusedSimpArgs false
theorem wf64 {x : Int} (h : (Lit.int .i64 x).wf = true) : -9223372036854775808 ≤ x ∧ x ≤ 9223372036854775807 := by
  simp only [Lit.wf, Bool.and_eq_true, decide_eq_true_eq] at h
  exact h
theorem wf8 {x : Int} (h : (Lit.int .u8 x).wf = true) : 0 ≤ x ∧ x ≤ 255 := by
  simp only [Lit.wf, Bool.and_eq_true, decide_eq_true_eq] at h
  exact h
theorem w64 {x : Int} (h : -9223372036854775808 ≤ x) (h' : x ≤ 9223372036854775807) : wrap64 x = x := by unfold wrap64; omega
theorem w64_range (x : Int) : -9223372036854775808 ≤ wrap64 x ∧ wrap64 x ≤ 9223372036854775807 := by unfold wrap64; omega
theorem ev_pos {α : Type} {c : Prop} [Decidable c] {g f : Nat → Option α} {r : α} (hc : c) (h : Ev g r) : Ev (fun k => if c then g k else f k) r := by
  simpa only [if_pos hc] using h
theorem ev_neg {α : Type} {c : Prop} [Decidable c] {g f : Nat → Option α} {r : α} (hc : ¬ c) (h : Ev f r) : Ev (fun k => if c then g k else f k) r := by
  simpa only [if_neg hc] using h
theorem ev_const {α : Type} {g : Option α} {r : α} (h : g = some r) : Ev (fun _ => g) r := ⟨0, fun _ _ => h⟩
theorem ev_some {α : Type} {r r' : α} (h : r = r') : Ev (fun _ => some r) r' := ⟨0, fun _ _ => by rw [h]⟩
theorem ev_bindS {α β : Type} {g : Option α} {f : Nat → α → Option β} {a : α} {r : β} (h : g = some a) (k : Ev (fun n => f n a) r) : Ev (fun n => g.bind (f n)) r := by
  subst h; exact k
theorem rd_app_left {xs ys : List Int} {i : Int} (h0 : 0 ≤ i) (h : i < xs.length) : rd (xs ++ ys) i = rd xs i := by
  unfold rd; rw [List.getD_eq_getElem?_getD, List.getD_eq_getElem?_getD, List.getElem?_append_left (by omega)]
theorem rd_drop {xs : List Int} {i : Int} {v : Int} {ys : List Int} (h : xs.drop i.toNat = v :: ys) : rd xs i = v := by
  unfold rd
  have : xs[i.toNat]? = some v := by
    have := congrArg (fun l => l[0]?) h
    simpa using this
  rw [List.getD_eq_getElem?_getD, this]; rfl
/-- One round: what follows is read off by 'simp only [F.j0]'. -/
theorem ev_succ {α : Type} {g : Nat → Option α} {r : α} (h : Ev (fun k => g (k + 1)) r) : Ev g r := Ev.step (fun _ => rfl) h
theorem ev_cast {α : Type} {g : Nat → Option α} {r r' : α} (h : Ev g r) (e : r = r') : Ev g r' := by subst e; exact h

end Go.Proofs.Ytplgbnalflpdhaa.Y

/- Plain lemmas over numbers and lists (inrS). Conditions: as each states. -/
namespace Go.Proofs.Ytplgbnalflpdhaa.Y
open Go.RowKit Go.Proofs.Ytplgbnalflpdhaa.X Go.Proofs.YtplgbnalflpdhaaW.PrintWords Go.Proofs.YtplgbnalflpdhaaW.PrintLast Go.Proofs.YtplgbnalflpdhaaW.PrintMore Go.Proofs.Ytplgbnalflpdhaa.Y
set_option linter.unusedVariables false
set_option linter.unusedSimpArgs false
theorem spec_l1In_eq (x a b : Int) : spec_l1In.f x a b = some (decide (a ≤ x ∧ x ≤ b)) := by
  unfold spec_l1In.f
  by_cases h : x ≥ a
  · rw [if_pos h]; congr 1; simp; omega
  · rw [if_neg h]; congr 1; simp; omega

end Go.Proofs.Ytplgbnalflpdhaa.Y

/- Plain lemmas over numbers and lists (pokD). Conditions: as each states. -/
namespace Go.Proofs.Ytplgbnalflpdhaa.Y
open Go.RowKit Go.Proofs.Ytplgbnalflpdhaa.X Go.Proofs.YtplgbnalflpdhaaW.PrintWords Go.Proofs.YtplgbnalflpdhaaW.PrintLast Go.Proofs.YtplgbnalflpdhaaW.PrintMore Go.Proofs.Ytplgbnalflpdhaa.Y
set_option linter.unusedVariables false
set_option linter.unusedSimpArgs false
def pointOk (x : Int) : Bool := decide (0 ≤ x ∧ x ≤ 1114111) && !decide (55296 ≤ x ∧ x ≤ 57343)

end Go.Proofs.Ytplgbnalflpdhaa.Y

/- Plain lemmas over numbers and lists (pokS). Conditions: as each states. -/
namespace Go.Proofs.Ytplgbnalflpdhaa.Y
open Go.RowKit Go.Proofs.Ytplgbnalflpdhaa.X Go.Proofs.YtplgbnalflpdhaaW.PrintWords Go.Proofs.YtplgbnalflpdhaaW.PrintLast Go.Proofs.YtplgbnalflpdhaaW.PrintMore Go.Proofs.Ytplgbnalflpdhaa.Y
set_option linter.unusedVariables false
set_option linter.unusedSimpArgs false
theorem spec_PointOk_eq (x : Int) : spec_PointOk.f x = some (pointOk x) := by
  unfold spec_PointOk.f pointOk
  simp only [spec_l1In_eq, Option.bind_some]
  by_cases h : 0 ≤ x ∧ x ≤ 1114111 <;> simp [h]

end Go.Proofs.Ytplgbnalflpdhaa.Y

/- Plain lemmas over numbers and lists (num). Conditions: as each states. -/
namespace Go.Proofs.Ytplgbnalflpdhaa.Y
open Go.RowKit Go.Proofs.Ytplgbnalflpdhaa.X Go.Proofs.YtplgbnalflpdhaaW.PrintWords Go.Proofs.YtplgbnalflpdhaaW.PrintLast Go.Proofs.YtplgbnalflpdhaaW.PrintMore Go.Proofs.Ytplgbnalflpdhaa.Y
set_option linter.unusedVariables false
set_option linter.unusedSimpArgs false
def numForm : Nat → Int → List Int
  | 0, x => [x]
  | n + 1, x => if x > 127 then (x % 128 + 128) :: numForm n (x / 128) else [x]
theorem numForm_len (n : Nat) : ∀ x, (numForm n x).length ≤ n + 1 := by
  induction n with
  | zero => intro x; simp [numForm]
  | succ n ih => intro x; unfold numForm; split <;> simp [ih]
theorem wraps_i64 (n : Int) (h₀ : 0 ≤ n) (h₁ : n < 2 ^ 63) : IntKind.i64.wrap n = n := by rw [IntKind.wrap_i64]; omega
theorem and127 {x : Int} (h0 : 0 ≤ x) (h1 : x ≤ 9223372036854775807) : Go.bits .and .i64 x 127 = x % 128 := bits_mask .i64 63 (by decide) wraps_i64 7 (by decide) x h0 (by omega)
theorem or128 {y : Int} (h0 : 0 ≤ y) (h1 : y < 128) : Go.bits .or .i64 128 y = 128 + y := bits_join .i64 63 (by decide) wraps_i64 7 128 y (by decide) (by decide) (by decide) h0 h1 (by omega)
theorem pow128 (x : Int) (n : Nat) (h : x < 128 ^ (n + 1 + 1)) : x / 128 < 128 ^ (n + 1) := by
  rw [Int.pow_succ] at h
  generalize (128 : Int) ^ (n + 1) = p at *
  omega

end Go.Proofs.Ytplgbnalflpdhaa.Y

/- Plain lemmas over numbers and lists (utf8D). Conditions: as each states. -/
namespace Go.Proofs.Ytplgbnalflpdhaa.Y
open Go.RowKit Go.Proofs.Ytplgbnalflpdhaa.X Go.Proofs.YtplgbnalflpdhaaW.PrintWords Go.Proofs.YtplgbnalflpdhaaW.PrintLast Go.Proofs.YtplgbnalflpdhaaW.PrintMore Go.Proofs.Ytplgbnalflpdhaa.Y
set_option linter.unusedVariables false
set_option linter.unusedSimpArgs false
def utf8 (x : Int) : List Int :=
  if x < 128 then [x] else if x < 2048 then [192 + x / 64, 128 + x % 64] else if x < 65536 then [224 + x / 4096, 128 + x / 64 % 64, 128 + x % 64] else [240 + x / 262144, 128 + x / 4096 % 64, 128 + x / 64 % 64, 128 + x % 64]
def point (x : Int) : Int := if pointOk x = true then x else 65533
def pointPut (x : Int) : List Int := utf8 (point x)
theorem pointOk_iff (x : Int) : pointOk x = true ↔ (0 ≤ x ∧ x ≤ 1114111) ∧ ¬ (55296 ≤ x ∧ x ≤ 57343) := by unfold pointOk; simp; omega
theorem pointOk_point (x : Int) : pointOk (point x) = true := by
  unfold point; split
  · assumption
  · decide
theorem point_of {x : Int} (h : pointOk x = true) : point x = x := by unfold point; rw [if_pos h]
theorem point_range (x : Int) : 0 ≤ point x ∧ point x ≤ 1114111 := ((pointOk_iff _).1 (pointOk_point x)).1
theorem utf8_len (x : Int) : 1 ≤ (utf8 x).length ∧ (utf8 x).length ≤ 4 := by
  unfold utf8
  split
  · simp
  · split
    · simp
    · split <;> simp
theorem pointPut_len (x : Int) : 1 ≤ (pointPut x).length ∧ (pointPut x).length ≤ 4 := utf8_len _
theorem utf8_bytes {x : Int} (h0 : 0 ≤ x) (h1 : x ≤ 1114111) : ∀ b ∈ utf8 x, 0 ≤ b ∧ b ≤ 255 := by
  intro b hb
  unfold utf8 at hb
  split at hb
  · simp at hb; omega
  · split at hb
    · simp at hb; omega
    · split at hb
      · simp at hb; omega
      · simp at hb; omega
theorem and63 {x : Int} (h0 : 0 ≤ x) (h1 : x ≤ 9223372036854775807) : Go.bits .and .i64 x 63 = x % 64 := bits_mask .i64 63 (by decide) wraps_i64 6 (by decide) x h0 (by omega)
theorem or192 {y : Int} (h0 : 0 ≤ y) (h1 : y < 32) : Go.bits .or .i64 192 y = 192 + y := bits_join .i64 63 (by decide) wraps_i64 5 192 y (by decide) (by decide) (by decide) h0 h1 (by omega)
theorem or224 {y : Int} (h0 : 0 ≤ y) (h1 : y < 16) : Go.bits .or .i64 224 y = 224 + y := bits_join .i64 63 (by decide) wraps_i64 4 224 y (by decide) (by decide) (by decide) h0 h1 (by omega)
theorem or240 {y : Int} (h0 : 0 ≤ y) (h1 : y < 8) : Go.bits .or .i64 240 y = 240 + y := bits_join .i64 63 (by decide) wraps_i64 3 240 y (by decide) (by decide) (by decide) h0 h1 (by omega)
theorem m256 {y : Int} (h0 : 0 ≤ y) (h1 : y < 256) : y % 256 = y := Int.emod_eq_of_lt h0 h1

end Go.Proofs.Ytplgbnalflpdhaa.Y

/- Plain lemmas over numbers and lists (refNum). Conditions: as each states. -/
namespace Go.Proofs.Ytplgbnalflpdhaa.Y
open Go.RowKit Go.Proofs.Ytplgbnalflpdhaa.X Go.Proofs.YtplgbnalflpdhaaW.PrintWords Go.Proofs.YtplgbnalflpdhaaW.PrintLast Go.Proofs.YtplgbnalflpdhaaW.PrintMore Go.Proofs.Ytplgbnalflpdhaa.Y
set_option linter.unusedVariables false
set_option linter.unusedSimpArgs false
def refNumber (x : Int) : Int := if x = 0 ∨ x < 0 ∨ 1114111 < x ∨ (55296 ≤ x ∧ x ≤ 57343) then 65533 else if 128 ≤ x ∧ x ≤ 159 then refTab.getD (x - 128).toNat 0 else x
theorem impl_RefNumber_eq (x : Int) : impl_RefNumber.f x = some (refNumber x) := rfl
theorem spec_RefNumber_ev (x : Int) : Ev (fun k => spec_RefNumber.f k x) (refNumber x) := by
  unfold spec_RefNumber.f
  simp only [spec_PointOk_eq, Option.bind_some]
  have hj : ∀ c : Bool, (c = true → refNumber x = 65533) → (c = false → refNumber x = if 128 ≤ x ∧ x ≤ 159 then refTab.getD (x - 128).toNat 0 else x) → Ev (fun k => spec_RefNumber.j0 k x c) (refNumber x) := by
    intro c h1 h2
    refine ev_succ ?_
    simp only [spec_RefNumber.j0, spec_l1In_eq, Option.bind_some]
    cases c with
    | true => exact ev_pos rfl (ev_some (h1 rfl).symm)
    | false =>
      refine ev_neg (by simp) ?_
      rw [h2 rfl]
      by_cases h : 128 ≤ x ∧ x ≤ 159
      · rw [if_pos h, w64 (x := x - 128) (by omega) (by omega)]
        refine ev_pos (by simpa using h) (ev_pos (by omega) (ev_pos (by simp only [List.length_cons, List.length_nil]; omega) (ev_some rfl)))
      · rw [if_neg h]
        exact ev_neg (by simpa using h) (ev_some rfl)
  by_cases h0 : x = 0
  · exact ev_pos h0 (hj true (fun _ => by unfold refNumber; rw [if_pos (.inl h0)]) (by simp))
  · refine ev_neg h0 (hj _ (fun h => ?_) (fun h => ?_))
    · unfold refNumber; rw [if_pos]
      have : ¬ pointOk x = true := by simpa using h
      rw [pointOk_iff] at this; omega
    · unfold refNumber; rw [if_neg]
      have : pointOk x = true := by simpa using h
      rw [pointOk_iff] at this; omega
theorem refTab_ok : ∀ n, n < 32 → pointOk (refTab.getD n 0) = true ∧ refTab.getD n 0 ≠ 0 := by decide
theorem refNumber_ok (x : Int) : pointOk (refNumber x) = true ∧ refNumber x ≠ 0 := by
  unfold refNumber
  split
  · decide
  · split
    · exact refTab_ok _ (by omega)
    · refine ⟨?_, by omega⟩
      rw [pointOk_iff]; omega
theorem refNumber_id {x : Int} (h : pointOk x = true) (h0 : x ≠ 0) (h1 : ¬ (128 ≤ x ∧ x ≤ 159)) : refNumber x = x := by
  rw [pointOk_iff] at h
  unfold refNumber; rw [if_neg (by omega), if_neg h1]

end Go.Proofs.Ytplgbnalflpdhaa.Y

/- Plain lemmas over numbers and lists (digitD). Conditions: as each states. -/
namespace Go.Proofs.Ytplgbnalflpdhaa.Y
open Go.RowKit Go.Proofs.Ytplgbnalflpdhaa.X Go.Proofs.YtplgbnalflpdhaaW.PrintWords Go.Proofs.YtplgbnalflpdhaaW.PrintLast Go.Proofs.YtplgbnalflpdhaaW.PrintMore Go.Proofs.Ytplgbnalflpdhaa.Y
set_option linter.unusedVariables false
set_option linter.unusedSimpArgs false
def digitOf (x b : Int) : Int :=
  if b ≠ 10 ∧ b ≠ 16 then -1 else if 48 ≤ x ∧ x ≤ 57 then x - 48 else if b = 16 ∧ 65 ≤ x ∧ x ≤ 70 then x - 55 else if b = 16 ∧ 97 ≤ x ∧ x ≤ 102 then x - 87 else -1

end Go.Proofs.Ytplgbnalflpdhaa.Y

/- Plain lemmas over numbers and lists (alphaD). Conditions: as each states. -/
namespace Go.Proofs.Ytplgbnalflpdhaa.Y
open Go.RowKit Go.Proofs.Ytplgbnalflpdhaa.X Go.Proofs.YtplgbnalflpdhaaW.PrintWords Go.Proofs.YtplgbnalflpdhaaW.PrintLast Go.Proofs.YtplgbnalflpdhaaW.PrintMore Go.Proofs.Ytplgbnalflpdhaa.Y
set_option linter.unusedVariables false
set_option linter.unusedSimpArgs false
def isAlpha (x : Int) : Bool := decide (65 ≤ x ∧ x ≤ 90) || decide (97 ≤ x ∧ x ≤ 122)

end Go.Proofs.Ytplgbnalflpdhaa.Y

/- Plain lemmas over numbers and lists (lowerD). Conditions: as each states. -/
namespace Go.Proofs.Ytplgbnalflpdhaa.Y
open Go.RowKit Go.Proofs.Ytplgbnalflpdhaa.X Go.Proofs.YtplgbnalflpdhaaW.PrintWords Go.Proofs.YtplgbnalflpdhaaW.PrintLast Go.Proofs.YtplgbnalflpdhaaW.PrintMore Go.Proofs.Ytplgbnalflpdhaa.Y
set_option linter.unusedVariables false
set_option linter.unusedSimpArgs false
def lowerOf (x : Int) : Int := if 65 ≤ x ∧ x ≤ 90 then x + 32 else x

end Go.Proofs.Ytplgbnalflpdhaa.Y

/- Plain lemmas over numbers and lists (strBytes). Conditions: as each states. -/
namespace Go.Proofs.Ytplgbnalflpdhaa.Y
open Go.RowKit Go.Proofs.Ytplgbnalflpdhaa.X Go.Proofs.YtplgbnalflpdhaaW.PrintWords Go.Proofs.YtplgbnalflpdhaaW.PrintLast Go.Proofs.YtplgbnalflpdhaaW.PrintMore Go.Proofs.Ytplgbnalflpdhaa.Y
set_option linter.unusedVariables false
set_option linter.unusedSimpArgs false
theorem data_eta (s : ByteArray) : (⟨s.data.toList.toArray⟩ : ByteArray) = s := by cases s; simp
theorem str_bytes (s : ByteArray) : strOfNums (bytesOf s) = s := by
  unfold bytesOf
  rw [Lib.Lz.strOfNums_map]
theorem bytes_str {b : List Int} (h : ∀ x ∈ b, 0 ≤ x ∧ x ≤ 255) : bytesOf (strOfNums b) = b := by
  have e : (strOfNums b).data.toList = Lib.bytesOf b := by rw [← Lib.toList_data, Lib.strOfNums_toList]
  unfold bytesOf
  rw [e]
  unfold Lib.bytesOf
  rw [List.map_map]
  conv => rhs; rw [← List.map_id b]
  refine List.map_congr_left (fun x hx => ?_)
  have := h x hx
  simp only [Function.comp, id]
  have : (UInt8.ofNat x.toNat).toNat = x.toNat := by simp; omega
  omega
theorem bytesOf_range (s : ByteArray) : ∀ x ∈ bytesOf s, 0 ≤ x ∧ x ≤ 255 := by
  intro x hx
  unfold bytesOf at hx
  obtain ⟨b, _, rfl⟩ := List.mem_map.1 hx
  have := b.toNat_lt
  omega
theorem bytesOf_wf (s : ByteArray) : ∀ x ∈ bytesOf s, (Lit.int .u8 x).wf = true := fun x hx => by
  simp only [Lit.wf, Bool.and_eq_true, decide_eq_true_eq]; exact bytesOf_range s x hx
theorem bytes_ext {s t : ByteArray} (h : bytesOf s = bytesOf t) : s = t := by rw [← str_bytes s, h, str_bytes]
theorem toList_ext {s t : ByteArray} (h : s.toList = t.toList) : s = t := by
  rw [Lib.toList_data, Lib.toList_data] at h
  rw [← data_eta s, h, data_eta]
theorem str_size (b : List Int) : (strOfNums b).size = b.length := by
  have e : (strOfNums b).data.toList = Lib.bytesOf b := by rw [← Lib.toList_data, Lib.strOfNums_toList]
  have := congrArg List.length e
  simpa [Lib.bytesOf] using this

end Go.Proofs.Ytplgbnalflpdhaa.Y

/- Plain lemmas over numbers and lists (refD). Conditions: as each states. -/
namespace Go.Proofs.Ytplgbnalflpdhaa.Y
open Go.RowKit Go.Proofs.Ytplgbnalflpdhaa.X Go.Proofs.YtplgbnalflpdhaaW.PrintWords Go.Proofs.YtplgbnalflpdhaaW.PrintLast Go.Proofs.YtplgbnalflpdhaaW.PrintMore Go.Proofs.Ytplgbnalflpdhaa.Y
set_option linter.unusedVariables false
set_option linter.unusedSimpArgs false
def numAt (l : List Int) (j : Int) : Int := if 0 ≤ j ∧ j < l.length then rd l j else -1
/-- The digits from a place on: the value, how many count, the place behind them. -/
def digs (l : List Int) (b : Int) : Nat → Int → Int → Int → Int × Int × Int
  | 0, at_, x, c => (x, c, at_)
  | n + 1, at_, x, c =>
    if digitOf (numAt l at_) b ≥ 0 then digs l b n (at_ + 1) (if (if 0 < c ∨ 0 < digitOf (numAt l at_) b then c + 1 else c) ≤ 7 then b * x + digitOf (numAt l at_) b else x) (if 0 < c ∨ 0 < digitOf (numAt l at_) b then c + 1 else c) else (x, c, at_)
def refBase (l : List Int) (a : Int) : Int := if numAt l a = 120 ∨ numAt l a = 88 then 16 else 10
def refFrom (l : List Int) (a : Int) : Int := if numAt l a = 120 ∨ numAt l a = 88 then a + 1 else a
/-- A reference by number, from behind its 35 on: the point and the place behind it; 0: none. -/
def refDig (l : List Int) (a : Int) : Int × Int :=
  if (digs l (refBase l a) l.length (refFrom l a) 0 0).2.2 = refFrom l a then (0, 0) else
    (refNumber (if (digs l (refBase l a) l.length (refFrom l a) 0 0).2.1 > 7 then 1114112 else (digs l (refBase l a) l.length (refFrom l a) 0 0).1),
     if numAt l (digs l (refBase l a) l.length (refFrom l a) 0 0).2.2 = 59 then (digs l (refBase l a) l.length (refFrom l a) 0 0).2.2 + 1 else (digs l (refBase l a) l.length (refFrom l a) 0 0).2.2)
def stands (l : List Int) (j : Int) : List Int → Bool
  | [] => true
  | b :: r => decide (numAt l j = b) && stands l (j + 1) r
def refList : List S39 := (impl_Refs.f).getD []
theorem refList_is : impl_Refs.f = some refList := rfl
theorem refList_len : refList.length = 24 := by decide
def pick (l : List Int) (j : Int) (cur : ByteArray × Int) (r : S39) : ByteArray × Int := if r.f0.size > cur.1.size ∧ stands l j (bytesOf r.f0) = true then (r.f0, r.f1) else cur
def best (l : List Int) (j : Int) : ByteArray × Int := refList.foldl (pick l j) (⟨#[]⟩, 0)
def goesOn (x : Int) : Bool := decide (x = 61) || isAlpha x || decide (digitOf x 10 ≥ 0)
/-- A reference by name, from behind its 38 on: the point and the place behind it; 0: none. -/
def refNam (l : List Int) (j : Int) (v : Bool) : Int × Int :=
  if (best l j).1.size = 0 then (0, 0) else
  if v = true ∧ goesOn (numAt l (j + (best l j).1.size)) = true ∧ bt (best l j).1 ((best l j).1.size - 1) ≠ 59 then (0, 0) else ((best l j).2, j + (best l j).1.size)
def refOf (l : List Int) (a : Int) (v : Bool) : Int × Int := if numAt l (a + 1) = 35 then refDig l (a + 2) else refNam l (a + 1) v
def refRead (l : List Int) (a : Int) (v : Bool) : List Int × Int :=
  if (l.length : Int) > 3000 ∨ numAt l a ≠ 38 then ([], a) else if (refOf l a v).2 > 0 then ([(refOf l a v).1], (refOf l a v).2) else ([38], a + 1)
theorem numAt_in {l : List Int} {j : Int} (h0 : 0 ≤ j) (h : j < l.length) : numAt l j = rd l j := by unfold numAt; rw [if_pos ⟨h0, h⟩]
theorem numAt_out {l : List Int} {j : Int} (h : j < 0 ∨ (l.length : Int) ≤ j) : numAt l j = -1 := by unfold numAt; rw [if_neg (by omega)]
theorem digitOf_none (b : Int) : digitOf (-1) b = -1 := by unfold digitOf; split <;> simp
theorem digitOf_le {x b : Int} (hb : b = 10 ∨ b = 16) (h : digitOf x b ≥ 0) : digitOf x b ≤ b - 1 ∧ digitOf x b ≤ 15 := by
  unfold digitOf at h ⊢
  rw [if_neg (by omega)] at h ⊢
  split at h
  · omega
  · split at h
    · omega
    · split at h
      · omega
      · omega
theorem digs_in {l : List Int} {b j : Int} (h : digitOf (numAt l j) b ≥ 0) : 0 ≤ j ∧ j < l.length := by
  by_cases c : 0 ≤ j ∧ j < l.length
  · exact c
  · rw [numAt_out (by omega), digitOf_none] at h; omega
theorem digs_stop {l : List Int} {b a : Int} (h : ¬ digitOf (numAt l a) b ≥ 0) (n : Nat) (x c : Int) : digs l b n a x c = (x, c, a) := by
  cases n with
  | zero => rfl
  | succ n => simp only [digs]; rw [if_neg h]
theorem digs_go {l : List Int} {b a : Int} (h : digitOf (numAt l a) b ≥ 0) (n : Nat) (x c : Int) : digs l b (n + 1) a x c = digs l b n (a + 1) (if (if 0 < c ∨ 0 < digitOf (numAt l a) b then c + 1 else c) ≤ 7 then b * x + digitOf (numAt l a) b else x) (if 0 < c ∨ 0 < digitOf (numAt l a) b then c + 1 else c) := by
  simp only [digs]; rw [if_pos h]
theorem pow16 (n : Nat) (h : n ≤ 7) : 1 ≤ (16 : Int) ^ n ∧ (16 : Int) ^ n ≤ 268435456 := by
  have : n = 0 ∨ n = 1 ∨ n = 2 ∨ n = 3 ∨ n = 4 ∨ n = 5 ∨ n = 6 ∨ n = 7 := by omega
  rcases this with rfl | rfl | rfl | rfl | rfl | rfl | rfl | rfl <;> decide
/-- What holds of the value: as many digits as count. -/
def digInv (x c : Int) : Prop := 0 ≤ c ∧ 0 ≤ x ∧ x < 16 ^ (min c.toNat 7)
theorem digInv_bound {x c : Int} (h : digInv x c) : 0 ≤ x ∧ x < 268435456 ∧ 0 ≤ c := by
  have := pow16 (min c.toNat 7) (by omega)
  unfold digInv at h; omega
theorem digInv_step {x c d b : Int} (h : digInv x c) (hb : b = 10 ∨ b = 16) (hd0 : 0 ≤ d) (hd : d ≤ b - 1) (c' : Int) (hc : c' = if 0 < c ∨ 0 < d then c + 1 else c) : digInv (if c' ≤ 7 then b * x + d else x) c' := by
  obtain ⟨h0, h1, h2⟩ := h
  by_cases hz : 0 < c ∨ 0 < d
  · rw [if_pos hz] at hc
    by_cases h7 : c' ≤ 7
    · rw [if_pos h7]
      have e : min c'.toNat 7 = min c.toNat 7 + 1 := by omega
      refine ⟨by omega, ?_, ?_⟩
      · rcases hb with rfl | rfl <;> omega
      · rw [e, Int.pow_succ]
        generalize (16 : Int) ^ (min c.toNat 7) = p at *
        rcases hb with rfl | rfl <;> omega
    · rw [if_neg h7]
      refine ⟨by omega, h1, ?_⟩
      have e : min c'.toNat 7 = min c.toNat 7 := by omega
      rw [e]; exact h2
  · rw [if_neg hz] at hc
    subst hc
    have hc0 : c' = 0 := by omega
    subst hc0
    have hx : x = 0 := by
      have : min (0 : Int).toNat 7 = 0 := rfl
      rw [this] at h2
      have : (16 : Int) ^ 0 = 1 := rfl
      omega
    rw [if_pos (by omega), hx]
    refine ⟨by omega, by omega, ?_⟩
    have : min (0 : Int).toNat 7 = 0 := rfl
    rw [this]
    have : (16 : Int) ^ 0 = 1 := rfl
    omega

end Go.Proofs.Ytplgbnalflpdhaa.Y

/- Plain lemmas over numbers and lists (inrI). Conditions: as each states. -/
namespace Go.Proofs.Ytplgbnalflpdhaa.Y
open Go.RowKit Go.Proofs.Ytplgbnalflpdhaa.X Go.Proofs.YtplgbnalflpdhaaW.PrintWords Go.Proofs.YtplgbnalflpdhaaW.PrintLast Go.Proofs.YtplgbnalflpdhaaW.PrintMore Go.Proofs.Ytplgbnalflpdhaa.Y
set_option linter.unusedVariables false
set_option linter.unusedSimpArgs false
theorem impl_inRange_eq (x a b : Int) : impl_inRange.f x a b = some (decide (a ≤ x ∧ x ≤ b)) := by
  unfold impl_inRange.f
  by_cases h : x ≥ a
  · rw [if_pos h]; congr 1; simp; omega
  · rw [if_neg h]; congr 1; simp; omega

end Go.Proofs.Ytplgbnalflpdhaa.Y

/- Plain lemmas over numbers and lists (lowerI). Conditions: as each states. -/
namespace Go.Proofs.Ytplgbnalflpdhaa.Y
open Go.RowKit Go.Proofs.Ytplgbnalflpdhaa.X Go.Proofs.YtplgbnalflpdhaaW.PrintWords Go.Proofs.YtplgbnalflpdhaaW.PrintLast Go.Proofs.YtplgbnalflpdhaaW.PrintMore Go.Proofs.Ytplgbnalflpdhaa.Y
set_option linter.unusedVariables false
set_option linter.unusedSimpArgs false
theorem impl_LowerOf_eq (x : Int) : impl_LowerOf.f x = some (lowerOf x) := by
  unfold impl_LowerOf.f lowerOf
  simp only [impl_inRange_eq, Option.bind_some]
  by_cases h : 65 ≤ x ∧ x ≤ 90
  · simp only [h, and_self, decide_true, if_true]; rw [w64 (x := x - 65) (by omega) (by omega), w64 (by omega) (by omega)]; congr 1; omega
  · simp [h]

end Go.Proofs.Ytplgbnalflpdhaa.Y

/- Plain lemmas over numbers and lists (digitI). Conditions: as each states. -/
namespace Go.Proofs.Ytplgbnalflpdhaa.Y
open Go.RowKit Go.Proofs.Ytplgbnalflpdhaa.X Go.Proofs.YtplgbnalflpdhaaW.PrintWords Go.Proofs.YtplgbnalflpdhaaW.PrintLast Go.Proofs.YtplgbnalflpdhaaW.PrintMore Go.Proofs.Ytplgbnalflpdhaa.Y
set_option linter.unusedVariables false
set_option linter.unusedSimpArgs false
theorem impl_DigitOf_eq (k : Nat) (x b : Int) : impl_DigitOf.f (k + 1) x b = some (digitOf x b) := by
  unfold impl_DigitOf.f digitOf
  simp only [impl_DigitOf.j0, impl_LowerOf_eq, impl_inRange_eq, Option.bind_some]
  by_cases h10 : b = 10
  · subst h10
    by_cases h1 : 48 ≤ x ∧ x ≤ 57
    · simp [h1]; exact w64 (by omega) (by omega)
    · simp [h1]
  · by_cases h16 : b = 16
    · subst h16
      by_cases h1 : 48 ≤ x ∧ x ≤ 57
      · simp [h1]; exact w64 (by omega) (by omega)
      · by_cases h2 : 65 ≤ x ∧ x ≤ 70
        · have e : lowerOf x = x + 32 := by unfold lowerOf; rw [if_pos (by omega)]
          have h4 : 97 ≤ x + 32 ∧ x + 32 ≤ 102 := by omega
          simp only [e]
          simp [h1, h2, h4]; rw [w64 (x := x + 32 - 97) (by omega) (by omega), w64 (by omega) (by omega)]; omega
        · by_cases h3 : 97 ≤ x ∧ x ≤ 102
          · have e : lowerOf x = x := by unfold lowerOf; rw [if_neg (by omega)]
            simp only [e]
            simp [h1, h2, h3]; rw [w64 (x := x - 97) (by omega) (by omega), w64 (by omega) (by omega)]; omega
          · have h4 : ¬ (97 ≤ lowerOf x ∧ lowerOf x ≤ 102) := by unfold lowerOf; split <;> omega
            simp [h1, h2, h3, h4]
    · simp [h10, h16]
theorem impl_DigitOf_ev (x b : Int) : Ev (fun k => impl_DigitOf.f k x b) (digitOf x b) :=
  ⟨1, fun k hk => by obtain ⟨m, rfl⟩ : ∃ m, k = m + 1 := ⟨k - 1, by omega⟩
                     exact impl_DigitOf_eq m x b⟩

end Go.Proofs.Ytplgbnalflpdhaa.Y

/- Plain lemmas over numbers and lists (refDigI). Conditions: as each states. -/
namespace Go.Proofs.Ytplgbnalflpdhaa.Y
open Go.RowKit Go.Proofs.Ytplgbnalflpdhaa.X Go.Proofs.YtplgbnalflpdhaaW.PrintWords Go.Proofs.YtplgbnalflpdhaaW.PrintLast Go.Proofs.YtplgbnalflpdhaaW.PrintMore Go.Proofs.Ytplgbnalflpdhaa.Y
set_option linter.unusedVariables false
set_option linter.unusedSimpArgs false
theorem impl_pointAt_eq (l : List Int) (j : Int) (hl : l.length ≤ 100000) : impl_pointAt.f l j = some (numAt l j) := by
  unfold impl_pointAt.f numAt
  simp only [impl_inRange_eq, Option.bind_some]
  rw [w64 (by omega) (by omega)]
  by_cases h : 0 ≤ j ∧ j < l.length
  · rw [decide_eq_true (by omega), if_pos rfl, if_pos h.1, if_pos h.2, if_pos h]
  · rw [decide_eq_false (by omega), if_neg (by simp), if_neg h]
theorem readDigits_l0 (l : List Int) (b : Int) (hb : b = 10 ∨ b = 16) (hl : l.length ≤ 100000) : ∀ (d : Nat) (n : Nat) (a x c : Int), 0 ≤ a → (l.length : Int) - a ≤ d → d ≤ n → digInv x c → c ≤ a →
    Ev (fun k => impl_readDigits.l0 k l a b (if c > 7 then 1114112 else x) c) ((if (digs l b n a x c).2.1 > 7 then 1114112 else (digs l b n a x c).1), (digs l b n a x c).2.2) := by
  intro d
  induction d with
  | zero =>
    intro n a x c ha hd hn hi hca
    refine ev_succ ?_
    simp only [impl_readDigits.l0, impl_pointAt_eq l a hl, Option.bind_some]
    refine Ev.bind (impl_DigitOf_ev _ _) ?_
    have hno : ¬ digitOf (numAt l a) b ≥ 0 := fun h => by have := digs_in h; omega
    rw [digs_stop hno]
    exact ev_neg hno (Ev.now _)
  | succ d ih =>
    intro n a x c ha hd hn hi hca
    obtain ⟨n, rfl⟩ : ∃ m, n = m + 1 := ⟨n - 1, by omega⟩
    refine ev_succ ?_
    simp only [impl_readDigits.l0, impl_pointAt_eq l a hl, Option.bind_some]
    refine Ev.bind (impl_DigitOf_ev _ _) ?_
    by_cases hy : digitOf (numAt l a) b ≥ 0
    · obtain ⟨h0, h1⟩ := digs_in hy
      have hdl := digitOf_le hb hy
      have hrd : rd l a = numAt l a := (numAt_in h0 h1).symm
      have hbd := digInv_bound hi
      rw [digs_go hy, hrd]
      refine ev_pos hy (ev_pos h0 (ev_pos h1 (Ev.bind (impl_DigitOf_ev _ _) ?_)))
      generalize digitOf (numAt l a) b = dg at *
      have hst := digInv_step hi hb hy (by omega) _ rfl
      have key : ∀ bb : Bool, (bb = true ↔ (0 < c ∨ 0 < dg)) → Ev (fun k => impl_readDigits.j1 k l a b (if c > 7 then 1114112 else x) c dg bb) ((if (digs l b n (a + 1) (if (if 0 < c ∨ 0 < dg then c + 1 else c) ≤ 7 then b * x + dg else x) (if 0 < c ∨ 0 < dg then c + 1 else c)).2.1 > 7 then 1114112 else (digs l b n (a + 1) (if (if 0 < c ∨ 0 < dg then c + 1 else c) ≤ 7 then b * x + dg else x) (if 0 < c ∨ 0 < dg then c + 1 else c)).1), (digs l b n (a + 1) (if (if 0 < c ∨ 0 < dg then c + 1 else c) ≤ 7 then b * x + dg else x) (if 0 < c ∨ 0 < dg then c + 1 else c)).2.2) := by
        intro bb hbb
        refine ev_succ ?_
        simp only [impl_readDigits.j1]
        have hbx : -9223372036854775808 ≤ b * x ∧ b * x ≤ 9223372036854775807 := by rcases hb with rfl | rfl <;> omega
        have hbx2 : b * x ≤ 9000000000 := by rcases hb with rfl | rfl <;> omega
        have hbx3 : 0 ≤ b * x := by rcases hb with rfl | rfl <;> omega
        by_cases hz : 0 < c ∨ 0 < dg
        · have hw : wrap64 (c + 1) = c + 1 := w64 (by omega) (by omega)
          simp only [if_pos hz] at hst ⊢
          rw [hw, w64 (x := a + 1) (by omega) (by omega)]
          refine ev_pos (hbb.2 hz) ?_
          have := ih n (a + 1) (if c + 1 ≤ 7 then b * x + dg else x) (c + 1) (by omega) (by omega) (by omega) hst (by omega)
          by_cases h7 : c + 1 > 7
          · rw [if_pos h7] at this
            exact ev_pos h7 this
          · rw [if_neg h7] at this
            refine ev_neg h7 ?_
            rw [if_neg (show ¬ c > 7 by omega), Int.mul_comm x b, w64 hbx.1 hbx.2, w64 (by omega) (by omega)]
            rw [if_pos (show c + 1 ≤ 7 by omega)] at this ⊢
            exact this
        · simp only [if_neg hz] at hst ⊢
          rw [w64 (x := a + 1) (by omega) (by omega)]
          refine ev_neg (fun h => hz (hbb.1 h)) ?_
          have := ih n (a + 1) (if c ≤ 7 then b * x + dg else x) c (by omega) (by omega) (by omega) hst (by omega)
          have h7 : ¬ c > 7 := by omega
          rw [if_neg h7] at this
          refine ev_neg h7 ?_
          rw [if_neg h7, Int.mul_comm x b, w64 hbx.1 hbx.2, w64 (by omega) (by omega)]
          rw [if_pos (show c ≤ 7 by omega)] at this ⊢
          exact this
      by_cases hc : c > 0
      · exact ev_pos hc (key true (by simp; omega))
      · exact ev_neg hc (key _ (by simp; omega))
    · rw [digs_stop hy]
      exact ev_neg hy (Ev.now _)
theorem impl_readDigits_ev (l : List Int) (a b : Int) (hb : b = 10 ∨ b = 16) (hl : l.length ≤ 100000) (ha : 0 ≤ a) : Ev (fun k => impl_readDigits.f k l a b) ((if (digs l b l.length a 0 0).2.1 > 7 then 1114112 else (digs l b l.length a 0 0).1), (digs l b l.length a 0 0).2.2) := by
  unfold impl_readDigits.f
  have := readDigits_l0 l b hb hl l.length l.length a 0 0 ha (by omega) (Nat.le_refl _) ⟨by omega, by omega, by decide⟩ ha
  simpa using this
theorem impl_refDigits_ev (l : List Int) (a : Int) (hl : l.length ≤ 100000) (ha : 0 ≤ a) (ha2 : a ≤ 100000000) : Ev (fun k => impl_refDigits.f k l a) (if (refDig l a).2 = 0 then (0, 0, false) else ((refDig l a).1, (refDig l a).2, true)) := by
  unfold impl_refDigits.f
  simp only [impl_pointAt_eq l a hl, impl_LowerOf_eq, Option.bind_some]
  have hlow : lowerOf (numAt l a) = 120 ↔ (numAt l a = 120 ∨ numAt l a = 88) := by unfold lowerOf; split <;> omega
  have hj : ∀ f b : Int, (b = 10 ∨ b = 16) → 0 ≤ f → f ≤ 100000001 → refBase l a = b → refFrom l a = f → Ev (fun k => impl_refDigits.j0 k l f b) (if (refDig l a).2 = 0 then (0, 0, false) else ((refDig l a).1, (refDig l a).2, true)) := by
    intro f b hb hf hf2 e1 e2
    refine ev_succ ?_
    simp only [impl_refDigits.j0]
    refine Ev.bind (impl_readDigits_ev l f b hb hl hf) ?_
    have hge : f ≤ (digs l b l.length f 0 0).2.2 ∧ (digs l b l.length f 0 0).2.2 ≤ f + l.length := by
      have key : ∀ (n : Nat) (a x c : Int), a ≤ (digs l b n a x c).2.2 ∧ (digs l b n a x c).2.2 ≤ a + n := by
        intro n
        induction n with
        | zero => intro a x c; simp [digs]
        | succ n ih =>
          intro a x c
          by_cases h : digitOf (numAt l a) b ≥ 0
          · rw [digs_go h]
            have := ih (a + 1) (if (if 0 < c ∨ 0 < digitOf (numAt l a) b then c + 1 else c) ≤ 7 then b * x + digitOf (numAt l a) b else x) (if 0 < c ∨ 0 < digitOf (numAt l a) b then c + 1 else c)
            omega
          · rw [digs_stop h]; simp only; omega
      exact key _ _ _ _
    unfold refDig
    rw [e1, e2]
    generalize digs l b l.length f 0 0 = D at *
    by_cases hD : D.2.2 = f
    · simp only [if_pos hD]
      exact ev_some (by simp)
    · simp only [if_neg hD, impl_pointAt_eq l _ hl, impl_RefNumber_eq, Option.bind_some]
      rw [w64 (x := D.2.2 + 1) (by omega) (by omega)]
      by_cases hs : numAt l D.2.2 = 59
      · simp only [if_pos hs]; exact ev_some (by rw [if_neg (show ¬ D.2.2 + 1 = 0 by omega)])
      · simp only [if_neg hs]; exact ev_some (by rw [if_neg (show ¬ D.2.2 = 0 by omega)])
  rw [w64 (x := a + 1) (by omega) (by omega)]
  by_cases h : lowerOf (numAt l a) = 120
  · exact ev_pos h (hj (a + 1) 16 (.inr rfl) (by omega) (by omega) (by unfold refBase; rw [if_pos (hlow.1 h)]) (by unfold refFrom; rw [if_pos (hlow.1 h)]))
  · exact ev_neg h (hj a 10 (.inl rfl) ha (by omega) (by unfold refBase; rw [if_neg (fun g => h (hlow.2 g))]) (by unfold refFrom; rw [if_neg (fun g => h (hlow.2 g))]))

end Go.Proofs.Ytplgbnalflpdhaa.Y

/- Plain lemmas over numbers and lists (alphaI). Conditions: as each states. -/
namespace Go.Proofs.Ytplgbnalflpdhaa.Y
open Go.RowKit Go.Proofs.Ytplgbnalflpdhaa.X Go.Proofs.YtplgbnalflpdhaaW.PrintWords Go.Proofs.YtplgbnalflpdhaaW.PrintLast Go.Proofs.YtplgbnalflpdhaaW.PrintMore Go.Proofs.Ytplgbnalflpdhaa.Y
set_option linter.unusedVariables false
set_option linter.unusedSimpArgs false
theorem impl_IsAlpha_eq (x : Int) : impl_IsAlpha.f x = some (isAlpha x) := by
  unfold impl_IsAlpha.f isAlpha
  simp only [impl_inRange_eq, Option.bind_some]
  by_cases h : 65 ≤ x ∧ x ≤ 90 <;> simp [h]

end Go.Proofs.Ytplgbnalflpdhaa.Y

/- Plain lemmas over numbers and lists (pointsPut). Conditions: as each states. -/
namespace Go.Proofs.Ytplgbnalflpdhaa.Y
open Go.RowKit Go.Proofs.Ytplgbnalflpdhaa.X Go.Proofs.YtplgbnalflpdhaaW.PrintWords Go.Proofs.YtplgbnalflpdhaaW.PrintLast Go.Proofs.YtplgbnalflpdhaaW.PrintMore Go.Proofs.Ytplgbnalflpdhaa.Y
set_option linter.unusedVariables false
set_option linter.unusedSimpArgs false
def putAll (l : List Int) : List Int := l.flatMap pointPut
theorem putAll_len (l : List Int) : l.length ≤ (putAll l).length ∧ (putAll l).length ≤ 4 * l.length := by
  induction l with
  | nil => simp [putAll]
  | cons x xs ih =>
    have := pointPut_len x
    simp only [putAll, List.flatMap_cons, List.length_append, List.length_cons] at *
    omega
theorem rd_get {l : List Int} {i : Int} (h0 : 0 ≤ i) (h : i < l.length) : rd l i = l[i.toNat]'(by omega) := by
  unfold rd; rw [List.getD_eq_getElem?_getD, List.getElem?_eq_getElem (by omega)]; rfl
theorem drop_cons {l : List Int} {i : Int} (h0 : 0 ≤ i) (h : i < l.length) : l.drop i.toNat = rd l i :: l.drop (i + 1).toNat := by
  have e : (i + 1).toNat = i.toNat + 1 := by omega
  rw [e, rd_get h0 h]; exact List.drop_eq_getElem_cons (by omega)

end Go.Proofs.Ytplgbnalflpdhaa.Y

/- Plain lemmas over numbers and lists (refNamI). Conditions: as each states. -/
namespace Go.Proofs.Ytplgbnalflpdhaa.Y
open Go.RowKit Go.Proofs.Ytplgbnalflpdhaa.X Go.Proofs.YtplgbnalflpdhaaW.PrintWords Go.Proofs.YtplgbnalflpdhaaW.PrintLast Go.Proofs.YtplgbnalflpdhaaW.PrintMore Go.Proofs.Ytplgbnalflpdhaa.Y
set_option linter.unusedVariables false
set_option linter.unusedSimpArgs false
theorem drop_get {α : Type} {l : List α} {i : Nat} (h : i < l.length) : l.drop i = l[i] :: l.drop (i + 1) := List.drop_eq_getElem_cons h
theorem stands_ev (l : List Int) (s : ByteArray) (hl : l.length ≤ 100000) (hs : s.size ≤ 1000) (j : Int) (hj : 0 ≤ j) (hj2 : j ≤ 100000000) : ∀ (d : Nat) (i : Int), 0 ≤ i → i + d = s.size → Ev (fun k => impl_standsAt.l0 k l j s i) (stands l (j + i) ((bytesOf s).drop i.toNat)) := by
  intro d
  have hlen := bytesOf_length s
  induction d with
  | zero =>
    intro i h0 h
    refine ev_succ ?_
    simp only [impl_standsAt.l0]
    refine ev_neg (by omega) (ev_some ?_)
    rw [List.drop_of_length_le (by omega)]; rfl
  | succ d ih =>
    intro i h0 h
    refine ev_succ ?_
    simp only [impl_standsAt.l0, impl_pointAt_eq l _ hl, Option.bind_some]
    have hr := bt_range s i
    rw [w64 (x := bt s i) (by omega) (by omega), w64 (x := i + 1) (by omega) (by omega), w64 (x := j + i) (by omega) (by omega), drop_cons h0 (by omega), rd_bytesOf]
    refine ev_pos (by omega) (ev_pos h0 ?_)
    simp only [stands]
    by_cases he : numAt l (j + i) = bt s i
    · rw [decide_eq_true he, Bool.true_and, Int.add_assoc]
      exact ev_pos he (ih (i + 1) (by omega) (by omega))
    · rw [decide_eq_false he, Bool.false_and]
      exact ev_neg he (Ev.now _)
theorem impl_standsAt_ev (l : List Int) (s : ByteArray) (hl : l.length ≤ 100000) (hs : s.size ≤ 1000) (j : Int) (hj : 0 ≤ j) (hj2 : j ≤ 100000000) : Ev (fun k => impl_standsAt.f k l j s) (stands l j (bytesOf s)) := by
  have := stands_ev l s hl hs j hj hj2 s.size 0 (by omega) (by omega)
  simpa [impl_standsAt.f] using this
theorem refList_size : ∀ r ∈ refList, 0 < r.f0.size ∧ r.f0.size ≤ 20 := by decide +kernel
theorem refList_semi : ∀ r ∈ refList, strings_HasSuffix.f r.f0 (⟨#[59]⟩ : ByteArray) = some (decide (bt r.f0 ((r.f0.size : Int) - 1) = 59)) := by decide +kernel
theorem best_mem (l : List Int) (j : Int) (rs : List S39) (hrs : ∀ r ∈ rs, r ∈ refList) : ∀ cur : ByteArray × Int, (cur = (⟨#[]⟩, 0) ∨ ∃ r ∈ refList, cur = (r.f0, r.f1)) → rs.foldl (pick l j) cur = (⟨#[]⟩, 0) ∨ ∃ r ∈ refList, rs.foldl (pick l j) cur = (r.f0, r.f1) := by
  induction rs with
  | nil => intro cur h; exact h
  | cons r rs ih =>
    intro cur h
    refine ih (fun x hx => hrs x (by simp [hx])) _ ?_
    unfold pick
    split
    · exact .inr ⟨r, hrs r (by simp), rfl⟩
    · exact h
def namRes (l : List Int) (j : Int) (v : Bool) (b : ByteArray × Int) : Int × Int :=
  if b.1.size = 0 then (0, 0) else if v = true ∧ goesOn (numAt l (j + b.1.size)) = true ∧ bt b.1 (b.1.size - 1) ≠ 59 then (0, 0) else (b.2, j + b.1.size)
theorem refNam_is (l : List Int) (j : Int) (v : Bool) : refNam l j v = namRes l j v (best l j) := rfl
def tri (r : Int × Int) : Int × Int × Bool := if r.2 = 0 then (0, 0, false) else (r.1, r.2, true)
theorem size_nil {s : ByteArray} (h : s.toList = ([] : List UInt8)) : s.size = 0 := by
  rw [Lib.toList_data] at h
  have := congrArg List.length h
  simpa using this
theorem nil_size {s : ByteArray} (h : s.size = 0) : s.toList = ([] : List UInt8) := by
  rw [Lib.toList_data]
  exact List.length_eq_zero_iff.1 (by simpa using h)
theorem refName_l0 (l : List Int) (j : Int) (v : Bool) (hl : l.length ≤ 100000) (hj : 0 < j) (hj2 : j ≤ 100000000) : ∀ (d i : Nat) (b : ByteArray × Int), i + d = 24 → (b = (⟨#[]⟩, 0) ∨ ∃ r ∈ refList, b = (r.f0, r.f1)) → Ev (fun k => impl_refName.l0 k l j v refList 24 i b.1 b.2) (tri (namRes l j v ((refList.drop i).foldl (pick l j) b))) := by
  intro d
  have h24 := refList_len
  induction d with
  | zero =>
    intro i b h hb
    refine ev_succ ?_
    simp only [impl_refName.l0]
    rw [List.drop_of_length_le (by omega), List.foldl_nil]
    have hsz : b.1.size ≤ 20 := by
      rcases hb with rfl | ⟨r, hr, rfl⟩
      · decide
      · exact (refList_size r hr).2
    rw [w64 (x := j + (b.1.size : Int)) (by omega) (by omega)]
    refine ev_neg (by omega) ?_
    simp only [impl_pointAt_eq l _ hl, impl_IsAlpha_eq, Option.bind_some]
    rcases hb with rfl | ⟨r, hr, rfl⟩
    · have e1 : (⟨#[]⟩ : ByteArray).toList = ([] : List UInt8) := nil_size rfl
      have e2 : (⟨#[]⟩ : ByteArray).size = 0 := rfl
      simp only [namRes, e1, e2, if_true]
      generalize numAt l _ = af
      by_cases h1 : af = 61
      · exact ev_pos h1 (ev_some rfl)
      · refine ev_neg h1 ?_
        by_cases h2 : isAlpha af = true
        · exact ev_pos h2 (ev_some rfl)
        · exact ev_neg h2 (Ev.bind (impl_DigitOf_ev _ _) (ev_some rfl))
    · have hs := refList_semi r hr
      have hp := (refList_size r hr).1
      have hne : ¬ r.f0.toList = ([] : List UInt8) := fun g => by have := size_nil g; omega
      simp only [namRes, hs, Option.bind_some]
      rw [if_neg (show ¬ r.f0.size = 0 by omega)]
      generalize numAt l _ = af
      have hcore : ∀ g : Bool, goesOn af = g → Ev (fun _ => if v = true then (if g = true then (if decide (bt r.f0 ((r.f0.size : Int) - 1) = 59) = true then some (r.f1, j + (r.f0.size : Int), true) else some (0, 0, false)) else some (r.f1, j + (r.f0.size : Int), true)) else some (r.f1, j + (r.f0.size : Int), true)) (tri (if v = true ∧ goesOn af = true ∧ bt r.f0 ((r.f0.size : Int) - 1) ≠ 59 then (0, 0) else (r.f1, j + (r.f0.size : Int)))) := by
        intro g hg
        rw [hg]
        refine ev_const ?_
        have ht : tri (r.f1, j + (r.f0.size : Int)) = (r.f1, j + (r.f0.size : Int), true) := by unfold tri; rw [if_neg (by simp only; omega)]
        cases v with
        | false => simp [ht]
        | true =>
          cases g with
          | false => simp [ht]
          | true =>
            by_cases h59 : bt r.f0 ((r.f0.size : Int) - 1) = 59
            · simp [h59, ht]
            · simp [h59, tri]
      by_cases h1 : af = 61
      · refine ev_pos h1 (ev_neg hne ?_)
        have := hcore true (by unfold goesOn; simp [h1])
        simpa using this
      · refine ev_neg h1 ?_
        by_cases h2 : isAlpha af = true
        · refine ev_pos h2 (ev_neg hne ?_)
          have := hcore true (by unfold goesOn; simp [h2])
          simpa using this
        · refine ev_neg h2 (Ev.bind (impl_DigitOf_ev _ _) (ev_neg hne ?_))
          have := hcore (decide (digitOf af 10 ≥ 0)) (by unfold goesOn; simp [h1, h2])
          simpa using this
  | succ d ih =>
    intro i b h hb
    have hi : i < refList.length := by omega
    have hsz : b.1.size ≤ 20 := by
      rcases hb with rfl | ⟨r, hr, rfl⟩
      · decide
      · exact (refList_size r hr).2
    have hm : refList[i] ∈ refList := List.getElem_mem _
    have hrs := refList_size _ hm
    have hrd : rd_T39 refList (i : Int) = refList[i] := by
      unfold rd_T39
      rw [List.getD_eq_getElem?_getD, show ((i : Int).toNat) = i by omega, List.getElem?_eq_getElem hi]; rfl
    refine ev_succ ?_
    simp only [impl_refName.l0]
    rw [drop_get hi, List.foldl_cons, hrd, w64 (x := (i : Int) + 1) (by omega) (by omega)]
    refine ev_pos (by omega) (ev_pos (by omega) (ev_pos (by omega) ?_))
    have hih := ih (i + 1) (pick l j b refList[i]) (by omega) (by
      unfold pick
      split
      · exact .inr ⟨_, hm, rfl⟩
      · exact hb)
    generalize hq : pick l j b refList[i] = q at hih ⊢
    unfold pick at hq
    by_cases h1 : (refList[i].f0.size : Int) > (b.1.size : Int)
    · refine ev_pos h1 (Ev.bind (impl_standsAt_ev l refList[i].f0 hl (by omega) j (by omega) hj2) ?_)
      by_cases h2 : stands l j (bytesOf refList[i].f0) = true
      · rw [if_pos ⟨by omega, h2⟩] at hq
        subst hq
        exact ev_pos h2 hih
      · rw [if_neg (fun g => h2 g.2)] at hq
        subst hq
        exact ev_neg h2 hih
    · rw [if_neg (fun g => h1 (by omega))] at hq
      subst hq
      exact ev_neg h1 hih
theorem impl_refName_ev (l : List Int) (j : Int) (v : Bool) (hl : l.length ≤ 100000) (hj : 0 < j) (hj2 : j ≤ 100000000) : Ev (fun k => impl_refName.f k l j v) (tri (refNam l j v)) := by
  unfold impl_refName.f
  simp only [refList_is, Option.bind_some]
  exact refName_l0 l j v hl hj hj2 24 0 (⟨#[]⟩, 0) rfl (.inl rfl)
theorem impl_RefRead_ev (l : List Int) (a : Int) (v : Bool) : Ev (fun k => impl_RefRead.f k l a v) (refRead l a v) := by
  unfold impl_RefRead.f refRead
  have hjt : Ev (fun k => impl_RefRead.j0 k l a v true) ([], a) := by
    refine ev_succ ?_
    simp only [impl_RefRead.j0]
    exact ev_pos (by simp) (Ev.now _)
  by_cases hl : (l.length : Int) > 3000
  · rw [if_pos (.inl hl)]; exact ev_pos hl hjt
  · refine ev_neg hl ?_
    simp only [impl_pointAt_eq l a (by omega), Option.bind_some]
    by_cases h38 : numAt l a = 38
    · rw [if_neg (by omega)]
      have hin : 0 ≤ a ∧ a < l.length := by
        by_cases c : 0 ≤ a ∧ a < l.length
        · exact c
        · rw [numAt_out (by omega)] at h38; omega
      refine ev_succ ?_
      simp only [impl_RefRead.j0, impl_pointAt_eq l _ (show l.length ≤ 100000 by omega), Option.bind_some]
      rw [w64 (x := a + 1) (by omega) (by omega), w64 (x := a + 2) (by omega) (by omega)]
      refine ev_neg (by simp [h38]) ?_
      unfold refOf
      by_cases h35 : numAt l (a + 1) = 35
      · simp only [if_pos h35]
        have hr : (refDig l (a + 2)).2 = 0 ∨ (refDig l (a + 2)).2 > 0 := by
          unfold refDig
          split
          · exact .inl rfl
          · have : a + 2 ≤ refFrom l (a + 2) := by unfold refFrom; split <;> omega
            have key : ∀ (n : Nat) (b a x c : Int), a ≤ (digs l b n a x c).2.2 := by
              intro n
              induction n with
              | zero => intro b a x c; simp [digs]
              | succ n ih =>
                intro b a x c
                by_cases h : digitOf (numAt l a) b ≥ 0
                · rw [digs_go h]
                  have := ih b (a + 1) (if (if 0 < c ∨ 0 < digitOf (numAt l a) b then c + 1 else c) ≤ 7 then b * x + digitOf (numAt l a) b else x) (if 0 < c ∨ 0 < digitOf (numAt l a) b then c + 1 else c)
                  omega
                · rw [digs_stop h]; simp
            have := key l.length (refBase l (a + 2)) (refFrom l (a + 2)) 0 0
            right
            simp only
            split <;> omega
        refine Ev.bind (impl_refDigits_ev l (a + 2) (by omega) (by omega) (by omega)) ?_
        rcases hr with hr | hr
        · simp only [hr, if_true]
          exact ev_neg (by simp) (ev_some (by simp))
        · rw [if_neg (show ¬ (refDig l (a + 2)).2 = 0 by omega), if_pos hr]
          exact ev_pos rfl (Ev.now _)
      · simp only [if_neg h35]
        refine Ev.bind (impl_refName_ev l (a + 1) v (by omega) (by omega) (by omega)) ?_
        have hr : (refNam l (a + 1) v).2 = 0 ∨ (refNam l (a + 1) v).2 > 0 := by
          unfold refNam
          split
          · exact .inl rfl
          · split
            · exact .inl rfl
            · exact .inr (by simp only; omega)
        unfold tri
        generalize refNam l (a + 1) v = q at hr ⊢
        rcases hr with hr | hr
        · simp only [hr, if_true]
          exact ev_neg (by simp) (ev_some (by simp))
        · rw [if_neg (show ¬ q.2 = 0 by omega), if_pos hr]
          exact ev_pos rfl (Ev.now _)
    · rw [if_pos (.inr h38)]
      have : (numAt l a != 38) = true := by simpa using h38
      rw [this]; exact hjt

end Go.Proofs.Ytplgbnalflpdhaa.Y

/- Plain lemmas over numbers and lists (digitS). Conditions: as each states. -/
namespace Go.Proofs.Ytplgbnalflpdhaa.Y
open Go.RowKit Go.Proofs.Ytplgbnalflpdhaa.X Go.Proofs.YtplgbnalflpdhaaW.PrintWords Go.Proofs.YtplgbnalflpdhaaW.PrintLast Go.Proofs.YtplgbnalflpdhaaW.PrintMore Go.Proofs.Ytplgbnalflpdhaa.Y
set_option linter.unusedVariables false
set_option linter.unusedSimpArgs false
theorem spec_DigitOf_eq (k : Nat) (x b : Int) : spec_DigitOf.f (k + 2) x b = some (digitOf x b) := by
  unfold spec_DigitOf.f digitOf
  simp only [spec_DigitOf.j0, spec_DigitOf.j1, spec_l1In_eq, Option.bind_some]
  by_cases h10 : b = 10
  · subst h10
    by_cases h1 : 48 ≤ x ∧ x ≤ 57
    · simp [h1]; exact w64 (by omega) (by omega)
    · simp [h1]
  · by_cases h16 : b = 16
    · subst h16
      by_cases h1 : 48 ≤ x ∧ x ≤ 57
      · simp [h1]; exact w64 (by omega) (by omega)
      · by_cases h2 : 65 ≤ x ∧ x ≤ 70
        · simp [h1, h2]; rw [w64 (x := x - 65) (by omega) (by omega), w64 (by omega) (by omega)]; omega
        · by_cases h3 : 97 ≤ x ∧ x ≤ 102
          · simp [h1, h2, h3]; rw [w64 (x := x - 97) (by omega) (by omega), w64 (by omega) (by omega)]; omega
          · simp [h1, h2, h3]
    · simp [h10, h16]
theorem spec_DigitOf_ev (x b : Int) : Ev (fun k => spec_DigitOf.f k x b) (digitOf x b) :=
  ⟨2, fun k hk => by obtain ⟨m, rfl⟩ : ∃ m, k = m + 2 := ⟨k - 2, by omega⟩
                     exact spec_DigitOf_eq m x b⟩

end Go.Proofs.Ytplgbnalflpdhaa.Y

/- Plain lemmas over numbers and lists (refDigS). Conditions: as each states. -/
namespace Go.Proofs.Ytplgbnalflpdhaa.Y
open Go.RowKit Go.Proofs.Ytplgbnalflpdhaa.X Go.Proofs.YtplgbnalflpdhaaW.PrintWords Go.Proofs.YtplgbnalflpdhaaW.PrintLast Go.Proofs.YtplgbnalflpdhaaW.PrintMore Go.Proofs.Ytplgbnalflpdhaa.Y
set_option linter.unusedVariables false
set_option linter.unusedSimpArgs false
theorem spec_l3At_eq (l : List Int) (j : Int) (hj : 0 ≤ j) : spec_l3At.f l j = some (numAt l j) := by
  unfold spec_l3At.f numAt
  by_cases h : j ≥ l.length
  · rw [if_pos h, if_neg (by omega)]
  · rw [if_neg h, if_pos hj, if_pos (by omega), if_pos (by omega)]
theorem digs_range (l : List Int) (b : Int) : ∀ (n : Nat) (a x c : Int), a ≤ (digs l b n a x c).2.2 ∧ (digs l b n a x c).2.2 ≤ a + n := by
  intro n
  induction n with
  | zero => intro a x c; simp [digs]
  | succ n ih =>
    intro a x c
    by_cases h : digitOf (numAt l a) b ≥ 0
    · rw [digs_go h]
      have := ih (a + 1) (if (if 0 < c ∨ 0 < digitOf (numAt l a) b then c + 1 else c) ≤ 7 then b * x + digitOf (numAt l a) b else x) (if 0 < c ∨ 0 < digitOf (numAt l a) b then c + 1 else c)
      omega
    · rw [digs_stop h]; simp only; omega
def digEnd (l : List Int) (f : Int) (D : Int × Int × Int) : Int × Int :=
  if D.2.2 = f then (0, 0) else (refNumber (if D.2.1 > 7 then 1114112 else D.1), if numAt l D.2.2 = 59 then D.2.2 + 1 else D.2.2)
theorem l3Number_l0 (l : List Int) (b f : Int) (hb : b = 10 ∨ b = 16) (hl : l.length ≤ 100000) (hf : 0 ≤ f) (hf2 : f ≤ 100000001) : ∀ (d : Nat) (n : Nat) (a x c : Int), f ≤ a → (l.length : Int) - a ≤ d → d ≤ n → digInv x c → c ≤ a → a ≤ 100000001 + l.length →
    Ev (fun k => spec_l3Number.l0 k l a b f x c) (digEnd l f (digs l b n a x c)) := by
  intro d
  have stop : ∀ (n : Nat) (a x c : Int), f ≤ a → a ≤ 100000001 + l.length → ¬ digitOf (numAt l a) b ≥ 0 → Ev (fun k => spec_l3Number.l0 k l a b f x c) (digEnd l f (digs l b n a x c)) := by
    intro n a x c ha ha2 hno
    refine ev_succ ?_
    simp only [spec_l3Number.l0, spec_l3At_eq l a (by omega), Option.bind_some]
    rw [digs_stop hno]
    refine Ev.bind (spec_DigitOf_ev _ _) (ev_neg hno ?_)
    unfold digEnd
    simp only
    by_cases hf : a = f
    · simp only [if_pos hf]; exact Ev.now _
    · simp only [if_neg hf]
      have hj : ∀ y : Int, Ev (fun k => spec_l3Number.j4 k l a y) (refNumber y, if numAt l a = 59 then a + 1 else a) := by
        intro y
        refine ev_succ ?_
        simp only [spec_l3Number.j4, spec_l3At_eq l a (by omega), Option.bind_some]
        rw [w64 (x := a + 1) (by omega) (by omega)]
        by_cases hs : numAt l a = 59
        · rw [if_pos hs]; exact ev_pos hs (Ev.bind (spec_RefNumber_ev y) (Ev.now _))
        · rw [if_neg hs]; exact ev_neg hs (Ev.bind (spec_RefNumber_ev y) (Ev.now _))
      by_cases h7 : c > 7
      · rw [if_pos h7]; exact ev_pos h7 (hj _)
      · rw [if_neg h7]; exact ev_neg h7 (hj _)
  induction d with
  | zero =>
    intro n a x c ha hd hn hi hca ha2
    exact stop n a x c ha ha2 (fun h => by have := digs_in h; omega)
  | succ d ih =>
    intro n a x c ha hd hn hi hca ha2
    obtain ⟨n, rfl⟩ : ∃ m, n = m + 1 := ⟨n - 1, by omega⟩
    by_cases hy : digitOf (numAt l a) b ≥ 0
    · obtain ⟨h0, h1⟩ := digs_in hy
      have hdl := digitOf_le hb hy
      have hbd := digInv_bound hi
      refine ev_succ ?_
      simp only [spec_l3Number.l0, spec_l3At_eq l a (by omega), Option.bind_some]
      rw [digs_go hy]
      refine Ev.bind (spec_DigitOf_ev _ _) (ev_pos hy (Ev.bind (spec_DigitOf_ev _ _) ?_))
      generalize digitOf (numAt l a) b = dg at *
      have hst := digInv_step hi hb hy (by omega) _ rfl
      have hbx : -9223372036854775808 ≤ b * x ∧ b * x ≤ 9223372036854775807 := by rcases hb with rfl | rfl <;> omega
      have hbx2 : b * x ≤ 9000000000 := by rcases hb with rfl | rfl <;> omega
      have hbx3 : 0 ≤ b * x := by rcases hb with rfl | rfl <;> omega
      have key : ∀ bb : Bool, (bb = true ↔ (0 < c ∨ 0 < dg)) → Ev (fun k => spec_l3Number.j3 k l a b f x c dg bb) (digEnd l f (digs l b n (a + 1) (if (if 0 < c ∨ 0 < dg then c + 1 else c) ≤ 7 then b * x + dg else x) (if 0 < c ∨ 0 < dg then c + 1 else c))) := by
        intro bb hbb
        refine ev_succ ?_
        simp only [spec_l3Number.j3]
        have hw : wrap64 (c + 1) = c + 1 := w64 (by omega) (by omega)
        rw [hw, w64 (x := a + 1) (by omega) (by omega), w64 hbx.1 hbx.2, w64 (x := b * x + dg) (by omega) (by omega)]
        by_cases hz : 0 < c ∨ 0 < dg
        · simp only [if_pos hz] at hst ⊢
          refine ev_pos (hbb.2 hz) ?_
          have := ih n (a + 1) (if c + 1 ≤ 7 then b * x + dg else x) (c + 1) (by omega) (by omega) (by omega) hst (by omega) (by omega)
          by_cases h7 : c + 1 ≤ 7
          · rw [if_pos h7] at this ⊢
            exact ev_pos h7 this
          · rw [if_neg h7] at this ⊢
            exact ev_neg h7 this
        · simp only [if_neg hz] at hst ⊢
          refine ev_neg (fun h => hz (hbb.1 h)) ?_
          have := ih n (a + 1) (if c ≤ 7 then b * x + dg else x) c (by omega) (by omega) (by omega) hst (by omega) (by omega)
          by_cases h7 : c ≤ 7
          · rw [if_pos h7] at this ⊢
            exact ev_pos h7 this
          · rw [if_neg h7] at this ⊢
            exact ev_neg h7 this
      by_cases hc : c > 0
      · exact ev_pos hc (key true (by simp; omega))
      · exact ev_neg hc (key _ (by simp; omega))
    · exact stop (n + 1) a x c ha ha2 hy
theorem spec_l3Number_ev (l : List Int) (a : Int) (hl : l.length ≤ 100000) (ha : 0 ≤ a) (ha2 : a ≤ 100000000) : Ev (fun k => spec_l3Number.f k l a) (refDig l a) := by
  unfold spec_l3Number.f
  simp only [spec_l3At_eq l a ha, Option.bind_some]
  have e : refDig l a = digEnd l (refFrom l a) (digs l (refBase l a) l.length (refFrom l a) 0 0) := rfl
  have hj1 : ∀ f b : Int, (b = 10 ∨ b = 16) → 0 ≤ f → f ≤ 100000001 → refBase l a = b → refFrom l a = f → Ev (fun k => spec_l3Number.j1 k l f b) (refDig l a) := by
    intro f b hb hf hf2 e1 e2
    refine ev_succ ?_
    simp only [spec_l3Number.j1]
    rw [e, e1, e2]
    exact l3Number_l0 l b f hb hl hf hf2 l.length l.length f 0 0 (by omega) (by omega) (Nat.le_refl _) ⟨by omega, by omega, by decide⟩ hf (by omega)
  have hj : ∀ bb : Bool, (bb = true ↔ (numAt l a = 120 ∨ numAt l a = 88)) → Ev (fun k => spec_l3Number.j0 k l a 10 bb) (refDig l a) := by
    intro bb hbb
    refine ev_succ ?_
    simp only [spec_l3Number.j0]
    rw [w64 (x := a + 1) (by omega) (by omega)]
    cases bb with
    | true =>
      have := hbb.1 rfl
      exact ev_pos (by simp) (hj1 (a + 1) 16 (.inr rfl) (by omega) (by omega) (by unfold refBase; rw [if_pos this]) (by unfold refFrom; rw [if_pos this]))
    | false =>
      have h : ¬ (numAt l a = 120 ∨ numAt l a = 88) := fun g => by have := hbb.2 g; simp at this
      exact ev_neg (by simp) (hj1 a 10 (.inl rfl) ha (by omega) (by unfold refBase; rw [if_neg h]) (by unfold refFrom; rw [if_neg h]))
  by_cases h : numAt l a = 120
  · exact ev_pos h (hj true (by simp [h]))
  · refine ev_neg h (hj _ ?_)
    simp [h]

end Go.Proofs.Ytplgbnalflpdhaa.Y

/- Plain lemmas over numbers and lists (refLocal). Conditions: as each states. -/
namespace Go.Proofs.Ytplgbnalflpdhaa.Y
open Go.RowKit Go.Proofs.Ytplgbnalflpdhaa.X Go.Proofs.YtplgbnalflpdhaaW.PrintWords Go.Proofs.YtplgbnalflpdhaaW.PrintLast Go.Proofs.YtplgbnalflpdhaaW.PrintMore Go.Proofs.Ytplgbnalflpdhaa.Y
set_option linter.unusedVariables false
set_option linter.unusedSimpArgs false
theorem ilt (a b : Int) : a < b ∨ b ≤ a := by omega
theorem cut_len (l : List Int) (n : Nat) (hn : n ≤ l.length) : (l.take n ++ [32]).length = n + 1 := by simp; omega
theorem cut_in {l : List Int} {n : Nat} (hn : n ≤ l.length) {j : Int} (hj : j < n) : numAt (l.take n ++ [32]) j = numAt l j := by
  unfold numAt
  rw [cut_len l n hn]
  by_cases h0 : 0 ≤ j
  · rw [if_pos (by omega), if_pos (by omega)]
    unfold rd
    rw [List.getD_eq_getElem?_getD, List.getD_eq_getElem?_getD, List.getElem?_append_left (by simp; omega), List.getElem?_take_of_lt (by omega)]
  · rw [if_neg (by omega), if_neg (by omega)]
theorem cut_at {l : List Int} {n : Nat} (hn : n ≤ l.length) : numAt (l.take n ++ [32]) n = 32 := by
  unfold numAt
  rw [cut_len l n hn, if_pos (by omega)]
  unfold rd
  rw [List.getD_eq_getElem?_getD, List.getElem?_append_right (by simp; omega)]
  have : (n : Int).toNat - (l.take n).length = 0 := by simp; omega
  rw [this]; rfl
theorem digs_same (l m : List Int) (b : Int) : ∀ (n n' : Nat) (a x c : Int), (∀ j, a ≤ j → j < (digs l b n a x c).2.2 → numAt m j = numAt l j) → ¬ digitOf (numAt m (digs l b n a x c).2.2) b ≥ 0 → (digs l b n a x c).2.2 - a ≤ n' → digs m b n' a x c = digs l b n a x c := by
  intro n
  induction n with
  | zero =>
    intro n' a x c h1 h2 h3
    have e : digs l b 0 a x c = (x, c, a) := rfl
    rw [e] at h2 ⊢
    exact digs_stop h2 n' x c
  | succ n ih =>
    intro n' a x c h1 h2 h3
    by_cases h : digitOf (numAt l a) b ≥ 0
    · rw [digs_go h] at h1 h2 h3 ⊢
      have hr := digs_range l b n (a + 1) (if (if 0 < c ∨ 0 < digitOf (numAt l a) b then c + 1 else c) ≤ 7 then b * x + digitOf (numAt l a) b else x) (if 0 < c ∨ 0 < digitOf (numAt l a) b then c + 1 else c)
      have e := h1 a (Int.le_refl _) (by omega)
      obtain ⟨n', rfl⟩ : ∃ q, n' = q + 1 := ⟨n' - 1, by omega⟩
      rw [digs_go (l := m) (by rw [e]; exact h), e]
      exact ih n' (a + 1) _ _ (fun j h4 h5 => h1 j (by omega) h5) h2 (by omega)
    · rw [digs_stop h] at h1 h2 h3 ⊢
      exact digs_stop h2 n' x c
theorem digs_end (l : List Int) (b : Int) : ∀ (n : Nat) (a x c : Int), (digs l b n a x c).2.2 = a ∨ (digs l b n a x c).2.2 ≤ l.length := by
  intro n
  induction n with
  | zero => intro a x c; exact .inl rfl
  | succ n ih =>
    intro a x c
    by_cases h : digitOf (numAt l a) b ≥ 0
    · rw [digs_go h]
      have := digs_in h
      rcases ih (a + 1) (if (if 0 < c ∨ 0 < digitOf (numAt l a) b then c + 1 else c) ≤ 7 then b * x + digitOf (numAt l a) b else x) (if 0 < c ∨ 0 < digitOf (numAt l a) b then c + 1 else c) with g | g
      · right; rw [g]; omega
      · exact .inr g
    · rw [digs_stop h]; exact .inl rfl
theorem stands_same (l m : List Int) : ∀ (s : List Int) (j : Int), (∀ i, j ≤ i → i < j + s.length → numAt m i = numAt l i) → stands m j s = stands l j s := by
  intro s
  induction s with
  | nil => intro j _; rfl
  | cons b r ih =>
    intro j h
    simp only [stands]
    rw [h j (Int.le_refl _) (by simp only [List.length_cons]; omega), ih (j + 1) (fun i h1 h2 => h i (by omega) (by simp only [List.length_cons]; omega))]
theorem stands_no (l : List Int) : ∀ (s : List Int) (j p : Int), j ≤ p → p < j + s.length → (∀ x ∈ s, x ≠ numAt l p) → stands l j s = false := by
  intro s
  induction s with
  | nil => intro j p h1 h2 _; simp at h2; omega
  | cons b r ih =>
    intro j p h1 h2 h3
    simp only [stands]
    by_cases e : j = p
    · subst e
      rw [decide_eq_false (fun g => h3 b (by simp) g.symm), Bool.false_and]
    · rw [ih (j + 1) p (by omega) (by simp only [List.length_cons] at h2; omega) (fun x hx => h3 x (by simp [hx])), Bool.and_false]
theorem stands_len (l : List Int) (s : List Int) (j : Int) (hs : ∀ x ∈ s, 0 ≤ x) (h : stands l j s = true) (h0 : 0 < s.length) : j + s.length ≤ l.length := by
  rcases ilt l.length (j + s.length) with c | c
  · have := stands_no l s j (j + s.length - 1) (by omega) (by omega) (fun x hx => by rw [numAt_out (by omega)]; have := hs x hx; omega)
    rw [h] at this; simp at this
  · exact c
theorem refList_bytes : ∀ r ∈ refList, ∀ x ∈ bytesOf r.f0, x ≠ 32 ∧ x ≠ 0 := by decide +kernel
theorem refList_points : ∀ r ∈ refList, pointOk r.f1 = true := by decide +kernel
theorem best_max (l : List Int) (j : Int) (rs : List S39) : ∀ cur : ByteArray × Int, cur.1.size ≤ (rs.foldl (pick l j) cur).1.size ∧ ∀ r ∈ rs, stands l j (bytesOf r.f0) = true → r.f0.size ≤ (rs.foldl (pick l j) cur).1.size := by
  induction rs with
  | nil => intro cur; exact ⟨Nat.le_refl _, by simp⟩
  | cons r rs ih =>
    intro cur
    rw [List.foldl_cons]
    have h := ih (pick l j cur r)
    have hp : cur.1.size ≤ (pick l j cur r).1.size ∧ (stands l j (bytesOf r.f0) = true → r.f0.size ≤ (pick l j cur r).1.size) := by
      unfold pick
      by_cases c : r.f0.size > cur.1.size ∧ stands l j (bytesOf r.f0) = true
      · rw [if_pos c]; exact ⟨by simp only; omega, fun _ => Nat.le_refl _⟩
      · rw [if_neg c]
        refine ⟨Nat.le_refl _, fun hs => ?_⟩
        rcases Nat.lt_or_ge cur.1.size r.f0.size with g | g
        · exact absurd ⟨g, hs⟩ c
        · exact g
    refine ⟨Nat.le_trans hp.1 h.1, fun x hx hs => ?_⟩
    rcases List.mem_cons.1 hx with rfl | hx
    · exact Nat.le_trans (hp.2 hs) h.1
    · exact h.2 x hx hs
theorem best_stands (l : List Int) (j : Int) (rs : List S39) : ∀ cur : ByteArray × Int, (cur.1.size = 0 ∨ stands l j (bytesOf cur.1) = true) → (rs.foldl (pick l j) cur).1.size = 0 ∨ stands l j (bytesOf (rs.foldl (pick l j) cur).1) = true := by
  induction rs with
  | nil => intro cur h; exact h
  | cons r rs ih =>
    intro cur h
    rw [List.foldl_cons]
    refine ih _ ?_
    unfold pick
    by_cases c : r.f0.size > cur.1.size ∧ stands l j (bytesOf r.f0) = true
    · rw [if_pos c]; exact .inr c.2
    · rw [if_neg c]; exact h
theorem best_same (l m : List Int) (j : Int) (rs : List S39) (h : ∀ r ∈ rs, stands m j (bytesOf r.f0) = stands l j (bytesOf r.f0)) : ∀ cur : ByteArray × Int, rs.foldl (pick m j) cur = rs.foldl (pick l j) cur := by
  induction rs with
  | nil => intro cur; rfl
  | cons r rs ih =>
    intro cur
    rw [List.foldl_cons, List.foldl_cons]
    have e : pick m j cur r = pick l j cur r := by unfold pick; rw [h r (by simp)]
    rw [e]; exact ih (fun x hx => h x (by simp [hx])) _
/-- What is taken lies in the list; it stands for a point; read again from just what was taken, it is the same. -/
theorem refOf_local (l : List Int) (a : Int) (v : Bool) (ha : 0 ≤ a) (ha1 : a < l.length) (h : (refOf l a v).2 > 0) :
    a + 2 ≤ (refOf l a v).2 ∧ (refOf l a v).2 ≤ l.length ∧ pointOk (refOf l a v).1 = true ∧ refOf (l.take (refOf l a v).2.toNat ++ [32]) a v = refOf l a v := by
  unfold refOf at h ⊢
  by_cases h35 : numAt l (a + 1) = 35
  · simp only [if_pos h35] at h ⊢
    have hin : a + 1 < l.length := by
      rcases ilt (a + 1) l.length with c | c
      · exact c
      · rw [numAt_out (.inr c)] at h35; simp at h35
    have hfr : a + 2 ≤ refFrom l (a + 2) ∧ refFrom l (a + 2) ≤ a + 3 := by unfold refFrom; split <;> omega
    unfold refDig at h ⊢
    generalize hD : digs l (refBase l (a + 2)) l.length (refFrom l (a + 2)) 0 0 = D at h ⊢
    by_cases hno : D.2.2 = refFrom l (a + 2)
    · rw [if_pos hno] at h; simp at h
    · simp only [if_neg hno] at h ⊢
      have hr := digs_range l (refBase l (a + 2)) l.length (refFrom l (a + 2)) 0 0
      have he := digs_end l (refBase l (a + 2)) l.length (refFrom l (a + 2)) 0 0
      rw [hD] at hr he
      have hDl : D.2.2 ≤ l.length := by rcases he with g | g; exact absurd g hno; exact g
      have key : ∀ nx : Nat, (nx : Int) = (if numAt l D.2.2 = 59 then D.2.2 + 1 else D.2.2) → nx ≤ l.length → (if numAt (l.take nx ++ [32]) (a + 1) = 35 then (if (digs (l.take nx ++ [32]) (refBase (l.take nx ++ [32]) (a + 2)) (l.take nx ++ [32]).length (refFrom (l.take nx ++ [32]) (a + 2)) 0 0).2.2 = refFrom (l.take nx ++ [32]) (a + 2) then (0, 0) else
    (refNumber (if (digs (l.take nx ++ [32]) (refBase (l.take nx ++ [32]) (a + 2)) (l.take nx ++ [32]).length (refFrom (l.take nx ++ [32]) (a + 2)) 0 0).2.1 > 7 then 1114112 else (digs (l.take nx ++ [32]) (refBase (l.take nx ++ [32]) (a + 2)) (l.take nx ++ [32]).length (refFrom (l.take nx ++ [32]) (a + 2)) 0 0).1),
     if numAt (l.take nx ++ [32]) (digs (l.take nx ++ [32]) (refBase (l.take nx ++ [32]) (a + 2)) (l.take nx ++ [32]).length (refFrom (l.take nx ++ [32]) (a + 2)) 0 0).2.2 = 59 then (digs (l.take nx ++ [32]) (refBase (l.take nx ++ [32]) (a + 2)) (l.take nx ++ [32]).length (refFrom (l.take nx ++ [32]) (a + 2)) 0 0).2.2 + 1 else (digs (l.take nx ++ [32]) (refBase (l.take nx ++ [32]) (a + 2)) (l.take nx ++ [32]).length (refFrom (l.take nx ++ [32]) (a + 2)) 0 0).2.2)) else refNam (l.take nx ++ [32]) (a + 1) v) = (refNumber (if D.2.1 > 7 then 1114112 else D.1), if numAt l D.2.2 = 59 then D.2.2 + 1 else D.2.2) := by
        intro nx hnx hle
        have hge : D.2.2 ≤ nx := by rw [hnx]; split <;> omega
        have hlt : a + 2 < nx := by omega
        have e1 : numAt (l.take nx ++ [32]) (a + 1) = 35 := by rw [cut_in hle (by omega)]; exact h35
        have e2 : numAt (l.take nx ++ [32]) (a + 2) = numAt l (a + 2) := cut_in hle hlt
        have eb : refBase (l.take nx ++ [32]) (a + 2) = refBase l (a + 2) := by unfold refBase; rw [e2]
        have ef : refFrom (l.take nx ++ [32]) (a + 2) = refFrom l (a + 2) := by unfold refFrom; rw [e2]
        have hend : numAt (l.take nx ++ [32]) D.2.2 = 59 ↔ numAt l D.2.2 = 59 := by
          by_cases c : numAt l D.2.2 = 59
          · rw [if_pos c] at hnx
            rw [cut_in hle (by omega)]
          · rw [if_neg c] at hnx
            rw [← hnx, cut_at hle, hnx]
            constructor
            · intro g; simp at g
            · intro g; exact absurd g c
        have hdg : ¬ digitOf (numAt (l.take nx ++ [32]) D.2.2) (refBase l (a + 2)) ≥ 0 := by
          by_cases c : numAt l D.2.2 = 59
          · rw [hend.2 c]; unfold digitOf refBase; split <;> simp
          · rw [if_neg c] at hnx
            rw [← hnx, cut_at hle]; unfold digitOf refBase; split <;> simp
        have es : digs (l.take nx ++ [32]) (refBase l (a + 2)) (l.take nx ++ [32]).length (refFrom l (a + 2)) 0 0 = D := by
          rw [← hD]
          refine digs_same l (l.take nx ++ [32]) (refBase l (a + 2)) l.length _ _ _ _ (fun j _ hj => ?_) ?_ ?_
          · rw [hD] at hj; exact cut_in hle (by omega)
          · rw [hD]; exact hdg
          · rw [hD, cut_len l nx hle]; omega
        rw [if_pos e1, eb, ef, es, if_neg hno]
        simp only [hend]
      refine ⟨?_, ?_, (refNumber_ok _).1, ?_⟩
      · split <;> omega
      · by_cases c : numAt l D.2.2 = 59
        · rw [if_pos c]
          rcases ilt D.2.2 l.length with g | g
          · omega
          · rw [numAt_out (.inr g)] at c; simp at c
        · rw [if_neg c]; exact hDl
      · refine key _ ?_ ?_
        · split <;> omega
        · by_cases c : numAt l D.2.2 = 59
          · rw [if_pos c]
            rcases ilt D.2.2 l.length with g | g
            · omega
            · rw [numAt_out (.inr g)] at c; simp at c
          · rw [if_neg c]; omega
  · simp only [if_neg h35] at h ⊢
    have hmem := best_mem l (a + 1) refList (fun r hr => hr) (⟨#[]⟩, 0) (.inl rfl)
    have hst := best_stands l (a + 1) refList (⟨#[]⟩, 0) (.inl rfl)
    have hmx := (best_max l (a + 1) refList (⟨#[]⟩, 0)).2
    unfold refNam at h ⊢
    change best l (a + 1) = _ ∨ _ at hmem
    change (best l (a + 1)).1.size = 0 ∨ _ at hst
    change ∀ r ∈ refList, _ → r.f0.size ≤ (best l (a + 1)).1.size at hmx
    by_cases h0 : (best l (a + 1)).1.size = 0
    · rw [if_pos h0] at h; simp at h
    · rw [if_neg h0] at h
      simp only [if_neg h0] at h ⊢
      by_cases hv : v = true ∧ goesOn (numAt l (a + 1 + (best l (a + 1)).1.size)) = true ∧ bt (best l (a + 1)).1 ((best l (a + 1)).1.size - 1) ≠ 59
      · rw [if_pos hv] at h; simp at h
      · simp only [if_neg hv] at h ⊢
        rcases hst with g | hst
        · exact absurd g h0
        change stands l (a + 1) (bytesOf (best l (a + 1)).1) = true at hst
        have hlen := stands_len l _ (a + 1) (fun x hx => (bytesOf_range _ x hx).1) hst (by rw [bytesOf_length]; omega)
        rw [bytesOf_length] at hlen
        refine ⟨by omega, by omega, ?_, ?_⟩
        · rcases hmem with g | ⟨r, hr, g⟩
          · change best l (a + 1) = _ at g
            rw [g] at h0; exact absurd rfl h0
          · change best l (a + 1) = _ at g
            rw [g]; exact refList_points r hr
        · have hn : (a + 1 + ((best l (a + 1)).1.size : Int)).toNat ≤ l.length := by omega
          have hcast : (((a + 1 + ((best l (a + 1)).1.size : Int)).toNat : Nat) : Int) = a + 1 + ((best l (a + 1)).1.size : Int) := by omega
          generalize hnx : (a + 1 + ((best l (a + 1)).1.size : Int)).toNat = nx at hn hcast ⊢
          have e1 : ¬ numAt (l.take nx ++ [32]) (a + 1) = 35 := by rw [cut_in hn (by omega)]; exact h35
          rw [if_neg e1]
          have eb : best (l.take nx ++ [32]) (a + 1) = best l (a + 1) := by
            refine best_same l _ (a + 1) refList (fun r hr => ?_) _
            by_cases c : r.f0.size ≤ (best l (a + 1)).1.size
            · exact stands_same l _ _ _ (fun i _ hi => cut_in hn (by rw [bytesOf_length] at hi; omega))
            · have s1 : stands l (a + 1) (bytesOf r.f0) = false := by
                cases hc : stands l (a + 1) (bytesOf r.f0) with
                | false => rfl
                | true => exact absurd (hmx r hr hc) c
              rw [s1]
              refine stands_no _ _ _ (nx : Int) (by omega) (by rw [bytesOf_length]; omega) (fun x hx => ?_)
              rw [cut_at hn]; exact (refList_bytes r hr x hx).1
          rw [eb, if_neg h0, ← hcast, cut_at hn, if_neg]
          rintro ⟨_, g, _⟩
          revert g; decide

end Go.Proofs.Ytplgbnalflpdhaa.Y

/- Plain lemmas over numbers and lists (alphaS). Conditions: as each states. -/
namespace Go.Proofs.Ytplgbnalflpdhaa.Y
open Go.RowKit Go.Proofs.Ytplgbnalflpdhaa.X Go.Proofs.YtplgbnalflpdhaaW.PrintWords Go.Proofs.YtplgbnalflpdhaaW.PrintLast Go.Proofs.YtplgbnalflpdhaaW.PrintMore Go.Proofs.Ytplgbnalflpdhaa.Y
set_option linter.unusedVariables false
set_option linter.unusedSimpArgs false
theorem spec_IsAlpha_eq (x : Int) : spec_IsAlpha.f x = some (isAlpha x) := by
  unfold spec_IsAlpha.f isAlpha
  simp only [spec_l1In_eq, Option.bind_some]
  by_cases h : 65 ≤ x ∧ x ≤ 90 <;> simp [h]

end Go.Proofs.Ytplgbnalflpdhaa.Y

/- Plain lemmas over numbers and lists (refNamS). Conditions: as each states. -/
namespace Go.Proofs.Ytplgbnalflpdhaa.Y
open Go.RowKit Go.Proofs.Ytplgbnalflpdhaa.X Go.Proofs.YtplgbnalflpdhaaW.PrintWords Go.Proofs.YtplgbnalflpdhaaW.PrintLast Go.Proofs.YtplgbnalflpdhaaW.PrintMore Go.Proofs.Ytplgbnalflpdhaa.Y
set_option linter.unusedVariables false
set_option linter.unusedSimpArgs false
theorem spec_refs_is : spec_Refs.f = some refList := rfl
theorem l3Stands_l0 (l : List Int) (s : ByteArray) (hs : s.size ≤ 1000) (j : Int) (hj : 0 ≤ j) (hj2 : j ≤ 100000000) : ∀ (d : Nat) (i : Int), 0 ≤ i → i + d = s.size → Ev (fun k => spec_l3Stands.l0 k l j s i) (stands l (j + i) ((bytesOf s).drop i.toNat)) := by
  intro d
  have hlen := bytesOf_length s
  induction d with
  | zero =>
    intro i h0 h
    refine ev_succ ?_
    simp only [spec_l3Stands.l0]
    refine ev_neg (by omega) (ev_some ?_)
    rw [List.drop_of_length_le (by omega)]; rfl
  | succ d ih =>
    intro i h0 h
    refine ev_succ ?_
    have hr := bt_range s i
    simp only [spec_l3Stands.l0]
    rw [w64 (x := bt s i) (by omega) (by omega), w64 (x := i + 1) (by omega) (by omega), w64 (x := j + i) (by omega) (by omega), drop_cons h0 (by omega), rd_bytesOf]
    simp only [spec_l3At_eq l (j + i) (by omega), Option.bind_some]
    refine ev_pos (by omega) (ev_pos h0 ?_)
    simp only [stands]
    by_cases he : numAt l (j + i) = bt s i
    · rw [decide_eq_true he, Bool.true_and, Int.add_assoc]
      exact ev_pos he (ih (i + 1) (by omega) (by omega))
    · rw [decide_eq_false he, Bool.false_and]
      exact ev_neg he (Ev.now _)
theorem spec_l3Stands_ev (l : List Int) (s : ByteArray) (hs : s.size ≤ 1000) (j : Int) (hj : 0 ≤ j) (hj2 : j ≤ 100000000) : Ev (fun k => spec_l3Stands.f k l j s) (stands l j (bytesOf s)) := by
  have := l3Stands_l0 l s hs j hj hj2 s.size 0 (by omega) (by omega)
  simpa [spec_l3Stands.f] using this
def namEnd (a : Int) (q : Int × Int) : List Int × Int := if q.2 > 0 then ([q.1], q.2) else ([38], a + 1)
theorem RefRead_l0 (l : List Int) (a : Int) (v : Bool) (ha : 0 ≤ a) (ha2 : a ≤ 10000000) : ∀ (d i : Nat) (b : ByteArray × Int), i + d = 24 → (b = (⟨#[]⟩, 0) ∨ ∃ r ∈ refList, b = (r.f0, r.f1)) → Ev (fun k => spec_RefRead.l0 k l a v refList i b.1 b.2) (namEnd a (namRes l (a + 1) v ((refList.drop i).foldl (pick l (a + 1)) b))) := by
  intro d
  have h24 := refList_len
  induction d with
  | zero =>
    intro i b h hb
    refine ev_succ ?_
    simp only [spec_RefRead.l0]
    rw [List.drop_of_length_le (by omega), List.foldl_nil]
    have hsz : b.1.size ≤ 20 := by
      rcases hb with rfl | ⟨r, hr, rfl⟩
      · decide
      · exact (refList_size r hr).2
    rw [w64 (x := a + 1) (by omega) (by omega), w64 (x := a + 1 + (b.1.size : Int)) (by omega) (by omega), w64 (x := (b.1.size : Int) - 1) (by omega) (by omega)]
    refine ev_neg (by omega) ?_
    by_cases h0 : b.1.size = 0
    · refine ev_pos (by omega) (ev_some ?_)
      have e : namRes l (a + 1) v b = (0, 0) := by unfold namRes; rw [if_pos h0]
      rw [e]; rfl
    · refine ev_neg (by omega) ?_
      simp only [spec_l3At_eq l (a + 1 + (b.1.size : Int)) (by omega), spec_IsAlpha_eq, Option.bind_some, namRes]
      rw [if_neg h0]
      generalize numAt l _ = af
      have hyes : namEnd a (b.2, a + 1 + (b.1.size : Int)) = ([b.2], a + 1 + (b.1.size : Int)) := by unfold namEnd; rw [if_pos (by simp only; omega)]
      have hno : namEnd a (0, 0) = ([38], a + 1) := by unfold namEnd; rw [if_neg (by simp)]
      cases v with
      | false =>
        refine ev_neg (by simp) (ev_some ?_)
        rw [if_neg (by simp), hyes]
      | true =>
        refine ev_pos rfl (ev_pos (by omega) (ev_pos (by omega) ?_))
        by_cases h59 : bt b.1 ((b.1.size : Int) - 1) = 59
        · refine ev_pos h59 (ev_some ?_)
          rw [if_neg (by simp [h59]), hyes]
        · refine ev_neg h59 ?_
          by_cases h1 : af = 61
          · refine ev_pos h1 (ev_some ?_)
            rw [if_pos ⟨rfl, by unfold goesOn; simp [h1], h59⟩, hno]
          · refine ev_neg h1 ?_
            by_cases h2 : isAlpha af = true
            · refine ev_pos h2 (ev_some ?_)
              rw [if_pos ⟨rfl, by unfold goesOn; simp [h2], h59⟩, hno]
            · refine ev_neg h2 (Ev.bind (spec_DigitOf_ev _ _) ?_)
              by_cases h3 : digitOf af 10 ≥ 0
              · refine ev_pos h3 (ev_some ?_)
                rw [if_pos ⟨rfl, by unfold goesOn; simp [h3], h59⟩, hno]
              · refine ev_neg h3 (ev_some ?_)
                rw [if_neg (fun g => by have := g.2.1; unfold goesOn at this; simp [h1, h2, h3] at this), hyes]
  | succ d ih =>
    intro i b h hb
    have hi : i < refList.length := by omega
    have hm : refList[i] ∈ refList := List.getElem_mem _
    have hrs := refList_size _ hm
    have hrd : rd_T39 refList (i : Int) = refList[i] := by
      unfold rd_T39
      rw [List.getD_eq_getElem?_getD, show ((i : Int).toNat) = i by omega, List.getElem?_eq_getElem hi]; rfl
    refine ev_succ ?_
    simp only [spec_RefRead.l0]
    rw [drop_get hi, List.foldl_cons, hrd, w64 (x := (i : Int) + 1) (by omega) (by omega), w64 (x := a + 1) (by omega) (by omega)]
    refine ev_pos (by omega) (ev_pos (by omega) (Ev.bind (spec_l3Stands_ev l refList[i].f0 (by omega) (a + 1) (by omega) (by omega)) ?_))
    have hih := ih (i + 1) (pick l (a + 1) b refList[i]) (by omega) (by
      unfold pick
      split
      · exact .inr ⟨_, hm, rfl⟩
      · exact hb)
    generalize hq : pick l (a + 1) b refList[i] = q at hih ⊢
    unfold pick at hq
    by_cases h2 : stands l (a + 1) (bytesOf refList[i].f0) = true
    · refine ev_pos h2 ?_
      by_cases h1 : (refList[i].f0.size : Int) > (b.1.size : Int)
      · rw [if_pos ⟨by omega, h2⟩] at hq
        subst hq
        exact ev_pos h1 hih
      · rw [if_neg (fun g => h1 (by omega))] at hq
        subst hq
        exact ev_neg h1 hih
    · rw [if_neg (fun g => h2 g.2)] at hq
      subst hq
      exact ev_neg h2 hih
theorem spec_RefRead_ev (l : List Int) (a : Int) (v : Bool) : Ev (fun k => spec_RefRead.f k l a v) (refRead l a v) := by
  unfold spec_RefRead.f refRead
  have hjt : Ev (fun k => spec_RefRead.j0 k l a v true) ([], a) := by
    refine ev_succ ?_
    simp only [spec_RefRead.j0]
    exact ev_pos (by simp) (Ev.now _)
  by_cases hl : (l.length : Int) > 3000
  · rw [if_pos (.inl hl)]; exact ev_pos hl hjt
  · refine ev_neg hl ?_
    simp only [spec_l1In_eq, Option.bind_some]
    rw [w64 (x := (l.length : Int) - 1) (by omega) (by omega)]
    by_cases hin : 0 ≤ a ∧ a < l.length
    · refine ev_pos (by simp; omega) (ev_pos hin.1 (ev_pos hin.2 ?_))
      rw [← numAt_in hin.1 hin.2]
      by_cases h38 : numAt l a = 38
      · rw [if_neg (by omega)]
        have : (numAt l a != 38) = false := by simp [h38]
        rw [this]
        refine ev_succ ?_
        simp only [spec_RefRead.j0]
        rw [w64 (x := a + 1) (by omega) (by omega), w64 (x := a + 2) (by omega) (by omega)]
        simp only [spec_l3At_eq l (a + 1) (by omega), Option.bind_some]
        refine ev_neg (by simp) ?_
        unfold refOf
        by_cases h35 : numAt l (a + 1) = 35
        · simp only [if_pos h35]
          refine Ev.bind (spec_l3Number_ev l (a + 2) (by omega) (by omega) (by omega)) ?_
          generalize refDig l (a + 2) = q
          by_cases hq : q.2 > 0
          · simp only [if_pos hq]; exact Ev.now _
          · simp only [if_neg hq]; exact Ev.now _
        · simp only [if_neg h35, spec_refs_is, Option.bind_some]
          exact RefRead_l0 l a v hin.1 (by omega) 24 0 (⟨#[]⟩, 0) rfl (.inl rfl)
      · rw [if_pos (.inr h38)]
        have : (numAt l a != 38) = true := by simpa using h38
        rw [this]; exact hjt
    · rw [if_pos (.inr (by rw [numAt_out (by omega)]; decide))]
      exact ev_neg (by simp; omega) hjt

end Go.Proofs.Ytplgbnalflpdhaa.Y

/- Plain lemmas over numbers and lists (draw). Conditions: as each states. -/
namespace Go.Proofs.Ytplgbnalflpdhaa.Y
open Go.RowKit Go.Proofs.Ytplgbnalflpdhaa.X Go.Proofs.YtplgbnalflpdhaaW.PrintWords Go.Proofs.YtplgbnalflpdhaaW.PrintLast Go.Proofs.YtplgbnalflpdhaaW.PrintMore Go.Proofs.Ytplgbnalflpdhaa.Y
set_option linter.unusedVariables false
set_option linter.unusedSimpArgs false
theorem and_range (x : Int) (m : Nat) (hm : m < 2 ^ 31) : 0 ≤ Go.bits .and .i64 x m ∧ Go.bits .and .i64 x m ≤ m := by
  have h : (BitVec.ofInt IntKind.i64.bits x &&& BitVec.ofInt IntKind.i64.bits (m : Int)).toNat ≤ m := by
    rw [BitVec.toNat_and]
    refine Nat.le_trans Nat.and_le_right ?_
    rw [BitVec.ofInt_natCast, BitVec.toNat_ofNat]
    exact Nat.mod_le _ _
  simp only [Go.bits]
  generalize (BitVec.ofInt IntKind.i64.bits x &&& BitVec.ofInt IntKind.i64.bits (m : Int)).toNat = t at *
  rw [wraps_i64 _ (by omega) (by omega)]
  omega
theorem l1Byte_ok (l : List Int) (i h : Int) (hl : l.length ≤ 1048576) (h0 : 0 ≤ i) (h1 : i ≤ l.length) : ∃ v i' h', spec_l1Byte.f l i h = some (v, i', h') ∧ (0 ≤ v ∧ v ≤ 255) ∧ 0 ≤ i' ∧ i' ≤ l.length := by
  unfold spec_l1Byte.f
  by_cases c : i < l.length
  · rw [if_pos c, if_pos h0, w64 (x := i + 1) (by omega) (by omega)]
    exact ⟨_, _, _, rfl, and_range _ 255 (by decide), by omega, by omega⟩
  · rw [if_neg c]
    exact ⟨_, _, _, rfl, and_range _ 255 (by decide), h0, h1⟩
theorem l1Below_ok (l : List Int) (i h n : Int) (hl : l.length ≤ 1048576) (h0 : 0 ≤ i) (h1 : i ≤ l.length) (hn : n ≤ 1000000000) : ∃ v i' h', spec_l1Below.f l i h n = some (v, i', h') ∧ (0 ≤ v ∧ (v < n ∨ n ≤ 0 ∧ v = 0)) ∧ 0 ≤ i' ∧ i' ≤ l.length := by
  unfold spec_l1Below.f
  by_cases c : n ≤ 0
  · rw [if_pos c]; exact ⟨_, _, _, rfl, ⟨by omega, .inr ⟨c, rfl⟩⟩, h0, h1⟩
  · rw [if_neg c]
    by_cases d : n ≤ 256
    · obtain ⟨v, i', h', e, hv, hi⟩ := l1Byte_ok l i h hl h0 h1
      rw [if_pos d, e]
      refine ⟨_, _, _, by rw [Option.bind_some, if_neg (by omega)], ⟨?_, .inl ?_⟩, hi⟩
      · rw [Int.tmod_eq_emod_of_nonneg hv.1]; exact Int.emod_nonneg _ (by omega)
      · rw [Int.tmod_eq_emod_of_nonneg hv.1]; exact Int.emod_lt_of_pos _ (by omega)
    · obtain ⟨v1, i1, h1', e1, hv1, hi1⟩ := l1Byte_ok l i h hl h0 h1
      obtain ⟨v2, i2, h2', e2, hv2, hi2⟩ := l1Byte_ok l i1 h1' hl hi1.1 hi1.2
      obtain ⟨v3, i3, h3', e3, hv3, hi3⟩ := l1Byte_ok l i2 h2' hl hi2.1 hi2.2
      obtain ⟨v4, i4, h4', e4, hv4, hi4⟩ := l1Byte_ok l i3 h3' hl hi3.1 hi3.2
      rw [if_neg d, e1, Option.bind_some, e2, Option.bind_some, e3, Option.bind_some, e4, Option.bind_some, if_neg (by omega)]
      have hw : wrap64 ((wrap64 ((wrap64 ((wrap64 (v1 * 16777216)) + (wrap64 (v2 * 65536)))) + (wrap64 (v3 * 256)))) + v4) = v1 * 16777216 + v2 * 65536 + v3 * 256 + v4 := by
        rw [w64 (x := v1 * _) (by omega) (by omega), w64 (x := v2 * _) (by omega) (by omega), w64 (x := v3 * _) (by omega) (by omega), w64 (x := v1 * 16777216 + v2 * 65536) (by omega) (by omega), w64 (x := v1 * 16777216 + v2 * 65536 + v3 * 256) (by omega) (by omega), w64 (by omega) (by omega)]
      refine ⟨_, _, _, rfl, ⟨?_, .inl ?_⟩, hi4⟩
      · simp only [hw]; rw [Int.tmod_eq_emod_of_nonneg (by omega)]; exact Int.emod_nonneg _ (by omega)
      · simp only [hw]; rw [Int.tmod_eq_emod_of_nonneg (by omega)]; exact Int.emod_lt_of_pos _ (by omega)
theorem l1PickInt_ok (l : List Int) (i h : Int) (m : List Int) (hl : l.length ≤ 1048576) (h0 : 0 ≤ i) (h1 : i ≤ l.length) (hm : 0 < m.length) (hm2 : m.length ≤ 1000) : ∃ v i' h', spec_l1PickInt.f l i h m = some (v, i', h') ∧ v ∈ m ∧ 0 ≤ i' ∧ i' ≤ l.length := by
  unfold spec_l1PickInt.f
  obtain ⟨v, i', h', e, hv, hi⟩ := l1Below_ok l i h m.length hl h0 h1 (by omega)
  rw [e, Option.bind_some, if_pos hv.1, if_pos (by show v < _; omega)]
  refine ⟨_, _, _, rfl, ?_, hi⟩
  show rd m v ∈ m
  unfold rd
  rw [List.getD_eq_getElem?_getD, List.getElem?_eq_getElem (by omega)]
  exact List.getElem_mem _

end Go.Proofs.Ytplgbnalflpdhaa.Y

/- Plain lemmas over numbers and lists (draw2). Conditions: as each states. -/
namespace Go.Proofs.Ytplgbnalflpdhaa.Y
open Go.RowKit Go.Proofs.Ytplgbnalflpdhaa.X Go.Proofs.YtplgbnalflpdhaaW.PrintWords Go.Proofs.YtplgbnalflpdhaaW.PrintLast Go.Proofs.YtplgbnalflpdhaaW.PrintMore Go.Proofs.Ytplgbnalflpdhaa.Y
set_option linter.unusedVariables false
set_option linter.unusedSimpArgs false
theorem l1New_l0 (l : List Int) (hl : l.length ≤ 1048576) : ∀ (d : Nat) (i h : Int), 0 ≤ i → i + d = l.length → ∃ h', Ev (fun k => spec_l1New.l0 k l h i) (l, 0, h') := by
  intro d
  induction d with
  | zero =>
    intro i h h0 hd
    exact ⟨h, Ev.step (f := fun _ => some (l, 0, h)) (fun k => by simp only [spec_l1New.l0]; rw [if_neg (by omega)]) (Ev.now _)⟩
  | succ d ih =>
    intro i h h0 hd
    by_cases c : i < 4000
    · obtain ⟨h', e⟩ := ih (i + 1) (Go.bits .and .i64 (wrap64 ((wrap64 ((wrap64 (h * 131)) + (wrap64 (rd l i)))) + 7)) 1073741823) (by omega) (by omega)
      refine ⟨h', Ev.step (fun k => ?_) e⟩
      simp only [spec_l1New.l0]; rw [if_pos (by omega), if_pos c, if_pos h0, w64 (x := i + 1) (by omega) (by omega)]
    · exact ⟨h, Ev.step (f := fun _ => some (l, 0, h)) (fun k => by simp only [spec_l1New.l0]; rw [if_pos (by omega), if_neg c]) (Ev.now _)⟩
theorem l1New_ok (l : List Int) (hl : l.length ≤ 1048576) : ∃ h', Ev (fun k => spec_l1New.f k l) (l, 0, h') := by
  unfold spec_l1New.f
  exact l1New_l0 l hl l.length 0 _ (by omega) (by omega)

end Go.Proofs.Ytplgbnalflpdhaa.Y

/- Plain lemmas over numbers and lists (drawPoint). Conditions: as each states. -/
namespace Go.Proofs.Ytplgbnalflpdhaa.Y
open Go.RowKit Go.Proofs.Ytplgbnalflpdhaa.X Go.Proofs.YtplgbnalflpdhaaW.PrintWords Go.Proofs.YtplgbnalflpdhaaW.PrintLast Go.Proofs.YtplgbnalflpdhaaW.PrintMore Go.Proofs.Ytplgbnalflpdhaa.Y
set_option linter.unusedVariables false
set_option linter.unusedSimpArgs false
theorem l1DrawPoint_ok (l : List Int) (i h : Int) (hl : l.length ≤ 1048576) (h0 : 0 ≤ i) (h1 : i ≤ l.length) : ∃ v i' h', spec_l1DrawPoint.f l i h = some (v, i', h') ∧ (-1 ≤ v ∧ v ≤ 1200000) ∧ 0 ≤ i' ∧ i' ≤ l.length := by
  unfold spec_l1DrawPoint.f
  obtain ⟨a, i1, g1, e1, ha, hi1⟩ := l1Below_ok l i h 1200000 hl h0 h1 (by omega)
  obtain ⟨b, i2, g2, e2, hb, hi2⟩ := l1Below_ok l i1 g1 90 hl hi1.1 hi1.2 (by omega)
  rw [e1, Option.bind_some, e2, Option.bind_some]
  obtain ⟨v, i3, g3, e3, hv, hi3⟩ := l1PickInt_ok l i2 g2 [0, 65, 97, 127, 128, 255, 2047, 2048, 55295, 55296, 57343, 57344, 65279, 65533, 65535, 65536, 1114111, 1114112, (-1), a, wrap64 (32 + b)] hl hi2.1 hi2.2 (by simp) (by simp)
  rw [e3, Option.bind_some]
  refine ⟨_, _, _, rfl, ?_, hi3⟩
  rw [w64 (x := 32 + b) (by omega) (by omega)] at hv
  simp only [List.mem_cons, List.not_mem_nil, or_false] at hv
  show -1 ≤ v ∧ v ≤ 1200000
  omega
theorem DrawPointPut_ok (l : List Int) (hl : l.length ≤ 1048576) : ∃ v, Ev (fun k => spec_DrawPointPut.f k l) v ∧ -1 ≤ v ∧ v ≤ 1200000 := by
  unfold spec_DrawPointPut.f
  obtain ⟨h, e⟩ := l1New_ok l hl
  obtain ⟨v, i', h', e2, hv, _⟩ := l1DrawPoint_ok l 0 h hl (by omega) (by omega)
  exact ⟨v, Ev.bind e (ev_bindS e2 (Ev.now _)), hv⟩

end Go.Proofs.Ytplgbnalflpdhaa.Y

/- Plain lemmas over numbers and lists (evp). Conditions: as each states. -/
namespace Go.Proofs.Ytplgbnalflpdhaa.Y
open Go.RowKit Go.Proofs.Ytplgbnalflpdhaa.X Go.Proofs.YtplgbnalflpdhaaW.PrintWords Go.Proofs.YtplgbnalflpdhaaW.PrintLast Go.Proofs.YtplgbnalflpdhaaW.PrintMore Go.Proofs.Ytplgbnalflpdhaa.Y
set_option linter.unusedVariables false
set_option linter.unusedSimpArgs false
/-- Behind rounds enough there is an answer, of which something is told. -/
def EvP {α : Type} (g : Nat → Option α) (Q : α → Prop) : Prop := ∃ r, Ev g r ∧ Q r
theorem EvP.bind {α β : Type} {g : Nat → Option α} {f : Nat → α → Option β} {P : α → Prop} {Q : β → Prop} (h : EvP g P) (hf : ∀ a, P a → EvP (fun k => f k a) Q) : EvP (fun k => (g k).bind (f k)) Q := by
  obtain ⟨a, e, hp⟩ := h
  obtain ⟨r, e2, hq⟩ := hf a hp
  exact ⟨r, Ev.bind e e2, hq⟩
theorem EvP.pos {α : Type} {c : Prop} [Decidable c] {g f : Nat → Option α} {Q : α → Prop} (hc : c) (h : EvP g Q) : EvP (fun k => if c then g k else f k) Q := by
  obtain ⟨r, e, hq⟩ := h; exact ⟨r, ev_pos hc e, hq⟩
theorem EvP.neg {α : Type} {c : Prop} [Decidable c] {g f : Nat → Option α} {Q : α → Prop} (hc : ¬ c) (h : EvP f Q) : EvP (fun k => if c then g k else f k) Q := by
  obtain ⟨r, e, hq⟩ := h; exact ⟨r, ev_neg hc e, hq⟩
theorem EvP.ite {α : Type} {c : Prop} [Decidable c] {g f : Nat → Option α} {Q : α → Prop} (h1 : c → EvP g Q) (h2 : ¬ c → EvP f Q) : EvP (fun k => if c then g k else f k) Q := by
  by_cases hc : c
  · exact EvP.pos hc (h1 hc)
  · exact EvP.neg hc (h2 hc)
theorem EvP.some {α : Type} {r : α} {Q : α → Prop} (h : Q r) : EvP (fun _ => Option.some r) Q := ⟨r, Ev.now _, h⟩
theorem EvP.const {α : Type} {g : Option α} {P : α → Prop} (h : ∃ a, g = Option.some a ∧ P a) : EvP (fun _ => g) P := by
  obtain ⟨a, e, hp⟩ := h; exact ⟨a, ev_const e, hp⟩
theorem EvP.succ {α : Type} {g : Nat → Option α} {Q : α → Prop} (h : EvP (fun k => g (k + 1)) Q) : EvP g Q := by
  obtain ⟨r, e, hq⟩ := h; exact ⟨r, ev_succ e, hq⟩
theorem EvP.mono {α : Type} {g : Nat → Option α} {P Q : α → Prop} (h : EvP g P) (hi : ∀ a, P a → Q a) : EvP g Q := by
  obtain ⟨r, e, hq⟩ := h; exact ⟨r, e, hi r hq⟩
theorem EvP.of {α : Type} {g : Nat → Option α} {r : α} {Q : α → Prop} (h : Ev g r) (hq : Q r) : EvP g Q := ⟨r, h, hq⟩
theorem EvP.ev {α : Type} {g : Nat → Option α} {r : α} (h : EvP g (fun x => x = r)) : Ev g r := by
  obtain ⟨x, e, hx⟩ := h
  subst hx
  exact e
/-- A callee that goes round not at all. -/
theorem EvP.bindS {α β : Type} {g : Option α} {f : Nat → α → Option β} {P : α → Prop} {Q : β → Prop} (h : ∃ a, g = Option.some a ∧ P a) (hf : ∀ a, P a → EvP (fun k => f k a) Q) : EvP (fun k => g.bind (f k)) Q := by
  obtain ⟨a, rfl, hp⟩ := h
  exact hf a hp

end Go.Proofs.Ytplgbnalflpdhaa.Y

/- Plain lemmas over numbers and lists (drawP). Conditions: as each states. -/
namespace Go.Proofs.Ytplgbnalflpdhaa.Y
open Go.RowKit Go.Proofs.Ytplgbnalflpdhaa.X Go.Proofs.YtplgbnalflpdhaaW.PrintWords Go.Proofs.YtplgbnalflpdhaaW.PrintLast Go.Proofs.YtplgbnalflpdhaaW.PrintMore Go.Proofs.Ytplgbnalflpdhaa.Y
set_option linter.unusedVariables false
set_option linter.unusedSimpArgs false
theorem l1Byte_p (l : List Int) (i h : Int) (hl : l.length ≤ 1048576) (hi : 0 ≤ i ∧ i ≤ l.length) : ∃ a, spec_l1Byte.f l i h = some a ∧ (0 ≤ a.1 ∧ a.1 ≤ 255) ∧ 0 ≤ a.2.1 ∧ a.2.1 ≤ l.length := by
  obtain ⟨v, i', h', e, hv, hj⟩ := l1Byte_ok l i h hl hi.1 hi.2
  exact ⟨_, e, hv, hj⟩
theorem l1Below_p (l : List Int) (i h n : Int) (hl : l.length ≤ 1048576) (hi : 0 ≤ i ∧ i ≤ l.length) (hn : n ≤ 1000000000) : ∃ a, spec_l1Below.f l i h n = some a ∧ (0 ≤ a.1 ∧ (a.1 < n ∨ n ≤ 0 ∧ a.1 = 0)) ∧ 0 ≤ a.2.1 ∧ a.2.1 ≤ l.length := by
  obtain ⟨v, i', h', e, hv, hj⟩ := l1Below_ok l i h n hl hi.1 hi.2 hn
  exact ⟨_, e, hv, hj⟩
theorem l1PickInt_p (l : List Int) (i h : Int) (m : List Int) (hl : l.length ≤ 1048576) (hi : 0 ≤ i ∧ i ≤ l.length) (hm : 0 < m.length) (hm2 : m.length ≤ 1000) : ∃ a, spec_l1PickInt.f l i h m = some a ∧ a.1 ∈ m ∧ 0 ≤ a.2.1 ∧ a.2.1 ≤ l.length := by
  obtain ⟨v, i', h', e, hv, hj⟩ := l1PickInt_ok l i h m hl hi.1 hi.2 hm hm2
  exact ⟨_, e, hv, hj⟩
theorem l1DrawPoint_p (l : List Int) (i h : Int) (hl : l.length ≤ 1048576) (hi : 0 ≤ i ∧ i ≤ l.length) : ∃ a, spec_l1DrawPoint.f l i h = some a ∧ (-1 ≤ a.1 ∧ a.1 ≤ 1200000) ∧ 0 ≤ a.2.1 ∧ a.2.1 ≤ l.length := by
  obtain ⟨v, i', h', e, hv, hj⟩ := l1DrawPoint_ok l i h hl hi.1 hi.2
  exact ⟨_, e, hv, hj⟩
theorem l1New_p (l : List Int) (hl : l.length ≤ 1048576) : EvP (fun k => spec_l1New.f k l) (fun a => a.1 = l ∧ 0 ≤ a.2.1 ∧ a.2.1 ≤ (l.length : Int)) := by
  obtain ⟨h', e⟩ := l1New_ok l hl
  exact ⟨_, e, rfl, by simp, by simp⟩

end Go.Proofs.Ytplgbnalflpdhaa.Y

/- Plain lemmas over numbers and lists (drawPick). Conditions: as each states. -/
namespace Go.Proofs.Ytplgbnalflpdhaa.Y
open Go.RowKit Go.Proofs.Ytplgbnalflpdhaa.X Go.Proofs.YtplgbnalflpdhaaW.PrintWords Go.Proofs.YtplgbnalflpdhaaW.PrintLast Go.Proofs.YtplgbnalflpdhaaW.PrintMore Go.Proofs.Ytplgbnalflpdhaa.Y
set_option linter.unusedVariables false
set_option linter.unusedSimpArgs false
theorem l1Pick_p (l : List Int) (i h : Int) (m : List ByteArray) (hl : l.length ≤ 1048576) (hi : 0 ≤ i ∧ i ≤ l.length) (hm : 0 < m.length) (hm2 : m.length ≤ 1000) : ∃ a, spec_l1Pick.f l i h m = some a ∧ a.1 ∈ m ∧ 0 ≤ a.2.1 ∧ a.2.1 ≤ l.length := by
  unfold spec_l1Pick.f
  obtain ⟨b, e, hv, hj⟩ := l1Below_p l i h m.length hl hi (by omega)
  rw [e, Option.bind_some, if_pos hv.1, if_pos (by omega)]
  refine ⟨_, rfl, ?_, hj⟩
  show rdOf ByteArray.empty m b.1 ∈ m
  unfold rdOf
  rw [List.getD_eq_getElem?_getD, List.getElem?_eq_getElem (by omega)]
  exact List.getElem_mem _

end Go.Proofs.Ytplgbnalflpdhaa.Y

/- Plain lemmas over numbers and lists (drawOnce). Conditions: as each states. -/
namespace Go.Proofs.Ytplgbnalflpdhaa.Y
open Go.RowKit Go.Proofs.Ytplgbnalflpdhaa.X Go.Proofs.YtplgbnalflpdhaaW.PrintWords Go.Proofs.YtplgbnalflpdhaaW.PrintLast Go.Proofs.YtplgbnalflpdhaaW.PrintMore Go.Proofs.Ytplgbnalflpdhaa.Y
set_option linter.unusedVariables false
set_option linter.unusedSimpArgs false
theorem l1Once_p (l : List Int) (i h n : Int) (hl : l.length ≤ 1048576) (hi : 0 ≤ i ∧ i ≤ l.length) (hn : n ≤ 1000000000) : ∃ a, spec_l1Once.f l i h n = some a ∧ True ∧ 0 ≤ a.2.1 ∧ a.2.1 ≤ l.length := by
  obtain ⟨a, e, _, hj⟩ := l1Below_p l i h n hl hi hn
  unfold spec_l1Once.f
  rw [e, Option.bind_some]
  exact ⟨_, rfl, True.intro, hj⟩

end Go.Proofs.Ytplgbnalflpdhaa.Y

/- Plain lemmas over numbers and lists (utfR). Conditions: as each states. -/
namespace Go.Proofs.Ytplgbnalflpdhaa.Y
open Go.RowKit Go.Proofs.Ytplgbnalflpdhaa.X Go.Proofs.YtplgbnalflpdhaaW.PrintWords Go.Proofs.YtplgbnalflpdhaaW.PrintLast Go.Proofs.YtplgbnalflpdhaaW.PrintMore Go.Proofs.Ytplgbnalflpdhaa.Y
set_option linter.unusedVariables false
set_option linter.unusedSimpArgs false
def formN (b : Int) : Nat := if b < 128 then 1 else if 194 ≤ b ∧ b ≤ 223 then 2 else if 224 ≤ b ∧ b ≤ 239 then 3 else if 240 ≤ b ∧ b ≤ 244 then 4 else 0
def formX (b : Int) : Int := if b < 128 then b else if b ≤ 223 then b - 192 else if b ≤ 239 then b - 224 else b - 240
def low1 (b : Int) : Int := if b = 224 then 160 else if b = 240 then 144 else 128
def high1 (b : Int) : Int := if b = 237 then 159 else if b = 244 then 143 else 191
/-- How many of the next d bytes stand in their bounds, the first in those that are told. -/
def mk : Nat → List Int → Int → Int → Nat
  | 0, _, _, _ => 0
  | _ + 1, [], _, _ => 0
  | d + 1, b :: r, lo, hi => if lo ≤ b ∧ b ≤ hi then mk d r 128 191 + 1 else 0
def vl : Nat → List Int → Int → Int
  | 0, _, x => x
  | _ + 1, [], x => x
  | d + 1, b :: r, x => vl d r (64 * x + b - 128)
def readPt : List Int → Int × Nat
  | [] => (65533, 1)
  | b :: r => if formN b = 0 then (65533, 1) else if mk (formN b - 1) r (low1 b) (high1 b) < formN b - 1 then (65533, mk (formN b - 1) r (low1 b) (high1 b) + 1) else (vl (formN b - 1) r (formX b), formN b)
def ur : Nat → List Int → List Int
  | 0, _ => []
  | _ + 1, [] => []
  | n + 1, b :: r => (readPt (b :: r)).1 :: ur n ((b :: r).drop (readPt (b :: r)).2)
theorem mk_le : ∀ (d : Nat) (r : List Int) (lo hi : Int), mk d r lo hi ≤ d ∧ mk d r lo hi ≤ r.length
  | 0, r, lo, hi => by simp [mk]
  | d + 1, [], lo, hi => by simp [mk]
  | d + 1, b :: r, lo, hi => by
    unfold mk; split
    · have := mk_le d r 128 191; simp only [List.length_cons]; omega
    · simp
theorem formN_le (b : Int) : formN b ≤ 4 := by
  unfold formN; split
  · omega
  · split
    · omega
    · split
      · omega
      · split <;> omega
theorem readPt_n (b : Int) (r : List Int) : 1 ≤ (readPt (b :: r)).2 ∧ (readPt (b :: r)).2 ≤ (b :: r).length := by
  have h := mk_le (formN b - 1) r (low1 b) (high1 b)
  simp only [readPt]
  by_cases h0 : formN b = 0
  · rw [if_pos h0]; simp
  · rw [if_neg h0]
    by_cases h1 : mk (formN b - 1) r (low1 b) (high1 b) < formN b - 1
    · rw [if_pos h1]; simp only [List.length_cons]; omega
    · rw [if_neg h1]; simp only [List.length_cons]; omega
theorem ur_nil (n : Nat) : ur n [] = [] := by cases n <;> rfl
theorem ur_len : ∀ (n : Nat) (l : List Int), (ur n l).length ≤ l.length
  | 0, l => by simp [ur]
  | n + 1, [] => by simp [ur]
  | n + 1, b :: r => by
    have h := readPt_n b r
    have := ur_len n ((b :: r).drop (readPt (b :: r)).2)
    simp only [ur, List.length_cons, List.length_drop] at *
    omega
/-- Where there are rounds enough, how many does not count. -/
theorem ur_more : ∀ (n m : Nat) (l : List Int), l.length ≤ n → l.length ≤ m → ur n l = ur m l := by
  intro n
  induction n with
  | zero =>
    intro m l h _
    have : l = [] := List.length_eq_zero_iff.1 (by omega)
    subst this; rw [ur_nil, ur_nil]
  | succ n ih =>
    intro m l h h'
    cases l with
    | nil => rw [ur_nil, ur_nil]
    | cons b r =>
      cases m with
      | zero => simp at h'
      | succ m =>
        have hn := readPt_n b r
        simp only [List.length_cons] at h h' hn
        simp only [ur]
        rw [ih m _ (by simp only [List.length_drop, List.length_cons]; omega) (by simp only [List.length_drop, List.length_cons]; omega)]
def urAll (l : List Int) : List Int := ur l.length l
theorem urAll_cons (b : Int) (r : List Int) : urAll (b :: r) = (readPt (b :: r)).1 :: urAll ((b :: r).drop (readPt (b :: r)).2) := by
  have hn := readPt_n b r
  show (readPt (b :: r)).1 :: ur r.length _ = _
  unfold urAll
  rw [ur_more r.length _ _ (by simp only [List.length_drop, List.length_cons] at *; omega) (Nat.le_refl _)]
theorem urAll_len (l : List Int) : (urAll l).length ≤ l.length := ur_len _ _
def unBom (l : List Int) : List Int := if l.take 3 = [239, 187, 191] then l.drop 3 else l
def utfRead (l : List Int) : List Int := if (l.length : Int) > 3000 then [] else urAll (unBom l)
theorem unBom_len (l : List Int) : (unBom l).length ≤ l.length := by unfold unBom; split <;> simp
theorem utfRead_len (l : List Int) : (utfRead l).length ≤ 3000 ∧ (utfRead l).length ≤ l.length := by
  unfold utfRead; split
  · simp
  · have := urAll_len (unBom l); have := unBom_len l; omega
theorem rd_bytes {l : List Int} (hw : ∀ x ∈ l, (Lit.int .u8 x).wf = true) (i : Int) : 0 ≤ rd l i ∧ rd l i ≤ 255 := by
  unfold rd
  rw [List.getD_eq_getElem?_getD]
  cases h : l[i.toNat]? with
  | none => simp
  | some v => exact wf8 (hw v (List.mem_of_getElem? h))
theorem wf_drop {l : List Int} (hw : ∀ x ∈ l, (Lit.int .u8 x).wf = true) (n : Nat) : ∀ x ∈ l.drop n, (Lit.int .u8 x).wf = true := fun x hx => hw x (List.mem_of_mem_drop hx)
def lim : Nat → Int
  | 0 => 1099511627776
  | 1 => 4294967296
  | 2 => 16777216
  | _ => 65536

end Go.Proofs.Ytplgbnalflpdhaa.Y

/- Plain lemmas over numbers and lists (utfReadS). Conditions: as each states. -/
namespace Go.Proofs.Ytplgbnalflpdhaa.Y
open Go.RowKit Go.Proofs.Ytplgbnalflpdhaa.X Go.Proofs.YtplgbnalflpdhaaW.PrintWords Go.Proofs.YtplgbnalflpdhaaW.PrintLast Go.Proofs.YtplgbnalflpdhaaW.PrintMore Go.Proofs.Ytplgbnalflpdhaa.Y
set_option linter.unusedVariables false
set_option linter.unusedSimpArgs false
theorem l1Forms_eq (b : Int) : spec_l1Forms.f b = some (formN b : Int) := by
  unfold spec_l1Forms.f formN
  simp only [spec_l1In_eq, Option.bind_some, decide_eq_true_eq]
  by_cases a : b < 128
  · simp [a]
  · simp only [if_neg a]
    split
    · rfl
    · split
      · rfl
      · split <;> rfl
theorem l1Fits_eq (b : Int) (c : Int) (x : Int) : spec_l1Fits.f b c x = some (decide ((if c = 1 then low1 b else 128) ≤ x ∧ x ≤ (if c = 1 then high1 b else 191))) := by
  unfold spec_l1Fits.f low1 high1
  simp only [spec_l1In_eq, Option.bind_some]
  by_cases hc : c = 1
  · simp only [if_pos hc]
    by_cases h1 : b = 224
    · subst h1; simp
    · by_cases h2 : b = 237
      · subst h2; simp
      · by_cases h3 : b = 240
        · subst h3; simp
        · by_cases h4 : b = 244
          · subst h4; simp
          · simp [h1, h2, h3, h4]
  · simp [hc]
theorem l1Read_l1 (l acc : List Int) (hl : l.length ≤ 1000000000) (hw : ∀ x ∈ l, (Lit.int .u8 x).wf = true) (a n : Int) (ha : 0 ≤ a) (ha2 : a < l.length) (b : Int) (res : List Int) : ∀ (d : Nat) (c : Nat), 1 ≤ c → (c : Int) + d = n → n ≤ 4 → (m : Nat) → m = mk d (l.drop (a + c).toNat) (if (c : Int) = 1 then low1 b else 128) (if (c : Int) = 1 then high1 b else 191) →
    Ev (fun k => spec_l1Read.j2 k l acc a b n ((c + m : Nat) : Int)) res → Ev (fun k => spec_l1Read.l1 k l acc a b n c) res := by
  intro d
  induction d with
  | zero =>
    intro c h1 hd h4 m hm hj
    have : m = 0 := by rw [hm]; simp [mk]
    subst this
    refine Ev.step (f := fun k => spec_l1Read.j2 k l acc a b n c) (fun k => ?_) hj
    simp only [spec_l1Read.l1]; rw [if_neg (by omega)]
  | succ d ih =>
    intro c h1 hd h4 m hm hj
    have e1 : wrap64 (a + c) = a + c := w64 (by omega) (by omega)
    by_cases hlt : a + c < l.length
    · rw [drop_cons (by omega) hlt] at hm
      have hb := rd_bytes hw (a + c)
      unfold mk at hm
      by_cases hf : (if (c : Int) = 1 then low1 b else 128) ≤ rd l (a + c) ∧ rd l (a + c) ≤ (if (c : Int) = 1 then high1 b else 191)
      · rw [if_pos hf] at hm
        refine Ev.step (f := fun k => spec_l1Read.l1 k l acc a b n ((c + 1 : Nat) : Int)) (fun k => ?_) (ih (c + 1) (by omega) (by omega) h4 (m - 1) ?_ ?_)
        · simp only [spec_l1Read.l1, e1, l1Fits_eq, Option.bind_some]
          rw [w64 (x := rd l (a + c)) (by omega) (by omega), decide_eq_true hf, if_pos (by omega), if_pos hlt, if_pos (by omega), if_pos rfl, w64 (x := (c : Int) + 1) (by omega) (by omega)]; rfl
        · rw [if_neg (by omega), if_neg (by omega), show a + ((c + 1 : Nat) : Int) = a + c + 1 by omega]; omega
        · rwa [show c + 1 + (m - 1) = c + m by omega]
      · rw [if_neg hf] at hm
        subst hm
        refine Ev.step (f := fun k => spec_l1Read.j2 k l acc a b n c) (fun k => ?_) hj
        simp only [spec_l1Read.l1, e1, l1Fits_eq, Option.bind_some]
        rw [w64 (x := rd l (a + c)) (by omega) (by omega), decide_eq_false hf, if_pos (by omega), if_pos hlt, if_pos (by omega), if_neg (by simp)]
    · rw [List.drop_of_length_le (by omega)] at hm
      unfold mk at hm
      subst hm
      refine Ev.step (f := fun k => spec_l1Read.j2 k l acc a b n c) (fun k => ?_) hj
      simp only [spec_l1Read.l1, e1]
      rw [if_pos (by omega), if_neg hlt]
theorem l1Read_l2 (l acc : List Int) (hl : l.length ≤ 1000000000) (hacc : acc.length ≤ 1000000000) (hw : ∀ x ∈ l, (Lit.int .u8 x).wf = true) (a n : Int) (ha : 0 ≤ a) (han : a + n ≤ l.length) (res : List Int) : ∀ (d : Nat) (c : Nat) (x : Int), 1 ≤ c → (c : Int) + d = n → n ≤ 4 → (m : Int) → m = vl d (l.drop (a + c).toNat) x → mk d (l.drop (a + c).toNat) 0 255 = 0 ∨ True → -lim d ≤ x → x ≤ lim d →
    Ev (fun k => spec_l1Read.l0 k l (acc ++ [m]) (a + n)) res → Ev (fun k => spec_l1Read.l2 k l acc a n x c) res := by
  intro d
  induction d with
  | zero =>
    intro c x h1 hd h4 m hm _ hx0 hx1 hj
    simp only [vl] at hm; subst hm
    refine Ev.step (f := fun k => spec_l1Read.l0 k l (acc ++ [m]) (a + n)) (fun k => ?_) hj
    simp only [spec_l1Read.l2]; rw [if_neg (by omega), if_pos (by omega), w64 (by omega) (by omega)]
  | succ d ih =>
    intro c x h1 hd h4 m hm _ hx0 hx1 hj
    have e1 : wrap64 (a + c) = a + c := w64 (by omega) (by omega)
    have hlt : a + c < l.length := by omega
    rw [drop_cons (by omega) hlt] at hm
    have hb := rd_bytes hw (a + c)
    simp only [vl] at hm
    have hL : lim (d + 1) ≤ 4294967296 ∧ 64 * lim (d + 1) + 255 ≤ lim d := by
      have : d = 0 ∨ d = 1 ∨ d = 2 := by omega
      rcases this with rfl | rfl | rfl <;> simp [lim]
    refine Ev.step (f := fun k => spec_l1Read.l2 k l acc a n (64 * x + rd l (a + c) - 128) ((c + 1 : Nat) : Int)) (fun k => ?_) (ih (c + 1) _ (by omega) (by omega) h4 m ?_ (.inr trivial) (by omega) (by omega) hj)
    · simp only [spec_l1Read.l2, e1]
      rw [w64 (x := rd l (a + c)) (by omega) (by omega), w64 (x := 64 * x) (by omega) (by omega), w64 (x := 64 * x + _) (by omega) (by omega), w64 (x := _ - 128) (by omega) (by omega), w64 (x := (c : Int) + 1) (by omega) (by omega), if_pos (by omega), if_pos (by omega), if_pos hlt]; rfl
    · rw [hm, show a + ((c + 1 : Nat) : Int) = a + c + 1 by omega]
theorem l1Read_l0 (l : List Int) (hl : l.length ≤ 1000000000) (hw : ∀ x ∈ l, (Lit.int .u8 x).wf = true) : ∀ (d : Nat) (a : Int) (acc : List Int), 0 ≤ a → a ≤ l.length → l.length - a ≤ d → acc.length ≤ a →
    Ev (fun k => spec_l1Read.l0 k l acc a) (acc ++ urAll (l.drop a.toNat)) := by
  intro d
  induction d with
  | zero =>
    intro a acc h0 h1 h2 h3
    refine Ev.step (f := fun _ => some acc) (fun k => ?_) (ev_some ?_)
    · simp only [spec_l1Read.l0]; rw [if_neg (by omega)]
    · rw [List.drop_of_length_le (by omega)]; simp [urAll, ur]
  | succ d ih =>
    intro a acc h0 h1 h2 h3
    by_cases hlt : a < l.length
    · have hb := rd_bytes hw a
      have hr := readPt_n (rd l a) (l.drop (a + 1).toNat)
      have hcons := drop_cons h0 hlt
      have hmk := mk_le (formN (rd l a) - 1) (l.drop (a + 1).toNat) (low1 (rd l a)) (high1 (rd l a))
      have hf4 := formN_le (rd l a)
      have hlen : (l.drop (a + 1).toNat).length = l.length - a.toNat - 1 := by rw [List.length_drop]; omega
      rw [hlen] at hmk
      rw [hcons, urAll_cons, ← hcons]
      have hdd : ∀ m : Nat, (l.drop a.toNat).drop m = l.drop (a + m).toNat := fun m => by rw [List.drop_drop]; congr 1; omega
      rw [hdd]
      have key : Ev (fun k => spec_l1Read.l0 k l (acc ++ [(readPt (l.drop a.toNat)).1]) (a + ((readPt (l.drop a.toNat)).2 : Int))) (acc ++ (readPt (l.drop a.toNat)).1 :: urAll (l.drop (a + ((readPt (l.drop a.toNat)).2 : Int)).toNat)) := by
        rw [← hcons] at hr
        rw [List.length_drop] at hr
        have := ih (a + ((readPt (l.drop a.toNat)).2 : Int)) (acc ++ [(readPt (l.drop a.toNat)).1]) (by omega) (by omega) (by omega) (by simp; omega)
        simpa using this
      generalize hres : acc ++ (readPt (l.drop a.toNat)).1 :: urAll (l.drop (a + ((readPt (l.drop a.toNat)).2 : Int)).toNat) = res at *
      rw [hcons] at key
      simp only [readPt] at key
      refine Ev.step (f := fun k => spec_l1Read.l1 k l acc a (rd l a) (formN (rd l a) : Int) ((1 : Nat) : Int)) (fun k => ?_) ?_
      · simp only [spec_l1Read.l0, l1Forms_eq, Option.bind_some]; rw [if_pos hlt, if_pos h0, w64 (x := rd l a) (by omega) (by omega)]; rfl
      by_cases hz : formN (rd l a) = 0
      · rw [if_pos hz] at key
        refine Ev.step (f := fun k => spec_l1Read.j2 k l acc a (rd l a) (formN (rd l a) : Int) 1) (fun k => ?_) (Ev.step (f := fun k => spec_l1Read.j3 k l acc a (rd l a) (formN (rd l a) : Int) 1 true) (fun k => ?_) (Ev.step (fun k => ?_) key))
        · simp only [spec_l1Read.l1]; rw [if_neg (by omega)]; rfl
        · simp only [spec_l1Read.j2]; rw [if_pos (by omega)]
        · simp only [spec_l1Read.j3, if_true]; rw [if_pos (by omega), w64 (by omega) (by omega)]; rfl
      · rw [if_neg hz] at key
        refine l1Read_l1 l acc hl hw a _ h0 hlt (rd l a) res (formN (rd l a) - 1) 1 (by omega) (by omega) (by omega) (mk (formN (rd l a) - 1) (l.drop (a + 1).toNat) (low1 (rd l a)) (high1 (rd l a))) rfl ?_
        generalize hm : mk (formN (rd l a) - 1) (l.drop (a + 1).toNat) (low1 (rd l a)) (high1 (rd l a)) = m at *
        by_cases hs : m < formN (rd l a) - 1
        · rw [if_pos hs] at key
          refine Ev.step (f := fun k => spec_l1Read.j3 k l acc a (rd l a) (formN (rd l a) : Int) ((1 + m : Nat) : Int) true) (fun k => ?_) (Ev.step (fun k => ?_) key)
          · simp only [spec_l1Read.j2]; rw [if_neg (by omega), decide_eq_true (by omega)]
          · simp only [spec_l1Read.j3, if_true]; rw [if_pos (by omega), w64 (by omega) (by omega), Nat.add_comm 1 m]
        · rw [if_neg hs] at key
          refine Ev.step (f := fun k => spec_l1Read.j3 k l acc a (rd l a) (formN (rd l a) : Int) ((1 + m : Nat) : Int) false) (fun k => ?_) (Ev.step (f := fun k => spec_l1Read.j4 k l acc a (formN (rd l a) : Int) (formX (rd l a))) (fun k => ?_) (Ev.step (f := fun k => spec_l1Read.l2 k l acc a (formN (rd l a) : Int) (formX (rd l a)) ((1 : Nat) : Int)) (fun k => ?_) ?_))
          · simp only [spec_l1Read.j2]; rw [if_neg (by omega), decide_eq_false (by omega)]
          · simp only [spec_l1Read.j3, Bool.false_eq_true, if_false]
            have : formN (rd l a) = 1 ∧ rd l a < 128 ∨ formN (rd l a) = 2 ∧ 194 ≤ rd l a ∧ rd l a ≤ 223 ∨ formN (rd l a) = 3 ∧ 224 ≤ rd l a ∧ rd l a ≤ 239 ∨ formN (rd l a) = 4 ∧ 240 ≤ rd l a ∧ rd l a ≤ 244 := by
              unfold formN at hz ⊢
              by_cases a1 : rd l a < 128
              · simp [a1]
              · by_cases a2 : 194 ≤ rd l a ∧ rd l a ≤ 223
                · simp [a1, a2]
                · by_cases a3 : 224 ≤ rd l a ∧ rd l a ≤ 239
                  · simp [a1, a2, a3]
                  · by_cases a4 : 240 ≤ rd l a ∧ rd l a ≤ 244
                    · simp [a1, a2, a3, a4]
                    · simp [a1, a2, a3, a4] at hz
            have hx : formN (rd l a) = 1 ∧ formX (rd l a) = rd l a ∨ formN (rd l a) = 2 ∧ formX (rd l a) = rd l a - 192 ∨ formN (rd l a) = 3 ∧ formX (rd l a) = rd l a - 224 ∨ formN (rd l a) = 4 ∧ formX (rd l a) = rd l a - 240 := by
              unfold formX
              rcases this with ⟨h, g⟩ | ⟨h, g, g'⟩ | ⟨h, g, g'⟩ | ⟨h, g, g'⟩
              · exact .inl ⟨h, by rw [if_pos g]⟩
              · exact .inr (.inl ⟨h, by rw [if_neg (by omega), if_pos (by omega)]⟩)
              · exact .inr (.inr (.inl ⟨h, by rw [if_neg (by omega), if_neg (by omega), if_pos (by omega)]⟩))
              · exact .inr (.inr (.inr ⟨h, by rw [if_neg (by omega), if_neg (by omega), if_neg (by omega)]⟩))
            rcases hx with ⟨h, g⟩ | ⟨h, g⟩ | ⟨h, g⟩ | ⟨h, g⟩
            · rw [h, g]; rfl
            · rw [h, g, w64 (x := rd l a - 192) (by omega) (by omega)]; rfl
            · rw [h, g, w64 (x := rd l a - 224) (by omega) (by omega)]; rfl
            · rw [h, g, w64 (x := rd l a - 240) (by omega) (by omega)]; rfl
          · simp only [spec_l1Read.j4]; rfl
          · have hX : -255 ≤ formX (rd l a) ∧ formX (rd l a) ≤ 255 := by
              unfold formX; split
              · omega
              · split
                · omega
                · split <;> omega
            have hL : 255 ≤ lim (formN (rd l a) - 1) := by
              unfold lim; split <;> omega
            exact l1Read_l2 l acc hl (by omega) hw a _ h0 (by omega) res (formN (rd l a) - 1) 1 (formX (rd l a)) (by omega) (by omega) (by omega) _ rfl (.inr trivial) (by omega) (by omega) key
    · refine Ev.step (f := fun _ => some acc) (fun k => ?_) (ev_some ?_)
      · simp only [spec_l1Read.l0]; rw [if_neg hlt]
      · rw [List.drop_of_length_le (by omega)]; simp [urAll, ur]
theorem l1Read_ev (l : List Int) (hl : l.length ≤ 1000000000) (hw : ∀ x ∈ l, (Lit.int .u8 x).wf = true) : Ev (fun k => spec_l1Read.f k l) (urAll l) := by
  unfold spec_l1Read.f
  simpa using l1Read_l0 l hl hw l.length 0 [] (by omega) (by omega) (by omega) (by simp)
theorem spec_UtfRead_ev (l : List Int) (hw : ∀ x ∈ l, (Lit.int .u8 x).wf = true) : Ev (fun k => spec_UtfRead.f k l) (utfRead l) := by
  unfold spec_UtfRead.f utfRead
  by_cases h : (l.length : Int) > 3000
  · simp only [if_pos h]; exact Ev.now _
  simp only [if_neg h]
  have hj : ∀ c : Bool, (c = true → 3 ≤ l.length) → Ev (fun k => spec_UtfRead.j0 k l c) (urAll (if c = true then l.drop 3 else l)) := by
    intro c hc
    refine ev_succ ?_
    simp only [spec_UtfRead.j0]
    cases c with
    | true => exact ev_pos rfl (ev_pos (by have := hc rfl; omega) (Ev.bind (l1Read_ev _ (by simp only [List.length_drop]; omega) (wf_drop hw 3)) (Ev.now _)))
    | false => exact ev_neg (by simp) (Ev.bind (l1Read_ev l (by omega) hw) (Ev.now _))
  by_cases h3 : l.length ≥ 3
  · obtain ⟨a, b, c, r, rfl⟩ : ∃ a b c r, l = a :: b :: c :: r := by
      match l, h3 with
      | a :: b :: c :: r, _ => exact ⟨a, b, c, r, rfl⟩
    have e0 : rd (a :: b :: c :: r) 0 = a := rfl
    have e1 : rd (a :: b :: c :: r) 1 = b := rfl
    have e2 : rd (a :: b :: c :: r) 2 = c := rfl
    refine ev_pos (by omega) (ev_pos (by simp only [List.length_cons]; omega) ?_)
    simp only [e0, e1, e2]
    have hu : unBom (a :: b :: c :: r) = if (decide (a = 239) && decide (b = 187) && decide (c = 191)) = true then (a :: b :: c :: r).drop 3 else a :: b :: c :: r := by
      unfold unBom
      have : (a :: b :: c :: r).take 3 = [a, b, c] := rfl
      rw [this]
      by_cases g : a = 239 ∧ b = 187 ∧ c = 191
      · obtain ⟨rfl, rfl, rfl⟩ := g; simp
      · rw [if_neg (by simpa using g), if_neg (by simpa [and_assoc] using g)]
    rw [hu]
    by_cases g1 : a = 239
    · refine ev_pos g1 (ev_pos (by simp only [List.length_cons]; omega) ?_)
      by_cases g2 : b = 187
      · refine ev_pos g2 (ev_pos (by simp only [List.length_cons]; omega) ?_)
        have := hj (c == 191) (fun _ => h3)
        rw [show (decide (a = 239) && decide (b = 187) && decide (c = 191)) = (c == 191) by simp [g1, g2]; rfl]
        exact this
      · refine ev_neg g2 ?_
        rw [show (decide (a = 239) && decide (b = 187) && decide (c = 191)) = false by simp [g2]]
        exact hj false (by simp)
    · refine ev_neg g1 ?_
      rw [show (decide (a = 239) && decide (b = 187) && decide (c = 191)) = false by simp [g1]]
      exact hj false (by simp)
  · refine ev_neg (by omega) ?_
    have : unBom l = l := by
      unfold unBom; rw [if_neg]
      intro g; have := congrArg List.length g; simp at this; omega
    rw [this]
    exact hj false (by simp)

end Go.Proofs.Ytplgbnalflpdhaa.Y

/- Plain lemmas over numbers and lists (sameInts). Conditions: as each states. -/
namespace Go.Proofs.Ytplgbnalflpdhaa.Y
open Go.RowKit Go.Proofs.Ytplgbnalflpdhaa.X Go.Proofs.YtplgbnalflpdhaaW.PrintWords Go.Proofs.YtplgbnalflpdhaaW.PrintLast Go.Proofs.YtplgbnalflpdhaaW.PrintMore Go.Proofs.Ytplgbnalflpdhaa.Y
set_option linter.unusedVariables false
set_option linter.unusedSimpArgs false
theorem sameInts_l (l : List Int) (hl : l.length ≤ 9223372036854775807) : ∀ (d : Nat) (i : Int), 0 ≤ i → i + d = l.length → Ev (fun k => laws_sameInts.l0 k l l i) true := by
  intro d
  induction d with
  | zero =>
    intro i h0 h
    refine Ev.step (f := fun _ => some true) (fun k => ?_) (Ev.now _)
    simp only [laws_sameInts.l0]; rw [if_neg (by omega)]
  | succ d ih =>
    intro i h0 h
    refine Ev.step (f := fun k => laws_sameInts.l0 k l l (i + 1)) (fun k => ?_) (ih (i + 1) (by omega) (by omega))
    simp only [laws_sameInts.l0]; rw [if_pos (by omega), if_pos h0, if_pos (by omega), if_pos True.intro, w64 (by omega) (by omega)]
theorem sameInts_same (l : List Int) (hl : l.length ≤ 9223372036854775807) : Ev (fun k => laws_sameInts.f k l l) true := by
  refine Ev.congr (f := fun k => laws_sameInts.l0 k l l 0) (fun k => ?_) (sameInts_l l hl l.length 0 (by omega) (by omega))
  simp only [laws_sameInts.f]; rw [if_pos True.intro]

end Go.Proofs.Ytplgbnalflpdhaa.Y

/- Plain lemmas over numbers and lists (pokI). Conditions: as each states. -/
namespace Go.Proofs.Ytplgbnalflpdhaa.Y
open Go.RowKit Go.Proofs.Ytplgbnalflpdhaa.X Go.Proofs.YtplgbnalflpdhaaW.PrintWords Go.Proofs.YtplgbnalflpdhaaW.PrintLast Go.Proofs.YtplgbnalflpdhaaW.PrintMore Go.Proofs.Ytplgbnalflpdhaa.Y
set_option linter.unusedVariables false
set_option linter.unusedSimpArgs false
theorem impl_PointOk_eq (x : Int) : impl_PointOk.f x = some (pointOk x) := by
  unfold impl_PointOk.f pointOk
  simp only [impl_inRange_eq, Option.bind_some]
  by_cases h : 0 ≤ x ∧ x ≤ 1114111 <;> simp [h]

end Go.Proofs.Ytplgbnalflpdhaa.Y

/- Plain lemmas over numbers and lists (utfBack). Conditions: as each states. -/
namespace Go.Proofs.Ytplgbnalflpdhaa.Y
open Go.RowKit Go.Proofs.Ytplgbnalflpdhaa.X Go.Proofs.YtplgbnalflpdhaaW.PrintWords Go.Proofs.YtplgbnalflpdhaaW.PrintLast Go.Proofs.YtplgbnalflpdhaaW.PrintMore Go.Proofs.Ytplgbnalflpdhaa.Y
set_option linter.unusedVariables false
set_option linter.unusedSimpArgs false
theorem readPt_utf8 (x : Int) (r : List Int) (h : pointOk x = true) : readPt (utf8 x ++ r) = (x, (utf8 x).length) := by
  obtain ⟨⟨h0, h1⟩, h2⟩ := (pointOk_iff x).1 h
  unfold utf8
  by_cases a : x < 128
  · rw [if_pos a]
    have f : formN x = 1 := by unfold formN; rw [if_pos a]
    simp only [List.cons_append, List.nil_append, readPt, f]
    simp [mk, vl, formX, a]
  · rw [if_neg a]
    by_cases b : x < 2048
    · rw [if_pos b]
      have f : formN (192 + x / 64) = 2 := by unfold formN; rw [if_neg (by omega), if_pos (by omega)]
      have l : low1 (192 + x / 64) = 128 := by unfold low1; rw [if_neg (by omega), if_neg (by omega)]
      have g : high1 (192 + x / 64) = 191 := by unfold high1; rw [if_neg (by omega), if_neg (by omega)]
      have e : formX (192 + x / 64) = x / 64 := by unfold formX; rw [if_neg (by omega), if_pos (by omega)]; omega
      simp only [List.cons_append, List.nil_append, readPt, f, l, g, e]
      have m : mk (2 - 1) ((128 + x % 64) :: r) 128 191 = 1 := by
        show mk (0 + 1) _ _ _ = 1
        simp only [mk]; rw [if_pos (by omega)]
      have v : vl (2 - 1) ((128 + x % 64) :: r) (x / 64) = x := by
        show vl (0 + 1) _ _ = x
        simp only [vl]; omega
      rw [m, v]; simp
    · rw [if_neg b]
      by_cases c : x < 65536
      · rw [if_pos c]
        have f : formN (224 + x / 4096) = 3 := by unfold formN; rw [if_neg (by omega), if_neg (by omega), if_pos (by omega)]
        have e : formX (224 + x / 4096) = x / 4096 := by unfold formX; rw [if_neg (by omega), if_neg (by omega), if_pos (by omega)]; omega
        have l : low1 (224 + x / 4096) ≤ 128 + x / 64 % 64 := by
          unfold low1; split
          · omega
          · rw [if_neg (by omega)]; omega
        have g : 128 + x / 64 % 64 ≤ high1 (224 + x / 4096) := by
          unfold high1; split
          · omega
          · rw [if_neg (by omega)]; omega
        simp only [List.cons_append, List.nil_append, readPt, f, e]
        have m : mk (3 - 1) ((128 + x / 64 % 64) :: (128 + x % 64) :: r) (low1 (224 + x / 4096)) (high1 (224 + x / 4096)) = 2 := by
          show mk (1 + 1) _ _ _ = 2
          simp only [mk]; rw [if_pos ⟨l, g⟩, if_pos (by omega)]
        have v : vl (3 - 1) ((128 + x / 64 % 64) :: (128 + x % 64) :: r) (x / 4096) = x := by
          show vl (1 + 1) _ _ = x
          simp only [vl]; omega
        rw [m, v]; simp
      · rw [if_neg c]
        have f : formN (240 + x / 262144) = 4 := by unfold formN; rw [if_neg (by omega), if_neg (by omega), if_neg (by omega), if_pos (by omega)]
        have e : formX (240 + x / 262144) = x / 262144 := by unfold formX; rw [if_neg (by omega), if_neg (by omega), if_neg (by omega)]; omega
        have l : low1 (240 + x / 262144) ≤ 128 + x / 4096 % 64 := by
          unfold low1; rw [if_neg (by omega)]; split <;> omega
        have g : 128 + x / 4096 % 64 ≤ high1 (240 + x / 262144) := by
          unfold high1; rw [if_neg (by omega)]; split <;> omega
        simp only [List.cons_append, List.nil_append, readPt, f, e]
        have m : mk (4 - 1) ((128 + x / 4096 % 64) :: (128 + x / 64 % 64) :: (128 + x % 64) :: r) (low1 (240 + x / 262144)) (high1 (240 + x / 262144)) = 3 := by
          show mk (2 + 1) _ _ _ = 3
          simp only [mk]; rw [if_pos ⟨l, g⟩, if_pos (by omega), if_pos (by omega)]
        have v : vl (4 - 1) ((128 + x / 4096 % 64) :: (128 + x / 64 % 64) :: (128 + x % 64) :: r) (x / 262144) = x := by
          show vl (2 + 1) _ _ = x
          simp only [vl]; omega
        rw [m, v]; simp
theorem utf8_ne (x : Int) : ∃ b t, utf8 x = b :: t := by
  have := (utf8_len x).1
  cases h : utf8 x with
  | nil => rw [h] at this; simp at this
  | cons b t => exact ⟨b, t, rfl⟩
theorem urAll_utf8 (x : Int) (r : List Int) (h : pointOk x = true) : urAll (utf8 x ++ r) = x :: urAll r := by
  have e := readPt_utf8 x r h
  obtain ⟨b, t, hb⟩ := utf8_ne x
  rw [hb] at e ⊢
  rw [List.cons_append] at e ⊢
  rw [urAll_cons, e, ← List.cons_append]
  simp
theorem urAll_put (l : List Int) (h : ∀ x ∈ l, pointOk x = true) : urAll (putAll l) = l := by
  induction l with
  | nil => rfl
  | cons x xs ih =>
    have hx := h x (by simp)
    have e : putAll (x :: xs) = utf8 x ++ putAll xs := by simp [putAll, pointPut, point_of hx]
    rw [e, urAll_utf8 x _ hx, ih (fun y hy => h y (by simp [hy]))]
/-- What is read is a point. -/
theorem readPt_ok (b : Int) (r : List Int) (hw : 0 ≤ b) : pointOk (readPt (b :: r)).1 = true := by
  simp only [readPt]
  by_cases h0 : formN b = 0
  · rw [if_pos h0]; show pointOk 65533 = true; decide
  rw [if_neg h0]
  by_cases h1 : mk (formN b - 1) r (low1 b) (high1 b) < formN b - 1
  · rw [if_pos h1]; show pointOk 65533 = true; decide
  rw [if_neg h1]
  show pointOk (vl (formN b - 1) r (formX b)) = true
  rw [pointOk_iff]
  by_cases a : b < 128
  · have f : formN b = 1 := by unfold formN; rw [if_pos a]
    have e : formX b = b := by unfold formX; rw [if_pos a]
    rw [f, e]; simp only [vl, Nat.sub_self]; omega
  by_cases c : 194 ≤ b ∧ b ≤ 223
  · have f : formN b = 2 := by unfold formN; rw [if_neg a, if_pos c]
    have e : formX b = b - 192 := by unfold formX; rw [if_neg a, if_pos c.2]
    rw [f] at h1; rw [f, e]
    cases r with
    | nil => simp [mk] at h1
    | cons p r =>
      simp only [Nat.add_one_sub_one, Nat.reduceSub, mk, vl] at h1 ⊢
      have l : low1 b = 128 := by unfold low1; rw [if_neg (by omega), if_neg (by omega)]
      have g : high1 b = 191 := by unfold high1; rw [if_neg (by omega), if_neg (by omega)]
      by_cases m : low1 b ≤ p ∧ p ≤ high1 b
      · omega
      · rw [if_neg m] at h1; omega
  by_cases d : 224 ≤ b ∧ b ≤ 239
  · have f : formN b = 3 := by unfold formN; rw [if_neg a, if_neg c, if_pos d]
    have e : formX b = b - 224 := by unfold formX; rw [if_neg a, if_neg (by omega), if_pos d.2]
    rw [f] at h1; rw [f, e]
    cases r with
    | nil => simp [mk] at h1
    | cons p r =>
      simp only [Nat.reduceSub, mk, vl] at h1 ⊢
      by_cases m : low1 b ≤ p ∧ p ≤ high1 b
      · rw [if_pos m] at h1
        cases r with
        | nil => simp [mk] at h1
        | cons q r =>
          simp only [mk, vl] at h1 ⊢
          by_cases n : (128 : Int) ≤ q ∧ q ≤ 191
          · have hl : (b = 224 ∧ low1 b = 160) ∨ (b ≠ 224 ∧ low1 b = 128) := by
              unfold low1
              by_cases x : b = 224
              · exact .inl ⟨x, by rw [if_pos x]⟩
              · exact .inr ⟨x, by rw [if_neg x, if_neg (by omega)]⟩
            have hg : (b = 237 ∧ high1 b = 159) ∨ (b ≠ 237 ∧ high1 b = 191) := by
              unfold high1
              by_cases x : b = 237
              · exact .inl ⟨x, by rw [if_pos x]⟩
              · exact .inr ⟨x, by rw [if_neg x, if_neg (by omega)]⟩
            omega
          · rw [if_neg n] at h1; omega
      · rw [if_neg m] at h1; omega
  by_cases k : 240 ≤ b ∧ b ≤ 244
  · have f : formN b = 4 := by unfold formN; rw [if_neg a, if_neg c, if_neg d, if_pos k]
    have e : formX b = b - 240 := by unfold formX; rw [if_neg a, if_neg (by omega), if_neg (by omega)]
    rw [f] at h1; rw [f, e]
    cases r with
    | nil => simp [mk] at h1
    | cons p r =>
      simp only [Nat.reduceSub, mk, vl] at h1 ⊢
      by_cases m : low1 b ≤ p ∧ p ≤ high1 b
      · rw [if_pos m] at h1
        cases r with
        | nil => simp [mk] at h1
        | cons q r =>
          simp only [mk, vl] at h1 ⊢
          by_cases n : (128 : Int) ≤ q ∧ q ≤ 191
          · rw [if_pos n] at h1
            cases r with
            | nil => simp [mk] at h1
            | cons s r =>
              simp only [mk, vl] at h1 ⊢
              by_cases o : (128 : Int) ≤ s ∧ s ≤ 191
              · have hl : (b = 240 ∧ low1 b = 144) ∨ (b ≠ 240 ∧ low1 b = 128) := by
                  unfold low1
                  by_cases x : b = 240
                  · exact .inl ⟨x, by rw [if_neg (by omega), if_pos x]⟩
                  · exact .inr ⟨x, by rw [if_neg (by omega), if_neg x]⟩
                have hg : (b = 244 ∧ high1 b = 143) ∨ (b ≠ 244 ∧ high1 b = 191) := by
                  unfold high1
                  by_cases x : b = 244
                  · exact .inl ⟨x, by rw [if_neg (by omega), if_pos x]⟩
                  · exact .inr ⟨x, by rw [if_neg (by omega), if_neg x]⟩
                omega
              · rw [if_neg o] at h1; omega
          · rw [if_neg n] at h1; omega
      · rw [if_neg m] at h1; omega
  · exact absurd (by unfold formN; rw [if_neg a, if_neg c, if_neg d, if_neg k]) h0
theorem urAll_ok (l : List Int) (hw : ∀ x ∈ l, 0 ≤ x) : ∀ x ∈ urAll l, pointOk x = true := by
  have key : ∀ (n : Nat) (l : List Int), l.length ≤ n → (∀ x ∈ l, 0 ≤ x) → ∀ x ∈ urAll l, pointOk x = true := by
    intro n
    induction n with
    | zero =>
      intro l hl _ x hx
      have : l = [] := List.length_eq_zero_iff.1 (by omega)
      subst this; simp [urAll, ur] at hx
    | succ n ih =>
      intro l hl hw x hx
      cases l with
      | nil => simp [urAll, ur] at hx
      | cons b r =>
        rw [urAll_cons] at hx
        have hn := readPt_n b r
        rcases List.mem_cons.1 hx with rfl | hx
        · exact readPt_ok b r (hw b (by simp))
        · exact ih _ (by simp only [List.length_drop, List.length_cons] at *; omega) (fun y hy => hw y (List.mem_of_mem_drop hy)) x hx
  exact key l.length l (Nat.le_refl _) hw
theorem unBom_put (l : List Int) (h : ∀ x ∈ l, pointOk x = true) : unBom (putAll l) = match l with
    | [] => []
    | x :: xs => if x = 65279 then putAll xs else putAll (x :: xs) := by
  cases l with
  | nil => simp [unBom, putAll]
  | cons x xs =>
    have hx := h x (by simp)
    have e : putAll (x :: xs) = utf8 x ++ putAll xs := by simp [putAll, pointPut, point_of hx]
    simp only
    by_cases c : x = 65279
    · rw [if_pos c, e]
      subst c
      have : utf8 65279 = [239, 187, 191] := by decide
      rw [this]; unfold unBom; rfl
    · rw [if_neg c]
      unfold unBom
      rw [if_neg]
      intro g
      have r1 := readPt_utf8 x (putAll xs) hx
      rw [← e] at r1
      have r2 : putAll (x :: xs) = 239 :: 187 :: 191 :: (putAll (x :: xs)).drop 3 := by
        have := (List.take_append_drop 3 (putAll (x :: xs))).symm
        rw [g] at this; exact this
      have r3 : readPt (239 :: 187 :: 191 :: (putAll (x :: xs)).drop 3) = (65279, 3) := by
        generalize (putAll (x :: xs)).drop 3 = t
        simp only [readPt]
        have f : formN 239 = 3 := by decide
        rw [f]
        simp [mk, vl, low1, high1, formX]
      rw [r2, r3] at r1
      simp only [Prod.mk.injEq] at r1
      omega

end Go.Proofs.Ytplgbnalflpdhaa.Y

