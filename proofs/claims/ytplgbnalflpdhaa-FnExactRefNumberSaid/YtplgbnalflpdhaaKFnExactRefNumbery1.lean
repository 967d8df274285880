/- Plain lemmas over numbers and lists for FnExactRefNumber. Conditions: as each states. -/
import Derived.Test.YtplgbnalflpdhaaKFnExactRefNumberx1
/- Plain lemmas over numbers and lists (base). Conditions: as each states. -/
namespace Go.Proofs.Ytplgbnalflpdhaa.Y
open Go.RowKit Go.Proofs.Ytplgbnalflpdhaa.X Go.Proofs.YtplgbnalflpdhaaW.PrintWords Go.Proofs.YtplgbnalflpdhaaW.PrintLast Go.Proofs.YtplgbnalflpdhaaW.PrintMore Go.Proofs.Ytplgbnalflpdhaa.Y
set_option linter.unusedVariables false
set_option linter.unusedSimpArgs false
theorem wf64 {x : Int} (h : (Lit.int .i64 x).wf = true) : -9223372036854775808 ≤ x ∧ x ≤ 9223372036854775807 := by
  simp only [Lit.wf, Bool.and_eq_true, decide_eq_true_eq] at h
  exact h
theorem wf8 {x : Int} (h : (Lit.int .u8 x).wf = true) : 0 ≤ x ∧ x ≤ 255 := by
  simp only [Lit.wf, Bool.and_eq_true, decide_eq_true_eq] at h
  exact h
theorem w64 {x : Int} (h : -9223372036854775808 ≤ x) (h' : x ≤ 9223372036854775807) : wrap64 x = x := by unfold wrap64; omega
theorem w64_range (x : Int) : -9223372036854775808 ≤ wrap64 x ∧ wrap64 x ≤ 9223372036854775807 := by unfold wrap64; omega
theorem ev_pos {α : Type} {c : Prop} [Decidable c] {g f : Nat → Option α} {r : α} (hc : c) (h : Ev g r) : Ev (fun k => if c then g k else f k) r := by
  simpa only [if_pos hc] using h
theorem ev_neg {α : Type} {c : Prop} [Decidable c] {g f : Nat → Option α} {r : α} (hc : ¬ c) (h : Ev f r) : Ev (fun k => if c then g k else f k) r := by
  simpa only [if_neg hc] using h
theorem ev_const {α : Type} {g : Option α} {r : α} (h : g = some r) : Ev (fun _ => g) r := ⟨0, fun _ _ => h⟩
theorem ev_some {α : Type} {r r' : α} (h : r = r') : Ev (fun _ => some r) r' := ⟨0, fun _ _ => by rw [h]⟩
theorem ev_bindS {α β : Type} {g : Option α} {f : Nat → α → Option β} {a : α} {r : β} (h : g = some a) (k : Ev (fun n => f n a) r) : Ev (fun n => g.bind (f n)) r := by
  subst h; exact k
theorem rd_app_left {xs ys : List Int} {i : Int} (h0 : 0 ≤ i) (h : i < xs.length) : rd (xs ++ ys) i = rd xs i := by
  unfold rd; rw [List.getD_eq_getElem?_getD, List.getD_eq_getElem?_getD, List.getElem?_append_left (by omega)]
theorem rd_drop {xs : List Int} {i : Int} {v : Int} {ys : List Int} (h : xs.drop i.toNat = v :: ys) : rd xs i = v := by
  unfold rd
  have : xs[i.toNat]? = some v := by
    have := congrArg (fun l => l[0]?) h
    simpa using this
  rw [List.getD_eq_getElem?_getD, this]; rfl
/-- One round: what follows is read off by 'simp only [F.j0]'. -/
theorem ev_succ {α : Type} {g : Nat → Option α} {r : α} (h : Ev (fun k => g (k + 1)) r) : Ev g r := Ev.step (fun _ => rfl) h
theorem ev_cast {α : Type} {g : Nat → Option α} {r r' : α} (h : Ev g r) (e : r = r') : Ev g r' := by subst e; exact h

end Go.Proofs.Ytplgbnalflpdhaa.Y

/- Plain lemmas over numbers and lists (inrS). Conditions: as each states. -/
namespace Go.Proofs.Ytplgbnalflpdhaa.Y
open Go.RowKit Go.Proofs.Ytplgbnalflpdhaa.X Go.Proofs.YtplgbnalflpdhaaW.PrintWords Go.Proofs.YtplgbnalflpdhaaW.PrintLast Go.Proofs.YtplgbnalflpdhaaW.PrintMore Go.Proofs.Ytplgbnalflpdhaa.Y
set_option linter.unusedVariables false
set_option linter.unusedSimpArgs false
theorem spec_l1In_eq (x a b : Int) : spec_l1In.f x a b = some (decide (a ≤ x ∧ x ≤ b)) := by
  unfold spec_l1In.f
  by_cases h : x ≥ a
  · rw [if_pos h]; congr 1; simp; omega
  · rw [if_neg h]; congr 1; simp; omega

end Go.Proofs.Ytplgbnalflpdhaa.Y

/- Plain lemmas over numbers and lists (pokD). Conditions: as each states. -/
namespace Go.Proofs.Ytplgbnalflpdhaa.Y
open Go.RowKit Go.Proofs.Ytplgbnalflpdhaa.X Go.Proofs.YtplgbnalflpdhaaW.PrintWords Go.Proofs.YtplgbnalflpdhaaW.PrintLast Go.Proofs.YtplgbnalflpdhaaW.PrintMore Go.Proofs.Ytplgbnalflpdhaa.Y
set_option linter.unusedVariables false
set_option linter.unusedSimpArgs false
def pointOk (x : Int) : Bool := decide (0 ≤ x ∧ x ≤ 1114111) && !decide (55296 ≤ x ∧ x ≤ 57343)

end Go.Proofs.Ytplgbnalflpdhaa.Y

/- Plain lemmas over numbers and lists (pokS). Conditions: as each states. -/
namespace Go.Proofs.Ytplgbnalflpdhaa.Y
open Go.RowKit Go.Proofs.Ytplgbnalflpdhaa.X Go.Proofs.YtplgbnalflpdhaaW.PrintWords Go.Proofs.YtplgbnalflpdhaaW.PrintLast Go.Proofs.YtplgbnalflpdhaaW.PrintMore Go.Proofs.Ytplgbnalflpdhaa.Y
set_option linter.unusedVariables false
set_option linter.unusedSimpArgs false
theorem spec_PointOk_eq (x : Int) : spec_PointOk.f x = some (pointOk x) := by
  unfold spec_PointOk.f pointOk
  simp only [spec_l1In_eq, Option.bind_some]
  by_cases h : 0 ≤ x ∧ x ≤ 1114111 <;> simp [h]

end Go.Proofs.Ytplgbnalflpdhaa.Y

/- Plain lemmas over numbers and lists (num). Conditions: as each states. -/
namespace Go.Proofs.Ytplgbnalflpdhaa.Y
open Go.RowKit Go.Proofs.Ytplgbnalflpdhaa.X Go.Proofs.YtplgbnalflpdhaaW.PrintWords Go.Proofs.YtplgbnalflpdhaaW.PrintLast Go.Proofs.YtplgbnalflpdhaaW.PrintMore Go.Proofs.Ytplgbnalflpdhaa.Y
set_option linter.unusedVariables false
set_option linter.unusedSimpArgs false
def numForm : Nat → Int → List Int
  | 0, x => [x]
  | n + 1, x => if x > 127 then (x % 128 + 128) :: numForm n (x / 128) else [x]
theorem numForm_len (n : Nat) : ∀ x, (numForm n x).length ≤ n + 1 := by
  induction n with
  | zero => intro x; simp [numForm]
  | succ n ih => intro x; unfold numForm; split <;> simp [ih]
theorem wraps_i64 (n : Int) (h₀ : 0 ≤ n) (h₁ : n < 2 ^ 63) : IntKind.i64.wrap n = n := by rw [IntKind.wrap_i64]; omega
theorem and127 {x : Int} (h0 : 0 ≤ x) (h1 : x ≤ 9223372036854775807) : Go.bits .and .i64 x 127 = x % 128 := bits_mask .i64 63 (by decide) wraps_i64 7 (by decide) x h0 (by omega)
theorem or128 {y : Int} (h0 : 0 ≤ y) (h1 : y < 128) : Go.bits .or .i64 128 y = 128 + y := bits_join .i64 63 (by decide) wraps_i64 7 128 y (by decide) (by decide) (by decide) h0 h1 (by omega)
theorem pow128 (x : Int) (n : Nat) (h : x < 128 ^ (n + 1 + 1)) : x / 128 < 128 ^ (n + 1) := by
  rw [Int.pow_succ] at h
  generalize (128 : Int) ^ (n + 1) = p at *
  omega

end Go.Proofs.Ytplgbnalflpdhaa.Y

/- Plain lemmas over numbers and lists (utf8D). Conditions: as each states. -/
namespace Go.Proofs.Ytplgbnalflpdhaa.Y
open Go.RowKit Go.Proofs.Ytplgbnalflpdhaa.X Go.Proofs.YtplgbnalflpdhaaW.PrintWords Go.Proofs.YtplgbnalflpdhaaW.PrintLast Go.Proofs.YtplgbnalflpdhaaW.PrintMore Go.Proofs.Ytplgbnalflpdhaa.Y
set_option linter.unusedVariables false
set_option linter.unusedSimpArgs false
def utf8 (x : Int) : List Int :=
  if x < 128 then [x] else if x < 2048 then [192 + x / 64, 128 + x % 64] else if x < 65536 then [224 + x / 4096, 128 + x / 64 % 64, 128 + x % 64] else [240 + x / 262144, 128 + x / 4096 % 64, 128 + x / 64 % 64, 128 + x % 64]
def point (x : Int) : Int := if pointOk x = true then x else 65533
def pointPut (x : Int) : List Int := utf8 (point x)
theorem pointOk_iff (x : Int) : pointOk x = true ↔ (0 ≤ x ∧ x ≤ 1114111) ∧ ¬ (55296 ≤ x ∧ x ≤ 57343) := by unfold pointOk; simp; omega
theorem pointOk_point (x : Int) : pointOk (point x) = true := by
  unfold point; split
  · assumption
  · decide
theorem point_of {x : Int} (h : pointOk x = true) : point x = x := by unfold point; rw [if_pos h]
theorem point_range (x : Int) : 0 ≤ point x ∧ point x ≤ 1114111 := ((pointOk_iff _).1 (pointOk_point x)).1
theorem utf8_len (x : Int) : 1 ≤ (utf8 x).length ∧ (utf8 x).length ≤ 4 := by
  unfold utf8
  split
  · simp
  · split
    · simp
    · split <;> simp
theorem pointPut_len (x : Int) : 1 ≤ (pointPut x).length ∧ (pointPut x).length ≤ 4 := utf8_len _
theorem utf8_bytes {x : Int} (h0 : 0 ≤ x) (h1 : x ≤ 1114111) : ∀ b ∈ utf8 x, 0 ≤ b ∧ b ≤ 255 := by
  intro b hb
  unfold utf8 at hb
  split at hb
  · simp at hb; omega
  · split at hb
    · simp at hb; omega
    · split at hb
      · simp at hb; omega
      · simp at hb; omega
theorem and63 {x : Int} (h0 : 0 ≤ x) (h1 : x ≤ 9223372036854775807) : Go.bits .and .i64 x 63 = x % 64 := bits_mask .i64 63 (by decide) wraps_i64 6 (by decide) x h0 (by omega)
theorem or192 {y : Int} (h0 : 0 ≤ y) (h1 : y < 32) : Go.bits .or .i64 192 y = 192 + y := bits_join .i64 63 (by decide) wraps_i64 5 192 y (by decide) (by decide) (by decide) h0 h1 (by omega)
theorem or224 {y : Int} (h0 : 0 ≤ y) (h1 : y < 16) : Go.bits .or .i64 224 y = 224 + y := bits_join .i64 63 (by decide) wraps_i64 4 224 y (by decide) (by decide) (by decide) h0 h1 (by omega)
theorem or240 {y : Int} (h0 : 0 ≤ y) (h1 : y < 8) : Go.bits .or .i64 240 y = 240 + y := bits_join .i64 63 (by decide) wraps_i64 3 240 y (by decide) (by decide) (by decide) h0 h1 (by omega)
theorem m256 {y : Int} (h0 : 0 ≤ y) (h1 : y < 256) : y % 256 = y := Int.emod_eq_of_lt h0 h1

end Go.Proofs.Ytplgbnalflpdhaa.Y

/- Plain lemmas over numbers and lists (refNum). Conditions: as each states. -/
namespace Go.Proofs.Ytplgbnalflpdhaa.Y
open Go.RowKit Go.Proofs.Ytplgbnalflpdhaa.X Go.Proofs.YtplgbnalflpdhaaW.PrintWords Go.Proofs.YtplgbnalflpdhaaW.PrintLast Go.Proofs.YtplgbnalflpdhaaW.PrintMore Go.Proofs.Ytplgbnalflpdhaa.Y
set_option linter.unusedVariables false
set_option linter.unusedSimpArgs false
def refNumber (x : Int) : Int := if x = 0 ∨ x < 0 ∨ 1114111 < x ∨ (55296 ≤ x ∧ x ≤ 57343) then 65533 else if 128 ≤ x ∧ x ≤ 159 then refTab.getD (x - 128).toNat 0 else x
theorem impl_RefNumber_eq (x : Int) : impl_RefNumber.f x = some (refNumber x) := rfl
theorem spec_RefNumber_ev (x : Int) : Ev (fun k => spec_RefNumber.f k x) (refNumber x) := by
  unfold spec_RefNumber.f
  simp only [spec_PointOk_eq, Option.bind_some]
  have hj : ∀ c : Bool, (c = true → refNumber x = 65533) → (c = false → refNumber x = if 128 ≤ x ∧ x ≤ 159 then refTab.getD (x - 128).toNat 0 else x) → Ev (fun k => spec_RefNumber.j0 k x c) (refNumber x) := by
    intro c h1 h2
    refine ev_succ ?_
    simp only [spec_RefNumber.j0, spec_l1In_eq, Option.bind_some]
    cases c with
    | true => exact ev_pos rfl (ev_some (h1 rfl).symm)
    | false =>
      refine ev_neg (by simp) ?_
      rw [h2 rfl]
      by_cases h : 128 ≤ x ∧ x ≤ 159
      · rw [if_pos h, w64 (x := x - 128) (by omega) (by omega)]
        refine ev_pos (by simpa using h) (ev_pos (by omega) (ev_pos (by simp only [List.length_cons, List.length_nil]; omega) (ev_some rfl)))
      · rw [if_neg h]
        exact ev_neg (by simpa using h) (ev_some rfl)
  by_cases h0 : x = 0
  · exact ev_pos h0 (hj true (fun _ => by unfold refNumber; rw [if_pos (.inl h0)]) (by simp))
  · refine ev_neg h0 (hj _ (fun h => ?_) (fun h => ?_))
    · unfold refNumber; rw [if_pos]
      have : ¬ pointOk x = true := by simpa using h
      rw [pointOk_iff] at this; omega
    · unfold refNumber; rw [if_neg]
      have : pointOk x = true := by simpa using h
      rw [pointOk_iff] at this; omega
theorem refTab_ok : ∀ n, n < 32 → pointOk (refTab.getD n 0) = true ∧ refTab.getD n 0 ≠ 0 := by decide
theorem refNumber_ok (x : Int) : pointOk (refNumber x) = true ∧ refNumber x ≠ 0 := by
  unfold refNumber
  split
  · decide
  · split
    · exact refTab_ok _ (by omega)
    · refine ⟨?_, by omega⟩
      rw [pointOk_iff]; omega
theorem refNumber_id {x : Int} (h : pointOk x = true) (h0 : x ≠ 0) (h1 : ¬ (128 ≤ x ∧ x ≤ 159)) : refNumber x = x := by
  rw [pointOk_iff] at h
  unfold refNumber; rw [if_neg (by omega), if_neg h1]

end Go.Proofs.Ytplgbnalflpdhaa.Y

