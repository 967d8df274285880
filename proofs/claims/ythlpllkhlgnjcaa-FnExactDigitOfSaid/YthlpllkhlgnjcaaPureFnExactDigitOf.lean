/- The program's DigitOf gives, for every number and base, what the reference's gives. (A plain statement over numbers and lists; the row behind it carries it to the program.) Conditions: none beyond the row's own. -/
import Derived.Test.YthlpllkhlgnjcaaPFnExactDigitOfx1
namespace Go.Proofs.Ythlpllkhlgnjcaa.Pure
open Go.RowKit Go.Proofs.Ythlpllkhlgnjcaa.PFnExactDigitOf Go.Proofs.YthlpllkhlgnjcaaW.PrintWords Go.Proofs.YthlpllkhlgnjcaaW.PrintLast
set_option linter.unusedVariables false
set_option linter.unusedSimpArgs false
theorem wf64 {x : Int} (h : (Lit.int .i64 x).wf = true) : -9223372036854775808 ≤ x ∧ x ≤ 9223372036854775807 := by
  simp only [Lit.wf, Bool.and_eq_true, decide_eq_true_eq] at h
  exact h
theorem wf8 {x : Int} (h : (Lit.int .u8 x).wf = true) : 0 ≤ x ∧ x ≤ 255 := by
  simp only [Lit.wf, Bool.and_eq_true, decide_eq_true_eq] at h
  exact h
theorem w64 {x : Int} (h : -9223372036854775808 ≤ x) (h' : x ≤ 9223372036854775807) : wrap64 x = x := by unfold wrap64; omega
theorem w64_range (x : Int) : -9223372036854775808 ≤ wrap64 x ∧ wrap64 x ≤ 9223372036854775807 := by unfold wrap64; omega
theorem ev_pos {α : Type} {c : Prop} [Decidable c] {g f : Nat → Option α} {r : α} (hc : c) (h : Ev g r) : Ev (fun k => if c then g k else f k) r := by
  simpa only [if_pos hc] using h
theorem ev_neg {α : Type} {c : Prop} [Decidable c] {g f : Nat → Option α} {r : α} (hc : ¬ c) (h : Ev f r) : Ev (fun k => if c then g k else f k) r := by
  simpa only [if_neg hc] using h
theorem ev_const {α : Type} {g : Option α} {r : α} (h : g = some r) : Ev (fun _ => g) r := ⟨0, fun _ _ => h⟩
theorem ev_some {α : Type} {r r' : α} (h : r = r') : Ev (fun _ => some r) r' := ⟨0, fun _ _ => by rw [h]⟩
theorem ev_bindS {α β : Type} {g : Option α} {f : Nat → α → Option β} {a : α} {r : β} (h : g = some a) (k : Ev (fun n => f n a) r) : Ev (fun n => g.bind (f n)) r := by
  subst h; exact k
theorem rd_app_left {xs ys : List Int} {i : Int} (h0 : 0 ≤ i) (h : i < xs.length) : rd (xs ++ ys) i = rd xs i := by
  unfold rd; rw [List.getD_eq_getElem?_getD, List.getD_eq_getElem?_getD, List.getElem?_append_left (by omega)]
theorem rd_drop {xs : List Int} {i : Int} {v : Int} {ys : List Int} (h : xs.drop i.toNat = v :: ys) : rd xs i = v := by
  unfold rd
  have : xs[i.toNat]? = some v := by
    have := congrArg (fun l => l[0]?) h
    simpa using this
  rw [List.getD_eq_getElem?_getD, this]; rfl

theorem spec_l1In_eq (x a b : Int) : spec_l1In.f x a b = some (decide (a ≤ x ∧ x ≤ b)) := by
  unfold spec_l1In.f
  by_cases h : x ≥ a
  · rw [if_pos h]; congr 1; simp; omega
  · rw [if_neg h]; congr 1; simp; omega

def digitOf (x b : Int) : Int :=
  if b ≠ 10 ∧ b ≠ 16 then -1 else if 48 ≤ x ∧ x ≤ 57 then x - 48 else if b = 16 ∧ 65 ≤ x ∧ x ≤ 70 then x - 55 else if b = 16 ∧ 97 ≤ x ∧ x ≤ 102 then x - 87 else -1

theorem spec_DigitOf_eq (k : Nat) (x b : Int) : spec_DigitOf.f (k + 2) x b = some (digitOf x b) := by
  unfold spec_DigitOf.f digitOf
  simp only [spec_DigitOf.j0, spec_DigitOf.j1, spec_l1In_eq, Option.bind_some]
  by_cases h10 : b = 10
  · subst h10
    by_cases h1 : 48 ≤ x ∧ x ≤ 57
    · simp [h1]; exact w64 (by omega) (by omega)
    · simp [h1]
  · by_cases h16 : b = 16
    · subst h16
      by_cases h1 : 48 ≤ x ∧ x ≤ 57
      · simp [h1]; exact w64 (by omega) (by omega)
      · by_cases h2 : 65 ≤ x ∧ x ≤ 70
        · simp [h1, h2]; rw [w64 (x := x - 65) (by omega) (by omega), w64 (by omega) (by omega)]; omega
        · by_cases h3 : 97 ≤ x ∧ x ≤ 102
          · simp [h1, h2, h3]; rw [w64 (x := x - 97) (by omega) (by omega), w64 (by omega) (by omega)]; omega
          · simp [h1, h2, h3]
    · simp [h10, h16]
theorem spec_DigitOf_ev (x b : Int) : Ev (fun k => spec_DigitOf.f k x b) (digitOf x b) :=
  ⟨2, fun k hk => by obtain ⟨m, rfl⟩ : ∃ m, k = m + 2 := ⟨k - 2, by omega⟩
                     exact spec_DigitOf_eq m x b⟩

theorem impl_inRange_eq (x a b : Int) : impl_inRange.f x a b = some (decide (a ≤ x ∧ x ≤ b)) := by
  unfold impl_inRange.f
  by_cases h : x ≥ a
  · rw [if_pos h]; congr 1; simp; omega
  · rw [if_neg h]; congr 1; simp; omega

def lowerOf (x : Int) : Int := if 65 ≤ x ∧ x ≤ 90 then x + 32 else x

theorem impl_LowerOf_eq (x : Int) : impl_LowerOf.f x = some (lowerOf x) := by
  unfold impl_LowerOf.f lowerOf
  simp only [impl_inRange_eq, Option.bind_some]
  by_cases h : 65 ≤ x ∧ x ≤ 90
  · simp only [h, and_self, decide_true, if_true]; rw [w64 (x := x - 65) (by omega) (by omega), w64 (by omega) (by omega)]; congr 1; omega
  · simp [h]

theorem impl_DigitOf_eq (k : Nat) (x b : Int) : impl_DigitOf.f (k + 1) x b = some (digitOf x b) := by
  unfold impl_DigitOf.f digitOf
  simp only [impl_DigitOf.j0, impl_LowerOf_eq, impl_inRange_eq, Option.bind_some]
  by_cases h10 : b = 10
  · subst h10
    by_cases h1 : 48 ≤ x ∧ x ≤ 57
    · simp [h1]; exact w64 (by omega) (by omega)
    · simp [h1]
  · by_cases h16 : b = 16
    · subst h16
      by_cases h1 : 48 ≤ x ∧ x ≤ 57
      · simp [h1]; exact w64 (by omega) (by omega)
      · by_cases h2 : 65 ≤ x ∧ x ≤ 70
        · have e : lowerOf x = x + 32 := by unfold lowerOf; rw [if_pos (by omega)]
          have h4 : 97 ≤ x + 32 ∧ x + 32 ≤ 102 := by omega
          simp only [e]
          simp [h1, h2, h4]; rw [w64 (x := x + 32 - 97) (by omega) (by omega), w64 (by omega) (by omega)]; omega
        · by_cases h3 : 97 ≤ x ∧ x ≤ 102
          · have e : lowerOf x = x := by unfold lowerOf; rw [if_neg (by omega)]
            simp only [e]
            simp [h1, h2, h3]; rw [w64 (x := x - 97) (by omega) (by omega), w64 (by omega) (by omega)]; omega
          · have h4 : ¬ (97 ≤ lowerOf x ∧ lowerOf x ≤ 102) := by unfold lowerOf; split <;> omega
            simp [h1, h2, h3, h4]
    · simp [h10, h16]
theorem impl_DigitOf_ev (x b : Int) : Ev (fun k => impl_DigitOf.f k x b) (digitOf x b) :=
  ⟨1, fun k hk => by obtain ⟨m, rfl⟩ : ∃ m, k = m + 1 := ⟨k - 1, by omega⟩
                     exact impl_DigitOf_eq m x b⟩

theorem FnExactDigitOf : laws_FnExactDigitOf.Pure := by
  intro x b _ _
  refine Ev.rounds (g := fun k => laws_FnExactDigitOf.f k x b) ?_
  unfold laws_FnExactDigitOf.f
  exact Ev.bind (spec_DigitOf_ev x b) (Ev.bind (impl_DigitOf_ev x b) (ev_pos rfl (Ev.now _)))

end Go.Proofs.Ythlpllkhlgnjcaa.Pure
