/- Plain lemmas over numbers and lists for FnExactGetNum. Conditions: as each states. -/
import Derived.Test.YtplgbnalflpdhaaKFnExactGetNumx1
/- Plain lemmas over numbers and lists (base). Conditions: as each states. -/
namespace Go.Proofs.Ytplgbnalflpdhaa.Y
open Go.RowKit Go.Proofs.Ytplgbnalflpdhaa.X Go.Proofs.YtplgbnalflpdhaaW.PrintWords Go.Proofs.YtplgbnalflpdhaaW.PrintLast Go.Proofs.YtplgbnalflpdhaaW.PrintMore Go.Proofs.Ytplgbnalflpdhaa.Y
set_option linter.unusedVariables false
set_option linter.unusedSimpArgs false
theorem wf64 {x : Int} (h : (Lit.int .i64 x).wf = true) : -9223372036854775808 ≤ x ∧ x ≤ 9223372036854775807 := by
  simp only [Lit.wf, Bool.and_eq_true, decide_eq_true_eq] at h
  exact h
theorem wf8 {x : Int} (h : (Lit.int .u8 x).wf = true) : 0 ≤ x ∧ x ≤ 255 := by
  simp only [Lit.wf, Bool.and_eq_true, decide_eq_true_eq] at h
  exact h
theorem w64 {x : Int} (h : -9223372036854775808 ≤ x) (h' : x ≤ 9223372036854775807) : wrap64 x = x := by unfold wrap64; omega
theorem w64_range (x : Int) : -9223372036854775808 ≤ wrap64 x ∧ wrap64 x ≤ 9223372036854775807 := by unfold wrap64; omega
theorem ev_pos {α : Type} {c : Prop} [Decidable c] {g f : Nat → Option α} {r : α} (hc : c) (h : Ev g r) : Ev (fun k => if c then g k else f k) r := by
  simpa only [if_pos hc] using h
theorem ev_neg {α : Type} {c : Prop} [Decidable c] {g f : Nat → Option α} {r : α} (hc : ¬ c) (h : Ev f r) : Ev (fun k => if c then g k else f k) r := by
  simpa only [if_neg hc] using h
theorem ev_const {α : Type} {g : Option α} {r : α} (h : g = some r) : Ev (fun _ => g) r := ⟨0, fun _ _ => h⟩
theorem ev_some {α : Type} {r r' : α} (h : r = r') : Ev (fun _ => some r) r' := ⟨0, fun _ _ => by rw [h]⟩
theorem ev_bindS {α β : Type} {g : Option α} {f : Nat → α → Option β} {a : α} {r : β} (h : g = some a) (k : Ev (fun n => f n a) r) : Ev (fun n => g.bind (f n)) r := by
  subst h; exact k
theorem rd_app_left {xs ys : List Int} {i : Int} (h0 : 0 ≤ i) (h : i < xs.length) : rd (xs ++ ys) i = rd xs i := by
  unfold rd; rw [List.getD_eq_getElem?_getD, List.getD_eq_getElem?_getD, List.getElem?_append_left (by omega)]
theorem rd_drop {xs : List Int} {i : Int} {v : Int} {ys : List Int} (h : xs.drop i.toNat = v :: ys) : rd xs i = v := by
  unfold rd
  have : xs[i.toNat]? = some v := by
    have := congrArg (fun l => l[0]?) h
    simpa using this
  rw [List.getD_eq_getElem?_getD, this]; rfl
/-- One round: what follows is read off by 'simp only [F.j0]'. -/
theorem ev_succ {α : Type} {g : Nat → Option α} {r : α} (h : Ev (fun k => g (k + 1)) r) : Ev g r := Ev.step (fun _ => rfl) h
theorem ev_cast {α : Type} {g : Nat → Option α} {r r' : α} (h : Ev g r) (e : r = r') : Ev g r' := by subst e; exact h

end Go.Proofs.Ytplgbnalflpdhaa.Y

/- Plain lemmas over numbers and lists (eqByteS). Conditions: as each states. -/
namespace Go.Proofs.Ytplgbnalflpdhaa.Y
open Go.RowKit Go.Proofs.Ytplgbnalflpdhaa.X Go.Proofs.YtplgbnalflpdhaaW.PrintWords Go.Proofs.YtplgbnalflpdhaaW.PrintLast Go.Proofs.YtplgbnalflpdhaaW.PrintMore Go.Proofs.Ytplgbnalflpdhaa.Y
set_option linter.unusedVariables false
set_option linter.unusedSimpArgs false
theorem eqByteS_l (l : List Int) (hl : l.length ≤ 9223372036854775807) : ∀ (d : Nat) (i : Int), 0 ≤ i → i + d = l.length → Ev (fun k => laws_eqByteS.l0 k l l i) true := by
  intro d
  induction d with
  | zero =>
    intro i h0 h
    refine Ev.step (f := fun _ => some true) (fun k => ?_) (Ev.now _)
    simp only [laws_eqByteS.l0]; rw [if_neg (by omega)]
  | succ d ih =>
    intro i h0 h
    refine Ev.step (f := fun k => laws_eqByteS.l0 k l l (i + 1)) (fun k => ?_) (ih (i + 1) (by omega) (by omega))
    simp only [laws_eqByteS.l0]; rw [if_pos (by omega), if_pos h0, if_pos (by omega), if_pos True.intro, w64 (by omega) (by omega)]
theorem eqByteS_same (l : List Int) (hl : l.length ≤ 9223372036854775807) : Ev (fun k => laws_eqByteS.f k l l) true := by
  refine Ev.congr (f := fun k => laws_eqByteS.l0 k l l 0) (fun k => ?_) (eqByteS_l l hl l.length 0 (by omega) (by omega))
  simp only [laws_eqByteS.f]; rw [if_pos True.intro]

end Go.Proofs.Ytplgbnalflpdhaa.Y

/- Plain lemmas over numbers and lists (toByteS). Conditions: as each states. -/
namespace Go.Proofs.Ytplgbnalflpdhaa.Y
open Go.RowKit Go.Proofs.Ytplgbnalflpdhaa.X Go.Proofs.YtplgbnalflpdhaaW.PrintWords Go.Proofs.YtplgbnalflpdhaaW.PrintLast Go.Proofs.YtplgbnalflpdhaaW.PrintMore Go.Proofs.Ytplgbnalflpdhaa.Y
set_option linter.unusedVariables false
set_option linter.unusedSimpArgs false
theorem toByteS_l (l : List Int) (hl : l.length ≤ 4611686018427387903) : ∀ (d : Nat) (i : Int) (m : List Int), m.length = l.length → 0 ≤ i → i + d = l.length → m.take i.toNat = l.take i.toNat → Ev (fun k => laws_toByteS.l0 k l m i) l := by
  intro d
  induction d with
  | zero =>
    intro i m hm h0 h ht
    refine Ev.step (f := fun _ => some m) (fun k => ?_) (ev_some ?_)
    · simp only [laws_toByteS.l0]; rw [if_neg (by omega)]
    · rwa [List.take_of_length_le (by omega), List.take_of_length_le (by omega)] at ht
  | succ d ih =>
    intro i m hm h0 h ht
    refine Ev.step (f := fun k => laws_toByteS.l0 k l (m.set i.toNat (rd l i)) (i + 1)) (fun k => ?_) (ih (i + 1) _ (by simpa using hm) (by omega) (by omega) ?_)
    · simp only [laws_toByteS.l0]; rw [if_pos (by omega), if_pos h0, if_pos (by omega), w64 (by omega) (by omega)]
    · have e : (i + 1).toNat = i.toNat + 1 := by omega
      have hr : rd l i = l[i.toNat]'(by omega) := by unfold rd; rw [List.getD_eq_getElem?_getD, List.getElem?_eq_getElem (by omega)]; rfl
      rw [e, List.take_succ_eq_append_getElem (by simp; omega), List.take_succ_eq_append_getElem (by omega), List.take_set_of_le (Nat.le_refl _), ht]
      simp [hr]
theorem toByteS_ev (l : List Int) (hl : l.length ≤ 140737488351232) : Ev (fun k => laws_toByteS.f k l) l := by
  unfold laws_toByteS.f
  refine ev_pos (by omega) (ev_pos (by omega) ?_)
  exact toByteS_l l (by omega) l.length 0 _ (by simp) (by omega) (by omega) (by simp)

end Go.Proofs.Ytplgbnalflpdhaa.Y

/- Plain lemmas over numbers and lists (getnum). Conditions: as each states. -/
namespace Go.Proofs.Ytplgbnalflpdhaa.Y
open Go.RowKit Go.Proofs.Ytplgbnalflpdhaa.X Go.Proofs.YtplgbnalflpdhaaW.PrintWords Go.Proofs.YtplgbnalflpdhaaW.PrintLast Go.Proofs.YtplgbnalflpdhaaW.PrintMore Go.Proofs.Ytplgbnalflpdhaa.Y
set_option linter.unusedVariables false
set_option linter.unusedSimpArgs false
def getN (l : List Int) : Nat → Nat → Int → Int → Int × Int × Bool
  | 0, _, _, _ => (0, 0, false)
  | d + 1, i, x, a => if a < l.length then (if rd l a < 128 then (if rd l a = 0 ∧ 0 < i then (0, 0, false) else (x + rd l a % 128 * 128 ^ i, a + 1, true)) else getN l d (i + 1) (x + rd l a % 128 * 128 ^ i) (a + 1)) else (0, 0, false)
def getNum (l : List Int) (a : Int) : Int × Int × Bool := if a < 0 then (0, 0, false) else getN l 9 0 0 a
theorem p128 (i : Nat) (h : i ≤ 8) : 1 ≤ (128 : Int) ^ i ∧ (128 : Int) ^ i ≤ 72057594037927936 := by
  have : i = 0 ∨ i = 1 ∨ i = 2 ∨ i = 3 ∨ i = 4 ∨ i = 5 ∨ i = 6 ∨ i = 7 ∨ i = 8 := by omega
  rcases this with rfl | rfl | rfl | rfl | rfl | rfl | rfl | rfl | rfl <;> decide
theorem rd_bytes {l : List Int} (hw : ∀ x ∈ l, (Lit.int .u8 x).wf = true) (i : Int) : 0 ≤ rd l i ∧ rd l i ≤ 255 := by
  unfold rd
  rw [List.getD_eq_getElem?_getD]
  cases h : l[i.toNat]? with
  | none => simp
  | some v => exact wf8 (hw v (List.mem_of_getElem? h))
/-- One step of the number: what is added fits. -/
theorem getN_fit {x y : Int} {i : Nat} (hi : i ≤ 8) (hx0 : 0 ≤ x) (hx : x < 128 ^ i) (hy0 : 0 ≤ y) (hy : y < 128) : 0 ≤ y * 128 ^ i ∧ x + y * 128 ^ i < 128 ^ (i + 1) ∧ x + y * 128 ^ i ≤ 9223372036854775807 ∧ y * 128 ^ i ≤ 9223372036854775807 := by
  have hp := p128 i hi
  rw [Int.pow_succ]
  generalize (128 : Int) ^ i = p at *
  have h1 : y * p ≤ 127 * p := Int.mul_le_mul_of_nonneg_right (by omega) (by omega)
  have h2 : 0 ≤ y * p := Int.mul_nonneg hy0 (by omega)
  refine ⟨h2, ?_, ?_, ?_⟩ <;> omega

end Go.Proofs.Ytplgbnalflpdhaa.Y

/- Plain lemmas over numbers and lists (specgetnum). Conditions: as each states. -/
namespace Go.Proofs.Ytplgbnalflpdhaa.Y
open Go.RowKit Go.Proofs.Ytplgbnalflpdhaa.X Go.Proofs.YtplgbnalflpdhaaW.PrintWords Go.Proofs.YtplgbnalflpdhaaW.PrintLast Go.Proofs.YtplgbnalflpdhaaW.PrintMore Go.Proofs.Ytplgbnalflpdhaa.Y
set_option linter.unusedVariables false
set_option linter.unusedSimpArgs false
theorem spec_GetNum_l (l : List Int) (hl : l.length ≤ 140737488351232) (hw : ∀ x ∈ l, (Lit.int .u8 x).wf = true) (a : Int) (ha : 0 ≤ a) (ha2 : a ≤ l.length) : ∀ (d i : Nat) (x u : Int), i + d = 9 → 0 ≤ x → x < 128 ^ i → (d = 0 ∨ u = 128 ^ i) →
    Ev (fun k => spec_GetNum.l0 k l a x u i) (getN l d i x (a + i)) := by
  intro d
  induction d with
  | zero =>
    intro i x u hid h0 h1 hu
    refine Ev.step (f := fun k => spec_GetNum.j2 k l a x u i false) (fun k => ?_) (Ev.step (f := fun _ => some (0, 0, false)) (fun k => ?_) (Ev.now _))
    · simp only [spec_GetNum.l0]; rw [if_neg (by omega)]
    · simp [spec_GetNum.j2]
  | succ d ih =>
    intro i x u hid h0 h1 hu
    have hu : u = 128 ^ i := by omega
    have e1 : wrap64 (a + i) = a + i := w64 (by omega) (by omega)
    refine Ev.step (f := fun k => spec_GetNum.j2 k l a x u i (decide (a + i < l.length))) (fun k => ?_) ?_
    · simp only [spec_GetNum.l0]; rw [if_pos (by omega), e1]
    unfold getN
    by_cases hlt : a + i < l.length
    · rw [if_pos hlt]
      have hb := rd_bytes hw (a + i)
      have e2 : wrap64 (rd l (a + i)) = rd l (a + i) := w64 (by omega) (by omega)
      have e3 : Int.tmod (rd l (a + i)) 128 = rd l (a + i) % 128 := Int.tmod_eq_emod_of_nonneg (by omega)
      obtain ⟨f1, f2, f3, f4⟩ := getN_fit (x := x) (y := rd l (a + i) % 128) (i := i) (by omega) h0 h1 (by omega) (by omega)
      have e4 : wrap64 (x + wrap64 (rd l (a + i) % 128 * u)) = x + rd l (a + i) % 128 * 128 ^ i := by rw [hu, w64 (x := _ * _) (by omega) f4, w64 (by omega) f3]
      by_cases h128 : rd l (a + i) < 128
      · rw [if_pos h128]
        by_cases hz : rd l (a + i) = 0 ∧ 0 < i
        · rw [if_pos hz]
          refine Ev.step (f := fun _ => some (0, 0, false)) (fun k => ?_) (Ev.now _)
          simp only [spec_GetNum.j2, e1, e2]
          rw [if_pos (by simpa using hlt), if_pos (by omega), if_pos hlt, if_pos h128, if_pos hz.1, if_pos (by omega)]
        · rw [if_neg hz]
          refine Ev.step (f := fun _ => some (x + rd l (a + i) % 128 * 128 ^ i, a + i + 1, true)) (fun k => ?_) (Ev.now _)
          simp only [spec_GetNum.j2, e1, e2, e3, e4]
          rw [if_pos (by simpa using hlt), if_pos (by omega), if_pos hlt, if_pos h128, w64 (x := a + i + 1) (by omega) (by omega)]
          by_cases h00 : rd l (a + i) = 0
          · rw [if_pos h00, if_neg (by omega)]
          · rw [if_neg h00]
      · rw [if_neg h128]
        refine Ev.step (f := fun k => spec_GetNum.l0 k l a (x + rd l (a + i) % 128 * 128 ^ i) (wrap64 (u * 128)) ((i + 1 : Nat) : Int)) (fun k => ?_) ?_
        · simp only [spec_GetNum.j2, e1, e2, e3, e4]
          rw [if_pos (by simpa using hlt), if_pos (by omega), if_pos hlt, if_neg h128, w64 (x := (i : Int) + 1) (by omega) (by omega)]; rfl
        · have := ih (i + 1) (x + rd l (a + i) % 128 * 128 ^ i) (wrap64 (u * 128)) (by omega) (by omega) f2 ?_
          · rwa [show a + ((i + 1 : Nat) : Int) = a + i + 1 by omega] at this
          · by_cases hd : d = 0
            · exact .inl hd
            · right
              rw [hu, Int.pow_succ]
              have := p128 (i + 1) (by omega)
              rw [Int.pow_succ] at this
              exact w64 (by omega) (by omega)
    · rw [if_neg hlt]
      refine Ev.step (f := fun _ => some (0, 0, false)) (fun k => ?_) (Ev.now _)
      simp only [spec_GetNum.j2]
      rw [if_neg (by simpa using hlt)]
theorem spec_GetNum_ev (l : List Int) (hl : l.length ≤ 140737488351232) (hw : ∀ x ∈ l, (Lit.int .u8 x).wf = true) (a : Int) : Ev (fun k => spec_GetNum.f k l a) (getNum l a) := by
  unfold spec_GetNum.f getNum
  by_cases h : a < 0
  · simp only [if_pos h]
    exact Ev.step (f := fun _ => some (0, 0, false)) (fun k => by simp [spec_GetNum.j0]) (Ev.now _)
  · simp only [if_neg h]
    by_cases h2 : a ≥ l.length
    · refine Ev.step (f := fun _ => some (0, 0, false)) (fun k => by simp [spec_GetNum.j0]; intro h3; omega) (ev_some ?_)
      unfold getN; rw [if_neg (by omega)]
    · refine Ev.step (f := fun k => spec_GetNum.l0 k l a 0 1 0) (fun k => by simp [spec_GetNum.j0]; intro h3; omega) ?_
      have := spec_GetNum_l l hl hw a (by omega) (by omega) 9 0 0 1 rfl (by omega) (by decide) (.inr (by decide))
      simpa using this

end Go.Proofs.Ytplgbnalflpdhaa.Y

/- Plain lemmas over numbers and lists (num). Conditions: as each states. -/
namespace Go.Proofs.Ytplgbnalflpdhaa.Y
open Go.RowKit Go.Proofs.Ytplgbnalflpdhaa.X Go.Proofs.YtplgbnalflpdhaaW.PrintWords Go.Proofs.YtplgbnalflpdhaaW.PrintLast Go.Proofs.YtplgbnalflpdhaaW.PrintMore Go.Proofs.Ytplgbnalflpdhaa.Y
set_option linter.unusedVariables false
set_option linter.unusedSimpArgs false
def numForm : Nat → Int → List Int
  | 0, x => [x]
  | n + 1, x => if x > 127 then (x % 128 + 128) :: numForm n (x / 128) else [x]
theorem numForm_len (n : Nat) : ∀ x, (numForm n x).length ≤ n + 1 := by
  induction n with
  | zero => intro x; simp [numForm]
  | succ n ih => intro x; unfold numForm; split <;> simp [ih]
theorem wraps_i64 (n : Int) (h₀ : 0 ≤ n) (h₁ : n < 2 ^ 63) : IntKind.i64.wrap n = n := by rw [IntKind.wrap_i64]; omega
theorem and127 {x : Int} (h0 : 0 ≤ x) (h1 : x ≤ 9223372036854775807) : Go.bits .and .i64 x 127 = x % 128 := bits_mask .i64 63 (by decide) wraps_i64 7 (by decide) x h0 (by omega)
theorem or128 {y : Int} (h0 : 0 ≤ y) (h1 : y < 128) : Go.bits .or .i64 128 y = 128 + y := bits_join .i64 63 (by decide) wraps_i64 7 128 y (by decide) (by decide) (by decide) h0 h1 (by omega)
theorem pow128 (x : Int) (n : Nat) (h : x < 128 ^ (n + 1 + 1)) : x / 128 < 128 ^ (n + 1) := by
  rw [Int.pow_succ] at h
  generalize (128 : Int) ^ (n + 1) = p at *
  omega

end Go.Proofs.Ytplgbnalflpdhaa.Y

/- Plain lemmas over numbers and lists (inrI). Conditions: as each states. -/
namespace Go.Proofs.Ytplgbnalflpdhaa.Y
open Go.RowKit Go.Proofs.Ytplgbnalflpdhaa.X Go.Proofs.YtplgbnalflpdhaaW.PrintWords Go.Proofs.YtplgbnalflpdhaaW.PrintLast Go.Proofs.YtplgbnalflpdhaaW.PrintMore Go.Proofs.Ytplgbnalflpdhaa.Y
set_option linter.unusedVariables false
set_option linter.unusedSimpArgs false
theorem impl_inRange_eq (x a b : Int) : impl_inRange.f x a b = some (decide (a ≤ x ∧ x ≤ b)) := by
  unfold impl_inRange.f
  by_cases h : x ≥ a
  · rw [if_pos h]; congr 1; simp; omega
  · rw [if_neg h]; congr 1; simp; omega

end Go.Proofs.Ytplgbnalflpdhaa.Y

/- Plain lemmas over numbers and lists (implgetnum). Conditions: as each states. -/
namespace Go.Proofs.Ytplgbnalflpdhaa.Y
open Go.RowKit Go.Proofs.Ytplgbnalflpdhaa.X Go.Proofs.YtplgbnalflpdhaaW.PrintWords Go.Proofs.YtplgbnalflpdhaaW.PrintLast Go.Proofs.YtplgbnalflpdhaaW.PrintMore Go.Proofs.Ytplgbnalflpdhaa.Y
set_option linter.unusedVariables false
set_option linter.unusedSimpArgs false
theorem or_swap (k : IntKind) (x y : Int) : Go.bits .or k x y = Go.bits .or k y x := by
  simp only [Go.bits]; rw [BitVec.or_comm]
theorem shl7 {y : Int} {i : Nat} (hi : i ≤ 8) (h0 : 0 ≤ y) (h1 : y < 128) : shl .i64 y (IntKind.u64.wrap (wrap64 (7 * (i : Int)))) = y * 128 ^ i := by
  have hf := (getN_fit (x := 0) (y := y) (i := i) hi (by omega) (by have := p128 i hi; omega) h0 h1)
  have e : (IntKind.u64.wrap (wrap64 (7 * (i : Int)))).toNat = 7 * i := by
    rw [w64 (by omega) (by omega)]
    simp only [IntKind.wrap, IntKind.bits, IntKind.signed]
    simp; omega
  unfold shl
  rw [e, Nat.min_eq_left (by simp [IntKind.bits]; omega), Int.pow_mul]
  exact wraps_i64 _ (by have := hf.1; simpa using this) (by have := hf.2.2.2; simp; omega)
theorem or7 {x y : Int} {i : Nat} (hi : i ≤ 8) (hx0 : 0 ≤ x) (hx : x < 128 ^ i) (h0 : 0 ≤ y) (h1 : y < 128) : Go.bits .or .i64 x (y * 128 ^ i) = x + y * 128 ^ i := by
  have hf := getN_fit (x := x) (y := y) (i := i) hi hx0 hx h0 h1
  have hp := p128 i hi
  have e : (2 : Int) ^ (7 * i) = 128 ^ i := by rw [Int.pow_mul]; rfl
  rw [or_swap, Int.add_comm]
  exact bits_join .i64 63 (by decide) wraps_i64 (7 * i) _ x hf.1 (by rw [e]; exact Int.mul_emod_left _ _) (by omega) hx0 (by rw [e]; exact hx) (by omega)
theorem impl_GetNum_l (l : List Int) (hl : l.length ≤ 140737488351232) (hw : ∀ x ∈ l, (Lit.int .u8 x).wf = true) : ∀ (d i : Nat) (x a : Int), 0 ≤ a → a ≤ l.length → i + d = 9 → 0 ≤ x → x < 128 ^ i →
    Ev (fun k => impl_GetNum.l0 k l a x i) (getN l d i x a) := by
  intro d
  induction d with
  | zero =>
    intro i x a ha ha2 hid h0 h1
    refine Ev.step (f := fun k => impl_GetNum.j1 k l a x i false) (fun k => ?_) (Ev.step (f := fun _ => some (0, 0, false)) (fun k => ?_) (Ev.now _))
    · simp only [impl_GetNum.l0]; rw [if_neg (by omega)]
    · simp [impl_GetNum.j1]
  | succ d ih =>
    intro i x a ha ha2 hid h0 h1
    refine Ev.step (f := fun k => impl_GetNum.j1 k l a x i (decide (a < l.length))) (fun k => ?_) ?_
    · simp only [impl_GetNum.l0]; rw [if_pos (by omega)]
    unfold getN
    by_cases hlt : a < l.length
    · rw [if_pos hlt]
      have hb := rd_bytes hw a
      have e2 : wrap64 (rd l a) = rd l a := w64 (by omega) (by omega)
      have e3 : Go.bits .and .i64 (rd l a) 127 = rd l a % 128 := and127 (by omega) (by omega)
      obtain ⟨f1, f2, f3, f4⟩ := getN_fit (x := x) (y := rd l a % 128) (i := i) (by omega) h0 h1 (by omega) (by omega)
      have e4 : Go.bits .or .i64 x (shl .i64 (rd l a % 128) (IntKind.u64.wrap (wrap64 (7 * (i : Int))))) = x + rd l a % 128 * 128 ^ i := by
        rw [shl7 (by omega) (by omega) (by omega), or7 (by omega) h0 h1 (by omega) (by omega)]
      have e5 : 0 ≤ IntKind.u64.wrap (wrap64 (7 * (i : Int))) := by
        rw [w64 (by omega) (by omega)]; simp only [IntKind.wrap, IntKind.bits, IntKind.signed]; simp; omega
      by_cases h128 : rd l a < 128
      · rw [if_pos h128]
        by_cases hz : rd l a = 0 ∧ 0 < i
        · rw [if_pos hz]
          refine Ev.step (f := fun _ => some (0, 0, false)) (fun k => ?_) (Ev.now _)
          simp only [impl_GetNum.j1, e2]
          rw [if_pos (by simpa using hlt), if_pos ha, if_pos hlt, if_pos e5, if_pos h128, if_pos hz.1, if_pos (by omega)]
        · rw [if_neg hz]
          refine Ev.step (f := fun _ => some (x + rd l a % 128 * 128 ^ i, a + 1, true)) (fun k => ?_) (Ev.now _)
          simp only [impl_GetNum.j1, e2, e3, e4]
          rw [if_pos (by simpa using hlt), if_pos ha, if_pos hlt, if_pos e5, if_pos h128, w64 (x := a + 1) (by omega) (by omega)]
          by_cases h00 : rd l a = 0
          · rw [if_pos h00, if_neg (by omega)]
          · rw [if_neg h00]
      · rw [if_neg h128]
        refine Ev.step (f := fun k => impl_GetNum.l0 k l (a + 1) (x + rd l a % 128 * 128 ^ i) ((i + 1 : Nat) : Int)) (fun k => ?_) ?_
        · simp only [impl_GetNum.j1, e2, e3, e4]
          rw [if_pos (by simpa using hlt), if_pos ha, if_pos hlt, if_pos e5, if_neg h128, w64 (x := a + 1) (by omega) (by omega), w64 (x := (i : Int) + 1) (by omega) (by omega)]; rfl
        · exact ih (i + 1) (x + rd l a % 128 * 128 ^ i) (a + 1) (by omega) (by omega) (by omega) (by omega) f2
    · rw [if_neg hlt]
      refine Ev.step (f := fun _ => some (0, 0, false)) (fun k => ?_) (Ev.now _)
      simp only [impl_GetNum.j1]
      rw [if_neg (by simpa using hlt)]
theorem impl_GetNum_ev (l : List Int) (hl : l.length ≤ 140737488351232) (hw : ∀ x ∈ l, (Lit.int .u8 x).wf = true) (a : Int) (ha : a ≤ 9223372036854775807) : Ev (fun k => impl_GetNum.f k l a) (getNum l a) := by
  unfold impl_GetNum.f getNum
  simp only [impl_inRange_eq, Option.bind_some]
  rw [w64 (by omega) (by omega)]
  by_cases h : a < 0
  · simp only [if_pos h]
    exact ev_neg (by simp; omega) (Ev.now _)
  · simp only [if_neg h]
    by_cases h2 : a ≥ l.length
    · refine ev_neg (by simp; omega) (ev_some ?_)
      unfold getN; rw [if_neg (by omega)]
    · refine ev_pos (by simp; omega) ?_
      have := impl_GetNum_l l hl hw 9 0 0 a (by omega) (by omega) rfl (by omega) (by decide)
      simpa using this

end Go.Proofs.Ytplgbnalflpdhaa.Y

