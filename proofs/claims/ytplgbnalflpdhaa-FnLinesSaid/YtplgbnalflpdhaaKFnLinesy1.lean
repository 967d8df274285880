/- Plain lemmas over numbers and lists for FnLines. Conditions: as each states. -/
import Derived.Test.YtplgbnalflpdhaaKFnLinesx1
/- Plain lemmas over numbers and lists (base). Conditions: as each states. -/
namespace Go.Proofs.Ytplgbnalflpdhaa.Y
open Go.RowKit Go.Proofs.Ytplgbnalflpdhaa.X Go.Proofs.YtplgbnalflpdhaaW.PrintWords Go.Proofs.YtplgbnalflpdhaaW.PrintLast Go.Proofs.YtplgbnalflpdhaaW.PrintMore Go.Proofs.Ytplgbnalflpdhaa.Y
set_option linter.unusedVariables false
set_option linter.unusedSimpArgs false
theorem wf64 {x : Int} (h : (Lit.int .i64 x).wf = true) : -9223372036854775808 ≤ x ∧ x ≤ 9223372036854775807 := by
  simp only [Lit.wf, Bool.and_eq_true, decide_eq_true_eq] at h
  exact h
theorem wf8 {x : Int} (h : (Lit.int .u8 x).wf = true) : 0 ≤ x ∧ x ≤ 255 := by
  simp only [Lit.wf, Bool.and_eq_true, decide_eq_true_eq] at h
  exact h
theorem w64 {x : Int} (h : -9223372036854775808 ≤ x) (h' : x ≤ 9223372036854775807) : wrap64 x = x := by unfold wrap64; omega
theorem w64_range (x : Int) : -9223372036854775808 ≤ wrap64 x ∧ wrap64 x ≤ 9223372036854775807 := by unfold wrap64; omega
theorem ev_pos {α : Type} {c : Prop} [Decidable c] {g f : Nat → Option α} {r : α} (hc : c) (h : Ev g r) : Ev (fun k => if c then g k else f k) r := by
  simpa only [if_pos hc] using h
theorem ev_neg {α : Type} {c : Prop} [Decidable c] {g f : Nat → Option α} {r : α} (hc : ¬ c) (h : Ev f r) : Ev (fun k => if c then g k else f k) r := by
  simpa only [if_neg hc] using h
theorem ev_const {α : Type} {g : Option α} {r : α} (h : g = some r) : Ev (fun _ => g) r := ⟨0, fun _ _ => h⟩
theorem ev_some {α : Type} {r r' : α} (h : r = r') : Ev (fun _ => some r) r' := ⟨0, fun _ _ => by rw [h]⟩
theorem ev_bindS {α β : Type} {g : Option α} {f : Nat → α → Option β} {a : α} {r : β} (h : g = some a) (k : Ev (fun n => f n a) r) : Ev (fun n => g.bind (f n)) r := by
  subst h; exact k
theorem rd_app_left {xs ys : List Int} {i : Int} (h0 : 0 ≤ i) (h : i < xs.length) : rd (xs ++ ys) i = rd xs i := by
  unfold rd; rw [List.getD_eq_getElem?_getD, List.getD_eq_getElem?_getD, List.getElem?_append_left (by omega)]
theorem rd_drop {xs : List Int} {i : Int} {v : Int} {ys : List Int} (h : xs.drop i.toNat = v :: ys) : rd xs i = v := by
  unfold rd
  have : xs[i.toNat]? = some v := by
    have := congrArg (fun l => l[0]?) h
    simpa using this
  rw [List.getD_eq_getElem?_getD, this]; rfl
/-- One round: what follows is read off by 'simp only [F.j0]'. -/
theorem ev_succ {α : Type} {g : Nat → Option α} {r : α} (h : Ev (fun k => g (k + 1)) r) : Ev g r := Ev.step (fun _ => rfl) h
theorem ev_cast {α : Type} {g : Nat → Option α} {r r' : α} (h : Ev g r) (e : r = r') : Ev g r' := by subst e; exact h

end Go.Proofs.Ytplgbnalflpdhaa.Y

/- Plain lemmas over numbers and lists (evp). Conditions: as each states. -/
namespace Go.Proofs.Ytplgbnalflpdhaa.Y
open Go.RowKit Go.Proofs.Ytplgbnalflpdhaa.X Go.Proofs.YtplgbnalflpdhaaW.PrintWords Go.Proofs.YtplgbnalflpdhaaW.PrintLast Go.Proofs.YtplgbnalflpdhaaW.PrintMore Go.Proofs.Ytplgbnalflpdhaa.Y
set_option linter.unusedVariables false
set_option linter.unusedSimpArgs false
/-- Behind rounds enough there is an answer, of which something is told. -/
def EvP {α : Type} (g : Nat → Option α) (Q : α → Prop) : Prop := ∃ r, Ev g r ∧ Q r
theorem EvP.bind {α β : Type} {g : Nat → Option α} {f : Nat → α → Option β} {P : α → Prop} {Q : β → Prop} (h : EvP g P) (hf : ∀ a, P a → EvP (fun k => f k a) Q) : EvP (fun k => (g k).bind (f k)) Q := by
  obtain ⟨a, e, hp⟩ := h
  obtain ⟨r, e2, hq⟩ := hf a hp
  exact ⟨r, Ev.bind e e2, hq⟩
theorem EvP.pos {α : Type} {c : Prop} [Decidable c] {g f : Nat → Option α} {Q : α → Prop} (hc : c) (h : EvP g Q) : EvP (fun k => if c then g k else f k) Q := by
  obtain ⟨r, e, hq⟩ := h; exact ⟨r, ev_pos hc e, hq⟩
theorem EvP.neg {α : Type} {c : Prop} [Decidable c] {g f : Nat → Option α} {Q : α → Prop} (hc : ¬ c) (h : EvP f Q) : EvP (fun k => if c then g k else f k) Q := by
  obtain ⟨r, e, hq⟩ := h; exact ⟨r, ev_neg hc e, hq⟩
theorem EvP.ite {α : Type} {c : Prop} [Decidable c] {g f : Nat → Option α} {Q : α → Prop} (h1 : c → EvP g Q) (h2 : ¬ c → EvP f Q) : EvP (fun k => if c then g k else f k) Q := by
  by_cases hc : c
  · exact EvP.pos hc (h1 hc)
  · exact EvP.neg hc (h2 hc)
theorem EvP.some {α : Type} {r : α} {Q : α → Prop} (h : Q r) : EvP (fun _ => Option.some r) Q := ⟨r, Ev.now _, h⟩
theorem EvP.const {α : Type} {g : Option α} {P : α → Prop} (h : ∃ a, g = Option.some a ∧ P a) : EvP (fun _ => g) P := by
  obtain ⟨a, e, hp⟩ := h; exact ⟨a, ev_const e, hp⟩
theorem EvP.succ {α : Type} {g : Nat → Option α} {Q : α → Prop} (h : EvP (fun k => g (k + 1)) Q) : EvP g Q := by
  obtain ⟨r, e, hq⟩ := h; exact ⟨r, ev_succ e, hq⟩
theorem EvP.mono {α : Type} {g : Nat → Option α} {P Q : α → Prop} (h : EvP g P) (hi : ∀ a, P a → Q a) : EvP g Q := by
  obtain ⟨r, e, hq⟩ := h; exact ⟨r, e, hi r hq⟩
theorem EvP.of {α : Type} {g : Nat → Option α} {r : α} {Q : α → Prop} (h : Ev g r) (hq : Q r) : EvP g Q := ⟨r, h, hq⟩
theorem EvP.ev {α : Type} {g : Nat → Option α} {r : α} (h : EvP g (fun x => x = r)) : Ev g r := by
  obtain ⟨x, e, hx⟩ := h
  subst hx
  exact e
/-- A callee that goes round not at all. -/
theorem EvP.bindS {α β : Type} {g : Option α} {f : Nat → α → Option β} {P : α → Prop} {Q : β → Prop} (h : ∃ a, g = Option.some a ∧ P a) (hf : ∀ a, P a → EvP (fun k => f k a) Q) : EvP (fun k => g.bind (f k)) Q := by
  obtain ⟨a, rfl, hp⟩ := h
  exact hf a hp

end Go.Proofs.Ytplgbnalflpdhaa.Y

/- Plain lemmas over numbers and lists (linesD). Conditions: as each states. -/
namespace Go.Proofs.Ytplgbnalflpdhaa.Y
open Go.RowKit Go.Proofs.Ytplgbnalflpdhaa.X Go.Proofs.YtplgbnalflpdhaaW.PrintWords Go.Proofs.YtplgbnalflpdhaaW.PrintLast Go.Proofs.YtplgbnalflpdhaaW.PrintMore Go.Proofs.Ytplgbnalflpdhaa.Y
set_option linter.unusedVariables false
set_option linter.unusedSimpArgs false
-- USES impl_LinesOf.f
def linesR (l : List Int) : List Int := if l.length ≤ 3000 then linesOf l else []
theorem linesOf_len : ∀ l : List Int, (linesOf l).length ≤ l.length := by
  intro l
  induction l with
  | nil => simp [linesOf]
  | cons x r ih =>
    unfold linesOf
    split
    · simp only [List.length_cons]; omega
    · simp only [List.length_cons]; omega
theorem linesOf_no13 : ∀ (l : List Int), ∀ x ∈ linesOf l, x ≠ 13 := by
  intro l
  induction l with
  | nil => simp [linesOf]
  | cons y r ih =>
    unfold linesOf
    split
    · exact ih
    · intro x hx
      rcases List.mem_cons.1 hx with h | h
      · subst h; unfold low13; split <;> omega
      · exact ih x h
theorem linesOf_same : ∀ (l : List Int), (∀ x ∈ l, x ≠ 13) → linesOf l = l := by
  intro l
  induction l with
  | nil => intro _; rfl
  | cons y r ih =>
    intro h
    have hy := h y (by simp)
    unfold linesOf
    rw [if_neg (by simp [hy]), ih (fun x hx => h x (by simp [hx]))]
    simp [low13, hy]
theorem linesR_len (l : List Int) : (linesR l).length ≤ l.length ∧ (linesR l).length ≤ 3000 := by
  unfold linesR; split
  · have := linesOf_len l; omega
  · simp
theorem linesR_no13 (l : List Int) : ∀ x ∈ linesR l, x ≠ 13 := by
  unfold linesR; split
  · exact linesOf_no13 l
  · simp
theorem linesR_twice (l : List Int) : linesR (linesR l) = linesR l := by
  have h := linesR_len l
  show (if (linesR l).length ≤ 3000 then linesOf (linesR l) else []) = linesR l
  rw [if_pos h.2]
  exact linesOf_same _ (linesR_no13 l)
theorem impl_LinesOf_eq (l : List Int) : impl_LinesOf.f l = some (linesR l) := rfl
theorem spec_LinesOf_l (l : List Int) (hl : l.length ≤ 3000) : ∀ (d : Nat) (i : Int) (acc : List Int), 0 ≤ i → i + d = l.length → acc.length ≤ i → Ev (fun k => spec_LinesOf.l0 k l acc i) (acc ++ linesOf (l.drop i.toNat)) := by
  intro d
  induction d with
  | zero =>
    intro i acc h0 h ha
    refine ev_succ ?_
    simp only [spec_LinesOf.l0]
    refine ev_neg (by omega) (ev_succ ?_)
    simp only [spec_LinesOf.j1]
    refine ev_neg (by simp) (ev_some ?_)
    rw [List.drop_of_length_le (by omega)]; simp [linesOf]
  | succ d ih =>
    intro i acc h0 h ha
    refine ev_succ ?_
    simp only [spec_LinesOf.l0]
    refine ev_pos (by omega) (ev_succ ?_)
    simp only [spec_LinesOf.j1]
    rw [w64 (x := i + 1) (by omega) (by omega)]
    refine ev_pos (by simp; omega) (ev_pos h0 (ev_pos (by omega) ?_))
    have nxt := fun acc2 h2 => ih (i + 1) acc2 (by omega) (by omega) h2
    have hd := head_drop (l := l) (i := i + 1) (by omega)
    rw [drop_cons' h0 (by omega), linesOf]
    by_cases h13 : rd l i = 13
    · refine ev_pos h13 ?_
      have hlow : low13 (rd l i) = 10 := by unfold low13; rw [if_pos h13]
      by_cases he : i + 1 = l.length
      · rw [if_neg (fun g => by have := (hd.1 g.2).1; omega), hlow]
        refine ev_pos he (ev_pos (by omega) (ev_cast (nxt (acc ++ [10]) (by rw [List.length_append, List.length_singleton]; omega)) (by simp)))
      · refine ev_neg he (ev_pos (by omega) (ev_pos (by omega) ?_))
        by_cases h10 : rd l (i + 1) = 10
        · rw [if_pos ⟨h13, hd.2 ⟨by omega, h10⟩⟩]
          exact ev_pos h10 (nxt acc (by omega))
        · rw [if_neg (fun g => h10 (hd.1 g.2).2), hlow]
          exact ev_neg h10 (ev_pos (by omega) (ev_cast (nxt (acc ++ [10]) (by rw [List.length_append, List.length_singleton]; omega)) (by simp)))
    · rw [if_neg (fun g => h13 g.1)]
      have hlow : low13 (rd l i) = rd l i := by unfold low13; rw [if_neg h13]
      rw [hlow]
      exact ev_neg h13 (ev_pos (by omega) (ev_cast (nxt (acc ++ [rd l i]) (by rw [List.length_append, List.length_singleton]; omega)) (by simp)))
theorem spec_LinesOf_ev (l : List Int) (hm : l.length ≤ 4611686018427387903) : Ev (fun k => spec_LinesOf.f k l) (linesR l) := by
  unfold spec_LinesOf.f linesR
  by_cases hl : l.length ≤ 3000
  · rw [if_pos hl]
    have := spec_LinesOf_l l hl l.length 0 [] (by omega) (by omega) (by simp)
    simpa using this
  · rw [if_neg hl]
    refine ev_succ ?_
    simp only [spec_LinesOf.l0]
    refine ev_pos (by omega) (ev_succ ?_)
    simp only [spec_LinesOf.j1]
    exact ev_neg (by simp; omega) (Ev.now _)

end Go.Proofs.Ytplgbnalflpdhaa.Y

/- Plain lemmas over numbers and lists (sameInts). Conditions: as each states. -/
namespace Go.Proofs.Ytplgbnalflpdhaa.Y
open Go.RowKit Go.Proofs.Ytplgbnalflpdhaa.X Go.Proofs.YtplgbnalflpdhaaW.PrintWords Go.Proofs.YtplgbnalflpdhaaW.PrintLast Go.Proofs.YtplgbnalflpdhaaW.PrintMore Go.Proofs.Ytplgbnalflpdhaa.Y
set_option linter.unusedVariables false
set_option linter.unusedSimpArgs false
theorem sameInts_l (l : List Int) (hl : l.length ≤ 9223372036854775807) : ∀ (d : Nat) (i : Int), 0 ≤ i → i + d = l.length → Ev (fun k => laws_sameInts.l0 k l l i) true := by
  intro d
  induction d with
  | zero =>
    intro i h0 h
    refine Ev.step (f := fun _ => some true) (fun k => ?_) (Ev.now _)
    simp only [laws_sameInts.l0]; rw [if_neg (by omega)]
  | succ d ih =>
    intro i h0 h
    refine Ev.step (f := fun k => laws_sameInts.l0 k l l (i + 1)) (fun k => ?_) (ih (i + 1) (by omega) (by omega))
    simp only [laws_sameInts.l0]; rw [if_pos (by omega), if_pos h0, if_pos (by omega), if_pos True.intro, w64 (by omega) (by omega)]
theorem sameInts_same (l : List Int) (hl : l.length ≤ 9223372036854775807) : Ev (fun k => laws_sameInts.f k l l) true := by
  refine Ev.congr (f := fun k => laws_sameInts.l0 k l l 0) (fun k => ?_) (sameInts_l l hl l.length 0 (by omega) (by omega))
  simp only [laws_sameInts.f]; rw [if_pos True.intro]

end Go.Proofs.Ytplgbnalflpdhaa.Y

/- Plain lemmas over numbers and lists (num). Conditions: as each states. -/
namespace Go.Proofs.Ytplgbnalflpdhaa.Y
open Go.RowKit Go.Proofs.Ytplgbnalflpdhaa.X Go.Proofs.YtplgbnalflpdhaaW.PrintWords Go.Proofs.YtplgbnalflpdhaaW.PrintLast Go.Proofs.YtplgbnalflpdhaaW.PrintMore Go.Proofs.Ytplgbnalflpdhaa.Y
set_option linter.unusedVariables false
set_option linter.unusedSimpArgs false
def numForm : Nat → Int → List Int
  | 0, x => [x]
  | n + 1, x => if x > 127 then (x % 128 + 128) :: numForm n (x / 128) else [x]
theorem numForm_len (n : Nat) : ∀ x, (numForm n x).length ≤ n + 1 := by
  induction n with
  | zero => intro x; simp [numForm]
  | succ n ih => intro x; unfold numForm; split <;> simp [ih]
theorem wraps_i64 (n : Int) (h₀ : 0 ≤ n) (h₁ : n < 2 ^ 63) : IntKind.i64.wrap n = n := by rw [IntKind.wrap_i64]; omega
theorem and127 {x : Int} (h0 : 0 ≤ x) (h1 : x ≤ 9223372036854775807) : Go.bits .and .i64 x 127 = x % 128 := bits_mask .i64 63 (by decide) wraps_i64 7 (by decide) x h0 (by omega)
theorem or128 {y : Int} (h0 : 0 ≤ y) (h1 : y < 128) : Go.bits .or .i64 128 y = 128 + y := bits_join .i64 63 (by decide) wraps_i64 7 128 y (by decide) (by decide) (by decide) h0 h1 (by omega)
theorem pow128 (x : Int) (n : Nat) (h : x < 128 ^ (n + 1 + 1)) : x / 128 < 128 ^ (n + 1) := by
  rw [Int.pow_succ] at h
  generalize (128 : Int) ^ (n + 1) = p at *
  omega

end Go.Proofs.Ytplgbnalflpdhaa.Y

/- Plain lemmas over numbers and lists (draw). Conditions: as each states. -/
namespace Go.Proofs.Ytplgbnalflpdhaa.Y
open Go.RowKit Go.Proofs.Ytplgbnalflpdhaa.X Go.Proofs.YtplgbnalflpdhaaW.PrintWords Go.Proofs.YtplgbnalflpdhaaW.PrintLast Go.Proofs.YtplgbnalflpdhaaW.PrintMore Go.Proofs.Ytplgbnalflpdhaa.Y
set_option linter.unusedVariables false
set_option linter.unusedSimpArgs false
theorem and_range (x : Int) (m : Nat) (hm : m < 2 ^ 31) : 0 ≤ Go.bits .and .i64 x m ∧ Go.bits .and .i64 x m ≤ m := by
  have h : (BitVec.ofInt IntKind.i64.bits x &&& BitVec.ofInt IntKind.i64.bits (m : Int)).toNat ≤ m := by
    rw [BitVec.toNat_and]
    refine Nat.le_trans Nat.and_le_right ?_
    rw [BitVec.ofInt_natCast, BitVec.toNat_ofNat]
    exact Nat.mod_le _ _
  simp only [Go.bits]
  generalize (BitVec.ofInt IntKind.i64.bits x &&& BitVec.ofInt IntKind.i64.bits (m : Int)).toNat = t at *
  rw [wraps_i64 _ (by omega) (by omega)]
  omega
theorem l1Byte_ok (l : List Int) (i h : Int) (hl : l.length ≤ 1048576) (h0 : 0 ≤ i) (h1 : i ≤ l.length) : ∃ v i' h', spec_l1Byte.f l i h = some (v, i', h') ∧ (0 ≤ v ∧ v ≤ 255) ∧ 0 ≤ i' ∧ i' ≤ l.length := by
  unfold spec_l1Byte.f
  by_cases c : i < l.length
  · rw [if_pos c, if_pos h0, w64 (x := i + 1) (by omega) (by omega)]
    exact ⟨_, _, _, rfl, and_range _ 255 (by decide), by omega, by omega⟩
  · rw [if_neg c]
    exact ⟨_, _, _, rfl, and_range _ 255 (by decide), h0, h1⟩
theorem l1Below_ok (l : List Int) (i h n : Int) (hl : l.length ≤ 1048576) (h0 : 0 ≤ i) (h1 : i ≤ l.length) (hn : n ≤ 1000000000) : ∃ v i' h', spec_l1Below.f l i h n = some (v, i', h') ∧ (0 ≤ v ∧ (v < n ∨ n ≤ 0 ∧ v = 0)) ∧ 0 ≤ i' ∧ i' ≤ l.length := by
  unfold spec_l1Below.f
  by_cases c : n ≤ 0
  · rw [if_pos c]; exact ⟨_, _, _, rfl, ⟨by omega, .inr ⟨c, rfl⟩⟩, h0, h1⟩
  · rw [if_neg c]
    by_cases d : n ≤ 256
    · obtain ⟨v, i', h', e, hv, hi⟩ := l1Byte_ok l i h hl h0 h1
      rw [if_pos d, e]
      refine ⟨_, _, _, by rw [Option.bind_some, if_neg (by omega)], ⟨?_, .inl ?_⟩, hi⟩
      · rw [Int.tmod_eq_emod_of_nonneg hv.1]; exact Int.emod_nonneg _ (by omega)
      · rw [Int.tmod_eq_emod_of_nonneg hv.1]; exact Int.emod_lt_of_pos _ (by omega)
    · obtain ⟨v1, i1, h1', e1, hv1, hi1⟩ := l1Byte_ok l i h hl h0 h1
      obtain ⟨v2, i2, h2', e2, hv2, hi2⟩ := l1Byte_ok l i1 h1' hl hi1.1 hi1.2
      obtain ⟨v3, i3, h3', e3, hv3, hi3⟩ := l1Byte_ok l i2 h2' hl hi2.1 hi2.2
      obtain ⟨v4, i4, h4', e4, hv4, hi4⟩ := l1Byte_ok l i3 h3' hl hi3.1 hi3.2
      rw [if_neg d, e1, Option.bind_some, e2, Option.bind_some, e3, Option.bind_some, e4, Option.bind_some, if_neg (by omega)]
      have hw : wrap64 ((wrap64 ((wrap64 ((wrap64 (v1 * 16777216)) + (wrap64 (v2 * 65536)))) + (wrap64 (v3 * 256)))) + v4) = v1 * 16777216 + v2 * 65536 + v3 * 256 + v4 := by
        rw [w64 (x := v1 * _) (by omega) (by omega), w64 (x := v2 * _) (by omega) (by omega), w64 (x := v3 * _) (by omega) (by omega), w64 (x := v1 * 16777216 + v2 * 65536) (by omega) (by omega), w64 (x := v1 * 16777216 + v2 * 65536 + v3 * 256) (by omega) (by omega), w64 (by omega) (by omega)]
      refine ⟨_, _, _, rfl, ⟨?_, .inl ?_⟩, hi4⟩
      · simp only [hw]; rw [Int.tmod_eq_emod_of_nonneg (by omega)]; exact Int.emod_nonneg _ (by omega)
      · simp only [hw]; rw [Int.tmod_eq_emod_of_nonneg (by omega)]; exact Int.emod_lt_of_pos _ (by omega)
theorem l1PickInt_ok (l : List Int) (i h : Int) (m : List Int) (hl : l.length ≤ 1048576) (h0 : 0 ≤ i) (h1 : i ≤ l.length) (hm : 0 < m.length) (hm2 : m.length ≤ 1000) : ∃ v i' h', spec_l1PickInt.f l i h m = some (v, i', h') ∧ v ∈ m ∧ 0 ≤ i' ∧ i' ≤ l.length := by
  unfold spec_l1PickInt.f
  obtain ⟨v, i', h', e, hv, hi⟩ := l1Below_ok l i h m.length hl h0 h1 (by omega)
  rw [e, Option.bind_some, if_pos hv.1, if_pos (by show v < _; omega)]
  refine ⟨_, _, _, rfl, ?_, hi⟩
  show rd m v ∈ m
  unfold rd
  rw [List.getD_eq_getElem?_getD, List.getElem?_eq_getElem (by omega)]
  exact List.getElem_mem _

end Go.Proofs.Ytplgbnalflpdhaa.Y

/- Plain lemmas over numbers and lists (draw2). Conditions: as each states. -/
namespace Go.Proofs.Ytplgbnalflpdhaa.Y
open Go.RowKit Go.Proofs.Ytplgbnalflpdhaa.X Go.Proofs.YtplgbnalflpdhaaW.PrintWords Go.Proofs.YtplgbnalflpdhaaW.PrintLast Go.Proofs.YtplgbnalflpdhaaW.PrintMore Go.Proofs.Ytplgbnalflpdhaa.Y
set_option linter.unusedVariables false
set_option linter.unusedSimpArgs false
theorem l1New_l0 (l : List Int) (hl : l.length ≤ 1048576) : ∀ (d : Nat) (i h : Int), 0 ≤ i → i + d = l.length → ∃ h', Ev (fun k => spec_l1New.l0 k l h i) (l, 0, h') := by
  intro d
  induction d with
  | zero =>
    intro i h h0 hd
    exact ⟨h, Ev.step (f := fun _ => some (l, 0, h)) (fun k => by simp only [spec_l1New.l0]; rw [if_neg (by omega)]) (Ev.now _)⟩
  | succ d ih =>
    intro i h h0 hd
    by_cases c : i < 4000
    · obtain ⟨h', e⟩ := ih (i + 1) (Go.bits .and .i64 (wrap64 ((wrap64 ((wrap64 (h * 131)) + (wrap64 (rd l i)))) + 7)) 1073741823) (by omega) (by omega)
      refine ⟨h', Ev.step (fun k => ?_) e⟩
      simp only [spec_l1New.l0]; rw [if_pos (by omega), if_pos c, if_pos h0, w64 (x := i + 1) (by omega) (by omega)]
    · exact ⟨h, Ev.step (f := fun _ => some (l, 0, h)) (fun k => by simp only [spec_l1New.l0]; rw [if_pos (by omega), if_neg c]) (Ev.now _)⟩
theorem l1New_ok (l : List Int) (hl : l.length ≤ 1048576) : ∃ h', Ev (fun k => spec_l1New.f k l) (l, 0, h') := by
  unfold spec_l1New.f
  exact l1New_l0 l hl l.length 0 _ (by omega) (by omega)

end Go.Proofs.Ytplgbnalflpdhaa.Y

/- Plain lemmas over numbers and lists (drawPoint). Conditions: as each states. -/
namespace Go.Proofs.Ytplgbnalflpdhaa.Y
open Go.RowKit Go.Proofs.Ytplgbnalflpdhaa.X Go.Proofs.YtplgbnalflpdhaaW.PrintWords Go.Proofs.YtplgbnalflpdhaaW.PrintLast Go.Proofs.YtplgbnalflpdhaaW.PrintMore Go.Proofs.Ytplgbnalflpdhaa.Y
set_option linter.unusedVariables false
set_option linter.unusedSimpArgs false
theorem l1DrawPoint_ok (l : List Int) (i h : Int) (hl : l.length ≤ 1048576) (h0 : 0 ≤ i) (h1 : i ≤ l.length) : ∃ v i' h', spec_l1DrawPoint.f l i h = some (v, i', h') ∧ (-1 ≤ v ∧ v ≤ 1200000) ∧ 0 ≤ i' ∧ i' ≤ l.length := by
  unfold spec_l1DrawPoint.f
  obtain ⟨a, i1, g1, e1, ha, hi1⟩ := l1Below_ok l i h 1200000 hl h0 h1 (by omega)
  obtain ⟨b, i2, g2, e2, hb, hi2⟩ := l1Below_ok l i1 g1 90 hl hi1.1 hi1.2 (by omega)
  rw [e1, Option.bind_some, e2, Option.bind_some]
  obtain ⟨v, i3, g3, e3, hv, hi3⟩ := l1PickInt_ok l i2 g2 [0, 65, 97, 127, 128, 255, 2047, 2048, 55295, 55296, 57343, 57344, 65279, 65533, 65535, 65536, 1114111, 1114112, (-1), a, wrap64 (32 + b)] hl hi2.1 hi2.2 (by simp) (by simp)
  rw [e3, Option.bind_some]
  refine ⟨_, _, _, rfl, ?_, hi3⟩
  rw [w64 (x := 32 + b) (by omega) (by omega)] at hv
  simp only [List.mem_cons, List.not_mem_nil, or_false] at hv
  show -1 ≤ v ∧ v ≤ 1200000
  omega
theorem DrawPointPut_ok (l : List Int) (hl : l.length ≤ 1048576) : ∃ v, Ev (fun k => spec_DrawPointPut.f k l) v ∧ -1 ≤ v ∧ v ≤ 1200000 := by
  unfold spec_DrawPointPut.f
  obtain ⟨h, e⟩ := l1New_ok l hl
  obtain ⟨v, i', h', e2, hv, _⟩ := l1DrawPoint_ok l 0 h hl (by omega) (by omega)
  exact ⟨v, Ev.bind e (ev_bindS e2 (Ev.now _)), hv⟩

end Go.Proofs.Ytplgbnalflpdhaa.Y

/- Plain lemmas over numbers and lists (drawP). Conditions: as each states. -/
namespace Go.Proofs.Ytplgbnalflpdhaa.Y
open Go.RowKit Go.Proofs.Ytplgbnalflpdhaa.X Go.Proofs.YtplgbnalflpdhaaW.PrintWords Go.Proofs.YtplgbnalflpdhaaW.PrintLast Go.Proofs.YtplgbnalflpdhaaW.PrintMore Go.Proofs.Ytplgbnalflpdhaa.Y
set_option linter.unusedVariables false
set_option linter.unusedSimpArgs false
theorem l1Byte_p (l : List Int) (i h : Int) (hl : l.length ≤ 1048576) (hi : 0 ≤ i ∧ i ≤ l.length) : ∃ a, spec_l1Byte.f l i h = some a ∧ (0 ≤ a.1 ∧ a.1 ≤ 255) ∧ 0 ≤ a.2.1 ∧ a.2.1 ≤ l.length := by
  obtain ⟨v, i', h', e, hv, hj⟩ := l1Byte_ok l i h hl hi.1 hi.2
  exact ⟨_, e, hv, hj⟩
theorem l1Below_p (l : List Int) (i h n : Int) (hl : l.length ≤ 1048576) (hi : 0 ≤ i ∧ i ≤ l.length) (hn : n ≤ 1000000000) : ∃ a, spec_l1Below.f l i h n = some a ∧ (0 ≤ a.1 ∧ (a.1 < n ∨ n ≤ 0 ∧ a.1 = 0)) ∧ 0 ≤ a.2.1 ∧ a.2.1 ≤ l.length := by
  obtain ⟨v, i', h', e, hv, hj⟩ := l1Below_ok l i h n hl hi.1 hi.2 hn
  exact ⟨_, e, hv, hj⟩
theorem l1PickInt_p (l : List Int) (i h : Int) (m : List Int) (hl : l.length ≤ 1048576) (hi : 0 ≤ i ∧ i ≤ l.length) (hm : 0 < m.length) (hm2 : m.length ≤ 1000) : ∃ a, spec_l1PickInt.f l i h m = some a ∧ a.1 ∈ m ∧ 0 ≤ a.2.1 ∧ a.2.1 ≤ l.length := by
  obtain ⟨v, i', h', e, hv, hj⟩ := l1PickInt_ok l i h m hl hi.1 hi.2 hm hm2
  exact ⟨_, e, hv, hj⟩
theorem l1DrawPoint_p (l : List Int) (i h : Int) (hl : l.length ≤ 1048576) (hi : 0 ≤ i ∧ i ≤ l.length) : ∃ a, spec_l1DrawPoint.f l i h = some a ∧ (-1 ≤ a.1 ∧ a.1 ≤ 1200000) ∧ 0 ≤ a.2.1 ∧ a.2.1 ≤ l.length := by
  obtain ⟨v, i', h', e, hv, hj⟩ := l1DrawPoint_ok l i h hl hi.1 hi.2
  exact ⟨_, e, hv, hj⟩
theorem l1New_p (l : List Int) (hl : l.length ≤ 1048576) : EvP (fun k => spec_l1New.f k l) (fun a => a.1 = l ∧ 0 ≤ a.2.1 ∧ a.2.1 ≤ (l.length : Int)) := by
  obtain ⟨h', e⟩ := l1New_ok l hl
  exact ⟨_, e, rfl, by simp, by simp⟩

end Go.Proofs.Ytplgbnalflpdhaa.Y

/- Plain lemmas over numbers and lists (drawOnce). Conditions: as each states. -/
namespace Go.Proofs.Ytplgbnalflpdhaa.Y
open Go.RowKit Go.Proofs.Ytplgbnalflpdhaa.X Go.Proofs.YtplgbnalflpdhaaW.PrintWords Go.Proofs.YtplgbnalflpdhaaW.PrintLast Go.Proofs.YtplgbnalflpdhaaW.PrintMore Go.Proofs.Ytplgbnalflpdhaa.Y
set_option linter.unusedVariables false
set_option linter.unusedSimpArgs false
theorem l1Once_p (l : List Int) (i h n : Int) (hl : l.length ≤ 1048576) (hi : 0 ≤ i ∧ i ≤ l.length) (hn : n ≤ 1000000000) : ∃ a, spec_l1Once.f l i h n = some a ∧ True ∧ 0 ≤ a.2.1 ∧ a.2.1 ≤ l.length := by
  obtain ⟨a, e, _, hj⟩ := l1Below_p l i h n hl hi hn
  unfold spec_l1Once.f
  rw [e, Option.bind_some]
  exact ⟨_, rfl, True.intro, hj⟩

end Go.Proofs.Ytplgbnalflpdhaa.Y

/- Plain lemmas over numbers and lists (drawSize). Conditions: as each states. -/
namespace Go.Proofs.Ytplgbnalflpdhaa.Y
open Go.RowKit Go.Proofs.Ytplgbnalflpdhaa.X Go.Proofs.YtplgbnalflpdhaaW.PrintWords Go.Proofs.YtplgbnalflpdhaaW.PrintLast Go.Proofs.YtplgbnalflpdhaaW.PrintMore Go.Proofs.Ytplgbnalflpdhaa.Y
set_option linter.unusedVariables false
set_option linter.unusedSimpArgs false
theorem l1Size_p (l : List Int) (a : Int) (hl : l.length ≤ 1048576) (ha : 0 ≤ a) : ∃ n, spec_l1Size.f l a = some n ∧ 0 ≤ n ∧ n ≤ a := by
  unfold spec_l1Size.f
  rw [w64 (x := (l.length : Int) / 20) (by omega) (by omega), w64 (by omega) (by omega)]
  by_cases h : 2 + (l.length : Int) / 20 > a
  · rw [if_pos h]; exact ⟨_, rfl, ha, by omega⟩
  · rw [if_neg h]; exact ⟨_, rfl, by omega, by omega⟩

end Go.Proofs.Ytplgbnalflpdhaa.Y

