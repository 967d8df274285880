/- Plain lemmas over numbers and lists for FnExactLinesOf. Conditions: as each states. -/
import Derived.Test.YtplgbnalflpdhaaKFnExactLinesOfx1
/- Plain lemmas over numbers and lists (base). Conditions: as each states. -/
namespace Go.Proofs.Ytplgbnalflpdhaa.Y
open Go.RowKit Go.Proofs.Ytplgbnalflpdhaa.X Go.Proofs.YtplgbnalflpdhaaW.PrintWords Go.Proofs.YtplgbnalflpdhaaW.PrintLast Go.Proofs.YtplgbnalflpdhaaW.PrintMore Go.Proofs.Ytplgbnalflpdhaa.Y
set_option linter.unusedVariables false
set_option linter.unusedSimpArgs false
theorem wf64 {x : Int} (h : (Lit.int .i64 x).wf = true) : -9223372036854775808 ≤ x ∧ x ≤ 9223372036854775807 := by
  simp only [Lit.wf, Bool.and_eq_true, decide_eq_true_eq] at h
  exact h
theorem wf8 {x : Int} (h : (Lit.int .u8 x).wf = true) : 0 ≤ x ∧ x ≤ 255 := by
  simp only [Lit.wf, Bool.and_eq_true, decide_eq_true_eq] at h
  exact h
theorem w64 {x : Int} (h : -9223372036854775808 ≤ x) (h' : x ≤ 9223372036854775807) : wrap64 x = x := by unfold wrap64; omega
theorem w64_range (x : Int) : -9223372036854775808 ≤ wrap64 x ∧ wrap64 x ≤ 9223372036854775807 := by unfold wrap64; omega
theorem ev_pos {α : Type} {c : Prop} [Decidable c] {g f : Nat → Option α} {r : α} (hc : c) (h : Ev g r) : Ev (fun k => if c then g k else f k) r := by
  simpa only [if_pos hc] using h
theorem ev_neg {α : Type} {c : Prop} [Decidable c] {g f : Nat → Option α} {r : α} (hc : ¬ c) (h : Ev f r) : Ev (fun k => if c then g k else f k) r := by
  simpa only [if_neg hc] using h
theorem ev_const {α : Type} {g : Option α} {r : α} (h : g = some r) : Ev (fun _ => g) r := ⟨0, fun _ _ => h⟩
theorem ev_some {α : Type} {r r' : α} (h : r = r') : Ev (fun _ => some r) r' := ⟨0, fun _ _ => by rw [h]⟩
theorem ev_bindS {α β : Type} {g : Option α} {f : Nat → α → Option β} {a : α} {r : β} (h : g = some a) (k : Ev (fun n => f n a) r) : Ev (fun n => g.bind (f n)) r := by
  subst h; exact k
theorem rd_app_left {xs ys : List Int} {i : Int} (h0 : 0 ≤ i) (h : i < xs.length) : rd (xs ++ ys) i = rd xs i := by
  unfold rd; rw [List.getD_eq_getElem?_getD, List.getD_eq_getElem?_getD, List.getElem?_append_left (by omega)]
theorem rd_drop {xs : List Int} {i : Int} {v : Int} {ys : List Int} (h : xs.drop i.toNat = v :: ys) : rd xs i = v := by
  unfold rd
  have : xs[i.toNat]? = some v := by
    have := congrArg (fun l => l[0]?) h
    simpa using this
  rw [List.getD_eq_getElem?_getD, this]; rfl
/-- One round: what follows is read off by 'simp only [F.j0]'. -/
theorem ev_succ {α : Type} {g : Nat → Option α} {r : α} (h : Ev (fun k => g (k + 1)) r) : Ev g r := Ev.step (fun _ => rfl) h
theorem ev_cast {α : Type} {g : Nat → Option α} {r r' : α} (h : Ev g r) (e : r = r') : Ev g r' := by subst e; exact h

end Go.Proofs.Ytplgbnalflpdhaa.Y

/- Plain lemmas over numbers and lists (evp). Conditions: as each states. -/
namespace Go.Proofs.Ytplgbnalflpdhaa.Y
open Go.RowKit Go.Proofs.Ytplgbnalflpdhaa.X Go.Proofs.YtplgbnalflpdhaaW.PrintWords Go.Proofs.YtplgbnalflpdhaaW.PrintLast Go.Proofs.YtplgbnalflpdhaaW.PrintMore Go.Proofs.Ytplgbnalflpdhaa.Y
set_option linter.unusedVariables false
set_option linter.unusedSimpArgs false
/-- Behind rounds enough there is an answer, of which something is told. -/
def EvP {α : Type} (g : Nat → Option α) (Q : α → Prop) : Prop := ∃ r, Ev g r ∧ Q r
theorem EvP.bind {α β : Type} {g : Nat → Option α} {f : Nat → α → Option β} {P : α → Prop} {Q : β → Prop} (h : EvP g P) (hf : ∀ a, P a → EvP (fun k => f k a) Q) : EvP (fun k => (g k).bind (f k)) Q := by
  obtain ⟨a, e, hp⟩ := h
  obtain ⟨r, e2, hq⟩ := hf a hp
  exact ⟨r, Ev.bind e e2, hq⟩
theorem EvP.pos {α : Type} {c : Prop} [Decidable c] {g f : Nat → Option α} {Q : α → Prop} (hc : c) (h : EvP g Q) : EvP (fun k => if c then g k else f k) Q := by
  obtain ⟨r, e, hq⟩ := h; exact ⟨r, ev_pos hc e, hq⟩
theorem EvP.neg {α : Type} {c : Prop} [Decidable c] {g f : Nat → Option α} {Q : α → Prop} (hc : ¬ c) (h : EvP f Q) : EvP (fun k => if c then g k else f k) Q := by
  obtain ⟨r, e, hq⟩ := h; exact ⟨r, ev_neg hc e, hq⟩
theorem EvP.ite {α : Type} {c : Prop} [Decidable c] {g f : Nat → Option α} {Q : α → Prop} (h1 : c → EvP g Q) (h2 : ¬ c → EvP f Q) : EvP (fun k => if c then g k else f k) Q := by
  by_cases hc : c
  · exact EvP.pos hc (h1 hc)
  · exact EvP.neg hc (h2 hc)
theorem EvP.some {α : Type} {r : α} {Q : α → Prop} (h : Q r) : EvP (fun _ => Option.some r) Q := ⟨r, Ev.now _, h⟩
theorem EvP.const {α : Type} {g : Option α} {P : α → Prop} (h : ∃ a, g = Option.some a ∧ P a) : EvP (fun _ => g) P := by
  obtain ⟨a, e, hp⟩ := h; exact ⟨a, ev_const e, hp⟩
theorem EvP.succ {α : Type} {g : Nat → Option α} {Q : α → Prop} (h : EvP (fun k => g (k + 1)) Q) : EvP g Q := by
  obtain ⟨r, e, hq⟩ := h; exact ⟨r, ev_succ e, hq⟩
theorem EvP.mono {α : Type} {g : Nat → Option α} {P Q : α → Prop} (h : EvP g P) (hi : ∀ a, P a → Q a) : EvP g Q := by
  obtain ⟨r, e, hq⟩ := h; exact ⟨r, e, hi r hq⟩
theorem EvP.of {α : Type} {g : Nat → Option α} {r : α} {Q : α → Prop} (h : Ev g r) (hq : Q r) : EvP g Q := ⟨r, h, hq⟩
theorem EvP.ev {α : Type} {g : Nat → Option α} {r : α} (h : EvP g (fun x => x = r)) : Ev g r := by
  obtain ⟨x, e, hx⟩ := h
  subst hx
  exact e
/-- A callee that goes round not at all. -/
theorem EvP.bindS {α β : Type} {g : Option α} {f : Nat → α → Option β} {P : α → Prop} {Q : β → Prop} (h : ∃ a, g = Option.some a ∧ P a) (hf : ∀ a, P a → EvP (fun k => f k a) Q) : EvP (fun k => g.bind (f k)) Q := by
  obtain ⟨a, rfl, hp⟩ := h
  exact hf a hp

end Go.Proofs.Ytplgbnalflpdhaa.Y

/- Plain lemmas over numbers and lists (linesD). Conditions: as each states. -/
namespace Go.Proofs.Ytplgbnalflpdhaa.Y
open Go.RowKit Go.Proofs.Ytplgbnalflpdhaa.X Go.Proofs.YtplgbnalflpdhaaW.PrintWords Go.Proofs.YtplgbnalflpdhaaW.PrintLast Go.Proofs.YtplgbnalflpdhaaW.PrintMore Go.Proofs.Ytplgbnalflpdhaa.Y
set_option linter.unusedVariables false
set_option linter.unusedSimpArgs false
-- USES impl_LinesOf.f
def linesR (l : List Int) : List Int := if l.length ≤ 3000 then linesOf l else []
theorem linesOf_len : ∀ l : List Int, (linesOf l).length ≤ l.length := by
  intro l
  induction l with
  | nil => simp [linesOf]
  | cons x r ih =>
    unfold linesOf
    split
    · simp only [List.length_cons]; omega
    · simp only [List.length_cons]; omega
theorem linesOf_no13 : ∀ (l : List Int), ∀ x ∈ linesOf l, x ≠ 13 := by
  intro l
  induction l with
  | nil => simp [linesOf]
  | cons y r ih =>
    unfold linesOf
    split
    · exact ih
    · intro x hx
      rcases List.mem_cons.1 hx with h | h
      · subst h; unfold low13; split <;> omega
      · exact ih x h
theorem linesOf_same : ∀ (l : List Int), (∀ x ∈ l, x ≠ 13) → linesOf l = l := by
  intro l
  induction l with
  | nil => intro _; rfl
  | cons y r ih =>
    intro h
    have hy := h y (by simp)
    unfold linesOf
    rw [if_neg (by simp [hy]), ih (fun x hx => h x (by simp [hx]))]
    simp [low13, hy]
theorem linesR_len (l : List Int) : (linesR l).length ≤ l.length ∧ (linesR l).length ≤ 3000 := by
  unfold linesR; split
  · have := linesOf_len l; omega
  · simp
theorem linesR_no13 (l : List Int) : ∀ x ∈ linesR l, x ≠ 13 := by
  unfold linesR; split
  · exact linesOf_no13 l
  · simp
theorem linesR_twice (l : List Int) : linesR (linesR l) = linesR l := by
  have h := linesR_len l
  show (if (linesR l).length ≤ 3000 then linesOf (linesR l) else []) = linesR l
  rw [if_pos h.2]
  exact linesOf_same _ (linesR_no13 l)
theorem impl_LinesOf_eq (l : List Int) : impl_LinesOf.f l = some (linesR l) := rfl
theorem spec_LinesOf_l (l : List Int) (hl : l.length ≤ 3000) : ∀ (d : Nat) (i : Int) (acc : List Int), 0 ≤ i → i + d = l.length → acc.length ≤ i → Ev (fun k => spec_LinesOf.l0 k l acc i) (acc ++ linesOf (l.drop i.toNat)) := by
  intro d
  induction d with
  | zero =>
    intro i acc h0 h ha
    refine ev_succ ?_
    simp only [spec_LinesOf.l0]
    refine ev_neg (by omega) (ev_succ ?_)
    simp only [spec_LinesOf.j1]
    refine ev_neg (by simp) (ev_some ?_)
    rw [List.drop_of_length_le (by omega)]; simp [linesOf]
  | succ d ih =>
    intro i acc h0 h ha
    refine ev_succ ?_
    simp only [spec_LinesOf.l0]
    refine ev_pos (by omega) (ev_succ ?_)
    simp only [spec_LinesOf.j1]
    rw [w64 (x := i + 1) (by omega) (by omega)]
    refine ev_pos (by simp; omega) (ev_pos h0 (ev_pos (by omega) ?_))
    have nxt := fun acc2 h2 => ih (i + 1) acc2 (by omega) (by omega) h2
    have hd := head_drop (l := l) (i := i + 1) (by omega)
    rw [drop_cons' h0 (by omega), linesOf]
    by_cases h13 : rd l i = 13
    · refine ev_pos h13 ?_
      have hlow : low13 (rd l i) = 10 := by unfold low13; rw [if_pos h13]
      by_cases he : i + 1 = l.length
      · rw [if_neg (fun g => by have := (hd.1 g.2).1; omega), hlow]
        refine ev_pos he (ev_pos (by omega) (ev_cast (nxt (acc ++ [10]) (by rw [List.length_append, List.length_singleton]; omega)) (by simp)))
      · refine ev_neg he (ev_pos (by omega) (ev_pos (by omega) ?_))
        by_cases h10 : rd l (i + 1) = 10
        · rw [if_pos ⟨h13, hd.2 ⟨by omega, h10⟩⟩]
          exact ev_pos h10 (nxt acc (by omega))
        · rw [if_neg (fun g => h10 (hd.1 g.2).2), hlow]
          exact ev_neg h10 (ev_pos (by omega) (ev_cast (nxt (acc ++ [10]) (by rw [List.length_append, List.length_singleton]; omega)) (by simp)))
    · rw [if_neg (fun g => h13 g.1)]
      have hlow : low13 (rd l i) = rd l i := by unfold low13; rw [if_neg h13]
      rw [hlow]
      exact ev_neg h13 (ev_pos (by omega) (ev_cast (nxt (acc ++ [rd l i]) (by rw [List.length_append, List.length_singleton]; omega)) (by simp)))
theorem spec_LinesOf_ev (l : List Int) (hm : l.length ≤ 4611686018427387903) : Ev (fun k => spec_LinesOf.f k l) (linesR l) := by
  unfold spec_LinesOf.f linesR
  by_cases hl : l.length ≤ 3000
  · rw [if_pos hl]
    have := spec_LinesOf_l l hl l.length 0 [] (by omega) (by omega) (by simp)
    simpa using this
  · rw [if_neg hl]
    refine ev_succ ?_
    simp only [spec_LinesOf.l0]
    refine ev_pos (by omega) (ev_succ ?_)
    simp only [spec_LinesOf.j1]
    exact ev_neg (by simp; omega) (Ev.now _)

end Go.Proofs.Ytplgbnalflpdhaa.Y

/- Plain lemmas over numbers and lists (toIntS). Conditions: as each states. -/
namespace Go.Proofs.Ytplgbnalflpdhaa.Y
open Go.RowKit Go.Proofs.Ytplgbnalflpdhaa.X Go.Proofs.YtplgbnalflpdhaaW.PrintWords Go.Proofs.YtplgbnalflpdhaaW.PrintLast Go.Proofs.YtplgbnalflpdhaaW.PrintMore Go.Proofs.Ytplgbnalflpdhaa.Y
set_option linter.unusedVariables false
set_option linter.unusedSimpArgs false
theorem toIntS_l (l : List Int) (hl : l.length ≤ 4611686018427387903) : ∀ (d : Nat) (i : Int) (m : List Int), m.length = l.length → 0 ≤ i → i + d = l.length → m.take i.toNat = l.take i.toNat → Ev (fun k => laws_toIntS.l0 k l m i) l := by
  intro d
  induction d with
  | zero =>
    intro i m hm h0 h ht
    refine Ev.step (f := fun _ => some m) (fun k => ?_) (ev_some ?_)
    · simp only [laws_toIntS.l0]; rw [if_neg (by omega)]
    · rwa [List.take_of_length_le (by omega), List.take_of_length_le (by omega)] at ht
  | succ d ih =>
    intro i m hm h0 h ht
    refine Ev.step (f := fun k => laws_toIntS.l0 k l (m.set i.toNat (rd l i)) (i + 1)) (fun k => ?_) (ih (i + 1) _ (by simpa using hm) (by omega) (by omega) ?_)
    · simp only [laws_toIntS.l0]; rw [if_pos (by omega), if_pos h0, if_pos (by omega), w64 (by omega) (by omega)]
    · have e : (i + 1).toNat = i.toNat + 1 := by omega
      have hr : rd l i = l[i.toNat]'(by omega) := by unfold rd; rw [List.getD_eq_getElem?_getD, List.getElem?_eq_getElem (by omega)]; rfl
      rw [e, List.take_succ_eq_append_getElem (by simp; omega), List.take_succ_eq_append_getElem (by omega), List.take_set_of_le (Nat.le_refl _), ht]
      simp [hr]
theorem toIntS_ev (l : List Int) (hl : l.length ≤ 17592186043904) : Ev (fun k => laws_toIntS.f k l) l := by
  unfold laws_toIntS.f
  refine ev_pos (by omega) (ev_pos (by omega) ?_)
  exact toIntS_l l (by omega) l.length 0 _ (by simp) (by omega) (by omega) (by simp)

end Go.Proofs.Ytplgbnalflpdhaa.Y

/- Plain lemmas over numbers and lists (eqIntS). Conditions: as each states. -/
namespace Go.Proofs.Ytplgbnalflpdhaa.Y
open Go.RowKit Go.Proofs.Ytplgbnalflpdhaa.X Go.Proofs.YtplgbnalflpdhaaW.PrintWords Go.Proofs.YtplgbnalflpdhaaW.PrintLast Go.Proofs.YtplgbnalflpdhaaW.PrintMore Go.Proofs.Ytplgbnalflpdhaa.Y
set_option linter.unusedVariables false
set_option linter.unusedSimpArgs false
theorem eqIntS_l (l : List Int) (hl : l.length ≤ 9223372036854775807) : ∀ (d : Nat) (i : Int), 0 ≤ i → i + d = l.length → Ev (fun k => laws_eqIntS.l0 k l l i) true := by
  intro d
  induction d with
  | zero =>
    intro i h0 h
    refine Ev.step (f := fun _ => some true) (fun k => ?_) (Ev.now _)
    simp only [laws_eqIntS.l0]; rw [if_neg (by omega)]
  | succ d ih =>
    intro i h0 h
    refine Ev.step (f := fun k => laws_eqIntS.l0 k l l (i + 1)) (fun k => ?_) (ih (i + 1) (by omega) (by omega))
    simp only [laws_eqIntS.l0]; rw [if_pos (by omega), if_pos h0, if_pos (by omega), if_pos True.intro, w64 (by omega) (by omega)]
theorem eqIntS_same (l : List Int) (hl : l.length ≤ 9223372036854775807) : Ev (fun k => laws_eqIntS.f k l l) true := by
  refine Ev.congr (f := fun k => laws_eqIntS.l0 k l l 0) (fun k => ?_) (eqIntS_l l hl l.length 0 (by omega) (by omega))
  simp only [laws_eqIntS.f]; rw [if_pos True.intro]

end Go.Proofs.Ytplgbnalflpdhaa.Y

/- Plain lemmas over numbers and lists (markI). Conditions: as each states. -/
namespace Go.Proofs.Ytplgbnalflpdhaa.Y
open Go.RowKit Go.Proofs.Ytplgbnalflpdhaa.X Go.Proofs.YtplgbnalflpdhaaW.PrintWords Go.Proofs.YtplgbnalflpdhaaW.PrintLast Go.Proofs.YtplgbnalflpdhaaW.PrintMore Go.Proofs.Ytplgbnalflpdhaa.Y
set_option linter.unusedVariables false
set_option linter.unusedSimpArgs false
def markI (c : Int) : Nat → List Int
  | 0 => []
  | n + 1 => c :: markI (c + 1) n
theorem markI_len (n : Nat) : ∀ c, (markI c n).length = n := by
  induction n with
  | zero => intro c; rfl
  | succ n ih => intro c; simp [markI, ih]

end Go.Proofs.Ytplgbnalflpdhaa.Y

/- Plain lemmas over numbers and lists (markIntS). Conditions: as each states. -/
namespace Go.Proofs.Ytplgbnalflpdhaa.Y
open Go.RowKit Go.Proofs.Ytplgbnalflpdhaa.X Go.Proofs.YtplgbnalflpdhaaW.PrintWords Go.Proofs.YtplgbnalflpdhaaW.PrintLast Go.Proofs.YtplgbnalflpdhaaW.PrintMore Go.Proofs.Ytplgbnalflpdhaa.Y
set_option linter.unusedVariables false
set_option linter.unusedSimpArgs false
theorem markIntS_l (n : Nat) (hn : n ≤ 4611686018427387903) : ∀ (d : Nat) (l : List Int) (c i : Int), l.length = n → 0 ≤ i → i + d = n → 0 ≤ c → c + d ≤ 4611686018427387903 →
    Ev (fun k => laws_markIntS.l0 k l c i) (c + d, l.take i.toNat ++ markI c d) := by
  intro d
  induction d with
  | zero =>
    intro l c i hl h0 h hc hd
    refine Ev.step (f := fun _ => some (c, l)) (fun k => ?_) (ev_some ?_)
    · simp only [laws_markIntS.l0]; rw [if_neg (by omega)]
    · simp [markI, List.take_of_length_le (show l.length ≤ i.toNat by omega)]
  | succ d ih =>
    intro l c i hl h0 h hc hd
    have e : (l.set i.toNat c).take (i + 1).toNat = l.take i.toNat ++ [c] := by
      have : (i + 1).toNat = i.toNat + 1 := by omega
      rw [this, List.take_succ_eq_append_getElem (by simp; omega), List.take_set_of_le (Nat.le_refl _)]
      simp
    refine Ev.step (f := fun k => laws_markIntS.l0 k (l.set i.toNat c) (c + 1) (i + 1)) (fun k => ?_) ?_
    · simp only [laws_markIntS.l0]; rw [if_pos (by omega), if_pos h0, w64 (by omega) (by omega), w64 (by omega) (by omega)]
    · have := ih (l.set i.toNat c) (c + 1) (i + 1) (by simp [hl]) (by omega) (by omega) (by omega) (by omega)
      rw [e] at this
      simp only [List.append_assoc, List.singleton_append] at this
      have h2 : c + 1 + (d : Int) = c + ((d + 1 : Nat) : Int) := by omega
      rw [h2] at this
      exact this
theorem markIntS_ev (l : List Int) (c : Int) (hc : 0 ≤ c) (h : c + l.length ≤ 4611686018427387903) : Ev (fun k => laws_markIntS.f k l c) (c + l.length, markI c l.length) := by
  have := markIntS_l l.length (by omega) l.length l c 0 rfl (by omega) (by omega) hc h
  simpa [laws_markIntS.f] using this

end Go.Proofs.Ytplgbnalflpdhaa.Y

/- Plain lemmas over numbers and lists (heldIntS). Conditions: as each states. -/
namespace Go.Proofs.Ytplgbnalflpdhaa.Y
open Go.RowKit Go.Proofs.Ytplgbnalflpdhaa.X Go.Proofs.YtplgbnalflpdhaaW.PrintWords Go.Proofs.YtplgbnalflpdhaaW.PrintLast Go.Proofs.YtplgbnalflpdhaaW.PrintMore Go.Proofs.Ytplgbnalflpdhaa.Y
set_option linter.unusedVariables false
set_option linter.unusedSimpArgs false
theorem heldIntS_l (n : Nat) (hn : n ≤ 4611686018427387903) (l : List Int) (hl : l.length = n) : ∀ (d : Nat) (c i : Int), 0 ≤ i → i + d = n → 0 ≤ c → c + d ≤ 4611686018427387903 → l.drop i.toNat = markI c d →
    Ev (fun k => laws_heldIntS.l0 k l c i) (c + d) := by
  intro d
  induction d with
  | zero =>
    intro c i h0 h hc hd hm
    refine Ev.step (f := fun _ => some c) (fun k => ?_) (ev_some (by omega))
    simp only [laws_heldIntS.l0]; rw [if_neg (by omega)]
  | succ d ih =>
    intro c i h0 h hc hd hm
    have hr : rd l i = c := rd_drop (by rw [hm]; rfl)
    have h2 : c + 1 + (d : Int) = c + ((d + 1 : Nat) : Int) := by omega
    refine Ev.step (f := fun k => laws_heldIntS.l0 k l (c + 1) (i + 1)) (fun k => ?_) ?_
    · simp only [laws_heldIntS.l0]; rw [if_pos (by omega), if_pos h0, if_pos hr, w64 (by omega) (by omega), w64 (by omega) (by omega)]
    · rw [← h2]
      refine ih (c + 1) (i + 1) (by omega) (by omega) (by omega) (by omega) ?_
      have e : (i + 1).toNat = i.toNat + 1 := by omega
      rw [e, ← List.drop_drop, hm]; rfl
theorem heldIntS_ev (n : Nat) (c : Int) (hc : 0 ≤ c) (h : c + n ≤ 4611686018427387903) : Ev (fun k => laws_heldIntS.f k (markI c n) c) (c + n) := by
  have := heldIntS_l n (by omega) (markI c n) (markI_len n c) n c 0 (by omega) (by omega) hc h (by simp)
  simpa [laws_heldIntS.f] using this

end Go.Proofs.Ytplgbnalflpdhaa.Y

