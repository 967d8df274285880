/- Plain lemmas over numbers and lists for FnExactPointsPut. Conditions: as each states. -/
import Derived.Test.YtdolmkhpbnpjgaaKFnExactPointsPutx1
/- Plain lemmas over numbers and lists (base). Conditions: as each states. -/
namespace Go.Proofs.Ytdolmkhpbnpjgaa.Y
open Go.RowKit Go.Proofs.Ytdolmkhpbnpjgaa.X Go.Proofs.YtdolmkhpbnpjgaaW.PrintWords Go.Proofs.YtdolmkhpbnpjgaaW.PrintLast Go.Proofs.YtdolmkhpbnpjgaaW.PrintMore Go.Proofs.Ytdolmkhpbnpjgaa.Y
set_option linter.unusedVariables false
set_option linter.unusedSimpArgs false
theorem wf64 {x : Int} (h : (Lit.int .i64 x).wf = true) : -9223372036854775808 ≤ x ∧ x ≤ 9223372036854775807 := by
  simp only [Lit.wf, Bool.and_eq_true, decide_eq_true_eq] at h
  exact h
theorem wf8 {x : Int} (h : (Lit.int .u8 x).wf = true) : 0 ≤ x ∧ x ≤ 255 := by
  simp only [Lit.wf, Bool.and_eq_true, decide_eq_true_eq] at h
  exact h
theorem w64 {x : Int} (h : -9223372036854775808 ≤ x) (h' : x ≤ 9223372036854775807) : wrap64 x = x := by unfold wrap64; omega
theorem w64_range (x : Int) : -9223372036854775808 ≤ wrap64 x ∧ wrap64 x ≤ 9223372036854775807 := by unfold wrap64; omega
theorem ev_pos {α : Type} {c : Prop} [Decidable c] {g f : Nat → Option α} {r : α} (hc : c) (h : Ev g r) : Ev (fun k => if c then g k else f k) r := by
  simpa only [if_pos hc] using h
theorem ev_neg {α : Type} {c : Prop} [Decidable c] {g f : Nat → Option α} {r : α} (hc : ¬ c) (h : Ev f r) : Ev (fun k => if c then g k else f k) r := by
  simpa only [if_neg hc] using h
theorem ev_const {α : Type} {g : Option α} {r : α} (h : g = some r) : Ev (fun _ => g) r := ⟨0, fun _ _ => h⟩
theorem ev_some {α : Type} {r r' : α} (h : r = r') : Ev (fun _ => some r) r' := ⟨0, fun _ _ => by rw [h]⟩
theorem ev_bindS {α β : Type} {g : Option α} {f : Nat → α → Option β} {a : α} {r : β} (h : g = some a) (k : Ev (fun n => f n a) r) : Ev (fun n => g.bind (f n)) r := by
  subst h; exact k
theorem rd_app_left {xs ys : List Int} {i : Int} (h0 : 0 ≤ i) (h : i < xs.length) : rd (xs ++ ys) i = rd xs i := by
  unfold rd; rw [List.getD_eq_getElem?_getD, List.getD_eq_getElem?_getD, List.getElem?_append_left (by omega)]
theorem rd_drop {xs : List Int} {i : Int} {v : Int} {ys : List Int} (h : xs.drop i.toNat = v :: ys) : rd xs i = v := by
  unfold rd
  have : xs[i.toNat]? = some v := by
    have := congrArg (fun l => l[0]?) h
    simpa using this
  rw [List.getD_eq_getElem?_getD, this]; rfl
/-- One round: what follows is read off by 'simp only [F.j0]'. -/
theorem ev_succ {α : Type} {g : Nat → Option α} {r : α} (h : Ev (fun k => g (k + 1)) r) : Ev g r := Ev.step (fun _ => rfl) h

end Go.Proofs.Ytdolmkhpbnpjgaa.Y

/- Plain lemmas over numbers and lists (eqByteS). Conditions: as each states. -/
namespace Go.Proofs.Ytdolmkhpbnpjgaa.Y
open Go.RowKit Go.Proofs.Ytdolmkhpbnpjgaa.X Go.Proofs.YtdolmkhpbnpjgaaW.PrintWords Go.Proofs.YtdolmkhpbnpjgaaW.PrintLast Go.Proofs.YtdolmkhpbnpjgaaW.PrintMore Go.Proofs.Ytdolmkhpbnpjgaa.Y
set_option linter.unusedVariables false
set_option linter.unusedSimpArgs false
theorem eqByteS_l (l : List Int) (hl : l.length ≤ 9223372036854775807) : ∀ (d : Nat) (i : Int), 0 ≤ i → i + d = l.length → Ev (fun k => laws_eqByteS.l0 k l l i) true := by
  intro d
  induction d with
  | zero =>
    intro i h0 h
    refine Ev.step (f := fun _ => some true) (fun k => ?_) (Ev.now _)
    simp only [laws_eqByteS.l0]; rw [if_neg (by omega)]
  | succ d ih =>
    intro i h0 h
    refine Ev.step (f := fun k => laws_eqByteS.l0 k l l (i + 1)) (fun k => ?_) (ih (i + 1) (by omega) (by omega))
    simp only [laws_eqByteS.l0]; rw [if_pos (by omega), if_pos h0, if_pos (by omega), if_pos True.intro, w64 (by omega) (by omega)]
theorem eqByteS_same (l : List Int) (hl : l.length ≤ 9223372036854775807) : Ev (fun k => laws_eqByteS.f k l l) true := by
  refine Ev.congr (f := fun k => laws_eqByteS.l0 k l l 0) (fun k => ?_) (eqByteS_l l hl l.length 0 (by omega) (by omega))
  simp only [laws_eqByteS.f]; rw [if_pos True.intro]

end Go.Proofs.Ytdolmkhpbnpjgaa.Y

/- Plain lemmas over numbers and lists (markB). Conditions: as each states. -/
namespace Go.Proofs.Ytdolmkhpbnpjgaa.Y
open Go.RowKit Go.Proofs.Ytdolmkhpbnpjgaa.X Go.Proofs.YtdolmkhpbnpjgaaW.PrintWords Go.Proofs.YtdolmkhpbnpjgaaW.PrintLast Go.Proofs.YtdolmkhpbnpjgaaW.PrintMore Go.Proofs.Ytdolmkhpbnpjgaa.Y
set_option linter.unusedVariables false
set_option linter.unusedSimpArgs false
def markB (c : Int) : Nat → List Int
  | 0 => []
  | n + 1 => (c % 256) :: markB (c + 1) n
theorem markB_len (n : Nat) : ∀ c, (markB c n).length = n := by
  induction n with
  | zero => intro c; rfl
  | succ n ih => intro c; simp [markB, ih]

end Go.Proofs.Ytdolmkhpbnpjgaa.Y

/- Plain lemmas over numbers and lists (markByteS). Conditions: as each states. -/
namespace Go.Proofs.Ytdolmkhpbnpjgaa.Y
open Go.RowKit Go.Proofs.Ytdolmkhpbnpjgaa.X Go.Proofs.YtdolmkhpbnpjgaaW.PrintWords Go.Proofs.YtdolmkhpbnpjgaaW.PrintLast Go.Proofs.YtdolmkhpbnpjgaaW.PrintMore Go.Proofs.Ytdolmkhpbnpjgaa.Y
set_option linter.unusedVariables false
set_option linter.unusedSimpArgs false
theorem markByteS_l (n : Nat) (hn : n ≤ 4611686018427387903) : ∀ (d : Nat) (l : List Int) (c i : Int), l.length = n → 0 ≤ i → i + d = n → 0 ≤ c → c + d ≤ 4611686018427387903 →
    Ev (fun k => laws_markByteS.l0 k l c i) (c + d, l.take i.toNat ++ markB c d) := by
  intro d
  induction d with
  | zero =>
    intro l c i hl h0 h hc hd
    refine Ev.step (f := fun _ => some (c, l)) (fun k => ?_) (ev_some ?_)
    · simp only [laws_markByteS.l0]; rw [if_neg (by omega)]
    · simp [markB, List.take_of_length_le (show l.length ≤ i.toNat by omega)]
  | succ d ih =>
    intro l c i hl h0 h hc hd
    have e : (l.set i.toNat (c % 256)).take (i + 1).toNat = l.take i.toNat ++ [c % 256] := by
      have : (i + 1).toNat = i.toNat + 1 := by omega
      rw [this, List.take_succ_eq_append_getElem (by simp; omega), List.take_set_of_le (Nat.le_refl _)]
      simp
    refine Ev.step (f := fun k => laws_markByteS.l0 k (l.set i.toNat (c % 256)) (c + 1) (i + 1)) (fun k => ?_) ?_
    · simp only [laws_markByteS.l0]; rw [if_pos (by omega), if_pos h0, w64 (by omega) (by omega), w64 (by omega) (by omega)]
    · have := ih (l.set i.toNat (c % 256)) (c + 1) (i + 1) (by simp [hl]) (by omega) (by omega) (by omega) (by omega)
      rw [e] at this
      simp only [List.append_assoc, List.singleton_append] at this
      have h2 : c + 1 + (d : Int) = c + ((d + 1 : Nat) : Int) := by omega
      rw [h2] at this
      exact this
theorem markByteS_ev (l : List Int) (c : Int) (hc : 0 ≤ c) (h : c + l.length ≤ 4611686018427387903) : Ev (fun k => laws_markByteS.f k l c) (c + l.length, markB c l.length) := by
  have := markByteS_l l.length (by omega) l.length l c 0 rfl (by omega) (by omega) hc h
  simpa [laws_markByteS.f] using this

end Go.Proofs.Ytdolmkhpbnpjgaa.Y

/- Plain lemmas over numbers and lists (heldByteS). Conditions: as each states. -/
namespace Go.Proofs.Ytdolmkhpbnpjgaa.Y
open Go.RowKit Go.Proofs.Ytdolmkhpbnpjgaa.X Go.Proofs.YtdolmkhpbnpjgaaW.PrintWords Go.Proofs.YtdolmkhpbnpjgaaW.PrintLast Go.Proofs.YtdolmkhpbnpjgaaW.PrintMore Go.Proofs.Ytdolmkhpbnpjgaa.Y
set_option linter.unusedVariables false
set_option linter.unusedSimpArgs false
theorem heldByteS_l (n : Nat) (hn : n ≤ 4611686018427387903) (l : List Int) (hl : l.length = n) : ∀ (d : Nat) (c i : Int), 0 ≤ i → i + d = n → 0 ≤ c → c + d ≤ 4611686018427387903 → l.drop i.toNat = markB c d →
    Ev (fun k => laws_heldByteS.l0 k l c i) (c + d) := by
  intro d
  induction d with
  | zero =>
    intro c i h0 h hc hd hm
    refine Ev.step (f := fun _ => some c) (fun k => ?_) (ev_some (by omega))
    simp only [laws_heldByteS.l0]; rw [if_neg (by omega)]
  | succ d ih =>
    intro c i h0 h hc hd hm
    have hr : rd l i = c % 256 := rd_drop (by rw [hm]; rfl)
    have h2 : c + 1 + (d : Int) = c + ((d + 1 : Nat) : Int) := by omega
    refine Ev.step (f := fun k => laws_heldByteS.l0 k l (c + 1) (i + 1)) (fun k => ?_) ?_
    · simp only [laws_heldByteS.l0]; rw [if_pos (by omega), if_pos h0, if_pos hr, w64 (by omega) (by omega), w64 (by omega) (by omega)]
    · rw [← h2]
      refine ih (c + 1) (i + 1) (by omega) (by omega) (by omega) (by omega) ?_
      have e : (i + 1).toNat = i.toNat + 1 := by omega
      rw [e, ← List.drop_drop, hm]; rfl
theorem heldByteS_ev (n : Nat) (c : Int) (hc : 0 ≤ c) (h : c + n ≤ 4611686018427387903) : Ev (fun k => laws_heldByteS.f k (markB c n) c) (c + n) := by
  have := heldByteS_l n (by omega) (markB c n) (markB_len n c) n c 0 (by omega) (by omega) hc h (by simp)
  simpa [laws_heldByteS.f] using this

end Go.Proofs.Ytdolmkhpbnpjgaa.Y

/- Plain lemmas over numbers and lists (toIntS). Conditions: as each states. -/
namespace Go.Proofs.Ytdolmkhpbnpjgaa.Y
open Go.RowKit Go.Proofs.Ytdolmkhpbnpjgaa.X Go.Proofs.YtdolmkhpbnpjgaaW.PrintWords Go.Proofs.YtdolmkhpbnpjgaaW.PrintLast Go.Proofs.YtdolmkhpbnpjgaaW.PrintMore Go.Proofs.Ytdolmkhpbnpjgaa.Y
set_option linter.unusedVariables false
set_option linter.unusedSimpArgs false
theorem toIntS_l (l : List Int) (hl : l.length ≤ 4611686018427387903) : ∀ (d : Nat) (i : Int) (m : List Int), m.length = l.length → 0 ≤ i → i + d = l.length → m.take i.toNat = l.take i.toNat → Ev (fun k => laws_toIntS.l0 k l m i) l := by
  intro d
  induction d with
  | zero =>
    intro i m hm h0 h ht
    refine Ev.step (f := fun _ => some m) (fun k => ?_) (ev_some ?_)
    · simp only [laws_toIntS.l0]; rw [if_neg (by omega)]
    · rwa [List.take_of_length_le (by omega), List.take_of_length_le (by omega)] at ht
  | succ d ih =>
    intro i m hm h0 h ht
    refine Ev.step (f := fun k => laws_toIntS.l0 k l (m.set i.toNat (rd l i)) (i + 1)) (fun k => ?_) (ih (i + 1) _ (by simpa using hm) (by omega) (by omega) ?_)
    · simp only [laws_toIntS.l0]; rw [if_pos (by omega), if_pos h0, if_pos (by omega), w64 (by omega) (by omega)]
    · have e : (i + 1).toNat = i.toNat + 1 := by omega
      have hr : rd l i = l[i.toNat]'(by omega) := by unfold rd; rw [List.getD_eq_getElem?_getD, List.getElem?_eq_getElem (by omega)]; rfl
      rw [e, List.take_succ_eq_append_getElem (by simp; omega), List.take_succ_eq_append_getElem (by omega), List.take_set_of_le (Nat.le_refl _), ht]
      simp [hr]
theorem toIntS_ev (l : List Int) (hl : l.length ≤ 17592186043904) : Ev (fun k => laws_toIntS.f k l) l := by
  unfold laws_toIntS.f
  refine ev_pos (by omega) (ev_pos (by omega) ?_)
  exact toIntS_l l (by omega) l.length 0 _ (by simp) (by omega) (by omega) (by simp)

end Go.Proofs.Ytdolmkhpbnpjgaa.Y

/- Plain lemmas over numbers and lists (eqIntS). Conditions: as each states. -/
namespace Go.Proofs.Ytdolmkhpbnpjgaa.Y
open Go.RowKit Go.Proofs.Ytdolmkhpbnpjgaa.X Go.Proofs.YtdolmkhpbnpjgaaW.PrintWords Go.Proofs.YtdolmkhpbnpjgaaW.PrintLast Go.Proofs.YtdolmkhpbnpjgaaW.PrintMore Go.Proofs.Ytdolmkhpbnpjgaa.Y
set_option linter.unusedVariables false
set_option linter.unusedSimpArgs false
theorem eqIntS_l (l : List Int) (hl : l.length ≤ 9223372036854775807) : ∀ (d : Nat) (i : Int), 0 ≤ i → i + d = l.length → Ev (fun k => laws_eqIntS.l0 k l l i) true := by
  intro d
  induction d with
  | zero =>
    intro i h0 h
    refine Ev.step (f := fun _ => some true) (fun k => ?_) (Ev.now _)
    simp only [laws_eqIntS.l0]; rw [if_neg (by omega)]
  | succ d ih =>
    intro i h0 h
    refine Ev.step (f := fun k => laws_eqIntS.l0 k l l (i + 1)) (fun k => ?_) (ih (i + 1) (by omega) (by omega))
    simp only [laws_eqIntS.l0]; rw [if_pos (by omega), if_pos h0, if_pos (by omega), if_pos True.intro, w64 (by omega) (by omega)]
theorem eqIntS_same (l : List Int) (hl : l.length ≤ 9223372036854775807) : Ev (fun k => laws_eqIntS.f k l l) true := by
  refine Ev.congr (f := fun k => laws_eqIntS.l0 k l l 0) (fun k => ?_) (eqIntS_l l hl l.length 0 (by omega) (by omega))
  simp only [laws_eqIntS.f]; rw [if_pos True.intro]

end Go.Proofs.Ytdolmkhpbnpjgaa.Y

/- Plain lemmas over numbers and lists (markI). Conditions: as each states. -/
namespace Go.Proofs.Ytdolmkhpbnpjgaa.Y
open Go.RowKit Go.Proofs.Ytdolmkhpbnpjgaa.X Go.Proofs.YtdolmkhpbnpjgaaW.PrintWords Go.Proofs.YtdolmkhpbnpjgaaW.PrintLast Go.Proofs.YtdolmkhpbnpjgaaW.PrintMore Go.Proofs.Ytdolmkhpbnpjgaa.Y
set_option linter.unusedVariables false
set_option linter.unusedSimpArgs false
def markI (c : Int) : Nat → List Int
  | 0 => []
  | n + 1 => c :: markI (c + 1) n
theorem markI_len (n : Nat) : ∀ c, (markI c n).length = n := by
  induction n with
  | zero => intro c; rfl
  | succ n ih => intro c; simp [markI, ih]

end Go.Proofs.Ytdolmkhpbnpjgaa.Y

/- Plain lemmas over numbers and lists (markIntS). Conditions: as each states. -/
namespace Go.Proofs.Ytdolmkhpbnpjgaa.Y
open Go.RowKit Go.Proofs.Ytdolmkhpbnpjgaa.X Go.Proofs.YtdolmkhpbnpjgaaW.PrintWords Go.Proofs.YtdolmkhpbnpjgaaW.PrintLast Go.Proofs.YtdolmkhpbnpjgaaW.PrintMore Go.Proofs.Ytdolmkhpbnpjgaa.Y
set_option linter.unusedVariables false
set_option linter.unusedSimpArgs false
theorem markIntS_l (n : Nat) (hn : n ≤ 4611686018427387903) : ∀ (d : Nat) (l : List Int) (c i : Int), l.length = n → 0 ≤ i → i + d = n → 0 ≤ c → c + d ≤ 4611686018427387903 →
    Ev (fun k => laws_markIntS.l0 k l c i) (c + d, l.take i.toNat ++ markI c d) := by
  intro d
  induction d with
  | zero =>
    intro l c i hl h0 h hc hd
    refine Ev.step (f := fun _ => some (c, l)) (fun k => ?_) (ev_some ?_)
    · simp only [laws_markIntS.l0]; rw [if_neg (by omega)]
    · simp [markI, List.take_of_length_le (show l.length ≤ i.toNat by omega)]
  | succ d ih =>
    intro l c i hl h0 h hc hd
    have e : (l.set i.toNat c).take (i + 1).toNat = l.take i.toNat ++ [c] := by
      have : (i + 1).toNat = i.toNat + 1 := by omega
      rw [this, List.take_succ_eq_append_getElem (by simp; omega), List.take_set_of_le (Nat.le_refl _)]
      simp
    refine Ev.step (f := fun k => laws_markIntS.l0 k (l.set i.toNat c) (c + 1) (i + 1)) (fun k => ?_) ?_
    · simp only [laws_markIntS.l0]; rw [if_pos (by omega), if_pos h0, w64 (by omega) (by omega), w64 (by omega) (by omega)]
    · have := ih (l.set i.toNat c) (c + 1) (i + 1) (by simp [hl]) (by omega) (by omega) (by omega) (by omega)
      rw [e] at this
      simp only [List.append_assoc, List.singleton_append] at this
      have h2 : c + 1 + (d : Int) = c + ((d + 1 : Nat) : Int) := by omega
      rw [h2] at this
      exact this
theorem markIntS_ev (l : List Int) (c : Int) (hc : 0 ≤ c) (h : c + l.length ≤ 4611686018427387903) : Ev (fun k => laws_markIntS.f k l c) (c + l.length, markI c l.length) := by
  have := markIntS_l l.length (by omega) l.length l c 0 rfl (by omega) (by omega) hc h
  simpa [laws_markIntS.f] using this

end Go.Proofs.Ytdolmkhpbnpjgaa.Y

/- Plain lemmas over numbers and lists (pokD). Conditions: as each states. -/
namespace Go.Proofs.Ytdolmkhpbnpjgaa.Y
open Go.RowKit Go.Proofs.Ytdolmkhpbnpjgaa.X Go.Proofs.YtdolmkhpbnpjgaaW.PrintWords Go.Proofs.YtdolmkhpbnpjgaaW.PrintLast Go.Proofs.YtdolmkhpbnpjgaaW.PrintMore Go.Proofs.Ytdolmkhpbnpjgaa.Y
set_option linter.unusedVariables false
set_option linter.unusedSimpArgs false
def pointOk (x : Int) : Bool := decide (0 ≤ x ∧ x ≤ 1114111) && !decide (55296 ≤ x ∧ x ≤ 57343)

end Go.Proofs.Ytdolmkhpbnpjgaa.Y

/- Plain lemmas over numbers and lists (num). Conditions: as each states. -/
namespace Go.Proofs.Ytdolmkhpbnpjgaa.Y
open Go.RowKit Go.Proofs.Ytdolmkhpbnpjgaa.X Go.Proofs.YtdolmkhpbnpjgaaW.PrintWords Go.Proofs.YtdolmkhpbnpjgaaW.PrintLast Go.Proofs.YtdolmkhpbnpjgaaW.PrintMore Go.Proofs.Ytdolmkhpbnpjgaa.Y
set_option linter.unusedVariables false
set_option linter.unusedSimpArgs false
def numForm : Nat → Int → List Int
  | 0, x => [x]
  | n + 1, x => if x > 127 then (x % 128 + 128) :: numForm n (x / 128) else [x]
theorem numForm_len (n : Nat) : ∀ x, (numForm n x).length ≤ n + 1 := by
  induction n with
  | zero => intro x; simp [numForm]
  | succ n ih => intro x; unfold numForm; split <;> simp [ih]
theorem wraps_i64 (n : Int) (h₀ : 0 ≤ n) (h₁ : n < 2 ^ 63) : IntKind.i64.wrap n = n := by rw [IntKind.wrap_i64]; omega
theorem and127 {x : Int} (h0 : 0 ≤ x) (h1 : x ≤ 9223372036854775807) : Go.bits .and .i64 x 127 = x % 128 := bits_mask .i64 63 (by decide) wraps_i64 7 (by decide) x h0 (by omega)
theorem or128 {y : Int} (h0 : 0 ≤ y) (h1 : y < 128) : Go.bits .or .i64 128 y = 128 + y := bits_join .i64 63 (by decide) wraps_i64 7 128 y (by decide) (by decide) (by decide) h0 h1 (by omega)
theorem pow128 (x : Int) (n : Nat) (h : x < 128 ^ (n + 1 + 1)) : x / 128 < 128 ^ (n + 1) := by
  rw [Int.pow_succ] at h
  generalize (128 : Int) ^ (n + 1) = p at *
  omega

end Go.Proofs.Ytdolmkhpbnpjgaa.Y

/- Plain lemmas over numbers and lists (utf8D). Conditions: as each states. -/
namespace Go.Proofs.Ytdolmkhpbnpjgaa.Y
open Go.RowKit Go.Proofs.Ytdolmkhpbnpjgaa.X Go.Proofs.YtdolmkhpbnpjgaaW.PrintWords Go.Proofs.YtdolmkhpbnpjgaaW.PrintLast Go.Proofs.YtdolmkhpbnpjgaaW.PrintMore Go.Proofs.Ytdolmkhpbnpjgaa.Y
set_option linter.unusedVariables false
set_option linter.unusedSimpArgs false
def utf8 (x : Int) : List Int :=
  if x < 128 then [x] else if x < 2048 then [192 + x / 64, 128 + x % 64] else if x < 65536 then [224 + x / 4096, 128 + x / 64 % 64, 128 + x % 64] else [240 + x / 262144, 128 + x / 4096 % 64, 128 + x / 64 % 64, 128 + x % 64]
def point (x : Int) : Int := if pointOk x = true then x else 65533
def pointPut (x : Int) : List Int := utf8 (point x)
theorem pointOk_iff (x : Int) : pointOk x = true ↔ (0 ≤ x ∧ x ≤ 1114111) ∧ ¬ (55296 ≤ x ∧ x ≤ 57343) := by unfold pointOk; simp; omega
theorem pointOk_point (x : Int) : pointOk (point x) = true := by
  unfold point; split
  · assumption
  · decide
theorem point_of {x : Int} (h : pointOk x = true) : point x = x := by unfold point; rw [if_pos h]
theorem point_range (x : Int) : 0 ≤ point x ∧ point x ≤ 1114111 := ((pointOk_iff _).1 (pointOk_point x)).1
theorem utf8_len (x : Int) : 1 ≤ (utf8 x).length ∧ (utf8 x).length ≤ 4 := by
  unfold utf8
  split
  · simp
  · split
    · simp
    · split <;> simp
theorem pointPut_len (x : Int) : 1 ≤ (pointPut x).length ∧ (pointPut x).length ≤ 4 := utf8_len _
theorem utf8_bytes {x : Int} (h0 : 0 ≤ x) (h1 : x ≤ 1114111) : ∀ b ∈ utf8 x, 0 ≤ b ∧ b ≤ 255 := by
  intro b hb
  unfold utf8 at hb
  split at hb
  · simp at hb; omega
  · split at hb
    · simp at hb; omega
    · split at hb
      · simp at hb; omega
      · simp at hb; omega
theorem and63 {x : Int} (h0 : 0 ≤ x) (h1 : x ≤ 9223372036854775807) : Go.bits .and .i64 x 63 = x % 64 := bits_mask .i64 63 (by decide) wraps_i64 6 (by decide) x h0 (by omega)
theorem or192 {y : Int} (h0 : 0 ≤ y) (h1 : y < 32) : Go.bits .or .i64 192 y = 192 + y := bits_join .i64 63 (by decide) wraps_i64 5 192 y (by decide) (by decide) (by decide) h0 h1 (by omega)
theorem or224 {y : Int} (h0 : 0 ≤ y) (h1 : y < 16) : Go.bits .or .i64 224 y = 224 + y := bits_join .i64 63 (by decide) wraps_i64 4 224 y (by decide) (by decide) (by decide) h0 h1 (by omega)
theorem or240 {y : Int} (h0 : 0 ≤ y) (h1 : y < 8) : Go.bits .or .i64 240 y = 240 + y := bits_join .i64 63 (by decide) wraps_i64 3 240 y (by decide) (by decide) (by decide) h0 h1 (by omega)
theorem m256 {y : Int} (h0 : 0 ≤ y) (h1 : y < 256) : y % 256 = y := Int.emod_eq_of_lt h0 h1

end Go.Proofs.Ytdolmkhpbnpjgaa.Y

/- Plain lemmas over numbers and lists (pointsPut). Conditions: as each states. -/
namespace Go.Proofs.Ytdolmkhpbnpjgaa.Y
open Go.RowKit Go.Proofs.Ytdolmkhpbnpjgaa.X Go.Proofs.YtdolmkhpbnpjgaaW.PrintWords Go.Proofs.YtdolmkhpbnpjgaaW.PrintLast Go.Proofs.YtdolmkhpbnpjgaaW.PrintMore Go.Proofs.Ytdolmkhpbnpjgaa.Y
set_option linter.unusedVariables false
set_option linter.unusedSimpArgs false
def putAll (l : List Int) : List Int := l.flatMap pointPut
theorem putAll_len (l : List Int) : l.length ≤ (putAll l).length ∧ (putAll l).length ≤ 4 * l.length := by
  induction l with
  | nil => simp [putAll]
  | cons x xs ih =>
    have := pointPut_len x
    simp only [putAll, List.flatMap_cons, List.length_append, List.length_cons] at *
    omega
theorem rd_get {l : List Int} {i : Int} (h0 : 0 ≤ i) (h : i < l.length) : rd l i = l[i.toNat]'(by omega) := by
  unfold rd; rw [List.getD_eq_getElem?_getD, List.getElem?_eq_getElem (by omega)]; rfl
theorem drop_cons {l : List Int} {i : Int} (h0 : 0 ≤ i) (h : i < l.length) : l.drop i.toNat = rd l i :: l.drop (i + 1).toNat := by
  have e : (i + 1).toNat = i.toNat + 1 := by omega
  rw [e, rd_get h0 h]; exact List.drop_eq_getElem_cons (by omega)

end Go.Proofs.Ytdolmkhpbnpjgaa.Y

/- Plain lemmas over numbers and lists (inrI). Conditions: as each states. -/
namespace Go.Proofs.Ytdolmkhpbnpjgaa.Y
open Go.RowKit Go.Proofs.Ytdolmkhpbnpjgaa.X Go.Proofs.YtdolmkhpbnpjgaaW.PrintWords Go.Proofs.YtdolmkhpbnpjgaaW.PrintLast Go.Proofs.YtdolmkhpbnpjgaaW.PrintMore Go.Proofs.Ytdolmkhpbnpjgaa.Y
set_option linter.unusedVariables false
set_option linter.unusedSimpArgs false
theorem impl_inRange_eq (x a b : Int) : impl_inRange.f x a b = some (decide (a ≤ x ∧ x ≤ b)) := by
  unfold impl_inRange.f
  by_cases h : x ≥ a
  · rw [if_pos h]; congr 1; simp; omega
  · rw [if_neg h]; congr 1; simp; omega

end Go.Proofs.Ytdolmkhpbnpjgaa.Y

/- Plain lemmas over numbers and lists (pokI). Conditions: as each states. -/
namespace Go.Proofs.Ytdolmkhpbnpjgaa.Y
open Go.RowKit Go.Proofs.Ytdolmkhpbnpjgaa.X Go.Proofs.YtdolmkhpbnpjgaaW.PrintWords Go.Proofs.YtdolmkhpbnpjgaaW.PrintLast Go.Proofs.YtdolmkhpbnpjgaaW.PrintMore Go.Proofs.Ytdolmkhpbnpjgaa.Y
set_option linter.unusedVariables false
set_option linter.unusedSimpArgs false
theorem impl_PointOk_eq (x : Int) : impl_PointOk.f x = some (pointOk x) := by
  unfold impl_PointOk.f pointOk
  simp only [impl_inRange_eq, Option.bind_some]
  by_cases h : 0 ≤ x ∧ x ≤ 1114111 <;> simp [h]

end Go.Proofs.Ytdolmkhpbnpjgaa.Y

/- Plain lemmas over numbers and lists (putI). Conditions: as each states. -/
namespace Go.Proofs.Ytdolmkhpbnpjgaa.Y
open Go.RowKit Go.Proofs.Ytdolmkhpbnpjgaa.X Go.Proofs.YtdolmkhpbnpjgaaW.PrintWords Go.Proofs.YtdolmkhpbnpjgaaW.PrintLast Go.Proofs.YtdolmkhpbnpjgaaW.PrintMore Go.Proofs.Ytdolmkhpbnpjgaa.Y
set_option linter.unusedVariables false
set_option linter.unusedSimpArgs false
theorem impl_putPoint_good (k : Nat) (l : List Int) (x : Int) (hl : l.length + 4 < 140737488355328) (hp : pointOk x = true) : impl_putPoint.f (k + 1) l x = some (l ++ utf8 x) := by
  obtain ⟨h0, h1⟩ := ((pointOk_iff x).1 hp).1
  simp only [impl_putPoint.f, impl_PointOk_eq, Option.bind_some, hp, if_true]
  unfold utf8
  by_cases a : x < 128
  · simp only [if_pos a]; rw [if_pos (by omega), Int.emod_eq_of_lt h0 (by omega)]
  · by_cases b : x < 2048
    · simp only [if_neg a, if_pos b, List.length_cons, List.length_nil]
      rw [if_pos (by omega), and63 h0 (by omega), or192 (by omega) (by omega), or128 (by omega) (by omega), m256 (y := 192 + x / 64) (by omega) (by omega), m256 (y := 128 + x % 64) (by omega) (by omega)]
    · by_cases c : x < 65536
      · simp only [if_neg a, if_neg b, if_pos c, List.length_cons, List.length_nil]
        rw [if_pos (by omega), and63 (x := x / 64) (by omega) (by omega), and63 h0 (by omega), or224 (by omega) (by omega), or128 (by omega) (by omega), or128 (by omega) (by omega), m256 (y := 224 + x / 4096) (by omega) (by omega), m256 (y := 128 + x / 64 % 64) (by omega) (by omega), m256 (y := 128 + x % 64) (by omega) (by omega)]
      · simp only [if_neg a, if_neg b, if_neg c, List.length_cons, List.length_nil]
        rw [if_pos (by omega), and63 (x := x / 64) (by omega) (by omega), and63 (x := x / 4096) (by omega) (by omega), and63 h0 (by omega), or240 (by omega) (by omega), or128 (by omega) (by omega), or128 (by omega) (by omega), or128 (by omega) (by omega), m256 (y := 240 + x / 262144) (by omega) (by omega), m256 (y := 128 + x / 4096 % 64) (by omega) (by omega), m256 (y := 128 + x / 64 % 64) (by omega) (by omega), m256 (y := 128 + x % 64) (by omega) (by omega)]
theorem impl_putPoint_eq (k : Nat) (l : List Int) (x : Int) (hl : l.length + 4 < 140737488355328) : impl_putPoint.f (k + 2) l x = some (l ++ pointPut x) := by
  unfold pointPut point
  by_cases hp : pointOk x = true
  · rw [if_pos hp]; exact impl_putPoint_good (k + 1) l x hl hp
  · rw [if_neg hp]
    have : pointOk x = false := by simpa using hp
    simp only [impl_putPoint.f, impl_PointOk_eq, Option.bind_some, this, Bool.false_eq_true, if_false]
    have h := impl_putPoint_good k l 65533 hl (by decide)
    simp only [impl_putPoint.f, impl_PointOk_eq, Option.bind_some] at h
    rw [h]; rfl
theorem impl_putPoint_ev (l : List Int) (x : Int) (hl : l.length + 4 < 140737488355328) : Ev (fun k => impl_putPoint.f k l x) (l ++ pointPut x) :=
  ⟨2, fun k hk => by
    obtain ⟨m, rfl⟩ : ∃ m, k = m + 2 := ⟨k - 2, by omega⟩
    exact impl_putPoint_eq m l x hl⟩
theorem impl_PointPut_ev (x : Int) : Ev (fun k => impl_PointPut.f k x) (pointPut x) := by
  unfold impl_PointPut.f
  exact Ev.bind (impl_putPoint_ev [] x (by simp)) (Ev.now _)

end Go.Proofs.Ytdolmkhpbnpjgaa.Y

/- Plain lemmas over numbers and lists (pointsPutI). Conditions: as each states. -/
namespace Go.Proofs.Ytdolmkhpbnpjgaa.Y
open Go.RowKit Go.Proofs.Ytdolmkhpbnpjgaa.X Go.Proofs.YtdolmkhpbnpjgaaW.PrintWords Go.Proofs.YtdolmkhpbnpjgaaW.PrintLast Go.Proofs.YtdolmkhpbnpjgaaW.PrintMore Go.Proofs.Ytdolmkhpbnpjgaa.Y
set_option linter.unusedVariables false
set_option linter.unusedSimpArgs false
theorem impl_PointsPut_l (l : List Int) (hl : l.length ≤ 3000) : ∀ (d : Nat) (i : Int) (acc : List Int), 0 ≤ i → i + d = l.length → acc.length + 4 * d ≤ 100000 →
    Ev (fun k => impl_PointsPut.l0 k acc l (l.length : Int) i) (acc ++ putAll (l.drop i.toNat)) := by
  intro d
  induction d with
  | zero =>
    intro i acc h0 h ha
    refine Ev.step (f := fun _ => some acc) (fun k => ?_) (ev_some ?_)
    · simp only [impl_PointsPut.l0]; rw [if_neg (by omega)]
    · rw [List.drop_of_length_le (by omega)]; simp [putAll]
  | succ d ih =>
    intro i acc h0 h ha
    have hp := pointPut_len (rd l i)
    refine Ev.step (f := fun k => (impl_putPoint.f k acc (rd l i)).bind fun t => impl_PointsPut.l0 k t l (l.length : Int) (i + 1)) (fun k => ?_) (Ev.bind (impl_putPoint_ev acc (rd l i) (by omega)) ?_)
    · simp only [impl_PointsPut.l0]; rw [if_pos (by omega), if_pos h0, if_pos (by omega), w64 (by omega) (by omega)]
    · have := ih (i + 1) (acc ++ pointPut (rd l i)) (by omega) (by omega) (by simp; omega)
      rw [drop_cons h0 (by omega)]
      simpa [putAll] using this
def pointsPut (l : List Int) : List Int := if (l.length : Int) > 3000 then [] else putAll l
theorem impl_PointsPut_ev (l : List Int) : Ev (fun k => impl_PointsPut.f k l) (pointsPut l) := by
  unfold impl_PointsPut.f pointsPut
  by_cases h : (l.length : Int) > 3000
  · simp only [if_pos h]; exact Ev.now _
  · simp only [if_neg h]
    simpa using impl_PointsPut_l l (by omega) l.length 0 [] (by omega) (by omega) (by simp; omega)

end Go.Proofs.Ytdolmkhpbnpjgaa.Y

/- Plain lemmas over numbers and lists (inrS). Conditions: as each states. -/
namespace Go.Proofs.Ytdolmkhpbnpjgaa.Y
open Go.RowKit Go.Proofs.Ytdolmkhpbnpjgaa.X Go.Proofs.YtdolmkhpbnpjgaaW.PrintWords Go.Proofs.YtdolmkhpbnpjgaaW.PrintLast Go.Proofs.YtdolmkhpbnpjgaaW.PrintMore Go.Proofs.Ytdolmkhpbnpjgaa.Y
set_option linter.unusedVariables false
set_option linter.unusedSimpArgs false
theorem spec_l1In_eq (x a b : Int) : spec_l1In.f x a b = some (decide (a ≤ x ∧ x ≤ b)) := by
  unfold spec_l1In.f
  by_cases h : x ≥ a
  · rw [if_pos h]; congr 1; simp; omega
  · rw [if_neg h]; congr 1; simp; omega

end Go.Proofs.Ytdolmkhpbnpjgaa.Y

/- Plain lemmas over numbers and lists (pokS). Conditions: as each states. -/
namespace Go.Proofs.Ytdolmkhpbnpjgaa.Y
open Go.RowKit Go.Proofs.Ytdolmkhpbnpjgaa.X Go.Proofs.YtdolmkhpbnpjgaaW.PrintWords Go.Proofs.YtdolmkhpbnpjgaaW.PrintLast Go.Proofs.YtdolmkhpbnpjgaaW.PrintMore Go.Proofs.Ytdolmkhpbnpjgaa.Y
set_option linter.unusedVariables false
set_option linter.unusedSimpArgs false
theorem spec_PointOk_eq (x : Int) : spec_PointOk.f x = some (pointOk x) := by
  unfold spec_PointOk.f pointOk
  simp only [spec_l1In_eq, Option.bind_some]
  by_cases h : 0 ≤ x ∧ x ≤ 1114111 <;> simp [h]

end Go.Proofs.Ytdolmkhpbnpjgaa.Y

/- Plain lemmas over numbers and lists (putS). Conditions: as each states. -/
namespace Go.Proofs.Ytdolmkhpbnpjgaa.Y
open Go.RowKit Go.Proofs.Ytdolmkhpbnpjgaa.X Go.Proofs.YtdolmkhpbnpjgaaW.PrintWords Go.Proofs.YtdolmkhpbnpjgaaW.PrintLast Go.Proofs.YtdolmkhpbnpjgaaW.PrintMore Go.Proofs.Ytdolmkhpbnpjgaa.Y
set_option linter.unusedVariables false
set_option linter.unusedSimpArgs false
theorem spec_l1Point_eq (x : Int) : spec_l1Point.f x = some (point x) := by
  unfold spec_l1Point.f point
  simp only [spec_PointOk_eq, Option.bind_some]
  split <;> rfl
theorem spec_PointPut_eq (x : Int) : spec_PointPut.f x = some (pointPut x) := by
  unfold spec_PointPut.f pointPut utf8
  simp only [spec_l1Point_eq, Option.bind_some]
  obtain ⟨h0, h1⟩ := point_range x
  generalize point x = p at *
  by_cases a : p < 128
  · simp only [if_pos a]; congr 2; omega
  · by_cases b : p < 2048
    · simp only [if_neg a, if_pos b, Int.tdiv_eq_ediv_of_nonneg h0, Int.tmod_eq_emod_of_nonneg h0]
      rw [w64 (x := p / 64) (by omega) (by omega), w64 (by omega) (by omega), w64 (by omega) (by omega), m256 (y := 192 + p / 64) (by omega) (by omega), m256 (y := 128 + p % 64) (by omega) (by omega)]
    · by_cases c : p < 65536
      · simp only [if_neg a, if_neg b, if_pos c, Int.tdiv_eq_ediv_of_nonneg h0, Int.tmod_eq_emod_of_nonneg h0]
        rw [w64 (x := p / 64) (by omega) (by omega), w64 (x := p / 4096) (by omega) (by omega), Int.tmod_eq_emod_of_nonneg (by omega), w64 (by omega) (by omega), w64 (by omega) (by omega), w64 (by omega) (by omega), m256 (y := 224 + p / 4096) (by omega) (by omega), m256 (y := 128 + p / 64 % 64) (by omega) (by omega), m256 (y := 128 + p % 64) (by omega) (by omega)]
      · simp only [if_neg a, if_neg b, if_neg c, Int.tdiv_eq_ediv_of_nonneg h0, Int.tmod_eq_emod_of_nonneg h0]
        rw [w64 (x := p / 64) (by omega) (by omega), w64 (x := p / 4096) (by omega) (by omega), w64 (x := p / 262144) (by omega) (by omega), Int.tmod_eq_emod_of_nonneg (by omega), Int.tmod_eq_emod_of_nonneg (by omega), w64 (by omega) (by omega), w64 (by omega) (by omega), w64 (by omega) (by omega), w64 (by omega) (by omega), m256 (y := 240 + p / 262144) (by omega) (by omega), m256 (y := 128 + p / 4096 % 64) (by omega) (by omega), m256 (y := 128 + p / 64 % 64) (by omega) (by omega), m256 (y := 128 + p % 64) (by omega) (by omega)]

end Go.Proofs.Ytdolmkhpbnpjgaa.Y

/- Plain lemmas over numbers and lists (pointsPutS). Conditions: as each states. -/
namespace Go.Proofs.Ytdolmkhpbnpjgaa.Y
open Go.RowKit Go.Proofs.Ytdolmkhpbnpjgaa.X Go.Proofs.YtdolmkhpbnpjgaaW.PrintWords Go.Proofs.YtdolmkhpbnpjgaaW.PrintLast Go.Proofs.YtdolmkhpbnpjgaaW.PrintMore Go.Proofs.Ytdolmkhpbnpjgaa.Y
set_option linter.unusedVariables false
set_option linter.unusedSimpArgs false
theorem spec_l1Put_l (l : List Int) (hl : l.length ≤ 1000000) : ∀ (d : Nat) (i : Int) (acc : List Int), 0 ≤ i → i + d = l.length → acc.length + 4 * d ≤ 100000000 →
    Ev (fun k => spec_l1Put.l0 k l acc i) (acc ++ putAll (l.drop i.toNat)) := by
  intro d
  induction d with
  | zero =>
    intro i acc h0 h ha
    refine Ev.step (f := fun _ => some acc) (fun k => ?_) (ev_some ?_)
    · simp only [spec_l1Put.l0]; rw [if_neg (by omega)]
    · rw [List.drop_of_length_le (by omega)]; simp [putAll]
  | succ d ih =>
    intro i acc h0 h ha
    have hp := pointPut_len (rd l i)
    refine Ev.step (f := fun k => spec_l1Put.l0 k l (acc ++ pointPut (rd l i)) (i + 1)) (fun k => ?_) ?_
    · simp only [spec_l1Put.l0, spec_PointPut_eq, Option.bind_some]; rw [if_pos (by omega), if_pos h0, if_pos (by omega), w64 (by omega) (by omega)]
    · have := ih (i + 1) (acc ++ pointPut (rd l i)) (by omega) (by omega) (by simp; omega)
      rw [drop_cons h0 (by omega)]
      simpa [putAll] using this
theorem spec_l1Put_ev (l : List Int) (hl : l.length ≤ 1000000) : Ev (fun k => spec_l1Put.f k l) (putAll l) := by
  unfold spec_l1Put.f
  simpa using spec_l1Put_l l hl l.length 0 [] (by omega) (by omega) (by simp; omega)
theorem spec_PointsPut_ev (l : List Int) : Ev (fun k => spec_PointsPut.f k l) (if (l.length : Int) > 3000 then [] else putAll l) := by
  unfold spec_PointsPut.f
  by_cases h : (l.length : Int) > 3000
  · simp only [if_pos h]; exact Ev.now _
  · simp only [if_neg h]
    exact Ev.bind (spec_l1Put_ev l (by omega)) (Ev.now _)

end Go.Proofs.Ytdolmkhpbnpjgaa.Y

