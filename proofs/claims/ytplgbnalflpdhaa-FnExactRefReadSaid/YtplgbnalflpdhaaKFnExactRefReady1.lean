/- Plain lemmas over numbers and lists for FnExactRefRead. Conditions: as each states. -/
import Derived.Lib.Bytes
import Derived.Lib.LazyBuf
import Derived.Lib.Strings
import Derived.Test.YtplgbnalflpdhaaKFnExactRefReadx3
/- Plain lemmas over numbers and lists (base). Conditions: as each states. -/
namespace Go.Proofs.Ytplgbnalflpdhaa.Y
open Go.RowKit Go.Proofs.Ytplgbnalflpdhaa.X Go.Proofs.YtplgbnalflpdhaaW.PrintWords Go.Proofs.YtplgbnalflpdhaaW.PrintLast Go.Proofs.YtplgbnalflpdhaaW.PrintMore Go.Proofs.Ytplgbnalflpdhaa.Y
set_option linter.unusedVariables false
set_option linter.unusedSimpArgs false
theorem wf64 {x : Int} (h : (Lit.int .i64 x).wf = true) : -9223372036854775808 ≤ x ∧ x ≤ 9223372036854775807 := by
  simp only [Lit.wf, Bool.and_eq_true, decide_eq_true_eq] at h
  exact h
theorem wf8 {x : Int} (h : (Lit.int .u8 x).wf = true) : 0 ≤ x ∧ x ≤ 255 := by
  simp only [Lit.wf, Bool.and_eq_true, decide_eq_true_eq] at h
  exact h
theorem w64 {x : Int} (h : -9223372036854775808 ≤ x) (h' : x ≤ 9223372036854775807) : wrap64 x = x := by unfold wrap64; omega
theorem w64_range (x : Int) : -9223372036854775808 ≤ wrap64 x ∧ wrap64 x ≤ 9223372036854775807 := by unfold wrap64; omega
theorem ev_pos {α : Type} {c : Prop} [Decidable c] {g f : Nat → Option α} {r : α} (hc : c) (h : Ev g r) : Ev (fun k => if c then g k else f k) r := by
  simpa only [if_pos hc] using h
theorem ev_neg {α : Type} {c : Prop} [Decidable c] {g f : Nat → Option α} {r : α} (hc : ¬ c) (h : Ev f r) : Ev (fun k => if c then g k else f k) r := by
  simpa only [if_neg hc] using h
theorem ev_const {α : Type} {g : Option α} {r : α} (h : g = some r) : Ev (fun _ => g) r := ⟨0, fun _ _ => h⟩
theorem ev_some {α : Type} {r r' : α} (h : r = r') : Ev (fun _ => some r) r' := ⟨0, fun _ _ => by rw [h]⟩
theorem ev_bindS {α β : Type} {g : Option α} {f : Nat → α → Option β} {a : α} {r : β} (h : g = some a) (k : Ev (fun n => f n a) r) : Ev (fun n => g.bind (f n)) r := by
  subst h; exact k
theorem rd_app_left {xs ys : List Int} {i : Int} (h0 : 0 ≤ i) (h : i < xs.length) : rd (xs ++ ys) i = rd xs i := by
  unfold rd; rw [List.getD_eq_getElem?_getD, List.getD_eq_getElem?_getD, List.getElem?_append_left (by omega)]
theorem rd_drop {xs : List Int} {i : Int} {v : Int} {ys : List Int} (h : xs.drop i.toNat = v :: ys) : rd xs i = v := by
  unfold rd
  have : xs[i.toNat]? = some v := by
    have := congrArg (fun l => l[0]?) h
    simpa using this
  rw [List.getD_eq_getElem?_getD, this]; rfl
/-- One round: what follows is read off by 'simp only [F.j0]'. -/
theorem ev_succ {α : Type} {g : Nat → Option α} {r : α} (h : Ev (fun k => g (k + 1)) r) : Ev g r := Ev.step (fun _ => rfl) h
theorem ev_cast {α : Type} {g : Nat → Option α} {r r' : α} (h : Ev g r) (e : r = r') : Ev g r' := by subst e; exact h

end Go.Proofs.Ytplgbnalflpdhaa.Y

/- Plain lemmas over numbers and lists (toIntS). Conditions: as each states. -/
namespace Go.Proofs.Ytplgbnalflpdhaa.Y
open Go.RowKit Go.Proofs.Ytplgbnalflpdhaa.X Go.Proofs.YtplgbnalflpdhaaW.PrintWords Go.Proofs.YtplgbnalflpdhaaW.PrintLast Go.Proofs.YtplgbnalflpdhaaW.PrintMore Go.Proofs.Ytplgbnalflpdhaa.Y
set_option linter.unusedVariables false
set_option linter.unusedSimpArgs false
theorem toIntS_l (l : List Int) (hl : l.length ≤ 4611686018427387903) : ∀ (d : Nat) (i : Int) (m : List Int), m.length = l.length → 0 ≤ i → i + d = l.length → m.take i.toNat = l.take i.toNat → Ev (fun k => laws_toIntS.l0 k l m i) l := by
  intro d
  induction d with
  | zero =>
    intro i m hm h0 h ht
    refine Ev.step (f := fun _ => some m) (fun k => ?_) (ev_some ?_)
    · simp only [laws_toIntS.l0]; rw [if_neg (by omega)]
    · rwa [List.take_of_length_le (by omega), List.take_of_length_le (by omega)] at ht
  | succ d ih =>
    intro i m hm h0 h ht
    refine Ev.step (f := fun k => laws_toIntS.l0 k l (m.set i.toNat (rd l i)) (i + 1)) (fun k => ?_) (ih (i + 1) _ (by simpa using hm) (by omega) (by omega) ?_)
    · simp only [laws_toIntS.l0]; rw [if_pos (by omega), if_pos h0, if_pos (by omega), w64 (by omega) (by omega)]
    · have e : (i + 1).toNat = i.toNat + 1 := by omega
      have hr : rd l i = l[i.toNat]'(by omega) := by unfold rd; rw [List.getD_eq_getElem?_getD, List.getElem?_eq_getElem (by omega)]; rfl
      rw [e, List.take_succ_eq_append_getElem (by simp; omega), List.take_succ_eq_append_getElem (by omega), List.take_set_of_le (Nat.le_refl _), ht]
      simp [hr]
theorem toIntS_ev (l : List Int) (hl : l.length ≤ 17592186043904) : Ev (fun k => laws_toIntS.f k l) l := by
  unfold laws_toIntS.f
  refine ev_pos (by omega) (ev_pos (by omega) ?_)
  exact toIntS_l l (by omega) l.length 0 _ (by simp) (by omega) (by omega) (by simp)

end Go.Proofs.Ytplgbnalflpdhaa.Y

/- Plain lemmas over numbers and lists (eqIntS). Conditions: as each states. -/
namespace Go.Proofs.Ytplgbnalflpdhaa.Y
open Go.RowKit Go.Proofs.Ytplgbnalflpdhaa.X Go.Proofs.YtplgbnalflpdhaaW.PrintWords Go.Proofs.YtplgbnalflpdhaaW.PrintLast Go.Proofs.YtplgbnalflpdhaaW.PrintMore Go.Proofs.Ytplgbnalflpdhaa.Y
set_option linter.unusedVariables false
set_option linter.unusedSimpArgs false
theorem eqIntS_l (l : List Int) (hl : l.length ≤ 9223372036854775807) : ∀ (d : Nat) (i : Int), 0 ≤ i → i + d = l.length → Ev (fun k => laws_eqIntS.l0 k l l i) true := by
  intro d
  induction d with
  | zero =>
    intro i h0 h
    refine Ev.step (f := fun _ => some true) (fun k => ?_) (Ev.now _)
    simp only [laws_eqIntS.l0]; rw [if_neg (by omega)]
  | succ d ih =>
    intro i h0 h
    refine Ev.step (f := fun k => laws_eqIntS.l0 k l l (i + 1)) (fun k => ?_) (ih (i + 1) (by omega) (by omega))
    simp only [laws_eqIntS.l0]; rw [if_pos (by omega), if_pos h0, if_pos (by omega), if_pos True.intro, w64 (by omega) (by omega)]
theorem eqIntS_same (l : List Int) (hl : l.length ≤ 9223372036854775807) : Ev (fun k => laws_eqIntS.f k l l) true := by
  refine Ev.congr (f := fun k => laws_eqIntS.l0 k l l 0) (fun k => ?_) (eqIntS_l l hl l.length 0 (by omega) (by omega))
  simp only [laws_eqIntS.f]; rw [if_pos True.intro]

end Go.Proofs.Ytplgbnalflpdhaa.Y

/- Plain lemmas over numbers and lists (markI). Conditions: as each states. -/
namespace Go.Proofs.Ytplgbnalflpdhaa.Y
open Go.RowKit Go.Proofs.Ytplgbnalflpdhaa.X Go.Proofs.YtplgbnalflpdhaaW.PrintWords Go.Proofs.YtplgbnalflpdhaaW.PrintLast Go.Proofs.YtplgbnalflpdhaaW.PrintMore Go.Proofs.Ytplgbnalflpdhaa.Y
set_option linter.unusedVariables false
set_option linter.unusedSimpArgs false
def markI (c : Int) : Nat → List Int
  | 0 => []
  | n + 1 => c :: markI (c + 1) n
theorem markI_len (n : Nat) : ∀ c, (markI c n).length = n := by
  induction n with
  | zero => intro c; rfl
  | succ n ih => intro c; simp [markI, ih]

end Go.Proofs.Ytplgbnalflpdhaa.Y

/- Plain lemmas over numbers and lists (markIntS). Conditions: as each states. -/
namespace Go.Proofs.Ytplgbnalflpdhaa.Y
open Go.RowKit Go.Proofs.Ytplgbnalflpdhaa.X Go.Proofs.YtplgbnalflpdhaaW.PrintWords Go.Proofs.YtplgbnalflpdhaaW.PrintLast Go.Proofs.YtplgbnalflpdhaaW.PrintMore Go.Proofs.Ytplgbnalflpdhaa.Y
set_option linter.unusedVariables false
set_option linter.unusedSimpArgs false
theorem markIntS_l (n : Nat) (hn : n ≤ 4611686018427387903) : ∀ (d : Nat) (l : List Int) (c i : Int), l.length = n → 0 ≤ i → i + d = n → 0 ≤ c → c + d ≤ 4611686018427387903 →
    Ev (fun k => laws_markIntS.l0 k l c i) (c + d, l.take i.toNat ++ markI c d) := by
  intro d
  induction d with
  | zero =>
    intro l c i hl h0 h hc hd
    refine Ev.step (f := fun _ => some (c, l)) (fun k => ?_) (ev_some ?_)
    · simp only [laws_markIntS.l0]; rw [if_neg (by omega)]
    · simp [markI, List.take_of_length_le (show l.length ≤ i.toNat by omega)]
  | succ d ih =>
    intro l c i hl h0 h hc hd
    have e : (l.set i.toNat c).take (i + 1).toNat = l.take i.toNat ++ [c] := by
      have : (i + 1).toNat = i.toNat + 1 := by omega
      rw [this, List.take_succ_eq_append_getElem (by simp; omega), List.take_set_of_le (Nat.le_refl _)]
      simp
    refine Ev.step (f := fun k => laws_markIntS.l0 k (l.set i.toNat c) (c + 1) (i + 1)) (fun k => ?_) ?_
    · simp only [laws_markIntS.l0]; rw [if_pos (by omega), if_pos h0, w64 (by omega) (by omega), w64 (by omega) (by omega)]
    · have := ih (l.set i.toNat c) (c + 1) (i + 1) (by simp [hl]) (by omega) (by omega) (by omega) (by omega)
      rw [e] at this
      simp only [List.append_assoc, List.singleton_append] at this
      have h2 : c + 1 + (d : Int) = c + ((d + 1 : Nat) : Int) := by omega
      rw [h2] at this
      exact this
theorem markIntS_ev (l : List Int) (c : Int) (hc : 0 ≤ c) (h : c + l.length ≤ 4611686018427387903) : Ev (fun k => laws_markIntS.f k l c) (c + l.length, markI c l.length) := by
  have := markIntS_l l.length (by omega) l.length l c 0 rfl (by omega) (by omega) hc h
  simpa [laws_markIntS.f] using this

end Go.Proofs.Ytplgbnalflpdhaa.Y

/- Plain lemmas over numbers and lists (heldIntS). Conditions: as each states. -/
namespace Go.Proofs.Ytplgbnalflpdhaa.Y
open Go.RowKit Go.Proofs.Ytplgbnalflpdhaa.X Go.Proofs.YtplgbnalflpdhaaW.PrintWords Go.Proofs.YtplgbnalflpdhaaW.PrintLast Go.Proofs.YtplgbnalflpdhaaW.PrintMore Go.Proofs.Ytplgbnalflpdhaa.Y
set_option linter.unusedVariables false
set_option linter.unusedSimpArgs false
theorem heldIntS_l (n : Nat) (hn : n ≤ 4611686018427387903) (l : List Int) (hl : l.length = n) : ∀ (d : Nat) (c i : Int), 0 ≤ i → i + d = n → 0 ≤ c → c + d ≤ 4611686018427387903 → l.drop i.toNat = markI c d →
    Ev (fun k => laws_heldIntS.l0 k l c i) (c + d) := by
  intro d
  induction d with
  | zero =>
    intro c i h0 h hc hd hm
    refine Ev.step (f := fun _ => some c) (fun k => ?_) (ev_some (by omega))
    simp only [laws_heldIntS.l0]; rw [if_neg (by omega)]
  | succ d ih =>
    intro c i h0 h hc hd hm
    have hr : rd l i = c := rd_drop (by rw [hm]; rfl)
    have h2 : c + 1 + (d : Int) = c + ((d + 1 : Nat) : Int) := by omega
    refine Ev.step (f := fun k => laws_heldIntS.l0 k l (c + 1) (i + 1)) (fun k => ?_) ?_
    · simp only [laws_heldIntS.l0]; rw [if_pos (by omega), if_pos h0, if_pos hr, w64 (by omega) (by omega), w64 (by omega) (by omega)]
    · rw [← h2]
      refine ih (c + 1) (i + 1) (by omega) (by omega) (by omega) (by omega) ?_
      have e : (i + 1).toNat = i.toNat + 1 := by omega
      rw [e, ← List.drop_drop, hm]; rfl
theorem heldIntS_ev (n : Nat) (c : Int) (hc : 0 ≤ c) (h : c + n ≤ 4611686018427387903) : Ev (fun k => laws_heldIntS.f k (markI c n) c) (c + n) := by
  have := heldIntS_l n (by omega) (markI c n) (markI_len n c) n c 0 (by omega) (by omega) hc h (by simp)
  simpa [laws_heldIntS.f] using this

end Go.Proofs.Ytplgbnalflpdhaa.Y

/- Plain lemmas over numbers and lists (inrS). Conditions: as each states. -/
namespace Go.Proofs.Ytplgbnalflpdhaa.Y
open Go.RowKit Go.Proofs.Ytplgbnalflpdhaa.X Go.Proofs.YtplgbnalflpdhaaW.PrintWords Go.Proofs.YtplgbnalflpdhaaW.PrintLast Go.Proofs.YtplgbnalflpdhaaW.PrintMore Go.Proofs.Ytplgbnalflpdhaa.Y
set_option linter.unusedVariables false
set_option linter.unusedSimpArgs false
theorem spec_l1In_eq (x a b : Int) : spec_l1In.f x a b = some (decide (a ≤ x ∧ x ≤ b)) := by
  unfold spec_l1In.f
  by_cases h : x ≥ a
  · rw [if_pos h]; congr 1; simp; omega
  · rw [if_neg h]; congr 1; simp; omega

end Go.Proofs.Ytplgbnalflpdhaa.Y

/- Plain lemmas over numbers and lists (pokD). Conditions: as each states. -/
namespace Go.Proofs.Ytplgbnalflpdhaa.Y
open Go.RowKit Go.Proofs.Ytplgbnalflpdhaa.X Go.Proofs.YtplgbnalflpdhaaW.PrintWords Go.Proofs.YtplgbnalflpdhaaW.PrintLast Go.Proofs.YtplgbnalflpdhaaW.PrintMore Go.Proofs.Ytplgbnalflpdhaa.Y
set_option linter.unusedVariables false
set_option linter.unusedSimpArgs false
def pointOk (x : Int) : Bool := decide (0 ≤ x ∧ x ≤ 1114111) && !decide (55296 ≤ x ∧ x ≤ 57343)

end Go.Proofs.Ytplgbnalflpdhaa.Y

/- Plain lemmas over numbers and lists (pokS). Conditions: as each states. -/
namespace Go.Proofs.Ytplgbnalflpdhaa.Y
open Go.RowKit Go.Proofs.Ytplgbnalflpdhaa.X Go.Proofs.YtplgbnalflpdhaaW.PrintWords Go.Proofs.YtplgbnalflpdhaaW.PrintLast Go.Proofs.YtplgbnalflpdhaaW.PrintMore Go.Proofs.Ytplgbnalflpdhaa.Y
set_option linter.unusedVariables false
set_option linter.unusedSimpArgs false
theorem spec_PointOk_eq (x : Int) : spec_PointOk.f x = some (pointOk x) := by
  unfold spec_PointOk.f pointOk
  simp only [spec_l1In_eq, Option.bind_some]
  by_cases h : 0 ≤ x ∧ x ≤ 1114111 <;> simp [h]

end Go.Proofs.Ytplgbnalflpdhaa.Y

/- Plain lemmas over numbers and lists (num). Conditions: as each states. -/
namespace Go.Proofs.Ytplgbnalflpdhaa.Y
open Go.RowKit Go.Proofs.Ytplgbnalflpdhaa.X Go.Proofs.YtplgbnalflpdhaaW.PrintWords Go.Proofs.YtplgbnalflpdhaaW.PrintLast Go.Proofs.YtplgbnalflpdhaaW.PrintMore Go.Proofs.Ytplgbnalflpdhaa.Y
set_option linter.unusedVariables false
set_option linter.unusedSimpArgs false
def numForm : Nat → Int → List Int
  | 0, x => [x]
  | n + 1, x => if x > 127 then (x % 128 + 128) :: numForm n (x / 128) else [x]
theorem numForm_len (n : Nat) : ∀ x, (numForm n x).length ≤ n + 1 := by
  induction n with
  | zero => intro x; simp [numForm]
  | succ n ih => intro x; unfold numForm; split <;> simp [ih]
theorem wraps_i64 (n : Int) (h₀ : 0 ≤ n) (h₁ : n < 2 ^ 63) : IntKind.i64.wrap n = n := by rw [IntKind.wrap_i64]; omega
theorem and127 {x : Int} (h0 : 0 ≤ x) (h1 : x ≤ 9223372036854775807) : Go.bits .and .i64 x 127 = x % 128 := bits_mask .i64 63 (by decide) wraps_i64 7 (by decide) x h0 (by omega)
theorem or128 {y : Int} (h0 : 0 ≤ y) (h1 : y < 128) : Go.bits .or .i64 128 y = 128 + y := bits_join .i64 63 (by decide) wraps_i64 7 128 y (by decide) (by decide) (by decide) h0 h1 (by omega)
theorem pow128 (x : Int) (n : Nat) (h : x < 128 ^ (n + 1 + 1)) : x / 128 < 128 ^ (n + 1) := by
  rw [Int.pow_succ] at h
  generalize (128 : Int) ^ (n + 1) = p at *
  omega

end Go.Proofs.Ytplgbnalflpdhaa.Y

/- Plain lemmas over numbers and lists (utf8D). Conditions: as each states. -/
namespace Go.Proofs.Ytplgbnalflpdhaa.Y
open Go.RowKit Go.Proofs.Ytplgbnalflpdhaa.X Go.Proofs.YtplgbnalflpdhaaW.PrintWords Go.Proofs.YtplgbnalflpdhaaW.PrintLast Go.Proofs.YtplgbnalflpdhaaW.PrintMore Go.Proofs.Ytplgbnalflpdhaa.Y
set_option linter.unusedVariables false
set_option linter.unusedSimpArgs false
def utf8 (x : Int) : List Int :=
  if x < 128 then [x] else if x < 2048 then [192 + x / 64, 128 + x % 64] else if x < 65536 then [224 + x / 4096, 128 + x / 64 % 64, 128 + x % 64] else [240 + x / 262144, 128 + x / 4096 % 64, 128 + x / 64 % 64, 128 + x % 64]
def point (x : Int) : Int := if pointOk x = true then x else 65533
def pointPut (x : Int) : List Int := utf8 (point x)
theorem pointOk_iff (x : Int) : pointOk x = true ↔ (0 ≤ x ∧ x ≤ 1114111) ∧ ¬ (55296 ≤ x ∧ x ≤ 57343) := by unfold pointOk; simp; omega
theorem pointOk_point (x : Int) : pointOk (point x) = true := by
  unfold point; split
  · assumption
  · decide
theorem point_of {x : Int} (h : pointOk x = true) : point x = x := by unfold point; rw [if_pos h]
theorem point_range (x : Int) : 0 ≤ point x ∧ point x ≤ 1114111 := ((pointOk_iff _).1 (pointOk_point x)).1
theorem utf8_len (x : Int) : 1 ≤ (utf8 x).length ∧ (utf8 x).length ≤ 4 := by
  unfold utf8
  split
  · simp
  · split
    · simp
    · split <;> simp
theorem pointPut_len (x : Int) : 1 ≤ (pointPut x).length ∧ (pointPut x).length ≤ 4 := utf8_len _
theorem utf8_bytes {x : Int} (h0 : 0 ≤ x) (h1 : x ≤ 1114111) : ∀ b ∈ utf8 x, 0 ≤ b ∧ b ≤ 255 := by
  intro b hb
  unfold utf8 at hb
  split at hb
  · simp at hb; omega
  · split at hb
    · simp at hb; omega
    · split at hb
      · simp at hb; omega
      · simp at hb; omega
theorem and63 {x : Int} (h0 : 0 ≤ x) (h1 : x ≤ 9223372036854775807) : Go.bits .and .i64 x 63 = x % 64 := bits_mask .i64 63 (by decide) wraps_i64 6 (by decide) x h0 (by omega)
theorem or192 {y : Int} (h0 : 0 ≤ y) (h1 : y < 32) : Go.bits .or .i64 192 y = 192 + y := bits_join .i64 63 (by decide) wraps_i64 5 192 y (by decide) (by decide) (by decide) h0 h1 (by omega)
theorem or224 {y : Int} (h0 : 0 ≤ y) (h1 : y < 16) : Go.bits .or .i64 224 y = 224 + y := bits_join .i64 63 (by decide) wraps_i64 4 224 y (by decide) (by decide) (by decide) h0 h1 (by omega)
theorem or240 {y : Int} (h0 : 0 ≤ y) (h1 : y < 8) : Go.bits .or .i64 240 y = 240 + y := bits_join .i64 63 (by decide) wraps_i64 3 240 y (by decide) (by decide) (by decide) h0 h1 (by omega)
theorem m256 {y : Int} (h0 : 0 ≤ y) (h1 : y < 256) : y % 256 = y := Int.emod_eq_of_lt h0 h1

end Go.Proofs.Ytplgbnalflpdhaa.Y

/- Plain lemmas over numbers and lists (refNum). Conditions: as each states. -/
namespace Go.Proofs.Ytplgbnalflpdhaa.Y
open Go.RowKit Go.Proofs.Ytplgbnalflpdhaa.X Go.Proofs.YtplgbnalflpdhaaW.PrintWords Go.Proofs.YtplgbnalflpdhaaW.PrintLast Go.Proofs.YtplgbnalflpdhaaW.PrintMore Go.Proofs.Ytplgbnalflpdhaa.Y
set_option linter.unusedVariables false
set_option linter.unusedSimpArgs false
def refNumber (x : Int) : Int := if x = 0 ∨ x < 0 ∨ 1114111 < x ∨ (55296 ≤ x ∧ x ≤ 57343) then 65533 else if 128 ≤ x ∧ x ≤ 159 then refTab.getD (x - 128).toNat 0 else x
theorem impl_RefNumber_eq (x : Int) : impl_RefNumber.f x = some (refNumber x) := rfl
theorem spec_RefNumber_ev (x : Int) : Ev (fun k => spec_RefNumber.f k x) (refNumber x) := by
  unfold spec_RefNumber.f
  simp only [spec_PointOk_eq, Option.bind_some]
  have hj : ∀ c : Bool, (c = true → refNumber x = 65533) → (c = false → refNumber x = if 128 ≤ x ∧ x ≤ 159 then refTab.getD (x - 128).toNat 0 else x) → Ev (fun k => spec_RefNumber.j0 k x c) (refNumber x) := by
    intro c h1 h2
    refine ev_succ ?_
    simp only [spec_RefNumber.j0, spec_l1In_eq, Option.bind_some]
    cases c with
    | true => exact ev_pos rfl (ev_some (h1 rfl).symm)
    | false =>
      refine ev_neg (by simp) ?_
      rw [h2 rfl]
      by_cases h : 128 ≤ x ∧ x ≤ 159
      · rw [if_pos h, w64 (x := x - 128) (by omega) (by omega)]
        refine ev_pos (by simpa using h) (ev_pos (by omega) (ev_pos (by simp only [List.length_cons, List.length_nil]; omega) (ev_some rfl)))
      · rw [if_neg h]
        exact ev_neg (by simpa using h) (ev_some rfl)
  by_cases h0 : x = 0
  · exact ev_pos h0 (hj true (fun _ => by unfold refNumber; rw [if_pos (.inl h0)]) (by simp))
  · refine ev_neg h0 (hj _ (fun h => ?_) (fun h => ?_))
    · unfold refNumber; rw [if_pos]
      have : ¬ pointOk x = true := by simpa using h
      rw [pointOk_iff] at this; omega
    · unfold refNumber; rw [if_neg]
      have : pointOk x = true := by simpa using h
      rw [pointOk_iff] at this; omega
theorem refTab_ok : ∀ n, n < 32 → pointOk (refTab.getD n 0) = true ∧ refTab.getD n 0 ≠ 0 := by decide
theorem refNumber_ok (x : Int) : pointOk (refNumber x) = true ∧ refNumber x ≠ 0 := by
  unfold refNumber
  split
  · decide
  · split
    · exact refTab_ok _ (by omega)
    · refine ⟨?_, by omega⟩
      rw [pointOk_iff]; omega
theorem refNumber_id {x : Int} (h : pointOk x = true) (h0 : x ≠ 0) (h1 : ¬ (128 ≤ x ∧ x ≤ 159)) : refNumber x = x := by
  rw [pointOk_iff] at h
  unfold refNumber; rw [if_neg (by omega), if_neg h1]

end Go.Proofs.Ytplgbnalflpdhaa.Y

/- Plain lemmas over numbers and lists (digitD). Conditions: as each states. -/
namespace Go.Proofs.Ytplgbnalflpdhaa.Y
open Go.RowKit Go.Proofs.Ytplgbnalflpdhaa.X Go.Proofs.YtplgbnalflpdhaaW.PrintWords Go.Proofs.YtplgbnalflpdhaaW.PrintLast Go.Proofs.YtplgbnalflpdhaaW.PrintMore Go.Proofs.Ytplgbnalflpdhaa.Y
set_option linter.unusedVariables false
set_option linter.unusedSimpArgs false
def digitOf (x b : Int) : Int :=
  if b ≠ 10 ∧ b ≠ 16 then -1 else if 48 ≤ x ∧ x ≤ 57 then x - 48 else if b = 16 ∧ 65 ≤ x ∧ x ≤ 70 then x - 55 else if b = 16 ∧ 97 ≤ x ∧ x ≤ 102 then x - 87 else -1

end Go.Proofs.Ytplgbnalflpdhaa.Y

/- Plain lemmas over numbers and lists (alphaD). Conditions: as each states. -/
namespace Go.Proofs.Ytplgbnalflpdhaa.Y
open Go.RowKit Go.Proofs.Ytplgbnalflpdhaa.X Go.Proofs.YtplgbnalflpdhaaW.PrintWords Go.Proofs.YtplgbnalflpdhaaW.PrintLast Go.Proofs.YtplgbnalflpdhaaW.PrintMore Go.Proofs.Ytplgbnalflpdhaa.Y
set_option linter.unusedVariables false
set_option linter.unusedSimpArgs false
def isAlpha (x : Int) : Bool := decide (65 ≤ x ∧ x ≤ 90) || decide (97 ≤ x ∧ x ≤ 122)

end Go.Proofs.Ytplgbnalflpdhaa.Y

/- Plain lemmas over numbers and lists (lowerD). Conditions: as each states. -/
namespace Go.Proofs.Ytplgbnalflpdhaa.Y
open Go.RowKit Go.Proofs.Ytplgbnalflpdhaa.X Go.Proofs.YtplgbnalflpdhaaW.PrintWords Go.Proofs.YtplgbnalflpdhaaW.PrintLast Go.Proofs.YtplgbnalflpdhaaW.PrintMore Go.Proofs.Ytplgbnalflpdhaa.Y
set_option linter.unusedVariables false
set_option linter.unusedSimpArgs false
def lowerOf (x : Int) : Int := if 65 ≤ x ∧ x ≤ 90 then x + 32 else x

end Go.Proofs.Ytplgbnalflpdhaa.Y

/- Plain lemmas over numbers and lists (strBytes). Conditions: as each states. -/
namespace Go.Proofs.Ytplgbnalflpdhaa.Y
open Go.RowKit Go.Proofs.Ytplgbnalflpdhaa.X Go.Proofs.YtplgbnalflpdhaaW.PrintWords Go.Proofs.YtplgbnalflpdhaaW.PrintLast Go.Proofs.YtplgbnalflpdhaaW.PrintMore Go.Proofs.Ytplgbnalflpdhaa.Y
set_option linter.unusedVariables false
set_option linter.unusedSimpArgs false
theorem data_eta (s : ByteArray) : (⟨s.data.toList.toArray⟩ : ByteArray) = s := by cases s; simp
theorem str_bytes (s : ByteArray) : strOfNums (bytesOf s) = s := by
  unfold bytesOf
  rw [Lib.Lz.strOfNums_map]
theorem bytes_str {b : List Int} (h : ∀ x ∈ b, 0 ≤ x ∧ x ≤ 255) : bytesOf (strOfNums b) = b := by
  have e : (strOfNums b).data.toList = Lib.bytesOf b := by rw [← Lib.toList_data, Lib.strOfNums_toList]
  unfold bytesOf
  rw [e]
  unfold Lib.bytesOf
  rw [List.map_map]
  conv => rhs; rw [← List.map_id b]
  refine List.map_congr_left (fun x hx => ?_)
  have := h x hx
  simp only [Function.comp, id]
  have : (UInt8.ofNat x.toNat).toNat = x.toNat := by simp; omega
  omega
theorem bytesOf_range (s : ByteArray) : ∀ x ∈ bytesOf s, 0 ≤ x ∧ x ≤ 255 := by
  intro x hx
  unfold bytesOf at hx
  obtain ⟨b, _, rfl⟩ := List.mem_map.1 hx
  have := b.toNat_lt
  omega
theorem bytesOf_wf (s : ByteArray) : ∀ x ∈ bytesOf s, (Lit.int .u8 x).wf = true := fun x hx => by
  simp only [Lit.wf, Bool.and_eq_true, decide_eq_true_eq]; exact bytesOf_range s x hx
theorem bytes_ext {s t : ByteArray} (h : bytesOf s = bytesOf t) : s = t := by rw [← str_bytes s, h, str_bytes]
theorem toList_ext {s t : ByteArray} (h : s.toList = t.toList) : s = t := by
  rw [Lib.toList_data, Lib.toList_data] at h
  rw [← data_eta s, h, data_eta]
theorem str_size (b : List Int) : (strOfNums b).size = b.length := by
  have e : (strOfNums b).data.toList = Lib.bytesOf b := by rw [← Lib.toList_data, Lib.strOfNums_toList]
  have := congrArg List.length e
  simpa [Lib.bytesOf] using this

end Go.Proofs.Ytplgbnalflpdhaa.Y

/- Plain lemmas over numbers and lists (refD). Conditions: as each states. -/
namespace Go.Proofs.Ytplgbnalflpdhaa.Y
open Go.RowKit Go.Proofs.Ytplgbnalflpdhaa.X Go.Proofs.YtplgbnalflpdhaaW.PrintWords Go.Proofs.YtplgbnalflpdhaaW.PrintLast Go.Proofs.YtplgbnalflpdhaaW.PrintMore Go.Proofs.Ytplgbnalflpdhaa.Y
set_option linter.unusedVariables false
set_option linter.unusedSimpArgs false
def numAt (l : List Int) (j : Int) : Int := if 0 ≤ j ∧ j < l.length then rd l j else -1
/-- The digits from a place on: the value, how many count, the place behind them. -/
def digs (l : List Int) (b : Int) : Nat → Int → Int → Int → Int × Int × Int
  | 0, at_, x, c => (x, c, at_)
  | n + 1, at_, x, c =>
    if digitOf (numAt l at_) b ≥ 0 then digs l b n (at_ + 1) (if (if 0 < c ∨ 0 < digitOf (numAt l at_) b then c + 1 else c) ≤ 7 then b * x + digitOf (numAt l at_) b else x) (if 0 < c ∨ 0 < digitOf (numAt l at_) b then c + 1 else c) else (x, c, at_)
def refBase (l : List Int) (a : Int) : Int := if numAt l a = 120 ∨ numAt l a = 88 then 16 else 10
def refFrom (l : List Int) (a : Int) : Int := if numAt l a = 120 ∨ numAt l a = 88 then a + 1 else a
/-- A reference by number, from behind its 35 on: the point and the place behind it; 0: none. -/
def refDig (l : List Int) (a : Int) : Int × Int :=
  if (digs l (refBase l a) l.length (refFrom l a) 0 0).2.2 = refFrom l a then (0, 0) else
    (refNumber (if (digs l (refBase l a) l.length (refFrom l a) 0 0).2.1 > 7 then 1114112 else (digs l (refBase l a) l.length (refFrom l a) 0 0).1),
     if numAt l (digs l (refBase l a) l.length (refFrom l a) 0 0).2.2 = 59 then (digs l (refBase l a) l.length (refFrom l a) 0 0).2.2 + 1 else (digs l (refBase l a) l.length (refFrom l a) 0 0).2.2)
def stands (l : List Int) (j : Int) : List Int → Bool
  | [] => true
  | b :: r => decide (numAt l j = b) && stands l (j + 1) r
def refList : List S39 := (impl_Refs.f).getD []
theorem refList_is : impl_Refs.f = some refList := rfl
theorem refList_len : refList.length = 24 := by decide
def pick (l : List Int) (j : Int) (cur : ByteArray × Int) (r : S39) : ByteArray × Int := if r.f0.size > cur.1.size ∧ stands l j (bytesOf r.f0) = true then (r.f0, r.f1) else cur
def best (l : List Int) (j : Int) : ByteArray × Int := refList.foldl (pick l j) (⟨#[]⟩, 0)
def goesOn (x : Int) : Bool := decide (x = 61) || isAlpha x || decide (digitOf x 10 ≥ 0)
/-- A reference by name, from behind its 38 on: the point and the place behind it; 0: none. -/
def refNam (l : List Int) (j : Int) (v : Bool) : Int × Int :=
  if (best l j).1.size = 0 then (0, 0) else
  if v = true ∧ goesOn (numAt l (j + (best l j).1.size)) = true ∧ bt (best l j).1 ((best l j).1.size - 1) ≠ 59 then (0, 0) else ((best l j).2, j + (best l j).1.size)
def refOf (l : List Int) (a : Int) (v : Bool) : Int × Int := if numAt l (a + 1) = 35 then refDig l (a + 2) else refNam l (a + 1) v
def refRead (l : List Int) (a : Int) (v : Bool) : List Int × Int :=
  if (l.length : Int) > 3000 ∨ numAt l a ≠ 38 then ([], a) else if (refOf l a v).2 > 0 then ([(refOf l a v).1], (refOf l a v).2) else ([38], a + 1)
theorem numAt_in {l : List Int} {j : Int} (h0 : 0 ≤ j) (h : j < l.length) : numAt l j = rd l j := by unfold numAt; rw [if_pos ⟨h0, h⟩]
theorem numAt_out {l : List Int} {j : Int} (h : j < 0 ∨ (l.length : Int) ≤ j) : numAt l j = -1 := by unfold numAt; rw [if_neg (by omega)]
theorem digitOf_none (b : Int) : digitOf (-1) b = -1 := by unfold digitOf; split <;> simp
theorem digitOf_le {x b : Int} (hb : b = 10 ∨ b = 16) (h : digitOf x b ≥ 0) : digitOf x b ≤ b - 1 ∧ digitOf x b ≤ 15 := by
  unfold digitOf at h ⊢
  rw [if_neg (by omega)] at h ⊢
  split at h
  · omega
  · split at h
    · omega
    · split at h
      · omega
      · omega
theorem digs_in {l : List Int} {b j : Int} (h : digitOf (numAt l j) b ≥ 0) : 0 ≤ j ∧ j < l.length := by
  by_cases c : 0 ≤ j ∧ j < l.length
  · exact c
  · rw [numAt_out (by omega), digitOf_none] at h; omega
theorem digs_stop {l : List Int} {b a : Int} (h : ¬ digitOf (numAt l a) b ≥ 0) (n : Nat) (x c : Int) : digs l b n a x c = (x, c, a) := by
  cases n with
  | zero => rfl
  | succ n => simp only [digs]; rw [if_neg h]
theorem digs_go {l : List Int} {b a : Int} (h : digitOf (numAt l a) b ≥ 0) (n : Nat) (x c : Int) : digs l b (n + 1) a x c = digs l b n (a + 1) (if (if 0 < c ∨ 0 < digitOf (numAt l a) b then c + 1 else c) ≤ 7 then b * x + digitOf (numAt l a) b else x) (if 0 < c ∨ 0 < digitOf (numAt l a) b then c + 1 else c) := by
  simp only [digs]; rw [if_pos h]
theorem pow16 (n : Nat) (h : n ≤ 7) : 1 ≤ (16 : Int) ^ n ∧ (16 : Int) ^ n ≤ 268435456 := by
  have : n = 0 ∨ n = 1 ∨ n = 2 ∨ n = 3 ∨ n = 4 ∨ n = 5 ∨ n = 6 ∨ n = 7 := by omega
  rcases this with rfl | rfl | rfl | rfl | rfl | rfl | rfl | rfl <;> decide
/-- What holds of the value: as many digits as count. -/
def digInv (x c : Int) : Prop := 0 ≤ c ∧ 0 ≤ x ∧ x < 16 ^ (min c.toNat 7)
theorem digInv_bound {x c : Int} (h : digInv x c) : 0 ≤ x ∧ x < 268435456 ∧ 0 ≤ c := by
  have := pow16 (min c.toNat 7) (by omega)
  unfold digInv at h; omega
theorem digInv_step {x c d b : Int} (h : digInv x c) (hb : b = 10 ∨ b = 16) (hd0 : 0 ≤ d) (hd : d ≤ b - 1) (c' : Int) (hc : c' = if 0 < c ∨ 0 < d then c + 1 else c) : digInv (if c' ≤ 7 then b * x + d else x) c' := by
  obtain ⟨h0, h1, h2⟩ := h
  by_cases hz : 0 < c ∨ 0 < d
  · rw [if_pos hz] at hc
    by_cases h7 : c' ≤ 7
    · rw [if_pos h7]
      have e : min c'.toNat 7 = min c.toNat 7 + 1 := by omega
      refine ⟨by omega, ?_, ?_⟩
      · rcases hb with rfl | rfl <;> omega
      · rw [e, Int.pow_succ]
        generalize (16 : Int) ^ (min c.toNat 7) = p at *
        rcases hb with rfl | rfl <;> omega
    · rw [if_neg h7]
      refine ⟨by omega, h1, ?_⟩
      have e : min c'.toNat 7 = min c.toNat 7 := by omega
      rw [e]; exact h2
  · rw [if_neg hz] at hc
    subst hc
    have hc0 : c' = 0 := by omega
    subst hc0
    have hx : x = 0 := by
      have : min (0 : Int).toNat 7 = 0 := rfl
      rw [this] at h2
      have : (16 : Int) ^ 0 = 1 := rfl
      omega
    rw [if_pos (by omega), hx]
    refine ⟨by omega, by omega, ?_⟩
    have : min (0 : Int).toNat 7 = 0 := rfl
    rw [this]
    have : (16 : Int) ^ 0 = 1 := rfl
    omega

end Go.Proofs.Ytplgbnalflpdhaa.Y

/- Plain lemmas over numbers and lists (inrI). Conditions: as each states. -/
namespace Go.Proofs.Ytplgbnalflpdhaa.Y
open Go.RowKit Go.Proofs.Ytplgbnalflpdhaa.X Go.Proofs.YtplgbnalflpdhaaW.PrintWords Go.Proofs.YtplgbnalflpdhaaW.PrintLast Go.Proofs.YtplgbnalflpdhaaW.PrintMore Go.Proofs.Ytplgbnalflpdhaa.Y
set_option linter.unusedVariables false
set_option linter.unusedSimpArgs false
theorem impl_inRange_eq (x a b : Int) : impl_inRange.f x a b = some (decide (a ≤ x ∧ x ≤ b)) := by
  unfold impl_inRange.f
  by_cases h : x ≥ a
  · rw [if_pos h]; congr 1; simp; omega
  · rw [if_neg h]; congr 1; simp; omega

end Go.Proofs.Ytplgbnalflpdhaa.Y

/- Plain lemmas over numbers and lists (lowerI). Conditions: as each states. -/
namespace Go.Proofs.Ytplgbnalflpdhaa.Y
open Go.RowKit Go.Proofs.Ytplgbnalflpdhaa.X Go.Proofs.YtplgbnalflpdhaaW.PrintWords Go.Proofs.YtplgbnalflpdhaaW.PrintLast Go.Proofs.YtplgbnalflpdhaaW.PrintMore Go.Proofs.Ytplgbnalflpdhaa.Y
set_option linter.unusedVariables false
set_option linter.unusedSimpArgs false
theorem impl_LowerOf_eq (x : Int) : impl_LowerOf.f x = some (lowerOf x) := by
  unfold impl_LowerOf.f lowerOf
  simp only [impl_inRange_eq, Option.bind_some]
  by_cases h : 65 ≤ x ∧ x ≤ 90
  · simp only [h, and_self, decide_true, if_true]; rw [w64 (x := x - 65) (by omega) (by omega), w64 (by omega) (by omega)]; congr 1; omega
  · simp [h]

end Go.Proofs.Ytplgbnalflpdhaa.Y

/- Plain lemmas over numbers and lists (digitI). Conditions: as each states. -/
namespace Go.Proofs.Ytplgbnalflpdhaa.Y
open Go.RowKit Go.Proofs.Ytplgbnalflpdhaa.X Go.Proofs.YtplgbnalflpdhaaW.PrintWords Go.Proofs.YtplgbnalflpdhaaW.PrintLast Go.Proofs.YtplgbnalflpdhaaW.PrintMore Go.Proofs.Ytplgbnalflpdhaa.Y
set_option linter.unusedVariables false
set_option linter.unusedSimpArgs false
theorem impl_DigitOf_eq (k : Nat) (x b : Int) : impl_DigitOf.f (k + 1) x b = some (digitOf x b) := by
  unfold impl_DigitOf.f digitOf
  simp only [impl_DigitOf.j0, impl_LowerOf_eq, impl_inRange_eq, Option.bind_some]
  by_cases h10 : b = 10
  · subst h10
    by_cases h1 : 48 ≤ x ∧ x ≤ 57
    · simp [h1]; exact w64 (by omega) (by omega)
    · simp [h1]
  · by_cases h16 : b = 16
    · subst h16
      by_cases h1 : 48 ≤ x ∧ x ≤ 57
      · simp [h1]; exact w64 (by omega) (by omega)
      · by_cases h2 : 65 ≤ x ∧ x ≤ 70
        · have e : lowerOf x = x + 32 := by unfold lowerOf; rw [if_pos (by omega)]
          have h4 : 97 ≤ x + 32 ∧ x + 32 ≤ 102 := by omega
          simp only [e]
          simp [h1, h2, h4]; rw [w64 (x := x + 32 - 97) (by omega) (by omega), w64 (by omega) (by omega)]; omega
        · by_cases h3 : 97 ≤ x ∧ x ≤ 102
          · have e : lowerOf x = x := by unfold lowerOf; rw [if_neg (by omega)]
            simp only [e]
            simp [h1, h2, h3]; rw [w64 (x := x - 97) (by omega) (by omega), w64 (by omega) (by omega)]; omega
          · have h4 : ¬ (97 ≤ lowerOf x ∧ lowerOf x ≤ 102) := by unfold lowerOf; split <;> omega
            simp [h1, h2, h3, h4]
    · simp [h10, h16]
theorem impl_DigitOf_ev (x b : Int) : Ev (fun k => impl_DigitOf.f k x b) (digitOf x b) :=
  ⟨1, fun k hk => by obtain ⟨m, rfl⟩ : ∃ m, k = m + 1 := ⟨k - 1, by omega⟩
                     exact impl_DigitOf_eq m x b⟩

end Go.Proofs.Ytplgbnalflpdhaa.Y

/- Plain lemmas over numbers and lists (refDigI). Conditions: as each states. -/
namespace Go.Proofs.Ytplgbnalflpdhaa.Y
open Go.RowKit Go.Proofs.Ytplgbnalflpdhaa.X Go.Proofs.YtplgbnalflpdhaaW.PrintWords Go.Proofs.YtplgbnalflpdhaaW.PrintLast Go.Proofs.YtplgbnalflpdhaaW.PrintMore Go.Proofs.Ytplgbnalflpdhaa.Y
set_option linter.unusedVariables false
set_option linter.unusedSimpArgs false
theorem impl_pointAt_eq (l : List Int) (j : Int) (hl : l.length ≤ 100000) : impl_pointAt.f l j = some (numAt l j) := by
  unfold impl_pointAt.f numAt
  simp only [impl_inRange_eq, Option.bind_some]
  rw [w64 (by omega) (by omega)]
  by_cases h : 0 ≤ j ∧ j < l.length
  · rw [decide_eq_true (by omega), if_pos rfl, if_pos h.1, if_pos h.2, if_pos h]
  · rw [decide_eq_false (by omega), if_neg (by simp), if_neg h]
theorem readDigits_l0 (l : List Int) (b : Int) (hb : b = 10 ∨ b = 16) (hl : l.length ≤ 100000) : ∀ (d : Nat) (n : Nat) (a x c : Int), 0 ≤ a → (l.length : Int) - a ≤ d → d ≤ n → digInv x c → c ≤ a →
    Ev (fun k => impl_readDigits.l0 k l a b (if c > 7 then 1114112 else x) c) ((if (digs l b n a x c).2.1 > 7 then 1114112 else (digs l b n a x c).1), (digs l b n a x c).2.2) := by
  intro d
  induction d with
  | zero =>
    intro n a x c ha hd hn hi hca
    refine ev_succ ?_
    simp only [impl_readDigits.l0, impl_pointAt_eq l a hl, Option.bind_some]
    refine Ev.bind (impl_DigitOf_ev _ _) ?_
    have hno : ¬ digitOf (numAt l a) b ≥ 0 := fun h => by have := digs_in h; omega
    rw [digs_stop hno]
    exact ev_neg hno (Ev.now _)
  | succ d ih =>
    intro n a x c ha hd hn hi hca
    obtain ⟨n, rfl⟩ : ∃ m, n = m + 1 := ⟨n - 1, by omega⟩
    refine ev_succ ?_
    simp only [impl_readDigits.l0, impl_pointAt_eq l a hl, Option.bind_some]
    refine Ev.bind (impl_DigitOf_ev _ _) ?_
    by_cases hy : digitOf (numAt l a) b ≥ 0
    · obtain ⟨h0, h1⟩ := digs_in hy
      have hdl := digitOf_le hb hy
      have hrd : rd l a = numAt l a := (numAt_in h0 h1).symm
      have hbd := digInv_bound hi
      rw [digs_go hy, hrd]
      refine ev_pos hy (ev_pos h0 (ev_pos h1 (Ev.bind (impl_DigitOf_ev _ _) ?_)))
      generalize digitOf (numAt l a) b = dg at *
      have hst := digInv_step hi hb hy (by omega) _ rfl
      have key : ∀ bb : Bool, (bb = true ↔ (0 < c ∨ 0 < dg)) → Ev (fun k => impl_readDigits.j1 k l a b (if c > 7 then 1114112 else x) c dg bb) ((if (digs l b n (a + 1) (if (if 0 < c ∨ 0 < dg then c + 1 else c) ≤ 7 then b * x + dg else x) (if 0 < c ∨ 0 < dg then c + 1 else c)).2.1 > 7 then 1114112 else (digs l b n (a + 1) (if (if 0 < c ∨ 0 < dg then c + 1 else c) ≤ 7 then b * x + dg else x) (if 0 < c ∨ 0 < dg then c + 1 else c)).1), (digs l b n (a + 1) (if (if 0 < c ∨ 0 < dg then c + 1 else c) ≤ 7 then b * x + dg else x) (if 0 < c ∨ 0 < dg then c + 1 else c)).2.2) := by
        intro bb hbb
        refine ev_succ ?_
        simp only [impl_readDigits.j1]
        have hbx : -9223372036854775808 ≤ b * x ∧ b * x ≤ 9223372036854775807 := by rcases hb with rfl | rfl <;> omega
        have hbx2 : b * x ≤ 9000000000 := by rcases hb with rfl | rfl <;> omega
        have hbx3 : 0 ≤ b * x := by rcases hb with rfl | rfl <;> omega
        by_cases hz : 0 < c ∨ 0 < dg
        · have hw : wrap64 (c + 1) = c + 1 := w64 (by omega) (by omega)
          simp only [if_pos hz] at hst ⊢
          rw [hw, w64 (x := a + 1) (by omega) (by omega)]
          refine ev_pos (hbb.2 hz) ?_
          have := ih n (a + 1) (if c + 1 ≤ 7 then b * x + dg else x) (c + 1) (by omega) (by omega) (by omega) hst (by omega)
          by_cases h7 : c + 1 > 7
          · rw [if_pos h7] at this
            exact ev_pos h7 this
          · rw [if_neg h7] at this
            refine ev_neg h7 ?_
            rw [if_neg (show ¬ c > 7 by omega), Int.mul_comm x b, w64 hbx.1 hbx.2, w64 (by omega) (by omega)]
            rw [if_pos (show c + 1 ≤ 7 by omega)] at this ⊢
            exact this
        · simp only [if_neg hz] at hst ⊢
          rw [w64 (x := a + 1) (by omega) (by omega)]
          refine ev_neg (fun h => hz (hbb.1 h)) ?_
          have := ih n (a + 1) (if c ≤ 7 then b * x + dg else x) c (by omega) (by omega) (by omega) hst (by omega)
          have h7 : ¬ c > 7 := by omega
          rw [if_neg h7] at this
          refine ev_neg h7 ?_
          rw [if_neg h7, Int.mul_comm x b, w64 hbx.1 hbx.2, w64 (by omega) (by omega)]
          rw [if_pos (show c ≤ 7 by omega)] at this ⊢
          exact this
      by_cases hc : c > 0
      · exact ev_pos hc (key true (by simp; omega))
      · exact ev_neg hc (key _ (by simp; omega))
    · rw [digs_stop hy]
      exact ev_neg hy (Ev.now _)
theorem impl_readDigits_ev (l : List Int) (a b : Int) (hb : b = 10 ∨ b = 16) (hl : l.length ≤ 100000) (ha : 0 ≤ a) : Ev (fun k => impl_readDigits.f k l a b) ((if (digs l b l.length a 0 0).2.1 > 7 then 1114112 else (digs l b l.length a 0 0).1), (digs l b l.length a 0 0).2.2) := by
  unfold impl_readDigits.f
  have := readDigits_l0 l b hb hl l.length l.length a 0 0 ha (by omega) (Nat.le_refl _) ⟨by omega, by omega, by decide⟩ ha
  simpa using this
theorem impl_refDigits_ev (l : List Int) (a : Int) (hl : l.length ≤ 100000) (ha : 0 ≤ a) (ha2 : a ≤ 100000000) : Ev (fun k => impl_refDigits.f k l a) (if (refDig l a).2 = 0 then (0, 0, false) else ((refDig l a).1, (refDig l a).2, true)) := by
  unfold impl_refDigits.f
  simp only [impl_pointAt_eq l a hl, impl_LowerOf_eq, Option.bind_some]
  have hlow : lowerOf (numAt l a) = 120 ↔ (numAt l a = 120 ∨ numAt l a = 88) := by unfold lowerOf; split <;> omega
  have hj : ∀ f b : Int, (b = 10 ∨ b = 16) → 0 ≤ f → f ≤ 100000001 → refBase l a = b → refFrom l a = f → Ev (fun k => impl_refDigits.j0 k l f b) (if (refDig l a).2 = 0 then (0, 0, false) else ((refDig l a).1, (refDig l a).2, true)) := by
    intro f b hb hf hf2 e1 e2
    refine ev_succ ?_
    simp only [impl_refDigits.j0]
    refine Ev.bind (impl_readDigits_ev l f b hb hl hf) ?_
    have hge : f ≤ (digs l b l.length f 0 0).2.2 ∧ (digs l b l.length f 0 0).2.2 ≤ f + l.length := by
      have key : ∀ (n : Nat) (a x c : Int), a ≤ (digs l b n a x c).2.2 ∧ (digs l b n a x c).2.2 ≤ a + n := by
        intro n
        induction n with
        | zero => intro a x c; simp [digs]
        | succ n ih =>
          intro a x c
          by_cases h : digitOf (numAt l a) b ≥ 0
          · rw [digs_go h]
            have := ih (a + 1) (if (if 0 < c ∨ 0 < digitOf (numAt l a) b then c + 1 else c) ≤ 7 then b * x + digitOf (numAt l a) b else x) (if 0 < c ∨ 0 < digitOf (numAt l a) b then c + 1 else c)
            omega
          · rw [digs_stop h]; simp only; omega
      exact key _ _ _ _
    unfold refDig
    rw [e1, e2]
    generalize digs l b l.length f 0 0 = D at *
    by_cases hD : D.2.2 = f
    · simp only [if_pos hD]
      exact ev_some (by simp)
    · simp only [if_neg hD, impl_pointAt_eq l _ hl, impl_RefNumber_eq, Option.bind_some]
      rw [w64 (x := D.2.2 + 1) (by omega) (by omega)]
      by_cases hs : numAt l D.2.2 = 59
      · simp only [if_pos hs]; exact ev_some (by rw [if_neg (show ¬ D.2.2 + 1 = 0 by omega)])
      · simp only [if_neg hs]; exact ev_some (by rw [if_neg (show ¬ D.2.2 = 0 by omega)])
  rw [w64 (x := a + 1) (by omega) (by omega)]
  by_cases h : lowerOf (numAt l a) = 120
  · exact ev_pos h (hj (a + 1) 16 (.inr rfl) (by omega) (by omega) (by unfold refBase; rw [if_pos (hlow.1 h)]) (by unfold refFrom; rw [if_pos (hlow.1 h)]))
  · exact ev_neg h (hj a 10 (.inl rfl) ha (by omega) (by unfold refBase; rw [if_neg (fun g => h (hlow.2 g))]) (by unfold refFrom; rw [if_neg (fun g => h (hlow.2 g))]))

end Go.Proofs.Ytplgbnalflpdhaa.Y

/- Plain lemmas over numbers and lists (alphaI). Conditions: as each states. -/
namespace Go.Proofs.Ytplgbnalflpdhaa.Y
open Go.RowKit Go.Proofs.Ytplgbnalflpdhaa.X Go.Proofs.YtplgbnalflpdhaaW.PrintWords Go.Proofs.YtplgbnalflpdhaaW.PrintLast Go.Proofs.YtplgbnalflpdhaaW.PrintMore Go.Proofs.Ytplgbnalflpdhaa.Y
set_option linter.unusedVariables false
set_option linter.unusedSimpArgs false
theorem impl_IsAlpha_eq (x : Int) : impl_IsAlpha.f x = some (isAlpha x) := by
  unfold impl_IsAlpha.f isAlpha
  simp only [impl_inRange_eq, Option.bind_some]
  by_cases h : 65 ≤ x ∧ x ≤ 90 <;> simp [h]

end Go.Proofs.Ytplgbnalflpdhaa.Y

/- Plain lemmas over numbers and lists (pointsPut). Conditions: as each states. -/
namespace Go.Proofs.Ytplgbnalflpdhaa.Y
open Go.RowKit Go.Proofs.Ytplgbnalflpdhaa.X Go.Proofs.YtplgbnalflpdhaaW.PrintWords Go.Proofs.YtplgbnalflpdhaaW.PrintLast Go.Proofs.YtplgbnalflpdhaaW.PrintMore Go.Proofs.Ytplgbnalflpdhaa.Y
set_option linter.unusedVariables false
set_option linter.unusedSimpArgs false
def putAll (l : List Int) : List Int := l.flatMap pointPut
theorem putAll_len (l : List Int) : l.length ≤ (putAll l).length ∧ (putAll l).length ≤ 4 * l.length := by
  induction l with
  | nil => simp [putAll]
  | cons x xs ih =>
    have := pointPut_len x
    simp only [putAll, List.flatMap_cons, List.length_append, List.length_cons] at *
    omega
theorem rd_get {l : List Int} {i : Int} (h0 : 0 ≤ i) (h : i < l.length) : rd l i = l[i.toNat]'(by omega) := by
  unfold rd; rw [List.getD_eq_getElem?_getD, List.getElem?_eq_getElem (by omega)]; rfl
theorem drop_cons {l : List Int} {i : Int} (h0 : 0 ≤ i) (h : i < l.length) : l.drop i.toNat = rd l i :: l.drop (i + 1).toNat := by
  have e : (i + 1).toNat = i.toNat + 1 := by omega
  rw [e, rd_get h0 h]; exact List.drop_eq_getElem_cons (by omega)

end Go.Proofs.Ytplgbnalflpdhaa.Y

/- Plain lemmas over numbers and lists (refNamI). Conditions: as each states. -/
namespace Go.Proofs.Ytplgbnalflpdhaa.Y
open Go.RowKit Go.Proofs.Ytplgbnalflpdhaa.X Go.Proofs.YtplgbnalflpdhaaW.PrintWords Go.Proofs.YtplgbnalflpdhaaW.PrintLast Go.Proofs.YtplgbnalflpdhaaW.PrintMore Go.Proofs.Ytplgbnalflpdhaa.Y
set_option linter.unusedVariables false
set_option linter.unusedSimpArgs false
theorem drop_get {α : Type} {l : List α} {i : Nat} (h : i < l.length) : l.drop i = l[i] :: l.drop (i + 1) := List.drop_eq_getElem_cons h
theorem stands_ev (l : List Int) (s : ByteArray) (hl : l.length ≤ 100000) (hs : s.size ≤ 1000) (j : Int) (hj : 0 ≤ j) (hj2 : j ≤ 100000000) : ∀ (d : Nat) (i : Int), 0 ≤ i → i + d = s.size → Ev (fun k => impl_standsAt.l0 k l j s i) (stands l (j + i) ((bytesOf s).drop i.toNat)) := by
  intro d
  have hlen := bytesOf_length s
  induction d with
  | zero =>
    intro i h0 h
    refine ev_succ ?_
    simp only [impl_standsAt.l0]
    refine ev_neg (by omega) (ev_some ?_)
    rw [List.drop_of_length_le (by omega)]; rfl
  | succ d ih =>
    intro i h0 h
    refine ev_succ ?_
    simp only [impl_standsAt.l0, impl_pointAt_eq l _ hl, Option.bind_some]
    have hr := bt_range s i
    rw [w64 (x := bt s i) (by omega) (by omega), w64 (x := i + 1) (by omega) (by omega), w64 (x := j + i) (by omega) (by omega), drop_cons h0 (by omega), rd_bytesOf]
    refine ev_pos (by omega) (ev_pos h0 ?_)
    simp only [stands]
    by_cases he : numAt l (j + i) = bt s i
    · rw [decide_eq_true he, Bool.true_and, Int.add_assoc]
      exact ev_pos he (ih (i + 1) (by omega) (by omega))
    · rw [decide_eq_false he, Bool.false_and]
      exact ev_neg he (Ev.now _)
theorem impl_standsAt_ev (l : List Int) (s : ByteArray) (hl : l.length ≤ 100000) (hs : s.size ≤ 1000) (j : Int) (hj : 0 ≤ j) (hj2 : j ≤ 100000000) : Ev (fun k => impl_standsAt.f k l j s) (stands l j (bytesOf s)) := by
  have := stands_ev l s hl hs j hj hj2 s.size 0 (by omega) (by omega)
  simpa [impl_standsAt.f] using this
theorem refList_size : ∀ r ∈ refList, 0 < r.f0.size ∧ r.f0.size ≤ 20 := by decide +kernel
theorem refList_semi : ∀ r ∈ refList, strings_HasSuffix.f r.f0 (⟨#[59]⟩ : ByteArray) = some (decide (bt r.f0 ((r.f0.size : Int) - 1) = 59)) := by decide +kernel
theorem best_mem (l : List Int) (j : Int) (rs : List S39) (hrs : ∀ r ∈ rs, r ∈ refList) : ∀ cur : ByteArray × Int, (cur = (⟨#[]⟩, 0) ∨ ∃ r ∈ refList, cur = (r.f0, r.f1)) → rs.foldl (pick l j) cur = (⟨#[]⟩, 0) ∨ ∃ r ∈ refList, rs.foldl (pick l j) cur = (r.f0, r.f1) := by
  induction rs with
  | nil => intro cur h; exact h
  | cons r rs ih =>
    intro cur h
    refine ih (fun x hx => hrs x (by simp [hx])) _ ?_
    unfold pick
    split
    · exact .inr ⟨r, hrs r (by simp), rfl⟩
    · exact h
def namRes (l : List Int) (j : Int) (v : Bool) (b : ByteArray × Int) : Int × Int :=
  if b.1.size = 0 then (0, 0) else if v = true ∧ goesOn (numAt l (j + b.1.size)) = true ∧ bt b.1 (b.1.size - 1) ≠ 59 then (0, 0) else (b.2, j + b.1.size)
theorem refNam_is (l : List Int) (j : Int) (v : Bool) : refNam l j v = namRes l j v (best l j) := rfl
def tri (r : Int × Int) : Int × Int × Bool := if r.2 = 0 then (0, 0, false) else (r.1, r.2, true)
theorem size_nil {s : ByteArray} (h : s.toList = ([] : List UInt8)) : s.size = 0 := by
  rw [Lib.toList_data] at h
  have := congrArg List.length h
  simpa using this
theorem nil_size {s : ByteArray} (h : s.size = 0) : s.toList = ([] : List UInt8) := by
  rw [Lib.toList_data]
  exact List.length_eq_zero_iff.1 (by simpa using h)
theorem refName_l0 (l : List Int) (j : Int) (v : Bool) (hl : l.length ≤ 100000) (hj : 0 < j) (hj2 : j ≤ 100000000) : ∀ (d i : Nat) (b : ByteArray × Int), i + d = 24 → (b = (⟨#[]⟩, 0) ∨ ∃ r ∈ refList, b = (r.f0, r.f1)) → Ev (fun k => impl_refName.l0 k l j v refList 24 i b.1 b.2) (tri (namRes l j v ((refList.drop i).foldl (pick l j) b))) := by
  intro d
  have h24 := refList_len
  induction d with
  | zero =>
    intro i b h hb
    refine ev_succ ?_
    simp only [impl_refName.l0]
    rw [List.drop_of_length_le (by omega), List.foldl_nil]
    have hsz : b.1.size ≤ 20 := by
      rcases hb with rfl | ⟨r, hr, rfl⟩
      · decide
      · exact (refList_size r hr).2
    rw [w64 (x := j + (b.1.size : Int)) (by omega) (by omega)]
    refine ev_neg (by omega) ?_
    simp only [impl_pointAt_eq l _ hl, impl_IsAlpha_eq, Option.bind_some]
    rcases hb with rfl | ⟨r, hr, rfl⟩
    · have e1 : (⟨#[]⟩ : ByteArray).toList = ([] : List UInt8) := nil_size rfl
      have e2 : (⟨#[]⟩ : ByteArray).size = 0 := rfl
      simp only [namRes, e1, e2, if_true]
      generalize numAt l _ = af
      by_cases h1 : af = 61
      · exact ev_pos h1 (ev_some rfl)
      · refine ev_neg h1 ?_
        by_cases h2 : isAlpha af = true
        · exact ev_pos h2 (ev_some rfl)
        · exact ev_neg h2 (Ev.bind (impl_DigitOf_ev _ _) (ev_some rfl))
    · have hs := refList_semi r hr
      have hp := (refList_size r hr).1
      have hne : ¬ r.f0.toList = ([] : List UInt8) := fun g => by have := size_nil g; omega
      simp only [namRes, hs, Option.bind_some]
      rw [if_neg (show ¬ r.f0.size = 0 by omega)]
      generalize numAt l _ = af
      have hcore : ∀ g : Bool, goesOn af = g → Ev (fun _ => if v = true then (if g = true then (if decide (bt r.f0 ((r.f0.size : Int) - 1) = 59) = true then some (r.f1, j + (r.f0.size : Int), true) else some (0, 0, false)) else some (r.f1, j + (r.f0.size : Int), true)) else some (r.f1, j + (r.f0.size : Int), true)) (tri (if v = true ∧ goesOn af = true ∧ bt r.f0 ((r.f0.size : Int) - 1) ≠ 59 then (0, 0) else (r.f1, j + (r.f0.size : Int)))) := by
        intro g hg
        rw [hg]
        refine ev_const ?_
        have ht : tri (r.f1, j + (r.f0.size : Int)) = (r.f1, j + (r.f0.size : Int), true) := by unfold tri; rw [if_neg (by simp only; omega)]
        cases v with
        | false => simp [ht]
        | true =>
          cases g with
          | false => simp [ht]
          | true =>
            by_cases h59 : bt r.f0 ((r.f0.size : Int) - 1) = 59
            · simp [h59, ht]
            · simp [h59, tri]
      by_cases h1 : af = 61
      · refine ev_pos h1 (ev_neg hne ?_)
        have := hcore true (by unfold goesOn; simp [h1])
        simpa using this
      · refine ev_neg h1 ?_
        by_cases h2 : isAlpha af = true
        · refine ev_pos h2 (ev_neg hne ?_)
          have := hcore true (by unfold goesOn; simp [h2])
          simpa using this
        · refine ev_neg h2 (Ev.bind (impl_DigitOf_ev _ _) (ev_neg hne ?_))
          have := hcore (decide (digitOf af 10 ≥ 0)) (by unfold goesOn; simp [h1, h2])
          simpa using this
  | succ d ih =>
    intro i b h hb
    have hi : i < refList.length := by omega
    have hsz : b.1.size ≤ 20 := by
      rcases hb with rfl | ⟨r, hr, rfl⟩
      · decide
      · exact (refList_size r hr).2
    have hm : refList[i] ∈ refList := List.getElem_mem _
    have hrs := refList_size _ hm
    have hrd : rd_T39 refList (i : Int) = refList[i] := by
      unfold rd_T39
      rw [List.getD_eq_getElem?_getD, show ((i : Int).toNat) = i by omega, List.getElem?_eq_getElem hi]; rfl
    refine ev_succ ?_
    simp only [impl_refName.l0]
    rw [drop_get hi, List.foldl_cons, hrd, w64 (x := (i : Int) + 1) (by omega) (by omega)]
    refine ev_pos (by omega) (ev_pos (by omega) (ev_pos (by omega) ?_))
    have hih := ih (i + 1) (pick l j b refList[i]) (by omega) (by
      unfold pick
      split
      · exact .inr ⟨_, hm, rfl⟩
      · exact hb)
    generalize hq : pick l j b refList[i] = q at hih ⊢
    unfold pick at hq
    by_cases h1 : (refList[i].f0.size : Int) > (b.1.size : Int)
    · refine ev_pos h1 (Ev.bind (impl_standsAt_ev l refList[i].f0 hl (by omega) j (by omega) hj2) ?_)
      by_cases h2 : stands l j (bytesOf refList[i].f0) = true
      · rw [if_pos ⟨by omega, h2⟩] at hq
        subst hq
        exact ev_pos h2 hih
      · rw [if_neg (fun g => h2 g.2)] at hq
        subst hq
        exact ev_neg h2 hih
    · rw [if_neg (fun g => h1 (by omega))] at hq
      subst hq
      exact ev_neg h1 hih
theorem impl_refName_ev (l : List Int) (j : Int) (v : Bool) (hl : l.length ≤ 100000) (hj : 0 < j) (hj2 : j ≤ 100000000) : Ev (fun k => impl_refName.f k l j v) (tri (refNam l j v)) := by
  unfold impl_refName.f
  simp only [refList_is, Option.bind_some]
  exact refName_l0 l j v hl hj hj2 24 0 (⟨#[]⟩, 0) rfl (.inl rfl)
theorem impl_RefRead_ev (l : List Int) (a : Int) (v : Bool) : Ev (fun k => impl_RefRead.f k l a v) (refRead l a v) := by
  unfold impl_RefRead.f refRead
  have hjt : Ev (fun k => impl_RefRead.j0 k l a v true) ([], a) := by
    refine ev_succ ?_
    simp only [impl_RefRead.j0]
    exact ev_pos (by simp) (Ev.now _)
  by_cases hl : (l.length : Int) > 3000
  · rw [if_pos (.inl hl)]; exact ev_pos hl hjt
  · refine ev_neg hl ?_
    simp only [impl_pointAt_eq l a (by omega), Option.bind_some]
    by_cases h38 : numAt l a = 38
    · rw [if_neg (by omega)]
      have hin : 0 ≤ a ∧ a < l.length := by
        by_cases c : 0 ≤ a ∧ a < l.length
        · exact c
        · rw [numAt_out (by omega)] at h38; omega
      refine ev_succ ?_
      simp only [impl_RefRead.j0, impl_pointAt_eq l _ (show l.length ≤ 100000 by omega), Option.bind_some]
      rw [w64 (x := a + 1) (by omega) (by omega), w64 (x := a + 2) (by omega) (by omega)]
      refine ev_neg (by simp [h38]) ?_
      unfold refOf
      by_cases h35 : numAt l (a + 1) = 35
      · simp only [if_pos h35]
        have hr : (refDig l (a + 2)).2 = 0 ∨ (refDig l (a + 2)).2 > 0 := by
          unfold refDig
          split
          · exact .inl rfl
          · have : a + 2 ≤ refFrom l (a + 2) := by unfold refFrom; split <;> omega
            have key : ∀ (n : Nat) (b a x c : Int), a ≤ (digs l b n a x c).2.2 := by
              intro n
              induction n with
              | zero => intro b a x c; simp [digs]
              | succ n ih =>
                intro b a x c
                by_cases h : digitOf (numAt l a) b ≥ 0
                · rw [digs_go h]
                  have := ih b (a + 1) (if (if 0 < c ∨ 0 < digitOf (numAt l a) b then c + 1 else c) ≤ 7 then b * x + digitOf (numAt l a) b else x) (if 0 < c ∨ 0 < digitOf (numAt l a) b then c + 1 else c)
                  omega
                · rw [digs_stop h]; simp
            have := key l.length (refBase l (a + 2)) (refFrom l (a + 2)) 0 0
            right
            simp only
            split <;> omega
        refine Ev.bind (impl_refDigits_ev l (a + 2) (by omega) (by omega) (by omega)) ?_
        rcases hr with hr | hr
        · simp only [hr, if_true]
          exact ev_neg (by simp) (ev_some (by simp))
        · rw [if_neg (show ¬ (refDig l (a + 2)).2 = 0 by omega), if_pos hr]
          exact ev_pos rfl (Ev.now _)
      · simp only [if_neg h35]
        refine Ev.bind (impl_refName_ev l (a + 1) v (by omega) (by omega) (by omega)) ?_
        have hr : (refNam l (a + 1) v).2 = 0 ∨ (refNam l (a + 1) v).2 > 0 := by
          unfold refNam
          split
          · exact .inl rfl
          · split
            · exact .inl rfl
            · exact .inr (by simp only; omega)
        unfold tri
        generalize refNam l (a + 1) v = q at hr ⊢
        rcases hr with hr | hr
        · simp only [hr, if_true]
          exact ev_neg (by simp) (ev_some (by simp))
        · rw [if_neg (show ¬ q.2 = 0 by omega), if_pos hr]
          exact ev_pos rfl (Ev.now _)
    · rw [if_pos (.inr h38)]
      have : (numAt l a != 38) = true := by simpa using h38
      rw [this]; exact hjt

end Go.Proofs.Ytplgbnalflpdhaa.Y

/- Plain lemmas over numbers and lists (digitS). Conditions: as each states. -/
namespace Go.Proofs.Ytplgbnalflpdhaa.Y
open Go.RowKit Go.Proofs.Ytplgbnalflpdhaa.X Go.Proofs.YtplgbnalflpdhaaW.PrintWords Go.Proofs.YtplgbnalflpdhaaW.PrintLast Go.Proofs.YtplgbnalflpdhaaW.PrintMore Go.Proofs.Ytplgbnalflpdhaa.Y
set_option linter.unusedVariables false
set_option linter.unusedSimpArgs false
theorem spec_DigitOf_eq (k : Nat) (x b : Int) : spec_DigitOf.f (k + 2) x b = some (digitOf x b) := by
  unfold spec_DigitOf.f digitOf
  simp only [spec_DigitOf.j0, spec_DigitOf.j1, spec_l1In_eq, Option.bind_some]
  by_cases h10 : b = 10
  · subst h10
    by_cases h1 : 48 ≤ x ∧ x ≤ 57
    · simp [h1]; exact w64 (by omega) (by omega)
    · simp [h1]
  · by_cases h16 : b = 16
    · subst h16
      by_cases h1 : 48 ≤ x ∧ x ≤ 57
      · simp [h1]; exact w64 (by omega) (by omega)
      · by_cases h2 : 65 ≤ x ∧ x ≤ 70
        · simp [h1, h2]; rw [w64 (x := x - 65) (by omega) (by omega), w64 (by omega) (by omega)]; omega
        · by_cases h3 : 97 ≤ x ∧ x ≤ 102
          · simp [h1, h2, h3]; rw [w64 (x := x - 97) (by omega) (by omega), w64 (by omega) (by omega)]; omega
          · simp [h1, h2, h3]
    · simp [h10, h16]
theorem spec_DigitOf_ev (x b : Int) : Ev (fun k => spec_DigitOf.f k x b) (digitOf x b) :=
  ⟨2, fun k hk => by obtain ⟨m, rfl⟩ : ∃ m, k = m + 2 := ⟨k - 2, by omega⟩
                     exact spec_DigitOf_eq m x b⟩

end Go.Proofs.Ytplgbnalflpdhaa.Y

/- Plain lemmas over numbers and lists (refDigS). Conditions: as each states. -/
namespace Go.Proofs.Ytplgbnalflpdhaa.Y
open Go.RowKit Go.Proofs.Ytplgbnalflpdhaa.X Go.Proofs.YtplgbnalflpdhaaW.PrintWords Go.Proofs.YtplgbnalflpdhaaW.PrintLast Go.Proofs.YtplgbnalflpdhaaW.PrintMore Go.Proofs.Ytplgbnalflpdhaa.Y
set_option linter.unusedVariables false
set_option linter.unusedSimpArgs false
theorem spec_l3At_eq (l : List Int) (j : Int) (hj : 0 ≤ j) : spec_l3At.f l j = some (numAt l j) := by
  unfold spec_l3At.f numAt
  by_cases h : j ≥ l.length
  · rw [if_pos h, if_neg (by omega)]
  · rw [if_neg h, if_pos hj, if_pos (by omega), if_pos (by omega)]
theorem digs_range (l : List Int) (b : Int) : ∀ (n : Nat) (a x c : Int), a ≤ (digs l b n a x c).2.2 ∧ (digs l b n a x c).2.2 ≤ a + n := by
  intro n
  induction n with
  | zero => intro a x c; simp [digs]
  | succ n ih =>
    intro a x c
    by_cases h : digitOf (numAt l a) b ≥ 0
    · rw [digs_go h]
      have := ih (a + 1) (if (if 0 < c ∨ 0 < digitOf (numAt l a) b then c + 1 else c) ≤ 7 then b * x + digitOf (numAt l a) b else x) (if 0 < c ∨ 0 < digitOf (numAt l a) b then c + 1 else c)
      omega
    · rw [digs_stop h]; simp only; omega
def digEnd (l : List Int) (f : Int) (D : Int × Int × Int) : Int × Int :=
  if D.2.2 = f then (0, 0) else (refNumber (if D.2.1 > 7 then 1114112 else D.1), if numAt l D.2.2 = 59 then D.2.2 + 1 else D.2.2)
theorem l3Number_l0 (l : List Int) (b f : Int) (hb : b = 10 ∨ b = 16) (hl : l.length ≤ 100000) (hf : 0 ≤ f) (hf2 : f ≤ 100000001) : ∀ (d : Nat) (n : Nat) (a x c : Int), f ≤ a → (l.length : Int) - a ≤ d → d ≤ n → digInv x c → c ≤ a → a ≤ 100000001 + l.length →
    Ev (fun k => spec_l3Number.l0 k l a b f x c) (digEnd l f (digs l b n a x c)) := by
  intro d
  have stop : ∀ (n : Nat) (a x c : Int), f ≤ a → a ≤ 100000001 + l.length → ¬ digitOf (numAt l a) b ≥ 0 → Ev (fun k => spec_l3Number.l0 k l a b f x c) (digEnd l f (digs l b n a x c)) := by
    intro n a x c ha ha2 hno
    refine ev_succ ?_
    simp only [spec_l3Number.l0, spec_l3At_eq l a (by omega), Option.bind_some]
    rw [digs_stop hno]
    refine Ev.bind (spec_DigitOf_ev _ _) (ev_neg hno ?_)
    unfold digEnd
    simp only
    by_cases hf : a = f
    · simp only [if_pos hf]; exact Ev.now _
    · simp only [if_neg hf]
      have hj : ∀ y : Int, Ev (fun k => spec_l3Number.j4 k l a y) (refNumber y, if numAt l a = 59 then a + 1 else a) := by
        intro y
        refine ev_succ ?_
        simp only [spec_l3Number.j4, spec_l3At_eq l a (by omega), Option.bind_some]
        rw [w64 (x := a + 1) (by omega) (by omega)]
        by_cases hs : numAt l a = 59
        · rw [if_pos hs]; exact ev_pos hs (Ev.bind (spec_RefNumber_ev y) (Ev.now _))
        · rw [if_neg hs]; exact ev_neg hs (Ev.bind (spec_RefNumber_ev y) (Ev.now _))
      by_cases h7 : c > 7
      · rw [if_pos h7]; exact ev_pos h7 (hj _)
      · rw [if_neg h7]; exact ev_neg h7 (hj _)
  induction d with
  | zero =>
    intro n a x c ha hd hn hi hca ha2
    exact stop n a x c ha ha2 (fun h => by have := digs_in h; omega)
  | succ d ih =>
    intro n a x c ha hd hn hi hca ha2
    obtain ⟨n, rfl⟩ : ∃ m, n = m + 1 := ⟨n - 1, by omega⟩
    by_cases hy : digitOf (numAt l a) b ≥ 0
    · obtain ⟨h0, h1⟩ := digs_in hy
      have hdl := digitOf_le hb hy
      have hbd := digInv_bound hi
      refine ev_succ ?_
      simp only [spec_l3Number.l0, spec_l3At_eq l a (by omega), Option.bind_some]
      rw [digs_go hy]
      refine Ev.bind (spec_DigitOf_ev _ _) (ev_pos hy (Ev.bind (spec_DigitOf_ev _ _) ?_))
      generalize digitOf (numAt l a) b = dg at *
      have hst := digInv_step hi hb hy (by omega) _ rfl
      have hbx : -9223372036854775808 ≤ b * x ∧ b * x ≤ 9223372036854775807 := by rcases hb with rfl | rfl <;> omega
      have hbx2 : b * x ≤ 9000000000 := by rcases hb with rfl | rfl <;> omega
      have hbx3 : 0 ≤ b * x := by rcases hb with rfl | rfl <;> omega
      have key : ∀ bb : Bool, (bb = true ↔ (0 < c ∨ 0 < dg)) → Ev (fun k => spec_l3Number.j3 k l a b f x c dg bb) (digEnd l f (digs l b n (a + 1) (if (if 0 < c ∨ 0 < dg then c + 1 else c) ≤ 7 then b * x + dg else x) (if 0 < c ∨ 0 < dg then c + 1 else c))) := by
        intro bb hbb
        refine ev_succ ?_
        simp only [spec_l3Number.j3]
        have hw : wrap64 (c + 1) = c + 1 := w64 (by omega) (by omega)
        rw [hw, w64 (x := a + 1) (by omega) (by omega), w64 hbx.1 hbx.2, w64 (x := b * x + dg) (by omega) (by omega)]
        by_cases hz : 0 < c ∨ 0 < dg
        · simp only [if_pos hz] at hst ⊢
          refine ev_pos (hbb.2 hz) ?_
          have := ih n (a + 1) (if c + 1 ≤ 7 then b * x + dg else x) (c + 1) (by omega) (by omega) (by omega) hst (by omega) (by omega)
          by_cases h7 : c + 1 ≤ 7
          · rw [if_pos h7] at this ⊢
            exact ev_pos h7 this
          · rw [if_neg h7] at this ⊢
            exact ev_neg h7 this
        · simp only [if_neg hz] at hst ⊢
          refine ev_neg (fun h => hz (hbb.1 h)) ?_
          have := ih n (a + 1) (if c ≤ 7 then b * x + dg else x) c (by omega) (by omega) (by omega) hst (by omega) (by omega)
          by_cases h7 : c ≤ 7
          · rw [if_pos h7] at this ⊢
            exact ev_pos h7 this
          · rw [if_neg h7] at this ⊢
            exact ev_neg h7 this
      by_cases hc : c > 0
      · exact ev_pos hc (key true (by simp; omega))
      · exact ev_neg hc (key _ (by simp; omega))
    · exact stop (n + 1) a x c ha ha2 hy
theorem spec_l3Number_ev (l : List Int) (a : Int) (hl : l.length ≤ 100000) (ha : 0 ≤ a) (ha2 : a ≤ 100000000) : Ev (fun k => spec_l3Number.f k l a) (refDig l a) := by
  unfold spec_l3Number.f
  simp only [spec_l3At_eq l a ha, Option.bind_some]
  have e : refDig l a = digEnd l (refFrom l a) (digs l (refBase l a) l.length (refFrom l a) 0 0) := rfl
  have hj1 : ∀ f b : Int, (b = 10 ∨ b = 16) → 0 ≤ f → f ≤ 100000001 → refBase l a = b → refFrom l a = f → Ev (fun k => spec_l3Number.j1 k l f b) (refDig l a) := by
    intro f b hb hf hf2 e1 e2
    refine ev_succ ?_
    simp only [spec_l3Number.j1]
    rw [e, e1, e2]
    exact l3Number_l0 l b f hb hl hf hf2 l.length l.length f 0 0 (by omega) (by omega) (Nat.le_refl _) ⟨by omega, by omega, by decide⟩ hf (by omega)
  have hj : ∀ bb : Bool, (bb = true ↔ (numAt l a = 120 ∨ numAt l a = 88)) → Ev (fun k => spec_l3Number.j0 k l a 10 bb) (refDig l a) := by
    intro bb hbb
    refine ev_succ ?_
    simp only [spec_l3Number.j0]
    rw [w64 (x := a + 1) (by omega) (by omega)]
    cases bb with
    | true =>
      have := hbb.1 rfl
      exact ev_pos (by simp) (hj1 (a + 1) 16 (.inr rfl) (by omega) (by omega) (by unfold refBase; rw [if_pos this]) (by unfold refFrom; rw [if_pos this]))
    | false =>
      have h : ¬ (numAt l a = 120 ∨ numAt l a = 88) := fun g => by have := hbb.2 g; simp at this
      exact ev_neg (by simp) (hj1 a 10 (.inl rfl) ha (by omega) (by unfold refBase; rw [if_neg h]) (by unfold refFrom; rw [if_neg h]))
  by_cases h : numAt l a = 120
  · exact ev_pos h (hj true (by simp [h]))
  · refine ev_neg h (hj _ ?_)
    simp [h]

end Go.Proofs.Ytplgbnalflpdhaa.Y

/- Plain lemmas over numbers and lists (alphaS). Conditions: as each states. -/
namespace Go.Proofs.Ytplgbnalflpdhaa.Y
open Go.RowKit Go.Proofs.Ytplgbnalflpdhaa.X Go.Proofs.YtplgbnalflpdhaaW.PrintWords Go.Proofs.YtplgbnalflpdhaaW.PrintLast Go.Proofs.YtplgbnalflpdhaaW.PrintMore Go.Proofs.Ytplgbnalflpdhaa.Y
set_option linter.unusedVariables false
set_option linter.unusedSimpArgs false
theorem spec_IsAlpha_eq (x : Int) : spec_IsAlpha.f x = some (isAlpha x) := by
  unfold spec_IsAlpha.f isAlpha
  simp only [spec_l1In_eq, Option.bind_some]
  by_cases h : 65 ≤ x ∧ x ≤ 90 <;> simp [h]

end Go.Proofs.Ytplgbnalflpdhaa.Y

/- Plain lemmas over numbers and lists (refNamS). Conditions: as each states. -/
namespace Go.Proofs.Ytplgbnalflpdhaa.Y
open Go.RowKit Go.Proofs.Ytplgbnalflpdhaa.X Go.Proofs.YtplgbnalflpdhaaW.PrintWords Go.Proofs.YtplgbnalflpdhaaW.PrintLast Go.Proofs.YtplgbnalflpdhaaW.PrintMore Go.Proofs.Ytplgbnalflpdhaa.Y
set_option linter.unusedVariables false
set_option linter.unusedSimpArgs false
theorem spec_refs_is : spec_Refs.f = some refList := rfl
theorem l3Stands_l0 (l : List Int) (s : ByteArray) (hs : s.size ≤ 1000) (j : Int) (hj : 0 ≤ j) (hj2 : j ≤ 100000000) : ∀ (d : Nat) (i : Int), 0 ≤ i → i + d = s.size → Ev (fun k => spec_l3Stands.l0 k l j s i) (stands l (j + i) ((bytesOf s).drop i.toNat)) := by
  intro d
  have hlen := bytesOf_length s
  induction d with
  | zero =>
    intro i h0 h
    refine ev_succ ?_
    simp only [spec_l3Stands.l0]
    refine ev_neg (by omega) (ev_some ?_)
    rw [List.drop_of_length_le (by omega)]; rfl
  | succ d ih =>
    intro i h0 h
    refine ev_succ ?_
    have hr := bt_range s i
    simp only [spec_l3Stands.l0]
    rw [w64 (x := bt s i) (by omega) (by omega), w64 (x := i + 1) (by omega) (by omega), w64 (x := j + i) (by omega) (by omega), drop_cons h0 (by omega), rd_bytesOf]
    simp only [spec_l3At_eq l (j + i) (by omega), Option.bind_some]
    refine ev_pos (by omega) (ev_pos h0 ?_)
    simp only [stands]
    by_cases he : numAt l (j + i) = bt s i
    · rw [decide_eq_true he, Bool.true_and, Int.add_assoc]
      exact ev_pos he (ih (i + 1) (by omega) (by omega))
    · rw [decide_eq_false he, Bool.false_and]
      exact ev_neg he (Ev.now _)
theorem spec_l3Stands_ev (l : List Int) (s : ByteArray) (hs : s.size ≤ 1000) (j : Int) (hj : 0 ≤ j) (hj2 : j ≤ 100000000) : Ev (fun k => spec_l3Stands.f k l j s) (stands l j (bytesOf s)) := by
  have := l3Stands_l0 l s hs j hj hj2 s.size 0 (by omega) (by omega)
  simpa [spec_l3Stands.f] using this
def namEnd (a : Int) (q : Int × Int) : List Int × Int := if q.2 > 0 then ([q.1], q.2) else ([38], a + 1)
theorem RefRead_l0 (l : List Int) (a : Int) (v : Bool) (ha : 0 ≤ a) (ha2 : a ≤ 10000000) : ∀ (d i : Nat) (b : ByteArray × Int), i + d = 24 → (b = (⟨#[]⟩, 0) ∨ ∃ r ∈ refList, b = (r.f0, r.f1)) → Ev (fun k => spec_RefRead.l0 k l a v refList i b.1 b.2) (namEnd a (namRes l (a + 1) v ((refList.drop i).foldl (pick l (a + 1)) b))) := by
  intro d
  have h24 := refList_len
  induction d with
  | zero =>
    intro i b h hb
    refine ev_succ ?_
    simp only [spec_RefRead.l0]
    rw [List.drop_of_length_le (by omega), List.foldl_nil]
    have hsz : b.1.size ≤ 20 := by
      rcases hb with rfl | ⟨r, hr, rfl⟩
      · decide
      · exact (refList_size r hr).2
    rw [w64 (x := a + 1) (by omega) (by omega), w64 (x := a + 1 + (b.1.size : Int)) (by omega) (by omega), w64 (x := (b.1.size : Int) - 1) (by omega) (by omega)]
    refine ev_neg (by omega) ?_
    by_cases h0 : b.1.size = 0
    · refine ev_pos (by omega) (ev_some ?_)
      have e : namRes l (a + 1) v b = (0, 0) := by unfold namRes; rw [if_pos h0]
      rw [e]; rfl
    · refine ev_neg (by omega) ?_
      simp only [spec_l3At_eq l (a + 1 + (b.1.size : Int)) (by omega), spec_IsAlpha_eq, Option.bind_some, namRes]
      rw [if_neg h0]
      generalize numAt l _ = af
      have hyes : namEnd a (b.2, a + 1 + (b.1.size : Int)) = ([b.2], a + 1 + (b.1.size : Int)) := by unfold namEnd; rw [if_pos (by simp only; omega)]
      have hno : namEnd a (0, 0) = ([38], a + 1) := by unfold namEnd; rw [if_neg (by simp)]
      cases v with
      | false =>
        refine ev_neg (by simp) (ev_some ?_)
        rw [if_neg (by simp), hyes]
      | true =>
        refine ev_pos rfl (ev_pos (by omega) (ev_pos (by omega) ?_))
        by_cases h59 : bt b.1 ((b.1.size : Int) - 1) = 59
        · refine ev_pos h59 (ev_some ?_)
          rw [if_neg (by simp [h59]), hyes]
        · refine ev_neg h59 ?_
          by_cases h1 : af = 61
          · refine ev_pos h1 (ev_some ?_)
            rw [if_pos ⟨rfl, by unfold goesOn; simp [h1], h59⟩, hno]
          · refine ev_neg h1 ?_
            by_cases h2 : isAlpha af = true
            · refine ev_pos h2 (ev_some ?_)
              rw [if_pos ⟨rfl, by unfold goesOn; simp [h2], h59⟩, hno]
            · refine ev_neg h2 (Ev.bind (spec_DigitOf_ev _ _) ?_)
              by_cases h3 : digitOf af 10 ≥ 0
              · refine ev_pos h3 (ev_some ?_)
                rw [if_pos ⟨rfl, by unfold goesOn; simp [h3], h59⟩, hno]
              · refine ev_neg h3 (ev_some ?_)
                rw [if_neg (fun g => by have := g.2.1; unfold goesOn at this; simp [h1, h2, h3] at this), hyes]
  | succ d ih =>
    intro i b h hb
    have hi : i < refList.length := by omega
    have hm : refList[i] ∈ refList := List.getElem_mem _
    have hrs := refList_size _ hm
    have hrd : rd_T39 refList (i : Int) = refList[i] := by
      unfold rd_T39
      rw [List.getD_eq_getElem?_getD, show ((i : Int).toNat) = i by omega, List.getElem?_eq_getElem hi]; rfl
    refine ev_succ ?_
    simp only [spec_RefRead.l0]
    rw [drop_get hi, List.foldl_cons, hrd, w64 (x := (i : Int) + 1) (by omega) (by omega), w64 (x := a + 1) (by omega) (by omega)]
    refine ev_pos (by omega) (ev_pos (by omega) (Ev.bind (spec_l3Stands_ev l refList[i].f0 (by omega) (a + 1) (by omega) (by omega)) ?_))
    have hih := ih (i + 1) (pick l (a + 1) b refList[i]) (by omega) (by
      unfold pick
      split
      · exact .inr ⟨_, hm, rfl⟩
      · exact hb)
    generalize hq : pick l (a + 1) b refList[i] = q at hih ⊢
    unfold pick at hq
    by_cases h2 : stands l (a + 1) (bytesOf refList[i].f0) = true
    · refine ev_pos h2 ?_
      by_cases h1 : (refList[i].f0.size : Int) > (b.1.size : Int)
      · rw [if_pos ⟨by omega, h2⟩] at hq
        subst hq
        exact ev_pos h1 hih
      · rw [if_neg (fun g => h1 (by omega))] at hq
        subst hq
        exact ev_neg h1 hih
    · rw [if_neg (fun g => h2 g.2)] at hq
      subst hq
      exact ev_neg h2 hih
theorem spec_RefRead_ev (l : List Int) (a : Int) (v : Bool) : Ev (fun k => spec_RefRead.f k l a v) (refRead l a v) := by
  unfold spec_RefRead.f refRead
  have hjt : Ev (fun k => spec_RefRead.j0 k l a v true) ([], a) := by
    refine ev_succ ?_
    simp only [spec_RefRead.j0]
    exact ev_pos (by simp) (Ev.now _)
  by_cases hl : (l.length : Int) > 3000
  · rw [if_pos (.inl hl)]; exact ev_pos hl hjt
  · refine ev_neg hl ?_
    simp only [spec_l1In_eq, Option.bind_some]
    rw [w64 (x := (l.length : Int) - 1) (by omega) (by omega)]
    by_cases hin : 0 ≤ a ∧ a < l.length
    · refine ev_pos (by simp; omega) (ev_pos hin.1 (ev_pos hin.2 ?_))
      rw [← numAt_in hin.1 hin.2]
      by_cases h38 : numAt l a = 38
      · rw [if_neg (by omega)]
        have : (numAt l a != 38) = false := by simp [h38]
        rw [this]
        refine ev_succ ?_
        simp only [spec_RefRead.j0]
        rw [w64 (x := a + 1) (by omega) (by omega), w64 (x := a + 2) (by omega) (by omega)]
        simp only [spec_l3At_eq l (a + 1) (by omega), Option.bind_some]
        refine ev_neg (by simp) ?_
        unfold refOf
        by_cases h35 : numAt l (a + 1) = 35
        · simp only [if_pos h35]
          refine Ev.bind (spec_l3Number_ev l (a + 2) (by omega) (by omega) (by omega)) ?_
          generalize refDig l (a + 2) = q
          by_cases hq : q.2 > 0
          · simp only [if_pos hq]; exact Ev.now _
          · simp only [if_neg hq]; exact Ev.now _
        · simp only [if_neg h35, spec_refs_is, Option.bind_some]
          exact RefRead_l0 l a v hin.1 (by omega) 24 0 (⟨#[]⟩, 0) rfl (.inl rfl)
      · rw [if_pos (.inr h38)]
        have : (numAt l a != 38) = true := by simpa using h38
        rw [this]; exact hjt
    · rw [if_pos (.inr (by rw [numAt_out (by omega)]; decide))]
      exact ev_neg (by simp; omega) hjt

end Go.Proofs.Ytplgbnalflpdhaa.Y

