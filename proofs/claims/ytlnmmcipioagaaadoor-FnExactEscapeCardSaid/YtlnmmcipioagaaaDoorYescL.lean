/- Plain lemmas over numbers and lists (escL). Conditions: as each states. -/
import Derived.Test.YtlnmmcipioagaaaDoorXx0
import Derived.Test.YtlnmmcipioagaaaDoorYbase
import Derived.Lib.ReplaceLaws
namespace Go.Proofs.YtlnmmcipioagaaaDoor.Y
open Go.RowKit Go.Proofs.YtlnmmcipioagaaaDoor.X Go.Proofs.YtlnmmcipioagaaaDoorW.PrintWords Go.Proofs.YtlnmmcipioagaaaDoorW.PrintLast Go.Proofs.YtlnmmcipioagaaaDoorW.PrintMore Go.Proofs.YtlnmmcipioagaaaDoor.Y
set_option linter.unusedVariables false
set_option linter.unusedSimpArgs false
section
open Go.Lib
theorem rall_eq (s old new : List UInt8) (hne : old ≠ new) : Lib.replaceAll s old new = Lib.replaceK old new (count s old) s := by
  unfold Lib.replaceAll replace replaceNum
  rw [if_neg (by simpa using hne), if_pos (Or.inl (by decide))]
theorem rall_nil (old new : List UInt8) (h0 : old ≠ []) (hne : old ≠ new) : Lib.replaceAll [] old new = [] := by
  have hi : index [] old = -1 := by cases old with | nil => exact absurd rfl h0 | cons a t => rfl
  rw [rall_eq _ _ _ hne, count_miss hi]; rfl
theorem rall_skip (old new : List UInt8) (h0 : old ≠ []) (hne : old ≠ new) (b : UInt8) (l : List UInt8) (hp : old.isPrefixOf (b :: l) = false) : Lib.replaceAll (b :: l) old new = b :: Lib.replaceAll l old new := by
  rw [rall_eq _ _ _ hne, rall_eq _ _ _ hne]
  by_cases hm : index l old = -1
  · have hi : index (b :: l) old = -1 := by unfold index; rw [hp, hm]; rfl
    rw [count_miss hi, count_miss hm]; rfl
  · obtain ⟨i, hi⟩ : ∃ i : Nat, index l old = i := ⟨(index l old).toNat, by have := index_ge l old; omega⟩
    have hi' : index (b :: l) old = (i + 1 : Nat) := by unfold index; rw [hp, hi]; simp
    have e : (b :: l).drop (i + 1 + old.length) = l.drop (i + old.length) := by rw [show i + 1 + old.length = (i + old.length) + 1 by omega]; rfl
    rw [count_hit h0 hi', count_hit h0 hi, e, Nat.add_comm 1, Lib.replaceK_hit _ _ _ _ _ hi', Lib.replaceK_hit _ _ _ _ _ hi, e]
    rfl
theorem rall_hit (old new : List UInt8) (h0 : old ≠ []) (hne : old ≠ new) (t : List UInt8) : Lib.replaceAll (old ++ t) old new = new ++ Lib.replaceAll t old new := by
  have hi : index (old ++ t) old = (0 : Nat) := by
    cases old with
    | nil => exact absurd rfl h0
    | cons a r =>
      have hp : (a :: r).isPrefixOf (a :: (r ++ t)) = true := List.isPrefixOf_iff_prefix.2 ⟨t, rfl⟩
      show index (a :: (r ++ t)) (a :: r) = 0
      unfold index; rw [hp]; rfl
  rw [rall_eq _ _ _ hne, rall_eq _ _ _ hne, count_hit h0 hi, Nat.add_comm 1, Lib.replaceK_hit _ _ _ _ _ hi]
  simp
/-- One byte replaced: byte by byte. -/
theorem rall_one (c : UInt8) (new : List UInt8) (hne : [c] ≠ new) : ∀ s : List UInt8, Lib.replaceAll s [c] new = s.flatMap (fun x => if x = c then new else [x]) := by
  intro s
  induction s with
  | nil => exact rall_nil _ _ (by simp) hne
  | cons x t ih =>
    rw [List.flatMap_cons, ← ih]
    by_cases e : x = c
    · subst e; rw [if_pos rfl]; exact rall_hit [x] new (by simp) hne t
    · rw [if_neg e]
      exact rall_skip _ _ (by simp) hne x t (by simp [List.isPrefixOf]; exact fun h => e h.symm)
def ampL : List UInt8 := [38, 97, 109, 112, 59]
def nbspL : List UInt8 := [38, 110, 98, 115, 112, 59]
def quotL : List UInt8 := [38, 113, 117, 111, 116, 59]
def ltL : List UInt8 := [38, 108, 116, 59]
def gtL : List UInt8 := [38, 103, 116, 59]
/-- What one byte becomes. -/
def escB (v : Bool) (x : UInt8) : List UInt8 := if x = 38 then ampL else if x = 34 ∧ v = true then quotL else if x = 60 ∧ v = false then ltL else if x = 62 ∧ v = false then gtL else [x]
/-- What a text becomes. -/
def escL (v : Bool) : List UInt8 → List UInt8
  | [] => []
  | [x] => escB v x
  | x :: y :: t => if x = 194 ∧ y = 160 then nbspL ++ escL v t else escB v x ++ escL v (y :: t)
def R2 (s : List UInt8) : List UInt8 := Lib.replaceAll s [194, 160] nbspL
theorem R2_skip {b : UInt8} (h : b ≠ 194) (l : List UInt8) : R2 (b :: l) = b :: R2 l := rall_skip _ _ (by simp) (by simp [nbspL]) b l (by simp [List.isPrefixOf]; exact fun e => absurd e.symm h)
theorem R2_not {y : UInt8} (h : y ≠ 160) (l : List UInt8) : R2 (194 :: y :: l) = 194 :: R2 (y :: l) := rall_skip _ _ (by simp) (by simp [nbspL]) 194 _ (by simp [List.isPrefixOf]; exact fun e => absurd e.symm h)
theorem R2_hit (l : List UInt8) : R2 (194 :: 160 :: l) = nbspL ++ R2 l := rall_hit [194, 160] nbspL (by simp) (by simp [nbspL]) l
theorem R2_nil : R2 [] = [] := rall_nil _ _ (by simp) (by simp [nbspL])
theorem R2_one : R2 [194] = [194] := by unfold R2; rw [rall_skip _ _ (by simp) (by simp [nbspL]) 194 [] (by decide)]; rw [rall_nil _ _ (by simp) (by simp [nbspL])]
def fA (s : List UInt8) : List UInt8 := s.flatMap (fun x => if x = 38 then ampL else [x])
def fV (v : Bool) (s : List UInt8) : List UInt8 := if v = true then s.flatMap (fun x => if x = 34 then quotL else [x]) else (s.flatMap (fun x => if x = 60 then ltL else [x])).flatMap (fun x => if x = 62 then gtL else [x])
theorem fV_app (v : Bool) (a b : List UInt8) : fV v (a ++ b) = fV v a ++ fV v b := by
  unfold fV; cases v <;> simp [List.flatMap_append]
theorem fV_one (v : Bool) (x : UInt8) (h : x ≠ 38) : fV v [x] = escB v x := by
  unfold fV escB
  rw [if_neg h]
  cases v with
  | true => by_cases e : x = 34 <;> simp [e]
  | false =>
    by_cases e : x = 60
    · subst e; decide
    · by_cases e2 : x = 62 <;> simp [e, e2]
theorem fA_cons (x : UInt8) (t : List UInt8) : fA (x :: t) = (if x = 38 then ampL else [x]) ++ fA t := List.flatMap_cons
theorem R2_amp (l : List UInt8) : R2 (ampL ++ l) = ampL ++ R2 l := by
  show R2 (38 :: 97 :: 109 :: 112 :: 59 :: l) = _
  rw [R2_skip (by decide), R2_skip (by decide), R2_skip (by decide), R2_skip (by decide), R2_skip (by decide)]; rfl
theorem fV_amp (v : Bool) : fV v ampL = ampL := by cases v <;> decide
theorem fV_nbsp (v : Bool) : fV v nbspL = nbspL := by cases v <;> decide
theorem escL_cons {v : Bool} {x : UInt8} (t : List UInt8) (h : ∀ r, ¬ (x = 194 ∧ t = 160 :: r)) : escL v (x :: t) = escB v x ++ escL v t := by
  cases t with
  | nil => simp [escL]
  | cons y r => rw [escL, if_neg (fun e => h r ⟨e.1, by rw [e.2]⟩)]
theorem esc_same (v : Bool) : ∀ (n : Nat) (s : List UInt8), s.length ≤ n → fV v (R2 (fA s)) = escL v s := by
  intro n
  induction n with
  | zero => intro s h; cases s with | nil => simp [fA, R2_nil, escL, fV] | cons x t => simp at h
  | succ n ih =>
    intro s h
    cases s with
    | nil => simp [fA, R2_nil, escL, fV]
    | cons x t =>
      have iht := ih t (by simpa using h)
      rw [fA_cons]
      by_cases e : x = 38
      · subst e
        rw [if_pos rfl, R2_amp, fV_app, fV_amp, iht, escL_cons _ (fun r h => absurd h.1 (by decide))]; rfl
      · rw [if_neg e]
        by_cases e2 : x = 194
        · subst e2
          cases t with
          | nil =>
            show fV v (R2 [194]) = escL v [194]
            rw [R2_one, fV_one v 194 (by decide)]; rfl
          | cons y r =>
            by_cases e3 : y = 160
            · subst e3
              have ihr := ih r (by simp at h; omega)
              rw [fA_cons, if_neg (by decide)]
              show fV v (R2 (194 :: 160 :: fA r)) = _
              rw [R2_hit, fV_app, fV_nbsp, ihr]; simp [escL]
            · rw [escL_cons _ (fun r h => e3 (by have := h.2; simp at this; exact this.1)), ← iht, ← fV_one v 194 (by decide), ← fV_app]
              have : ∃ z q, fA (y :: r) = z :: q ∧ z ≠ 160 := by
                rw [fA_cons]
                by_cases e4 : y = 38
                · rw [if_pos e4]; exact ⟨38, _, rfl, by decide⟩
                · rw [if_neg e4]; exact ⟨y, _, rfl, e3⟩
              obtain ⟨z, q, hz, hz2⟩ := this
              rw [hz]
              show fV v (R2 (194 :: z :: q)) = _
              rw [R2_not hz2]; rfl
        · show fV v (R2 (x :: fA t)) = _
          rw [R2_skip e2, escL_cons _ (fun r h => e2 h.1), ← iht, ← fV_one v x e, ← fV_app]; rfl
end

end Go.Proofs.YtlnmmcipioagaaaDoor.Y
