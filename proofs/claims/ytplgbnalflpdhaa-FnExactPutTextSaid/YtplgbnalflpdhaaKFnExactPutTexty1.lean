/- Plain lemmas over numbers and lists for FnExactPutText. Conditions: as each states. -/
import Derived.Test.YtplgbnalflpdhaaKFnExactPutTextx1
/- Plain lemmas over numbers and lists (base). Conditions: as each states. -/
namespace Go.Proofs.Ytplgbnalflpdhaa.Y
open Go.RowKit Go.Proofs.Ytplgbnalflpdhaa.X Go.Proofs.YtplgbnalflpdhaaW.PrintWords Go.Proofs.YtplgbnalflpdhaaW.PrintLast Go.Proofs.YtplgbnalflpdhaaW.PrintMore Go.Proofs.Ytplgbnalflpdhaa.Y
set_option linter.unusedVariables false
set_option linter.unusedSimpArgs false
theorem wf64 {x : Int} (h : (Lit.int .i64 x).wf = true) : -9223372036854775808 ≤ x ∧ x ≤ 9223372036854775807 := by
  simp only [Lit.wf, Bool.and_eq_true, decide_eq_true_eq] at h
  exact h
theorem wf8 {x : Int} (h : (Lit.int .u8 x).wf = true) : 0 ≤ x ∧ x ≤ 255 := by
  simp only [Lit.wf, Bool.and_eq_true, decide_eq_true_eq] at h
  exact h
theorem w64 {x : Int} (h : -9223372036854775808 ≤ x) (h' : x ≤ 9223372036854775807) : wrap64 x = x := by unfold wrap64; omega
theorem w64_range (x : Int) : -9223372036854775808 ≤ wrap64 x ∧ wrap64 x ≤ 9223372036854775807 := by unfold wrap64; omega
theorem ev_pos {α : Type} {c : Prop} [Decidable c] {g f : Nat → Option α} {r : α} (hc : c) (h : Ev g r) : Ev (fun k => if c then g k else f k) r := by
  simpa only [if_pos hc] using h
theorem ev_neg {α : Type} {c : Prop} [Decidable c] {g f : Nat → Option α} {r : α} (hc : ¬ c) (h : Ev f r) : Ev (fun k => if c then g k else f k) r := by
  simpa only [if_neg hc] using h
theorem ev_const {α : Type} {g : Option α} {r : α} (h : g = some r) : Ev (fun _ => g) r := ⟨0, fun _ _ => h⟩
theorem ev_some {α : Type} {r r' : α} (h : r = r') : Ev (fun _ => some r) r' := ⟨0, fun _ _ => by rw [h]⟩
theorem ev_bindS {α β : Type} {g : Option α} {f : Nat → α → Option β} {a : α} {r : β} (h : g = some a) (k : Ev (fun n => f n a) r) : Ev (fun n => g.bind (f n)) r := by
  subst h; exact k
theorem rd_app_left {xs ys : List Int} {i : Int} (h0 : 0 ≤ i) (h : i < xs.length) : rd (xs ++ ys) i = rd xs i := by
  unfold rd; rw [List.getD_eq_getElem?_getD, List.getD_eq_getElem?_getD, List.getElem?_append_left (by omega)]
theorem rd_drop {xs : List Int} {i : Int} {v : Int} {ys : List Int} (h : xs.drop i.toNat = v :: ys) : rd xs i = v := by
  unfold rd
  have : xs[i.toNat]? = some v := by
    have := congrArg (fun l => l[0]?) h
    simpa using this
  rw [List.getD_eq_getElem?_getD, this]; rfl
/-- One round: what follows is read off by 'simp only [F.j0]'. -/
theorem ev_succ {α : Type} {g : Nat → Option α} {r : α} (h : Ev (fun k => g (k + 1)) r) : Ev g r := Ev.step (fun _ => rfl) h
theorem ev_cast {α : Type} {g : Nat → Option α} {r r' : α} (h : Ev g r) (e : r = r') : Ev g r' := by subst e; exact h

end Go.Proofs.Ytplgbnalflpdhaa.Y

/- Plain lemmas over numbers and lists (eqByteS). Conditions: as each states. -/
namespace Go.Proofs.Ytplgbnalflpdhaa.Y
open Go.RowKit Go.Proofs.Ytplgbnalflpdhaa.X Go.Proofs.YtplgbnalflpdhaaW.PrintWords Go.Proofs.YtplgbnalflpdhaaW.PrintLast Go.Proofs.YtplgbnalflpdhaaW.PrintMore Go.Proofs.Ytplgbnalflpdhaa.Y
set_option linter.unusedVariables false
set_option linter.unusedSimpArgs false
theorem eqByteS_l (l : List Int) (hl : l.length ≤ 9223372036854775807) : ∀ (d : Nat) (i : Int), 0 ≤ i → i + d = l.length → Ev (fun k => laws_eqByteS.l0 k l l i) true := by
  intro d
  induction d with
  | zero =>
    intro i h0 h
    refine Ev.step (f := fun _ => some true) (fun k => ?_) (Ev.now _)
    simp only [laws_eqByteS.l0]; rw [if_neg (by omega)]
  | succ d ih =>
    intro i h0 h
    refine Ev.step (f := fun k => laws_eqByteS.l0 k l l (i + 1)) (fun k => ?_) (ih (i + 1) (by omega) (by omega))
    simp only [laws_eqByteS.l0]; rw [if_pos (by omega), if_pos h0, if_pos (by omega), if_pos True.intro, w64 (by omega) (by omega)]
theorem eqByteS_same (l : List Int) (hl : l.length ≤ 9223372036854775807) : Ev (fun k => laws_eqByteS.f k l l) true := by
  refine Ev.congr (f := fun k => laws_eqByteS.l0 k l l 0) (fun k => ?_) (eqByteS_l l hl l.length 0 (by omega) (by omega))
  simp only [laws_eqByteS.f]; rw [if_pos True.intro]

end Go.Proofs.Ytplgbnalflpdhaa.Y

/- Plain lemmas over numbers and lists (markB). Conditions: as each states. -/
namespace Go.Proofs.Ytplgbnalflpdhaa.Y
open Go.RowKit Go.Proofs.Ytplgbnalflpdhaa.X Go.Proofs.YtplgbnalflpdhaaW.PrintWords Go.Proofs.YtplgbnalflpdhaaW.PrintLast Go.Proofs.YtplgbnalflpdhaaW.PrintMore Go.Proofs.Ytplgbnalflpdhaa.Y
set_option linter.unusedVariables false
set_option linter.unusedSimpArgs false
def markB (c : Int) : Nat → List Int
  | 0 => []
  | n + 1 => (c % 256) :: markB (c + 1) n
theorem markB_len (n : Nat) : ∀ c, (markB c n).length = n := by
  induction n with
  | zero => intro c; rfl
  | succ n ih => intro c; simp [markB, ih]

end Go.Proofs.Ytplgbnalflpdhaa.Y

/- Plain lemmas over numbers and lists (markByteS). Conditions: as each states. -/
namespace Go.Proofs.Ytplgbnalflpdhaa.Y
open Go.RowKit Go.Proofs.Ytplgbnalflpdhaa.X Go.Proofs.YtplgbnalflpdhaaW.PrintWords Go.Proofs.YtplgbnalflpdhaaW.PrintLast Go.Proofs.YtplgbnalflpdhaaW.PrintMore Go.Proofs.Ytplgbnalflpdhaa.Y
set_option linter.unusedVariables false
set_option linter.unusedSimpArgs false
theorem markByteS_l (n : Nat) (hn : n ≤ 4611686018427387903) : ∀ (d : Nat) (l : List Int) (c i : Int), l.length = n → 0 ≤ i → i + d = n → 0 ≤ c → c + d ≤ 4611686018427387903 →
    Ev (fun k => laws_markByteS.l0 k l c i) (c + d, l.take i.toNat ++ markB c d) := by
  intro d
  induction d with
  | zero =>
    intro l c i hl h0 h hc hd
    refine Ev.step (f := fun _ => some (c, l)) (fun k => ?_) (ev_some ?_)
    · simp only [laws_markByteS.l0]; rw [if_neg (by omega)]
    · simp [markB, List.take_of_length_le (show l.length ≤ i.toNat by omega)]
  | succ d ih =>
    intro l c i hl h0 h hc hd
    have e : (l.set i.toNat (c % 256)).take (i + 1).toNat = l.take i.toNat ++ [c % 256] := by
      have : (i + 1).toNat = i.toNat + 1 := by omega
      rw [this, List.take_succ_eq_append_getElem (by simp; omega), List.take_set_of_le (Nat.le_refl _)]
      simp
    refine Ev.step (f := fun k => laws_markByteS.l0 k (l.set i.toNat (c % 256)) (c + 1) (i + 1)) (fun k => ?_) ?_
    · simp only [laws_markByteS.l0]; rw [if_pos (by omega), if_pos h0, w64 (by omega) (by omega), w64 (by omega) (by omega)]
    · have := ih (l.set i.toNat (c % 256)) (c + 1) (i + 1) (by simp [hl]) (by omega) (by omega) (by omega) (by omega)
      rw [e] at this
      simp only [List.append_assoc, List.singleton_append] at this
      have h2 : c + 1 + (d : Int) = c + ((d + 1 : Nat) : Int) := by omega
      rw [h2] at this
      exact this
theorem markByteS_ev (l : List Int) (c : Int) (hc : 0 ≤ c) (h : c + l.length ≤ 4611686018427387903) : Ev (fun k => laws_markByteS.f k l c) (c + l.length, markB c l.length) := by
  have := markByteS_l l.length (by omega) l.length l c 0 rfl (by omega) (by omega) hc h
  simpa [laws_markByteS.f] using this

end Go.Proofs.Ytplgbnalflpdhaa.Y

/- Plain lemmas over numbers and lists (heldByteS). Conditions: as each states. -/
namespace Go.Proofs.Ytplgbnalflpdhaa.Y
open Go.RowKit Go.Proofs.Ytplgbnalflpdhaa.X Go.Proofs.YtplgbnalflpdhaaW.PrintWords Go.Proofs.YtplgbnalflpdhaaW.PrintLast Go.Proofs.YtplgbnalflpdhaaW.PrintMore Go.Proofs.Ytplgbnalflpdhaa.Y
set_option linter.unusedVariables false
set_option linter.unusedSimpArgs false
theorem heldByteS_l (n : Nat) (hn : n ≤ 4611686018427387903) (l : List Int) (hl : l.length = n) : ∀ (d : Nat) (c i : Int), 0 ≤ i → i + d = n → 0 ≤ c → c + d ≤ 4611686018427387903 → l.drop i.toNat = markB c d →
    Ev (fun k => laws_heldByteS.l0 k l c i) (c + d) := by
  intro d
  induction d with
  | zero =>
    intro c i h0 h hc hd hm
    refine Ev.step (f := fun _ => some c) (fun k => ?_) (ev_some (by omega))
    simp only [laws_heldByteS.l0]; rw [if_neg (by omega)]
  | succ d ih =>
    intro c i h0 h hc hd hm
    have hr : rd l i = c % 256 := rd_drop (by rw [hm]; rfl)
    have h2 : c + 1 + (d : Int) = c + ((d + 1 : Nat) : Int) := by omega
    refine Ev.step (f := fun k => laws_heldByteS.l0 k l (c + 1) (i + 1)) (fun k => ?_) ?_
    · simp only [laws_heldByteS.l0]; rw [if_pos (by omega), if_pos h0, if_pos hr, w64 (by omega) (by omega), w64 (by omega) (by omega)]
    · rw [← h2]
      refine ih (c + 1) (i + 1) (by omega) (by omega) (by omega) (by omega) ?_
      have e : (i + 1).toNat = i.toNat + 1 := by omega
      rw [e, ← List.drop_drop, hm]; rfl
theorem heldByteS_ev (n : Nat) (c : Int) (hc : 0 ≤ c) (h : c + n ≤ 4611686018427387903) : Ev (fun k => laws_heldByteS.f k (markB c n) c) (c + n) := by
  have := heldByteS_l n (by omega) (markB c n) (markB_len n c) n c 0 (by omega) (by omega) hc h (by simp)
  simpa [laws_heldByteS.f] using this

end Go.Proofs.Ytplgbnalflpdhaa.Y

/- Plain lemmas over numbers and lists (num). Conditions: as each states. -/
namespace Go.Proofs.Ytplgbnalflpdhaa.Y
open Go.RowKit Go.Proofs.Ytplgbnalflpdhaa.X Go.Proofs.YtplgbnalflpdhaaW.PrintWords Go.Proofs.YtplgbnalflpdhaaW.PrintLast Go.Proofs.YtplgbnalflpdhaaW.PrintMore Go.Proofs.Ytplgbnalflpdhaa.Y
set_option linter.unusedVariables false
set_option linter.unusedSimpArgs false
def numForm : Nat → Int → List Int
  | 0, x => [x]
  | n + 1, x => if x > 127 then (x % 128 + 128) :: numForm n (x / 128) else [x]
theorem numForm_len (n : Nat) : ∀ x, (numForm n x).length ≤ n + 1 := by
  induction n with
  | zero => intro x; simp [numForm]
  | succ n ih => intro x; unfold numForm; split <;> simp [ih]
theorem wraps_i64 (n : Int) (h₀ : 0 ≤ n) (h₁ : n < 2 ^ 63) : IntKind.i64.wrap n = n := by rw [IntKind.wrap_i64]; omega
theorem and127 {x : Int} (h0 : 0 ≤ x) (h1 : x ≤ 9223372036854775807) : Go.bits .and .i64 x 127 = x % 128 := bits_mask .i64 63 (by decide) wraps_i64 7 (by decide) x h0 (by omega)
theorem or128 {y : Int} (h0 : 0 ≤ y) (h1 : y < 128) : Go.bits .or .i64 128 y = 128 + y := bits_join .i64 63 (by decide) wraps_i64 7 128 y (by decide) (by decide) (by decide) h0 h1 (by omega)
theorem pow128 (x : Int) (n : Nat) (h : x < 128 ^ (n + 1 + 1)) : x / 128 < 128 ^ (n + 1) := by
  rw [Int.pow_succ] at h
  generalize (128 : Int) ^ (n + 1) = p at *
  omega

end Go.Proofs.Ytplgbnalflpdhaa.Y

/- Plain lemmas over numbers and lists (specnum). Conditions: as each states. -/
namespace Go.Proofs.Ytplgbnalflpdhaa.Y
open Go.RowKit Go.Proofs.Ytplgbnalflpdhaa.X Go.Proofs.YtplgbnalflpdhaaW.PrintWords Go.Proofs.YtplgbnalflpdhaaW.PrintLast Go.Proofs.YtplgbnalflpdhaaW.PrintMore Go.Proofs.Ytplgbnalflpdhaa.Y
set_option linter.unusedVariables false
set_option linter.unusedSimpArgs false
theorem spec_PutNum_l (n : Nat) : ∀ (x : Int) (acc : List Int), 0 ≤ x → x ≤ 9223372036854775807 → x < 128 ^ (n + 1) → acc.length + n < 140737488355328 →
    Ev (fun k => spec_PutNum.l0 k x acc) (acc ++ numForm n x) := by
  induction n with
  | zero =>
    intro x acc h0 h1 h2 hl
    have : x < 128 := by simpa using h2
    refine Ev.step (f := fun _ => some (acc ++ [x])) (fun k => ?_) (Ev.now _)
    simp only [spec_PutNum.l0]; rw [if_neg (by omega), if_pos (by omega), Int.emod_eq_of_lt h0 (by omega)]
  | succ n ih =>
    intro x acc h0 h1 h2 hl
    by_cases hx : x > 127
    · refine Ev.step (f := fun k => spec_PutNum.l0 k (x / 128) (acc ++ [x % 128 + 128])) (fun k => ?_) ?_
      · simp only [spec_PutNum.l0]; rw [if_pos hx, if_pos (by omega), Int.tdiv_eq_ediv_of_nonneg h0, Int.tmod_eq_emod_of_nonneg h0, w64 (by omega) (by omega), w64 (by omega) (by omega), Int.emod_eq_of_lt (by omega) (by omega)]
      · have := ih (x / 128) (acc ++ [x % 128 + 128]) (by omega) (by omega) (pow128 x n h2) (by simp; omega)
        simpa [numForm, hx] using this
    · refine Ev.step (f := fun _ => some (acc ++ [x])) (fun k => ?_) (ev_some (by simp [numForm, hx]))
      simp only [spec_PutNum.l0]; rw [if_neg hx, if_pos (by omega), Int.emod_eq_of_lt h0 (by omega)]
theorem spec_PutNum_ev (x : Int) (h1 : x ≤ 9223372036854775807) : Ev (fun k => spec_PutNum.f k x) (if x < 0 then [] else numForm 8 x) := by
  unfold spec_PutNum.f
  simp only [Option.bind_some]
  by_cases h : x < 0
  · simp only [if_pos h]; exact Ev.now _
  · simp only [if_neg h]
    simpa using spec_PutNum_l 8 x [] (by omega) h1 (by omega) (by simp)

end Go.Proofs.Ytplgbnalflpdhaa.Y

/- Plain lemmas over numbers and lists (implnum). Conditions: as each states. -/
namespace Go.Proofs.Ytplgbnalflpdhaa.Y
open Go.RowKit Go.Proofs.Ytplgbnalflpdhaa.X Go.Proofs.YtplgbnalflpdhaaW.PrintWords Go.Proofs.YtplgbnalflpdhaaW.PrintLast Go.Proofs.YtplgbnalflpdhaaW.PrintMore Go.Proofs.Ytplgbnalflpdhaa.Y
set_option linter.unusedVariables false
set_option linter.unusedSimpArgs false
theorem impl_putNum_ev (n : Nat) : ∀ (x : Int) (acc : List Int), 0 ≤ x → x ≤ 9223372036854775807 → x < 128 ^ (n + 1) → acc.length + n < 140737488355328 →
    Ev (fun k => impl_putNum.l0 k acc x) (acc ++ numForm n x) := by
  induction n with
  | zero =>
    intro x acc h0 h1 h2 hl
    have : x < 128 := by simpa using h2
    refine Ev.step (f := fun _ => some (acc ++ [x])) (fun k => ?_) (Ev.now _)
    simp only [impl_putNum.l0]; rw [if_neg (by omega), if_pos (by omega), Int.emod_eq_of_lt h0 (by omega)]
  | succ n ih =>
    intro x acc h0 h1 h2 hl
    by_cases hx : x > 127
    · refine Ev.step (f := fun k => impl_putNum.l0 k (acc ++ [x % 128 + 128]) (x / 128)) (fun k => ?_) ?_
      · simp only [impl_putNum.l0]; rw [if_pos hx, if_pos (by omega), and127 h0 h1, or128 (by omega) (by omega), Int.emod_eq_of_lt (by omega) (by omega), Int.add_comm]
      · have := ih (x / 128) (acc ++ [x % 128 + 128]) (by omega) (by omega) (pow128 x n h2) (by simp; omega)
        simpa [numForm, hx] using this
    · refine Ev.step (f := fun _ => some (acc ++ [x])) (fun k => ?_) (ev_some (by simp [numForm, hx]))
      simp only [impl_putNum.l0]; rw [if_neg hx, if_pos (by omega), Int.emod_eq_of_lt h0 (by omega)]
theorem impl_putNum_at (x : Int) (acc : List Int) (h0 : 0 ≤ x) (h1 : x ≤ 9223372036854775807) (hl : acc.length + 8 < 140737488355328) : Ev (fun k => impl_putNum.f k acc x) (acc ++ numForm 8 x) :=
  impl_putNum_ev 8 x acc h0 h1 (by omega) hl

end Go.Proofs.Ytplgbnalflpdhaa.Y

/- Plain lemmas over numbers and lists (putText). Conditions: as each states. -/
namespace Go.Proofs.Ytplgbnalflpdhaa.Y
open Go.RowKit Go.Proofs.Ytplgbnalflpdhaa.X Go.Proofs.YtplgbnalflpdhaaW.PrintWords Go.Proofs.YtplgbnalflpdhaaW.PrintLast Go.Proofs.YtplgbnalflpdhaaW.PrintMore Go.Proofs.Ytplgbnalflpdhaa.Y
set_option linter.unusedVariables false
set_option linter.unusedSimpArgs false
def putText (s : ByteArray) : List Int := numForm 8 s.size ++ bytesOf s
theorem putText_len (s : ByteArray) : (putText s).length ≤ 9 + s.size := by
  have := numForm_len 8 s.size
  unfold putText; rw [List.length_append, bytesOf_length]; omega
theorem spec_PutText_ev (s : ByteArray) (h : s.size ≤ 1048576) : Ev (fun k => spec_PutText.f k s) (putText s) := by
  unfold spec_PutText.f
  have hn := spec_PutNum_ev (s.size : Int) (by omega)
  rw [if_neg (by omega)] at hn
  have hl := numForm_len 8 s.size
  refine Ev.bind hn (ev_pos (by omega) ?_)
  simp only [Option.bind_some]
  exact ev_pos (by rw [bytesOf_length]; omega) (Ev.now _)
theorem impl_putText_at (l : List Int) (s : ByteArray) (h : s.size ≤ 1048576) (hl : l.length ≤ 1000000000) : Ev (fun k => impl_putText.f k l s) (l ++ putText s) := by
  unfold impl_putText.f putText
  have hn := impl_putNum_at (s.size : Int) l (by omega) (by omega) (by omega)
  have hm := numForm_len 8 s.size
  refine Ev.bind hn (ev_pos (by rw [List.length_append]; omega) (ev_some (by rw [List.append_assoc])))
theorem impl_PutText_ev (s : ByteArray) (h : s.size ≤ 1048576) : Ev (fun k => impl_PutText.f k s) (putText s) := by
  unfold impl_PutText.f
  exact Ev.bind (impl_putText_at [] s h (by simp)) (Ev.now _)

end Go.Proofs.Ytplgbnalflpdhaa.Y

