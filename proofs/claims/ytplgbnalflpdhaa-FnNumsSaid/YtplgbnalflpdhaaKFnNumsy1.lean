/- Plain lemmas over numbers and lists for FnNums. Conditions: as each states. -/
import Derived.Lib.Bytes
import Derived.Lib.LazyBuf
import Derived.Test.YtplgbnalflpdhaaKFnNumsx2
/- Plain lemmas over numbers and lists (base). Conditions: as each states. -/
namespace Go.Proofs.Ytplgbnalflpdhaa.Y
open Go.RowKit Go.Proofs.Ytplgbnalflpdhaa.X Go.Proofs.YtplgbnalflpdhaaW.PrintWords Go.Proofs.YtplgbnalflpdhaaW.PrintLast Go.Proofs.YtplgbnalflpdhaaW.PrintMore Go.Proofs.Ytplgbnalflpdhaa.Y
set_option linter.unusedVariables false
set_option linter.unusedSimpArgs false
theorem wf64 {x : Int} (h : (Lit.int .i64 x).wf = true) : -9223372036854775808 ≤ x ∧ x ≤ 9223372036854775807 := by
  simp only [Lit.wf, Bool.and_eq_true, decide_eq_true_eq] at h
  exact h
theorem wf8 {x : Int} (h : (Lit.int .u8 x).wf = true) : 0 ≤ x ∧ x ≤ 255 := by
  simp only [Lit.wf, Bool.and_eq_true, decide_eq_true_eq] at h
  exact h
theorem w64 {x : Int} (h : -9223372036854775808 ≤ x) (h' : x ≤ 9223372036854775807) : wrap64 x = x := by unfold wrap64; omega
theorem w64_range (x : Int) : -9223372036854775808 ≤ wrap64 x ∧ wrap64 x ≤ 9223372036854775807 := by unfold wrap64; omega
theorem ev_pos {α : Type} {c : Prop} [Decidable c] {g f : Nat → Option α} {r : α} (hc : c) (h : Ev g r) : Ev (fun k => if c then g k else f k) r := by
  simpa only [if_pos hc] using h
theorem ev_neg {α : Type} {c : Prop} [Decidable c] {g f : Nat → Option α} {r : α} (hc : ¬ c) (h : Ev f r) : Ev (fun k => if c then g k else f k) r := by
  simpa only [if_neg hc] using h
theorem ev_const {α : Type} {g : Option α} {r : α} (h : g = some r) : Ev (fun _ => g) r := ⟨0, fun _ _ => h⟩
theorem ev_some {α : Type} {r r' : α} (h : r = r') : Ev (fun _ => some r) r' := ⟨0, fun _ _ => by rw [h]⟩
theorem ev_bindS {α β : Type} {g : Option α} {f : Nat → α → Option β} {a : α} {r : β} (h : g = some a) (k : Ev (fun n => f n a) r) : Ev (fun n => g.bind (f n)) r := by
  subst h; exact k
theorem rd_app_left {xs ys : List Int} {i : Int} (h0 : 0 ≤ i) (h : i < xs.length) : rd (xs ++ ys) i = rd xs i := by
  unfold rd; rw [List.getD_eq_getElem?_getD, List.getD_eq_getElem?_getD, List.getElem?_append_left (by omega)]
theorem rd_drop {xs : List Int} {i : Int} {v : Int} {ys : List Int} (h : xs.drop i.toNat = v :: ys) : rd xs i = v := by
  unfold rd
  have : xs[i.toNat]? = some v := by
    have := congrArg (fun l => l[0]?) h
    simpa using this
  rw [List.getD_eq_getElem?_getD, this]; rfl
/-- One round: what follows is read off by 'simp only [F.j0]'. -/
theorem ev_succ {α : Type} {g : Nat → Option α} {r : α} (h : Ev (fun k => g (k + 1)) r) : Ev g r := Ev.step (fun _ => rfl) h
theorem ev_cast {α : Type} {g : Nat → Option α} {r r' : α} (h : Ev g r) (e : r = r') : Ev g r' := by subst e; exact h

end Go.Proofs.Ytplgbnalflpdhaa.Y

/- Plain lemmas over numbers and lists (num). Conditions: as each states. -/
namespace Go.Proofs.Ytplgbnalflpdhaa.Y
open Go.RowKit Go.Proofs.Ytplgbnalflpdhaa.X Go.Proofs.YtplgbnalflpdhaaW.PrintWords Go.Proofs.YtplgbnalflpdhaaW.PrintLast Go.Proofs.YtplgbnalflpdhaaW.PrintMore Go.Proofs.Ytplgbnalflpdhaa.Y
set_option linter.unusedVariables false
set_option linter.unusedSimpArgs false
def numForm : Nat → Int → List Int
  | 0, x => [x]
  | n + 1, x => if x > 127 then (x % 128 + 128) :: numForm n (x / 128) else [x]
theorem numForm_len (n : Nat) : ∀ x, (numForm n x).length ≤ n + 1 := by
  induction n with
  | zero => intro x; simp [numForm]
  | succ n ih => intro x; unfold numForm; split <;> simp [ih]
theorem wraps_i64 (n : Int) (h₀ : 0 ≤ n) (h₁ : n < 2 ^ 63) : IntKind.i64.wrap n = n := by rw [IntKind.wrap_i64]; omega
theorem and127 {x : Int} (h0 : 0 ≤ x) (h1 : x ≤ 9223372036854775807) : Go.bits .and .i64 x 127 = x % 128 := bits_mask .i64 63 (by decide) wraps_i64 7 (by decide) x h0 (by omega)
theorem or128 {y : Int} (h0 : 0 ≤ y) (h1 : y < 128) : Go.bits .or .i64 128 y = 128 + y := bits_join .i64 63 (by decide) wraps_i64 7 128 y (by decide) (by decide) (by decide) h0 h1 (by omega)
theorem pow128 (x : Int) (n : Nat) (h : x < 128 ^ (n + 1 + 1)) : x / 128 < 128 ^ (n + 1) := by
  rw [Int.pow_succ] at h
  generalize (128 : Int) ^ (n + 1) = p at *
  omega

end Go.Proofs.Ytplgbnalflpdhaa.Y

/- Plain lemmas over numbers and lists (draw). Conditions: as each states. -/
namespace Go.Proofs.Ytplgbnalflpdhaa.Y
open Go.RowKit Go.Proofs.Ytplgbnalflpdhaa.X Go.Proofs.YtplgbnalflpdhaaW.PrintWords Go.Proofs.YtplgbnalflpdhaaW.PrintLast Go.Proofs.YtplgbnalflpdhaaW.PrintMore Go.Proofs.Ytplgbnalflpdhaa.Y
set_option linter.unusedVariables false
set_option linter.unusedSimpArgs false
theorem and_range (x : Int) (m : Nat) (hm : m < 2 ^ 31) : 0 ≤ Go.bits .and .i64 x m ∧ Go.bits .and .i64 x m ≤ m := by
  have h : (BitVec.ofInt IntKind.i64.bits x &&& BitVec.ofInt IntKind.i64.bits (m : Int)).toNat ≤ m := by
    rw [BitVec.toNat_and]
    refine Nat.le_trans Nat.and_le_right ?_
    rw [BitVec.ofInt_natCast, BitVec.toNat_ofNat]
    exact Nat.mod_le _ _
  simp only [Go.bits]
  generalize (BitVec.ofInt IntKind.i64.bits x &&& BitVec.ofInt IntKind.i64.bits (m : Int)).toNat = t at *
  rw [wraps_i64 _ (by omega) (by omega)]
  omega
theorem l1Byte_ok (l : List Int) (i h : Int) (hl : l.length ≤ 1048576) (h0 : 0 ≤ i) (h1 : i ≤ l.length) : ∃ v i' h', spec_l1Byte.f l i h = some (v, i', h') ∧ (0 ≤ v ∧ v ≤ 255) ∧ 0 ≤ i' ∧ i' ≤ l.length := by
  unfold spec_l1Byte.f
  by_cases c : i < l.length
  · rw [if_pos c, if_pos h0, w64 (x := i + 1) (by omega) (by omega)]
    exact ⟨_, _, _, rfl, and_range _ 255 (by decide), by omega, by omega⟩
  · rw [if_neg c]
    exact ⟨_, _, _, rfl, and_range _ 255 (by decide), h0, h1⟩
theorem l1Below_ok (l : List Int) (i h n : Int) (hl : l.length ≤ 1048576) (h0 : 0 ≤ i) (h1 : i ≤ l.length) (hn : n ≤ 1000000000) : ∃ v i' h', spec_l1Below.f l i h n = some (v, i', h') ∧ (0 ≤ v ∧ (v < n ∨ n ≤ 0 ∧ v = 0)) ∧ 0 ≤ i' ∧ i' ≤ l.length := by
  unfold spec_l1Below.f
  by_cases c : n ≤ 0
  · rw [if_pos c]; exact ⟨_, _, _, rfl, ⟨by omega, .inr ⟨c, rfl⟩⟩, h0, h1⟩
  · rw [if_neg c]
    by_cases d : n ≤ 256
    · obtain ⟨v, i', h', e, hv, hi⟩ := l1Byte_ok l i h hl h0 h1
      rw [if_pos d, e]
      refine ⟨_, _, _, by rw [Option.bind_some, if_neg (by omega)], ⟨?_, .inl ?_⟩, hi⟩
      · rw [Int.tmod_eq_emod_of_nonneg hv.1]; exact Int.emod_nonneg _ (by omega)
      · rw [Int.tmod_eq_emod_of_nonneg hv.1]; exact Int.emod_lt_of_pos _ (by omega)
    · obtain ⟨v1, i1, h1', e1, hv1, hi1⟩ := l1Byte_ok l i h hl h0 h1
      obtain ⟨v2, i2, h2', e2, hv2, hi2⟩ := l1Byte_ok l i1 h1' hl hi1.1 hi1.2
      obtain ⟨v3, i3, h3', e3, hv3, hi3⟩ := l1Byte_ok l i2 h2' hl hi2.1 hi2.2
      obtain ⟨v4, i4, h4', e4, hv4, hi4⟩ := l1Byte_ok l i3 h3' hl hi3.1 hi3.2
      rw [if_neg d, e1, Option.bind_some, e2, Option.bind_some, e3, Option.bind_some, e4, Option.bind_some, if_neg (by omega)]
      have hw : wrap64 ((wrap64 ((wrap64 ((wrap64 (v1 * 16777216)) + (wrap64 (v2 * 65536)))) + (wrap64 (v3 * 256)))) + v4) = v1 * 16777216 + v2 * 65536 + v3 * 256 + v4 := by
        rw [w64 (x := v1 * _) (by omega) (by omega), w64 (x := v2 * _) (by omega) (by omega), w64 (x := v3 * _) (by omega) (by omega), w64 (x := v1 * 16777216 + v2 * 65536) (by omega) (by omega), w64 (x := v1 * 16777216 + v2 * 65536 + v3 * 256) (by omega) (by omega), w64 (by omega) (by omega)]
      refine ⟨_, _, _, rfl, ⟨?_, .inl ?_⟩, hi4⟩
      · simp only [hw]; rw [Int.tmod_eq_emod_of_nonneg (by omega)]; exact Int.emod_nonneg _ (by omega)
      · simp only [hw]; rw [Int.tmod_eq_emod_of_nonneg (by omega)]; exact Int.emod_lt_of_pos _ (by omega)
theorem l1PickInt_ok (l : List Int) (i h : Int) (m : List Int) (hl : l.length ≤ 1048576) (h0 : 0 ≤ i) (h1 : i ≤ l.length) (hm : 0 < m.length) (hm2 : m.length ≤ 1000) : ∃ v i' h', spec_l1PickInt.f l i h m = some (v, i', h') ∧ v ∈ m ∧ 0 ≤ i' ∧ i' ≤ l.length := by
  unfold spec_l1PickInt.f
  obtain ⟨v, i', h', e, hv, hi⟩ := l1Below_ok l i h m.length hl h0 h1 (by omega)
  rw [e, Option.bind_some, if_pos hv.1, if_pos (by show v < _; omega)]
  refine ⟨_, _, _, rfl, ?_, hi⟩
  show rd m v ∈ m
  unfold rd
  rw [List.getD_eq_getElem?_getD, List.getElem?_eq_getElem (by omega)]
  exact List.getElem_mem _

end Go.Proofs.Ytplgbnalflpdhaa.Y

/- Plain lemmas over numbers and lists (draw2). Conditions: as each states. -/
namespace Go.Proofs.Ytplgbnalflpdhaa.Y
open Go.RowKit Go.Proofs.Ytplgbnalflpdhaa.X Go.Proofs.YtplgbnalflpdhaaW.PrintWords Go.Proofs.YtplgbnalflpdhaaW.PrintLast Go.Proofs.YtplgbnalflpdhaaW.PrintMore Go.Proofs.Ytplgbnalflpdhaa.Y
set_option linter.unusedVariables false
set_option linter.unusedSimpArgs false
theorem l1New_l0 (l : List Int) (hl : l.length ≤ 1048576) : ∀ (d : Nat) (i h : Int), 0 ≤ i → i + d = l.length → ∃ h', Ev (fun k => spec_l1New.l0 k l h i) (l, 0, h') := by
  intro d
  induction d with
  | zero =>
    intro i h h0 hd
    exact ⟨h, Ev.step (f := fun _ => some (l, 0, h)) (fun k => by simp only [spec_l1New.l0]; rw [if_neg (by omega)]) (Ev.now _)⟩
  | succ d ih =>
    intro i h h0 hd
    by_cases c : i < 4000
    · obtain ⟨h', e⟩ := ih (i + 1) (Go.bits .and .i64 (wrap64 ((wrap64 ((wrap64 (h * 131)) + (wrap64 (rd l i)))) + 7)) 1073741823) (by omega) (by omega)
      refine ⟨h', Ev.step (fun k => ?_) e⟩
      simp only [spec_l1New.l0]; rw [if_pos (by omega), if_pos c, if_pos h0, w64 (x := i + 1) (by omega) (by omega)]
    · exact ⟨h, Ev.step (f := fun _ => some (l, 0, h)) (fun k => by simp only [spec_l1New.l0]; rw [if_pos (by omega), if_neg c]) (Ev.now _)⟩
theorem l1New_ok (l : List Int) (hl : l.length ≤ 1048576) : ∃ h', Ev (fun k => spec_l1New.f k l) (l, 0, h') := by
  unfold spec_l1New.f
  exact l1New_l0 l hl l.length 0 _ (by omega) (by omega)

end Go.Proofs.Ytplgbnalflpdhaa.Y

/- Plain lemmas over numbers and lists (drawPoint). Conditions: as each states. -/
namespace Go.Proofs.Ytplgbnalflpdhaa.Y
open Go.RowKit Go.Proofs.Ytplgbnalflpdhaa.X Go.Proofs.YtplgbnalflpdhaaW.PrintWords Go.Proofs.YtplgbnalflpdhaaW.PrintLast Go.Proofs.YtplgbnalflpdhaaW.PrintMore Go.Proofs.Ytplgbnalflpdhaa.Y
set_option linter.unusedVariables false
set_option linter.unusedSimpArgs false
theorem l1DrawPoint_ok (l : List Int) (i h : Int) (hl : l.length ≤ 1048576) (h0 : 0 ≤ i) (h1 : i ≤ l.length) : ∃ v i' h', spec_l1DrawPoint.f l i h = some (v, i', h') ∧ (-1 ≤ v ∧ v ≤ 1200000) ∧ 0 ≤ i' ∧ i' ≤ l.length := by
  unfold spec_l1DrawPoint.f
  obtain ⟨a, i1, g1, e1, ha, hi1⟩ := l1Below_ok l i h 1200000 hl h0 h1 (by omega)
  obtain ⟨b, i2, g2, e2, hb, hi2⟩ := l1Below_ok l i1 g1 90 hl hi1.1 hi1.2 (by omega)
  rw [e1, Option.bind_some, e2, Option.bind_some]
  obtain ⟨v, i3, g3, e3, hv, hi3⟩ := l1PickInt_ok l i2 g2 [0, 65, 97, 127, 128, 255, 2047, 2048, 55295, 55296, 57343, 57344, 65279, 65533, 65535, 65536, 1114111, 1114112, (-1), a, wrap64 (32 + b)] hl hi2.1 hi2.2 (by simp) (by simp)
  rw [e3, Option.bind_some]
  refine ⟨_, _, _, rfl, ?_, hi3⟩
  rw [w64 (x := 32 + b) (by omega) (by omega)] at hv
  simp only [List.mem_cons, List.not_mem_nil, or_false] at hv
  show -1 ≤ v ∧ v ≤ 1200000
  omega
theorem DrawPointPut_ok (l : List Int) (hl : l.length ≤ 1048576) : ∃ v, Ev (fun k => spec_DrawPointPut.f k l) v ∧ -1 ≤ v ∧ v ≤ 1200000 := by
  unfold spec_DrawPointPut.f
  obtain ⟨h, e⟩ := l1New_ok l hl
  obtain ⟨v, i', h', e2, hv, _⟩ := l1DrawPoint_ok l 0 h hl (by omega) (by omega)
  exact ⟨v, Ev.bind e (ev_bindS e2 (Ev.now _)), hv⟩

end Go.Proofs.Ytplgbnalflpdhaa.Y

/- Plain lemmas over numbers and lists (evp). Conditions: as each states. -/
namespace Go.Proofs.Ytplgbnalflpdhaa.Y
open Go.RowKit Go.Proofs.Ytplgbnalflpdhaa.X Go.Proofs.YtplgbnalflpdhaaW.PrintWords Go.Proofs.YtplgbnalflpdhaaW.PrintLast Go.Proofs.YtplgbnalflpdhaaW.PrintMore Go.Proofs.Ytplgbnalflpdhaa.Y
set_option linter.unusedVariables false
set_option linter.unusedSimpArgs false
/-- Behind rounds enough there is an answer, of which something is told. -/
def EvP {α : Type} (g : Nat → Option α) (Q : α → Prop) : Prop := ∃ r, Ev g r ∧ Q r
theorem EvP.bind {α β : Type} {g : Nat → Option α} {f : Nat → α → Option β} {P : α → Prop} {Q : β → Prop} (h : EvP g P) (hf : ∀ a, P a → EvP (fun k => f k a) Q) : EvP (fun k => (g k).bind (f k)) Q := by
  obtain ⟨a, e, hp⟩ := h
  obtain ⟨r, e2, hq⟩ := hf a hp
  exact ⟨r, Ev.bind e e2, hq⟩
theorem EvP.pos {α : Type} {c : Prop} [Decidable c] {g f : Nat → Option α} {Q : α → Prop} (hc : c) (h : EvP g Q) : EvP (fun k => if c then g k else f k) Q := by
  obtain ⟨r, e, hq⟩ := h; exact ⟨r, ev_pos hc e, hq⟩
theorem EvP.neg {α : Type} {c : Prop} [Decidable c] {g f : Nat → Option α} {Q : α → Prop} (hc : ¬ c) (h : EvP f Q) : EvP (fun k => if c then g k else f k) Q := by
  obtain ⟨r, e, hq⟩ := h; exact ⟨r, ev_neg hc e, hq⟩
theorem EvP.ite {α : Type} {c : Prop} [Decidable c] {g f : Nat → Option α} {Q : α → Prop} (h1 : c → EvP g Q) (h2 : ¬ c → EvP f Q) : EvP (fun k => if c then g k else f k) Q := by
  by_cases hc : c
  · exact EvP.pos hc (h1 hc)
  · exact EvP.neg hc (h2 hc)
theorem EvP.some {α : Type} {r : α} {Q : α → Prop} (h : Q r) : EvP (fun _ => Option.some r) Q := ⟨r, Ev.now _, h⟩
theorem EvP.const {α : Type} {g : Option α} {P : α → Prop} (h : ∃ a, g = Option.some a ∧ P a) : EvP (fun _ => g) P := by
  obtain ⟨a, e, hp⟩ := h; exact ⟨a, ev_const e, hp⟩
theorem EvP.succ {α : Type} {g : Nat → Option α} {Q : α → Prop} (h : EvP (fun k => g (k + 1)) Q) : EvP g Q := by
  obtain ⟨r, e, hq⟩ := h; exact ⟨r, ev_succ e, hq⟩
theorem EvP.mono {α : Type} {g : Nat → Option α} {P Q : α → Prop} (h : EvP g P) (hi : ∀ a, P a → Q a) : EvP g Q := by
  obtain ⟨r, e, hq⟩ := h; exact ⟨r, e, hi r hq⟩
theorem EvP.of {α : Type} {g : Nat → Option α} {r : α} {Q : α → Prop} (h : Ev g r) (hq : Q r) : EvP g Q := ⟨r, h, hq⟩
theorem EvP.ev {α : Type} {g : Nat → Option α} {r : α} (h : EvP g (fun x => x = r)) : Ev g r := by
  obtain ⟨x, e, hx⟩ := h
  subst hx
  exact e
/-- A callee that goes round not at all. -/
theorem EvP.bindS {α β : Type} {g : Option α} {f : Nat → α → Option β} {P : α → Prop} {Q : β → Prop} (h : ∃ a, g = Option.some a ∧ P a) (hf : ∀ a, P a → EvP (fun k => f k a) Q) : EvP (fun k => g.bind (f k)) Q := by
  obtain ⟨a, rfl, hp⟩ := h
  exact hf a hp

end Go.Proofs.Ytplgbnalflpdhaa.Y

/- Plain lemmas over numbers and lists (drawP). Conditions: as each states. -/
namespace Go.Proofs.Ytplgbnalflpdhaa.Y
open Go.RowKit Go.Proofs.Ytplgbnalflpdhaa.X Go.Proofs.YtplgbnalflpdhaaW.PrintWords Go.Proofs.YtplgbnalflpdhaaW.PrintLast Go.Proofs.YtplgbnalflpdhaaW.PrintMore Go.Proofs.Ytplgbnalflpdhaa.Y
set_option linter.unusedVariables false
set_option linter.unusedSimpArgs false
theorem l1Byte_p (l : List Int) (i h : Int) (hl : l.length ≤ 1048576) (hi : 0 ≤ i ∧ i ≤ l.length) : ∃ a, spec_l1Byte.f l i h = some a ∧ (0 ≤ a.1 ∧ a.1 ≤ 255) ∧ 0 ≤ a.2.1 ∧ a.2.1 ≤ l.length := by
  obtain ⟨v, i', h', e, hv, hj⟩ := l1Byte_ok l i h hl hi.1 hi.2
  exact ⟨_, e, hv, hj⟩
theorem l1Below_p (l : List Int) (i h n : Int) (hl : l.length ≤ 1048576) (hi : 0 ≤ i ∧ i ≤ l.length) (hn : n ≤ 1000000000) : ∃ a, spec_l1Below.f l i h n = some a ∧ (0 ≤ a.1 ∧ (a.1 < n ∨ n ≤ 0 ∧ a.1 = 0)) ∧ 0 ≤ a.2.1 ∧ a.2.1 ≤ l.length := by
  obtain ⟨v, i', h', e, hv, hj⟩ := l1Below_ok l i h n hl hi.1 hi.2 hn
  exact ⟨_, e, hv, hj⟩
theorem l1PickInt_p (l : List Int) (i h : Int) (m : List Int) (hl : l.length ≤ 1048576) (hi : 0 ≤ i ∧ i ≤ l.length) (hm : 0 < m.length) (hm2 : m.length ≤ 1000) : ∃ a, spec_l1PickInt.f l i h m = some a ∧ a.1 ∈ m ∧ 0 ≤ a.2.1 ∧ a.2.1 ≤ l.length := by
  obtain ⟨v, i', h', e, hv, hj⟩ := l1PickInt_ok l i h m hl hi.1 hi.2 hm hm2
  exact ⟨_, e, hv, hj⟩
theorem l1DrawPoint_p (l : List Int) (i h : Int) (hl : l.length ≤ 1048576) (hi : 0 ≤ i ∧ i ≤ l.length) : ∃ a, spec_l1DrawPoint.f l i h = some a ∧ (-1 ≤ a.1 ∧ a.1 ≤ 1200000) ∧ 0 ≤ a.2.1 ∧ a.2.1 ≤ l.length := by
  obtain ⟨v, i', h', e, hv, hj⟩ := l1DrawPoint_ok l i h hl hi.1 hi.2
  exact ⟨_, e, hv, hj⟩
theorem l1New_p (l : List Int) (hl : l.length ≤ 1048576) : EvP (fun k => spec_l1New.f k l) (fun a => a.1 = l ∧ 0 ≤ a.2.1 ∧ a.2.1 ≤ (l.length : Int)) := by
  obtain ⟨h', e⟩ := l1New_ok l hl
  exact ⟨_, e, rfl, by simp, by simp⟩

end Go.Proofs.Ytplgbnalflpdhaa.Y

/- Plain lemmas over numbers and lists (drawBytes). Conditions: as each states. -/
namespace Go.Proofs.Ytplgbnalflpdhaa.Y
open Go.RowKit Go.Proofs.Ytplgbnalflpdhaa.X Go.Proofs.YtplgbnalflpdhaaW.PrintWords Go.Proofs.YtplgbnalflpdhaaW.PrintLast Go.Proofs.YtplgbnalflpdhaaW.PrintMore Go.Proofs.Ytplgbnalflpdhaa.Y
set_option linter.unusedVariables false
set_option linter.unusedSimpArgs false
theorem l1DrawBytes_l0 (l : List Int) (hl : l.length ≤ 1048576) (n : Int) (hn : n ≤ 1000) : ∀ (d : Nat) (acc : List Int) (c i h : Int), 0 ≤ i ∧ i ≤ l.length → 0 ≤ c → c + d = n ∨ (n ≤ c ∧ d = 0) → (∀ x ∈ acc, 0 ≤ x ∧ x ≤ 255) → acc.length + d ≤ 1000 → EvP (fun k => spec_l1DrawBytes.l0 k acc n c l i h) (fun b => ((∀ x ∈ b.1, 0 ≤ x ∧ x ≤ 255) ∧ b.1.length ≤ acc.length + d) ∧ 0 ≤ b.2.1 ∧ b.2.1 ≤ l.length) := by
  intro d
  induction d with
  | zero =>
    intro acc c i h hi hc hd ha hx
    refine EvP.succ ?_
    simp only [spec_l1DrawBytes.l0]
    exact EvP.neg (by omega) (EvP.some ⟨⟨ha, by simp⟩, hi⟩)
  | succ d ih =>
    intro acc c i h hi hc hd ha hx
    refine EvP.succ ?_
    simp only [spec_l1DrawBytes.l0]
    refine EvP.pos (by omega) (EvP.bindS (l1Byte_p l i h hl hi) (fun p hp => ?_))
    rw [w64 (x := c + 1) (by omega) (by omega)]
    refine EvP.pos (by omega) (EvP.mono (ih _ (c + 1) _ _ hp.2 (by omega) (by omega) ?_ (by rw [List.length_append, List.length_singleton]; omega)) (fun a h => ⟨⟨h.1.1, ?_⟩, h.2⟩))
    · intro x hx
      rcases List.mem_append.1 hx with h | h
      · exact ha x h
      · simp at h; omega
    · have := h.1.2; rw [List.length_append, List.length_singleton] at this; omega
theorem l1DrawBytes_p (l : List Int) (hl : l.length ≤ 1048576) (i h n : Int) (hi : 0 ≤ i ∧ i ≤ l.length) (hn0 : 0 ≤ n) (hn : n ≤ 900) : EvP (fun k => spec_l1DrawBytes.f k l i h n) (fun b => ((∀ x ∈ b.1, 0 ≤ x ∧ x ≤ 255) ∧ b.1.length ≤ n) ∧ 0 ≤ b.2.1 ∧ b.2.1 ≤ l.length) := by
  unfold spec_l1DrawBytes.f
  rw [w64 (x := n + 1) (by omega) (by omega)]
  refine EvP.bindS (l1Below_p l _ _ _ hl hi (by omega)) (fun b hb => ?_)
  refine EvP.mono (l1DrawBytes_l0 l hl b.1 (by omega) b.1.toNat [] 0 _ _ hb.2 (by omega) (by omega) (by simp) (by simp; omega)) (fun a h => ⟨⟨h.1.1, ?_⟩, h.2⟩)
  have := h.1.2; simp at this; omega

end Go.Proofs.Ytplgbnalflpdhaa.Y

/- Plain lemmas over numbers and lists (drawSize). Conditions: as each states. -/
namespace Go.Proofs.Ytplgbnalflpdhaa.Y
open Go.RowKit Go.Proofs.Ytplgbnalflpdhaa.X Go.Proofs.YtplgbnalflpdhaaW.PrintWords Go.Proofs.YtplgbnalflpdhaaW.PrintLast Go.Proofs.YtplgbnalflpdhaaW.PrintMore Go.Proofs.Ytplgbnalflpdhaa.Y
set_option linter.unusedVariables false
set_option linter.unusedSimpArgs false
theorem l1Size_p (l : List Int) (a : Int) (hl : l.length ≤ 1048576) (ha : 0 ≤ a) : ∃ n, spec_l1Size.f l a = some n ∧ 0 ≤ n ∧ n ≤ a := by
  unfold spec_l1Size.f
  rw [w64 (x := (l.length : Int) / 20) (by omega) (by omega), w64 (by omega) (by omega)]
  by_cases h : 2 + (l.length : Int) / 20 > a
  · rw [if_pos h]; exact ⟨_, rfl, ha, by omega⟩
  · rw [if_neg h]; exact ⟨_, rfl, by omega, by omega⟩

end Go.Proofs.Ytplgbnalflpdhaa.Y

/- Plain lemmas over numbers and lists (getnum). Conditions: as each states. -/
namespace Go.Proofs.Ytplgbnalflpdhaa.Y
open Go.RowKit Go.Proofs.Ytplgbnalflpdhaa.X Go.Proofs.YtplgbnalflpdhaaW.PrintWords Go.Proofs.YtplgbnalflpdhaaW.PrintLast Go.Proofs.YtplgbnalflpdhaaW.PrintMore Go.Proofs.Ytplgbnalflpdhaa.Y
set_option linter.unusedVariables false
set_option linter.unusedSimpArgs false
def getN (l : List Int) : Nat → Nat → Int → Int → Int × Int × Bool
  | 0, _, _, _ => (0, 0, false)
  | d + 1, i, x, a => if a < l.length then (if rd l a < 128 then (if rd l a = 0 ∧ 0 < i then (0, 0, false) else (x + rd l a % 128 * 128 ^ i, a + 1, true)) else getN l d (i + 1) (x + rd l a % 128 * 128 ^ i) (a + 1)) else (0, 0, false)
def getNum (l : List Int) (a : Int) : Int × Int × Bool := if a < 0 then (0, 0, false) else getN l 9 0 0 a
theorem p128 (i : Nat) (h : i ≤ 8) : 1 ≤ (128 : Int) ^ i ∧ (128 : Int) ^ i ≤ 72057594037927936 := by
  have : i = 0 ∨ i = 1 ∨ i = 2 ∨ i = 3 ∨ i = 4 ∨ i = 5 ∨ i = 6 ∨ i = 7 ∨ i = 8 := by omega
  rcases this with rfl | rfl | rfl | rfl | rfl | rfl | rfl | rfl | rfl <;> decide
theorem rd_bytes {l : List Int} (hw : ∀ x ∈ l, (Lit.int .u8 x).wf = true) (i : Int) : 0 ≤ rd l i ∧ rd l i ≤ 255 := by
  unfold rd
  rw [List.getD_eq_getElem?_getD]
  cases h : l[i.toNat]? with
  | none => simp
  | some v => exact wf8 (hw v (List.mem_of_getElem? h))
/-- One step of the number: what is added fits. -/
theorem getN_fit {x y : Int} {i : Nat} (hi : i ≤ 8) (hx0 : 0 ≤ x) (hx : x < 128 ^ i) (hy0 : 0 ≤ y) (hy : y < 128) : 0 ≤ y * 128 ^ i ∧ x + y * 128 ^ i < 128 ^ (i + 1) ∧ x + y * 128 ^ i ≤ 9223372036854775807 ∧ y * 128 ^ i ≤ 9223372036854775807 := by
  have hp := p128 i hi
  rw [Int.pow_succ]
  generalize (128 : Int) ^ i = p at *
  have h1 : y * p ≤ 127 * p := Int.mul_le_mul_of_nonneg_right (by omega) (by omega)
  have h2 : 0 ≤ y * p := Int.mul_nonneg hy0 (by omega)
  refine ⟨h2, ?_, ?_, ?_⟩ <;> omega

end Go.Proofs.Ytplgbnalflpdhaa.Y

/- Plain lemmas over numbers and lists (getnumR). Conditions: as each states. -/
namespace Go.Proofs.Ytplgbnalflpdhaa.Y
open Go.RowKit Go.Proofs.Ytplgbnalflpdhaa.X Go.Proofs.YtplgbnalflpdhaaW.PrintWords Go.Proofs.YtplgbnalflpdhaaW.PrintLast Go.Proofs.YtplgbnalflpdhaaW.PrintMore Go.Proofs.Ytplgbnalflpdhaa.Y
set_option linter.unusedVariables false
set_option linter.unusedSimpArgs false
theorem getN_res (l : List Int) (hw : ∀ x ∈ l, (Lit.int .u8 x).wf = true) : ∀ (d i : Nat) (x a : Int), i + d = 9 → 0 ≤ x → x < 128 ^ i → 0 ≤ a → (getN l d i x a).2.2 = true →
    0 ≤ (getN l d i x a).1 ∧ (getN l d i x a).1 ≤ 9223372036854775807 ∧ 0 ≤ (getN l d i x a).2.1 ∧ (getN l d i x a).2.1 ≤ l.length := by
  intro d
  induction d with
  | zero => intro i x a _ _ _ _ h; simp [getN] at h
  | succ d ih =>
    intro i x a hid h0 h1 ha h
    unfold getN at h ⊢
    by_cases hlt : a < l.length
    · rw [if_pos hlt] at h ⊢
      have hb := rd_bytes hw a
      obtain ⟨f1, f2, f3, f4⟩ := getN_fit (x := x) (y := rd l a % 128) (i := i) (by omega) h0 h1 (by omega) (by omega)
      by_cases h128 : rd l a < 128
      · rw [if_pos h128] at h ⊢
        by_cases hz : rd l a = 0 ∧ 0 < i
        · rw [if_pos hz] at h; simp at h
        · rw [if_neg hz]
          exact ⟨by show 0 ≤ x + _; omega, f3, by show 0 ≤ a + 1; omega, by show a + 1 ≤ _; omega⟩
      · rw [if_neg h128] at h ⊢
        exact ih (i + 1) _ (a + 1) (by omega) (by omega) f2 (by omega) h
    · rw [if_neg hlt] at h; simp at h
theorem getNum_res (l : List Int) (hw : ∀ x ∈ l, (Lit.int .u8 x).wf = true) (a : Int) (h : (getNum l a).2.2 = true) :
    0 ≤ (getNum l a).1 ∧ (getNum l a).1 ≤ 9223372036854775807 ∧ 0 ≤ (getNum l a).2.1 ∧ (getNum l a).2.1 ≤ l.length := by
  unfold getNum at h ⊢
  by_cases ha : a < 0
  · rw [if_pos ha] at h; simp at h
  · rw [if_neg ha] at h ⊢
    exact getN_res l hw 9 0 0 a rfl (by omega) (by decide) (by omega) h

end Go.Proofs.Ytplgbnalflpdhaa.Y

/- Plain lemmas over numbers and lists (getText). Conditions: as each states. -/
namespace Go.Proofs.Ytplgbnalflpdhaa.Y
open Go.RowKit Go.Proofs.Ytplgbnalflpdhaa.X Go.Proofs.YtplgbnalflpdhaaW.PrintWords Go.Proofs.YtplgbnalflpdhaaW.PrintLast Go.Proofs.YtplgbnalflpdhaaW.PrintMore Go.Proofs.Ytplgbnalflpdhaa.Y
set_option linter.unusedVariables false
set_option linter.unusedSimpArgs false
def getText (l : List Int) (a : Int) : ByteArray × Int × Bool :=
  if (getNum l a).2.2 = true then (if (getNum l a).1 > (l.length : Int) - (getNum l a).2.1 then (⟨#[]⟩, 0, false) else (strOfNums ((l.take ((getNum l a).2.1 + (getNum l a).1).toNat).drop (getNum l a).2.1.toNat), (getNum l a).2.1 + (getNum l a).1, true)) else (⟨#[]⟩, 0, false)

end Go.Proofs.Ytplgbnalflpdhaa.Y

/- Plain lemmas over numbers and lists (specnum). Conditions: as each states. -/
namespace Go.Proofs.Ytplgbnalflpdhaa.Y
open Go.RowKit Go.Proofs.Ytplgbnalflpdhaa.X Go.Proofs.YtplgbnalflpdhaaW.PrintWords Go.Proofs.YtplgbnalflpdhaaW.PrintLast Go.Proofs.YtplgbnalflpdhaaW.PrintMore Go.Proofs.Ytplgbnalflpdhaa.Y
set_option linter.unusedVariables false
set_option linter.unusedSimpArgs false
theorem spec_PutNum_l (n : Nat) : ∀ (x : Int) (acc : List Int), 0 ≤ x → x ≤ 9223372036854775807 → x < 128 ^ (n + 1) → acc.length + n < 140737488355328 →
    Ev (fun k => spec_PutNum.l0 k x acc) (acc ++ numForm n x) := by
  induction n with
  | zero =>
    intro x acc h0 h1 h2 hl
    have : x < 128 := by simpa using h2
    refine Ev.step (f := fun _ => some (acc ++ [x])) (fun k => ?_) (Ev.now _)
    simp only [spec_PutNum.l0]; rw [if_neg (by omega), if_pos (by omega), Int.emod_eq_of_lt h0 (by omega)]
  | succ n ih =>
    intro x acc h0 h1 h2 hl
    by_cases hx : x > 127
    · refine Ev.step (f := fun k => spec_PutNum.l0 k (x / 128) (acc ++ [x % 128 + 128])) (fun k => ?_) ?_
      · simp only [spec_PutNum.l0]; rw [if_pos hx, if_pos (by omega), Int.tdiv_eq_ediv_of_nonneg h0, Int.tmod_eq_emod_of_nonneg h0, w64 (by omega) (by omega), w64 (by omega) (by omega), Int.emod_eq_of_lt (by omega) (by omega)]
      · have := ih (x / 128) (acc ++ [x % 128 + 128]) (by omega) (by omega) (pow128 x n h2) (by simp; omega)
        simpa [numForm, hx] using this
    · refine Ev.step (f := fun _ => some (acc ++ [x])) (fun k => ?_) (ev_some (by simp [numForm, hx]))
      simp only [spec_PutNum.l0]; rw [if_neg hx, if_pos (by omega), Int.emod_eq_of_lt h0 (by omega)]
theorem spec_PutNum_ev (x : Int) (h1 : x ≤ 9223372036854775807) : Ev (fun k => spec_PutNum.f k x) (if x < 0 then [] else numForm 8 x) := by
  unfold spec_PutNum.f
  simp only [Option.bind_some]
  by_cases h : x < 0
  · simp only [if_pos h]; exact Ev.now _
  · simp only [if_neg h]
    simpa using spec_PutNum_l 8 x [] (by omega) h1 (by omega) (by simp)

end Go.Proofs.Ytplgbnalflpdhaa.Y

/- Plain lemmas over numbers and lists (implnum). Conditions: as each states. -/
namespace Go.Proofs.Ytplgbnalflpdhaa.Y
open Go.RowKit Go.Proofs.Ytplgbnalflpdhaa.X Go.Proofs.YtplgbnalflpdhaaW.PrintWords Go.Proofs.YtplgbnalflpdhaaW.PrintLast Go.Proofs.YtplgbnalflpdhaaW.PrintMore Go.Proofs.Ytplgbnalflpdhaa.Y
set_option linter.unusedVariables false
set_option linter.unusedSimpArgs false
theorem impl_putNum_ev (n : Nat) : ∀ (x : Int) (acc : List Int), 0 ≤ x → x ≤ 9223372036854775807 → x < 128 ^ (n + 1) → acc.length + n < 140737488355328 →
    Ev (fun k => impl_putNum.l0 k acc x) (acc ++ numForm n x) := by
  induction n with
  | zero =>
    intro x acc h0 h1 h2 hl
    have : x < 128 := by simpa using h2
    refine Ev.step (f := fun _ => some (acc ++ [x])) (fun k => ?_) (Ev.now _)
    simp only [impl_putNum.l0]; rw [if_neg (by omega), if_pos (by omega), Int.emod_eq_of_lt h0 (by omega)]
  | succ n ih =>
    intro x acc h0 h1 h2 hl
    by_cases hx : x > 127
    · refine Ev.step (f := fun k => impl_putNum.l0 k (acc ++ [x % 128 + 128]) (x / 128)) (fun k => ?_) ?_
      · simp only [impl_putNum.l0]; rw [if_pos hx, if_pos (by omega), and127 h0 h1, or128 (by omega) (by omega), Int.emod_eq_of_lt (by omega) (by omega), Int.add_comm]
      · have := ih (x / 128) (acc ++ [x % 128 + 128]) (by omega) (by omega) (pow128 x n h2) (by simp; omega)
        simpa [numForm, hx] using this
    · refine Ev.step (f := fun _ => some (acc ++ [x])) (fun k => ?_) (ev_some (by simp [numForm, hx]))
      simp only [impl_putNum.l0]; rw [if_neg hx, if_pos (by omega), Int.emod_eq_of_lt h0 (by omega)]
theorem impl_putNum_at (x : Int) (acc : List Int) (h0 : 0 ≤ x) (h1 : x ≤ 9223372036854775807) (hl : acc.length + 8 < 140737488355328) : Ev (fun k => impl_putNum.f k acc x) (acc ++ numForm 8 x) :=
  impl_putNum_ev 8 x acc h0 h1 (by omega) hl

end Go.Proofs.Ytplgbnalflpdhaa.Y

/- Plain lemmas over numbers and lists (putText). Conditions: as each states. -/
namespace Go.Proofs.Ytplgbnalflpdhaa.Y
open Go.RowKit Go.Proofs.Ytplgbnalflpdhaa.X Go.Proofs.YtplgbnalflpdhaaW.PrintWords Go.Proofs.YtplgbnalflpdhaaW.PrintLast Go.Proofs.YtplgbnalflpdhaaW.PrintMore Go.Proofs.Ytplgbnalflpdhaa.Y
set_option linter.unusedVariables false
set_option linter.unusedSimpArgs false
def putText (s : ByteArray) : List Int := numForm 8 s.size ++ bytesOf s
theorem putText_len (s : ByteArray) : (putText s).length ≤ 9 + s.size := by
  have := numForm_len 8 s.size
  unfold putText; rw [List.length_append, bytesOf_length]; omega
theorem spec_PutText_ev (s : ByteArray) (h : s.size ≤ 1048576) : Ev (fun k => spec_PutText.f k s) (putText s) := by
  unfold spec_PutText.f
  have hn := spec_PutNum_ev (s.size : Int) (by omega)
  rw [if_neg (by omega)] at hn
  have hl := numForm_len 8 s.size
  refine Ev.bind hn (ev_pos (by omega) ?_)
  simp only [Option.bind_some]
  exact ev_pos (by rw [bytesOf_length]; omega) (Ev.now _)
theorem impl_putText_at (l : List Int) (s : ByteArray) (h : s.size ≤ 1048576) (hl : l.length ≤ 1000000000) : Ev (fun k => impl_putText.f k l s) (l ++ putText s) := by
  unfold impl_putText.f putText
  have hn := impl_putNum_at (s.size : Int) l (by omega) (by omega) (by omega)
  have hm := numForm_len 8 s.size
  refine Ev.bind hn (ev_pos (by rw [List.length_append]; omega) (ev_some (by rw [List.append_assoc])))
theorem impl_PutText_ev (s : ByteArray) (h : s.size ≤ 1048576) : Ev (fun k => impl_PutText.f k s) (putText s) := by
  unfold impl_PutText.f
  exact Ev.bind (impl_putText_at [] s h (by simp)) (Ev.now _)

end Go.Proofs.Ytplgbnalflpdhaa.Y

/- Plain lemmas over numbers and lists (strBytes). Conditions: as each states. -/
namespace Go.Proofs.Ytplgbnalflpdhaa.Y
open Go.RowKit Go.Proofs.Ytplgbnalflpdhaa.X Go.Proofs.YtplgbnalflpdhaaW.PrintWords Go.Proofs.YtplgbnalflpdhaaW.PrintLast Go.Proofs.YtplgbnalflpdhaaW.PrintMore Go.Proofs.Ytplgbnalflpdhaa.Y
set_option linter.unusedVariables false
set_option linter.unusedSimpArgs false
theorem data_eta (s : ByteArray) : (⟨s.data.toList.toArray⟩ : ByteArray) = s := by cases s; simp
theorem str_bytes (s : ByteArray) : strOfNums (bytesOf s) = s := by
  unfold bytesOf
  rw [Lib.Lz.strOfNums_map]
theorem bytes_str {b : List Int} (h : ∀ x ∈ b, 0 ≤ x ∧ x ≤ 255) : bytesOf (strOfNums b) = b := by
  have e : (strOfNums b).data.toList = Lib.bytesOf b := by rw [← Lib.toList_data, Lib.strOfNums_toList]
  unfold bytesOf
  rw [e]
  unfold Lib.bytesOf
  rw [List.map_map]
  conv => rhs; rw [← List.map_id b]
  refine List.map_congr_left (fun x hx => ?_)
  have := h x hx
  simp only [Function.comp, id]
  have : (UInt8.ofNat x.toNat).toNat = x.toNat := by simp; omega
  omega
theorem bytesOf_range (s : ByteArray) : ∀ x ∈ bytesOf s, 0 ≤ x ∧ x ≤ 255 := by
  intro x hx
  unfold bytesOf at hx
  obtain ⟨b, _, rfl⟩ := List.mem_map.1 hx
  have := b.toNat_lt
  omega
theorem bytesOf_wf (s : ByteArray) : ∀ x ∈ bytesOf s, (Lit.int .u8 x).wf = true := fun x hx => by
  simp only [Lit.wf, Bool.and_eq_true, decide_eq_true_eq]; exact bytesOf_range s x hx
theorem bytes_ext {s t : ByteArray} (h : bytesOf s = bytesOf t) : s = t := by rw [← str_bytes s, h, str_bytes]
theorem toList_ext {s t : ByteArray} (h : s.toList = t.toList) : s = t := by
  rw [Lib.toList_data, Lib.toList_data] at h
  rw [← data_eta s, h, data_eta]
theorem str_size (b : List Int) : (strOfNums b).size = b.length := by
  have e : (strOfNums b).data.toList = Lib.bytesOf b := by rw [← Lib.toList_data, Lib.strOfNums_toList]
  have := congrArg List.length e
  simpa [Lib.bytesOf] using this

end Go.Proofs.Ytplgbnalflpdhaa.Y

/- Plain lemmas over numbers and lists (numBack). Conditions: as each states. -/
namespace Go.Proofs.Ytplgbnalflpdhaa.Y
open Go.RowKit Go.Proofs.Ytplgbnalflpdhaa.X Go.Proofs.YtplgbnalflpdhaaW.PrintWords Go.Proofs.YtplgbnalflpdhaaW.PrintLast Go.Proofs.YtplgbnalflpdhaaW.PrintMore Go.Proofs.Ytplgbnalflpdhaa.Y
set_option linter.unusedVariables false
set_option linter.unusedSimpArgs false
theorem getN_num (n : Nat) : ∀ (l : List Int) (d i : Nat) (acc a x : Int) (r : List Int), 0 ≤ a → l.drop a.toNat = numForm n x ++ r → 0 ≤ x → x < 128 ^ (n + 1) → n + 1 ≤ d → (0 < x ∨ i = 0) → getN l d i acc a = (acc + x * 128 ^ i, a + (numForm n x).length, true) := by
  induction n with
  | zero =>
    intro l d i acc a x r h0 hd hx0 hx1 hnd hz
    obtain ⟨d, rfl⟩ : ∃ m, d = m + 1 := ⟨d - 1, by omega⟩
    have hx : x < 128 := by simpa using hx1
    have hr : rd l a = x := rd_drop (ys := r) (by rw [hd]; rfl)
    have hlt : a < l.length := by
      have := congrArg List.length hd
      simp [numForm] at this; omega
    unfold getN
    rw [if_pos hlt, hr, if_pos hx, if_neg (by omega), Int.emod_eq_of_lt hx0 hx]
    simp [numForm]
  | succ n ih =>
    intro l d i acc a x r h0 hd hx0 hx1 hnd hz
    obtain ⟨d, rfl⟩ : ∃ m, d = m + 1 := ⟨d - 1, by omega⟩
    have hlt : a < l.length := by
      have := congrArg List.length hd
      unfold numForm at this
      split at this <;> simp at this <;> omega
    by_cases hx : x > 127
    · have e : numForm (n + 1) x = (x % 128 + 128) :: numForm n (x / 128) := by simp only [numForm]; rw [if_pos hx]
      rw [e] at hd ⊢
      have hr : rd l a = x % 128 + 128 := rd_drop (ys := numForm n (x / 128) ++ r) (by rw [hd]; rfl)
      have hd2 : l.drop (a + 1).toNat = numForm n (x / 128) ++ r := by
        have e1 : (a + 1).toNat = a.toNat + 1 := by omega
        rw [e1, ← List.drop_drop, hd]; rfl
      unfold getN
      rw [if_pos hlt, hr, if_neg (by omega), ih l d (i + 1) _ (a + 1) (x / 128) r (by omega) hd2 (by omega) (pow128 x n hx1) (by omega) (.inl (by omega))]
      have e3 : (x % 128 + 128) % 128 = x % 128 := by omega
      have e4 : x % 128 * 128 ^ i + x / 128 * 128 ^ (i + 1) = x * 128 ^ i := by
        rw [Int.pow_succ]
        generalize (128 : Int) ^ i = p
        have := Int.emod_add_mul_ediv x 128
        calc x % 128 * p + x / 128 * (p * 128) = (x % 128 + 128 * (x / 128)) * p := by rw [Int.add_mul, Int.mul_comm p 128, ← Int.mul_assoc, Int.mul_comm (x / 128) 128]
          _ = x * p := by rw [this]
      rw [e3, Int.add_assoc, e4]
      simp only [List.length_cons, Prod.mk.injEq, and_true, true_and]
      omega
    · have e : numForm (n + 1) x = [x] := by simp only [numForm]; rw [if_neg hx]
      rw [e] at hd ⊢
      have hr : rd l a = x := rd_drop (ys := r) (by rw [hd]; rfl)
      unfold getN
      rw [if_pos hlt, hr, if_pos (by omega), if_neg (by omega), Int.emod_eq_of_lt hx0 (by omega)]
      simp
theorem getNum_num (l : List Int) (a x : Int) (r : List Int) (ha : 0 ≤ a) (hd : l.drop a.toNat = numForm 8 x ++ r) (h0 : 0 ≤ x) (h1 : x ≤ 9223372036854775807) : getNum l a = (x, a + (numForm 8 x).length, true) := by
  unfold getNum
  rw [if_neg (by omega), getN_num 8 l 9 0 0 a x r ha hd h0 (by omega) (by omega) (.inr rfl)]
  simp
theorem getText_put (s : ByteArray) (r : List Int) (hs : s.size ≤ 1048576) : getText (putText s ++ r) 0 = (s, ((putText s).length : Int), true) := by
  have e : getNum (putText s ++ r) 0 = ((s.size : Int), 0 + ((numForm 8 (s.size : Int)).length : Int), true) := getNum_num _ 0 s.size (bytesOf s ++ r) (by omega) (by simp [putText]) (by omega) (by omega)
  have hl : (putText s).length = (numForm 8 (s.size : Int)).length + s.size := by unfold putText; rw [List.length_append, bytesOf_length]
  unfold getText
  rw [e]
  simp only [if_true]
  rw [if_neg (by rw [List.length_append, hl]; omega)]
  have e2 : (((putText s ++ r).take (0 + ((numForm 8 (s.size : Int)).length : Int) + (s.size : Int)).toNat).drop (0 + ((numForm 8 (s.size : Int)).length : Int)).toNat) = bytesOf s := by
    have n1 : (0 + ((numForm 8 (s.size : Int)).length : Int) + (s.size : Int)).toNat = (putText s).length := by omega
    have n2 : (0 + ((numForm 8 (s.size : Int)).length : Int)).toNat = (numForm 8 (s.size : Int)).length := by omega
    rw [n1, n2, List.take_left]
    unfold putText
    rw [List.drop_left]
  rw [e2, str_bytes]
  simp only [Prod.mk.injEq, and_true, true_and]
  omega
theorem numForm_bytes (n : Nat) : ∀ x : Int, 0 ≤ x → x < 128 ^ (n + 1) → ∀ y ∈ numForm n x, 0 ≤ y ∧ y ≤ 255 := by
  induction n with
  | zero =>
    intro x h0 h1 y hy
    have : x < 128 := by simpa using h1
    simp [numForm] at hy; omega
  | succ n ih =>
    intro x h0 h1 y hy
    unfold numForm at hy
    split at hy
    · rcases List.mem_cons.1 hy with rfl | hy
      · omega
      · exact ih (x / 128) (by omega) (pow128 x n h1) y hy
    · simp at hy; omega

end Go.Proofs.Ytplgbnalflpdhaa.Y

/- Plain lemmas over numbers and lists (implPutNum). Conditions: as each states. -/
namespace Go.Proofs.Ytplgbnalflpdhaa.Y
open Go.RowKit Go.Proofs.Ytplgbnalflpdhaa.X Go.Proofs.YtplgbnalflpdhaaW.PrintWords Go.Proofs.YtplgbnalflpdhaaW.PrintLast Go.Proofs.YtplgbnalflpdhaaW.PrintMore Go.Proofs.Ytplgbnalflpdhaa.Y
set_option linter.unusedVariables false
set_option linter.unusedSimpArgs false
theorem impl_PutNum_ev (x : Int) (h1 : x ≤ 9223372036854775807) : Ev (fun k => impl_PutNum.f k x) (if x < 0 then [] else numForm 8 x) := by
  unfold impl_PutNum.f
  by_cases h : x < 0
  · simp only [if_pos h]; exact Ev.now _
  · simp only [if_neg h]
    exact Ev.bind (impl_putNum_at x [] (by omega) h1 (by simp)) (Ev.now _)

end Go.Proofs.Ytplgbnalflpdhaa.Y

/- Plain lemmas over numbers and lists (inrI). Conditions: as each states. -/
namespace Go.Proofs.Ytplgbnalflpdhaa.Y
open Go.RowKit Go.Proofs.Ytplgbnalflpdhaa.X Go.Proofs.YtplgbnalflpdhaaW.PrintWords Go.Proofs.YtplgbnalflpdhaaW.PrintLast Go.Proofs.YtplgbnalflpdhaaW.PrintMore Go.Proofs.Ytplgbnalflpdhaa.Y
set_option linter.unusedVariables false
set_option linter.unusedSimpArgs false
theorem impl_inRange_eq (x a b : Int) : impl_inRange.f x a b = some (decide (a ≤ x ∧ x ≤ b)) := by
  unfold impl_inRange.f
  by_cases h : x ≥ a
  · rw [if_pos h]; congr 1; simp; omega
  · rw [if_neg h]; congr 1; simp; omega

end Go.Proofs.Ytplgbnalflpdhaa.Y

/- Plain lemmas over numbers and lists (implgetnum). Conditions: as each states. -/
namespace Go.Proofs.Ytplgbnalflpdhaa.Y
open Go.RowKit Go.Proofs.Ytplgbnalflpdhaa.X Go.Proofs.YtplgbnalflpdhaaW.PrintWords Go.Proofs.YtplgbnalflpdhaaW.PrintLast Go.Proofs.YtplgbnalflpdhaaW.PrintMore Go.Proofs.Ytplgbnalflpdhaa.Y
set_option linter.unusedVariables false
set_option linter.unusedSimpArgs false
theorem or_swap (k : IntKind) (x y : Int) : Go.bits .or k x y = Go.bits .or k y x := by
  simp only [Go.bits]; rw [BitVec.or_comm]
theorem shl7 {y : Int} {i : Nat} (hi : i ≤ 8) (h0 : 0 ≤ y) (h1 : y < 128) : shl .i64 y (IntKind.u64.wrap (wrap64 (7 * (i : Int)))) = y * 128 ^ i := by
  have hf := (getN_fit (x := 0) (y := y) (i := i) hi (by omega) (by have := p128 i hi; omega) h0 h1)
  have e : (IntKind.u64.wrap (wrap64 (7 * (i : Int)))).toNat = 7 * i := by
    rw [w64 (by omega) (by omega)]
    simp only [IntKind.wrap, IntKind.bits, IntKind.signed]
    simp; omega
  unfold shl
  rw [e, Nat.min_eq_left (by simp [IntKind.bits]; omega), Int.pow_mul]
  exact wraps_i64 _ (by have := hf.1; simpa using this) (by have := hf.2.2.2; simp; omega)
theorem or7 {x y : Int} {i : Nat} (hi : i ≤ 8) (hx0 : 0 ≤ x) (hx : x < 128 ^ i) (h0 : 0 ≤ y) (h1 : y < 128) : Go.bits .or .i64 x (y * 128 ^ i) = x + y * 128 ^ i := by
  have hf := getN_fit (x := x) (y := y) (i := i) hi hx0 hx h0 h1
  have hp := p128 i hi
  have e : (2 : Int) ^ (7 * i) = 128 ^ i := by rw [Int.pow_mul]; rfl
  rw [or_swap, Int.add_comm]
  exact bits_join .i64 63 (by decide) wraps_i64 (7 * i) _ x hf.1 (by rw [e]; exact Int.mul_emod_left _ _) (by omega) hx0 (by rw [e]; exact hx) (by omega)
theorem impl_GetNum_l (l : List Int) (hl : l.length ≤ 140737488351232) (hw : ∀ x ∈ l, (Lit.int .u8 x).wf = true) : ∀ (d i : Nat) (x a : Int), 0 ≤ a → a ≤ l.length → i + d = 9 → 0 ≤ x → x < 128 ^ i →
    Ev (fun k => impl_GetNum.l0 k l a x i) (getN l d i x a) := by
  intro d
  induction d with
  | zero =>
    intro i x a ha ha2 hid h0 h1
    refine Ev.step (f := fun k => impl_GetNum.j1 k l a x i false) (fun k => ?_) (Ev.step (f := fun _ => some (0, 0, false)) (fun k => ?_) (Ev.now _))
    · simp only [impl_GetNum.l0]; rw [if_neg (by omega)]
    · simp [impl_GetNum.j1]
  | succ d ih =>
    intro i x a ha ha2 hid h0 h1
    refine Ev.step (f := fun k => impl_GetNum.j1 k l a x i (decide (a < l.length))) (fun k => ?_) ?_
    · simp only [impl_GetNum.l0]; rw [if_pos (by omega)]
    unfold getN
    by_cases hlt : a < l.length
    · rw [if_pos hlt]
      have hb := rd_bytes hw a
      have e2 : wrap64 (rd l a) = rd l a := w64 (by omega) (by omega)
      have e3 : Go.bits .and .i64 (rd l a) 127 = rd l a % 128 := and127 (by omega) (by omega)
      obtain ⟨f1, f2, f3, f4⟩ := getN_fit (x := x) (y := rd l a % 128) (i := i) (by omega) h0 h1 (by omega) (by omega)
      have e4 : Go.bits .or .i64 x (shl .i64 (rd l a % 128) (IntKind.u64.wrap (wrap64 (7 * (i : Int))))) = x + rd l a % 128 * 128 ^ i := by
        rw [shl7 (by omega) (by omega) (by omega), or7 (by omega) h0 h1 (by omega) (by omega)]
      have e5 : 0 ≤ IntKind.u64.wrap (wrap64 (7 * (i : Int))) := by
        rw [w64 (by omega) (by omega)]; simp only [IntKind.wrap, IntKind.bits, IntKind.signed]; simp; omega
      by_cases h128 : rd l a < 128
      · rw [if_pos h128]
        by_cases hz : rd l a = 0 ∧ 0 < i
        · rw [if_pos hz]
          refine Ev.step (f := fun _ => some (0, 0, false)) (fun k => ?_) (Ev.now _)
          simp only [impl_GetNum.j1, e2]
          rw [if_pos (by simpa using hlt), if_pos ha, if_pos hlt, if_pos e5, if_pos h128, if_pos hz.1, if_pos (by omega)]
        · rw [if_neg hz]
          refine Ev.step (f := fun _ => some (x + rd l a % 128 * 128 ^ i, a + 1, true)) (fun k => ?_) (Ev.now _)
          simp only [impl_GetNum.j1, e2, e3, e4]
          rw [if_pos (by simpa using hlt), if_pos ha, if_pos hlt, if_pos e5, if_pos h128, w64 (x := a + 1) (by omega) (by omega)]
          by_cases h00 : rd l a = 0
          · rw [if_pos h00, if_neg (by omega)]
          · rw [if_neg h00]
      · rw [if_neg h128]
        refine Ev.step (f := fun k => impl_GetNum.l0 k l (a + 1) (x + rd l a % 128 * 128 ^ i) ((i + 1 : Nat) : Int)) (fun k => ?_) ?_
        · simp only [impl_GetNum.j1, e2, e3, e4]
          rw [if_pos (by simpa using hlt), if_pos ha, if_pos hlt, if_pos e5, if_neg h128, w64 (x := a + 1) (by omega) (by omega), w64 (x := (i : Int) + 1) (by omega) (by omega)]; rfl
        · exact ih (i + 1) (x + rd l a % 128 * 128 ^ i) (a + 1) (by omega) (by omega) (by omega) (by omega) f2
    · rw [if_neg hlt]
      refine Ev.step (f := fun _ => some (0, 0, false)) (fun k => ?_) (Ev.now _)
      simp only [impl_GetNum.j1]
      rw [if_neg (by simpa using hlt)]
theorem impl_GetNum_ev (l : List Int) (hl : l.length ≤ 140737488351232) (hw : ∀ x ∈ l, (Lit.int .u8 x).wf = true) (a : Int) (ha : a ≤ 9223372036854775807) : Ev (fun k => impl_GetNum.f k l a) (getNum l a) := by
  unfold impl_GetNum.f getNum
  simp only [impl_inRange_eq, Option.bind_some]
  rw [w64 (by omega) (by omega)]
  by_cases h : a < 0
  · simp only [if_pos h]
    exact ev_neg (by simp; omega) (Ev.now _)
  · simp only [if_neg h]
    by_cases h2 : a ≥ l.length
    · refine ev_neg (by simp; omega) (ev_some ?_)
      unfold getN; rw [if_neg (by omega)]
    · refine ev_pos (by simp; omega) ?_
      have := impl_GetNum_l l hl hw 9 0 0 a (by omega) (by omega) rfl (by omega) (by decide)
      simpa using this

end Go.Proofs.Ytplgbnalflpdhaa.Y

/- Plain lemmas over numbers and lists (implgettext). Conditions: as each states. -/
namespace Go.Proofs.Ytplgbnalflpdhaa.Y
open Go.RowKit Go.Proofs.Ytplgbnalflpdhaa.X Go.Proofs.YtplgbnalflpdhaaW.PrintWords Go.Proofs.YtplgbnalflpdhaaW.PrintLast Go.Proofs.YtplgbnalflpdhaaW.PrintMore Go.Proofs.Ytplgbnalflpdhaa.Y
set_option linter.unusedVariables false
set_option linter.unusedSimpArgs false
theorem impl_GetText_ev (l : List Int) (hl : l.length ≤ 140737488351232) (hw : ∀ x ∈ l, (Lit.int .u8 x).wf = true) (a : Int) (ha : a ≤ 9223372036854775807) : Ev (fun k => impl_GetText.f k l a) (getText l a) := by
  unfold impl_GetText.f getText
  have hr := getNum_res l hw a
  refine Ev.bind (impl_GetNum_ev l hl hw a ha) ?_
  generalize getNum l a = r at *
  obtain ⟨n, nx, ok⟩ := r
  cases ok with
  | false => exact ev_neg (by simp) (ev_some (by simp))
  | true =>
    obtain ⟨h1, h2, h3, h4⟩ := hr rfl
    simp only at h1 h2 h3 h4
    refine ev_pos rfl ?_
    simp only [if_true]
    rw [w64 (x := (l.length : Int) - nx) (by omega) (by omega)]
    by_cases hc : n > (l.length : Int) - nx
    · exact ev_pos hc (ev_some (by rw [if_pos hc]))
    · rw [w64 (x := nx + n) (by omega) (by omega)]
      exact ev_neg hc (ev_pos h3 (ev_pos (by omega) (ev_pos (by omega) (ev_some (by rw [if_neg hc])))))

end Go.Proofs.Ytplgbnalflpdhaa.Y

