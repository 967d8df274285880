/- Plain lemmas over numbers and lists for FnExactTreeNew. Conditions: as each states. -/
import Derived.Test.YtplgbnalflpdhaaKFnExactTreeNewx2
/- Plain lemmas over numbers and lists (base). Conditions: as each states. -/
namespace Go.Proofs.Ytplgbnalflpdhaa.Y
open Go.RowKit Go.Proofs.Ytplgbnalflpdhaa.X Go.Proofs.YtplgbnalflpdhaaW.PrintWords Go.Proofs.YtplgbnalflpdhaaW.PrintLast Go.Proofs.YtplgbnalflpdhaaW.PrintMore Go.Proofs.Ytplgbnalflpdhaa.Y
set_option linter.unusedVariables false
set_option linter.unusedSimpArgs false
theorem wf64 {x : Int} (h : (Lit.int .i64 x).wf = true) : -9223372036854775808 ≤ x ∧ x ≤ 9223372036854775807 := by
  simp only [Lit.wf, Bool.and_eq_true, decide_eq_true_eq] at h
  exact h
theorem wf8 {x : Int} (h : (Lit.int .u8 x).wf = true) : 0 ≤ x ∧ x ≤ 255 := by
  simp only [Lit.wf, Bool.and_eq_true, decide_eq_true_eq] at h
  exact h
theorem w64 {x : Int} (h : -9223372036854775808 ≤ x) (h' : x ≤ 9223372036854775807) : wrap64 x = x := by unfold wrap64; omega
theorem w64_range (x : Int) : -9223372036854775808 ≤ wrap64 x ∧ wrap64 x ≤ 9223372036854775807 := by unfold wrap64; omega
theorem ev_pos {α : Type} {c : Prop} [Decidable c] {g f : Nat → Option α} {r : α} (hc : c) (h : Ev g r) : Ev (fun k => if c then g k else f k) r := by
  simpa only [if_pos hc] using h
theorem ev_neg {α : Type} {c : Prop} [Decidable c] {g f : Nat → Option α} {r : α} (hc : ¬ c) (h : Ev f r) : Ev (fun k => if c then g k else f k) r := by
  simpa only [if_neg hc] using h
theorem ev_const {α : Type} {g : Option α} {r : α} (h : g = some r) : Ev (fun _ => g) r := ⟨0, fun _ _ => h⟩
theorem ev_some {α : Type} {r r' : α} (h : r = r') : Ev (fun _ => some r) r' := ⟨0, fun _ _ => by rw [h]⟩
theorem ev_bindS {α β : Type} {g : Option α} {f : Nat → α → Option β} {a : α} {r : β} (h : g = some a) (k : Ev (fun n => f n a) r) : Ev (fun n => g.bind (f n)) r := by
  subst h; exact k
theorem rd_app_left {xs ys : List Int} {i : Int} (h0 : 0 ≤ i) (h : i < xs.length) : rd (xs ++ ys) i = rd xs i := by
  unfold rd; rw [List.getD_eq_getElem?_getD, List.getD_eq_getElem?_getD, List.getElem?_append_left (by omega)]
theorem rd_drop {xs : List Int} {i : Int} {v : Int} {ys : List Int} (h : xs.drop i.toNat = v :: ys) : rd xs i = v := by
  unfold rd
  have : xs[i.toNat]? = some v := by
    have := congrArg (fun l => l[0]?) h
    simpa using this
  rw [List.getD_eq_getElem?_getD, this]; rfl
/-- One round: what follows is read off by 'simp only [F.j0]'. -/
theorem ev_succ {α : Type} {g : Nat → Option α} {r : α} (h : Ev (fun k => g (k + 1)) r) : Ev g r := Ev.step (fun _ => rfl) h
theorem ev_cast {α : Type} {g : Nat → Option α} {r r' : α} (h : Ev g r) (e : r = r') : Ev g r' := by subst e; exact h

end Go.Proofs.Ytplgbnalflpdhaa.Y

/- Plain lemmas over numbers and lists (eqIntS). Conditions: as each states. -/
namespace Go.Proofs.Ytplgbnalflpdhaa.Y
open Go.RowKit Go.Proofs.Ytplgbnalflpdhaa.X Go.Proofs.YtplgbnalflpdhaaW.PrintWords Go.Proofs.YtplgbnalflpdhaaW.PrintLast Go.Proofs.YtplgbnalflpdhaaW.PrintMore Go.Proofs.Ytplgbnalflpdhaa.Y
set_option linter.unusedVariables false
set_option linter.unusedSimpArgs false
theorem eqIntS_l (l : List Int) (hl : l.length ≤ 9223372036854775807) : ∀ (d : Nat) (i : Int), 0 ≤ i → i + d = l.length → Ev (fun k => laws_eqIntS.l0 k l l i) true := by
  intro d
  induction d with
  | zero =>
    intro i h0 h
    refine Ev.step (f := fun _ => some true) (fun k => ?_) (Ev.now _)
    simp only [laws_eqIntS.l0]; rw [if_neg (by omega)]
  | succ d ih =>
    intro i h0 h
    refine Ev.step (f := fun k => laws_eqIntS.l0 k l l (i + 1)) (fun k => ?_) (ih (i + 1) (by omega) (by omega))
    simp only [laws_eqIntS.l0]; rw [if_pos (by omega), if_pos h0, if_pos (by omega), if_pos True.intro, w64 (by omega) (by omega)]
theorem eqIntS_same (l : List Int) (hl : l.length ≤ 9223372036854775807) : Ev (fun k => laws_eqIntS.f k l l) true := by
  refine Ev.congr (f := fun k => laws_eqIntS.l0 k l l 0) (fun k => ?_) (eqIntS_l l hl l.length 0 (by omega) (by omega))
  simp only [laws_eqIntS.f]; rw [if_pos True.intro]

end Go.Proofs.Ytplgbnalflpdhaa.Y

/- Plain lemmas over numbers and lists (markI). Conditions: as each states. -/
namespace Go.Proofs.Ytplgbnalflpdhaa.Y
open Go.RowKit Go.Proofs.Ytplgbnalflpdhaa.X Go.Proofs.YtplgbnalflpdhaaW.PrintWords Go.Proofs.YtplgbnalflpdhaaW.PrintLast Go.Proofs.YtplgbnalflpdhaaW.PrintMore Go.Proofs.Ytplgbnalflpdhaa.Y
set_option linter.unusedVariables false
set_option linter.unusedSimpArgs false
def markI (c : Int) : Nat → List Int
  | 0 => []
  | n + 1 => c :: markI (c + 1) n
theorem markI_len (n : Nat) : ∀ c, (markI c n).length = n := by
  induction n with
  | zero => intro c; rfl
  | succ n ih => intro c; simp [markI, ih]

end Go.Proofs.Ytplgbnalflpdhaa.Y

/- Plain lemmas over numbers and lists (markIntS). Conditions: as each states. -/
namespace Go.Proofs.Ytplgbnalflpdhaa.Y
open Go.RowKit Go.Proofs.Ytplgbnalflpdhaa.X Go.Proofs.YtplgbnalflpdhaaW.PrintWords Go.Proofs.YtplgbnalflpdhaaW.PrintLast Go.Proofs.YtplgbnalflpdhaaW.PrintMore Go.Proofs.Ytplgbnalflpdhaa.Y
set_option linter.unusedVariables false
set_option linter.unusedSimpArgs false
theorem markIntS_l (n : Nat) (hn : n ≤ 4611686018427387903) : ∀ (d : Nat) (l : List Int) (c i : Int), l.length = n → 0 ≤ i → i + d = n → 0 ≤ c → c + d ≤ 4611686018427387903 →
    Ev (fun k => laws_markIntS.l0 k l c i) (c + d, l.take i.toNat ++ markI c d) := by
  intro d
  induction d with
  | zero =>
    intro l c i hl h0 h hc hd
    refine Ev.step (f := fun _ => some (c, l)) (fun k => ?_) (ev_some ?_)
    · simp only [laws_markIntS.l0]; rw [if_neg (by omega)]
    · simp [markI, List.take_of_length_le (show l.length ≤ i.toNat by omega)]
  | succ d ih =>
    intro l c i hl h0 h hc hd
    have e : (l.set i.toNat c).take (i + 1).toNat = l.take i.toNat ++ [c] := by
      have : (i + 1).toNat = i.toNat + 1 := by omega
      rw [this, List.take_succ_eq_append_getElem (by simp; omega), List.take_set_of_le (Nat.le_refl _)]
      simp
    refine Ev.step (f := fun k => laws_markIntS.l0 k (l.set i.toNat c) (c + 1) (i + 1)) (fun k => ?_) ?_
    · simp only [laws_markIntS.l0]; rw [if_pos (by omega), if_pos h0, w64 (by omega) (by omega), w64 (by omega) (by omega)]
    · have := ih (l.set i.toNat c) (c + 1) (i + 1) (by simp [hl]) (by omega) (by omega) (by omega) (by omega)
      rw [e] at this
      simp only [List.append_assoc, List.singleton_append] at this
      have h2 : c + 1 + (d : Int) = c + ((d + 1 : Nat) : Int) := by omega
      rw [h2] at this
      exact this
theorem markIntS_ev (l : List Int) (c : Int) (hc : 0 ≤ c) (h : c + l.length ≤ 4611686018427387903) : Ev (fun k => laws_markIntS.f k l c) (c + l.length, markI c l.length) := by
  have := markIntS_l l.length (by omega) l.length l c 0 rfl (by omega) (by omega) hc h
  simpa [laws_markIntS.f] using this

end Go.Proofs.Ytplgbnalflpdhaa.Y

/- Plain lemmas over numbers and lists (heldIntS). Conditions: as each states. -/
namespace Go.Proofs.Ytplgbnalflpdhaa.Y
open Go.RowKit Go.Proofs.Ytplgbnalflpdhaa.X Go.Proofs.YtplgbnalflpdhaaW.PrintWords Go.Proofs.YtplgbnalflpdhaaW.PrintLast Go.Proofs.YtplgbnalflpdhaaW.PrintMore Go.Proofs.Ytplgbnalflpdhaa.Y
set_option linter.unusedVariables false
set_option linter.unusedSimpArgs false
theorem heldIntS_l (n : Nat) (hn : n ≤ 4611686018427387903) (l : List Int) (hl : l.length = n) : ∀ (d : Nat) (c i : Int), 0 ≤ i → i + d = n → 0 ≤ c → c + d ≤ 4611686018427387903 → l.drop i.toNat = markI c d →
    Ev (fun k => laws_heldIntS.l0 k l c i) (c + d) := by
  intro d
  induction d with
  | zero =>
    intro c i h0 h hc hd hm
    refine Ev.step (f := fun _ => some c) (fun k => ?_) (ev_some (by omega))
    simp only [laws_heldIntS.l0]; rw [if_neg (by omega)]
  | succ d ih =>
    intro c i h0 h hc hd hm
    have hr : rd l i = c := rd_drop (by rw [hm]; rfl)
    have h2 : c + 1 + (d : Int) = c + ((d + 1 : Nat) : Int) := by omega
    refine Ev.step (f := fun k => laws_heldIntS.l0 k l (c + 1) (i + 1)) (fun k => ?_) ?_
    · simp only [laws_heldIntS.l0]; rw [if_pos (by omega), if_pos h0, if_pos hr, w64 (by omega) (by omega), w64 (by omega) (by omega)]
    · rw [← h2]
      refine ih (c + 1) (i + 1) (by omega) (by omega) (by omega) (by omega) ?_
      have e : (i + 1).toNat = i.toNat + 1 := by omega
      rw [e, ← List.drop_drop, hm]; rfl
theorem heldIntS_ev (n : Nat) (c : Int) (hc : 0 ≤ c) (h : c + n ≤ 4611686018427387903) : Ev (fun k => laws_heldIntS.f k (markI c n) c) (c + n) := by
  have := heldIntS_l n (by omega) (markI c n) (markI_len n c) n c 0 (by omega) (by omega) hc h (by simp)
  simpa [laws_heldIntS.f] using this

end Go.Proofs.Ytplgbnalflpdhaa.Y

/- Plain lemmas over numbers and lists (markText). Conditions: as each states. -/
namespace Go.Proofs.Ytplgbnalflpdhaa.Y
open Go.RowKit Go.Proofs.Ytplgbnalflpdhaa.X Go.Proofs.YtplgbnalflpdhaaW.PrintWords Go.Proofs.YtplgbnalflpdhaaW.PrintLast Go.Proofs.YtplgbnalflpdhaaW.PrintMore Go.Proofs.Ytplgbnalflpdhaa.Y
set_option linter.unusedVariables false
set_option linter.unusedSimpArgs false
def mtextL : Nat → Int → ByteArray → ByteArray
  | 0, _, s => (⟨#[109]⟩ : ByteArray) ++ s
  | n + 1, x, s => if x > 0 then mtextL n (x / 10) (strOfNums [(48 + x % 10) % 256] ++ s) else (⟨#[109]⟩ : ByteArray) ++ s
def mtext (c : Int) : ByteArray := if c ≤ 0 then (⟨#[109, 48]⟩ : ByteArray) else mtextL 19 c (⟨#[]⟩ : ByteArray)
theorem pow10 (x : Int) (n : Nat) (h : x < 10 ^ (n + 1)) : x / 10 < 10 ^ n := by
  rw [Int.pow_succ] at h
  generalize (10 : Int) ^ n = p at *
  omega
theorem markText_l (n : Nat) : ∀ (x : Int) (s : ByteArray), x < 10 ^ n → 0 ≤ x → x ≤ 9223372036854775807 → s.size + n ≤ 9223372036854775806 → Ev (fun k => laws_markText.l0 k x s) (mtextL n x s) := by
  induction n with
  | zero =>
    intro x s h h0 hb hs
    have : ¬ x > 0 := by simp at h; omega
    refine Ev.step (f := fun _ => some ((⟨#[109]⟩ : ByteArray) ++ s)) (fun k => ?_) (Ev.now _)
    simp only [laws_markText.l0]; rw [if_neg this, if_pos (by omega)]
  | succ n ih =>
    intro x s h h0 hb hs
    unfold mtextL
    by_cases hx : x > 0
    · rw [if_pos hx]
      have hz : (strOfNums [(48 + x % 10) % 256]).size = 1 := by rw [strOfNums_size]; rfl
      refine Ev.step (f := fun k => laws_markText.l0 k (x / 10) (strOfNums [(48 + x % 10) % 256] ++ s)) (fun k => ?_) (ih (x / 10) _ (pow10 x n h) (by omega) (by omega) (by rw [ByteArray.size_append, hz]; omega))
      simp only [laws_markText.l0, Option.bind_some]
      rw [if_pos hx, Int.tmod_eq_emod_of_nonneg h0, Int.tdiv_eq_ediv_of_nonneg h0, w64 (x := 48 + _) (by omega) (by omega), w64 (x := x / 10) (by omega) (by omega), hz, if_pos (by omega)]
    · rw [if_neg hx]
      refine Ev.step (f := fun _ => some ((⟨#[109]⟩ : ByteArray) ++ s)) (fun k => ?_) (Ev.now _)
      simp only [laws_markText.l0]; rw [if_neg hx, if_pos (by omega)]
theorem markText_ev (c : Int) (h : c ≤ 9223372036854775807) : Ev (fun k => laws_markText.f k c) (mtext c) := by
  unfold laws_markText.f mtext
  by_cases h0 : c ≤ 0
  · simp only [if_pos h0]; exact Ev.now _
  · simp only [if_neg h0]
    exact markText_l 19 c _ (by omega) (by omega) h (by simp [ByteArray.size])

end Go.Proofs.Ytplgbnalflpdhaa.Y

