/- The program's Refs gives the reference's list, as new memory each time. (A plain statement over numbers and lists; the row behind it carries it to the program.) Conditions: none beyond the row's own. -/
import Derived.Test.YthlpllkhlgnjcaaPFnExactRefsx2
namespace Go.Proofs.Ythlpllkhlgnjcaa.Pure
open Go.RowKit Go.Proofs.Ythlpllkhlgnjcaa.PFnExactRefs Go.Proofs.YthlpllkhlgnjcaaW.PrintWords Go.Proofs.YthlpllkhlgnjcaaW.PrintLast
set_option linter.unusedVariables false
set_option linter.unusedSimpArgs false
theorem wf64 {x : Int} (h : (Lit.int .i64 x).wf = true) : -9223372036854775808 ≤ x ∧ x ≤ 9223372036854775807 := by
  simp only [Lit.wf, Bool.and_eq_true, decide_eq_true_eq] at h
  exact h
theorem wf8 {x : Int} (h : (Lit.int .u8 x).wf = true) : 0 ≤ x ∧ x ≤ 255 := by
  simp only [Lit.wf, Bool.and_eq_true, decide_eq_true_eq] at h
  exact h
theorem w64 {x : Int} (h : -9223372036854775808 ≤ x) (h' : x ≤ 9223372036854775807) : wrap64 x = x := by unfold wrap64; omega
theorem w64_range (x : Int) : -9223372036854775808 ≤ wrap64 x ∧ wrap64 x ≤ 9223372036854775807 := by unfold wrap64; omega
theorem ev_pos {α : Type} {c : Prop} [Decidable c] {g f : Nat → Option α} {r : α} (hc : c) (h : Ev g r) : Ev (fun k => if c then g k else f k) r := by
  simpa only [if_pos hc] using h
theorem ev_neg {α : Type} {c : Prop} [Decidable c] {g f : Nat → Option α} {r : α} (hc : ¬ c) (h : Ev f r) : Ev (fun k => if c then g k else f k) r := by
  simpa only [if_neg hc] using h
theorem ev_const {α : Type} {g : Option α} {r : α} (h : g = some r) : Ev (fun _ => g) r := ⟨0, fun _ _ => h⟩
theorem ev_some {α : Type} {r r' : α} (h : r = r') : Ev (fun _ => some r) r' := ⟨0, fun _ _ => by rw [h]⟩
theorem ev_bindS {α β : Type} {g : Option α} {f : Nat → α → Option β} {a : α} {r : β} (h : g = some a) (k : Ev (fun n => f n a) r) : Ev (fun n => g.bind (f n)) r := by
  subst h; exact k
theorem rd_app_left {xs ys : List Int} {i : Int} (h0 : 0 ≤ i) (h : i < xs.length) : rd (xs ++ ys) i = rd xs i := by
  unfold rd; rw [List.getD_eq_getElem?_getD, List.getD_eq_getElem?_getD, List.getElem?_append_left (by omega)]
theorem rd_drop {xs : List Int} {i : Int} {v : Int} {ys : List Int} (h : xs.drop i.toNat = v :: ys) : rd xs i = v := by
  unfold rd
  have : xs[i.toNat]? = some v := by
    have := congrArg (fun l => l[0]?) h
    simpa using this
  rw [List.getD_eq_getElem?_getD, this]; rfl

def mtextL : Nat → Int → ByteArray → ByteArray
  | 0, _, s => (⟨#[109]⟩ : ByteArray) ++ s
  | n + 1, x, s => if x > 0 then mtextL n (x / 10) (strOfNums [(48 + x % 10) % 256] ++ s) else (⟨#[109]⟩ : ByteArray) ++ s
def mtext (c : Int) : ByteArray := if c ≤ 0 then (⟨#[109, 48]⟩ : ByteArray) else mtextL 19 c (⟨#[]⟩ : ByteArray)
theorem pow10 (x : Int) (n : Nat) (h : x < 10 ^ (n + 1)) : x / 10 < 10 ^ n := by
  rw [Int.pow_succ] at h
  generalize (10 : Int) ^ n = p at *
  omega
theorem markText_l (n : Nat) : ∀ (x : Int) (s : ByteArray), x < 10 ^ n → 0 ≤ x → x ≤ 9223372036854775807 → s.size + n ≤ 9223372036854775806 → Ev (fun k => laws_markText.l0 k x s) (mtextL n x s) := by
  induction n with
  | zero =>
    intro x s h h0 hb hs
    have : ¬ x > 0 := by simp at h; omega
    refine Ev.step (f := fun _ => some ((⟨#[109]⟩ : ByteArray) ++ s)) (fun k => ?_) (Ev.now _)
    simp only [laws_markText.l0]; rw [if_neg this, if_pos (by omega)]
  | succ n ih =>
    intro x s h h0 hb hs
    unfold mtextL
    by_cases hx : x > 0
    · rw [if_pos hx]
      have hz : (strOfNums [(48 + x % 10) % 256]).size = 1 := by rw [strOfNums_size]; rfl
      refine Ev.step (f := fun k => laws_markText.l0 k (x / 10) (strOfNums [(48 + x % 10) % 256] ++ s)) (fun k => ?_) (ih (x / 10) _ (pow10 x n h) (by omega) (by omega) (by rw [ByteArray.size_append, hz]; omega))
      simp only [laws_markText.l0, Option.bind_some]
      rw [if_pos hx, Int.tmod_eq_emod_of_nonneg h0, Int.tdiv_eq_ediv_of_nonneg h0, w64 (x := 48 + _) (by omega) (by omega), w64 (x := x / 10) (by omega) (by omega), hz, if_pos (by omega)]
    · rw [if_neg hx]
      refine Ev.step (f := fun _ => some ((⟨#[109]⟩ : ByteArray) ++ s)) (fun k => ?_) (Ev.now _)
      simp only [laws_markText.l0]; rw [if_neg hx, if_pos (by omega)]
theorem markText_ev (c : Int) (h : c ≤ 9223372036854775807) : Ev (fun k => laws_markText.f k c) (mtext c) := by
  unfold laws_markText.f mtext
  by_cases h0 : c ≤ 0
  · simp only [if_pos h0]; exact Ev.now _
  · simp only [if_neg h0]
    exact markText_l 19 c _ (by omega) (by omega) h (by simp [ByteArray.size])

theorem rd49 (xs : List S49) (i : Int) (h0 : 0 ≤ i) (h : i < xs.length) : rd_T49 xs i = xs[i.toNat]'(by omega) := by
  unfold rd_T49; rw [List.getD_eq_getElem?_getD, List.getElem?_eq_getElem (by omega)]; rfl
theorem eqRef_same (a : ByteArray) (b : Int) : laws_eqRef.f a b a b = some true := by unfold laws_eqRef.f; rw [if_pos rfl, if_pos rfl]
theorem eqRefS_l (l : List S49) (hl : l.length ≤ 9223372036854775807) : ∀ (d : Nat) (i : Int), 0 ≤ i → i + d = l.length → Ev (fun k => laws_eqRefS.l0 k l l i) true := by
  intro d
  induction d with
  | zero =>
    intro i h0 h
    refine Ev.step (f := fun _ => some true) (fun k => ?_) (Ev.now _)
    simp only [laws_eqRefS.l0]; rw [if_neg (by omega)]
  | succ d ih =>
    intro i h0 h
    refine Ev.step (f := fun k => laws_eqRefS.l0 k l l (i + 1)) (fun k => ?_) (ih (i + 1) (by omega) (by omega))
    simp only [laws_eqRefS.l0, eqRef_same, Option.bind_some]; rw [if_pos (by omega), if_pos h0, if_pos (by omega), if_pos True.intro, w64 (by omega) (by omega)]
theorem eqRefS_same (l : List S49) (hl : l.length ≤ 9223372036854775807) : Ev (fun k => laws_eqRefS.f k l l) true := by
  refine Ev.congr (f := fun k => laws_eqRefS.l0 k l l 0) (fun k => ?_) (eqRefS_l l hl l.length 0 (by omega) (by omega))
  simp only [laws_eqRefS.f]; rw [if_pos True.intro]
def markR (c : Int) : Nat → List S49
  | 0 => []
  | n + 1 => ⟨mtext c, c + 1⟩ :: markR (c + 2) n
theorem markR_len (n : Nat) : ∀ c, (markR c n).length = n := by
  induction n with
  | zero => intro c; rfl
  | succ n ih => intro c; simp [markR, ih]
theorem markRefS_l (n : Nat) (hn : n ≤ 1000000) : ∀ (d : Nat) (l : List S49) (c i : Int), l.length = n → 0 ≤ i → i + d = n → 0 ≤ c → c + 2 * d ≤ 4611686018427387903 →
    Ev (fun k => laws_markRefS.l0 k l c i) (c + 2 * d, l.take i.toNat ++ markR c d) := by
  intro d
  induction d with
  | zero =>
    intro l c i hl h0 h hc hd
    refine Ev.step (f := fun _ => some (c, l)) (fun k => ?_) (ev_some ?_)
    · simp only [laws_markRefS.l0]; rw [if_neg (by omega)]
    · simp [markR, List.take_of_length_le (show l.length ≤ i.toNat by omega)]
  | succ d ih =>
    intro l c i hl h0 h hc hd
    have e : (l.set i.toNat (⟨mtext c, c + 1⟩ : S49)).take (i + 1).toNat = l.take i.toNat ++ [⟨mtext c, c + 1⟩] := by
      have : (i + 1).toNat = i.toNat + 1 := by omega
      rw [this, List.take_succ_eq_append_getElem (by simp; omega), List.take_set_of_le (Nat.le_refl _)]
      simp
    refine Ev.step (f := fun k => (laws_markText.f k c).bind fun t115 => laws_markRefS.l0 k (l.set i.toNat (⟨t115, c + 1⟩ : S49)) (c + 2) (i + 1)) (fun k => ?_) (Ev.bind (markText_ev c (by omega)) ?_)
    · simp only [laws_markRefS.l0, Option.bind_some]; rw [if_pos (by omega), w64 (x := i + 1) (by omega) (by omega), w64 (x := c + 1) (by omega) (by omega), w64 (by omega) (by omega)]
      congr 1; funext t
      rw [if_pos h0, rd49 (l.set _ _) i h0 (by simp; omega), show c + 1 + 1 = c + 2 by omega]
      simp
    · have := ih (l.set i.toNat ⟨mtext c, c + 1⟩) (c + 2) (i + 1) (by simp [hl]) (by omega) (by omega) (by omega) (by omega)
      rw [e] at this
      simp only [List.append_assoc, List.singleton_append] at this
      have h2 : c + 2 + 2 * (d : Int) = c + 2 * ((d + 1 : Nat) : Int) := by omega
      rw [h2] at this
      exact this
theorem heldRefS_l (n : Nat) (hn : n ≤ 1000000) (l : List S49) (hl : l.length = n) : ∀ (d : Nat) (c i : Int), 0 ≤ i → i + d = n → 0 ≤ c → c + 2 * d ≤ 4611686018427387903 → l.drop i.toNat = markR c d →
    Ev (fun k => laws_heldRefS.l0 k l c i) (c + 2 * d) := by
  intro d
  induction d with
  | zero =>
    intro c i h0 h hc hd hm
    refine Ev.step (f := fun _ => some c) (fun k => ?_) (ev_some (by omega))
    simp only [laws_heldRefS.l0]; rw [if_neg (by omega)]
  | succ d ih =>
    intro c i h0 h hc hd hm
    have hr : rd_T49 l i = ⟨mtext c, c + 1⟩ := by
      have h3 := congrArg (fun l => l[0]?) hm
      simp [markR] at h3
      unfold rd_T49
      rw [List.getD_eq_getElem?_getD, h3]; rfl
    have h2 : c + 2 + 2 * (d : Int) = c + 2 * ((d + 1 : Nat) : Int) := by omega
    refine Ev.step (f := fun k => (laws_markText.f k c).bind fun t => if (mtext c).toList = t.toList then laws_heldRefS.l0 k l (c + 2) (i + 1) else some (-1)) (fun k => ?_) (Ev.bind (markText_ev c (by omega)) (ev_pos rfl ?_))
    · simp only [laws_heldRefS.l0]; rw [if_pos (by omega), if_pos h0, hr, w64 (x := i + 1) (by omega) (by omega), w64 (x := c + 1) (by omega) (by omega), w64 (by omega) (by omega)]
      simp only [if_true, Int.add_assoc]; rfl
    · rw [← h2]
      refine ih (c + 2) (i + 1) (by omega) (by omega) (by omega) (by omega) ?_
      have e : (i + 1).toNat = i.toNat + 1 := by omega
      rw [e, ← List.drop_drop, hm]; rfl
theorem markRefS_ev (l : List S49) (hn : l.length ≤ 1000000) : Ev (fun k => laws_markRefS.f k l 1) (1 + 2 * l.length, markR 1 l.length) := by
  have := markRefS_l l.length hn l.length l 1 0 rfl (by omega) (by omega) (by omega) (by omega)
  simpa [laws_markRefS.f] using this
theorem heldRefS_ev (n : Nat) (hn : n ≤ 1000000) : Ev (fun k => laws_heldRefS.f k (markR 1 n) 1) (1 + 2 * n) := by
  have := heldRefS_l n hn (markR 1 n) (markR_len n 1) n 1 0 (by omega) (by omega) (by omega) (by omega) (by simp)
  simpa [laws_heldRefS.f] using this

theorem FnExactRefs : laws_FnExactRefs.Pure := by
  have e : impl_Refs.f = spec_Refs.f := rfl
  obtain ⟨l, hs, hl⟩ : ∃ l, spec_Refs.f = some l ∧ l.length = 24 := ⟨_, rfl, rfl⟩
  have hi := e.trans hs
  refine Ev.rounds (g := fun k => laws_FnExactRefs.f k) ?_
  unfold laws_FnExactRefs.f
  refine ev_bindS hs (ev_bindS hi (Ev.bind (eqRefS_same l (by omega)) ?_))
  refine ev_pos rfl (Ev.bind (markRefS_ev l (by omega)) (Ev.bind (heldRefS_ev l.length (by omega)) ?_))
  refine ev_neg (by omega) (ev_pos rfl (ev_bindS hi (Ev.bind (eqRefS_same l (by omega)) (ev_pos rfl (Ev.bind (heldRefS_ev l.length (by omega)) ?_)))))
  exact ev_neg (by omega) (ev_pos rfl (Ev.now _))

end Go.Proofs.Ythlpllkhlgnjcaa.Pure
