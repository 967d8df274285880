/- Drawn attributes are alike in any order, from either side. (A plain statement over numbers and lists; the row behind it carries it to the program.) Conditions: none beyond the row's own. -/
import Derived.Test.YtplgbnalflpdhaaKFnAlikey1
namespace Go.Proofs.Ytplgbnalflpdhaa.Pure
open Go.RowKit Go.Proofs.Ytplgbnalflpdhaa.X Go.Proofs.YtplgbnalflpdhaaW.PrintWords Go.Proofs.YtplgbnalflpdhaaW.PrintLast Go.Proofs.YtplgbnalflpdhaaW.PrintMore Go.Proofs.Ytplgbnalflpdhaa.Y
set_option linter.unusedVariables false
set_option linter.unusedSimpArgs false
theorem AD_set {n : Nat} {l : List IA} {x : IA} (h : AD n l) (hx : x.f0.size ≤ 4000 ∧ x.f1.size ≤ 4000) (i : Nat) : AD n (l.set i x) := by
  refine ⟨by rw [List.length_set]; exact h.1, fun y hy => ?_⟩
  rcases List.mem_or_eq_of_mem_set hy with hy | rfl
  · exact h.2 y hy
  · exact hx
def AE (n : Nat) (l : List IA) : Prop := l.length ≤ n ∧ ∀ x ∈ l, x.f0.size ≤ 4001 ∧ x.f1.size ≤ 4001
theorem AE_of {n : Nat} {l : List IA} (h : AD n l) : AE n l := ⟨h.1, fun x hx => by have := h.2 x hx; omega⟩
theorem DrawAttrsSame_p (l : List Int) (hl : l.length ≤ 1048576) : EvP (fun k => spec_DrawAttrsSame.f k l) (fun a => AE 30 a.1 ∧ AE 30 a.2) := by
  unfold spec_DrawAttrsSame.f
  refine EvP.bind (l1New_p l hl) (fun c hc => ?_)
  rw [hc.1]
  refine EvP.bind (l4DrawAttrs_p l _ _ hl hc.2) (fun a ha => ?_)
  have hal := ha.1.1
  simp only [Option.bind_some, List.nil_append, List.length_nil]
  have j3 : ∀ (b : List IA) (i h : Int), (0 ≤ i ∧ i ≤ l.length) → AE 30 b → EvP (fun k => spec_DrawAttrsSame.j3 k a.1 b l i h) (fun a => AE 30 a.1 ∧ AE 30 a.2) := by
    intro b i h hi hb
    refine EvP.succ ?_
    simp only [spec_DrawAttrsSame.j3]
    refine EvP.bindS (l1Once_p l i h 6 hl hi (by omega)) (fun o ho => EvP.ite (fun _ => ?_) (fun _ => EvP.some ⟨AE_of ha.1, hb⟩))
    exact EvP.bind (l4DrawAttrs_p l _ _ hl ho.2) (fun q hq => EvP.some ⟨AE_of ha.1, AE_of hq.1⟩)
  have j2 : ∀ (b : List IA) (t : Bool) (i h : Int), (0 ≤ i ∧ i ≤ l.length) → AD 30 b → (t = true → 0 < b.length) → EvP (fun k => spec_DrawAttrsSame.j2 k a.1 b t l i h) (fun a => AE 30 a.1 ∧ AE 30 a.2) := by
    intro b t i h hi hb ht
    refine EvP.succ ?_
    simp only [spec_DrawAttrsSame.j2]
    refine EvP.ite (fun g => ?_) (fun _ => j3 b i h hi (AE_of hb))
    have hpos := ht g
    have hr := rdA (l := b) (i := 0) (by omega) (by omega)
    have hm := hb.2 _ (List.getElem_mem (l := b) (n := (0 : Int).toNat) (by simpa using hpos))
    rw [hr]
    refine EvP.pos (by omega) (EvP.pos (by omega) (j3 _ i h hi ⟨by rw [List.length_set]; exact hb.1, fun y hy => ?_⟩))
    rcases List.mem_or_eq_of_mem_set hy with hy | rfl
    · have := hb.2 y hy; omega
    · refine ⟨Nat.le_trans hm.1 (by omega), ?_⟩
      show (_ ++ _ : ByteArray).size ≤ 4001
      rw [ByteArray.size_append]
      have : (⟨#[120]⟩ : ByteArray).size = 1 := rfl
      omega
  have j1 : ∀ (b : List IA) (i h : Int), (0 ≤ i ∧ i ≤ l.length) → AD 30 b → EvP (fun k => spec_DrawAttrsSame.j1 k a.1 b l i h) (fun a => AE 30 a.1 ∧ AE 30 a.2) := by
    intro b i h hi hb
    refine EvP.succ ?_
    simp only [spec_DrawAttrsSame.j1]
    refine EvP.ite (fun g => ?_) (fun _ => j2 b false i h hi hb (by simp))
    exact EvP.bindS (l1Once_p l i h 3 hl hi (by omega)) (fun o ho => j2 b o.1 _ _ ho.2 hb (fun _ => by omega))
  have j0 : ∀ (t : Bool) (i h : Int), (0 ≤ i ∧ i ≤ l.length) → (t = true → 1 < a.1.length) → EvP (fun k => spec_DrawAttrsSame.j0 k a.1 a.1 t l i h) (fun a => AE 30 a.1 ∧ AE 30 a.2) := by
    intro t i h hi ht
    refine EvP.succ ?_
    simp only [spec_DrawAttrsSame.j0]
    refine EvP.ite (fun g => ?_) (fun _ => j1 a.1 i h hi ha.1)
    have hpos := ht g
    rw [rdA (l := a.1) (i := 1) (by omega) (by omega), rdA (l := a.1) (i := 0) (by omega) (by omega)]
    have m0 := ha.1.2 _ (List.getElem_mem (l := a.1) (n := (0 : Int).toNat) (by simp; omega))
    have m1 := ha.1.2 _ (List.getElem_mem (l := a.1) (n := (1 : Int).toNat) (by simp; omega))
    exact EvP.pos (by omega) (EvP.pos (by omega) (j1 _ i h hi (AD_set (AD_set ha.1 m1 _) m0 _)))
  refine EvP.pos (by omega) (EvP.ite (fun g => ?_) (fun _ => j0 false _ _ ha.2 (by simp)))
  exact EvP.bindS (l1Once_p l _ _ 2 hl ha.2 (by omega)) (fun o ho => j0 o.1 _ _ ho.2 (fun _ => by omega))
/-- As many, each once, all of the one among the other: then all of the other among the one. -/
theorem pigeon : ∀ (a b : List IA), namesOnce a → (∀ x ∈ a, x ∈ b) → a.length = b.length → ∀ y ∈ b, y ∈ a := by
  intro a
  induction a with
  | nil =>
    intro b _ _ h y hy
    have : b = [] := List.length_eq_zero_iff.1 h.symm
    subst this; exact hy
  | cons x r ih =>
    intro b hn hs hl y hy
    obtain ⟨s, t, rfl⟩ := List.append_of_mem (hs x (by simp))
    have hsub : ∀ z ∈ r, z ∈ s ++ t := by
      intro z hz
      have hne : z ≠ x := fun e => hn.1 z hz (by rw [e])
      have := hs z (by simp [hz])
      simp only [List.mem_append, List.mem_cons] at this ⊢
      rcases this with h | h | h
      · exact .inl h
      · exact absurd h hne
      · exact .inr h
    have := ih (s ++ t) hn.2 hsub (by simp at hl ⊢; omega)
    simp only [List.mem_append, List.mem_cons] at hy
    rcases hy with h | h | h
    · exact List.mem_cons_of_mem _ (this y (by simp [h]))
    · rw [h]; simp
    · exact List.mem_cons_of_mem _ (this y (by simp [h]))
theorem same_iff {a b : List IA} (hb : namesOnce b) : attrsSameP a b ↔ a.length = b.length ∧ ∀ x ∈ a, x ∈ b := by
  unfold attrsSameP
  constructor
  · rintro ⟨h1, h2⟩; exact ⟨h1, fun x hx => (attrOf_iff hb x).1 (h2 x hx)⟩
  · rintro ⟨h1, h2⟩; exact ⟨h1, fun x hx => (attrOf_iff hb x).2 (h2 x hx)⟩
theorem once_reverse {a : List IA} (h : namesOnce a) : namesOnce a.reverse := by
  rw [namesOnce_index] at h ⊢
  intro i j hi hj
  simp only [List.getElem_reverse]
  have hj' : j < a.length := by simpa using hj
  exact fun e => h (a.length - 1 - j) (a.length - 1 - i) (by omega) (by omega) e.symm
theorem same_symm {a b : List IA} (ha : namesOnce a) (hb : namesOnce b) : attrsSameP b a ↔ attrsSameP a b := by
  rw [same_iff ha, same_iff hb]
  constructor
  · rintro ⟨h1, h2⟩; exact ⟨h1.symm, pigeon b a hb h2 h1⟩
  · rintro ⟨h1, h2⟩; exact ⟨h1.symm, pigeon a b ha h2 h1⟩
theorem same_rev {a b : List IA} (hb : namesOnce b) : attrsSameP a.reverse b ↔ attrsSameP a b := by
  rw [same_iff hb, same_iff hb]; simp
theorem alike_l0 (a b : List IA) (s : Bool) (hal : a.length ≤ 1000) (hbl : b.length ≤ 1000) (ha : namesOnce a) (hb : namesOnce b) (hs : s = true ↔ attrsSameP a b) : ∀ (d : Nat) (acc : List IA), acc = (a.drop d).reverse → d ≤ a.length → EvP (fun k => laws_FnAlike.l0 k a b s acc ((d : Int) - 1)) (fun r => r = true) := by
  intro d
  induction d with
  | zero =>
    intro acc hacc hd
    rw [List.drop_zero] at hacc
    subst hacc
    refine EvP.succ ?_
    simp only [laws_FnAlike.l0]
    refine EvP.neg (by omega) ?_
    obtain ⟨r, hr, hr2⟩ := impl_AttrsSame_ev b a (by omega) (by omega)
    obtain ⟨q, hq, hq2⟩ := impl_AttrsSame_ev a.reverse b (by rw [List.length_reverse]; omega) (by omega)
    obtain ⟨p, hp, hp2⟩ := impl_AttrsSame_ev a a.reverse (by omega) (by rw [List.length_reverse]; omega)
    have e1 : r = s := bool_iff (hr2.trans (same_symm ha hb)) hs
    have e2 : q = s := bool_iff (hq2.trans (same_rev hb)) hs
    have e3 : p = true := hp2.2 ((same_iff (once_reverse ha)).2 ⟨by simp, by simp⟩)
    subst e1
    subst e3
    refine EvP.bind (EvP.of hr rfl) (fun x hx => EvP.pos (by simp [← hx]) (EvP.bind (EvP.of hq rfl) (fun y hy => EvP.pos (by simp [← hy, e2]) (EvP.bind (EvP.of hp rfl) (fun z hz => EvP.some hz.symm)))))
  | succ d ih =>
    intro acc hacc hd
    refine EvP.succ ?_
    simp only [laws_FnAlike.l0]
    have e : (((d + 1 : Nat) : Int) - 1) = (d : Int) := by omega
    rw [e, w64 (x := (d : Int) - 1) (by omega) (by omega), rdA (l := a) (i := (d : Int)) (by omega) (by omega)]
    have hl : acc.length ≤ 1000 := by rw [hacc, List.length_reverse, List.length_drop]; omega
    refine EvP.pos (by omega) (EvP.pos (by omega) (EvP.pos (by omega) (EvP.pos (by omega) (ih _ ?_ (by omega)))))
    rw [hacc, List.drop_eq_getElem_cons (i := d) (by omega), List.reverse_cons]
    rfl
theorem FnAlike : laws_FnAlike.Pure := by
  intro l _ hl hw
  refine Ev.rounds (g := fun k => laws_FnAlike.f k l) (EvP.ev ?_)
  unfold laws_FnAlike.f laws_big.f
  simp only [Option.bind_some, decide_eq_true_eq]
  refine EvP.ite (fun _ => EvP.some rfl) (fun hb => ?_)
  have hl : l.length ≤ 1048576 := by omega
  refine EvP.bind (DrawAttrsSame_p l hl) (fun p hp => ?_)
  obtain ⟨a, b⟩ := p
  obtain ⟨ha, hb⟩ := hp
  simp only at ha hb ⊢
  have hal := ha.1
  have hbl := hb.1
  obtain ⟨s, hs, hs2⟩ := impl_AttrsSame_ev a b (by omega) (by omega)
  obtain ⟨t, ht, ht2⟩ := spec_AttrsSame_ev a b (by omega) (by omega)
  have e := bool_iff ht2 hs2
  subst e
  obtain ⟨x, hx, hx2⟩ := impl_AttrsOk_ev a (fun x hx => by have := ha.2 x hx; omega)
  obtain ⟨y, hy, hy2⟩ := impl_AttrsOk_ev b (fun x hx => by have := hb.2 x hx; omega)
  refine EvP.bind (EvP.of hs rfl) (fun s1 e1 => EvP.bind (EvP.of ht rfl) (fun s2 e2 => ?_))
  subst e1
  refine EvP.neg (by simp [← e2]) (EvP.bind (EvP.of hx rfl) (fun x1 e3 => ?_))
  subst e3
  refine EvP.ite (fun c => ?_) (fun _ => ?_)
  · refine EvP.bind (EvP.of hy rfl) (fun y1 e4 => EvP.succ ?_)
    subst e4
    simp only [laws_FnAlike.j0]
    refine EvP.ite (fun _ => EvP.some rfl) (fun c2 => ?_)
    have hA := hx2.1 c
    have hB := hy2.1 (by simpa using c2)
    have := alike_l0 a b _ (by omega) (by omega) hA.2.2 hB.2.2 hs2 a.length [] (by simp) (Nat.le_refl _)
    rw [w64 (x := (a.length : Int) - 1) (by omega) (by omega)]
    exact this
  · refine EvP.succ ?_
    simp only [laws_FnAlike.j0]
    exact EvP.pos (by simp) (EvP.some rfl)

end Go.Proofs.Ytplgbnalflpdhaa.Pure
