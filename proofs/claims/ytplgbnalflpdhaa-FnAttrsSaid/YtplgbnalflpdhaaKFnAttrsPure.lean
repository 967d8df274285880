/- A drawn attribute that is added is found, if there was none of its name; all others are as they were. (A plain statement over numbers and lists; the row behind it carries it to the program.) Conditions: none beyond the row's own. -/
import Derived.Test.YtplgbnalflpdhaaKFnAttrsy1
namespace Go.Proofs.Ytplgbnalflpdhaa.Pure
open Go.RowKit Go.Proofs.Ytplgbnalflpdhaa.X Go.Proofs.YtplgbnalflpdhaaW.PrintWords Go.Proofs.YtplgbnalflpdhaaW.PrintLast Go.Proofs.YtplgbnalflpdhaaW.PrintMore Go.Proofs.Ytplgbnalflpdhaa.Y
set_option linter.unusedVariables false
set_option linter.unusedSimpArgs false
theorem DrawAttrAdd_p (l : List Int) (hl : l.length ≤ 1048576) : EvP (fun k => spec_DrawAttrAdd.f k l) (fun a => AD 30 a.1 ∧ a.2.1.size ≤ 4000 ∧ a.2.2.size ≤ 4000) := by
  unfold spec_DrawAttrAdd.f
  refine EvP.bind (l1New_p l hl) (fun c hc => ?_)
  rw [hc.1]
  refine EvP.bind (l4DrawAttrs_p l _ _ hl hc.2) (fun a ha => ?_)
  refine EvP.bindS (l1Pick_p l _ _ [(⟨#[105, 100]⟩ : ByteArray), (⟨#[122]⟩ : ByteArray), (⟨#[]⟩ : ByteArray), (⟨#[255]⟩ : ByteArray), (⟨#[113]⟩ : ByteArray)] hl ha.2 (by simp) (by simp)) (fun b hb => EvP.bindS (l4DrawText_p l _ _ hl hb.2) (fun t ht => EvP.bindS (l1Once_p l _ _ 20 hl ht.2 (by omega)) (fun o ho => ?_)))
  have hs : ∀ s ∈ [(⟨#[105, 100]⟩ : ByteArray), (⟨#[122]⟩ : ByteArray), (⟨#[]⟩ : ByteArray), (⟨#[255]⟩ : ByteArray), (⟨#[113]⟩ : ByteArray)], s.size ≤ 20 := by decide
  have hb1 := hs _ hb.1
  refine EvP.ite (fun _ => EvP.bindS (l1Below_p l _ _ 2 hl ho.2 (by omega)) (fun q hq => ?_)) (fun _ => EvP.some ⟨ha.1, by show b.1.size ≤ _; omega, by show t.1.size ≤ _; omega⟩)
  rw [w64 (x := 3000 + q.1) (by omega) (by omega)]
  refine EvP.pos (by omega) (EvP.pos (by omega) (EvP.some ⟨ha.1, by show b.1.size ≤ _; omega, ?_⟩))
  simp only [str_size, List.length_replicate]; omega
theorem attrs_l0 (l n : List IA) (hl : l.length ≤ 1000) (hn : n.length ≤ 1000) (hpre : ∃ t, n = l ++ t) (hls : ∀ x ∈ l, x.f0.size ≤ 1048576 ∧ x.f1.size ≤ 1048576) (hns : ∀ x ∈ n, x.f0.size ≤ 1048576 ∧ x.f1.size ≤ 1048576) (hok : attrsOkP l → attrsOkP n) : ∀ (d : Nat) (i : Int), 0 ≤ i → i + d = l.length → EvP (fun k => laws_FnAttrs.l0 k l n i) (fun r => r = true) := by
  obtain ⟨t, rfl⟩ := hpre
  intro d
  induction d with
  | zero =>
    intro i h0 h
    refine EvP.succ ?_
    simp only [laws_FnAttrs.l0]
    refine EvP.neg (by omega) ?_
    obtain ⟨r, hr, hr2⟩ := impl_AttrsOk_ev l hls
    refine EvP.bind (EvP.of hr rfl) (fun x hx => ?_)
    subst hx
    refine EvP.ite (fun c => ?_) (fun _ => EvP.some rfl)
    have hP := hr2.1 c
    obtain ⟨q, hq, hq2⟩ := impl_AttrsOk_ev (l ++ t) hns
    have : q = true := hq2.2 (hok hP)
    subst this
    refine EvP.bind (EvP.of hq rfl) (fun x hx => EvP.pos hx.symm ?_)
    obtain ⟨s, hs, hs2⟩ := impl_AttrsSame_ev l l (by omega) (by omega)
    have : s = true := hs2.2 ⟨rfl, attrOf_once hP.2.2⟩
    subst this
    exact EvP.bind (EvP.of hs rfl) (fun x hx => EvP.some hx.symm)
  | succ d ih =>
    intro i h0 h
    refine EvP.succ ?_
    simp only [laws_FnAttrs.l0]
    have hlen : (l ++ t).length = l.length + t.length := List.length_append
    rw [rdA (l := l ++ t) h0 (by omega), rdA (l := l) h0 (by omega), w64 (x := i + 1) (by omega) (by omega), List.getElem_append_left (by omega)]
    refine EvP.pos (by omega) (EvP.pos h0 (EvP.pos (by omega) (EvP.neg (by simp) (ih (i + 1) (by omega) (by omega)))))
theorem FnAttrs : laws_FnAttrs.Pure := by
  intro l _ hl hw
  refine Ev.rounds (g := fun k => laws_FnAttrs.f k l) (EvP.ev ?_)
  unfold laws_FnAttrs.f laws_big.f
  simp only [Option.bind_some, decide_eq_true_eq]
  refine EvP.ite (fun _ => EvP.some rfl) (fun hb => ?_)
  have hl : l.length ≤ 1048576 := by omega
  refine EvP.bind (DrawAttrAdd_p l hl) (fun p hp => ?_)
  obtain ⟨m, a0, a1⟩ := p
  obtain ⟨hm, h0, h1⟩ := hp
  simp only at hm h0 h1 ⊢
  have hml := hm.1
  have hsz : (⟨a0, a1⟩ : IA).f0.size ≤ 1048576 ∧ (⟨a0, a1⟩ : IA).f1.size ≤ 1048576 := ⟨by show a0.size ≤ _; omega, by show a1.size ≤ _; omega⟩
  have hi := impl_AttrAdd_ev m ⟨a0, a1⟩ (by omega) hsz
  have hs := spec_AttrAdd_ev m ⟨a0, a1⟩ (by omega) hsz
  have hlen : (attrAdd m ⟨a0, a1⟩).length ≤ 31 := (AD_add hm (x := ⟨a0, a1⟩) ⟨h0, h1⟩).1
  have hj : ∀ n : List IA, (n = m ∨ n = m ++ [⟨a0, a1⟩] ∧ (attrOf m a0).2 = false ∧ attrOkB ⟨a0, a1⟩ = true ∧ m.length < 20) → EvP (fun k => laws_FnAttrs.j0 k m n false) (fun r => r = true) := by
    intro n hn
    refine EvP.succ ?_
    simp only [laws_FnAttrs.j0]
    have hmS : ∀ x ∈ m, x.f0.size ≤ 1048576 ∧ x.f1.size ≤ 1048576 := fun x hx => by have := hm.2 x hx; omega
    refine EvP.neg (by simp) ?_
    rcases hn with rfl | ⟨rfl, hno, hok, h20⟩
    · exact attrs_l0 n n (by omega) (by omega) ⟨[], by simp⟩ hmS hmS (fun h => h) n.length 0 (by omega) (by omega)
    · refine attrs_l0 m _ (by omega) (by rw [List.length_append, List.length_singleton]; omega) ⟨_, rfl⟩ hmS (fun x hx => ?_) (fun h => ?_) m.length 0 (by omega) (by omega)
      · rcases List.mem_append.1 hx with hx | hx
        · exact hmS x hx
        · rw [List.mem_singleton] at hx; subst hx; exact hsz
      · refine ⟨by rw [List.length_append, List.length_singleton]; omega, fun x hx => ?_, ?_⟩
        · rcases List.mem_append.1 hx with hx | hx
          · exact h.2.1 x hx
          · rw [List.mem_singleton] at hx; subst hx; exact hok
        · have hne : ∀ x ∈ m, x.f0 ≠ a0 := by
            intro x hx e
            have := attrOf_once h.2.2 x hx
            rw [e] at this
            rw [this] at hno; simp at hno
          have key : ∀ (m : List IA) (a : IA), namesOnce m → (∀ x ∈ m, x.f0 ≠ a.f0) → namesOnce (m ++ [a]) := by
            intro m
            induction m with
            | nil => intro a _ _; exact ⟨by simp, trivial⟩
            | cons y r ih =>
              intro a g1 g2
              refine ⟨fun z hz => ?_, ih a g1.2 (fun x hx => g2 x (by simp [hx]))⟩
              rcases List.mem_append.1 hz with hz | hz
              · exact g1.1 z hz
              · rw [List.mem_singleton] at hz; subst hz; exact fun e => g2 y (by simp) e.symm
          exact key m ⟨a0, a1⟩ h.2.2 hne
  refine EvP.bind (EvP.of hi rfl) (fun x hx => EvP.bind (EvP.of hs rfl) (fun y hy => ?_))
  subst hx
  subst hy
  refine EvP.pos rfl (EvP.bind (EvP.of (impl_AttrOf_ev m a0 (by omega)) rfl) (fun o ho => ?_))
  subst ho
  refine EvP.bind (EvP.of (impl_AttrOf_ev (attrAdd m ⟨a0, a1⟩) a0 (by omega)) rfl) (fun g hg => ?_)
  subst hg
  by_cases hc : (attrOf m a0).2 = true ∨ m.length ≥ 20 ∨ attrOkB ⟨a0, a1⟩ = false
  · rw [attrAdd_same (a := ⟨a0, a1⟩) hc]
    refine EvP.ite (fun hh => ?_) (fun hh => ?_)
    · exact EvP.pos hh (EvP.pos rfl (EvP.pos rfl (EvP.neg (by omega) (hj m (.inl rfl)))))
    · exact EvP.neg (by omega) (hj m (.inl rfl))
  · rw [attrAdd_new (a := ⟨a0, a1⟩) hc]
    have hno : (attrOf m a0).2 = false := by
      cases h : (attrOf m a0).2 with
      | true => exact absurd (.inl h) hc
      | false => rfl
    have hnew : attrOf (m ++ [⟨a0, a1⟩]) a0 = (a1, true) := by
      have key : ∀ (m : List IA), (attrOf m a0).2 = false → attrOf (m ++ [⟨a0, a1⟩]) a0 = (a1, true) := by
        intro m
        induction m with
        | nil => intro _; simp [attrOf]
        | cons y r ih =>
          intro h
          unfold attrOf at h
          by_cases c : y.f0.toList = a0.toList
          · rw [if_pos c] at h; simp at h
          · rw [if_neg c] at h
            rw [List.cons_append]
            conv => lhs; unfold attrOf
            rw [if_neg c]; exact ih h
      exact key m hno
    rw [hnew, hno]
    refine EvP.neg (by simp) (EvP.pos (by rw [List.length_append, List.length_singleton]; omega) (EvP.pos rfl (hj _ (.inr ⟨rfl, hno, ?_, ?_⟩))))
    · cases h : attrOkB ⟨a0, a1⟩ with
      | true => rfl
      | false => exact absurd (.inr (.inr h)) hc
    · rcases Nat.lt_or_ge m.length 20 with h | h
      · exact h
      · exact absurd (.inr (.inl h)) hc

end Go.Proofs.Ytplgbnalflpdhaa.Pure
