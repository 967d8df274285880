/- A drawn reference takes at least its sign; by number it stands for one point; what is taken is just what is told. (A plain statement over numbers and lists; the row behind it carries it to the program.) Conditions: none beyond the row's own. -/
import Derived.Test.YtplgbnalflpdhaaKFnRefy1
namespace Go.Proofs.Ytplgbnalflpdhaa.Pure
open Go.RowKit Go.Proofs.Ytplgbnalflpdhaa.X Go.Proofs.YtplgbnalflpdhaaW.PrintWords Go.Proofs.YtplgbnalflpdhaaW.PrintLast Go.Proofs.YtplgbnalflpdhaaW.PrintMore Go.Proofs.Ytplgbnalflpdhaa.Y
set_option linter.unusedVariables false
set_option linter.unusedSimpArgs false
/-- A list that is drawn: short, or as long as a page, and then of zeros behind its sign. -/
def drawnList (l : List Int) : Prop := l.length ≤ 100 ∨ ((l.length = 3000 ∨ l.length = 3001) ∧ numAt l 1 = 0)
theorem DrawRef_j2 (l : List Int) (hl : l.length ≤ 1048576) (p : List Int) (a : Int) (hp : p.length ≤ 100) (i h : Int) (hi : 0 ≤ i ∧ i ≤ l.length) : EvP (fun k => spec_DrawRefRead.j2 k p a l i h) (fun r => drawnList r.1 ∧ (100 < r.1.length → r.2.1 = 0)) := by
  refine EvP.succ ?_
  simp only [spec_DrawRefRead.j2]
  refine EvP.bindS (l1Once_p l i h 60 hl hi (by omega)) (fun o ho => EvP.ite (fun _ => ?_) (fun _ => ?_))
  · refine EvP.bindS (l1Below_p l _ _ 2 hl ho.2 (by omega)) (fun b hb => ?_)
    rw [w64 (x := 3000 + b.1) (by omega) (by omega)]
    simp only [Option.bind_some]
    refine EvP.pos (by omega) (EvP.pos (by omega) (EvP.pos (by rw [List.length_replicate]; omega) (EvP.bindS (l1Once_p l _ _ 2 hl hb.2 (by omega)) (fun q hq => EvP.some ⟨.inr ⟨?_, ?_⟩, fun _ => rfl⟩))))
    · simp only [List.length_set, List.length_replicate]; omega
    · unfold numAt
      rw [if_pos (by simp only [List.length_set, List.length_replicate]; omega)]
      unfold rd
      rw [List.getD_eq_getElem?_getD, List.getElem?_set]
      simp
      rw [List.getElem?_replicate]
      split <;> simp
  · exact EvP.bindS (l1Once_p l _ _ 2 hl ho.2 (by omega)) (fun q hq => EvP.some ⟨.inl hp, fun h => by simp only at h; omega⟩)
theorem DrawRef_j1 (l : List Int) (hl : l.length ≤ 1048576) (p : List Int) (a : Int) (hp : p.length ≤ 100) (i h : Int) (hi : 0 ≤ i ∧ i ≤ l.length) : EvP (fun k => spec_DrawRefRead.j1 k p a l i h) (fun r => drawnList r.1 ∧ (100 < r.1.length → r.2.1 = 0)) := by
  refine EvP.succ ?_
  simp only [spec_DrawRefRead.j1]
  refine EvP.bindS (l1Once_p l i h 12 hl hi (by omega)) (fun o ho => EvP.ite (fun _ => ?_) (fun _ => DrawRef_j2 l hl p a hp _ _ ho.2))
  exact EvP.bindS (l1PickInt_p l _ _ _ hl ho.2 (by simp) (by simp)) (fun q hq => DrawRef_j2 l hl p _ hp _ _ hq.2)
theorem DrawRef_l0 (l : List Int) (hl : l.length ≤ 1048576) (p : List Int) (hp : p.length ≤ 100) (i h : Int) (hi : 0 ≤ i ∧ i ≤ l.length) : ∀ (d : Nat) (a : Int), 0 ≤ a → a + d = p.length → EvP (fun k => spec_DrawRefRead.l0 k p a l i h) (fun r => drawnList r.1 ∧ (100 < r.1.length → r.2.1 = 0)) := by
  intro d
  induction d with
  | zero =>
    intro a h0 hd
    refine EvP.succ ?_
    simp only [spec_DrawRefRead.l0]
    exact EvP.neg (by omega) (DrawRef_j1 l hl p a hp i h hi)
  | succ d ih =>
    intro a h0 hd
    refine EvP.succ ?_
    simp only [spec_DrawRefRead.l0]
    rw [w64 (x := a + 1) (by omega) (by omega)]
    exact EvP.pos (by omega) (EvP.pos h0 (EvP.ite (fun _ => DrawRef_j1 l hl p a hp i h hi) (fun _ => ih (a + 1) (by omega) (by omega))))
theorem DrawRefRead_p (l : List Int) (hl : l.length ≤ 1048576) : EvP (fun k => spec_DrawRefRead.f k l) (fun r => drawnList r.1 ∧ (100 < r.1.length → r.2.1 = 0)) := by
  unfold spec_DrawRefRead.f
  refine EvP.bind (l1New_p l hl) (fun c hc => ?_)
  rw [hc.1]
  refine EvP.bindS (l1Pick_p l _ _ [(⟨#[]⟩ : ByteArray), (⟨#[97]⟩ : ByteArray)] hl hc.2 (by simp) (by simp)) (fun s hs => ?_)
  have hs1 : s.1.size ≤ 20 := (by decide : ∀ s ∈ [(⟨#[]⟩ : ByteArray), (⟨#[97]⟩ : ByteArray)], s.size ≤ 20) _ hs.1
  refine EvP.bindS (P := fun t => t.1.size ≤ 20 ∧ 0 ≤ t.2.1 ∧ t.2.1 ≤ (l.length : Int)) ?_ (fun t ht => ?_)
  · unfold spec_l3DrawRef.f
    obtain ⟨b, e, hv, hj⟩ := l1Pick_p l s.2.1 s.2.2 [(⟨#[38, 97, 109, 112, 59]⟩ : ByteArray), (⟨#[38, 97, 109, 112]⟩ : ByteArray), (⟨#[38, 97, 109, 112, 120]⟩ : ByteArray), (⟨#[38, 108, 116, 61]⟩ : ByteArray), (⟨#[38, 110, 111, 116, 105, 110, 59]⟩ : ByteArray), (⟨#[38, 110, 111, 116, 105, 116]⟩ : ByteArray), (⟨#[38, 110, 111, 116]⟩ : ByteArray), (⟨#[38, 35, 54, 53, 59]⟩ : ByteArray), (⟨#[38, 35, 120, 52, 49]⟩ : ByteArray), (⟨#[38, 35, 88, 52, 97, 59]⟩ : ByteArray), (⟨#[38, 35, 59]⟩ : ByteArray), (⟨#[38, 35, 120, 59]⟩ : ByteArray), (⟨#[38, 35, 49, 50, 56, 59]⟩ : ByteArray), (⟨#[38, 35, 48, 59]⟩ : ByteArray), (⟨#[38, 35, 120, 70, 70, 70, 70, 70, 70, 70, 70, 59]⟩ : ByteArray), (⟨#[38, 35, 48, 48, 48, 48, 48, 48, 48, 48, 48, 54, 53, 59]⟩ : ByteArray), (⟨#[38]⟩ : ByteArray), (⟨#[38, 120, 59]⟩ : ByteArray), (⟨#[38, 99, 111, 112, 121, 57]⟩ : ByteArray), (⟨#[38, 115, 117, 112, 49, 59]⟩ : ByteArray), (⟨#[38, 102, 114, 97, 99, 49, 50]⟩ : ByteArray), (⟨#[38, 104, 101, 108, 108, 105, 112, 59]⟩ : ByteArray), (⟨#[38, 35, 53, 53, 50, 57, 54, 59]⟩ : ByteArray), (⟨#[38, 35, 49, 50, 51, 52, 53, 54, 55, 56, 59]⟩ : ByteArray)] hl hs.2 (by simp) (by simp)
    rw [e, Option.bind_some]
    refine ⟨_, rfl, ?_, hj⟩
    revert hv
    generalize b.1 = x
    revert x
    decide
  refine EvP.pos (by omega) (EvP.bindS (l1Pick_p l _ _ [(⟨#[]⟩ : ByteArray), (⟨#[59]⟩ : ByteArray), (⟨#[61]⟩ : ByteArray), (⟨#[97]⟩ : ByteArray), (⟨#[49]⟩ : ByteArray), (⟨#[32]⟩ : ByteArray)] hl ht.2 (by simp) (by simp)) (fun u hu => ?_))
  have hu1 : u.1.size ≤ 20 := (by decide : ∀ s ∈ [(⟨#[]⟩ : ByteArray), (⟨#[59]⟩ : ByteArray), (⟨#[61]⟩ : ByteArray), (⟨#[97]⟩ : ByteArray), (⟨#[49]⟩ : ByteArray), (⟨#[32]⟩ : ByteArray)], s.size ≤ 20) _ hu.1
  have hz : (s.1 ++ t.1 ++ u.1).size = s.1.size + t.1.size + u.1.size := by rw [ByteArray.size_append, ByteArray.size_append]
  refine EvP.pos (by rw [ByteArray.size_append]; omega) ?_
  unfold spec_l3Points.f
  have hb := bytesOf_length (s.1 ++ t.1 ++ u.1)
  refine EvP.bind (EvP.pos (by omega) (EvP.bind (EvP.of (l1Read_ev _ (by omega) (bytesOf_wf _)) rfl) (fun x hx => EvP.some (Q := fun (x : List Int) => x.length ≤ 100) ?_))) (fun p hp => DrawRef_l0 l hl p hp _ _ hu.2 p.length 0 (by omega) (by omega))
  rw [← hx]
  have := urAll_len (bytesOf (s.1 ++ t.1 ++ u.1))
  omega
theorem zeros_none (l : List Int) (v : Bool) (h1 : numAt l 1 = 0) : (refOf l 0 v).2 = 0 := by
  unfold refOf
  rw [if_neg (by show ¬ numAt l 1 = 35; omega)]
  unfold refNam
  have e : best l (0 + 1) = (⟨#[]⟩, 0) := by
    have key : ∀ (rs : List S39), (∀ r ∈ rs, r ∈ refList) → rs.foldl (pick l (0 + 1)) (⟨#[]⟩, 0) = (⟨#[]⟩, 0) := by
      intro rs
      induction rs with
      | nil => intro _; rfl
      | cons r rs ih =>
        intro h
        rw [List.foldl_cons]
        have hr := h r (by simp)
        have : stands l (0 + 1) (bytesOf r.f0) = false := stands_no l _ _ 1 (by omega) (by rw [bytesOf_length]; have := refList_size r hr; omega) (fun x hx => by rw [h1]; exact (refList_bytes r hr x hx).2)
        have e : pick l (0 + 1) (⟨#[]⟩, 0) r = (⟨#[]⟩, 0) := by unfold pick; rw [if_neg]; rintro ⟨_, g⟩; rw [this] at g; simp at g
        rw [e]; exact ih (fun x hx => h x (by simp [hx]))
    exact key refList (fun r hr => hr)
  rw [e]; rfl
theorem FnRef : laws_FnRef.Pure := by
  intro l _ hl hw
  refine Ev.rounds (g := fun k => laws_FnRef.f k l) (EvP.ev ?_)
  unfold laws_FnRef.f laws_big.f
  simp only [Option.bind_some, decide_eq_true_eq]
  refine EvP.ite (fun _ => EvP.some rfl) (fun hb => ?_)
  have hl : l.length ≤ 1048576 := by omega
  refine EvP.bind (DrawRefRead_p l hl) (fun p hp => ?_)
  obtain ⟨m, a, v⟩ := p
  obtain ⟨hm, hm0⟩ := hp
  simp only at hm hm0 ⊢
  have hi := impl_RefRead_ev m a v
  have hs := spec_RefRead_ev m a v
  refine EvP.bind (EvP.of hi rfl) (fun x hx => EvP.bind (EvP.of hs rfl) (fun y hy => ?_))
  subst hx
  subst hy
  have hq1 : (refRead m a v).1.length ≤ 1 := by
    unfold refRead; split
    · simp
    · split <;> simp
  refine EvP.bind (EvP.of (sameInts_same _ (by omega)) rfl) (fun t ht => EvP.pos ht.symm (EvP.succ ?_))
  simp only [laws_FnRef.j0, bne_self_eq_false]
  refine EvP.neg (by simp) ?_
  by_cases h38 : (m.length : Int) > 3000 ∨ numAt m a ≠ 38
  · have e : refRead m a v = ([], a) := by unfold refRead; rw [if_pos h38]
    rw [e]
    exact EvP.pos (by simp) (EvP.some (by simp))
  have hin : 0 ≤ a ∧ a < m.length := by
    by_cases c : 0 ≤ a ∧ a < m.length
    · exact c
    · exact absurd (.inr (by rw [numAt_out (by omega)]; decide)) h38
  have hj1 : ∀ (g : List Int) (n : Int), g.length = 1 → 0 ≤ n → n ≤ m.length → n.toNat ≤ m.length → (n = a + 1 ∧ rd g 0 = 38 ∨ refRead (m.take n.toNat ++ [32]) a v = (g, n)) → EvP (fun k => laws_FnRef.j1 k m a v g n false) (fun r => r = true) := by
    intro g n hg hn0 hn hn' hor
    refine EvP.succ ?_
    simp only [laws_FnRef.j1, Option.bind_some, List.nil_append, List.length_nil]
    have hml : m.length ≤ 3000 := by omega
    rw [w64 (x := a + 1) (by omega) (by omega)]
    refine EvP.neg (by simp) (EvP.pos hn0 (EvP.pos hn (EvP.pos (by rw [List.length_take]; omega) (EvP.pos (by rw [List.length_take]; omega) (EvP.bind (EvP.of (impl_RefRead_ev _ a v) rfl) (fun z hz => ?_))))))
    subst hz
    have rest : refRead (m.take n.toNat ++ [32]) a v = (g, n) → EvP (fun k => (laws_sameInts.f k (refRead (m.take n.toNat ++ [32]) a v).1 g).bind fun t => if t = true then some ((refRead (m.take n.toNat ++ [32]) a v).2 == n) else some false) (fun r => r = true) := by
      intro e
      rw [e]
      exact EvP.bind (EvP.of (sameInts_same g (by omega)) rfl) (fun t ht => EvP.pos ht.symm (EvP.some (by simp)))
    refine EvP.ite (fun c => EvP.pos (by omega) (EvP.ite (fun _ => EvP.some rfl) (fun c2 => ?_))) (fun c => ?_)
    · rcases hor with ⟨_, g2⟩ | g2
      · exact absurd g2 c2
      · exact rest g2
    · rcases hor with ⟨g1, _⟩ | g2
      · exact absurd g1 c
      · exact rest g2
  have fin : ∀ (g : List Int) (n : Int), refRead m a v = (g, n) → g.length = 1 → a < n → n ≤ m.length → pointOk (rd g 0) = true → (n = a + 1 ∧ rd g 0 = 38 ∨ refRead (m.take n.toNat ++ [32]) a v = (g, n)) → EvP (fun k => if ((refRead m a v).1.length : Int) = 0 then some ((refRead m a v).2 == a) else if ((refRead m a v).1.length : Int) = 1 then (if (refRead m a v).2 ≤ a then laws_FnRef.j1 k m a v (refRead m a v).1 (refRead m a v).2 true else if (refRead m a v).2 > (m.length : Int) then laws_FnRef.j1 k m a v (refRead m a v).1 (refRead m a v).2 true else if 0 < ((refRead m a v).1.length : Int) then (impl_PointOk.f (rd (refRead m a v).1 0)).bind fun t117 => laws_FnRef.j1 k m a v (refRead m a v).1 (refRead m a v).2 (!t117) else none) else laws_FnRef.j1 k m a v (refRead m a v).1 (refRead m a v).2 true) (fun r => r = true) := by
    intro g n e hg h1 h2 h3 h4
    rw [e]
    simp only [impl_PointOk_eq, h3, Option.bind_some, Bool.not_true]
    refine EvP.neg (by omega) (EvP.pos (by omega) (EvP.neg (by omega) (EvP.neg (by omega) (EvP.pos (by omega) (hj1 g n hg (by omega) h2 (by omega) h4)))))
  by_cases hpos : (refOf m a v).2 > 0
  · have e : refRead m a v = ([(refOf m a v).1], (refOf m a v).2) := by unfold refRead; rw [if_neg h38, if_pos hpos]
    obtain ⟨g1, g2, g3, g4⟩ := refOf_local m a v hin.1 hin.2 hpos
    have hsmall : m.length ≤ 100 := by
      rcases hm with h | ⟨h, hz⟩
      · exact h
      · have ha0 := hm0 (by omega)
        subst ha0
        have := zeros_none m v hz
        omega
    refine fin _ _ e rfl (by omega) g2 g3 (.inr ?_)
    have hn : ((refOf m a v).2.toNat : Nat) ≤ m.length := by omega
    unfold refRead
    rw [if_neg, g4, if_pos hpos]
    rintro (c | c)
    · rw [cut_len m _ hn] at c; omega
    · rw [cut_in hn (by omega)] at c
      exact h38 (.inr c)
  · have e : refRead m a v = ([38], a + 1) := by unfold refRead; rw [if_neg h38, if_neg hpos]
    exact fin _ _ e rfl (by omega) (by omega) (by show pointOk 38 = true; decide) (.inl ⟨rfl, rfl⟩)

end Go.Proofs.Ytplgbnalflpdhaa.Pure
