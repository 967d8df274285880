/- Plain lemmas over numbers and lists for FnExactTreePack. Conditions: as each states. -/
import Derived.Test.YtgneacekgbjkkaaKFnExactTreePacky1
set_option maxHeartbeats 64000000
set_option maxRecDepth 100000
namespace Go.Proofs.Ytgneacekgbjkkaa.Y
open Go.RowKit Go.Proofs.Ytgneacekgbjkkaa.X Go.Proofs.YtgneacekgbjkkaaW.PrintWords Go.Proofs.YtgneacekgbjkkaaW.PrintLast Go.Proofs.YtgneacekgbjkkaaW.PrintMore Go.Proofs.Ytgneacekgbjkkaa.Y
set_option linter.unusedVariables false
set_option linter.unusedSimpArgs false
theorem markAttrS_at (l : List IA) (c : Int) (hn : l.length ≤ 2000000) (h0 : 0 ≤ c) (h : c + 2 * l.length ≤ 4611686018427387903) : Ev (fun k => laws_markAttrS.f k l c) (c + 2 * l.length, markA c l.length) := by
 have := markAttrS_l l.length hn l.length l c 0 rfl (by omega) (by omega) h0 h
 simpa [laws_markAttrS.f] using this
theorem heldAttrS_at (n : Nat) (c : Int) (hn : n ≤ 2000000) (h0 : 0 ≤ c) (h : c + 2 * n ≤ 4611686018427387903) : Ev (fun k => laws_heldAttrS.f k (markA c n) c) (c + 2 * n) := by
 have := heldAttrS_l n hn (markA c n) (markA_len n c) n c 0 (by omega) (by omega) h0 h (by simp)
 simpa [laws_heldAttrS.f] using this
def markN (c : Int) (x : IN) : IN := ⟨c, mtext (c + 1), markA (c + 2) x.f2.length, mtext (c + 2 + 2 * x.f2.length), c + 3 + 2 * x.f2.length, markI (c + 4 + 2 * x.f2.length) x.f5.length⟩
def mkwN (x : IN) : Int := 4 + 2 * x.f2.length + x.f5.length
def markT : Int → List IN → List IN
 | _, [] => []
 | c, x :: r => markN c x :: markT (c + mkwN x) r
def endT : Int → List IN → Int
 | c, [] => c
 | c, x :: r => endT (c + mkwN x) r
def shortL (l : List IN) : Prop := ∀ x ∈ l, x.f2.length ≤ 1048576 ∧ x.f5.length ≤ 1048576
theorem endT_ge : ∀ (l : List IN) (c : Int), c ≤ endT c l := by
 intro l
 induction l with
 | nil => intro c; exact Int.le_refl _
 | cons x r ih =>
  intro c
  have := ih (c + mkwN x)
  unfold endT
  unfold mkwN at this ⊢
  omega
theorem markT_len : ∀ (l : List IN) (c : Int), (markT c l).length = l.length := by
 intro l
 induction l with
 | nil => intro c; rfl
 | cons x r ih => intro c; simp [markT, ih]
theorem markT_l (n : Nat) (hn : n ≤ 1048576) : ∀ (d : Nat) (l : List IN) (c i : Int), l.length = n → 0 ≤ i → i + d = n → 0 ≤ c → c + d * 4000000 ≤ 4611686018427387903 → shortL l →
 Ev (fun k => laws_markNodeS.l0 k l c i) (endT c (l.drop i.toNat), l.take i.toNat ++ markT c (l.drop i.toNat)) := by
 intro d
 induction d with
 | zero =>
  intro l c i hl h0 h hc hd hs
  refine ev_succ ?_
  simp only [laws_markNodeS.l0]
  refine ev_neg (by omega) (ev_some ?_)
  rw [List.drop_of_length_le (by omega), List.take_of_length_le (by omega)]
  simp [endT, markT]
 | succ d ih =>
  intro l c i hl h0 h hc hd hs
  have hi : i.toNat < l.length := by omega
  have hx := hs l[i.toNat] (List.getElem_mem _)
  have hrd : rd_T45 l i = l[i.toNat] := rdN h0 (by omega)
  refine ev_succ ?_
  simp only [laws_markNodeS.l0]
  rw [hrd, w64 (x := i + 1) (by omega) (by omega), w64 (x := c + 1) (by omega) (by omega), w64 (x := c + 1 + 1) (by omega) (by omega)]
  refine ev_pos (by omega) (ev_pos h0 (Ev.bind (markText_ev (c + 1) (by omega)) (Ev.bind (markAttrS_at l[i.toNat].f2 (c + 1 + 1) (by omega) (by omega) (by omega)) (Ev.bind (markText_ev _ (by show c + 1 + 1 + 2 * (l[i.toNat].f2.length : Int) ≤ _; omega)) ?_))))
  rw [show c + 1 + 1 = c + 2 by omega, w64 (x := c + 2 + 2 * (l[i.toNat].f2.length : Int) + 1) (by omega) (by omega), w64 (x := c + 2 + 2 * (l[i.toNat].f2.length : Int) + 1 + 1) (by omega) (by omega)]
  refine Ev.bind (markIntS_ev l[i.toNat].f5 (c + 2 + 2 * (l[i.toNat].f2.length : Int) + 1 + 1) (by omega) (by omega)) ?_
  have e : (⟨c, mtext (c + 1), markA (c + 2) l[i.toNat].f2.length, mtext (c + 2 + 2 * (l[i.toNat].f2.length : Int)), c + 2 + 2 * (l[i.toNat].f2.length : Int) + 1, markI (c + 2 + 2 * (l[i.toNat].f2.length : Int) + 1 + 1) l[i.toNat].f5.length⟩ : IN) = markN c l[i.toNat] := by
   unfold markN
   rw [show c + 2 + 2 * (l[i.toNat].f2.length : Int) + 1 + 1 = c + 4 + 2 * (l[i.toNat].f2.length : Int) by omega, show c + 2 + 2 * (l[i.toNat].f2.length : Int) + 1 = c + 3 + 2 * (l[i.toNat].f2.length : Int) by omega]
  rw [e]
  have hc2 : c + 2 + 2 * (l[i.toNat].f2.length : Int) + 1 + 1 + (l[i.toNat].f5.length : Int) = c + mkwN l[i.toNat] := by unfold mkwN; omega
  rw [hc2]
  have hw : 0 ≤ mkwN l[i.toNat] ∧ mkwN l[i.toNat] ≤ 4000000 := by unfold mkwN; omega
  have hnext := ih (l.set i.toNat (markN c l[i.toNat])) (c + mkwN l[i.toNat]) (i + 1) (by simp [hl]) (by omega) (by omega) (by omega) (by omega) (by
   intro x hx2
   rcases List.mem_or_eq_of_mem_set hx2 with h2 | rfl
   ·exact hs x h2
   ·show (markA _ _).length ≤ 1048576 ∧ (markI _ _).length ≤ 1048576
    rw [markA_len, markI_len]; exact hx)
  have e1 : (i + 1).toNat = i.toNat + 1 := by omega
  rw [e1, List.drop_set_of_lt (by omega), List.take_succ_eq_append_getElem (by simp; omega), List.take_set_of_le (Nat.le_refl _), List.getElem_set_self, List.append_assoc] at hnext
  rw [List.drop_eq_getElem_cons hi]
  exact hnext
theorem heldT_l (n : Nat) (hn : n ≤ 1048576) (l : List IN) (hl : l.length = n) : ∀ (r : List IN) (c i : Int), 0 ≤ i → i + r.length = n → 0 ≤ c → c + r.length * 4000000 ≤ 4611686018427387903 → shortL r → l.drop i.toNat = markT c r →
 Ev (fun k => laws_heldNodeS.l0 k l c i) (endT c r) := by
 intro r
 induction r with
 | nil =>
  intro c i h0 h hc hd hs hm
  refine ev_succ ?_
  simp only [laws_heldNodeS.l0]
  have : ([] : List IN).length = 0 := rfl
  exact ev_neg (by omega) (ev_some rfl)
 | cons x r ih =>
  intro c i h0 h hc hd hs hm
  rw [List.length_cons] at h hd
  have hx := hs x List.mem_cons_self
  have hr : rd_T45 l i = markN c x := by
   have h3 := congrArg (fun l => l[0]?) hm
   simp [markT] at h3
   unfold rd_T45
   rw [List.getD_eq_getElem?_getD, h3]; rfl
  have hw : 0 ≤ mkwN x ∧ mkwN x ≤ 4000000 := by unfold mkwN; omega
  refine ev_succ ?_
  simp only [laws_heldNodeS.l0, hr]
  rw [w64 (x := i + 1) (by omega) (by omega), w64 (x := c + 1) (by omega) (by omega), w64 (x := c + 1 + 1) (by omega) (by omega), show c + 1 + 1 = c + 2 by omega]
  refine ev_pos (by omega) (ev_pos h0 (ev_pos rfl (Ev.bind (markText_ev (c + 1) (by omega)) (ev_pos rfl (Ev.bind (heldAttrS_at x.f2.length (c + 2) (by omega) (by omega) (by omega)) (ev_neg (by omega) (Ev.bind (markText_ev _ (by omega)) (ev_pos rfl ?_))))))))
  rw [w64 (x := c + 2 + 2 * (x.f2.length : Int) + 1) (by omega) (by omega), w64 (x := c + 2 + 2 * (x.f2.length : Int) + 1 + 1) (by omega) (by omega)]
  refine ev_pos (by show c + 3 + 2 * (x.f2.length : Int) = _; omega) ?_
  have e5 : (markN c x).f5 = markI (c + 2 + 2 * (x.f2.length : Int) + 1 + 1) x.f5.length := by
   show markI (c + 4 + 2 * (x.f2.length : Int)) x.f5.length = _
   rw [show c + 4 + 2 * (x.f2.length : Int) = c + 2 + 2 * (x.f2.length : Int) + 1 + 1 by omega]
  rw [e5]
  refine Ev.bind (heldIntS_ev x.f5.length (c + 2 + 2 * (x.f2.length : Int) + 1 + 1) (by omega) (by omega)) (ev_neg (by omega) ?_)
  rw [show c + 2 + 2 * (x.f2.length : Int) + 1 + 1 + (x.f5.length : Int) = c + mkwN x by unfold mkwN; omega]
  refine ih (c + mkwN x) (i + 1) (by omega) (by omega) (by omega) (by omega) (fun y hy => hs y (List.mem_cons_of_mem _ hy)) ?_
  have e : (i + 1).toNat = i.toNat + 1 := by omega
  rw [e, ← List.drop_drop, hm]; rfl
theorem mark_held (l : List IN) (hn : l.length ≤ 1048576) (hs : shortL l) : ∃ m t, 1 ≤ m ∧ Ev (fun k => laws_markTree.f k l 1) (m, t) ∧ t.length = l.length ∧ Ev (fun k => laws_heldNodeS.f k t 1) m := by
 refine ⟨endT 1 l, markT 1 l, endT_ge l 1, ?_, markT_len l 1, ?_⟩
 ·have := markT_l l.length hn l.length l 1 0 rfl (by omega) (by omega) (by omega) (by omega) hs
  simpa [laws_markTree.f, laws_markNodeS.f] using this
 ·exact heldT_l l.length hn (markT 1 l) (markT_len l 1) l 1 0 (by omega) (by omega) (by omega) (by omega) hs (by simp)
theorem eqByteS_l (l : List Int) (hl : l.length ≤ 9223372036854775807) : ∀ (d : Nat) (i : Int), 0 ≤ i → i + d = l.length → Ev (fun k => laws_eqByteS.l0 k l l i) true := by
 intro d
 induction d with
 | zero =>
  intro i h0 h
  refine Ev.step (f := fun _ => some true) (fun k => ?_) (Ev.now _)
  simp only [laws_eqByteS.l0]; rw [if_neg (by omega)]
 | succ d ih =>
  intro i h0 h
  refine Ev.step (f := fun k => laws_eqByteS.l0 k l l (i + 1)) (fun k => ?_) (ih (i + 1) (by omega) (by omega))
  simp only [laws_eqByteS.l0]; rw [if_pos (by omega), if_pos h0, if_pos (by omega), if_pos True.intro, w64 (by omega) (by omega)]
theorem eqByteS_same (l : List Int) (hl : l.length ≤ 9223372036854775807) : Ev (fun k => laws_eqByteS.f k l l) true := by
 refine Ev.congr (f := fun k => laws_eqByteS.l0 k l l 0) (fun k => ?_) (eqByteS_l l hl l.length 0 (by omega) (by omega))
 simp only [laws_eqByteS.f]; rw [if_pos True.intro]
def markB (c : Int) : Nat → List Int
 | 0 => []
 | n + 1 => (c % 256) :: markB (c + 1) n
theorem markB_len (n : Nat) : ∀ c, (markB c n).length = n := by
 induction n with
 | zero => intro c; rfl
 | succ n ih => intro c; simp [markB, ih]
theorem markByteS_l (n : Nat) (hn : n ≤ 4611686018427387903) : ∀ (d : Nat) (l : List Int) (c i : Int), l.length = n → 0 ≤ i → i + d = n → 0 ≤ c → c + d ≤ 4611686018427387903 →
 Ev (fun k => laws_markByteS.l0 k l c i) (c + d, l.take i.toNat ++ markB c d) := by
 intro d
 induction d with
 | zero =>
  intro l c i hl h0 h hc hd
  refine Ev.step (f := fun _ => some (c, l)) (fun k => ?_) (ev_some ?_)
  ·simp only [laws_markByteS.l0]; rw [if_neg (by omega)]
  ·simp [markB, List.take_of_length_le (show l.length ≤ i.toNat by omega)]
 | succ d ih =>
  intro l c i hl h0 h hc hd
  have e : (l.set i.toNat (c % 256)).take (i + 1).toNat = l.take i.toNat ++ [c % 256] := by
   have : (i + 1).toNat = i.toNat + 1 := by omega
   rw [this, List.take_succ_eq_append_getElem (by simp; omega), List.take_set_of_le (Nat.le_refl _)]
   simp
  refine Ev.step (f := fun k => laws_markByteS.l0 k (l.set i.toNat (c % 256)) (c + 1) (i + 1)) (fun k => ?_) ?_
  ·simp only [laws_markByteS.l0]; rw [if_pos (by omega), if_pos h0, w64 (by omega) (by omega), w64 (by omega) (by omega)]
  ·have := ih (l.set i.toNat (c % 256)) (c + 1) (i + 1) (by simp [hl]) (by omega) (by omega) (by omega) (by omega)
   rw [e] at this
   simp only [List.append_assoc, List.singleton_append] at this
   have h2 : c + 1 + (d : Int) = c + ((d + 1 : Nat) : Int) := by omega
   rw [h2] at this
   exact this
theorem markByteS_ev (l : List Int) (c : Int) (hc : 0 ≤ c) (h : c + l.length ≤ 4611686018427387903) : Ev (fun k => laws_markByteS.f k l c) (c + l.length, markB c l.length) := by
 have := markByteS_l l.length (by omega) l.length l c 0 rfl (by omega) (by omega) hc h
 simpa [laws_markByteS.f] using this
theorem heldByteS_l (n : Nat) (hn : n ≤ 4611686018427387903) (l : List Int) (hl : l.length = n) : ∀ (d : Nat) (c i : Int), 0 ≤ i → i + d = n → 0 ≤ c → c + d ≤ 4611686018427387903 → l.drop i.toNat = markB c d →
 Ev (fun k => laws_heldByteS.l0 k l c i) (c + d) := by
 intro d
 induction d with
 | zero =>
  intro c i h0 h hc hd hm
  refine Ev.step (f := fun _ => some c) (fun k => ?_) (ev_some (by omega))
  simp only [laws_heldByteS.l0]; rw [if_neg (by omega)]
 | succ d ih =>
  intro c i h0 h hc hd hm
  have hr : rd l i = c % 256 := rd_drop (by rw [hm]; rfl)
  have h2 : c + 1 + (d : Int) = c + ((d + 1 : Nat) : Int) := by omega
  refine Ev.step (f := fun k => laws_heldByteS.l0 k l (c + 1) (i + 1)) (fun k => ?_) ?_
  ·simp only [laws_heldByteS.l0]; rw [if_pos (by omega), if_pos h0, if_pos hr, w64 (by omega) (by omega), w64 (by omega) (by omega)]
  ·rw [← h2]
   refine ih (c + 1) (i + 1) (by omega) (by omega) (by omega) (by omega) ?_
   have e : (i + 1).toNat = i.toNat + 1 := by omega
   rw [e, ← List.drop_drop, hm]; rfl
theorem heldByteS_ev (n : Nat) (c : Int) (hc : 0 ≤ c) (h : c + n ≤ 4611686018427387903) : Ev (fun k => laws_heldByteS.f k (markB c n) c) (c + n) := by
 have := heldByteS_l n (by omega) (markB c n) (markB_len n c) n c 0 (by omega) (by omega) hc h (by simp)
 simpa [laws_heldByteS.f] using this
end Go.Proofs.Ytgneacekgbjkkaa.Y
