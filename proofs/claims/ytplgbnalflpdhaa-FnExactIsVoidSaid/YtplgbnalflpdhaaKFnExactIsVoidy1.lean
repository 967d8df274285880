/- Plain lemmas over numbers and lists for FnExactIsVoid. Conditions: as each states. -/
import Derived.Lib.Bytes
import Derived.Lib.LazyBuf
import Derived.Lib.IndexMore
import Derived.Lib.Strings
import Derived.Test.YtplgbnalflpdhaaKFnExactIsVoidx1
/- Plain lemmas over numbers and lists (base). Conditions: as each states. -/
namespace Go.Proofs.Ytplgbnalflpdhaa.Y
open Go.RowKit Go.Proofs.Ytplgbnalflpdhaa.X Go.Proofs.YtplgbnalflpdhaaW.PrintWords Go.Proofs.YtplgbnalflpdhaaW.PrintLast Go.Proofs.YtplgbnalflpdhaaW.PrintMore Go.Proofs.Ytplgbnalflpdhaa.Y
set_option linter.unusedVariables false
set_option linter.unusedSimpArgs false
theorem wf64 {x : Int} (h : (Lit.int .i64 x).wf = true) : -9223372036854775808 ≤ x ∧ x ≤ 9223372036854775807 := by
  simp only [Lit.wf, Bool.and_eq_true, decide_eq_true_eq] at h
  exact h
theorem wf8 {x : Int} (h : (Lit.int .u8 x).wf = true) : 0 ≤ x ∧ x ≤ 255 := by
  simp only [Lit.wf, Bool.and_eq_true, decide_eq_true_eq] at h
  exact h
theorem w64 {x : Int} (h : -9223372036854775808 ≤ x) (h' : x ≤ 9223372036854775807) : wrap64 x = x := by unfold wrap64; omega
theorem w64_range (x : Int) : -9223372036854775808 ≤ wrap64 x ∧ wrap64 x ≤ 9223372036854775807 := by unfold wrap64; omega
theorem ev_pos {α : Type} {c : Prop} [Decidable c] {g f : Nat → Option α} {r : α} (hc : c) (h : Ev g r) : Ev (fun k => if c then g k else f k) r := by
  simpa only [if_pos hc] using h
theorem ev_neg {α : Type} {c : Prop} [Decidable c] {g f : Nat → Option α} {r : α} (hc : ¬ c) (h : Ev f r) : Ev (fun k => if c then g k else f k) r := by
  simpa only [if_neg hc] using h
theorem ev_const {α : Type} {g : Option α} {r : α} (h : g = some r) : Ev (fun _ => g) r := ⟨0, fun _ _ => h⟩
theorem ev_some {α : Type} {r r' : α} (h : r = r') : Ev (fun _ => some r) r' := ⟨0, fun _ _ => by rw [h]⟩
theorem ev_bindS {α β : Type} {g : Option α} {f : Nat → α → Option β} {a : α} {r : β} (h : g = some a) (k : Ev (fun n => f n a) r) : Ev (fun n => g.bind (f n)) r := by
  subst h; exact k
theorem rd_app_left {xs ys : List Int} {i : Int} (h0 : 0 ≤ i) (h : i < xs.length) : rd (xs ++ ys) i = rd xs i := by
  unfold rd; rw [List.getD_eq_getElem?_getD, List.getD_eq_getElem?_getD, List.getElem?_append_left (by omega)]
theorem rd_drop {xs : List Int} {i : Int} {v : Int} {ys : List Int} (h : xs.drop i.toNat = v :: ys) : rd xs i = v := by
  unfold rd
  have : xs[i.toNat]? = some v := by
    have := congrArg (fun l => l[0]?) h
    simpa using this
  rw [List.getD_eq_getElem?_getD, this]; rfl
/-- One round: what follows is read off by 'simp only [F.j0]'. -/
theorem ev_succ {α : Type} {g : Nat → Option α} {r : α} (h : Ev (fun k => g (k + 1)) r) : Ev g r := Ev.step (fun _ => rfl) h
theorem ev_cast {α : Type} {g : Nat → Option α} {r r' : α} (h : Ev g r) (e : r = r') : Ev g r' := by subst e; exact h

end Go.Proofs.Ytplgbnalflpdhaa.Y

/- Plain lemmas over numbers and lists (strBytes). Conditions: as each states. -/
namespace Go.Proofs.Ytplgbnalflpdhaa.Y
open Go.RowKit Go.Proofs.Ytplgbnalflpdhaa.X Go.Proofs.YtplgbnalflpdhaaW.PrintWords Go.Proofs.YtplgbnalflpdhaaW.PrintLast Go.Proofs.YtplgbnalflpdhaaW.PrintMore Go.Proofs.Ytplgbnalflpdhaa.Y
set_option linter.unusedVariables false
set_option linter.unusedSimpArgs false
theorem data_eta (s : ByteArray) : (⟨s.data.toList.toArray⟩ : ByteArray) = s := by cases s; simp
theorem str_bytes (s : ByteArray) : strOfNums (bytesOf s) = s := by
  unfold bytesOf
  rw [Lib.Lz.strOfNums_map]
theorem bytes_str {b : List Int} (h : ∀ x ∈ b, 0 ≤ x ∧ x ≤ 255) : bytesOf (strOfNums b) = b := by
  have e : (strOfNums b).data.toList = Lib.bytesOf b := by rw [← Lib.toList_data, Lib.strOfNums_toList]
  unfold bytesOf
  rw [e]
  unfold Lib.bytesOf
  rw [List.map_map]
  conv => rhs; rw [← List.map_id b]
  refine List.map_congr_left (fun x hx => ?_)
  have := h x hx
  simp only [Function.comp, id]
  have : (UInt8.ofNat x.toNat).toNat = x.toNat := by simp; omega
  omega
theorem bytesOf_range (s : ByteArray) : ∀ x ∈ bytesOf s, 0 ≤ x ∧ x ≤ 255 := by
  intro x hx
  unfold bytesOf at hx
  obtain ⟨b, _, rfl⟩ := List.mem_map.1 hx
  have := b.toNat_lt
  omega
theorem bytesOf_wf (s : ByteArray) : ∀ x ∈ bytesOf s, (Lit.int .u8 x).wf = true := fun x hx => by
  simp only [Lit.wf, Bool.and_eq_true, decide_eq_true_eq]; exact bytesOf_range s x hx
theorem bytes_ext {s t : ByteArray} (h : bytesOf s = bytesOf t) : s = t := by rw [← str_bytes s, h, str_bytes]
theorem toList_ext {s t : ByteArray} (h : s.toList = t.toList) : s = t := by
  rw [Lib.toList_data, Lib.toList_data] at h
  rw [← data_eta s, h, data_eta]
theorem str_size (b : List Int) : (strOfNums b).size = b.length := by
  have e : (strOfNums b).data.toList = Lib.bytesOf b := by rw [← Lib.toList_data, Lib.strOfNums_toList]
  have := congrArg List.length e
  simpa [Lib.bytesOf] using this

end Go.Proofs.Ytplgbnalflpdhaa.Y

/- Plain lemmas over numbers and lists (oneOf). Conditions: as each states. -/
namespace Go.Proofs.Ytplgbnalflpdhaa.Y
open Go.RowKit Go.Proofs.Ytplgbnalflpdhaa.X Go.Proofs.YtplgbnalflpdhaaW.PrintWords Go.Proofs.YtplgbnalflpdhaaW.PrintLast Go.Proofs.YtplgbnalflpdhaaW.PrintMore Go.Proofs.Ytplgbnalflpdhaa.Y
set_option linter.unusedVariables false
set_option linter.unusedSimpArgs false
theorem contains_iff (s sub : List UInt8) : Lib.contains s sub = true ↔ ∃ a b, s = a ++ (sub ++ b) := by
  unfold Lib.contains
  rw [decide_eq_true_eq]
  rcases Lib.index_spec s sub with ⟨h, hno⟩ | ⟨i, h, hi, ho, _⟩
  · constructor
    · intro g; omega
    · rintro ⟨a, b, rfl⟩
      have := hno a.length (by simp)
      unfold Lib.occAt at this
      rw [List.drop_left] at this
      have hp : sub.isPrefixOf (sub ++ b) = true := List.isPrefixOf_iff_prefix.2 (List.prefix_append sub b)
      rw [hp] at this; simp at this
  · constructor
    · intro _
      unfold Lib.occAt at ho
      obtain ⟨t, ht⟩ := List.isPrefixOf_iff_prefix.1 ho
      exact ⟨s.take i, t, by rw [ht, List.take_append_drop]⟩
    · intro _; omega
theorem cut32 : ∀ (w p x y : List UInt8), (∀ c ∈ w, c ≠ 32) → w ++ 32 :: x = p ++ 32 :: y → (p = w ∧ x = y) ∨ ∃ q, p = w ++ 32 :: q ∧ x = q ++ 32 :: y := by
  intro w
  induction w with
  | nil =>
    intro p x y _ h
    cases p with
    | nil => simp at h; exact .inl ⟨rfl, h⟩
    | cons c p =>
      simp at h
      exact .inr ⟨p, by rw [← h.1]; rfl, h.2⟩
  | cons c w ih =>
    intro p x y hw h
    cases p with
    | nil =>
      simp at h
      exact absurd h.1 (hw c (by simp))
    | cons d p =>
      simp at h
      rcases ih p x y (fun e he => hw e (by simp [he])) h.2 with ⟨g1, g2⟩ | ⟨q, g1, g2⟩
      · exact .inl ⟨by rw [← h.1, g1], g2⟩
      · exact .inr ⟨q, by rw [← h.1, g1]; rfl, g2⟩
def flat (ws : List (List UInt8)) : List UInt8 := ws.flatMap (fun w => w ++ [32])
theorem flat_has (s : List UInt8) (hs : ∀ c ∈ s, c ≠ 32) : ∀ (ws : List (List UInt8)), (∀ w ∈ ws, ∀ c ∈ w, c ≠ 32) → ((∃ a b, 32 :: flat ws = a ++ 32 :: (s ++ 32 :: b)) ↔ s ∈ ws) := by
  intro ws
  induction ws with
  | nil =>
    intro _
    constructor
    · rintro ⟨a, b, h⟩
      have := congrArg List.length h
      simp [flat] at this; omega
    · intro h; simp at h
  | cons w r ih =>
    intro hw
    have e : 32 :: flat (w :: r) = 32 :: (w ++ 32 :: flat r) := by simp [flat]
    have ihr := ih (fun v hv => hw v (by simp [hv]))
    rw [e]
    constructor
    · rintro ⟨a, b, h⟩
      cases a with
      | nil =>
        simp at h
        rcases cut32 w s (flat r) b (hw w (by simp)) h with ⟨g, _⟩ | ⟨q, g, _⟩
        · rw [g]; simp
        · exact absurd rfl (hs 32 (by rw [g]; simp))
      | cons c a =>
        simp at h
        rcases cut32 w a (flat r) (s ++ 32 :: b) (hw w (by simp)) h.2 with ⟨_, g⟩ | ⟨q, _, g⟩
        · exact List.mem_cons_of_mem _ (ihr.1 ⟨[], b, by rw [g]; rfl⟩)
        · exact List.mem_cons_of_mem _ (ihr.1 ⟨32 :: q, b, by rw [g]; rfl⟩)
    · intro h
      rcases List.mem_cons.1 h with rfl | h
      · exact ⟨[], flat r, by simp⟩
      · obtain ⟨a, b, g⟩ := ihr.2 h
        exact ⟨32 :: (w ++ a), b, by rw [g]; simp⟩
theorem app_data (a b : ByteArray) : (a ++ b).data.toList = a.data.toList ++ b.data.toList := by simp
/-- The words of the row are these, each without a blank, none empty. -/
theorem oneOf_iff (ws : List ByteArray) (s words : ByteArray) (hj : words.data.toList ++ [32] = flat (ws.map (fun w => w.data.toList))) (hn : ∀ w ∈ ws, w.data.toList ≠ [] ∧ ∀ c ∈ w.data.toList, c ≠ 32) : oneOf s words = true ↔ s ∈ ws := by
  unfold oneOf
  have hm : s ∈ ws ↔ s.data.toList ∈ ws.map (fun w => w.data.toList) := by
    rw [List.mem_map]
    constructor
    · intro h; exact ⟨s, h, rfl⟩
    · rintro ⟨w, hw, e⟩
      have : w = s := by rw [← data_eta w, e, data_eta]
      rw [← this]; exact hw
  by_cases h0 : s.toList = []
  · simp only [h0, decide_true, Bool.not_true, Bool.false_and, Bool.false_eq_true, false_iff]
    rw [hm, List.mem_map]
    rintro ⟨w, hw, e⟩
    rw [Lib.toList_data] at h0
    exact (hn w hw).1 (e.trans h0)
  · by_cases h1 : Lib.contains s.data.toList (⟨#[32]⟩ : ByteArray).data.toList = true
    · simp only [h1, Bool.not_true, Bool.false_and, Bool.and_false, Bool.false_eq_true, false_iff]
      obtain ⟨a, b, g⟩ := (contains_iff _ _).1 h1
      rw [hm, List.mem_map]
      rintro ⟨w, hw, e⟩
      refine (hn w hw).2 32 ?_ rfl
      rw [e, g]; simp
    · have hs : ∀ c ∈ s.data.toList, c ≠ 32 := by
        rintro c hc rfl
        obtain ⟨a, b, g⟩ := List.append_of_mem hc
        exact h1 ((contains_iff _ _).2 ⟨a, b, by rw [g]; rfl⟩)
      have h1' : Lib.contains s.data.toList (⟨#[32]⟩ : ByteArray).data.toList = false := by simpa using h1
      rw [h1', decide_eq_false h0]
      simp only [Bool.not_false, Bool.true_and]
      rw [contains_iff, hm, ← flat_has s.data.toList hs _ (by
        intro v hv
        obtain ⟨w, hw, rfl⟩ := List.mem_map.1 hv
        exact (hn w hw).2)]
      have e1 : (((⟨#[32]⟩ : ByteArray) ++ words) ++ (⟨#[32]⟩ : ByteArray)).data.toList = 32 :: flat (ws.map (fun w => w.data.toList)) := by
        rw [app_data, app_data, ← hj]; rfl
      have e2 : (((⟨#[32]⟩ : ByteArray) ++ s) ++ (⟨#[32]⟩ : ByteArray)).data.toList = 32 :: (s.data.toList ++ [32]) := by
        rw [app_data, app_data]; rfl
      rw [e1, e2]
      constructor
      · rintro ⟨a, b, g⟩; exact ⟨a, b, by rw [g]; simp⟩
      · rintro ⟨a, b, g⟩; exact ⟨a, b, by rw [g]; simp⟩
theorem l7Find_l (l : List ByteArray) (s : ByteArray) (hl : l.length ≤ 1000) : ∀ (d i : Nat), i + d = l.length → ∃ r, Ev (fun k => spec_l7Find.l0 k l s i) r ∧ (r ≥ 0 ↔ s ∈ l.drop i) := by
  intro d
  induction d with
  | zero =>
    intro i h
    refine ⟨-1, ?_, by rw [List.drop_of_length_le (by omega)]; simp⟩
    refine ev_succ ?_
    simp only [spec_l7Find.l0]
    exact ev_neg (by omega) (Ev.now _)
  | succ d ih =>
    intro i h
    obtain ⟨r, hr, hrr⟩ := ih (i + 1) (by omega)
    have hi : i < l.length := by omega
    have hrd : rdOf ByteArray.empty l (i : Int) = l[i] := by
      unfold rdOf; rw [List.getD_eq_getElem?_getD, show ((i : Int).toNat) = i by omega, List.getElem?_eq_getElem hi]; rfl
    rw [List.drop_eq_getElem_cons hi]
    by_cases c : l[i] = s
    · refine ⟨i, ?_, by rw [List.mem_cons]; exact ⟨fun _ => .inl c.symm, fun _ => by omega⟩⟩
      refine ev_succ ?_
      simp only [spec_l7Find.l0]
      rw [hrd]
      exact ev_pos (by omega) (ev_pos (by omega) (ev_pos (by rw [c]) (Ev.now _)))
    · refine ⟨r, ?_, by rw [hrr, List.mem_cons]; exact ⟨.inr, fun h => h.resolve_left (fun e => c e.symm)⟩⟩
      refine ev_succ ?_
      simp only [spec_l7Find.l0]
      rw [hrd, w64 (x := (i : Int) + 1) (by omega) (by omega)]
      exact ev_pos (by omega) (ev_pos (by omega) (ev_neg (fun g => c (toList_ext g)) hr))
theorem l8In_one (ws : List ByteArray) (s words : ByteArray) (hl : ws.length ≤ 1000) (hj : words.data.toList ++ [32] = flat (ws.map (fun w => w.data.toList))) (hn : ∀ w ∈ ws, w.data.toList ≠ [] ∧ ∀ c ∈ w.data.toList, c ≠ 32) : Ev (fun k => spec_l8In.f k ws s) (oneOf s words) := by
  unfold spec_l8In.f
  obtain ⟨r, hr, hrr⟩ := l7Find_l ws s hl ws.length 0 (by omega)
  refine Ev.bind (a := r) (by unfold spec_l7Find.f; exact hr) (ev_some ?_)
  have h1 := oneOf_iff ws s words hj hn
  rw [List.drop_zero] at hrr
  cases h : oneOf s words with
  | true => rw [decide_eq_true (hrr.2 (h1.1 h))]
  | false =>
    rw [decide_eq_false]
    intro g
    have := h1.2 (hrr.1 g)
    rw [h] at this; simp at this

end Go.Proofs.Ytplgbnalflpdhaa.Y

