/- What is read as data at a type is, as cells, of the print's kind: whole numbers, bools, strings, slices of these, structs (a word for this project's rows). Conditions: as each states. -/
import Derived.Deep.Slices
import Derived.Test.YtplgbnalflpdhaaWWords
import Derived.Test.YtplgbnalflpdhaaWShare
import Derived.Test.YtplgbnalflpdhaaWMore
namespace Go.Proofs.Ytplgbnalflpdhaa.X
open Go.RowKit Go.Deep Go.ChangeShapes Go.WideShapes Go.Proofs.YtplgbnalflpdhaaW.PrintWords Go.Proofs.YtplgbnalflpdhaaW.PrintLast Go.Proofs.YtplgbnalflpdhaaW.PrintMore
section
variable {P : Program}
def Opens (P : Program) {α : Type} (d : Kd α) (wf : α → Prop) (t : TypeId) : Prop :=
  ∀ (H : Type) (enc : TypeId × Value → H) (w : World) (base : Nat) (spare : Nat → Bool) (held : Bool) (fuel : Nat) (cs : List Value) (x : DataW H × List MemPlace), DataW.trod enc P w base spare held fuel t cs = some x → ∃ v, d.K w v cs ∧ wf v
theorem opens_int {t : TypeId} {k : IntKind} (ht : P.underlying t = some (.int k)) : Opens P (Kd.int k) (fun n => (Lit.int k n).wf = true) t := by
  intro H enc w base spare held fuel cs x h
  obtain ⟨n, rfl, _, hw⟩ := DataW.trod_int ht h
  exact ⟨n, rfl, hw⟩
theorem opens_bool {t : TypeId} (ht : P.underlying t = some .bool) : Opens P Kd.bool (fun _ => True) t := by
  intro H enc w base spare held fuel cs x h
  obtain ⟨n, rfl, _⟩ := DataW.trod_bool ht h
  exact ⟨n, rfl, True.intro⟩
theorem opens_string {t : TypeId} (ht : P.underlying t = some .string) : Opens P Kd.string (fun s => s.size ≤ maxLen) t := by
  intro H enc w base spare held fuel cs x h
  obtain ⟨n, rfl, _, hw⟩ := DataW.trod_string ht h
  exact ⟨n, rfl, hw⟩
theorem opens_list {α : Type} {q : Nat → α → Prop} : ∀ n : Nat, (∀ i, i < n → ∃ v, q i v) → ∃ l : List α, l.length = n ∧ ∀ j p, l[j]? = some p → q j p
  | 0, _ => ⟨[], rfl, fun j p h => by simp at h⟩
  | n + 1, h => by
    obtain ⟨l, hl, hq⟩ := opens_list n (fun i hi => h i (by omega))
    obtain ⟨v, hv⟩ := h n (by omega)
    refine ⟨l ++ [v], by simp [hl], fun j p hj => ?_⟩
    rcases Nat.lt_or_ge j l.length with hlt | hge
    · rw [List.getElem?_append_left hlt] at hj; exact hq j p hj
    · have e : j = l.length := by
        have := (List.getElem?_eq_some_iff.1 hj).1
        simp at this; omega
      subst e
      have : v = p := by simpa using hj
      subst this
      rw [hl]; exact hv
theorem opens_slice {α : Type} {d : Kd α} {wf : α → Prop} {t e : TypeId} (ht : P.underlying t = some (.slice e)) (hd : Opens P d wf e) (hz : P.cellsOf e = d.sz) : Opens P (Kd.slice e d) (fun l => l.length ≤ maxLen ∧ ∀ x ∈ l, wf x) t := by
  intro H enc w base spare held fuel cs x h
  rcases open_slice ht h with ⟨rfl, _⟩ | ⟨a, len, cap, m, n, D, Pl, rfl, hb, hl, hm, he, _, hel⟩
  · exact ⟨[], ⟨none, 0, rfl, Nat.le_refl _, Kd.C_nil _ _⟩, by simp, by simp⟩
  · have hlm : len ≤ m := by rw [he]; split <;> omega
    obtain ⟨l, hlen, hq⟩ := opens_list (q := fun i v => ∃ c, w.cells? base (a.add (i * P.cellsOf e)) (P.cellsOf e) = some c ∧ d.K w v c ∧ wf v) len (fun i hi => by
      obtain ⟨c, h1, h2⟩ := hel i (by omega)
      obtain ⟨v, hk, hw⟩ := hd H enc w base spare held n c _ h2
      exact ⟨v, c, h1, hk, hw⟩)
    have hml : maxLen = 9223372036854775807 := rfl
    refine ⟨l, ⟨some a, cap, by rw [hlen], by omega, ⟨rfl, by omega, fun _ => ⟨a, rfl, fun j p hj => ?_⟩⟩⟩, by omega, fun y hy => ?_⟩
    · obtain ⟨c, h1, hk, _⟩ := hq j p hj
      obtain ⟨_, hcl, hcell⟩ := World.cells?_some h1
      refine ⟨c, by rw [hcl, hz], hk, fun i u hu => ?_⟩
      have hi : i < P.cellsOf e := by rw [← hcl]; exact (List.getElem?_eq_some_iff.1 hu).1
      have := hcell i hi
      rw [hu, hz] at this
      rw [← this]
      congr 1
      unfold Addr.add
      by_cases h0 : i = 0
      · subst h0; simp
      · rw [if_neg h0, if_neg (by omega)]
        by_cases h1 : j * d.sz = 0
        · rw [if_pos h1, h1, Nat.zero_add]
        · rw [if_neg h1, Nat.add_assoc]
    · obtain ⟨j, hj, rfl⟩ := List.getElem_of_mem hy
      obtain ⟨c, _, _, hw⟩ := hq j _ (List.getElem?_eq_getElem hj)
      exact hw
def OpensF (P : Program) {α : Type} (d : Kd α) (wf : α → Prop) (fs : List Field) (off : Nat) : Prop :=
  ∀ (H : Type) (enc : TypeId × Value → H) (w : World) (base : Nat) (spare : Nat → Bool) (held : Bool) (n : Nat) (pre cs : List Value), pre.length = off → cs.length = d.sz →
    (∀ f ∈ fs, ∃ y : DataW H × List MemPlace, DataW.trod enc P w base spare held n f.type (((pre ++ cs).drop f.offset).take (P.cellsOf f.type)) = some y) → ∃ v, d.K w v cs ∧ wf v
theorem opensF_one {α : Type} {d : Kd α} {wf : α → Prop} {f : Field} {off : Nat} (ha : Opens P d wf f.type) (ho : f.offset = off) (hc : P.cellsOf f.type = d.sz) : OpensF P d wf [f] off := by
  intro H enc w base spare held n pre cs hp hl h
  obtain ⟨y, hy⟩ := h f (by simp)
  have e : ((pre ++ cs).drop f.offset).take (P.cellsOf f.type) = cs := by
    rw [ho, ← hp, List.drop_left, hc, ← hl, List.take_length]
  rw [e] at hy
  exact ha H enc w base spare held n cs y hy
theorem opensF_cons {α β : Type} {a : Kd α} {b : Kd β} {wfa : α → Prop} {wfb : β → Prop} {f : Field} {fs : List Field} {off : Nat} (ha : Opens P a wfa f.type) (ho : f.offset = off) (hc : P.cellsOf f.type = a.sz) (hb : OpensF P b wfb fs (off + a.sz)) :
    OpensF P (Kd.pair a b) (fun x => wfa x.1 ∧ wfb x.2) (f :: fs) off := by
  intro H enc w base spare held n pre cs hp hl h
  have hl' : cs.length = a.sz + b.sz := hl
  obtain ⟨y, hy⟩ := h f (by simp)
  have e : ((pre ++ cs).drop f.offset).take (P.cellsOf f.type) = cs.take a.sz := by rw [ho, ← hp, List.drop_left, hc]
  rw [e] at hy
  obtain ⟨v, hv, hwv⟩ := ha H enc w base spare held n _ y hy
  obtain ⟨u, hu, hwu⟩ := hb H enc w base spare held n (pre ++ cs.take a.sz) (cs.drop a.sz) (by simp; omega) (by simp; omega) (fun g hg => by
    rw [List.append_assoc, List.take_append_drop]
    exact h g (by simp [hg]))
  exact ⟨(v, u), ⟨_, _, (List.take_append_drop a.sz cs).symm, hv, hu⟩, hwv, hwu⟩
theorem opens_struct {α : Type} {d : Kd α} {wf : α → Prop} {t : TypeId} {fs : Array Field} (ht : P.underlying t = some (.struct fs)) (hf : OpensF P d wf fs.toList 0) (hz : P.cellsOf t = d.sz) : Opens P d wf t := by
  intro H enc w base spare held fuel cs x h
  obtain ⟨xs, n, _, _, hl, hlen, hall⟩ := DataW.trod_struct ht h
  refine hf H enc w base spare held n [] cs rfl (by rw [hl, hz]) (fun f hm => ?_)
  obtain ⟨i, hi, rfl⟩ := List.getElem_of_mem hm
  have hi' : i < fs.size := by simpa using hi
  have := hall i fs[i] (Array.getElem?_eq_getElem hi')
  refine ⟨xs[i]'(by omega), ?_⟩
  rw [List.getElem?_eq_getElem (by omega)] at this
  simpa using this
theorem opens_iso {α β : Type} {d : Kd α} {wf : α → Prop} {t : TypeId} {f : β → α} (g : α → β) (hg : ∀ a, f (g a) = a) (h : Opens P d wf t) : Opens P (Kd.iso d f) (fun b => wf (f b)) t := by
  intro H enc w base spare held fuel cs x hx
  obtain ⟨v, hv, hw⟩ := h H enc w base spare held fuel cs x hx
  refine ⟨g v, ?_, by show wf (f (g v)); rw [hg]; exact hw⟩
  show d.K w (f (g v)) cs
  rw [hg]; exact hv
/-- A slice that comes in. -/
theorem opens_arg {α : Type} {d : Kd α} {wf : α → Prop} {t e : TypeId} {H : Type} {enc : TypeId × Value → H} {w : World} {base : Nat} {spare : Nat → Bool} {held : Bool} {a : Option Addr} {len cap : Nat} {x : DataW H} {ps : List MemPlace} (ht : P.underlying t = some (.slice e)) (hd : Opens P d wf e) (hz : P.cellsOf e = d.sz)
    (h : DataW.Trod enc P w base spare held t (.slice a len cap) x ps) : ∃ l : List α, l.length = len ∧ Kd.C d w a l.length l ∧ l.length ≤ cap ∧ l.length ≤ maxLen ∧ ∀ y ∈ l, wf y := by
  obtain ⟨fuel, hf⟩ := h
  obtain ⟨l, ⟨A, c, e, hle, hC⟩, hm, hw⟩ := opens_slice ht hd hz H enc w base spare held fuel _ _ hf
  simp only [Value.cells, List.cons.injEq, Value.slice.injEq, and_true] at e
  obtain ⟨rfl, rfl, rfl⟩ := e
  exact ⟨l, rfl, hC, hle, hm, hw⟩
end
end Go.Proofs.Ytplgbnalflpdhaa.X
