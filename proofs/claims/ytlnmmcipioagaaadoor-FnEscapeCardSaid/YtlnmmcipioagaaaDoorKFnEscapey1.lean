/- Plain lemmas over numbers and lists for FnEscape. Conditions: as each states. -/
import Derived.Lib.ReplaceLaws
import Derived.Lib.Bytes
import Derived.Lib.LazyBuf
import Derived.Lib.Strings
import Derived.Test.YtlnmmcipioagaaaDoorKFnEscapex2
set_option maxHeartbeats 64000000
set_option maxRecDepth 100000
namespace Go.Proofs.YtlnmmcipioagaaaDoor.Y
open Go.RowKit Go.Proofs.YtlnmmcipioagaaaDoor.X Go.Proofs.YtlnmmcipioagaaaDoorW.PrintWords Go.Proofs.YtlnmmcipioagaaaDoorW.PrintLast Go.Proofs.YtlnmmcipioagaaaDoorW.PrintMore Go.Proofs.YtlnmmcipioagaaaDoor.Y
set_option linter.unusedVariables false
set_option linter.unusedSimpArgs false
theorem wf64 {x : Int} (h : (Lit.int .i64 x).wf = true) : -9223372036854775808 ≤ x ∧ x ≤ 9223372036854775807 := by
 simp only [Lit.wf, Bool.and_eq_true, decide_eq_true_eq] at h
 exact h
theorem wf8 {x : Int} (h : (Lit.int .u8 x).wf = true) : 0 ≤ x ∧ x ≤ 255 := by
 simp only [Lit.wf, Bool.and_eq_true, decide_eq_true_eq] at h
 exact h
theorem w64 {x : Int} (h : -9223372036854775808 ≤ x) (h' : x ≤ 9223372036854775807) : wrap64 x = x := by unfold wrap64; omega
theorem w64_range (x : Int) : -9223372036854775808 ≤ wrap64 x ∧ wrap64 x ≤ 9223372036854775807 := by unfold wrap64; omega
theorem ev_pos {α : Type} {c : Prop} [Decidable c] {g f : Nat → Option α} {r : α} (hc : c) (h : Ev g r) : Ev (fun k => if c then g k else f k) r := by
 simpa only [if_pos hc] using h
theorem ev_neg {α : Type} {c : Prop} [Decidable c] {g f : Nat → Option α} {r : α} (hc : ¬ c) (h : Ev f r) : Ev (fun k => if c then g k else f k) r := by
 simpa only [if_neg hc] using h
theorem ev_const {α : Type} {g : Option α} {r : α} (h : g = some r) : Ev (fun _ => g) r := ⟨0, fun _ _ => h⟩
theorem ev_some {α : Type} {r r' : α} (h : r = r') : Ev (fun _ => some r) r' := ⟨0, fun _ _ => by rw [h]⟩
theorem ev_bindS {α β : Type} {g : Option α} {f : Nat → α → Option β} {a : α} {r : β} (h : g = some a) (k : Ev (fun n => f n a) r) : Ev (fun n => g.bind (f n)) r := by
 subst h; exact k
theorem rd_app_left {xs ys : List Int} {i : Int} (h0 : 0 ≤ i) (h : i < xs.length) : rd (xs ++ ys) i = rd xs i := by
 unfold rd; rw [List.getD_eq_getElem?_getD, List.getD_eq_getElem?_getD, List.getElem?_append_left (by omega)]
theorem rd_drop {xs : List Int} {i : Int} {v : Int} {ys : List Int} (h : xs.drop i.toNat = v :: ys) : rd xs i = v := by
 unfold rd
 have : xs[i.toNat]? = some v := by
  have := congrArg (fun l => l[0]?) h
  simpa using this
 rw [List.getD_eq_getElem?_getD, this]; rfl
theorem ev_succ {α : Type} {g : Nat → Option α} {r : α} (h : Ev (fun k => g (k + 1)) r) : Ev g r := Ev.step (fun _ => rfl) h
theorem ev_cast {α : Type} {g : Nat → Option α} {r r' : α} (h : Ev g r) (e : r = r') : Ev g r' := by subst e; exact h
section
open Go.Lib
theorem rall_eq (s old new : List UInt8) (hne : old ≠ new) : Lib.replaceAll s old new = Lib.replaceK old new (count s old) s := by
 unfold Lib.replaceAll replace replaceNum
 rw [if_neg (by simpa using hne), if_pos (Or.inl (by decide))]
theorem rall_nil (old new : List UInt8) (h0 : old ≠ []) (hne : old ≠ new) : Lib.replaceAll [] old new = [] := by
 have hi : index [] old = -1 := by cases old with | nil => exact absurd rfl h0 | cons a t => rfl
 rw [rall_eq _ _ _ hne, count_miss hi]; rfl
theorem rall_skip (old new : List UInt8) (h0 : old ≠ []) (hne : old ≠ new) (b : UInt8) (l : List UInt8) (hp : old.isPrefixOf (b :: l) = false) : Lib.replaceAll (b :: l) old new = b :: Lib.replaceAll l old new := by
 rw [rall_eq _ _ _ hne, rall_eq _ _ _ hne]
 by_cases hm : index l old = -1
 ·have hi : index (b :: l) old = -1 := by unfold index; rw [hp, hm]; rfl
  rw [count_miss hi, count_miss hm]; rfl
 ·obtain ⟨i, hi⟩ : ∃ i : Nat, index l old = i := ⟨(index l old).toNat, by have := index_ge l old; omega⟩
  have hi' : index (b :: l) old = (i + 1 : Nat) := by unfold index; rw [hp, hi]; simp
  have e : (b :: l).drop (i + 1 + old.length) = l.drop (i + old.length) := by rw [show i + 1 + old.length = (i + old.length) + 1 by omega]; rfl
  rw [count_hit h0 hi', count_hit h0 hi, e, Nat.add_comm 1, Lib.replaceK_hit _ _ _ _ _ hi', Lib.replaceK_hit _ _ _ _ _ hi, e]
  rfl
theorem rall_hit (old new : List UInt8) (h0 : old ≠ []) (hne : old ≠ new) (t : List UInt8) : Lib.replaceAll (old ++ t) old new = new ++ Lib.replaceAll t old new := by
 have hi : index (old ++ t) old = (0 : Nat) := by
  cases old with
  | nil => exact absurd rfl h0
  | cons a r =>
   have hp : (a :: r).isPrefixOf (a :: (r ++ t)) = true := List.isPrefixOf_iff_prefix.2 ⟨t, rfl⟩
   show index (a :: (r ++ t)) (a :: r) = 0
   unfold index; rw [hp]; rfl
 rw [rall_eq _ _ _ hne, rall_eq _ _ _ hne, count_hit h0 hi, Nat.add_comm 1, Lib.replaceK_hit _ _ _ _ _ hi]
 simp
theorem rall_one (c : UInt8) (new : List UInt8) (hne : [c] ≠ new) : ∀ s : List UInt8, Lib.replaceAll s [c] new = s.flatMap (fun x => if x = c then new else [x]) := by
 intro s
 induction s with
 | nil => exact rall_nil _ _ (by simp) hne
 | cons x t ih =>
  rw [List.flatMap_cons, ← ih]
  by_cases e : x = c
  ·subst e; rw [if_pos rfl]; exact rall_hit [x] new (by simp) hne t
  ·rw [if_neg e]
   exact rall_skip _ _ (by simp) hne x t (by simp [List.isPrefixOf]; exact fun h => e h.symm)
def ampL : List UInt8 := [38, 97, 109, 112, 59]
def nbspL : List UInt8 := [38, 110, 98, 115, 112, 59]
def quotL : List UInt8 := [38, 113, 117, 111, 116, 59]
def ltL : List UInt8 := [38, 108, 116, 59]
def gtL : List UInt8 := [38, 103, 116, 59]
def escB (v : Bool) (x : UInt8) : List UInt8 := if x = 38 then ampL else if x = 34 ∧ v = true then quotL else if x = 60 ∧ v = false then ltL else if x = 62 ∧ v = false then gtL else [x]
def escL (v : Bool) : List UInt8 → List UInt8
 | [] => []
 | [x] => escB v x
 | x :: y :: t => if x = 194 ∧ y = 160 then nbspL ++ escL v t else escB v x ++ escL v (y :: t)
def R2 (s : List UInt8) : List UInt8 := Lib.replaceAll s [194, 160] nbspL
theorem R2_skip {b : UInt8} (h : b ≠ 194) (l : List UInt8) : R2 (b :: l) = b :: R2 l := rall_skip _ _ (by simp) (by simp [nbspL]) b l (by simp [List.isPrefixOf]; exact fun e => absurd e.symm h)
theorem R2_not {y : UInt8} (h : y ≠ 160) (l : List UInt8) : R2 (194 :: y :: l) = 194 :: R2 (y :: l) := rall_skip _ _ (by simp) (by simp [nbspL]) 194 _ (by simp [List.isPrefixOf]; exact fun e => absurd e.symm h)
theorem R2_hit (l : List UInt8) : R2 (194 :: 160 :: l) = nbspL ++ R2 l := rall_hit [194, 160] nbspL (by simp) (by simp [nbspL]) l
theorem R2_nil : R2 [] = [] := rall_nil _ _ (by simp) (by simp [nbspL])
theorem R2_one : R2 [194] = [194] := by unfold R2; rw [rall_skip _ _ (by simp) (by simp [nbspL]) 194 [] (by decide)]; rw [rall_nil _ _ (by simp) (by simp [nbspL])]
def fA (s : List UInt8) : List UInt8 := s.flatMap (fun x => if x = 38 then ampL else [x])
def fV (v : Bool) (s : List UInt8) : List UInt8 := if v = true then s.flatMap (fun x => if x = 34 then quotL else [x]) else (s.flatMap (fun x => if x = 60 then ltL else [x])).flatMap (fun x => if x = 62 then gtL else [x])
theorem fV_app (v : Bool) (a b : List UInt8) : fV v (a ++ b) = fV v a ++ fV v b := by
 unfold fV; cases v <;> simp [List.flatMap_append]
theorem fV_one (v : Bool) (x : UInt8) (h : x ≠ 38) : fV v [x] = escB v x := by
 unfold fV escB
 rw [if_neg h]
 cases v with
 | true => by_cases e : x = 34 <;> simp [e]
 | false =>
  by_cases e : x = 60
  ·subst e; decide
  ·by_cases e2 : x = 62 <;> simp [e, e2]
theorem fA_cons (x : UInt8) (t : List UInt8) : fA (x :: t) = (if x = 38 then ampL else [x]) ++ fA t := List.flatMap_cons
theorem R2_amp (l : List UInt8) : R2 (ampL ++ l) = ampL ++ R2 l := by
 show R2 (38 :: 97 :: 109 :: 112 :: 59 :: l) = _
 rw [R2_skip (by decide), R2_skip (by decide), R2_skip (by decide), R2_skip (by decide), R2_skip (by decide)]; rfl
theorem fV_amp (v : Bool) : fV v ampL = ampL := by cases v <;> decide
theorem fV_nbsp (v : Bool) : fV v nbspL = nbspL := by cases v <;> decide
theorem escL_cons {v : Bool} {x : UInt8} (t : List UInt8) (h : ∀ r, ¬ (x = 194 ∧ t = 160 :: r)) : escL v (x :: t) = escB v x ++ escL v t := by
 cases t with
 | nil => simp [escL]
 | cons y r => rw [escL, if_neg (fun e => h r ⟨e.1, by rw [e.2]⟩)]
theorem esc_same (v : Bool) : ∀ (n : Nat) (s : List UInt8), s.length ≤ n → fV v (R2 (fA s)) = escL v s := by
 intro n
 induction n with
 | zero => intro s h; cases s with | nil => simp [fA, R2_nil, escL, fV] | cons x t => simp at h
 | succ n ih =>
  intro s h
  cases s with
  | nil => simp [fA, R2_nil, escL, fV]
  | cons x t =>
   have iht := ih t (by simpa using h)
   rw [fA_cons]
   by_cases e : x = 38
   ·subst e
    rw [if_pos rfl, R2_amp, fV_app, fV_amp, iht, escL_cons _ (fun r h => absurd h.1 (by decide))]; rfl
   ·rw [if_neg e]
    by_cases e2 : x = 194
    ·subst e2
     cases t with
     | nil =>
      show fV v (R2 [194]) = escL v [194]
      rw [R2_one, fV_one v 194 (by decide)]; rfl
     | cons y r =>
      by_cases e3 : y = 160
      ·subst e3
       have ihr := ih r (by simp at h; omega)
       rw [fA_cons, if_neg (by decide)]
       show fV v (R2 (194 :: 160 :: fA r)) = _
       rw [R2_hit, fV_app, fV_nbsp, ihr]; simp [escL]
      ·rw [escL_cons _ (fun r h => e3 (by have := h.2; simp at this; exact this.1)), ← iht, ← fV_one v 194 (by decide), ← fV_app]
       have : ∃ z q, fA (y :: r) = z :: q ∧ z ≠ 160 := by
        rw [fA_cons]
        by_cases e4 : y = 38
        ·rw [if_pos e4]; exact ⟨38, _, rfl, by decide⟩
        ·rw [if_neg e4]; exact ⟨y, _, rfl, e3⟩
       obtain ⟨z, q, hz, hz2⟩ := this
       rw [hz]
       show fV v (R2 (194 :: z :: q)) = _
       rw [R2_not hz2]; rfl
    ·show fV v (R2 (x :: fA t)) = _
     rw [R2_skip e2, escL_cons _ (fun r h => e2 h.1), ← iht, ← fV_one v x e, ← fV_app]; rfl
end
theorem data_eta (s : ByteArray) : (⟨s.data.toList.toArray⟩ : ByteArray) = s := by cases s; simp
theorem str_bytes (s : ByteArray) : strOfNums (bytesOf s) = s := by
 unfold bytesOf
 rw [Lib.Lz.strOfNums_map]
theorem bytes_str {b : List Int} (h : ∀ x ∈ b, 0 ≤ x ∧ x ≤ 255) : bytesOf (strOfNums b) = b := by
 have e : (strOfNums b).data.toList = Lib.bytesOf b := by rw [← Lib.toList_data, Lib.strOfNums_toList]
 unfold bytesOf
 rw [e]
 unfold Lib.bytesOf
 rw [List.map_map]
 conv => rhs; rw [← List.map_id b]
 refine List.map_congr_left (fun x hx => ?_)
 have := h x hx
 simp only [Function.comp, id]
 have : (UInt8.ofNat x.toNat).toNat = x.toNat := by simp; omega
 omega
theorem bytesOf_range (s : ByteArray) : ∀ x ∈ bytesOf s, 0 ≤ x ∧ x ≤ 255 := by
 intro x hx
 unfold bytesOf at hx
 obtain ⟨b, _, rfl⟩ := List.mem_map.1 hx
 have := b.toNat_lt
 omega
theorem bytesOf_wf (s : ByteArray) : ∀ x ∈ bytesOf s, (Lit.int .u8 x).wf = true := fun x hx => by
 simp only [Lit.wf, Bool.and_eq_true, decide_eq_true_eq]; exact bytesOf_range s x hx
theorem bytes_ext {s t : ByteArray} (h : bytesOf s = bytesOf t) : s = t := by rw [← str_bytes s, h, str_bytes]
theorem toList_ext {s t : ByteArray} (h : s.toList = t.toList) : s = t := by
 rw [Lib.toList_data, Lib.toList_data] at h
 rw [← data_eta s, h, data_eta]
theorem str_size (b : List Int) : (strOfNums b).size = b.length := by
 have e : (strOfNums b).data.toList = Lib.bytesOf b := by rw [← Lib.toList_data, Lib.strOfNums_toList]
 have := congrArg List.length e
 simpa [Lib.bytesOf] using this
def toI (l : List UInt8) : List Int := l.map fun b => (b.toNat : Int)
theorem toI_app (a b : List UInt8) : toI (a ++ b) = toI a ++ toI b := List.map_append
theorem u8_eq {x : UInt8} (n : Nat) (hn : n < 256) : x = UInt8.ofNat n ↔ (x.toNat : Int) = n := by
 constructor
 ·rintro rfl; simp; omega
 ·intro h
  apply UInt8.toNat_inj.1
  simp; omega
theorem one_esc (v : Bool) (x : UInt8) : spec_Escape.one v (x.toNat : Int) = toI (escB v x) := by
 have h38 : x = 38 ↔ (x.toNat : Int) = 38 := u8_eq 38 (by omega)
 have h34 : x = 34 ↔ (x.toNat : Int) = 34 := u8_eq 34 (by omega)
 have h60 : x = 60 ↔ (x.toNat : Int) = 60 := u8_eq 60 (by omega)
 have h62 : x = 62 ↔ (x.toNat : Int) = 62 := u8_eq 62 (by omega)
 have hlt := x.toNat_lt
 unfold spec_Escape.one escB
 by_cases c1 : x = 38
 ·rw [if_pos (h38.1 c1), if_pos c1]; rfl
 ·rw [if_neg (fun e => c1 (h38.2 e)), if_neg c1]
  by_cases c2 : x = 34 ∧ v = true
  ·rw [if_pos ⟨h34.1 c2.1, c2.2⟩, if_pos c2]; rfl
  ·rw [if_neg (fun e => c2 ⟨h34.2 e.1, e.2⟩), if_neg c2]
   by_cases c3 : x = 60 ∧ v = false
   ·rw [if_pos ⟨h60.1 c3.1, c3.2⟩, if_pos c3]; rfl
   ·rw [if_neg (fun e => c3 ⟨h60.2 e.1, e.2⟩), if_neg c3]
    by_cases c4 : x = 62 ∧ v = false
    ·rw [if_pos ⟨h62.1 c4.1, c4.2⟩, if_pos c4]; rfl
    ·rw [if_neg (fun e => c4 ⟨h62.2 e.1, e.2⟩), if_neg c4]
     show [(x.toNat : Int) % 256] = [(x.toNat : Int)]
     rw [Int.emod_eq_of_lt (by omega) (by omega)]
theorem one_len (v : Bool) (b : Int) : (spec_Escape.one v b).length ≤ 6 := by
 unfold spec_Escape.one
 repeat' split
 all_goals simp
theorem bt_drop (s : ByteArray) (i : Nat) (h : i < s.size) : ∃ x, s.data.toList.drop i = x :: s.data.toList.drop (i + 1) ∧ bt s i = (x.toNat : Int) := by
 have hl : i < s.data.toList.length := by rw [data_length]; exact h
 refine ⟨_, List.drop_eq_getElem_cons hl, ?_⟩
 rw [← bt_at s i (by simpa using h)]
 simp; rfl
theorem spec_Escape_l0 (s : ByteArray) (v : Bool) (hs : s.size ≤ 1048576) : ∀ (n i : Nat) (o : List Int), s.size ≤ i + n → i ≤ s.size → o.length + 6 * n ≤ 90000000000 → Ev (fun k => spec_Escape.l0 k s v o i) (strOfNums (o ++ toI (escL v (s.data.toList.drop i)))) := by
 intro n
 induction n using Nat.strongRecOn with
 | _ n ih =>
  intro i o h1 h2 h3
  by_cases hi : i < s.size
  ·obtain ⟨x, hx, hb⟩ := bt_drop s i hi
   refine ev_succ ?_
   simp only [spec_Escape.l0]
   refine ev_pos (by omega) (ev_pos (by omega) (ev_pos (by omega) (ev_pos (by omega) ?_)))
   by_cases c : bt s i = 194 ∧ (i : Int) + 1 < s.size ∧ bt s ((i : Int) + 1) = 160
   ·obtain ⟨y, hy, hb2⟩ := bt_drop s (i + 1) (by omega)
    have e1 : ((i + 1 : Nat) : Int) = (i : Int) + 1 := by omega
    rw [e1] at hb2
    have ex : x = 194 := (u8_eq 194 (by omega)).2 (by rw [← hb]; exact c.1)
    have ey : y = 160 := (u8_eq 160 (by omega)).2 (by rw [← hb2]; exact c.2.2)
    have e2 : escL v (s.data.toList.drop i) = nbspL ++ escL v (s.data.toList.drop (i + 2)) := by
     rw [hx, hy, ex, ey]; simp [escL]
    have := ih (n - 2) (by omega) (i + 2) (o ++ [38, 110, 98, 115, 112, 59]) (by omega) (by omega) (by rw [List.length_append]; simp only [List.length_cons, List.length_nil]; omega)
    rw [e2, toI_app, ← List.append_assoc]
    rw [show wrap64 ((i : Int) + 1 + 1) = ((i + 2 : Nat) : Int) by rw [w64 (by omega) (by omega)]; omega]
    exact ev_pos c this
   ·have hne : ∀ r, ¬ (x = 194 ∧ s.data.toList.drop (i + 1) = 160 :: r) := by
     rintro r ⟨rfl, hr⟩
     have hl : i + 1 < s.size := by
      have := congrArg List.length hr
      rw [List.length_drop, data_length, List.length_cons] at this
      omega
     obtain ⟨y, hy, hb2⟩ := bt_drop s (i + 1) hl
     have e1 : ((i + 1 : Nat) : Int) = (i : Int) + 1 := by omega
     rw [e1] at hb2
     rw [hy] at hr
     have ey : y = 160 := by injection hr
     subst ey
     exact c ⟨hb, by omega, hb2⟩
    have e2 : escL v (s.data.toList.drop i) = escB v x ++ escL v (s.data.toList.drop (i + 1)) := by
     rw [hx, escL_cons _ hne]
    have hl := one_len v (bt s i)
    have := ih (n - 1) (by omega) (i + 1) (o ++ spec_Escape.one v (bt s i)) (by omega) (by omega) (by rw [List.length_append]; omega)
    rw [e2, toI_app, ← one_esc, ← hb, ← List.append_assoc]
    rw [show wrap64 ((i : Int) + 1) = ((i + 1 : Nat) : Int) by rw [w64 (by omega) (by omega)]; omega]
    exact ev_neg c this
  ·refine ev_succ ?_
   simp only [spec_Escape.l0]
   rw [List.drop_of_length_le (by rw [data_length]; omega)]
   exact ev_neg (by omega) (ev_some (by simp [escL, toI]))
theorem rb_data (s old new : ByteArray) : (rb s old new).data.toList = Lib.replaceAll s.data.toList old.data.toList new.data.toList := by
 unfold rb; simp
theorem esc_data (s : ByteArray) (v : Bool) : (impl_Escape.f s v).data.toList = escL v s.data.toList := by
 rw [← esc_same v s.data.toList.length s.data.toList (Nat.le_refl _)]
 unfold impl_Escape.f
 have h1 : (rb s ⟨#[38]⟩ ⟨#[38, 97, 109, 112, 59]⟩).data.toList = fA s.data.toList := by
  rw [rb_data]; exact rall_one 38 ampL (by decide) _
 cases v with
 | true =>
  rw [if_pos rfl, rb_data, rb_data, h1]
  exact rall_one 34 quotL (by decide) _
 | false =>
  rw [if_neg (by decide), rb_data, rb_data, rb_data, h1]
  unfold fV
  rw [if_neg (by decide)]
  have e := rall_one 60 ltL (by decide) (R2 (fA s.data.toList))
  rw [← e]
  exact rall_one 62 gtL (by decide) _
theorem spec_Escape_ev (s : ByteArray) (v : Bool) (hs : s.size ≤ 1048576) : Ev (fun k => spec_Escape.f k s v) (impl_Escape.f s v) := by
 have h := spec_Escape_l0 s v hs s.size 0 [] (by omega) (by omega) (by simp; omega)
 have e : strOfNums ([] ++ toI (escL v (s.data.toList.drop 0))) = impl_Escape.f s v := by
  rw [List.drop_zero, List.nil_append, ← esc_data]
  exact str_bytes (impl_Escape.f s v)
 rw [e] at h
 exact h
def pointOk (x : Int) : Bool := decide (0 ≤ x ∧ x ≤ 1114111) && !decide (55296 ≤ x ∧ x ≤ 57343)
def numForm : Nat → Int → List Int
 | 0, x => [x]
 | n + 1, x => if x > 127 then (x % 128 + 128) :: numForm n (x / 128) else [x]
theorem numForm_len (n : Nat) : ∀ x, (numForm n x).length ≤ n + 1 := by
 induction n with
 | zero => intro x; simp [numForm]
 | succ n ih => intro x; unfold numForm; split <;> simp [ih]
theorem wraps_i64 (n : Int) (h₀ : 0 ≤ n) (h₁ : n < 2 ^ 63) : IntKind.i64.wrap n = n := by rw [IntKind.wrap_i64]; omega
theorem and127 {x : Int} (h0 : 0 ≤ x) (h1 : x ≤ 9223372036854775807) : Go.bits .and .i64 x 127 = x % 128 := bits_mask .i64 63 (by decide) wraps_i64 7 (by decide) x h0 (by omega)
theorem or128 {y : Int} (h0 : 0 ≤ y) (h1 : y < 128) : Go.bits .or .i64 128 y = 128 + y := bits_join .i64 63 (by decide) wraps_i64 7 128 y (by decide) (by decide) (by decide) h0 h1 (by omega)
theorem pow128 (x : Int) (n : Nat) (h : x < 128 ^ (n + 1 + 1)) : x / 128 < 128 ^ (n + 1) := by
 rw [Int.pow_succ] at h
 generalize (128 : Int) ^ (n + 1) = p at *
 omega
def utf8 (x : Int) : List Int :=
 if x < 128 then [x] else if x < 2048 then [192 + x / 64, 128 + x % 64] else if x < 65536 then [224 + x / 4096, 128 + x / 64 % 64, 128 + x % 64] else [240 + x / 262144, 128 + x / 4096 % 64, 128 + x / 64 % 64, 128 + x % 64]
def point (x : Int) : Int := if pointOk x = true then x else 65533
def pointPut (x : Int) : List Int := utf8 (point x)
theorem pointOk_iff (x : Int) : pointOk x = true ↔ (0 ≤ x ∧ x ≤ 1114111) ∧ ¬ (55296 ≤ x ∧ x ≤ 57343) := by unfold pointOk; simp; omega
theorem pointOk_point (x : Int) : pointOk (point x) = true := by
 unfold point; split
 ·assumption
 ·decide
theorem point_of {x : Int} (h : pointOk x = true) : point x = x := by unfold point; rw [if_pos h]
theorem point_range (x : Int) : 0 ≤ point x ∧ point x ≤ 1114111 := ((pointOk_iff _).1 (pointOk_point x)).1
theorem utf8_len (x : Int) : 1 ≤ (utf8 x).length ∧ (utf8 x).length ≤ 4 := by
 unfold utf8
 split
 ·simp
 ·split
  ·simp
  ·split <;> simp
theorem pointPut_len (x : Int) : 1 ≤ (pointPut x).length ∧ (pointPut x).length ≤ 4 := utf8_len _
theorem utf8_bytes {x : Int} (h0 : 0 ≤ x) (h1 : x ≤ 1114111) : ∀ b ∈ utf8 x, 0 ≤ b ∧ b ≤ 255 := by
 intro b hb
 unfold utf8 at hb
 split at hb
 ·simp at hb; omega
 ·split at hb
  ·simp at hb; omega
  ·split at hb
   ·simp at hb; omega
   ·simp at hb; omega
theorem and63 {x : Int} (h0 : 0 ≤ x) (h1 : x ≤ 9223372036854775807) : Go.bits .and .i64 x 63 = x % 64 := bits_mask .i64 63 (by decide) wraps_i64 6 (by decide) x h0 (by omega)
theorem or192 {y : Int} (h0 : 0 ≤ y) (h1 : y < 32) : Go.bits .or .i64 192 y = 192 + y := bits_join .i64 63 (by decide) wraps_i64 5 192 y (by decide) (by decide) (by decide) h0 h1 (by omega)
theorem or224 {y : Int} (h0 : 0 ≤ y) (h1 : y < 16) : Go.bits .or .i64 224 y = 224 + y := bits_join .i64 63 (by decide) wraps_i64 4 224 y (by decide) (by decide) (by decide) h0 h1 (by omega)
theorem or240 {y : Int} (h0 : 0 ≤ y) (h1 : y < 8) : Go.bits .or .i64 240 y = 240 + y := bits_join .i64 63 (by decide) wraps_i64 3 240 y (by decide) (by decide) (by decide) h0 h1 (by omega)
theorem m256 {y : Int} (h0 : 0 ≤ y) (h1 : y < 256) : y % 256 = y := Int.emod_eq_of_lt h0 h1
def putAll (l : List Int) : List Int := l.flatMap pointPut
theorem putAll_len (l : List Int) : l.length ≤ (putAll l).length ∧ (putAll l).length ≤ 4 * l.length := by
 induction l with
 | nil => simp [putAll]
 | cons x xs ih =>
  have := pointPut_len x
  simp only [putAll, List.flatMap_cons, List.length_append, List.length_cons] at *
  omega
theorem rd_get {l : List Int} {i : Int} (h0 : 0 ≤ i) (h : i < l.length) : rd l i = l[i.toNat]'(by omega) := by
 unfold rd; rw [List.getD_eq_getElem?_getD, List.getElem?_eq_getElem (by omega)]; rfl
theorem drop_cons {l : List Int} {i : Int} (h0 : 0 ≤ i) (h : i < l.length) : l.drop i.toNat = rd l i :: l.drop (i + 1).toNat := by
 have e : (i + 1).toNat = i.toNat + 1 := by omega
 rw [e, rd_get h0 h]; exact List.drop_eq_getElem_cons (by omega)
def formN (b : Int) : Nat := if b < 128 then 1 else if 194 ≤ b ∧ b ≤ 223 then 2 else if 224 ≤ b ∧ b ≤ 239 then 3 else if 240 ≤ b ∧ b ≤ 244 then 4 else 0
def formX (b : Int) : Int := if b < 128 then b else if b ≤ 223 then b - 192 else if b ≤ 239 then b - 224 else b - 240
def low1 (b : Int) : Int := if b = 224 then 160 else if b = 240 then 144 else 128
def high1 (b : Int) : Int := if b = 237 then 159 else if b = 244 then 143 else 191
def mk : Nat → List Int → Int → Int → Nat
 | 0, _, _, _ => 0
 | _ + 1, [], _, _ => 0
 | d + 1, b :: r, lo, hi => if lo ≤ b ∧ b ≤ hi then mk d r 128 191 + 1 else 0
def vl : Nat → List Int → Int → Int
 | 0, _, x => x
 | _ + 1, [], x => x
 | d + 1, b :: r, x => vl d r (64 * x + b - 128)
def readPt : List Int → Int × Nat
 | [] => (65533, 1)
 | b :: r => if formN b = 0 then (65533, 1) else if mk (formN b - 1) r (low1 b) (high1 b) < formN b - 1 then (65533, mk (formN b - 1) r (low1 b) (high1 b) + 1) else (vl (formN b - 1) r (formX b), formN b)
def ur : Nat → List Int → List Int
 | 0, _ => []
 | _ + 1, [] => []
 | n + 1, b :: r => (readPt (b :: r)).1 :: ur n ((b :: r).drop (readPt (b :: r)).2)
theorem mk_le : ∀ (d : Nat) (r : List Int) (lo hi : Int), mk d r lo hi ≤ d ∧ mk d r lo hi ≤ r.length
 | 0, r, lo, hi => by simp [mk]
 | d + 1, [], lo, hi => by simp [mk]
 | d + 1, b :: r, lo, hi => by
  unfold mk; split
  ·have := mk_le d r 128 191; simp only [List.length_cons]; omega
  ·simp
theorem formN_le (b : Int) : formN b ≤ 4 := by
 unfold formN; split
 ·omega
 ·split
  ·omega
  ·split
   ·omega
   ·split <;> omega
theorem readPt_n (b : Int) (r : List Int) : 1 ≤ (readPt (b :: r)).2 ∧ (readPt (b :: r)).2 ≤ (b :: r).length := by
 have h := mk_le (formN b - 1) r (low1 b) (high1 b)
 simp only [readPt]
 by_cases h0 : formN b = 0
 ·rw [if_pos h0]; simp
 ·rw [if_neg h0]
  by_cases h1 : mk (formN b - 1) r (low1 b) (high1 b) < formN b - 1
  ·rw [if_pos h1]; simp only [List.length_cons]; omega
  ·rw [if_neg h1]; simp only [List.length_cons]; omega
theorem ur_nil (n : Nat) : ur n [] = [] := by cases n <;> rfl
theorem ur_len : ∀ (n : Nat) (l : List Int), (ur n l).length ≤ l.length
 | 0, l => by simp [ur]
 | n + 1, [] => by simp [ur]
 | n + 1, b :: r => by
  have h := readPt_n b r
  have := ur_len n ((b :: r).drop (readPt (b :: r)).2)
  simp only [ur, List.length_cons, List.length_drop] at *
  omega
theorem ur_more : ∀ (n m : Nat) (l : List Int), l.length ≤ n → l.length ≤ m → ur n l = ur m l := by
 intro n
 induction n with
 | zero =>
  intro m l h _
  have : l = [] := List.length_eq_zero_iff.1 (by omega)
  subst this; rw [ur_nil, ur_nil]
 | succ n ih =>
  intro m l h h'
  cases l with
  | nil => rw [ur_nil, ur_nil]
  | cons b r =>
   cases m with
   | zero => simp at h'
   | succ m =>
    have hn := readPt_n b r
    simp only [List.length_cons] at h h' hn
    simp only [ur]
    rw [ih m _ (by simp only [List.length_drop, List.length_cons]; omega) (by simp only [List.length_drop, List.length_cons]; omega)]
def urAll (l : List Int) : List Int := ur l.length l
theorem urAll_cons (b : Int) (r : List Int) : urAll (b :: r) = (readPt (b :: r)).1 :: urAll ((b :: r).drop (readPt (b :: r)).2) := by
 have hn := readPt_n b r
 show (readPt (b :: r)).1 :: ur r.length _ = _
 unfold urAll
 rw [ur_more r.length _ _ (by simp only [List.length_drop, List.length_cons] at *; omega) (Nat.le_refl _)]
theorem urAll_len (l : List Int) : (urAll l).length ≤ l.length := ur_len _ _
def unBom (l : List Int) : List Int := if l.take 3 = [239, 187, 191] then l.drop 3 else l
def utfRead (l : List Int) : List Int := if (l.length : Int) > 3000 then [] else urAll (unBom l)
theorem unBom_len (l : List Int) : (unBom l).length ≤ l.length := by unfold unBom; split <;> simp
theorem utfRead_len (l : List Int) : (utfRead l).length ≤ 3000 ∧ (utfRead l).length ≤ l.length := by
 unfold utfRead; split
 ·simp
 ·have := urAll_len (unBom l); have := unBom_len l; omega
theorem rd_bytes {l : List Int} (hw : ∀ x ∈ l, (Lit.int .u8 x).wf = true) (i : Int) : 0 ≤ rd l i ∧ rd l i ≤ 255 := by
 unfold rd
 rw [List.getD_eq_getElem?_getD]
 cases h : l[i.toNat]? with
 | none => simp
 | some v => exact wf8 (hw v (List.mem_of_getElem? h))
theorem wf_drop {l : List Int} (hw : ∀ x ∈ l, (Lit.int .u8 x).wf = true) (n : Nat) : ∀ x ∈ l.drop n, (Lit.int .u8 x).wf = true := fun x hx => hw x (List.mem_of_mem_drop hx)
def lim : Nat → Int
 | 0 => 1099511627776
 | 1 => 4294967296
 | 2 => 16777216
 | _ => 65536
theorem readPt_utf8 (x : Int) (r : List Int) (h : pointOk x = true) : readPt (utf8 x ++ r) = (x, (utf8 x).length) := by
 obtain ⟨⟨h0, h1⟩, h2⟩ := (pointOk_iff x).1 h
 unfold utf8
 by_cases a : x < 128
 ·rw [if_pos a]
  have f : formN x = 1 := by unfold formN; rw [if_pos a]
  simp only [List.cons_append, List.nil_append, readPt, f]
  simp [mk, vl, formX, a]
 ·rw [if_neg a]
  by_cases b : x < 2048
  ·rw [if_pos b]
   have f : formN (192 + x / 64) = 2 := by unfold formN; rw [if_neg (by omega), if_pos (by omega)]
   have l : low1 (192 + x / 64) = 128 := by unfold low1; rw [if_neg (by omega), if_neg (by omega)]
   have g : high1 (192 + x / 64) = 191 := by unfold high1; rw [if_neg (by omega), if_neg (by omega)]
   have e : formX (192 + x / 64) = x / 64 := by unfold formX; rw [if_neg (by omega), if_pos (by omega)]; omega
   simp only [List.cons_append, List.nil_append, readPt, f, l, g, e]
   have m : mk (2 - 1) ((128 + x % 64) :: r) 128 191 = 1 := by
    show mk (0 + 1) _ _ _ = 1
    simp only [mk]; rw [if_pos (by omega)]
   have v : vl (2 - 1) ((128 + x % 64) :: r) (x / 64) = x := by
    show vl (0 + 1) _ _ = x
    simp only [vl]; omega
   rw [m, v]; simp
  ·rw [if_neg b]
   by_cases c : x < 65536
   ·rw [if_pos c]
    have f : formN (224 + x / 4096) = 3 := by unfold formN; rw [if_neg (by omega), if_neg (by omega), if_pos (by omega)]
    have e : formX (224 + x / 4096) = x / 4096 := by unfold formX; rw [if_neg (by omega), if_neg (by omega), if_pos (by omega)]; omega
    have l : low1 (224 + x / 4096) ≤ 128 + x / 64 % 64 := by
     unfold low1; split
     ·omega
     ·rw [if_neg (by omega)]; omega
    have g : 128 + x / 64 % 64 ≤ high1 (224 + x / 4096) := by
     unfold high1; split
     ·omega
     ·rw [if_neg (by omega)]; omega
    simp only [List.cons_append, List.nil_append, readPt, f, e]
    have m : mk (3 - 1) ((128 + x / 64 % 64) :: (128 + x % 64) :: r) (low1 (224 + x / 4096)) (high1 (224 + x / 4096)) = 2 := by
     show mk (1 + 1) _ _ _ = 2
     simp only [mk]; rw [if_pos ⟨l, g⟩, if_pos (by omega)]
    have v : vl (3 - 1) ((128 + x / 64 % 64) :: (128 + x % 64) :: r) (x / 4096) = x := by
     show vl (1 + 1) _ _ = x
     simp only [vl]; omega
    rw [m, v]; simp
   ·rw [if_neg c]
    have f : formN (240 + x / 262144) = 4 := by unfold formN; rw [if_neg (by omega), if_neg (by omega), if_neg (by omega), if_pos (by omega)]
    have e : formX (240 + x / 262144) = x / 262144 := by unfold formX; rw [if_neg (by omega), if_neg (by omega), if_neg (by omega)]; omega
    have l : low1 (240 + x / 262144) ≤ 128 + x / 4096 % 64 := by
     unfold low1; rw [if_neg (by omega)]; split <;> omega
    have g : 128 + x / 4096 % 64 ≤ high1 (240 + x / 262144) := by
     unfold high1; rw [if_neg (by omega)]; split <;> omega
    simp only [List.cons_append, List.nil_append, readPt, f, e]
    have m : mk (4 - 1) ((128 + x / 4096 % 64) :: (128 + x / 64 % 64) :: (128 + x % 64) :: r) (low1 (240 + x / 262144)) (high1 (240 + x / 262144)) = 3 := by
     show mk (2 + 1) _ _ _ = 3
     simp only [mk]; rw [if_pos ⟨l, g⟩, if_pos (by omega), if_pos (by omega)]
    have v : vl (4 - 1) ((128 + x / 4096 % 64) :: (128 + x / 64 % 64) :: (128 + x % 64) :: r) (x / 262144) = x := by
     show vl (2 + 1) _ _ = x
     simp only [vl]; omega
    rw [m, v]; simp
theorem utf8_ne (x : Int) : ∃ b t, utf8 x = b :: t := by
 have := (utf8_len x).1
 cases h : utf8 x with
 | nil => rw [h] at this; simp at this
 | cons b t => exact ⟨b, t, rfl⟩
theorem urAll_utf8 (x : Int) (r : List Int) (h : pointOk x = true) : urAll (utf8 x ++ r) = x :: urAll r := by
 have e := readPt_utf8 x r h
 obtain ⟨b, t, hb⟩ := utf8_ne x
 rw [hb] at e ⊢
 rw [List.cons_append] at e ⊢
 rw [urAll_cons, e, ← List.cons_append]
 simp
theorem urAll_put (l : List Int) (h : ∀ x ∈ l, pointOk x = true) : urAll (putAll l) = l := by
 induction l with
 | nil => rfl
 | cons x xs ih =>
  have hx := h x (by simp)
  have e : putAll (x :: xs) = utf8 x ++ putAll xs := by simp [putAll, pointPut, point_of hx]
  rw [e, urAll_utf8 x _ hx, ih (fun y hy => h y (by simp [hy]))]
theorem readPt_ok (b : Int) (r : List Int) (hw : 0 ≤ b) : pointOk (readPt (b :: r)).1 = true := by
 simp only [readPt]
 by_cases h0 : formN b = 0
 ·rw [if_pos h0]; show pointOk 65533 = true; decide
 rw [if_neg h0]
 by_cases h1 : mk (formN b - 1) r (low1 b) (high1 b) < formN b - 1
 ·rw [if_pos h1]; show pointOk 65533 = true; decide
 rw [if_neg h1]
 show pointOk (vl (formN b - 1) r (formX b)) = true
 rw [pointOk_iff]
 by_cases a : b < 128
 ·have f : formN b = 1 := by unfold formN; rw [if_pos a]
  have e : formX b = b := by unfold formX; rw [if_pos a]
  rw [f, e]; simp only [vl, Nat.sub_self]; omega
 by_cases c : 194 ≤ b ∧ b ≤ 223
 ·have f : formN b = 2 := by unfold formN; rw [if_neg a, if_pos c]
  have e : formX b = b - 192 := by unfold formX; rw [if_neg a, if_pos c.2]
  rw [f] at h1; rw [f, e]
  cases r with
  | nil => simp [mk] at h1
  | cons p r =>
   simp only [Nat.add_one_sub_one, Nat.reduceSub, mk, vl] at h1 ⊢
   have l : low1 b = 128 := by unfold low1; rw [if_neg (by omega), if_neg (by omega)]
   have g : high1 b = 191 := by unfold high1; rw [if_neg (by omega), if_neg (by omega)]
   by_cases m : low1 b ≤ p ∧ p ≤ high1 b
   ·omega
   ·rw [if_neg m] at h1; omega
 by_cases d : 224 ≤ b ∧ b ≤ 239
 ·have f : formN b = 3 := by unfold formN; rw [if_neg a, if_neg c, if_pos d]
  have e : formX b = b - 224 := by unfold formX; rw [if_neg a, if_neg (by omega), if_pos d.2]
  rw [f] at h1; rw [f, e]
  cases r with
  | nil => simp [mk] at h1
  | cons p r =>
   simp only [Nat.reduceSub, mk, vl] at h1 ⊢
   by_cases m : low1 b ≤ p ∧ p ≤ high1 b
   ·rw [if_pos m] at h1
    cases r with
    | nil => simp [mk] at h1
    | cons q r =>
     simp only [mk, vl] at h1 ⊢
     by_cases n : (128 : Int) ≤ q ∧ q ≤ 191
     ·have hl : (b = 224 ∧ low1 b = 160) ∨ (b ≠ 224 ∧ low1 b = 128) := by
       unfold low1
       by_cases x : b = 224
       ·exact .inl ⟨x, by rw [if_pos x]⟩
       ·exact .inr ⟨x, by rw [if_neg x, if_neg (by omega)]⟩
      have hg : (b = 237 ∧ high1 b = 159) ∨ (b ≠ 237 ∧ high1 b = 191) := by
       unfold high1
       by_cases x : b = 237
       ·exact .inl ⟨x, by rw [if_pos x]⟩
       ·exact .inr ⟨x, by rw [if_neg x, if_neg (by omega)]⟩
      omega
     ·rw [if_neg n] at h1; omega
   ·rw [if_neg m] at h1; omega
 by_cases k : 240 ≤ b ∧ b ≤ 244
 ·have f : formN b = 4 := by unfold formN; rw [if_neg a, if_neg c, if_neg d, if_pos k]
  have e : formX b = b - 240 := by unfold formX; rw [if_neg a, if_neg (by omega), if_neg (by omega)]
  rw [f] at h1; rw [f, e]
  cases r with
  | nil => simp [mk] at h1
  | cons p r =>
   simp only [Nat.reduceSub, mk, vl] at h1 ⊢
   by_cases m : low1 b ≤ p ∧ p ≤ high1 b
   ·rw [if_pos m] at h1
    cases r with
    | nil => simp [mk] at h1
    | cons q r =>
     simp only [mk, vl] at h1 ⊢
     by_cases n : (128 : Int) ≤ q ∧ q ≤ 191
     ·rw [if_pos n] at h1
      cases r with
      | nil => simp [mk] at h1
      | cons s r =>
       simp only [mk, vl] at h1 ⊢
       by_cases o : (128 : Int) ≤ s ∧ s ≤ 191
       ·have hl : (b = 240 ∧ low1 b = 144) ∨ (b ≠ 240 ∧ low1 b = 128) := by
         unfold low1
         by_cases x : b = 240
         ·exact .inl ⟨x, by rw [if_neg (by omega), if_pos x]⟩
         ·exact .inr ⟨x, by rw [if_neg (by omega), if_neg x]⟩
        have hg : (b = 244 ∧ high1 b = 143) ∨ (b ≠ 244 ∧ high1 b = 191) := by
         unfold high1
         by_cases x : b = 244
         ·exact .inl ⟨x, by rw [if_neg (by omega), if_pos x]⟩
         ·exact .inr ⟨x, by rw [if_neg (by omega), if_neg x]⟩
        omega
       ·rw [if_neg o] at h1; omega
     ·rw [if_neg n] at h1; omega
   ·rw [if_neg m] at h1; omega
 ·exact absurd (by unfold formN; rw [if_neg a, if_neg c, if_neg d, if_neg k]) h0
theorem urAll_ok (l : List Int) (hw : ∀ x ∈ l, 0 ≤ x) : ∀ x ∈ urAll l, pointOk x = true := by
 have key : ∀ (n : Nat) (l : List Int), l.length ≤ n → (∀ x ∈ l, 0 ≤ x) → ∀ x ∈ urAll l, pointOk x = true := by
  intro n
  induction n with
  | zero =>
   intro l hl _ x hx
   have : l = [] := List.length_eq_zero_iff.1 (by omega)
   subst this; simp [urAll, ur] at hx
  | succ n ih =>
   intro l hl hw x hx
   cases l with
   | nil => simp [urAll, ur] at hx
   | cons b r =>
    rw [urAll_cons] at hx
    have hn := readPt_n b r
    rcases List.mem_cons.1 hx with rfl | hx
    ·exact readPt_ok b r (hw b (by simp))
    ·exact ih _ (by simp only [List.length_drop, List.length_cons] at *; omega) (fun y hy => hw y (List.mem_of_mem_drop hy)) x hx
 exact key l.length l (Nat.le_refl _) hw
theorem unBom_put (l : List Int) (h : ∀ x ∈ l, pointOk x = true) : unBom (putAll l) = match l with
 | [] => []
 | x :: xs => if x = 65279 then putAll xs else putAll (x :: xs) := by
 cases l with
 | nil => simp [unBom, putAll]
 | cons x xs =>
  have hx := h x (by simp)
  have e : putAll (x :: xs) = utf8 x ++ putAll xs := by simp [putAll, pointPut, point_of hx]
  simp only
  by_cases c : x = 65279
  ·rw [if_pos c, e]
   subst c
   have : utf8 65279 = [239, 187, 191] := by decide
   rw [this]; unfold unBom; rfl
  ·rw [if_neg c]
   unfold unBom
   rw [if_neg]
   intro g
   have r1 := readPt_utf8 x (putAll xs) hx
   rw [← e] at r1
   have r2 : putAll (x :: xs) = 239 :: 187 :: 191 :: (putAll (x :: xs)).drop 3 := by
    have := (List.take_append_drop 3 (putAll (x :: xs))).symm
    rw [g] at this; exact this
   have r3 : readPt (239 :: 187 :: 191 :: (putAll (x :: xs)).drop 3) = (65279, 3) := by
    generalize (putAll (x :: xs)).drop 3 = t
    simp only [readPt]
    have f : formN 239 = 3 := by decide
    rw [f]
    simp [mk, vl, low1, high1, formX]
   rw [r2, r3] at r1
   simp only [Prod.mk.injEq] at r1
   omega
theorem spec_l1In_eq (x a b : Int) : spec_l1In.f x a b = some (decide (a ≤ x ∧ x ≤ b)) := by
 unfold spec_l1In.f
 by_cases h : x ≥ a
 ·rw [if_pos h]; congr 1; simp; omega
 ·rw [if_neg h]; congr 1; simp; omega
theorem l1Forms_eq (b : Int) : spec_l1Forms.f b = some (formN b : Int) := by
 unfold spec_l1Forms.f formN
 simp only [spec_l1In_eq, Option.bind_some, decide_eq_true_eq]
 by_cases a : b < 128
 ·simp [a]
 ·simp only [if_neg a]
  split
  ·rfl
  ·split
   ·rfl
   ·split <;> rfl
theorem l1Fits_eq (b : Int) (c : Int) (x : Int) : spec_l1Fits.f b c x = some (decide ((if c = 1 then low1 b else 128) ≤ x ∧ x ≤ (if c = 1 then high1 b else 191))) := by
 unfold spec_l1Fits.f low1 high1
 simp only [spec_l1In_eq, Option.bind_some]
 by_cases hc : c = 1
 ·simp only [if_pos hc]
  by_cases h1 : b = 224
  ·subst h1; simp
  ·by_cases h2 : b = 237
   ·subst h2; simp
   ·by_cases h3 : b = 240
    ·subst h3; simp
    ·by_cases h4 : b = 244
     ·subst h4; simp
     ·simp [h1, h2, h3, h4]
 ·simp [hc]
theorem l1Read_l1 (l acc : List Int) (hl : l.length ≤ 1000000000) (hw : ∀ x ∈ l, (Lit.int .u8 x).wf = true) (a n : Int) (ha : 0 ≤ a) (ha2 : a < l.length) (b : Int) (res : List Int) : ∀ (d : Nat) (c : Nat), 1 ≤ c → (c : Int) + d = n → n ≤ 4 → (m : Nat) → m = mk d (l.drop (a + c).toNat) (if (c : Int) = 1 then low1 b else 128) (if (c : Int) = 1 then high1 b else 191) →
 Ev (fun k => spec_l1Read.j2 k l acc a b n ((c + m : Nat) : Int)) res → Ev (fun k => spec_l1Read.l1 k l acc a b n c) res := by
 intro d
 induction d with
 | zero =>
  intro c h1 hd h4 m hm hj
  have : m = 0 := by rw [hm]; simp [mk]
  subst this
  refine Ev.step (f := fun k => spec_l1Read.j2 k l acc a b n c) (fun k => ?_) hj
  simp only [spec_l1Read.l1]; rw [if_neg (by omega)]
 | succ d ih =>
  intro c h1 hd h4 m hm hj
  have e1 : wrap64 (a + c) = a + c := w64 (by omega) (by omega)
  by_cases hlt : a + c < l.length
  ·rw [drop_cons (by omega) hlt] at hm
   have hb := rd_bytes hw (a + c)
   unfold mk at hm
   by_cases hf : (if (c : Int) = 1 then low1 b else 128) ≤ rd l (a + c) ∧ rd l (a + c) ≤ (if (c : Int) = 1 then high1 b else 191)
   ·rw [if_pos hf] at hm
    refine Ev.step (f := fun k => spec_l1Read.l1 k l acc a b n ((c + 1 : Nat) : Int)) (fun k => ?_) (ih (c + 1) (by omega) (by omega) h4 (m - 1) ?_ ?_)
    ·simp only [spec_l1Read.l1, e1, l1Fits_eq, Option.bind_some]
     rw [w64 (x := rd l (a + c)) (by omega) (by omega), decide_eq_true hf, if_pos (by omega), if_pos hlt, if_pos (by omega), if_pos rfl, w64 (x := (c : Int) + 1) (by omega) (by omega)]; rfl
    ·rw [if_neg (by omega), if_neg (by omega), show a + ((c + 1 : Nat) : Int) = a + c + 1 by omega]; omega
    ·rwa [show c + 1 + (m - 1) = c + m by omega]
   ·rw [if_neg hf] at hm
    subst hm
    refine Ev.step (f := fun k => spec_l1Read.j2 k l acc a b n c) (fun k => ?_) hj
    simp only [spec_l1Read.l1, e1, l1Fits_eq, Option.bind_some]
    rw [w64 (x := rd l (a + c)) (by omega) (by omega), decide_eq_false hf, if_pos (by omega), if_pos hlt, if_pos (by omega), if_neg (by simp)]
  ·rw [List.drop_of_length_le (by omega)] at hm
   unfold mk at hm
   subst hm
   refine Ev.step (f := fun k => spec_l1Read.j2 k l acc a b n c) (fun k => ?_) hj
   simp only [spec_l1Read.l1, e1]
   rw [if_pos (by omega), if_neg hlt]
theorem l1Read_l2 (l acc : List Int) (hl : l.length ≤ 1000000000) (hacc : acc.length ≤ 1000000000) (hw : ∀ x ∈ l, (Lit.int .u8 x).wf = true) (a n : Int) (ha : 0 ≤ a) (han : a + n ≤ l.length) (res : List Int) : ∀ (d : Nat) (c : Nat) (x : Int), 1 ≤ c → (c : Int) + d = n → n ≤ 4 → (m : Int) → m = vl d (l.drop (a + c).toNat) x → mk d (l.drop (a + c).toNat) 0 255 = 0 ∨ True → -lim d ≤ x → x ≤ lim d →
 Ev (fun k => spec_l1Read.l0 k l (acc ++ [m]) (a + n)) res → Ev (fun k => spec_l1Read.l2 k l acc a n x c) res := by
 intro d
 induction d with
 | zero =>
  intro c x h1 hd h4 m hm _ hx0 hx1 hj
  simp only [vl] at hm; subst hm
  refine Ev.step (f := fun k => spec_l1Read.l0 k l (acc ++ [m]) (a + n)) (fun k => ?_) hj
  simp only [spec_l1Read.l2]; rw [if_neg (by omega), if_pos (by omega), w64 (by omega) (by omega)]
 | succ d ih =>
  intro c x h1 hd h4 m hm _ hx0 hx1 hj
  have e1 : wrap64 (a + c) = a + c := w64 (by omega) (by omega)
  have hlt : a + c < l.length := by omega
  rw [drop_cons (by omega) hlt] at hm
  have hb := rd_bytes hw (a + c)
  simp only [vl] at hm
  have hL : lim (d + 1) ≤ 4294967296 ∧ 64 * lim (d + 1) + 255 ≤ lim d := by
   have : d = 0 ∨ d = 1 ∨ d = 2 := by omega
   rcases this with rfl | rfl | rfl <;> simp [lim]
  refine Ev.step (f := fun k => spec_l1Read.l2 k l acc a n (64 * x + rd l (a + c) - 128) ((c + 1 : Nat) : Int)) (fun k => ?_) (ih (c + 1) _ (by omega) (by omega) h4 m ?_ (.inr trivial) (by omega) (by omega) hj)
  ·simp only [spec_l1Read.l2, e1]
   rw [w64 (x := rd l (a + c)) (by omega) (by omega), w64 (x := 64 * x) (by omega) (by omega), w64 (x := 64 * x + _) (by omega) (by omega), w64 (x := _ - 128) (by omega) (by omega), w64 (x := (c : Int) + 1) (by omega) (by omega), if_pos (by omega), if_pos (by omega), if_pos hlt]; rfl
  ·rw [hm, show a + ((c + 1 : Nat) : Int) = a + c + 1 by omega]
theorem l1Read_l0 (l : List Int) (hl : l.length ≤ 1000000000) (hw : ∀ x ∈ l, (Lit.int .u8 x).wf = true) : ∀ (d : Nat) (a : Int) (acc : List Int), 0 ≤ a → a ≤ l.length → l.length - a ≤ d → acc.length ≤ a →
 Ev (fun k => spec_l1Read.l0 k l acc a) (acc ++ urAll (l.drop a.toNat)) := by
 intro d
 induction d with
 | zero =>
  intro a acc h0 h1 h2 h3
  refine Ev.step (f := fun _ => some acc) (fun k => ?_) (ev_some ?_)
  ·simp only [spec_l1Read.l0]; rw [if_neg (by omega)]
  ·rw [List.drop_of_length_le (by omega)]; simp [urAll, ur]
 | succ d ih =>
  intro a acc h0 h1 h2 h3
  by_cases hlt : a < l.length
  ·have hb := rd_bytes hw a
   have hr := readPt_n (rd l a) (l.drop (a + 1).toNat)
   have hcons := drop_cons h0 hlt
   have hmk := mk_le (formN (rd l a) - 1) (l.drop (a + 1).toNat) (low1 (rd l a)) (high1 (rd l a))
   have hf4 := formN_le (rd l a)
   have hlen : (l.drop (a + 1).toNat).length = l.length - a.toNat - 1 := by rw [List.length_drop]; omega
   rw [hlen] at hmk
   rw [hcons, urAll_cons, ← hcons]
   have hdd : ∀ m : Nat, (l.drop a.toNat).drop m = l.drop (a + m).toNat := fun m => by rw [List.drop_drop]; congr 1; omega
   rw [hdd]
   have key : Ev (fun k => spec_l1Read.l0 k l (acc ++ [(readPt (l.drop a.toNat)).1]) (a + ((readPt (l.drop a.toNat)).2 : Int))) (acc ++ (readPt (l.drop a.toNat)).1 :: urAll (l.drop (a + ((readPt (l.drop a.toNat)).2 : Int)).toNat)) := by
    rw [← hcons] at hr
    rw [List.length_drop] at hr
    have := ih (a + ((readPt (l.drop a.toNat)).2 : Int)) (acc ++ [(readPt (l.drop a.toNat)).1]) (by omega) (by omega) (by omega) (by simp; omega)
    simpa using this
   generalize hres : acc ++ (readPt (l.drop a.toNat)).1 :: urAll (l.drop (a + ((readPt (l.drop a.toNat)).2 : Int)).toNat) = res at *
   rw [hcons] at key
   simp only [readPt] at key
   refine Ev.step (f := fun k => spec_l1Read.l1 k l acc a (rd l a) (formN (rd l a) : Int) ((1 : Nat) : Int)) (fun k => ?_) ?_
   ·simp only [spec_l1Read.l0, l1Forms_eq, Option.bind_some]; rw [if_pos hlt, if_pos h0, w64 (x := rd l a) (by omega) (by omega)]; rfl
   by_cases hz : formN (rd l a) = 0
   ·rw [if_pos hz] at key
    refine Ev.step (f := fun k => spec_l1Read.j2 k l acc a (rd l a) (formN (rd l a) : Int) 1) (fun k => ?_) (Ev.step (f := fun k => spec_l1Read.j3 k l acc a (rd l a) (formN (rd l a) : Int) 1 true) (fun k => ?_) (Ev.step (fun k => ?_) key))
    ·simp only [spec_l1Read.l1]; rw [if_neg (by omega)]; rfl
    ·simp only [spec_l1Read.j2]; rw [if_pos (by omega)]
    ·simp only [spec_l1Read.j3, if_true]; rw [if_pos (by omega), w64 (by omega) (by omega)]; rfl
   ·rw [if_neg hz] at key
    refine l1Read_l1 l acc hl hw a _ h0 hlt (rd l a) res (formN (rd l a) - 1) 1 (by omega) (by omega) (by omega) (mk (formN (rd l a) - 1) (l.drop (a + 1).toNat) (low1 (rd l a)) (high1 (rd l a))) rfl ?_
    generalize hm : mk (formN (rd l a) - 1) (l.drop (a + 1).toNat) (low1 (rd l a)) (high1 (rd l a)) = m at *
    by_cases hs : m < formN (rd l a) - 1
    ·rw [if_pos hs] at key
     refine Ev.step (f := fun k => spec_l1Read.j3 k l acc a (rd l a) (formN (rd l a) : Int) ((1 + m : Nat) : Int) true) (fun k => ?_) (Ev.step (fun k => ?_) key)
     ·simp only [spec_l1Read.j2]; rw [if_neg (by omega), decide_eq_true (by omega)]
     ·simp only [spec_l1Read.j3, if_true]; rw [if_pos (by omega), w64 (by omega) (by omega), Nat.add_comm 1 m]
    ·rw [if_neg hs] at key
     refine Ev.step (f := fun k => spec_l1Read.j3 k l acc a (rd l a) (formN (rd l a) : Int) ((1 + m : Nat) : Int) false) (fun k => ?_) (Ev.step (f := fun k => spec_l1Read.j4 k l acc a (formN (rd l a) : Int) (formX (rd l a))) (fun k => ?_) (Ev.step (f := fun k => spec_l1Read.l2 k l acc a (formN (rd l a) : Int) (formX (rd l a)) ((1 : Nat) : Int)) (fun k => ?_) ?_))
     ·simp only [spec_l1Read.j2]; rw [if_neg (by omega), decide_eq_false (by omega)]
     ·simp only [spec_l1Read.j3, Bool.false_eq_true, if_false]
      have : formN (rd l a) = 1 ∧ rd l a < 128 ∨ formN (rd l a) = 2 ∧ 194 ≤ rd l a ∧ rd l a ≤ 223 ∨ formN (rd l a) = 3 ∧ 224 ≤ rd l a ∧ rd l a ≤ 239 ∨ formN (rd l a) = 4 ∧ 240 ≤ rd l a ∧ rd l a ≤ 244 := by
       unfold formN at hz ⊢
       by_cases a1 : rd l a < 128
       ·simp [a1]
       ·by_cases a2 : 194 ≤ rd l a ∧ rd l a ≤ 223
        ·simp [a1, a2]
        ·by_cases a3 : 224 ≤ rd l a ∧ rd l a ≤ 239
         ·simp [a1, a2, a3]
         ·by_cases a4 : 240 ≤ rd l a ∧ rd l a ≤ 244
          ·simp [a1, a2, a3, a4]
          ·simp [a1, a2, a3, a4] at hz
      have hx : formN (rd l a) = 1 ∧ formX (rd l a) = rd l a ∨ formN (rd l a) = 2 ∧ formX (rd l a) = rd l a - 192 ∨ formN (rd l a) = 3 ∧ formX (rd l a) = rd l a - 224 ∨ formN (rd l a) = 4 ∧ formX (rd l a) = rd l a - 240 := by
       unfold formX
       rcases this with ⟨h, g⟩ | ⟨h, g, g'⟩ | ⟨h, g, g'⟩ | ⟨h, g, g'⟩
       ·exact .inl ⟨h, by rw [if_pos g]⟩
       ·exact .inr (.inl ⟨h, by rw [if_neg (by omega), if_pos (by omega)]⟩)
       ·exact .inr (.inr (.inl ⟨h, by rw [if_neg (by omega), if_neg (by omega), if_pos (by omega)]⟩))
       ·exact .inr (.inr (.inr ⟨h, by rw [if_neg (by omega), if_neg (by omega), if_neg (by omega)]⟩))
      rcases hx with ⟨h, g⟩ | ⟨h, g⟩ | ⟨h, g⟩ | ⟨h, g⟩
      ·rw [h, g]; rfl
      ·rw [h, g, w64 (x := rd l a - 192) (by omega) (by omega)]; rfl
      ·rw [h, g, w64 (x := rd l a - 224) (by omega) (by omega)]; rfl
      ·rw [h, g, w64 (x := rd l a - 240) (by omega) (by omega)]; rfl
     ·simp only [spec_l1Read.j4]; rfl
     ·have hX : -255 ≤ formX (rd l a) ∧ formX (rd l a) ≤ 255 := by
       unfold formX; split
       ·omega
       ·split
        ·omega
        ·split <;> omega
      have hL : 255 ≤ lim (formN (rd l a) - 1) := by
       unfold lim; split <;> omega
      exact l1Read_l2 l acc hl (by omega) hw a _ h0 (by omega) res (formN (rd l a) - 1) 1 (formX (rd l a)) (by omega) (by omega) (by omega) _ rfl (.inr trivial) (by omega) (by omega) key
  ·refine Ev.step (f := fun _ => some acc) (fun k => ?_) (ev_some ?_)
   ·simp only [spec_l1Read.l0]; rw [if_neg hlt]
   ·rw [List.drop_of_length_le (by omega)]; simp [urAll, ur]
theorem l1Read_ev (l : List Int) (hl : l.length ≤ 1000000000) (hw : ∀ x ∈ l, (Lit.int .u8 x).wf = true) : Ev (fun k => spec_l1Read.f k l) (urAll l) := by
 unfold spec_l1Read.f
 simpa using l1Read_l0 l hl hw l.length 0 [] (by omega) (by omega) (by omega) (by simp)
theorem spec_UtfRead_ev (l : List Int) (hw : ∀ x ∈ l, (Lit.int .u8 x).wf = true) : Ev (fun k => spec_UtfRead.f k l) (utfRead l) := by
 unfold spec_UtfRead.f utfRead
 by_cases h : (l.length : Int) > 3000
 ·simp only [if_pos h]; exact Ev.now _
 simp only [if_neg h]
 have hj : ∀ c : Bool, (c = true → 3 ≤ l.length) → Ev (fun k => spec_UtfRead.j0 k l c) (urAll (if c = true then l.drop 3 else l)) := by
  intro c hc
  refine ev_succ ?_
  simp only [spec_UtfRead.j0]
  cases c with
  | true => exact ev_pos rfl (ev_pos (by have := hc rfl; omega) (Ev.bind (l1Read_ev _ (by simp only [List.length_drop]; omega) (wf_drop hw 3)) (Ev.now _)))
  | false => exact ev_neg (by simp) (Ev.bind (l1Read_ev l (by omega) hw) (Ev.now _))
 by_cases h3 : l.length ≥ 3
 ·obtain ⟨a, b, c, r, rfl⟩ : ∃ a b c r, l = a :: b :: c :: r := by
   match l, h3 with
   | a :: b :: c :: r, _ => exact ⟨a, b, c, r, rfl⟩
  have e0 : rd (a :: b :: c :: r) 0 = a := rfl
  have e1 : rd (a :: b :: c :: r) 1 = b := rfl
  have e2 : rd (a :: b :: c :: r) 2 = c := rfl
  refine ev_pos (by omega) (ev_pos (by simp only [List.length_cons]; omega) ?_)
  simp only [e0, e1, e2]
  have hu : unBom (a :: b :: c :: r) = if (decide (a = 239) && decide (b = 187) && decide (c = 191)) = true then (a :: b :: c :: r).drop 3 else a :: b :: c :: r := by
   unfold unBom
   have : (a :: b :: c :: r).take 3 = [a, b, c] := rfl
   rw [this]
   by_cases g : a = 239 ∧ b = 187 ∧ c = 191
   ·obtain ⟨rfl, rfl, rfl⟩ := g; simp
   ·rw [if_neg (by simpa using g), if_neg (by simpa [and_assoc] using g)]
  rw [hu]
  by_cases g1 : a = 239
  ·refine ev_pos g1 (ev_pos (by simp only [List.length_cons]; omega) ?_)
   by_cases g2 : b = 187
   ·refine ev_pos g2 (ev_pos (by simp only [List.length_cons]; omega) ?_)
    have := hj (c == 191) (fun _ => h3)
    rw [show (decide (a = 239) && decide (b = 187) && decide (c = 191)) = (c == 191) by simp [g1, g2]; rfl]
    exact this
   ·refine ev_neg g2 ?_
    rw [show (decide (a = 239) && decide (b = 187) && decide (c = 191)) = false by simp [g2]]
    exact hj false (by simp)
  ·refine ev_neg g1 ?_
   rw [show (decide (a = 239) && decide (b = 187) && decide (c = 191)) = false by simp [g1]]
   exact hj false (by simp)
 ·refine ev_neg (by omega) ?_
  have : unBom l = l := by
   unfold unBom; rw [if_neg]
   intro g; have := congrArg List.length g; simp at this; omega
  rw [this]
  exact hj false (by simp)
theorem byte_inj {a b : Int} (ha : 0 ≤ a ∧ a ≤ 255) (hb : 0 ≤ b ∧ b ≤ 255) (h : UInt8.ofNat a.toNat = UInt8.ofNat b.toNat) : a = b := by
 have := congrArg UInt8.toNat h
 simp only [UInt8.toNat_ofNat'] at this
 omega
theorem bytes_inj : ∀ (l m : List Int), (∀ x ∈ l, (Lit.int .u8 x).wf = true) → (∀ x ∈ m, (Lit.int .u8 x).wf = true) → Lib.bytesOf l = Lib.bytesOf m → l = m
 | [], [], _, _, _ => rfl
 | [], b :: m, _, _, h => by simp [Lib.bytesOf] at h
 | a :: l, [], _, _, h => by simp [Lib.bytesOf] at h
 | a :: l, b :: m, hl, hm, h => by
  simp only [Lib.bytesOf, List.map_cons, List.cons.injEq] at h
  have e1 := byte_inj (wf8 (hl a (by simp))) (wf8 (hm b (by simp))) h.1
  have e2 := bytes_inj l m (fun x hx => hl x (by simp [hx])) (fun x hx => hm x (by simp [hx])) h.2
  rw [e1, e2]
theorem nums_eq (l m : List Int) (hl : ∀ x ∈ l, (Lit.int .u8 x).wf = true) (hm : ∀ x ∈ m, (Lit.int .u8 x).wf = true) : ((strOfNums l).toList == (strOfNums m).toList) = decide (l = m) := by
 rw [Lib.strOfNums_toList, Lib.strOfNums_toList]
 by_cases h : l = m
 ·subst h; simp
 ·have : Lib.bytesOf l ≠ Lib.bytesOf m := fun e => h (bytes_inj l m hl hm e)
  simp [h, this]
theorem and31 {x : Int} (h0 : 0 ≤ x) (h1 : x ≤ 255) : Go.bits .and .u8 x 31 = x % 32 := bits_mask .u8 8 (by decide) wraps_u8 5 (by decide) x h0 (by omega)
theorem and15 {x : Int} (h0 : 0 ≤ x) (h1 : x ≤ 255) : Go.bits .and .u8 x 15 = x % 16 := bits_mask .u8 8 (by decide) wraps_u8 4 (by decide) x h0 (by omega)
theorem and7 {x : Int} (h0 : 0 ≤ x) (h1 : x ≤ 255) : Go.bits .and .u8 x 7 = x % 8 := bits_mask .u8 8 (by decide) wraps_u8 3 (by decide) x h0 (by omega)
theorem and63b {x : Int} (h0 : 0 ≤ x) (h1 : x ≤ 255) : Go.bits .and .u8 x 63 = x % 64 := bits_mask .u8 8 (by decide) wraps_u8 6 (by decide) x h0 (by omega)
theorem or6 {x y : Int} (h0 : 0 ≤ x) (h1 : x ≤ 4294967296) (h2 : 0 ≤ y) (h3 : y < 64) : Go.bits .or .i64 (x * 64) y = x * 64 + y :=
 bits_join .i64 63 (by decide) wraps_i64 6 (x * 64) y (by omega) (by omega) (by omega) h2 h3 (by omega)
theorem wf_unBom {l : List Int} (hw : ∀ x ∈ l, (Lit.int .u8 x).wf = true) : ∀ x ∈ unBom l, (Lit.int .u8 x).wf = true := by
 unfold unBom; split
 ·exact wf_drop hw 3
 ·exact hw
theorem impl_inRange_eq (x a b : Int) : impl_inRange.f x a b = some (decide (a ≤ x ∧ x ≤ b)) := by
 unfold impl_inRange.f
 by_cases h : x ≥ a
 ·rw [if_pos h]; congr 1; simp; omega
 ·rw [if_neg h]; congr 1; simp; omega
theorem impl_PointOk_eq (x : Int) : impl_PointOk.f x = some (pointOk x) := by
 unfold impl_PointOk.f pointOk
 simp only [impl_inRange_eq, Option.bind_some]
 by_cases h : 0 ≤ x ∧ x ≤ 1114111 <;> simp [h]
theorem impl_putPoint_good (k : Nat) (l : List Int) (x : Int) (hl : l.length + 4 < 140737488355328) (hp : pointOk x = true) : impl_putPoint.f (k + 1) l x = some (l ++ utf8 x) := by
 obtain ⟨h0, h1⟩ := ((pointOk_iff x).1 hp).1
 simp only [impl_putPoint.f, impl_PointOk_eq, Option.bind_some, hp, if_true]
 unfold utf8
 by_cases a : x < 128
 ·simp only [if_pos a]; rw [if_pos (by omega), Int.emod_eq_of_lt h0 (by omega)]
 ·by_cases b : x < 2048
  ·simp only [if_neg a, if_pos b, List.length_cons, List.length_nil]
   rw [if_pos (by omega), and63 h0 (by omega), or192 (by omega) (by omega), or128 (by omega) (by omega), m256 (y := 192 + x / 64) (by omega) (by omega), m256 (y := 128 + x % 64) (by omega) (by omega)]
  ·by_cases c : x < 65536
   ·simp only [if_neg a, if_neg b, if_pos c, List.length_cons, List.length_nil]
    rw [if_pos (by omega), and63 (x := x / 64) (by omega) (by omega), and63 h0 (by omega), or224 (by omega) (by omega), or128 (by omega) (by omega), or128 (by omega) (by omega), m256 (y := 224 + x / 4096) (by omega) (by omega), m256 (y := 128 + x / 64 % 64) (by omega) (by omega), m256 (y := 128 + x % 64) (by omega) (by omega)]
   ·simp only [if_neg a, if_neg b, if_neg c, List.length_cons, List.length_nil]
    rw [if_pos (by omega), and63 (x := x / 64) (by omega) (by omega), and63 (x := x / 4096) (by omega) (by omega), and63 h0 (by omega), or240 (by omega) (by omega), or128 (by omega) (by omega), or128 (by omega) (by omega), or128 (by omega) (by omega), m256 (y := 240 + x / 262144) (by omega) (by omega), m256 (y := 128 + x / 4096 % 64) (by omega) (by omega), m256 (y := 128 + x / 64 % 64) (by omega) (by omega), m256 (y := 128 + x % 64) (by omega) (by omega)]
theorem impl_putPoint_eq (k : Nat) (l : List Int) (x : Int) (hl : l.length + 4 < 140737488355328) : impl_putPoint.f (k + 2) l x = some (l ++ pointPut x) := by
 unfold pointPut point
 by_cases hp : pointOk x = true
 ·rw [if_pos hp]; exact impl_putPoint_good (k + 1) l x hl hp
 ·rw [if_neg hp]
  have : pointOk x = false := by simpa using hp
  simp only [impl_putPoint.f, impl_PointOk_eq, Option.bind_some, this, Bool.false_eq_true, if_false]
  have h := impl_putPoint_good k l 65533 hl (by decide)
  simp only [impl_putPoint.f, impl_PointOk_eq, Option.bind_some] at h
  rw [h]; rfl
theorem impl_putPoint_ev (l : List Int) (x : Int) (hl : l.length + 4 < 140737488355328) : Ev (fun k => impl_putPoint.f k l x) (l ++ pointPut x) :=
 ⟨2, fun k hk => by
  obtain ⟨m, rfl⟩ : ∃ m, k = m + 2 := ⟨k - 2, by omega⟩
  exact impl_putPoint_eq m l x hl⟩
theorem impl_PointsPut_l (l : List Int) (hl : l.length ≤ 3000) : ∀ (d : Nat) (i : Int) (acc : List Int), 0 ≤ i → i + d = l.length → acc.length + 4 * d ≤ 100000 →
 Ev (fun k => impl_PointsPut.l0 k acc l (l.length : Int) i) (acc ++ putAll (l.drop i.toNat)) := by
 intro d
 induction d with
 | zero =>
  intro i acc h0 h ha
  refine Ev.step (f := fun _ => some acc) (fun k => ?_) (ev_some ?_)
  ·simp only [impl_PointsPut.l0]; rw [if_neg (by omega)]
  ·rw [List.drop_of_length_le (by omega)]; simp [putAll]
 | succ d ih =>
  intro i acc h0 h ha
  have hp := pointPut_len (rd l i)
  refine Ev.step (f := fun k => (impl_putPoint.f k acc (rd l i)).bind fun t => impl_PointsPut.l0 k t l (l.length : Int) (i + 1)) (fun k => ?_) (Ev.bind (impl_putPoint_ev acc (rd l i) (by omega)) ?_)
  ·simp only [impl_PointsPut.l0]; rw [if_pos (by omega), if_pos h0, if_pos (by omega), w64 (by omega) (by omega)]
  ·have := ih (i + 1) (acc ++ pointPut (rd l i)) (by omega) (by omega) (by simp; omega)
   rw [drop_cons h0 (by omega)]
   simpa [putAll] using this
def pointsPut (l : List Int) : List Int := if (l.length : Int) > 3000 then [] else putAll l
theorem impl_PointsPut_ev (l : List Int) : Ev (fun k => impl_PointsPut.f k l) (pointsPut l) := by
 unfold impl_PointsPut.f pointsPut
 by_cases h : (l.length : Int) > 3000
 ·simp only [if_pos h]; exact Ev.now _
 ·simp only [if_neg h]
  simpa using impl_PointsPut_l l (by omega) l.length 0 [] (by omega) (by omega) (by simp; omega)
theorem spec_PointOk_eq (x : Int) : spec_PointOk.f x = some (pointOk x) := by
 unfold spec_PointOk.f pointOk
 simp only [spec_l1In_eq, Option.bind_some]
 by_cases h : 0 ≤ x ∧ x ≤ 1114111 <;> simp [h]
theorem spec_l1Point_eq (x : Int) : spec_l1Point.f x = some (point x) := by
 unfold spec_l1Point.f point
 simp only [spec_PointOk_eq, Option.bind_some]
 split <;> rfl
theorem spec_PointPut_eq (x : Int) : spec_PointPut.f x = some (pointPut x) := by
 unfold spec_PointPut.f pointPut utf8
 simp only [spec_l1Point_eq, Option.bind_some]
 obtain ⟨h0, h1⟩ := point_range x
 generalize point x = p at *
 by_cases a : p < 128
 ·simp only [if_pos a]; congr 2; omega
 ·by_cases b : p < 2048
  ·simp only [if_neg a, if_pos b, Int.tdiv_eq_ediv_of_nonneg h0, Int.tmod_eq_emod_of_nonneg h0]
   rw [w64 (x := p / 64) (by omega) (by omega), w64 (by omega) (by omega), w64 (by omega) (by omega), m256 (y := 192 + p / 64) (by omega) (by omega), m256 (y := 128 + p % 64) (by omega) (by omega)]
  ·by_cases c : p < 65536
   ·simp only [if_neg a, if_neg b, if_pos c, Int.tdiv_eq_ediv_of_nonneg h0, Int.tmod_eq_emod_of_nonneg h0]
    rw [w64 (x := p / 64) (by omega) (by omega), w64 (x := p / 4096) (by omega) (by omega), Int.tmod_eq_emod_of_nonneg (by omega), w64 (by omega) (by omega), w64 (by omega) (by omega), w64 (by omega) (by omega), m256 (y := 224 + p / 4096) (by omega) (by omega), m256 (y := 128 + p / 64 % 64) (by omega) (by omega), m256 (y := 128 + p % 64) (by omega) (by omega)]
   ·simp only [if_neg a, if_neg b, if_neg c, Int.tdiv_eq_ediv_of_nonneg h0, Int.tmod_eq_emod_of_nonneg h0]
    rw [w64 (x := p / 64) (by omega) (by omega), w64 (x := p / 4096) (by omega) (by omega), w64 (x := p / 262144) (by omega) (by omega), Int.tmod_eq_emod_of_nonneg (by omega), Int.tmod_eq_emod_of_nonneg (by omega), w64 (by omega) (by omega), w64 (by omega) (by omega), w64 (by omega) (by omega), w64 (by omega) (by omega), m256 (y := 240 + p / 262144) (by omega) (by omega), m256 (y := 128 + p / 4096 % 64) (by omega) (by omega), m256 (y := 128 + p / 64 % 64) (by omega) (by omega), m256 (y := 128 + p % 64) (by omega) (by omega)]
theorem spec_l1Put_l (l : List Int) (hl : l.length ≤ 1000000) : ∀ (d : Nat) (i : Int) (acc : List Int), 0 ≤ i → i + d = l.length → acc.length + 4 * d ≤ 100000000 →
 Ev (fun k => spec_l1Put.l0 k l acc i) (acc ++ putAll (l.drop i.toNat)) := by
 intro d
 induction d with
 | zero =>
  intro i acc h0 h ha
  refine Ev.step (f := fun _ => some acc) (fun k => ?_) (ev_some ?_)
  ·simp only [spec_l1Put.l0]; rw [if_neg (by omega)]
  ·rw [List.drop_of_length_le (by omega)]; simp [putAll]
 | succ d ih =>
  intro i acc h0 h ha
  have hp := pointPut_len (rd l i)
  refine Ev.step (f := fun k => spec_l1Put.l0 k l (acc ++ pointPut (rd l i)) (i + 1)) (fun k => ?_) ?_
  ·simp only [spec_l1Put.l0, spec_PointPut_eq, Option.bind_some]; rw [if_pos (by omega), if_pos h0, if_pos (by omega), w64 (by omega) (by omega)]
  ·have := ih (i + 1) (acc ++ pointPut (rd l i)) (by omega) (by omega) (by simp; omega)
   rw [drop_cons h0 (by omega)]
   simpa [putAll] using this
theorem spec_l1Put_ev (l : List Int) (hl : l.length ≤ 1000000) : Ev (fun k => spec_l1Put.f k l) (putAll l) := by
 unfold spec_l1Put.f
 simpa using spec_l1Put_l l hl l.length 0 [] (by omega) (by omega) (by simp; omega)
theorem spec_PointsPut_ev (l : List Int) : Ev (fun k => spec_PointsPut.f k l) (if (l.length : Int) > 3000 then [] else putAll l) := by
 unfold spec_PointsPut.f
 by_cases h : (l.length : Int) > 3000
 ·simp only [if_pos h]; exact Ev.now _
 ·simp only [if_neg h]
  exact Ev.bind (spec_l1Put_ev l (by omega)) (Ev.now _)
theorem wf_of8 {x : Int} (h : 0 ≤ x ∧ x ≤ 255) : (Lit.int .u8 x).wf = true := by
 simp only [Lit.wf, Bool.and_eq_true, decide_eq_true_eq]; exact h
theorem putAll_wf (l : List Int) : ∀ x ∈ putAll l, (Lit.int .u8 x).wf = true := by
 intro x hx
 simp only [putAll, List.mem_flatMap] at hx
 obtain ⟨a, _, hx⟩ := hx
 exact wf_of8 (utf8_bytes (point_range a).1 (point_range a).2 x hx)
theorem pointsPut_wf (l : List Int) : ∀ x ∈ pointsPut l, (Lit.int .u8 x).wf = true := by
 unfold pointsPut; split
 ·simp
 ·exact putAll_wf l
def utfOk (l : List Int) : Bool := decide (l.length ≤ 3000) && decide (pointsPut (utfRead l) = l)
theorem spec_UtfOk_ev (l : List Int) (hw : ∀ x ∈ l, (Lit.int .u8 x).wf = true) : Ev (fun k => spec_UtfOk.f k l) (utfOk l) := by
 unfold spec_UtfOk.f utfOk
 by_cases h : (l.length : Int) ≤ 3000
 ·refine ev_pos h (Ev.bind (spec_UtfRead_ev l hw) (Ev.bind (spec_PointsPut_ev _) (ev_some ?_)))
  show (_ == _) = _
  have e : (if ((utfRead l).length : Int) > 3000 then [] else putAll (utfRead l)) = pointsPut (utfRead l) := rfl
  rw [e, nums_eq _ _ (pointsPut_wf _) hw, decide_eq_true (show l.length ≤ 3000 by omega), Bool.true_and]
 ·exact ev_neg h (ev_some (by rw [decide_eq_false (show ¬ l.length ≤ 3000 by omega), Bool.false_and]))
theorem utfOk_noBom {b : List Int} (hw : ∀ x ∈ b, 0 ≤ x) (h : utfOk b = true) : utfRead b = urAll b := by
 unfold utfOk at h
 simp only [Bool.and_eq_true, decide_eq_true_eq] at h
 obtain ⟨h1, h2⟩ := h
 unfold utfRead at h2 ⊢
 rw [if_neg (by omega)] at h2 ⊢
 by_cases c : b.take 3 = [239, 187, 191]
 ·exfalso
  have hu : unBom b = b.drop 3 := by unfold unBom; rw [if_pos c]
  rw [hu] at h2
  have hb : b = 239 :: 187 :: 191 :: b.drop 3 := by
   have := (List.take_append_drop 3 b).symm
   rw [c] at this; exact this
  generalize hx : b.drop 3 = x at h2 hb
  have hok : ∀ y ∈ urAll x, pointOk y = true := urAll_ok x (fun y hy => hw y (by rw [← hx] at hy; exact List.mem_of_mem_drop hy))
  have hlen := urAll_len x
  have hxl : x.length ≤ b.length := by rw [← hx]; simp
  have hp : pointsPut (urAll x) = Y.putAll (urAll x) := by unfold pointsPut; rw [if_neg (by omega)]
  rw [hp] at h2
  cases hq : urAll x with
  | nil =>
   rw [hq, hb] at h2
   simp [Y.putAll] at h2
  | cons q ps =>
   rw [hq] at h2 hok
   have hqo := hok q (by simp)
   have e : Y.putAll (q :: ps) = utf8 q ++ Y.putAll ps := by simp [Y.putAll, pointPut, point_of hqo]
   have r1 := readPt_utf8 q (Y.putAll ps) hqo
   rw [← e, h2, hb] at r1
   have r3 : readPt (239 :: 187 :: 191 :: x) = (65279, 3) := by
    simp only [readPt]
    have f : formN 239 = 3 := by decide
    rw [f]
    simp [mk, vl, low1, high1, formX]
   rw [r3] at r1
   simp only [Prod.mk.injEq] at r1
   have hq9 : q = 65279 := r1.1.symm
   subst hq9
   have e8 : utf8 65279 = [239, 187, 191] := by decide
   rw [e, e8, hb] at h2
   have h3 : Y.putAll ps = x := by simpa using h2
   have h4 := urAll_put ps (fun y hy => hok y (by simp [hy]))
   rw [h3, hq] at h4
   have := congrArg List.length h4
   simp at this
 ·unfold unBom; rw [if_neg c]
def refNumber (x : Int) : Int := if x = 0 ∨ x < 0 ∨ 1114111 < x ∨ (55296 ≤ x ∧ x ≤ 57343) then 65533 else if 128 ≤ x ∧ x ≤ 159 then refTab.getD (x - 128).toNat 0 else x
theorem impl_RefNumber_eq (x : Int) : impl_RefNumber.f x = some (refNumber x) := rfl
theorem refTab_ok : ∀ n, n < 32 → pointOk (refTab.getD n 0) = true ∧ refTab.getD n 0 ≠ 0 := by decide
theorem refNumber_ok (x : Int) : pointOk (refNumber x) = true ∧ refNumber x ≠ 0 := by
 unfold refNumber
 split
 ·decide
 ·split
  ·exact refTab_ok _ (by omega)
  ·refine ⟨?_, by omega⟩
   rw [pointOk_iff]; omega
theorem refNumber_id {x : Int} (h : pointOk x = true) (h0 : x ≠ 0) (h1 : ¬ (128 ≤ x ∧ x ≤ 159)) : refNumber x = x := by
 rw [pointOk_iff] at h
 unfold refNumber; rw [if_neg (by omega), if_neg h1]
def digitOf (x b : Int) : Int :=
 if b ≠ 10 ∧ b ≠ 16 then -1 else if 48 ≤ x ∧ x ≤ 57 then x - 48 else if b = 16 ∧ 65 ≤ x ∧ x ≤ 70 then x - 55 else if b = 16 ∧ 97 ≤ x ∧ x ≤ 102 then x - 87 else -1
def isAlpha (x : Int) : Bool := decide (65 ≤ x ∧ x ≤ 90) || decide (97 ≤ x ∧ x ≤ 122)
def lowerOf (x : Int) : Int := if 65 ≤ x ∧ x ≤ 90 then x + 32 else x
def numAt (l : List Int) (j : Int) : Int := if 0 ≤ j ∧ j < l.length then rd l j else -1
def digs (l : List Int) (b : Int) : Nat → Int → Int → Int → Int × Int × Int
 | 0, at_, x, c => (x, c, at_)
 | n + 1, at_, x, c =>
  if digitOf (numAt l at_) b ≥ 0 then digs l b n (at_ + 1) (if (if 0 < c ∨ 0 < digitOf (numAt l at_) b then c + 1 else c) ≤ 7 then b * x + digitOf (numAt l at_) b else x) (if 0 < c ∨ 0 < digitOf (numAt l at_) b then c + 1 else c) else (x, c, at_)
def refBase (l : List Int) (a : Int) : Int := if numAt l a = 120 ∨ numAt l a = 88 then 16 else 10
def refFrom (l : List Int) (a : Int) : Int := if numAt l a = 120 ∨ numAt l a = 88 then a + 1 else a
def refDig (l : List Int) (a : Int) : Int × Int :=
 if (digs l (refBase l a) l.length (refFrom l a) 0 0).2.2 = refFrom l a then (0, 0) else
  (refNumber (if (digs l (refBase l a) l.length (refFrom l a) 0 0).2.1 > 7 then 1114112 else (digs l (refBase l a) l.length (refFrom l a) 0 0).1),
   if numAt l (digs l (refBase l a) l.length (refFrom l a) 0 0).2.2 = 59 then (digs l (refBase l a) l.length (refFrom l a) 0 0).2.2 + 1 else (digs l (refBase l a) l.length (refFrom l a) 0 0).2.2)
def stands (l : List Int) (j : Int) : List Int → Bool
 | [] => true
 | b :: r => decide (numAt l j = b) && stands l (j + 1) r
def refList : List S54 := (impl_Refs.f).getD []
theorem refList_is : impl_Refs.f = some refList := rfl
theorem refList_len : refList.length = 24 := by decide
def pick (l : List Int) (j : Int) (cur : ByteArray × Int) (r : S54) : ByteArray × Int := if r.f0.size > cur.1.size ∧ stands l j (bytesOf r.f0) = true then (r.f0, r.f1) else cur
def best (l : List Int) (j : Int) : ByteArray × Int := refList.foldl (pick l j) (⟨#[]⟩, 0)
def goesOn (x : Int) : Bool := decide (x = 61) || isAlpha x || decide (digitOf x 10 ≥ 0)
def refNam (l : List Int) (j : Int) (v : Bool) : Int × Int :=
 if (best l j).1.size = 0 then (0, 0) else
 if v = true ∧ goesOn (numAt l (j + (best l j).1.size)) = true ∧ bt (best l j).1 ((best l j).1.size - 1) ≠ 59 then (0, 0) else ((best l j).2, j + (best l j).1.size)
def refOf (l : List Int) (a : Int) (v : Bool) : Int × Int := if numAt l (a + 1) = 35 then refDig l (a + 2) else refNam l (a + 1) v
def refRead (l : List Int) (a : Int) (v : Bool) : List Int × Int :=
 if (l.length : Int) > 3000 ∨ numAt l a ≠ 38 then ([], a) else if (refOf l a v).2 > 0 then ([(refOf l a v).1], (refOf l a v).2) else ([38], a + 1)
theorem numAt_in {l : List Int} {j : Int} (h0 : 0 ≤ j) (h : j < l.length) : numAt l j = rd l j := by unfold numAt; rw [if_pos ⟨h0, h⟩]
theorem numAt_out {l : List Int} {j : Int} (h : j < 0 ∨ (l.length : Int) ≤ j) : numAt l j = -1 := by unfold numAt; rw [if_neg (by omega)]
theorem digitOf_none (b : Int) : digitOf (-1) b = -1 := by unfold digitOf; split <;> simp
theorem digitOf_le {x b : Int} (hb : b = 10 ∨ b = 16) (h : digitOf x b ≥ 0) : digitOf x b ≤ b - 1 ∧ digitOf x b ≤ 15 := by
 unfold digitOf at h ⊢
 rw [if_neg (by omega)] at h ⊢
 split at h
 ·omega
 ·split at h
  ·omega
  ·split at h
   ·omega
   ·omega
theorem digs_in {l : List Int} {b j : Int} (h : digitOf (numAt l j) b ≥ 0) : 0 ≤ j ∧ j < l.length := by
 by_cases c : 0 ≤ j ∧ j < l.length
 ·exact c
 ·rw [numAt_out (by omega), digitOf_none] at h; omega
theorem digs_stop {l : List Int} {b a : Int} (h : ¬ digitOf (numAt l a) b ≥ 0) (n : Nat) (x c : Int) : digs l b n a x c = (x, c, a) := by
 cases n with
 | zero => rfl
 | succ n => simp only [digs]; rw [if_neg h]
theorem digs_go {l : List Int} {b a : Int} (h : digitOf (numAt l a) b ≥ 0) (n : Nat) (x c : Int) : digs l b (n + 1) a x c = digs l b n (a + 1) (if (if 0 < c ∨ 0 < digitOf (numAt l a) b then c + 1 else c) ≤ 7 then b * x + digitOf (numAt l a) b else x) (if 0 < c ∨ 0 < digitOf (numAt l a) b then c + 1 else c) := by
 simp only [digs]; rw [if_pos h]
theorem pow16 (n : Nat) (h : n ≤ 7) : 1 ≤ (16 : Int) ^ n ∧ (16 : Int) ^ n ≤ 268435456 := by
 have : n = 0 ∨ n = 1 ∨ n = 2 ∨ n = 3 ∨ n = 4 ∨ n = 5 ∨ n = 6 ∨ n = 7 := by omega
 rcases this with rfl | rfl | rfl | rfl | rfl | rfl | rfl | rfl <;> decide
def digInv (x c : Int) : Prop := 0 ≤ c ∧ 0 ≤ x ∧ x < 16 ^ (min c.toNat 7)
theorem digInv_bound {x c : Int} (h : digInv x c) : 0 ≤ x ∧ x < 268435456 ∧ 0 ≤ c := by
 have := pow16 (min c.toNat 7) (by omega)
 unfold digInv at h; omega
theorem digInv_step {x c d b : Int} (h : digInv x c) (hb : b = 10 ∨ b = 16) (hd0 : 0 ≤ d) (hd : d ≤ b - 1) (c' : Int) (hc : c' = if 0 < c ∨ 0 < d then c + 1 else c) : digInv (if c' ≤ 7 then b * x + d else x) c' := by
 obtain ⟨h0, h1, h2⟩ := h
 by_cases hz : 0 < c ∨ 0 < d
 ·rw [if_pos hz] at hc
  by_cases h7 : c' ≤ 7
  ·rw [if_pos h7]
   have e : min c'.toNat 7 = min c.toNat 7 + 1 := by omega
   refine ⟨by omega, ?_, ?_⟩
   ·rcases hb with rfl | rfl <;> omega
   ·rw [e, Int.pow_succ]
    generalize (16 : Int) ^ (min c.toNat 7) = p at *
    rcases hb with rfl | rfl <;> omega
  ·rw [if_neg h7]
   refine ⟨by omega, h1, ?_⟩
   have e : min c'.toNat 7 = min c.toNat 7 := by omega
   rw [e]; exact h2
 ·rw [if_neg hz] at hc
  subst hc
  have hc0 : c' = 0 := by omega
  subst hc0
  have hx : x = 0 := by
   have : min (0 : Int).toNat 7 = 0 := rfl
   rw [this] at h2
   have : (16 : Int) ^ 0 = 1 := rfl
   omega
  rw [if_pos (by omega), hx]
  refine ⟨by omega, by omega, ?_⟩
  have : min (0 : Int).toNat 7 = 0 := rfl
  rw [this]
  have : (16 : Int) ^ 0 = 1 := rfl
  omega
theorem impl_LowerOf_eq (x : Int) : impl_LowerOf.f x = some (lowerOf x) := by
 unfold impl_LowerOf.f lowerOf
 simp only [impl_inRange_eq, Option.bind_some]
 by_cases h : 65 ≤ x ∧ x ≤ 90
 ·simp only [h, and_self, decide_true, if_true]; rw [w64 (x := x - 65) (by omega) (by omega), w64 (by omega) (by omega)]; congr 1; omega
 ·simp [h]
theorem impl_DigitOf_eq (k : Nat) (x b : Int) : impl_DigitOf.f (k + 1) x b = some (digitOf x b) := by
 unfold impl_DigitOf.f digitOf
 simp only [impl_DigitOf.j0, impl_LowerOf_eq, impl_inRange_eq, Option.bind_some]
 by_cases h10 : b = 10
 ·subst h10
  by_cases h1 : 48 ≤ x ∧ x ≤ 57
  ·simp [h1]; exact w64 (by omega) (by omega)
  ·simp [h1]
 ·by_cases h16 : b = 16
  ·subst h16
   by_cases h1 : 48 ≤ x ∧ x ≤ 57
   ·simp [h1]; exact w64 (by omega) (by omega)
   ·by_cases h2 : 65 ≤ x ∧ x ≤ 70
    ·have e : lowerOf x = x + 32 := by unfold lowerOf; rw [if_pos (by omega)]
     have h4 : 97 ≤ x + 32 ∧ x + 32 ≤ 102 := by omega
     simp only [e]
     simp [h1, h2, h4]; rw [w64 (x := x + 32 - 97) (by omega) (by omega), w64 (by omega) (by omega)]; omega
    ·by_cases h3 : 97 ≤ x ∧ x ≤ 102
     ·have e : lowerOf x = x := by unfold lowerOf; rw [if_neg (by omega)]
      simp only [e]
      simp [h1, h2, h3]; rw [w64 (x := x - 97) (by omega) (by omega), w64 (by omega) (by omega)]; omega
     ·have h4 : ¬ (97 ≤ lowerOf x ∧ lowerOf x ≤ 102) := by unfold lowerOf; split <;> omega
      simp [h1, h2, h3, h4]
  ·simp [h10, h16]
theorem impl_DigitOf_ev (x b : Int) : Ev (fun k => impl_DigitOf.f k x b) (digitOf x b) :=
 ⟨1, fun k hk => by obtain ⟨m, rfl⟩ : ∃ m, k = m + 1 := ⟨k - 1, by omega⟩; exact impl_DigitOf_eq m x b⟩
theorem impl_pointAt_eq (l : List Int) (j : Int) (hl : l.length ≤ 100000) : impl_pointAt.f l j = some (numAt l j) := by
 unfold impl_pointAt.f numAt
 simp only [impl_inRange_eq, Option.bind_some]
 rw [w64 (by omega) (by omega)]
 by_cases h : 0 ≤ j ∧ j < l.length
 ·rw [decide_eq_true (by omega), if_pos rfl, if_pos h.1, if_pos h.2, if_pos h]
 ·rw [decide_eq_false (by omega), if_neg (by simp), if_neg h]
theorem readDigits_l0 (l : List Int) (b : Int) (hb : b = 10 ∨ b = 16) (hl : l.length ≤ 100000) : ∀ (d : Nat) (n : Nat) (a x c : Int), 0 ≤ a → (l.length : Int) - a ≤ d → d ≤ n → digInv x c → c ≤ a →
 Ev (fun k => impl_readDigits.l0 k l a b (if c > 7 then 1114112 else x) c) ((if (digs l b n a x c).2.1 > 7 then 1114112 else (digs l b n a x c).1), (digs l b n a x c).2.2) := by
 intro d
 induction d with
 | zero =>
  intro n a x c ha hd hn hi hca
  refine ev_succ ?_
  simp only [impl_readDigits.l0, impl_pointAt_eq l a hl, Option.bind_some]
  refine Ev.bind (impl_DigitOf_ev _ _) ?_
  have hno : ¬ digitOf (numAt l a) b ≥ 0 := fun h => by have := digs_in h; omega
  rw [digs_stop hno]
  exact ev_neg hno (Ev.now _)
 | succ d ih =>
  intro n a x c ha hd hn hi hca
  obtain ⟨n, rfl⟩ : ∃ m, n = m + 1 := ⟨n - 1, by omega⟩
  refine ev_succ ?_
  simp only [impl_readDigits.l0, impl_pointAt_eq l a hl, Option.bind_some]
  refine Ev.bind (impl_DigitOf_ev _ _) ?_
  by_cases hy : digitOf (numAt l a) b ≥ 0
  ·obtain ⟨h0, h1⟩ := digs_in hy
   have hdl := digitOf_le hb hy
   have hrd : rd l a = numAt l a := (numAt_in h0 h1).symm
   have hbd := digInv_bound hi
   rw [digs_go hy, hrd]
   refine ev_pos hy (ev_pos h0 (ev_pos h1 (Ev.bind (impl_DigitOf_ev _ _) ?_)))
   generalize digitOf (numAt l a) b = dg at *
   have hst := digInv_step hi hb hy (by omega) _ rfl
   have key : ∀ bb : Bool, (bb = true ↔ (0 < c ∨ 0 < dg)) → Ev (fun k => impl_readDigits.j1 k l a b (if c > 7 then 1114112 else x) c dg bb) ((if (digs l b n (a + 1) (if (if 0 < c ∨ 0 < dg then c + 1 else c) ≤ 7 then b * x + dg else x) (if 0 < c ∨ 0 < dg then c + 1 else c)).2.1 > 7 then 1114112 else (digs l b n (a + 1) (if (if 0 < c ∨ 0 < dg then c + 1 else c) ≤ 7 then b * x + dg else x) (if 0 < c ∨ 0 < dg then c + 1 else c)).1), (digs l b n (a + 1) (if (if 0 < c ∨ 0 < dg then c + 1 else c) ≤ 7 then b * x + dg else x) (if 0 < c ∨ 0 < dg then c + 1 else c)).2.2) := by
    intro bb hbb
    refine ev_succ ?_
    simp only [impl_readDigits.j1]
    have hbx : -9223372036854775808 ≤ b * x ∧ b * x ≤ 9223372036854775807 := by rcases hb with rfl | rfl <;> omega
    have hbx2 : b * x ≤ 9000000000 := by rcases hb with rfl | rfl <;> omega
    have hbx3 : 0 ≤ b * x := by rcases hb with rfl | rfl <;> omega
    by_cases hz : 0 < c ∨ 0 < dg
    ·have hw : wrap64 (c + 1) = c + 1 := w64 (by omega) (by omega)
     simp only [if_pos hz] at hst ⊢
     rw [hw, w64 (x := a + 1) (by omega) (by omega)]
     refine ev_pos (hbb.2 hz) ?_
     have := ih n (a + 1) (if c + 1 ≤ 7 then b * x + dg else x) (c + 1) (by omega) (by omega) (by omega) hst (by omega)
     by_cases h7 : c + 1 > 7
     ·rw [if_pos h7] at this
      exact ev_pos h7 this
     ·rw [if_neg h7] at this
      refine ev_neg h7 ?_
      rw [if_neg (show ¬ c > 7 by omega), Int.mul_comm x b, w64 hbx.1 hbx.2, w64 (by omega) (by omega)]
      rw [if_pos (show c + 1 ≤ 7 by omega)] at this ⊢
      exact this
    ·simp only [if_neg hz] at hst ⊢
     rw [w64 (x := a + 1) (by omega) (by omega)]
     refine ev_neg (fun h => hz (hbb.1 h)) ?_
     have := ih n (a + 1) (if c ≤ 7 then b * x + dg else x) c (by omega) (by omega) (by omega) hst (by omega)
     have h7 : ¬ c > 7 := by omega
     rw [if_neg h7] at this
     refine ev_neg h7 ?_
     rw [if_neg h7, Int.mul_comm x b, w64 hbx.1 hbx.2, w64 (by omega) (by omega)]
     rw [if_pos (show c ≤ 7 by omega)] at this ⊢
     exact this
   by_cases hc : c > 0
   ·exact ev_pos hc (key true (by simp; omega))
   ·exact ev_neg hc (key _ (by simp; omega))
  ·rw [digs_stop hy]
   exact ev_neg hy (Ev.now _)
theorem impl_readDigits_ev (l : List Int) (a b : Int) (hb : b = 10 ∨ b = 16) (hl : l.length ≤ 100000) (ha : 0 ≤ a) : Ev (fun k => impl_readDigits.f k l a b) ((if (digs l b l.length a 0 0).2.1 > 7 then 1114112 else (digs l b l.length a 0 0).1), (digs l b l.length a 0 0).2.2) := by
 unfold impl_readDigits.f
 have := readDigits_l0 l b hb hl l.length l.length a 0 0 ha (by omega) (Nat.le_refl _) ⟨by omega, by omega, by decide⟩ ha
 simpa using this
theorem impl_refDigits_ev (l : List Int) (a : Int) (hl : l.length ≤ 100000) (ha : 0 ≤ a) (ha2 : a ≤ 100000000) : Ev (fun k => impl_refDigits.f k l a) (if (refDig l a).2 = 0 then (0, 0, false) else ((refDig l a).1, (refDig l a).2, true)) := by
 unfold impl_refDigits.f
 simp only [impl_pointAt_eq l a hl, impl_LowerOf_eq, Option.bind_some]
 have hlow : lowerOf (numAt l a) = 120 ↔ (numAt l a = 120 ∨ numAt l a = 88) := by unfold lowerOf; split <;> omega
 have hj : ∀ f b : Int, (b = 10 ∨ b = 16) → 0 ≤ f → f ≤ 100000001 → refBase l a = b → refFrom l a = f → Ev (fun k => impl_refDigits.j0 k l f b) (if (refDig l a).2 = 0 then (0, 0, false) else ((refDig l a).1, (refDig l a).2, true)) := by
  intro f b hb hf hf2 e1 e2
  refine ev_succ ?_
  simp only [impl_refDigits.j0]
  refine Ev.bind (impl_readDigits_ev l f b hb hl hf) ?_
  have hge : f ≤ (digs l b l.length f 0 0).2.2 ∧ (digs l b l.length f 0 0).2.2 ≤ f + l.length := by
   have key : ∀ (n : Nat) (a x c : Int), a ≤ (digs l b n a x c).2.2 ∧ (digs l b n a x c).2.2 ≤ a + n := by
    intro n
    induction n with
    | zero => intro a x c; simp [digs]
    | succ n ih =>
     intro a x c
     by_cases h : digitOf (numAt l a) b ≥ 0
     ·rw [digs_go h]
      have := ih (a + 1) (if (if 0 < c ∨ 0 < digitOf (numAt l a) b then c + 1 else c) ≤ 7 then b * x + digitOf (numAt l a) b else x) (if 0 < c ∨ 0 < digitOf (numAt l a) b then c + 1 else c)
      omega
     ·rw [digs_stop h]; simp only; omega
   exact key _ _ _ _
  unfold refDig
  rw [e1, e2]
  generalize digs l b l.length f 0 0 = D at *
  by_cases hD : D.2.2 = f
  ·simp only [if_pos hD]
   exact ev_some (by simp)
  ·simp only [if_neg hD, impl_pointAt_eq l _ hl, impl_RefNumber_eq, Option.bind_some]
   rw [w64 (x := D.2.2 + 1) (by omega) (by omega)]
   by_cases hs : numAt l D.2.2 = 59
   ·simp only [if_pos hs]; exact ev_some (by rw [if_neg (show ¬ D.2.2 + 1 = 0 by omega)])
   ·simp only [if_neg hs]; exact ev_some (by rw [if_neg (show ¬ D.2.2 = 0 by omega)])
 rw [w64 (x := a + 1) (by omega) (by omega)]
 by_cases h : lowerOf (numAt l a) = 120
 ·exact ev_pos h (hj (a + 1) 16 (.inr rfl) (by omega) (by omega) (by unfold refBase; rw [if_pos (hlow.1 h)]) (by unfold refFrom; rw [if_pos (hlow.1 h)]))
 ·exact ev_neg h (hj a 10 (.inl rfl) ha (by omega) (by unfold refBase; rw [if_neg (fun g => h (hlow.2 g))]) (by unfold refFrom; rw [if_neg (fun g => h (hlow.2 g))]))
theorem impl_IsAlpha_eq (x : Int) : impl_IsAlpha.f x = some (isAlpha x) := by
 unfold impl_IsAlpha.f isAlpha
 simp only [impl_inRange_eq, Option.bind_some]
 by_cases h : 65 ≤ x ∧ x ≤ 90 <;> simp [h]
theorem drop_get {α : Type} {l : List α} {i : Nat} (h : i < l.length) : l.drop i = l[i] :: l.drop (i + 1) := List.drop_eq_getElem_cons h
theorem stands_ev (l : List Int) (s : ByteArray) (hl : l.length ≤ 100000) (hs : s.size ≤ 1000) (j : Int) (hj : 0 ≤ j) (hj2 : j ≤ 100000000) : ∀ (d : Nat) (i : Int), 0 ≤ i → i + d = s.size → Ev (fun k => impl_standsAt.l0 k l j s i) (stands l (j + i) ((bytesOf s).drop i.toNat)) := by
 intro d
 have hlen := bytesOf_length s
 induction d with
 | zero =>
  intro i h0 h
  refine ev_succ ?_
  simp only [impl_standsAt.l0]
  refine ev_neg (by omega) (ev_some ?_)
  rw [List.drop_of_length_le (by omega)]; rfl
 | succ d ih =>
  intro i h0 h
  refine ev_succ ?_
  simp only [impl_standsAt.l0, impl_pointAt_eq l _ hl, Option.bind_some]
  have hr := bt_range s i
  rw [w64 (x := bt s i) (by omega) (by omega), w64 (x := i + 1) (by omega) (by omega), w64 (x := j + i) (by omega) (by omega), drop_cons h0 (by omega), rd_bytesOf]
  refine ev_pos (by omega) (ev_pos h0 ?_)
  simp only [stands]
  by_cases he : numAt l (j + i) = bt s i
  ·rw [decide_eq_true he, Bool.true_and, Int.add_assoc]
   exact ev_pos he (ih (i + 1) (by omega) (by omega))
  ·rw [decide_eq_false he, Bool.false_and]
   exact ev_neg he (Ev.now _)
theorem impl_standsAt_ev (l : List Int) (s : ByteArray) (hl : l.length ≤ 100000) (hs : s.size ≤ 1000) (j : Int) (hj : 0 ≤ j) (hj2 : j ≤ 100000000) : Ev (fun k => impl_standsAt.f k l j s) (stands l j (bytesOf s)) := by
 have := stands_ev l s hl hs j hj hj2 s.size 0 (by omega) (by omega)
 simpa [impl_standsAt.f] using this
theorem refList_size : ∀ r ∈ refList, 0 < r.f0.size ∧ r.f0.size ≤ 20 := by decide +kernel
theorem refList_semi : ∀ r ∈ refList, strings_HasSuffix.f r.f0 (⟨#[59]⟩ : ByteArray) = some (decide (bt r.f0 ((r.f0.size : Int) - 1) = 59)) := by decide +kernel
theorem best_mem (l : List Int) (j : Int) (rs : List S54) (hrs : ∀ r ∈ rs, r ∈ refList) : ∀ cur : ByteArray × Int, (cur = (⟨#[]⟩, 0) ∨ ∃ r ∈ refList, cur = (r.f0, r.f1)) → rs.foldl (pick l j) cur = (⟨#[]⟩, 0) ∨ ∃ r ∈ refList, rs.foldl (pick l j) cur = (r.f0, r.f1) := by
 induction rs with
 | nil => intro cur h; exact h
 | cons r rs ih =>
  intro cur h
  refine ih (fun x hx => hrs x (by simp [hx])) _ ?_
  unfold pick
  split
  ·exact .inr ⟨r, hrs r (by simp), rfl⟩
  ·exact h
def namRes (l : List Int) (j : Int) (v : Bool) (b : ByteArray × Int) : Int × Int :=
 if b.1.size = 0 then (0, 0) else if v = true ∧ goesOn (numAt l (j + b.1.size)) = true ∧ bt b.1 (b.1.size - 1) ≠ 59 then (0, 0) else (b.2, j + b.1.size)
theorem refNam_is (l : List Int) (j : Int) (v : Bool) : refNam l j v = namRes l j v (best l j) := rfl
def tri (r : Int × Int) : Int × Int × Bool := if r.2 = 0 then (0, 0, false) else (r.1, r.2, true)
theorem size_nil {s : ByteArray} (h : s.toList = ([] : List UInt8)) : s.size = 0 := by
 rw [Lib.toList_data] at h
 have := congrArg List.length h
 simpa using this
theorem nil_size {s : ByteArray} (h : s.size = 0) : s.toList = ([] : List UInt8) := by
 rw [Lib.toList_data]
 exact List.length_eq_zero_iff.1 (by simpa using h)
theorem refName_l0 (l : List Int) (j : Int) (v : Bool) (hl : l.length ≤ 100000) (hj : 0 < j) (hj2 : j ≤ 100000000) : ∀ (d i : Nat) (b : ByteArray × Int), i + d = 24 → (b = (⟨#[]⟩, 0) ∨ ∃ r ∈ refList, b = (r.f0, r.f1)) → Ev (fun k => impl_refName.l0 k l j v refList 24 i b.1 b.2) (tri (namRes l j v ((refList.drop i).foldl (pick l j) b))) := by
 intro d
 have h24 := refList_len
 induction d with
 | zero =>
  intro i b h hb
  refine ev_succ ?_
  simp only [impl_refName.l0]
  rw [List.drop_of_length_le (by omega), List.foldl_nil]
  have hsz : b.1.size ≤ 20 := by
   rcases hb with rfl | ⟨r, hr, rfl⟩
   ·decide
   ·exact (refList_size r hr).2
  rw [w64 (x := j + (b.1.size : Int)) (by omega) (by omega)]
  refine ev_neg (by omega) ?_
  simp only [impl_pointAt_eq l _ hl, impl_IsAlpha_eq, Option.bind_some]
  rcases hb with rfl | ⟨r, hr, rfl⟩
  ·have e1 : (⟨#[]⟩ : ByteArray).toList = ([] : List UInt8) := nil_size rfl
   have e2 : (⟨#[]⟩ : ByteArray).size = 0 := rfl
   simp only [namRes, e1, e2, if_true]
   generalize numAt l _ = af
   by_cases h1 : af = 61
   ·exact ev_pos h1 (ev_some rfl)
   ·refine ev_neg h1 ?_
    by_cases h2 : isAlpha af = true
    ·exact ev_pos h2 (ev_some rfl)
    ·exact ev_neg h2 (Ev.bind (impl_DigitOf_ev _ _) (ev_some rfl))
  ·have hs := refList_semi r hr
   have hp := (refList_size r hr).1
   have hne : ¬ r.f0.toList = ([] : List UInt8) := fun g => by have := size_nil g; omega
   simp only [namRes, hs, Option.bind_some]
   rw [if_neg (show ¬ r.f0.size = 0 by omega)]
   generalize numAt l _ = af
   have hcore : ∀ g : Bool, goesOn af = g → Ev (fun _ => if v = true then (if g = true then (if decide (bt r.f0 ((r.f0.size : Int) - 1) = 59) = true then some (r.f1, j + (r.f0.size : Int), true) else some (0, 0, false)) else some (r.f1, j + (r.f0.size : Int), true)) else some (r.f1, j + (r.f0.size : Int), true)) (tri (if v = true ∧ goesOn af = true ∧ bt r.f0 ((r.f0.size : Int) - 1) ≠ 59 then (0, 0) else (r.f1, j + (r.f0.size : Int)))) := by
    intro g hg
    rw [hg]
    refine ev_const ?_
    have ht : tri (r.f1, j + (r.f0.size : Int)) = (r.f1, j + (r.f0.size : Int), true) := by unfold tri; rw [if_neg (by simp only; omega)]
    cases v with
    | false => simp [ht]
    | true =>
     cases g with
     | false => simp [ht]
     | true =>
      by_cases h59 : bt r.f0 ((r.f0.size : Int) - 1) = 59
      ·simp [h59, ht]
      ·simp [h59, tri]
   by_cases h1 : af = 61
   ·refine ev_pos h1 (ev_neg hne ?_)
    have := hcore true (by unfold goesOn; simp [h1])
    simpa using this
   ·refine ev_neg h1 ?_
    by_cases h2 : isAlpha af = true
    ·refine ev_pos h2 (ev_neg hne ?_)
     have := hcore true (by unfold goesOn; simp [h2])
     simpa using this
    ·refine ev_neg h2 (Ev.bind (impl_DigitOf_ev _ _) (ev_neg hne ?_))
     have := hcore (decide (digitOf af 10 ≥ 0)) (by unfold goesOn; simp [h1, h2])
     simpa using this
 | succ d ih =>
  intro i b h hb
  have hi : i < refList.length := by omega
  have hsz : b.1.size ≤ 20 := by
   rcases hb with rfl | ⟨r, hr, rfl⟩
   ·decide
   ·exact (refList_size r hr).2
  have hm : refList[i] ∈ refList := List.getElem_mem _
  have hrs := refList_size _ hm
  have hrd : rd_T54 refList (i : Int) = refList[i] := by
   unfold rd_T54
   rw [List.getD_eq_getElem?_getD, show ((i : Int).toNat) = i by omega, List.getElem?_eq_getElem hi]; rfl
  refine ev_succ ?_
  simp only [impl_refName.l0]
  rw [drop_get hi, List.foldl_cons, hrd, w64 (x := (i : Int) + 1) (by omega) (by omega)]
  refine ev_pos (by omega) (ev_pos (by omega) (ev_pos (by omega) ?_))
  have hih := ih (i + 1) (pick l j b refList[i]) (by omega) (by
   unfold pick
   split
   ·exact .inr ⟨_, hm, rfl⟩
   ·exact hb)
  generalize hq : pick l j b refList[i] = q at hih ⊢
  unfold pick at hq
  by_cases h1 : (refList[i].f0.size : Int) > (b.1.size : Int)
  ·refine ev_pos h1 (Ev.bind (impl_standsAt_ev l refList[i].f0 hl (by omega) j (by omega) hj2) ?_)
   by_cases h2 : stands l j (bytesOf refList[i].f0) = true
   ·rw [if_pos ⟨by omega, h2⟩] at hq
    subst hq
    exact ev_pos h2 hih
   ·rw [if_neg (fun g => h2 g.2)] at hq
    subst hq
    exact ev_neg h2 hih
  ·rw [if_neg (fun g => h1 (by omega))] at hq
   subst hq
   exact ev_neg h1 hih
theorem impl_refName_ev (l : List Int) (j : Int) (v : Bool) (hl : l.length ≤ 100000) (hj : 0 < j) (hj2 : j ≤ 100000000) : Ev (fun k => impl_refName.f k l j v) (tri (refNam l j v)) := by
 unfold impl_refName.f
 simp only [refList_is, Option.bind_some]
 exact refName_l0 l j v hl hj hj2 24 0 (⟨#[]⟩, 0) rfl (.inl rfl)
theorem impl_RefRead_ev (l : List Int) (a : Int) (v : Bool) : Ev (fun k => impl_RefRead.f k l a v) (refRead l a v) := by
 unfold impl_RefRead.f refRead
 have hjt : Ev (fun k => impl_RefRead.j0 k l a v true) ([], a) := by
  refine ev_succ ?_
  simp only [impl_RefRead.j0]
  exact ev_pos (by simp) (Ev.now _)
 by_cases hl : (l.length : Int) > 3000
 ·rw [if_pos (.inl hl)]; exact ev_pos hl hjt
 ·refine ev_neg hl ?_
  simp only [impl_pointAt_eq l a (by omega), Option.bind_some]
  by_cases h38 : numAt l a = 38
  ·rw [if_neg (by omega)]
   have hin : 0 ≤ a ∧ a < l.length := by
    by_cases c : 0 ≤ a ∧ a < l.length
    ·exact c
    ·rw [numAt_out (by omega)] at h38; omega
   refine ev_succ ?_
   simp only [impl_RefRead.j0, impl_pointAt_eq l _ (show l.length ≤ 100000 by omega), Option.bind_some]
   rw [w64 (x := a + 1) (by omega) (by omega), w64 (x := a + 2) (by omega) (by omega)]
   refine ev_neg (by simp [h38]) ?_
   unfold refOf
   by_cases h35 : numAt l (a + 1) = 35
   ·simp only [if_pos h35]
    have hr : (refDig l (a + 2)).2 = 0 ∨ (refDig l (a + 2)).2 > 0 := by
     unfold refDig
     split
     ·exact .inl rfl
     ·have : a + 2 ≤ refFrom l (a + 2) := by unfold refFrom; split <;> omega
      have key : ∀ (n : Nat) (b a x c : Int), a ≤ (digs l b n a x c).2.2 := by
       intro n
       induction n with
       | zero => intro b a x c; simp [digs]
       | succ n ih =>
        intro b a x c
        by_cases h : digitOf (numAt l a) b ≥ 0
        ·rw [digs_go h]
         have := ih b (a + 1) (if (if 0 < c ∨ 0 < digitOf (numAt l a) b then c + 1 else c) ≤ 7 then b * x + digitOf (numAt l a) b else x) (if 0 < c ∨ 0 < digitOf (numAt l a) b then c + 1 else c)
         omega
        ·rw [digs_stop h]; simp
      have := key l.length (refBase l (a + 2)) (refFrom l (a + 2)) 0 0
      right
      simp only
      split <;> omega
    refine Ev.bind (impl_refDigits_ev l (a + 2) (by omega) (by omega) (by omega)) ?_
    rcases hr with hr | hr
    ·simp only [hr, if_true]
     exact ev_neg (by simp) (ev_some (by simp))
    ·rw [if_neg (show ¬ (refDig l (a + 2)).2 = 0 by omega), if_pos hr]
     exact ev_pos rfl (Ev.now _)
   ·simp only [if_neg h35]
    refine Ev.bind (impl_refName_ev l (a + 1) v (by omega) (by omega) (by omega)) ?_
    have hr : (refNam l (a + 1) v).2 = 0 ∨ (refNam l (a + 1) v).2 > 0 := by
     unfold refNam
     split
     ·exact .inl rfl
     ·split
      ·exact .inl rfl
      ·exact .inr (by simp only; omega)
    unfold tri
    generalize refNam l (a + 1) v = q at hr ⊢
    rcases hr with hr | hr
    ·simp only [hr, if_true]
     exact ev_neg (by simp) (ev_some (by simp))
    ·rw [if_neg (show ¬ q.2 = 0 by omega), if_pos hr]
     exact ev_pos rfl (Ev.now _)
  ·rw [if_pos (.inr h38)]
   have : (numAt l a != 38) = true := by simpa using h38
   rw [this]; exact hjt
theorem and_range (x : Int) (m : Nat) (hm : m < 2 ^ 31) : 0 ≤ Go.bits .and .i64 x m ∧ Go.bits .and .i64 x m ≤ m := by
 have h : (BitVec.ofInt IntKind.i64.bits x &&& BitVec.ofInt IntKind.i64.bits (m : Int)).toNat ≤ m := by
  rw [BitVec.toNat_and]
  refine Nat.le_trans Nat.and_le_right ?_
  rw [BitVec.ofInt_natCast, BitVec.toNat_ofNat]
  exact Nat.mod_le _ _
 simp only [Go.bits]
 generalize (BitVec.ofInt IntKind.i64.bits x &&& BitVec.ofInt IntKind.i64.bits (m : Int)).toNat = t at *
 rw [wraps_i64 _ (by omega) (by omega)]
 omega
theorem l1Byte_ok (l : List Int) (i h : Int) (hl : l.length ≤ 1048576) (h0 : 0 ≤ i) (h1 : i ≤ l.length) : ∃ v i' h', spec_l1Byte.f l i h = some (v, i', h') ∧ (0 ≤ v ∧ v ≤ 255) ∧ 0 ≤ i' ∧ i' ≤ l.length := by
 unfold spec_l1Byte.f
 by_cases c : i < l.length
 ·rw [if_pos c, if_pos h0, w64 (x := i + 1) (by omega) (by omega)]
  exact ⟨_, _, _, rfl, and_range _ 255 (by decide), by omega, by omega⟩
 ·rw [if_neg c]
  exact ⟨_, _, _, rfl, and_range _ 255 (by decide), h0, h1⟩
theorem l1Below_ok (l : List Int) (i h n : Int) (hl : l.length ≤ 1048576) (h0 : 0 ≤ i) (h1 : i ≤ l.length) (hn : n ≤ 1000000000) : ∃ v i' h', spec_l1Below.f l i h n = some (v, i', h') ∧ (0 ≤ v ∧ (v < n ∨ n ≤ 0 ∧ v = 0)) ∧ 0 ≤ i' ∧ i' ≤ l.length := by
 unfold spec_l1Below.f
 by_cases c : n ≤ 0
 ·rw [if_pos c]; exact ⟨_, _, _, rfl, ⟨by omega, .inr ⟨c, rfl⟩⟩, h0, h1⟩
 ·rw [if_neg c]
  by_cases d : n ≤ 256
  ·obtain ⟨v, i', h', e, hv, hi⟩ := l1Byte_ok l i h hl h0 h1
   rw [if_pos d, e]
   refine ⟨_, _, _, by rw [Option.bind_some, if_neg (by omega)], ⟨?_, .inl ?_⟩, hi⟩
   ·rw [Int.tmod_eq_emod_of_nonneg hv.1]; exact Int.emod_nonneg _ (by omega)
   ·rw [Int.tmod_eq_emod_of_nonneg hv.1]; exact Int.emod_lt_of_pos _ (by omega)
  ·obtain ⟨v1, i1, h1', e1, hv1, hi1⟩ := l1Byte_ok l i h hl h0 h1
   obtain ⟨v2, i2, h2', e2, hv2, hi2⟩ := l1Byte_ok l i1 h1' hl hi1.1 hi1.2
   obtain ⟨v3, i3, h3', e3, hv3, hi3⟩ := l1Byte_ok l i2 h2' hl hi2.1 hi2.2
   obtain ⟨v4, i4, h4', e4, hv4, hi4⟩ := l1Byte_ok l i3 h3' hl hi3.1 hi3.2
   rw [if_neg d, e1, Option.bind_some, e2, Option.bind_some, e3, Option.bind_some, e4, Option.bind_some, if_neg (by omega)]
   have hw : wrap64 ((wrap64 ((wrap64 ((wrap64 (v1 * 16777216)) + (wrap64 (v2 * 65536)))) + (wrap64 (v3 * 256)))) + v4) = v1 * 16777216 + v2 * 65536 + v3 * 256 + v4 := by
    rw [w64 (x := v1 * _) (by omega) (by omega), w64 (x := v2 * _) (by omega) (by omega), w64 (x := v3 * _) (by omega) (by omega), w64 (x := v1 * 16777216 + v2 * 65536) (by omega) (by omega), w64 (x := v1 * 16777216 + v2 * 65536 + v3 * 256) (by omega) (by omega), w64 (by omega) (by omega)]
   refine ⟨_, _, _, rfl, ⟨?_, .inl ?_⟩, hi4⟩
   ·simp only [hw]; rw [Int.tmod_eq_emod_of_nonneg (by omega)]; exact Int.emod_nonneg _ (by omega)
   ·simp only [hw]; rw [Int.tmod_eq_emod_of_nonneg (by omega)]; exact Int.emod_lt_of_pos _ (by omega)
theorem l1New_l0 (l : List Int) (hl : l.length ≤ 1048576) : ∀ (d : Nat) (i h : Int), 0 ≤ i → i + d = l.length → ∃ h', Ev (fun k => spec_l1New.l0 k l h i) (l, 0, h') := by
 intro d
 induction d with
 | zero =>
  intro i h h0 hd
  exact ⟨h, Ev.step (f := fun _ => some (l, 0, h)) (fun k => by simp only [spec_l1New.l0]; rw [if_neg (by omega)]) (Ev.now _)⟩
 | succ d ih =>
  intro i h h0 hd
  by_cases c : i < 4000
  ·obtain ⟨h', e⟩ := ih (i + 1) (Go.bits .and .i64 (wrap64 ((wrap64 ((wrap64 (h * 131)) + (wrap64 (rd l i)))) + 7)) 1073741823) (by omega) (by omega)
   refine ⟨h', Ev.step (fun k => ?_) e⟩
   simp only [spec_l1New.l0]; rw [if_pos (by omega), if_pos c, if_pos h0, w64 (x := i + 1) (by omega) (by omega)]
  ·exact ⟨h, Ev.step (f := fun _ => some (l, 0, h)) (fun k => by simp only [spec_l1New.l0]; rw [if_pos (by omega), if_neg c]) (Ev.now _)⟩
theorem l1New_ok (l : List Int) (hl : l.length ≤ 1048576) : ∃ h', Ev (fun k => spec_l1New.f k l) (l, 0, h') := by
 unfold spec_l1New.f
 exact l1New_l0 l hl l.length 0 _ (by omega) (by omega)
def EvP {α : Type} (g : Nat → Option α) (Q : α → Prop) : Prop := ∃ r, Ev g r ∧ Q r
theorem EvP.bind {α β : Type} {g : Nat → Option α} {f : Nat → α → Option β} {P : α → Prop} {Q : β → Prop} (h : EvP g P) (hf : ∀ a, P a → EvP (fun k => f k a) Q) : EvP (fun k => (g k).bind (f k)) Q := by
 obtain ⟨a, e, hp⟩ := h
 obtain ⟨r, e2, hq⟩ := hf a hp
 exact ⟨r, Ev.bind e e2, hq⟩
theorem EvP.pos {α : Type} {c : Prop} [Decidable c] {g f : Nat → Option α} {Q : α → Prop} (hc : c) (h : EvP g Q) : EvP (fun k => if c then g k else f k) Q := by
 obtain ⟨r, e, hq⟩ := h; exact ⟨r, ev_pos hc e, hq⟩
theorem EvP.neg {α : Type} {c : Prop} [Decidable c] {g f : Nat → Option α} {Q : α → Prop} (hc : ¬ c) (h : EvP f Q) : EvP (fun k => if c then g k else f k) Q := by
 obtain ⟨r, e, hq⟩ := h; exact ⟨r, ev_neg hc e, hq⟩
theorem EvP.ite {α : Type} {c : Prop} [Decidable c] {g f : Nat → Option α} {Q : α → Prop} (h1 : c → EvP g Q) (h2 : ¬ c → EvP f Q) : EvP (fun k => if c then g k else f k) Q := by
 by_cases hc : c
 ·exact EvP.pos hc (h1 hc)
 ·exact EvP.neg hc (h2 hc)
theorem EvP.some {α : Type} {r : α} {Q : α → Prop} (h : Q r) : EvP (fun _ => Option.some r) Q := ⟨r, Ev.now _, h⟩
theorem EvP.const {α : Type} {g : Option α} {P : α → Prop} (h : ∃ a, g = Option.some a ∧ P a) : EvP (fun _ => g) P := by
 obtain ⟨a, e, hp⟩ := h; exact ⟨a, ev_const e, hp⟩
theorem EvP.succ {α : Type} {g : Nat → Option α} {Q : α → Prop} (h : EvP (fun k => g (k + 1)) Q) : EvP g Q := by
 obtain ⟨r, e, hq⟩ := h; exact ⟨r, ev_succ e, hq⟩
theorem EvP.mono {α : Type} {g : Nat → Option α} {P Q : α → Prop} (h : EvP g P) (hi : ∀ a, P a → Q a) : EvP g Q := by
 obtain ⟨r, e, hq⟩ := h; exact ⟨r, e, hi r hq⟩
theorem EvP.of {α : Type} {g : Nat → Option α} {r : α} {Q : α → Prop} (h : Ev g r) (hq : Q r) : EvP g Q := ⟨r, h, hq⟩
theorem EvP.ev {α : Type} {g : Nat → Option α} {r : α} (h : EvP g (fun x => x = r)) : Ev g r := by
 obtain ⟨x, e, hx⟩ := h
 subst hx
 exact e
theorem EvP.bindS {α β : Type} {g : Option α} {f : Nat → α → Option β} {P : α → Prop} {Q : β → Prop} (h : ∃ a, g = Option.some a ∧ P a) (hf : ∀ a, P a → EvP (fun k => f k a) Q) : EvP (fun k => g.bind (f k)) Q := by
 obtain ⟨a, rfl, hp⟩ := h
 exact hf a hp
theorem l1Byte_p (l : List Int) (i h : Int) (hl : l.length ≤ 1048576) (hi : 0 ≤ i ∧ i ≤ l.length) : ∃ a, spec_l1Byte.f l i h = some a ∧ (0 ≤ a.1 ∧ a.1 ≤ 255) ∧ 0 ≤ a.2.1 ∧ a.2.1 ≤ l.length := by
 obtain ⟨v, i', h', e, hv, hj⟩ := l1Byte_ok l i h hl hi.1 hi.2
 exact ⟨_, e, hv, hj⟩
theorem l1Below_p (l : List Int) (i h n : Int) (hl : l.length ≤ 1048576) (hi : 0 ≤ i ∧ i ≤ l.length) (hn : n ≤ 1000000000) : ∃ a, spec_l1Below.f l i h n = some a ∧ (0 ≤ a.1 ∧ (a.1 < n ∨ n ≤ 0 ∧ a.1 = 0)) ∧ 0 ≤ a.2.1 ∧ a.2.1 ≤ l.length := by
 obtain ⟨v, i', h', e, hv, hj⟩ := l1Below_ok l i h n hl hi.1 hi.2 hn
 exact ⟨_, e, hv, hj⟩
theorem l1New_p (l : List Int) (hl : l.length ≤ 1048576) : EvP (fun k => spec_l1New.f k l) (fun a => a.1 = l ∧ 0 ≤ a.2.1 ∧ a.2.1 ≤ (l.length : Int)) := by
 obtain ⟨h', e⟩ := l1New_ok l hl
 exact ⟨_, e, rfl, by simp, by simp⟩
theorem l1Pick_p (l : List Int) (i h : Int) (m : List ByteArray) (hl : l.length ≤ 1048576) (hi : 0 ≤ i ∧ i ≤ l.length) (hm : 0 < m.length) (hm2 : m.length ≤ 1000) : ∃ a, spec_l1Pick.f l i h m = some a ∧ a.1 ∈ m ∧ 0 ≤ a.2.1 ∧ a.2.1 ≤ l.length := by
 unfold spec_l1Pick.f
 obtain ⟨b, e, hv, hj⟩ := l1Below_p l i h m.length hl hi (by omega)
 rw [e, Option.bind_some, if_pos hv.1, if_pos (by omega)]
 refine ⟨_, rfl, ?_, hj⟩
 show rdOf ByteArray.empty m b.1 ∈ m
 unfold rdOf
 rw [List.getD_eq_getElem?_getD, List.getElem?_eq_getElem (by omega)]
 exact List.getElem_mem _
theorem l1Once_p (l : List Int) (i h n : Int) (hl : l.length ≤ 1048576) (hi : 0 ≤ i ∧ i ≤ l.length) (hn : n ≤ 1000000000) : ∃ a, spec_l1Once.f l i h n = some a ∧ True ∧ 0 ≤ a.2.1 ∧ a.2.1 ≤ l.length := by
 obtain ⟨a, e, _, hj⟩ := l1Below_p l i h n hl hi hn
 unfold spec_l1Once.f
 rw [e, Option.bind_some]
 exact ⟨_, rfl, True.intro, hj⟩
def drawnB (x : Int) : Prop := x ∈ [38, 60, 62, 34, 194, 160, 97, 109, 112, (59 : Int)]
def drawnP (x : Int) : Prop := x ∈ [38, 60, 62, 34, 160, 97, 109, 112, (59 : Int)]
def escP (v : Bool) (p : Int) : List Int := if p = 38 then [38, 97, 109, 112, 59] else if p = 160 then [38, 110, 98, 115, 112, 59] else if p = 34 ∧ v = true then [38, 113, 117, 111, 116, 59] else if p = 60 ∧ v = false then [38, 108, 116, 59] else if p = 62 ∧ v = false then [38, 103, 116, 59] else [p]
theorem pt_of_bytes {p : Int} (h : pointOk p = true) (hb : ∀ b ∈ utf8 p, drawnB b) : drawnP p := by
 obtain ⟨⟨h0, h1⟩, _⟩ := (pointOk_iff p).1 h
 unfold drawnP
 unfold utf8 at hb
 by_cases c1 : p < 128
 ·rw [if_pos c1] at hb
  have := hb p (by simp)
  unfold drawnB at this
  simp only [List.mem_cons, List.not_mem_nil, or_false] at this ⊢
  omega
 ·rw [if_neg c1] at hb
  by_cases c2 : p < 2048
  ·rw [if_pos c2] at hb
   have e1 := hb (192 + p / 64) (by simp)
   have e2 := hb (128 + p % 64) (by simp)
   unfold drawnB at e1 e2
   simp only [List.mem_cons, List.not_mem_nil, or_false] at e1 e2 ⊢
   omega
  ·rw [if_neg c2] at hb
   by_cases c3 : p < 65536
   ·rw [if_pos c3] at hb
    have e1 := hb (224 + p / 4096) (by simp)
    unfold drawnB at e1
    simp only [List.mem_cons, List.not_mem_nil, or_false] at e1
    omega
   ·rw [if_neg c3] at hb
    have e1 := hb (240 + p / 262144) (by simp)
    unfold drawnB at e1
    simp only [List.mem_cons, List.not_mem_nil, or_false] at e1
    omega
theorem drawn_ok : ∀ p ∈ [38, 60, 62, 34, 160, 97, 109, 112, (59 : Int)], pointOk p = true := by decide
theorem one_true : ∀ p ∈ [38, 60, 62, 34, 97, 109, 112, (59 : Int)], spec_Escape.one true p = putAll (escP true p) ∧ pointPut p = [p] ∧ p ≠ 194 := by decide
theorem one_false : ∀ p ∈ [38, 60, 62, 34, 97, 109, 112, (59 : Int)], spec_Escape.one false p = putAll (escP false p) ∧ pointPut p = [p] ∧ p ≠ 194 := by decide
theorem putAll_app (a b : List Int) : putAll (a ++ b) = putAll a ++ putAll b := List.flatMap_append
theorem esc_put (v : Bool) : ∀ (pts : List Int) (L : List UInt8), (∀ p ∈ pts, drawnP p) → toI L = putAll pts → toI (escL v L) = putAll (pts.flatMap (escP v)) := by
 intro pts
 induction pts with
 | nil =>
  intro L _ h
  have : L = [] := by cases L with | nil => rfl | cons x t => simp [toI, putAll] at h
  subst this
  simp [escL, toI, putAll]
 | cons p r ih =>
  intro L hp h
  have hpr := fun q hq => hp q (List.mem_cons_of_mem _ hq)
  have hpp := hp p List.mem_cons_self
  have hcons : putAll (p :: r) = pointPut p ++ putAll r := List.flatMap_cons
  rw [hcons] at h
  rw [List.flatMap_cons, putAll_app]
  by_cases c : p = 160
  ·subst c
   have e : pointPut 160 = [194, 160] := by decide
   rw [e] at h
   obtain ⟨x, L1, rfl, hx, h1⟩ := List.map_eq_cons_iff.1 h
   obtain ⟨y, L2, rfl, hy, h2⟩ := List.map_eq_cons_iff.1 h1
   have ex : x = 194 := (u8_eq 194 (by omega)).2 hx
   have ey : y = 160 := (u8_eq 160 (by omega)).2 hy
   subst ex ey
   have e2 : escL v (194 :: 160 :: L2) = nbspL ++ escL v L2 := by simp [escL]
   rw [e2, toI_app, ih L2 hpr h2]
   have e3 : putAll (escP v 160) = toI nbspL := by cases v <;> decide
   rw [e3]
  ·have hm : p ∈ [38, 60, 62, 34, 97, 109, 112, (59 : Int)] := by
    unfold drawnP at hpp
    simp only [List.mem_cons, List.not_mem_nil, or_false] at hpp ⊢
    omega
   have hk : spec_Escape.one v p = putAll (escP v p) ∧ pointPut p = [p] ∧ p ≠ 194 := by
    cases v with
    | true => exact one_true p hm
    | false => exact one_false p hm
   rw [hk.2.1] at h
   obtain ⟨x, L1, rfl, hx, h1⟩ := List.map_eq_cons_iff.1 h
   rw [escL_cons L1 (fun t e => hk.2.2 (by rw [← hx, e.1]; rfl)), toI_app, ← one_esc, hx, hk.1, ih L1 hpr h1]
theorem escB_told (v : Bool) (x : UInt8) : (∀ y ∈ escB v x, (v = true → y ≠ 34) ∧ (v = false → y ≠ 60 ∧ y ≠ 62)) ∧ 1 ≤ (escB v x).length ∧ (escB v x).length ≤ 6 := by
 unfold escB
 by_cases c1 : x = 38
 ·rw [if_pos c1]; cases v <;> decide
 ·rw [if_neg c1]
  by_cases c2 : x = 34 ∧ v = true
  ·rw [if_pos c2]; cases v <;> decide
  ·rw [if_neg c2]
   by_cases c3 : x = 60 ∧ v = false
   ·rw [if_pos c3]; cases v <;> decide
   ·rw [if_neg c3]
    by_cases c4 : x = 62 ∧ v = false
    ·rw [if_pos c4]; cases v <;> decide
    ·rw [if_neg c4]
     refine ⟨fun y hy => ?_, by simp, by simp⟩
     rw [List.mem_singleton.1 hy]
     exact ⟨fun hv e => c2 ⟨e, hv⟩, fun hv => ⟨fun e => c3 ⟨e, hv⟩, fun e => c4 ⟨e, hv⟩⟩⟩
theorem escL_told (v : Bool) : ∀ (n : Nat) (L : List UInt8), L.length ≤ n → (∀ y ∈ escL v L, (v = true → y ≠ 34) ∧ (v = false → y ≠ 60 ∧ y ≠ 62)) ∧ L.length ≤ (escL v L).length ∧ (escL v L).length ≤ 6 * L.length := by
 intro n
 induction n with
 | zero => intro L h; cases L with | nil => simp [escL] | cons x t => simp at h
 | succ n ih =>
  intro L h
  cases L with
  | nil => simp [escL]
  | cons x t =>
   by_cases c : ∃ r, x = 194 ∧ t = 160 :: r
   ·obtain ⟨r, rfl, rfl⟩ := c
    have e2 : escL v (194 :: 160 :: r) = nbspL ++ escL v r := by simp [escL]
    obtain ⟨g1, g2, g3⟩ := ih r (by simp at h; omega)
    have hn : ∀ y ∈ nbspL, (v = true → y ≠ 34) ∧ (v = false → y ≠ 60 ∧ y ≠ 62) := by cases v <;> decide
    have hl : nbspL.length = 6 := rfl
    rw [e2, List.length_append]
    simp only [List.length_cons]
    exact ⟨fun y hy => (List.mem_append.1 hy).elim (hn y) (g1 y), by omega, by omega⟩
   ·obtain ⟨g1, g2, g3⟩ := ih t (by simpa using h)
    obtain ⟨b1, b2, b3⟩ := escB_told v x
    rw [escL_cons t (fun r e => c ⟨r, e⟩), List.length_append]
    simp only [List.length_cons]
    exact ⟨fun y hy => (List.mem_append.1 hy).elim (b1 y) (g1 y), by omega, by omega⟩
theorem esc_clean (s : ByteArray) (v : Bool) : laws_FnEscape.clean v (impl_Escape.f s v) ∧ s.size ≤ (impl_Escape.f s v).size ∧ (impl_Escape.f s v).size ≤ 6 * s.size := by
 have hd := esc_data s v
 obtain ⟨g1, g2, g3⟩ := escL_told v s.data.toList.length s.data.toList (Nat.le_refl _)
 rw [← hd, data_length, data_length] at g2 g3
 refine ⟨fun i h0 h1 => ?_, g2, g3⟩
 obtain ⟨x, hx, hb⟩ := bt_drop (impl_Escape.f s v) i.toNat (by omega)
 rw [show ((i.toNat : Nat) : Int) = i by omega] at hb
 have hm : x ∈ escL v s.data.toList := by
  rw [← hd]
  exact List.mem_of_mem_drop (i := i.toNat) (by rw [hx]; exact List.mem_cons_self)
 have := g1 x hm
 rw [hb]
 exact ⟨fun hv e => (this.1 hv) ((u8_eq 34 (by omega)).2 e), fun hv => ⟨fun e => (this.2 hv).1 ((u8_eq 60 (by omega)).2 e), fun e => (this.2 hv).2 ((u8_eq 62 (by omega)).2 e)⟩⟩
def dpieces : List ByteArray := [(⟨#[38]⟩ : ByteArray), (⟨#[60]⟩ : ByteArray), (⟨#[62]⟩ : ByteArray), (⟨#[34]⟩ : ByteArray), (⟨#[194, 160]⟩ : ByteArray), (⟨#[97]⟩ : ByteArray), (⟨#[194]⟩ : ByteArray), (⟨#[160]⟩ : ByteArray), (⟨#[38, 97, 109, 112, 59]⟩ : ByteArray)]
theorem dpieces_ok : ∀ s ∈ dpieces, s.size ≤ 5 ∧ ∀ b ∈ bytesOf s, b ∈ [38, 60, 62, 34, 194, 160, 97, 109, 112, (59 : Int)] := by decide
theorem bytesOf_app (a b : ByteArray) : bytesOf (a ++ b) = bytesOf a ++ bytesOf b := by unfold bytesOf; simp
def drawnS (s : ByteArray) : Prop := s.size ≤ 50 ∧ ∀ b ∈ bytesOf s, drawnB b
theorem DrawEsc_l0 (l : List Int) (hl : l.length ≤ 1048576) : ∀ (d : Nat) (i : Int) (s : ByteArray) (p h : Int), 0 ≤ i → i + d = 9 → (s.size : Int) ≤ 5 * i → (∀ b ∈ bytesOf s, drawnB b) → (0 ≤ p ∧ p ≤ (l.length : Int)) → EvP (fun k => spec_DrawEscape.l0 k s i l p h) (fun r => drawnS r.1) := by
 intro d
 induction d with
 | zero =>
  intro i s p h h0 hd hs hb hp
  refine EvP.succ ?_
  simp only [spec_DrawEscape.l0]
  refine EvP.bindS (l1Below_p l p h 9 hl hp (by omega)) (fun b hb2 => EvP.neg (by omega) (EvP.bindS (l1Once_p l _ _ 2 hl hb2.2 (by omega)) (fun q hq => EvP.some ⟨by show s.size ≤ 50; omega, hb⟩)))
 | succ d ih =>
  intro i s p h h0 hd hs hb hp
  refine EvP.succ ?_
  simp only [spec_DrawEscape.l0]
  refine EvP.bindS (l1Below_p l p h 9 hl hp (by omega)) (fun b hb2 => EvP.ite (fun _ => ?_) (fun _ => EvP.bindS (l1Once_p l _ _ 2 hl hb2.2 (by omega)) (fun q hq => EvP.some ⟨by show s.size ≤ 50; omega, hb⟩)))
  refine EvP.bindS (l1Pick_p l b.2.1 b.2.2 dpieces hl hb2.2 (by decide) (by decide)) (fun q hq => ?_)
  obtain ⟨z1, z2⟩ := dpieces_ok q.1 hq.1
  rw [w64 (x := i + 1) (by omega) (by omega)]
  refine EvP.pos (by omega) (ih (i + 1) (s ++ q.1) q.2.1 q.2.2 (by omega) (by omega) (by rw [ByteArray.size_append]; omega) (fun c hc => ?_) hq.2)
  rw [bytesOf_app] at hc
  exact (List.mem_append.1 hc).elim (hb c) (z2 c)
theorem DrawEscape_p (l : List Int) (hl : l.length ≤ 1048576) : EvP (fun k => spec_DrawEscape.f k l) (fun r => drawnS r.1) := by
 unfold spec_DrawEscape.f
 refine EvP.bind (l1New_p l hl) (fun c hc => ?_)
 rw [hc.1]
 exact DrawEsc_l0 l hl 9 0 _ _ _ (by omega) (by omega) (by decide) (by intro b hb; simp [bytesOf] at hb) hc.2
def standsD : List Int → List Int → Bool
 | _, [] => true
 | [], _ :: _ => false
 | x :: t, b :: r => decide (x = b) && standsD t r
theorem stands_drop (l : List Int) : ∀ (s : List Int) (j : Nat), (∀ x ∈ s, 0 ≤ x) → stands l j s = standsD (l.drop j) s := by
 intro s
 induction s with
 | nil => intro j _; cases l.drop j <;> rfl
 | cons b r ih =>
  intro j h
  have hb := h b List.mem_cons_self
  unfold stands
  by_cases c : j < l.length
  ·have e := ih (j + 1) (fun x hx => h x (List.mem_cons_of_mem _ hx))
   rw [List.drop_eq_getElem_cons c]
   unfold standsD
   rw [numAt_in (by omega) (by omega), ← e, rd_get (by omega) (by omega)]
   rfl
  ·rw [List.drop_of_length_le (by omega), numAt_out (by omega)]
   unfold standsD
   rw [decide_eq_false (by omega), Bool.false_and]
def pickD (t : List Int) (cur : ByteArray × Int) (r : S54) : ByteArray × Int := if r.f0.size > cur.1.size ∧ standsD t (bytesOf r.f0) = true then (r.f0, r.f1) else cur
theorem pick_fold (l : List Int) (j : Int) (t : List Int) : ∀ (rs : List S54) (cur : ByteArray × Int), (∀ r ∈ rs, stands l j (bytesOf r.f0) = standsD t (bytesOf r.f0)) → rs.foldl (pick l j) cur = rs.foldl (pickD t) cur := by
 intro rs
 induction rs with
 | nil => intro cur _; rfl
 | cons r rs ih =>
  intro cur h
  rw [List.foldl_cons, List.foldl_cons]
  have e : pick l j cur r = pickD t cur r := by unfold pick pickD; rw [h r List.mem_cons_self]
  rw [e]
  exact ih _ (fun x hx => h x (List.mem_cons_of_mem _ hx))
theorem standsD_app : ∀ (nm s rest : List Int), (s.length ≤ nm.length ∨ standsD nm (s.take nm.length) = false) → standsD (nm ++ rest) s = standsD nm s := by
 intro nm
 induction nm with
 | nil =>
  intro s rest h
  cases s with
  | nil => cases rest <;> rfl
  | cons b r => rcases h with h | h <;> simp [standsD] at h
 | cons x t ih =>
  intro s rest h
  cases s with
  | nil => rfl
  | cons b r =>
   show (decide (x = b) && standsD (t ++ rest) r) = (decide (x = b) && standsD t r)
   by_cases c : x = b
   ·rw [ih r rest]
    rcases h with h | h
    ·left; simpa using h
    ·right
     simp only [List.length_cons, List.take_succ_cons, standsD, decide_eq_true c, Bool.true_and] at h
     exact h
   ·rw [decide_eq_false c, Bool.false_and, Bool.false_and]
def fives : List (List Int × ByteArray × Int) := [([97, 109, 112, 59], ⟨#[97, 109, 112, 59]⟩, 38), ([110, 98, 115, 112, 59], ⟨#[110, 98, 115, 112, 59]⟩, 160), ([113, 117, 111, 116, 59], ⟨#[113, 117, 111, 116, 59]⟩, 34), ([108, 116, 59], ⟨#[108, 116, 59]⟩, 60), ([103, 116, 59], ⟨#[103, 116, 59]⟩, 62)]
theorem fives_cut : ∀ f ∈ fives, ∀ r ∈ refList, (bytesOf r.f0).length ≤ f.1.length ∨ standsD f.1 ((bytesOf r.f0).take f.1.length) = false := by decide +kernel
theorem fives_best : ∀ f ∈ fives, refList.foldl (pickD f.1) (⟨#[]⟩, 0) = (f.2.1, f.2.2) := by decide +kernel
theorem fives_told : ∀ f ∈ fives, f.2.1.size = f.1.length ∧ f.1.length ≤ 5 ∧ 3 ≤ f.1.length ∧ bt f.2.1 ((f.2.1.size : Int) - 1) = 59 ∧ f.1.headD 0 ≠ 35 := by decide +kernel
theorem refList_pos : ∀ r ∈ refList, ∀ x ∈ bytesOf r.f0, 0 ≤ x := by decide +kernel
theorem numAt_drop {l : List Int} {i : Nat} {x : Int} {t : List Int} (h : l.drop i = x :: t) : i < l.length ∧ numAt l i = x ∧ rd l i = x ∧ l.drop (i + 1) = t := by
 have hi : i < l.length := by
  rcases Nat.lt_or_ge i l.length with c | c
  ·exact c
  ·rw [List.drop_of_length_le c] at h; cases h
 rw [List.drop_eq_getElem_cons hi] at h
 injection h with h1 h2
 have e : rd l i = x := by rw [rd_get (by omega) (by omega), ← h1]; rfl
 exact ⟨hi, by rw [numAt_in (by omega) (by omega), e], e, h2⟩
theorem ref_five (m : List Int) (v : Bool) (hm : m.length ≤ 3000) (i : Nat) (f : List Int × ByteArray × Int) (hf : f ∈ fives) (rest : List Int) (h : m.drop i = 38 :: (f.1 ++ rest)) : refRead m i v = ([f.2.2], ((i + 1 + f.1.length : Nat) : Int)) := by
 obtain ⟨g1, g2, g3, g4, g5⟩ := fives_told f hf
 obtain ⟨n1, n2, n3, n4⟩ := numAt_drop h
 have hb : best m ((i + 1 : Nat) : Int) = (f.2.1, f.2.2) := by
  unfold best
  rw [pick_fold m _ f.1 refList _ (fun r hr => ?_), fives_best f hf]
  rw [stands_drop m _ _ (refList_pos r hr), n4]
  exact standsD_app _ _ _ (fives_cut f hf r hr)
 have h35 : numAt m ((i : Int) + 1) ≠ 35 := by
  cases hl : f.1 with
  | nil => rw [hl] at g3; simp at g3
  | cons x t =>
   rw [hl] at n4 g5
   obtain ⟨_, k2, _, _⟩ := numAt_drop n4
   rw [show ((i : Int) + 1) = ((i + 1 : Nat) : Int) by omega, k2]
   exact g5
 have hn : refOf m i v = (f.2.2, ((i + 1 + f.1.length : Nat) : Int)) := by
  unfold refOf
  rw [if_neg h35, show ((i : Int) + 1) = ((i + 1 : Nat) : Int) by omega]
  unfold refNam
  rw [hb]
  simp only
  rw [if_neg (by omega), if_neg (fun e => e.2.2 g4), g1]
  congr 1
 unfold refRead
 rw [if_neg (fun c => c.elim (fun c => by omega) (fun c => c n2)), hn]
 simp only
 rw [if_pos (by omega)]
theorem escP_cases (v : Bool) : ∀ p ∈ [38, 60, 62, 34, 160, 97, 109, 112, (59 : Int)], (escP v p = [p] ∧ p ≠ 38) ∨ ∃ f ∈ fives, escP v p = 38 :: f.1 ∧ f.2.2 = p := by
 cases v <;> decide +kernel
theorem esc_l1 (v : Bool) (m : List Int) (hm : m.length ≤ 3000) : ∀ (r : List Int) (o : List Int) (i : Nat), (∀ p ∈ r, drawnP p) → m.drop i = r.flatMap (escP v) → i ≤ m.length → o.length + r.length ≤ 5000 → Ev (fun k => laws_FnEscape.l1 k m v o i) (o ++ r) := by
 intro r
 induction r with
 | nil =>
  intro o i _ h hi _
  have : m.length ≤ i := by
   rcases Nat.lt_or_ge i m.length with c | c
   ·rw [List.drop_eq_getElem_cons c] at h; cases h
   ·exact c
  refine ev_succ ?_
  simp only [laws_FnEscape.l1]
  exact ev_neg (by omega) (ev_some (by simp))
 | cons p r ih =>
  intro o i hp h hi ho
  have hpr := fun q hq => hp q (List.mem_cons_of_mem _ hq)
  rw [List.flatMap_cons] at h
  rw [List.length_cons] at ho
  rw [show o ++ p :: r = (o ++ [p]) ++ r by simp]
  refine ev_succ ?_
  simp only [laws_FnEscape.l1]
  rcases escP_cases v p (hp p List.mem_cons_self) with ⟨e, hne⟩ | ⟨f, hf, e, hfp⟩
  ·rw [e] at h
   obtain ⟨n1, n2, n3, n4⟩ := numAt_drop h
   rw [n3, w64 (x := (i : Int) + 1) (by omega) (by omega)]
   exact ev_pos (by omega) (ev_pos (by omega) (ev_pos (by omega) (ev_neg hne (ih (o ++ [p]) (i + 1) hpr n4 (by omega) (by rw [List.length_append, List.length_singleton]; omega)))))
  ·rw [e, List.cons_append] at h
   obtain ⟨n1, n2, n3, n4⟩ := numAt_drop h
   obtain ⟨g1, g2, g3, g4, g5⟩ := fives_told f hf
   have hr := ref_five m v hm i f hf (r.flatMap (escP v)) h
   rw [hfp] at hr
   have hd : m.drop (i + 1 + f.1.length) = r.flatMap (escP v) := by
    rw [← List.drop_drop, n4]; simp
   have hlen : i + 1 + f.1.length ≤ m.length := by
    have := congrArg List.length n4
    rw [List.length_drop, List.length_append] at this
    omega
   have hi2 := impl_RefRead_ev m i v
   rw [hr] at hi2
   rw [n3]
   exact ev_pos (by omega) (ev_pos (by omega) (ev_pos (by omega) (ev_pos rfl (Ev.bind hi2 (ev_pos (by show (i : Int) < ((i + 1 + f.1.length : Nat) : Int); omega) (ev_pos (by simp) (ih (o ++ [p]) (i + 1 + f.1.length) hpr hd hlen (by rw [List.length_append, List.length_singleton]; omega))))))))
theorem noBom_drawn (v : Bool) (pts : List Int) (hp : ∀ p ∈ pts, drawnP p) : utfRead (putAll (pts.flatMap (escP v))) = if ((putAll (pts.flatMap (escP v))).length : Int) > 3000 then [] else pts.flatMap (escP v) := by
 have hin : ∀ q ∈ pts.flatMap (escP v), pointOk q = true ∧ q < 128 := by
  intro q hq
  obtain ⟨p, hpm, hq⟩ := List.mem_flatMap.1 hq
  have key : ∀ p ∈ [38, 60, 62, 34, 160, 97, 109, 112, (59 : Int)], ∀ q ∈ escP v p, pointOk q = true ∧ q < 128 := by cases v <;> decide
  exact key p (hp p hpm) q hq
 have hb : unBom (putAll (pts.flatMap (escP v))) = putAll (pts.flatMap (escP v)) := by
  unfold unBom
  rw [if_neg]
  intro e
  cases hl : pts.flatMap (escP v) with
  | nil => rw [hl] at e; simp [putAll] at e
  | cons q r =>
   rw [hl] at e
   have hq := hin q (by rw [hl]; exact List.mem_cons_self)
   have e1 : pointPut q = [q] := by
    unfold pointPut
    rw [point_of hq.1]
    unfold utf8
    rw [if_pos hq.2]
   have e2 : putAll (q :: r) = q :: putAll r := by
    show pointPut q ++ putAll r = _
    rw [e1]; rfl
   rw [e2] at e
   have : q = 239 := by simpa using congrArg (fun t => t.headD 0) e
   omega
 unfold utfRead
 rw [hb, urAll_put _ (fun x hx => (hin x hx).1)]
theorem mem_putAll {pts : List Int} {p b : Int} (hp : p ∈ pts) (hok : pointOk p = true) (hb : b ∈ utf8 p) : b ∈ putAll pts := by
 unfold putAll
 refine List.mem_flatMap.2 ⟨p, hp, ?_⟩
 unfold pointPut
 rw [point_of hok]
 exact hb
end Go.Proofs.YtlnmmcipioagaaaDoor.Y
