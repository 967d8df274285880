/- Plain lemmas over numbers and lists (escS). Conditions: as each states. -/
import Derived.Test.YtlnmmcipioagaaaDoorXxF5
import Derived.Test.YtlnmmcipioagaaaDoorXxF6
import Derived.Test.YtlnmmcipioagaaaDoorYbase
import Derived.Test.YtlnmmcipioagaaaDoorYescL
import Derived.Test.YtlnmmcipioagaaaDoorYstrBytes
namespace Go.Proofs.YtlnmmcipioagaaaDoor.Y
open Go.RowKit Go.Proofs.YtlnmmcipioagaaaDoor.X Go.Proofs.YtlnmmcipioagaaaDoorW.PrintWords Go.Proofs.YtlnmmcipioagaaaDoorW.PrintLast Go.Proofs.YtlnmmcipioagaaaDoorW.PrintMore Go.Proofs.YtlnmmcipioagaaaDoor.Y
set_option linter.unusedVariables false
set_option linter.unusedSimpArgs false
def toI (l : List UInt8) : List Int := l.map fun b => (b.toNat : Int)
theorem toI_app (a b : List UInt8) : toI (a ++ b) = toI a ++ toI b := List.map_append
theorem u8_eq {x : UInt8} (n : Nat) (hn : n < 256) : x = UInt8.ofNat n ↔ (x.toNat : Int) = n := by
  constructor
  · rintro rfl; simp; omega
  · intro h
    apply UInt8.toNat_inj.1
    simp; omega
theorem one_esc (v : Bool) (x : UInt8) : spec_Escape.one v (x.toNat : Int) = toI (escB v x) := by
  have h38 : x = 38 ↔ (x.toNat : Int) = 38 := u8_eq 38 (by omega)
  have h34 : x = 34 ↔ (x.toNat : Int) = 34 := u8_eq 34 (by omega)
  have h60 : x = 60 ↔ (x.toNat : Int) = 60 := u8_eq 60 (by omega)
  have h62 : x = 62 ↔ (x.toNat : Int) = 62 := u8_eq 62 (by omega)
  have hlt := x.toNat_lt
  unfold spec_Escape.one escB
  by_cases c1 : x = 38
  · rw [if_pos (h38.1 c1), if_pos c1]; rfl
  · rw [if_neg (fun e => c1 (h38.2 e)), if_neg c1]
    by_cases c2 : x = 34 ∧ v = true
    · rw [if_pos ⟨h34.1 c2.1, c2.2⟩, if_pos c2]; rfl
    · rw [if_neg (fun e => c2 ⟨h34.2 e.1, e.2⟩), if_neg c2]
      by_cases c3 : x = 60 ∧ v = false
      · rw [if_pos ⟨h60.1 c3.1, c3.2⟩, if_pos c3]; rfl
      · rw [if_neg (fun e => c3 ⟨h60.2 e.1, e.2⟩), if_neg c3]
        by_cases c4 : x = 62 ∧ v = false
        · rw [if_pos ⟨h62.1 c4.1, c4.2⟩, if_pos c4]; rfl
        · rw [if_neg (fun e => c4 ⟨h62.2 e.1, e.2⟩), if_neg c4]
          show [(x.toNat : Int) % 256] = [(x.toNat : Int)]
          rw [Int.emod_eq_of_lt (by omega) (by omega)]
theorem one_len (v : Bool) (b : Int) : (spec_Escape.one v b).length ≤ 6 := by
  unfold spec_Escape.one
  repeat' split
  all_goals simp
theorem bt_drop (s : ByteArray) (i : Nat) (h : i < s.size) : ∃ x, s.data.toList.drop i = x :: s.data.toList.drop (i + 1) ∧ bt s i = (x.toNat : Int) := by
  have hl : i < s.data.toList.length := by rw [data_length]; exact h
  refine ⟨_, List.drop_eq_getElem_cons hl, ?_⟩
  rw [← bt_at s i (by simpa using h)]
  simp; rfl
theorem spec_Escape_l0 (s : ByteArray) (v : Bool) (hs : s.size ≤ 1048576) : ∀ (n i : Nat) (o : List Int), s.size ≤ i + n → i ≤ s.size → o.length + 6 * n ≤ 90000000000 → Ev (fun k => spec_Escape.l0 k s v o i) (strOfNums (o ++ toI (escL v (s.data.toList.drop i)))) := by
  intro n
  induction n using Nat.strongRecOn with
  | _ n ih =>
    intro i o h1 h2 h3
    by_cases hi : i < s.size
    · obtain ⟨x, hx, hb⟩ := bt_drop s i hi
      refine ev_succ ?_
      simp only [spec_Escape.l0]
      refine ev_pos (by omega) (ev_pos (by omega) (ev_pos (by omega) (ev_pos (by omega) ?_)))
      by_cases c : bt s i = 194 ∧ (i : Int) + 1 < s.size ∧ bt s ((i : Int) + 1) = 160
      · obtain ⟨y, hy, hb2⟩ := bt_drop s (i + 1) (by omega)
        have e1 : ((i + 1 : Nat) : Int) = (i : Int) + 1 := by omega
        rw [e1] at hb2
        have ex : x = 194 := (u8_eq 194 (by omega)).2 (by rw [← hb]; exact c.1)
        have ey : y = 160 := (u8_eq 160 (by omega)).2 (by rw [← hb2]; exact c.2.2)
        have e2 : escL v (s.data.toList.drop i) = nbspL ++ escL v (s.data.toList.drop (i + 2)) := by
          rw [hx, hy, ex, ey]; simp [escL]
        have := ih (n - 2) (by omega) (i + 2) (o ++ [38, 110, 98, 115, 112, 59]) (by omega) (by omega) (by rw [List.length_append]; simp only [List.length_cons, List.length_nil]; omega)
        rw [e2, toI_app, ← List.append_assoc]
        rw [show wrap64 ((i : Int) + 1 + 1) = ((i + 2 : Nat) : Int) by rw [w64 (by omega) (by omega)]; omega]
        exact ev_pos c this
      · have hne : ∀ r, ¬ (x = 194 ∧ s.data.toList.drop (i + 1) = 160 :: r) := by
          rintro r ⟨rfl, hr⟩
          have hl : i + 1 < s.size := by
            have := congrArg List.length hr
            rw [List.length_drop, data_length, List.length_cons] at this
            omega
          obtain ⟨y, hy, hb2⟩ := bt_drop s (i + 1) hl
          have e1 : ((i + 1 : Nat) : Int) = (i : Int) + 1 := by omega
          rw [e1] at hb2
          rw [hy] at hr
          have ey : y = 160 := by injection hr
          subst ey
          exact c ⟨hb, by omega, hb2⟩
        have e2 : escL v (s.data.toList.drop i) = escB v x ++ escL v (s.data.toList.drop (i + 1)) := by
          rw [hx, escL_cons _ hne]
        have hl := one_len v (bt s i)
        have := ih (n - 1) (by omega) (i + 1) (o ++ spec_Escape.one v (bt s i)) (by omega) (by omega) (by rw [List.length_append]; omega)
        rw [e2, toI_app, ← one_esc, ← hb, ← List.append_assoc]
        rw [show wrap64 ((i : Int) + 1) = ((i + 1 : Nat) : Int) by rw [w64 (by omega) (by omega)]; omega]
        exact ev_neg c this
    · refine ev_succ ?_
      simp only [spec_Escape.l0]
      rw [List.drop_of_length_le (by rw [data_length]; omega)]
      exact ev_neg (by omega) (ev_some (by simp [escL, toI]))
theorem rb_data (s old new : ByteArray) : (rb s old new).data.toList = Lib.replaceAll s.data.toList old.data.toList new.data.toList := by
  unfold rb; simp
theorem esc_data (s : ByteArray) (v : Bool) : (impl_Escape.f s v).data.toList = escL v s.data.toList := by
  rw [← esc_same v s.data.toList.length s.data.toList (Nat.le_refl _)]
  unfold impl_Escape.f
  have h1 : (rb s ⟨#[38]⟩ ⟨#[38, 97, 109, 112, 59]⟩).data.toList = fA s.data.toList := by
    rw [rb_data]; exact rall_one 38 ampL (by decide) _
  cases v with
  | true =>
    rw [if_pos rfl, rb_data, rb_data, h1]
    exact rall_one 34 quotL (by decide) _
  | false =>
    rw [if_neg (by decide), rb_data, rb_data, rb_data, h1]
    unfold fV
    rw [if_neg (by decide)]
    have e := rall_one 60 ltL (by decide) (R2 (fA s.data.toList))
    rw [← e]
    exact rall_one 62 gtL (by decide) _
theorem spec_Escape_ev (s : ByteArray) (v : Bool) (hs : s.size ≤ 1048576) : Ev (fun k => spec_Escape.f k s v) (impl_Escape.f s v) := by
  have h := spec_Escape_l0 s v hs s.size 0 [] (by omega) (by omega) (by simp; omega)
  have e : strOfNums ([] ++ toI (escL v (s.data.toList.drop 0))) = impl_Escape.f s v := by
    rw [List.drop_zero, List.nil_append, ← esc_data]
    exact str_bytes (impl_Escape.f s v)
  rw [e] at h
  exact h

end Go.Proofs.YtlnmmcipioagaaaDoor.Y
