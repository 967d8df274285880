/- Plain lemmas over numbers and lists for FnExactTreeAdd. Conditions: as each states. -/
import Derived.Lib.Bytes
import Derived.Lib.LazyBuf
import Derived.Lib.Strings
import Derived.Test.YtgneacekgbjkkaaKFnExactTreeAddx5
namespace Go.Proofs.Ytgneacekgbjkkaa.Y
open Go.RowKit Go.Proofs.Ytgneacekgbjkkaa.X Go.Proofs.YtgneacekgbjkkaaW.PrintWords Go.Proofs.YtgneacekgbjkkaaW.PrintLast Go.Proofs.YtgneacekgbjkkaaW.PrintMore Go.Proofs.Ytgneacekgbjkkaa.Y
set_option linter.unusedVariables false
set_option linter.unusedSimpArgs false
theorem wf64 {x : Int} (h : (Lit.int .i64 x).wf = true) : -9223372036854775808 ≤ x ∧ x ≤ 9223372036854775807 := by
 simp only [Lit.wf, Bool.and_eq_true, decide_eq_true_eq] at h
 exact h
theorem wf8 {x : Int} (h : (Lit.int .u8 x).wf = true) : 0 ≤ x ∧ x ≤ 255 := by
 simp only [Lit.wf, Bool.and_eq_true, decide_eq_true_eq] at h
 exact h
theorem w64 {x : Int} (h : -9223372036854775808 ≤ x) (h' : x ≤ 9223372036854775807) : wrap64 x = x := by unfold wrap64; omega
theorem w64_range (x : Int) : -9223372036854775808 ≤ wrap64 x ∧ wrap64 x ≤ 9223372036854775807 := by unfold wrap64; omega
theorem ev_pos {α : Type} {c : Prop} [Decidable c] {g f : Nat → Option α} {r : α} (hc : c) (h : Ev g r) : Ev (fun k => if c then g k else f k) r := by
 simpa only [if_pos hc] using h
theorem ev_neg {α : Type} {c : Prop} [Decidable c] {g f : Nat → Option α} {r : α} (hc : ¬ c) (h : Ev f r) : Ev (fun k => if c then g k else f k) r := by
 simpa only [if_neg hc] using h
theorem ev_const {α : Type} {g : Option α} {r : α} (h : g = some r) : Ev (fun _ => g) r := ⟨0, fun _ _ => h⟩
theorem ev_some {α : Type} {r r' : α} (h : r = r') : Ev (fun _ => some r) r' := ⟨0, fun _ _ => by rw [h]⟩
theorem ev_bindS {α β : Type} {g : Option α} {f : Nat → α → Option β} {a : α} {r : β} (h : g = some a) (k : Ev (fun n => f n a) r) : Ev (fun n => g.bind (f n)) r := by
 subst h; exact k
theorem rd_app_left {xs ys : List Int} {i : Int} (h0 : 0 ≤ i) (h : i < xs.length) : rd (xs ++ ys) i = rd xs i := by
 unfold rd; rw [List.getD_eq_getElem?_getD, List.getD_eq_getElem?_getD, List.getElem?_append_left (by omega)]
theorem rd_drop {xs : List Int} {i : Int} {v : Int} {ys : List Int} (h : xs.drop i.toNat = v :: ys) : rd xs i = v := by
 unfold rd
 have : xs[i.toNat]? = some v := by
  have := congrArg (fun l => l[0]?) h
  simpa using this
 rw [List.getD_eq_getElem?_getD, this]; rfl
/-- One round: what follows is read off by 'simp only [F.j0]'. -/
theorem ev_succ {α : Type} {g : Nat → Option α} {r : α} (h : Ev (fun k => g (k + 1)) r) : Ev g r := Ev.step (fun _ => rfl) h
theorem ev_cast {α : Type} {g : Nat → Option α} {r r' : α} (h : Ev g r) (e : r = r') : Ev g r' := by subst e; exact h
def pointOk (x : Int) : Bool := decide (0 ≤ x ∧ x ≤ 1114111) && !decide (55296 ≤ x ∧ x ≤ 57343)
def numForm : Nat → Int → List Int
 | 0, x => [x]
 | n + 1, x => if x > 127 then (x % 128 + 128) :: numForm n (x / 128) else [x]
theorem numForm_len (n : Nat) : ∀ x, (numForm n x).length ≤ n + 1 := by
 induction n with
 | zero => intro x; simp [numForm]
 | succ n ih => intro x; unfold numForm; split <;> simp [ih]
theorem wraps_i64 (n : Int) (h₀ : 0 ≤ n) (h₁ : n < 2 ^ 63) : IntKind.i64.wrap n = n := by rw [IntKind.wrap_i64]; omega
theorem and127 {x : Int} (h0 : 0 ≤ x) (h1 : x ≤ 9223372036854775807) : Go.bits .and .i64 x 127 = x % 128 := bits_mask .i64 63 (by decide) wraps_i64 7 (by decide) x h0 (by omega)
theorem or128 {y : Int} (h0 : 0 ≤ y) (h1 : y < 128) : Go.bits .or .i64 128 y = 128 + y := bits_join .i64 63 (by decide) wraps_i64 7 128 y (by decide) (by decide) (by decide) h0 h1 (by omega)
theorem pow128 (x : Int) (n : Nat) (h : x < 128 ^ (n + 1 + 1)) : x / 128 < 128 ^ (n + 1) := by
 rw [Int.pow_succ] at h
 generalize (128 : Int) ^ (n + 1) = p at *
 omega
def utf8 (x : Int) : List Int :=
 if x < 128 then [x] else if x < 2048 then [192 + x / 64, 128 + x % 64] else if x < 65536 then [224 + x / 4096, 128 + x / 64 % 64, 128 + x % 64] else [240 + x / 262144, 128 + x / 4096 % 64, 128 + x / 64 % 64, 128 + x % 64]
def point (x : Int) : Int := if pointOk x = true then x else 65533
def pointPut (x : Int) : List Int := utf8 (point x)
theorem pointOk_iff (x : Int) : pointOk x = true ↔ (0 ≤ x ∧ x ≤ 1114111) ∧ ¬ (55296 ≤ x ∧ x ≤ 57343) := by unfold pointOk; simp; omega
theorem pointOk_point (x : Int) : pointOk (point x) = true := by
 unfold point; split
 · assumption
 · decide
theorem point_of {x : Int} (h : pointOk x = true) : point x = x := by unfold point; rw [if_pos h]
theorem point_range (x : Int) : 0 ≤ point x ∧ point x ≤ 1114111 := ((pointOk_iff _).1 (pointOk_point x)).1
theorem utf8_len (x : Int) : 1 ≤ (utf8 x).length ∧ (utf8 x).length ≤ 4 := by
 unfold utf8
 split
 · simp
 · split
   · simp
   · split <;> simp
theorem pointPut_len (x : Int) : 1 ≤ (pointPut x).length ∧ (pointPut x).length ≤ 4 := utf8_len _
theorem utf8_bytes {x : Int} (h0 : 0 ≤ x) (h1 : x ≤ 1114111) : ∀ b ∈ utf8 x, 0 ≤ b ∧ b ≤ 255 := by
 intro b hb
 unfold utf8 at hb
 split at hb
 · simp at hb; omega
 · split at hb
   · simp at hb; omega
   · split at hb
     · simp at hb; omega
     · simp at hb; omega
theorem and63 {x : Int} (h0 : 0 ≤ x) (h1 : x ≤ 9223372036854775807) : Go.bits .and .i64 x 63 = x % 64 := bits_mask .i64 63 (by decide) wraps_i64 6 (by decide) x h0 (by omega)
theorem or192 {y : Int} (h0 : 0 ≤ y) (h1 : y < 32) : Go.bits .or .i64 192 y = 192 + y := bits_join .i64 63 (by decide) wraps_i64 5 192 y (by decide) (by decide) (by decide) h0 h1 (by omega)
theorem or224 {y : Int} (h0 : 0 ≤ y) (h1 : y < 16) : Go.bits .or .i64 224 y = 224 + y := bits_join .i64 63 (by decide) wraps_i64 4 224 y (by decide) (by decide) (by decide) h0 h1 (by omega)
theorem or240 {y : Int} (h0 : 0 ≤ y) (h1 : y < 8) : Go.bits .or .i64 240 y = 240 + y := bits_join .i64 63 (by decide) wraps_i64 3 240 y (by decide) (by decide) (by decide) h0 h1 (by omega)
theorem m256 {y : Int} (h0 : 0 ≤ y) (h1 : y < 256) : y % 256 = y := Int.emod_eq_of_lt h0 h1
def putAll (l : List Int) : List Int := l.flatMap pointPut
theorem putAll_len (l : List Int) : l.length ≤ (putAll l).length ∧ (putAll l).length ≤ 4 * l.length := by
 induction l with
 | nil => simp [putAll]
 | cons x xs ih =>
  have := pointPut_len x
  simp only [putAll, List.flatMap_cons, List.length_append, List.length_cons] at *
  omega
theorem rd_get {l : List Int} {i : Int} (h0 : 0 ≤ i) (h : i < l.length) : rd l i = l[i.toNat]'(by omega) := by
 unfold rd; rw [List.getD_eq_getElem?_getD, List.getElem?_eq_getElem (by omega)]; rfl
theorem drop_cons {l : List Int} {i : Int} (h0 : 0 ≤ i) (h : i < l.length) : l.drop i.toNat = rd l i :: l.drop (i + 1).toNat := by
 have e : (i + 1).toNat = i.toNat + 1 := by omega
 rw [e, rd_get h0 h]; exact List.drop_eq_getElem_cons (by omega)
def formN (b : Int) : Nat := if b < 128 then 1 else if 194 ≤ b ∧ b ≤ 223 then 2 else if 224 ≤ b ∧ b ≤ 239 then 3 else if 240 ≤ b ∧ b ≤ 244 then 4 else 0
def formX (b : Int) : Int := if b < 128 then b else if b ≤ 223 then b - 192 else if b ≤ 239 then b - 224 else b - 240
def low1 (b : Int) : Int := if b = 224 then 160 else if b = 240 then 144 else 128
def high1 (b : Int) : Int := if b = 237 then 159 else if b = 244 then 143 else 191
/-- How many of the next d bytes stand in their bounds, the first in those that are told. -/
def mk : Nat → List Int → Int → Int → Nat
 | 0, _, _, _ => 0
 | _ + 1, [], _, _ => 0
 | d + 1, b :: r, lo, hi => if lo ≤ b ∧ b ≤ hi then mk d r 128 191 + 1 else 0
def vl : Nat → List Int → Int → Int
 | 0, _, x => x
 | _ + 1, [], x => x
 | d + 1, b :: r, x => vl d r (64 * x + b - 128)
def readPt : List Int → Int × Nat
 | [] => (65533, 1)
 | b :: r => if formN b = 0 then (65533, 1) else if mk (formN b - 1) r (low1 b) (high1 b) < formN b - 1 then (65533, mk (formN b - 1) r (low1 b) (high1 b) + 1) else (vl (formN b - 1) r (formX b), formN b)
def ur : Nat → List Int → List Int
 | 0, _ => []
 | _ + 1, [] => []
 | n + 1, b :: r => (readPt (b :: r)).1 :: ur n ((b :: r).drop (readPt (b :: r)).2)
theorem mk_le : ∀ (d : Nat) (r : List Int) (lo hi : Int), mk d r lo hi ≤ d ∧ mk d r lo hi ≤ r.length
 | 0, r, lo, hi => by simp [mk]
 | d + 1, [], lo, hi => by simp [mk]
 | d + 1, b :: r, lo, hi => by
  unfold mk; split
  · have := mk_le d r 128 191; simp only [List.length_cons]; omega
  · simp
theorem formN_le (b : Int) : formN b ≤ 4 := by
 unfold formN; split
 · omega
 · split
   · omega
   · split
     · omega
     · split <;> omega
theorem readPt_n (b : Int) (r : List Int) : 1 ≤ (readPt (b :: r)).2 ∧ (readPt (b :: r)).2 ≤ (b :: r).length := by
 have h := mk_le (formN b - 1) r (low1 b) (high1 b)
 simp only [readPt]
 by_cases h0 : formN b = 0
 · rw [if_pos h0]; simp
 · rw [if_neg h0]
   by_cases h1 : mk (formN b - 1) r (low1 b) (high1 b) < formN b - 1
   · rw [if_pos h1]; simp only [List.length_cons]; omega
   · rw [if_neg h1]; simp only [List.length_cons]; omega
theorem ur_nil (n : Nat) : ur n [] = [] := by cases n <;> rfl
theorem ur_len : ∀ (n : Nat) (l : List Int), (ur n l).length ≤ l.length
 | 0, l => by simp [ur]
 | n + 1, [] => by simp [ur]
 | n + 1, b :: r => by
  have h := readPt_n b r
  have := ur_len n ((b :: r).drop (readPt (b :: r)).2)
  simp only [ur, List.length_cons, List.length_drop] at *
  omega
/-- Where there are rounds enough, how many does not count. -/
theorem ur_more : ∀ (n m : Nat) (l : List Int), l.length ≤ n → l.length ≤ m → ur n l = ur m l := by
 intro n
 induction n with
 | zero =>
  intro m l h _
  have : l = [] := List.length_eq_zero_iff.1 (by omega)
  subst this; rw [ur_nil, ur_nil]
 | succ n ih =>
  intro m l h h'
  cases l with
  | nil => rw [ur_nil, ur_nil]
  | cons b r =>
   cases m with
   | zero => simp at h'
   | succ m =>
    have hn := readPt_n b r
    simp only [List.length_cons] at h h' hn
    simp only [ur]
    rw [ih m _ (by simp only [List.length_drop, List.length_cons]; omega) (by simp only [List.length_drop, List.length_cons]; omega)]
def urAll (l : List Int) : List Int := ur l.length l
theorem urAll_cons (b : Int) (r : List Int) : urAll (b :: r) = (readPt (b :: r)).1 :: urAll ((b :: r).drop (readPt (b :: r)).2) := by
 have hn := readPt_n b r
 show (readPt (b :: r)).1 :: ur r.length _ = _
 unfold urAll
 rw [ur_more r.length _ _ (by simp only [List.length_drop, List.length_cons] at *; omega) (Nat.le_refl _)]
theorem urAll_len (l : List Int) : (urAll l).length ≤ l.length := ur_len _ _
def unBom (l : List Int) : List Int := if l.take 3 = [239, 187, 191] then l.drop 3 else l
def utfRead (l : List Int) : List Int := if (l.length : Int) > 3000 then [] else urAll (unBom l)
theorem unBom_len (l : List Int) : (unBom l).length ≤ l.length := by unfold unBom; split <;> simp
theorem utfRead_len (l : List Int) : (utfRead l).length ≤ 3000 ∧ (utfRead l).length ≤ l.length := by
 unfold utfRead; split
 · simp
 · have := urAll_len (unBom l); have := unBom_len l; omega
theorem rd_bytes {l : List Int} (hw : ∀ x ∈ l, (Lit.int .u8 x).wf = true) (i : Int) : 0 ≤ rd l i ∧ rd l i ≤ 255 := by
 unfold rd
 rw [List.getD_eq_getElem?_getD]
 cases h : l[i.toNat]? with
 | none => simp
 | some v => exact wf8 (hw v (List.mem_of_getElem? h))
theorem wf_drop {l : List Int} (hw : ∀ x ∈ l, (Lit.int .u8 x).wf = true) (n : Nat) : ∀ x ∈ l.drop n, (Lit.int .u8 x).wf = true := fun x hx => hw x (List.mem_of_mem_drop hx)
def lim : Nat → Int
 | 0 => 1099511627776
 | 1 => 4294967296
 | 2 => 16777216
 | _ => 65536
theorem spec_l1In_eq (x a b : Int) : spec_l1In.f x a b = some (decide (a ≤ x ∧ x ≤ b)) := by
 unfold spec_l1In.f
 by_cases h : x ≥ a
 · rw [if_pos h]; congr 1; simp; omega
 · rw [if_neg h]; congr 1; simp; omega
theorem l1Forms_eq (b : Int) : spec_l1Forms.f b = some (formN b : Int) := by
 unfold spec_l1Forms.f formN
 simp only [spec_l1In_eq, Option.bind_some, decide_eq_true_eq]
 by_cases a : b < 128
 · simp [a]
 · simp only [if_neg a]
   split
   · rfl
   · split
     · rfl
     · split <;> rfl
theorem l1Fits_eq (b : Int) (c : Int) (x : Int) : spec_l1Fits.f b c x = some (decide ((if c = 1 then low1 b else 128) ≤ x ∧ x ≤ (if c = 1 then high1 b else 191))) := by
 unfold spec_l1Fits.f low1 high1
 simp only [spec_l1In_eq, Option.bind_some]
 by_cases hc : c = 1
 · simp only [if_pos hc]
   by_cases h1 : b = 224
   · subst h1; simp
   · by_cases h2 : b = 237
     · subst h2; simp
     · by_cases h3 : b = 240
       · subst h3; simp
       · by_cases h4 : b = 244
         · subst h4; simp
         · simp [h1, h2, h3, h4]
 · simp [hc]
theorem l1Read_l1 (l acc : List Int) (hl : l.length ≤ 1000000000) (hw : ∀ x ∈ l, (Lit.int .u8 x).wf = true) (a n : Int) (ha : 0 ≤ a) (ha2 : a < l.length) (b : Int) (res : List Int) : ∀ (d : Nat) (c : Nat), 1 ≤ c → (c : Int) + d = n → n ≤ 4 → (m : Nat) → m = mk d (l.drop (a + c).toNat) (if (c : Int) = 1 then low1 b else 128) (if (c : Int) = 1 then high1 b else 191) →
 Ev (fun k => spec_l1Read.j2 k l acc a b n ((c + m : Nat) : Int)) res → Ev (fun k => spec_l1Read.l1 k l acc a b n c) res := by
 intro d
 induction d with
 | zero =>
  intro c h1 hd h4 m hm hj
  have : m = 0 := by rw [hm]; simp [mk]
  subst this
  refine Ev.step (f := fun k => spec_l1Read.j2 k l acc a b n c) (fun k => ?_) hj
  simp only [spec_l1Read.l1]; rw [if_neg (by omega)]
 | succ d ih =>
  intro c h1 hd h4 m hm hj
  have e1 : wrap64 (a + c) = a + c := w64 (by omega) (by omega)
  by_cases hlt : a + c < l.length
  · rw [drop_cons (by omega) hlt] at hm
    have hb := rd_bytes hw (a + c)
    unfold mk at hm
    by_cases hf : (if (c : Int) = 1 then low1 b else 128) ≤ rd l (a + c) ∧ rd l (a + c) ≤ (if (c : Int) = 1 then high1 b else 191)
    · rw [if_pos hf] at hm
      refine Ev.step (f := fun k => spec_l1Read.l1 k l acc a b n ((c + 1 : Nat) : Int)) (fun k => ?_) (ih (c + 1) (by omega) (by omega) h4 (m - 1) ?_ ?_)
      · simp only [spec_l1Read.l1, e1, l1Fits_eq, Option.bind_some]
        rw [w64 (x := rd l (a + c)) (by omega) (by omega), decide_eq_true hf, if_pos (by omega), if_pos hlt, if_pos (by omega), if_pos rfl, w64 (x := (c : Int) + 1) (by omega) (by omega)]; rfl
      · rw [if_neg (by omega), if_neg (by omega), show a + ((c + 1 : Nat) : Int) = a + c + 1 by omega]; omega
      · rwa [show c + 1 + (m - 1) = c + m by omega]
    · rw [if_neg hf] at hm
      subst hm
      refine Ev.step (f := fun k => spec_l1Read.j2 k l acc a b n c) (fun k => ?_) hj
      simp only [spec_l1Read.l1, e1, l1Fits_eq, Option.bind_some]
      rw [w64 (x := rd l (a + c)) (by omega) (by omega), decide_eq_false hf, if_pos (by omega), if_pos hlt, if_pos (by omega), if_neg (by simp)]
  · rw [List.drop_of_length_le (by omega)] at hm
    unfold mk at hm
    subst hm
    refine Ev.step (f := fun k => spec_l1Read.j2 k l acc a b n c) (fun k => ?_) hj
    simp only [spec_l1Read.l1, e1]
    rw [if_pos (by omega), if_neg hlt]
theorem l1Read_l2 (l acc : List Int) (hl : l.length ≤ 1000000000) (hacc : acc.length ≤ 1000000000) (hw : ∀ x ∈ l, (Lit.int .u8 x).wf = true) (a n : Int) (ha : 0 ≤ a) (han : a + n ≤ l.length) (res : List Int) : ∀ (d : Nat) (c : Nat) (x : Int), 1 ≤ c → (c : Int) + d = n → n ≤ 4 → (m : Int) → m = vl d (l.drop (a + c).toNat) x → mk d (l.drop (a + c).toNat) 0 255 = 0 ∨ True → -lim d ≤ x → x ≤ lim d →
 Ev (fun k => spec_l1Read.l0 k l (acc ++ [m]) (a + n)) res → Ev (fun k => spec_l1Read.l2 k l acc a n x c) res := by
 intro d
 induction d with
 | zero =>
  intro c x h1 hd h4 m hm _ hx0 hx1 hj
  simp only [vl] at hm; subst hm
  refine Ev.step (f := fun k => spec_l1Read.l0 k l (acc ++ [m]) (a + n)) (fun k => ?_) hj
  simp only [spec_l1Read.l2]; rw [if_neg (by omega), if_pos (by omega), w64 (by omega) (by omega)]
 | succ d ih =>
  intro c x h1 hd h4 m hm _ hx0 hx1 hj
  have e1 : wrap64 (a + c) = a + c := w64 (by omega) (by omega)
  have hlt : a + c < l.length := by omega
  rw [drop_cons (by omega) hlt] at hm
  have hb := rd_bytes hw (a + c)
  simp only [vl] at hm
  have hL : lim (d + 1) ≤ 4294967296 ∧ 64 * lim (d + 1) + 255 ≤ lim d := by
   have : d = 0 ∨ d = 1 ∨ d = 2 := by omega
   rcases this with rfl | rfl | rfl <;> simp [lim]
  refine Ev.step (f := fun k => spec_l1Read.l2 k l acc a n (64 * x + rd l (a + c) - 128) ((c + 1 : Nat) : Int)) (fun k => ?_) (ih (c + 1) _ (by omega) (by omega) h4 m ?_ (.inr trivial) (by omega) (by omega) hj)
  · simp only [spec_l1Read.l2, e1]
    rw [w64 (x := rd l (a + c)) (by omega) (by omega), w64 (x := 64 * x) (by omega) (by omega), w64 (x := 64 * x + _) (by omega) (by omega), w64 (x := _ - 128) (by omega) (by omega), w64 (x := (c : Int) + 1) (by omega) (by omega), if_pos (by omega), if_pos (by omega), if_pos hlt]; rfl
  · rw [hm, show a + ((c + 1 : Nat) : Int) = a + c + 1 by omega]
theorem l1Read_l0 (l : List Int) (hl : l.length ≤ 1000000000) (hw : ∀ x ∈ l, (Lit.int .u8 x).wf = true) : ∀ (d : Nat) (a : Int) (acc : List Int), 0 ≤ a → a ≤ l.length → l.length - a ≤ d → acc.length ≤ a →
 Ev (fun k => spec_l1Read.l0 k l acc a) (acc ++ urAll (l.drop a.toNat)) := by
 intro d
 induction d with
 | zero =>
  intro a acc h0 h1 h2 h3
  refine Ev.step (f := fun _ => some acc) (fun k => ?_) (ev_some ?_)
  · simp only [spec_l1Read.l0]; rw [if_neg (by omega)]
  · rw [List.drop_of_length_le (by omega)]; simp [urAll, ur]
 | succ d ih =>
  intro a acc h0 h1 h2 h3
  by_cases hlt : a < l.length
  · have hb := rd_bytes hw a
    have hr := readPt_n (rd l a) (l.drop (a + 1).toNat)
    have hcons := drop_cons h0 hlt
    have hmk := mk_le (formN (rd l a) - 1) (l.drop (a + 1).toNat) (low1 (rd l a)) (high1 (rd l a))
    have hf4 := formN_le (rd l a)
    have hlen : (l.drop (a + 1).toNat).length = l.length - a.toNat - 1 := by rw [List.length_drop]; omega
    rw [hlen] at hmk
    rw [hcons, urAll_cons, ← hcons]
    have hdd : ∀ m : Nat, (l.drop a.toNat).drop m = l.drop (a + m).toNat := fun m => by rw [List.drop_drop]; congr 1; omega
    rw [hdd]
    have key : Ev (fun k => spec_l1Read.l0 k l (acc ++ [(readPt (l.drop a.toNat)).1]) (a + ((readPt (l.drop a.toNat)).2 : Int))) (acc ++ (readPt (l.drop a.toNat)).1 :: urAll (l.drop (a + ((readPt (l.drop a.toNat)).2 : Int)).toNat)) := by
     rw [← hcons] at hr
     rw [List.length_drop] at hr
     have := ih (a + ((readPt (l.drop a.toNat)).2 : Int)) (acc ++ [(readPt (l.drop a.toNat)).1]) (by omega) (by omega) (by omega) (by simp; omega)
     simpa using this
    generalize hres : acc ++ (readPt (l.drop a.toNat)).1 :: urAll (l.drop (a + ((readPt (l.drop a.toNat)).2 : Int)).toNat) = res at *
    rw [hcons] at key
    simp only [readPt] at key
    refine Ev.step (f := fun k => spec_l1Read.l1 k l acc a (rd l a) (formN (rd l a) : Int) ((1 : Nat) : Int)) (fun k => ?_) ?_
    · simp only [spec_l1Read.l0, l1Forms_eq, Option.bind_some]; rw [if_pos hlt, if_pos h0, w64 (x := rd l a) (by omega) (by omega)]; rfl
    by_cases hz : formN (rd l a) = 0
    · rw [if_pos hz] at key
      refine Ev.step (f := fun k => spec_l1Read.j2 k l acc a (rd l a) (formN (rd l a) : Int) 1) (fun k => ?_) (Ev.step (f := fun k => spec_l1Read.j3 k l acc a (rd l a) (formN (rd l a) : Int) 1 true) (fun k => ?_) (Ev.step (fun k => ?_) key))
      · simp only [spec_l1Read.l1]; rw [if_neg (by omega)]; rfl
      · simp only [spec_l1Read.j2]; rw [if_pos (by omega)]
      · simp only [spec_l1Read.j3, if_true]; rw [if_pos (by omega), w64 (by omega) (by omega)]; rfl
    · rw [if_neg hz] at key
      refine l1Read_l1 l acc hl hw a _ h0 hlt (rd l a) res (formN (rd l a) - 1) 1 (by omega) (by omega) (by omega) (mk (formN (rd l a) - 1) (l.drop (a + 1).toNat) (low1 (rd l a)) (high1 (rd l a))) rfl ?_
      generalize hm : mk (formN (rd l a) - 1) (l.drop (a + 1).toNat) (low1 (rd l a)) (high1 (rd l a)) = m at *
      by_cases hs : m < formN (rd l a) - 1
      · rw [if_pos hs] at key
        refine Ev.step (f := fun k => spec_l1Read.j3 k l acc a (rd l a) (formN (rd l a) : Int) ((1 + m : Nat) : Int) true) (fun k => ?_) (Ev.step (fun k => ?_) key)
        · simp only [spec_l1Read.j2]; rw [if_neg (by omega), decide_eq_true (by omega)]
        · simp only [spec_l1Read.j3, if_true]; rw [if_pos (by omega), w64 (by omega) (by omega), Nat.add_comm 1 m]
      · rw [if_neg hs] at key
        refine Ev.step (f := fun k => spec_l1Read.j3 k l acc a (rd l a) (formN (rd l a) : Int) ((1 + m : Nat) : Int) false) (fun k => ?_) (Ev.step (f := fun k => spec_l1Read.j4 k l acc a (formN (rd l a) : Int) (formX (rd l a))) (fun k => ?_) (Ev.step (f := fun k => spec_l1Read.l2 k l acc a (formN (rd l a) : Int) (formX (rd l a)) ((1 : Nat) : Int)) (fun k => ?_) ?_))
        · simp only [spec_l1Read.j2]; rw [if_neg (by omega), decide_eq_false (by omega)]
        · simp only [spec_l1Read.j3, Bool.false_eq_true, if_false]
          have : formN (rd l a) = 1 ∧ rd l a < 128 ∨ formN (rd l a) = 2 ∧ 194 ≤ rd l a ∧ rd l a ≤ 223 ∨ formN (rd l a) = 3 ∧ 224 ≤ rd l a ∧ rd l a ≤ 239 ∨ formN (rd l a) = 4 ∧ 240 ≤ rd l a ∧ rd l a ≤ 244 := by
           unfold formN at hz ⊢
           by_cases a1 : rd l a < 128
           · simp [a1]
           · by_cases a2 : 194 ≤ rd l a ∧ rd l a ≤ 223
             · simp [a1, a2]
             · by_cases a3 : 224 ≤ rd l a ∧ rd l a ≤ 239
               · simp [a1, a2, a3]
               · by_cases a4 : 240 ≤ rd l a ∧ rd l a ≤ 244
                 · simp [a1, a2, a3, a4]
                 · simp [a1, a2, a3, a4] at hz
          have hx : formN (rd l a) = 1 ∧ formX (rd l a) = rd l a ∨ formN (rd l a) = 2 ∧ formX (rd l a) = rd l a - 192 ∨ formN (rd l a) = 3 ∧ formX (rd l a) = rd l a - 224 ∨ formN (rd l a) = 4 ∧ formX (rd l a) = rd l a - 240 := by
           unfold formX
           rcases this with ⟨h, g⟩ | ⟨h, g, g'⟩ | ⟨h, g, g'⟩ | ⟨h, g, g'⟩
           · exact .inl ⟨h, by rw [if_pos g]⟩
           · exact .inr (.inl ⟨h, by rw [if_neg (by omega), if_pos (by omega)]⟩)
           · exact .inr (.inr (.inl ⟨h, by rw [if_neg (by omega), if_neg (by omega), if_pos (by omega)]⟩))
           · exact .inr (.inr (.inr ⟨h, by rw [if_neg (by omega), if_neg (by omega), if_neg (by omega)]⟩))
          rcases hx with ⟨h, g⟩ | ⟨h, g⟩ | ⟨h, g⟩ | ⟨h, g⟩
          · rw [h, g]; rfl
          · rw [h, g, w64 (x := rd l a - 192) (by omega) (by omega)]; rfl
          · rw [h, g, w64 (x := rd l a - 224) (by omega) (by omega)]; rfl
          · rw [h, g, w64 (x := rd l a - 240) (by omega) (by omega)]; rfl
        · simp only [spec_l1Read.j4]; rfl
        · have hX : -255 ≤ formX (rd l a) ∧ formX (rd l a) ≤ 255 := by
           unfold formX; split
           · omega
           · split
             · omega
             · split <;> omega
          have hL : 255 ≤ lim (formN (rd l a) - 1) := by
           unfold lim; split <;> omega
          exact l1Read_l2 l acc hl (by omega) hw a _ h0 (by omega) res (formN (rd l a) - 1) 1 (formX (rd l a)) (by omega) (by omega) (by omega) _ rfl (.inr trivial) (by omega) (by omega) key
  · refine Ev.step (f := fun _ => some acc) (fun k => ?_) (ev_some ?_)
    · simp only [spec_l1Read.l0]; rw [if_neg hlt]
    · rw [List.drop_of_length_le (by omega)]; simp [urAll, ur]
theorem l1Read_ev (l : List Int) (hl : l.length ≤ 1000000000) (hw : ∀ x ∈ l, (Lit.int .u8 x).wf = true) : Ev (fun k => spec_l1Read.f k l) (urAll l) := by
 unfold spec_l1Read.f
 simpa using l1Read_l0 l hl hw l.length 0 [] (by omega) (by omega) (by omega) (by simp)
theorem spec_UtfRead_ev (l : List Int) (hw : ∀ x ∈ l, (Lit.int .u8 x).wf = true) : Ev (fun k => spec_UtfRead.f k l) (utfRead l) := by
 unfold spec_UtfRead.f utfRead
 by_cases h : (l.length : Int) > 3000
 · simp only [if_pos h]; exact Ev.now _
 simp only [if_neg h]
 have hj : ∀ c : Bool, (c = true → 3 ≤ l.length) → Ev (fun k => spec_UtfRead.j0 k l c) (urAll (if c = true then l.drop 3 else l)) := by
  intro c hc
  refine ev_succ ?_
  simp only [spec_UtfRead.j0]
  cases c with
  | true => exact ev_pos rfl (ev_pos (by have := hc rfl; omega) (Ev.bind (l1Read_ev _ (by simp only [List.length_drop]; omega) (wf_drop hw 3)) (Ev.now _)))
  | false => exact ev_neg (by simp) (Ev.bind (l1Read_ev l (by omega) hw) (Ev.now _))
 by_cases h3 : l.length ≥ 3
 · obtain ⟨a, b, c, r, rfl⟩ : ∃ a b c r, l = a :: b :: c :: r := by
    match l, h3 with
    | a :: b :: c :: r, _ => exact ⟨a, b, c, r, rfl⟩
   have e0 : rd (a :: b :: c :: r) 0 = a := rfl
   have e1 : rd (a :: b :: c :: r) 1 = b := rfl
   have e2 : rd (a :: b :: c :: r) 2 = c := rfl
   refine ev_pos (by omega) (ev_pos (by simp only [List.length_cons]; omega) ?_)
   simp only [e0, e1, e2]
   have hu : unBom (a :: b :: c :: r) = if (decide (a = 239) && decide (b = 187) && decide (c = 191)) = true then (a :: b :: c :: r).drop 3 else a :: b :: c :: r := by
    unfold unBom
    have : (a :: b :: c :: r).take 3 = [a, b, c] := rfl
    rw [this]
    by_cases g : a = 239 ∧ b = 187 ∧ c = 191
    · obtain ⟨rfl, rfl, rfl⟩ := g; simp
    · rw [if_neg (by simpa using g), if_neg (by simpa [and_assoc] using g)]
   rw [hu]
   by_cases g1 : a = 239
   · refine ev_pos g1 (ev_pos (by simp only [List.length_cons]; omega) ?_)
     by_cases g2 : b = 187
     · refine ev_pos g2 (ev_pos (by simp only [List.length_cons]; omega) ?_)
       have := hj (c == 191) (fun _ => h3)
       rw [show (decide (a = 239) && decide (b = 187) && decide (c = 191)) = (c == 191) by simp [g1, g2]; rfl]
       exact this
     · refine ev_neg g2 ?_
       rw [show (decide (a = 239) && decide (b = 187) && decide (c = 191)) = false by simp [g2]]
       exact hj false (by simp)
   · refine ev_neg g1 ?_
     rw [show (decide (a = 239) && decide (b = 187) && decide (c = 191)) = false by simp [g1]]
     exact hj false (by simp)
 · refine ev_neg (by omega) ?_
   have : unBom l = l := by
    unfold unBom; rw [if_neg]
    intro g; have := congrArg List.length g; simp at this; omega
   rw [this]
   exact hj false (by simp)
theorem byte_inj {a b : Int} (ha : 0 ≤ a ∧ a ≤ 255) (hb : 0 ≤ b ∧ b ≤ 255) (h : UInt8.ofNat a.toNat = UInt8.ofNat b.toNat) : a = b := by
 have := congrArg UInt8.toNat h
 simp only [UInt8.toNat_ofNat'] at this
 omega
theorem bytes_inj : ∀ (l m : List Int), (∀ x ∈ l, (Lit.int .u8 x).wf = true) → (∀ x ∈ m, (Lit.int .u8 x).wf = true) → Lib.bytesOf l = Lib.bytesOf m → l = m
 | [], [], _, _, _ => rfl
 | [], b :: m, _, _, h => by simp [Lib.bytesOf] at h
 | a :: l, [], _, _, h => by simp [Lib.bytesOf] at h
 | a :: l, b :: m, hl, hm, h => by
  simp only [Lib.bytesOf, List.map_cons, List.cons.injEq] at h
  have e1 := byte_inj (wf8 (hl a (by simp))) (wf8 (hm b (by simp))) h.1
  have e2 := bytes_inj l m (fun x hx => hl x (by simp [hx])) (fun x hx => hm x (by simp [hx])) h.2
  rw [e1, e2]
theorem nums_eq (l m : List Int) (hl : ∀ x ∈ l, (Lit.int .u8 x).wf = true) (hm : ∀ x ∈ m, (Lit.int .u8 x).wf = true) : ((strOfNums l).toList == (strOfNums m).toList) = decide (l = m) := by
 rw [Lib.strOfNums_toList, Lib.strOfNums_toList]
 by_cases h : l = m
 · subst h; simp
 · have : Lib.bytesOf l ≠ Lib.bytesOf m := fun e => h (bytes_inj l m hl hm e)
   simp [h, this]
theorem and31 {x : Int} (h0 : 0 ≤ x) (h1 : x ≤ 255) : Go.bits .and .u8 x 31 = x % 32 := bits_mask .u8 8 (by decide) wraps_u8 5 (by decide) x h0 (by omega)
theorem and15 {x : Int} (h0 : 0 ≤ x) (h1 : x ≤ 255) : Go.bits .and .u8 x 15 = x % 16 := bits_mask .u8 8 (by decide) wraps_u8 4 (by decide) x h0 (by omega)
theorem and7 {x : Int} (h0 : 0 ≤ x) (h1 : x ≤ 255) : Go.bits .and .u8 x 7 = x % 8 := bits_mask .u8 8 (by decide) wraps_u8 3 (by decide) x h0 (by omega)
theorem and63b {x : Int} (h0 : 0 ≤ x) (h1 : x ≤ 255) : Go.bits .and .u8 x 63 = x % 64 := bits_mask .u8 8 (by decide) wraps_u8 6 (by decide) x h0 (by omega)
theorem formOf_ev (b : Int) (h0 : 0 ≤ b) (h1 : b ≤ 255) : Ev (fun k => impl_formOf.f k b) ((formN b : Int), if formN b = 0 then 0 else formX b) := by
 unfold impl_formOf.f
 by_cases a : b < 128
 · refine ev_pos a (ev_some ?_)
   have e : formN b = 1 := by unfold formN; rw [if_pos a]
   rw [e]; unfold formX; rw [if_pos a, w64 (by omega) (by omega)]; rfl
 refine ev_neg a ?_
 have step : Ev (fun k => impl_formOf.j0 k b (decide (194 ≤ b ∧ b ≤ 223))) ((formN b : Int), if formN b = 0 then 0 else formX b) := by
  refine ev_succ ?_
  simp only [impl_formOf.j0, decide_eq_true_eq]
  by_cases c : 194 ≤ b ∧ b ≤ 223
  · refine ev_pos c (ev_some ?_)
    have e : formN b = 2 := by unfold formN; rw [if_neg a, if_pos c]
    rw [e, and31 h0 h1, w64 (by omega) (by omega)]; rw [if_neg (by omega)]; unfold formX; rw [if_neg a, if_pos (by omega), show b % 32 = b - 192 by omega]; rfl
  refine ev_neg c ?_
  have step : Ev (fun k => impl_formOf.j1 k b (decide (224 ≤ b ∧ b ≤ 239))) ((formN b : Int), if formN b = 0 then 0 else formX b) := by
   refine ev_succ ?_
   simp only [impl_formOf.j1, decide_eq_true_eq]
   by_cases d : 224 ≤ b ∧ b ≤ 239
   · refine ev_pos d (ev_some ?_)
     have e : formN b = 3 := by unfold formN; rw [if_neg a, if_neg c, if_pos d]
     rw [e, and15 h0 h1, w64 (by omega) (by omega)]; rw [if_neg (by omega)]; unfold formX; rw [if_neg a, if_neg (by omega), if_pos (by omega), show b % 16 = b - 224 by omega]; rfl
   refine ev_neg d ?_
   by_cases e : 240 ≤ b ∧ b ≤ 244
   · refine ev_pos e.1 (ev_pos e.2 (ev_some ?_))
     have e4 : formN b = 4 := by unfold formN; rw [if_neg a, if_neg c, if_neg d, if_pos e]
     rw [e4, and7 h0 h1, w64 (by omega) (by omega)]; rw [if_neg (by omega)]; unfold formX; rw [if_neg a, if_neg (by omega), if_neg (by omega), show b % 8 = b - 240 by omega]; rfl
   · have e0 : formN b = 0 := by unfold formN; rw [if_neg a, if_neg c, if_neg d, if_neg e]
     rw [e0]
     by_cases g : b ≥ 240
     · exact ev_pos g (ev_neg (by omega) (ev_some (by simp)))
     · exact ev_neg g (ev_some (by simp))
  by_cases g : b ≥ 224
  · refine ev_pos g ?_
    rwa [show decide (224 ≤ b ∧ b ≤ 239) = decide (b ≤ 239) by simp; omega] at step
  · refine ev_neg g ?_
    rwa [show decide (224 ≤ b ∧ b ≤ 239) = false by simp; omega] at step
 by_cases g : b ≥ 194
 · refine ev_pos g ?_
   rwa [show decide (194 ≤ b ∧ b ≤ 223) = decide (b ≤ 223) by simp; omega] at step
 · refine ev_neg g ?_
   rwa [show decide (194 ≤ b ∧ b ≤ 223) = false by simp; omega] at step
theorem boundsOf_eq (b : Int) : impl_boundsOf.f b = some (low1 b, high1 b) := by
 unfold impl_boundsOf.f low1 high1
 by_cases h1 : b = 224
 · subst h1; simp
 · by_cases h2 : b = 237
   · subst h2; simp
   · by_cases h3 : b = 240
     · subst h3; simp
     · by_cases h4 : b = 244
       · subst h4; simp
       · simp [h1, h2, h3, h4]
theorem or6 {x y : Int} (h0 : 0 ≤ x) (h1 : x ≤ 4294967296) (h2 : 0 ≤ y) (h3 : y < 64) : Go.bits .or .i64 (x * 64) y = x * 64 + y :=
 bits_join .i64 63 (by decide) wraps_i64 6 (x * 64) y (by omega) (by omega) (by omega) h2 h3 (by omega)
theorem readPoint_l0 (l : List Int) (hl : l.length ≤ 1000000000) (hw : ∀ x ∈ l, (Lit.int .u8 x).wf = true) (n : Nat) (hn : n ≤ 4) : ∀ (d i : Nat) (x lo hi : Int), 1 ≤ i → i + d = n → 0 ≤ x → x ≤ lim d → 128 ≤ lo → hi ≤ 191 →
 Ev (fun k => impl_readPoint.l0 k l n x lo hi i) (if mk d (l.drop i) lo hi < d then (65533, ((mk d (l.drop i) lo hi + i : Nat) : Int)) else (vl d (l.drop i) x, (n : Int))) := by
 intro d
 induction d with
 | zero =>
  intro i x lo hi h1 hd h0 hx hlo hhi
  refine Ev.step (f := fun _ => some (x, (n : Int))) (fun k => ?_) (ev_some ?_)
  · simp only [impl_readPoint.l0]; rw [if_neg (by omega)]
  · rw [if_neg (by omega)]; rfl
 | succ d ih =>
  intro i x lo hi h1 hd h0 hx hlo hhi
  by_cases hlt : (i : Int) < l.length
  · have hb := rd_bytes hw i
    have hc := drop_cons (l := l) (i := (i : Int)) (by omega) hlt
    rw [show ((i : Int)).toNat = i by omega, show ((i : Int) + 1).toNat = i + 1 by omega] at hc
    rw [hc]
    by_cases hf : lo ≤ rd l i ∧ rd l i ≤ hi
    · have hL : lim (d + 1) ≤ 4294967296 ∧ 64 * lim (d + 1) + 255 ≤ lim d := by
       have : d = 0 ∨ d = 1 ∨ d = 2 := by omega
       rcases this with rfl | rfl | rfl <;> simp [lim]
      have := ih (i + 1) (64 * x + rd l i - 128) 128 191 (by omega) (by omega) (by omega) (by omega) (by omega) (by omega)
      refine Ev.step (f := fun k => impl_readPoint.l0 k l n (64 * x + rd l i - 128) 128 191 ((i + 1 : Nat) : Int)) (fun k => ?_) ?_
      · simp only [impl_readPoint.l0]
        rw [if_pos (by omega), if_neg (by omega), if_pos (by omega), if_pos hlt, if_neg (by omega), if_neg (by omega), and63b (by omega) (by omega), w64 (x := rd l i % 64) (by omega) (by omega), w64 (x := x * 64) (by omega) (by omega), or6 h0 (by omega) (by omega) (by omega), w64 (x := (i : Int) + 1) (by omega) (by omega), show x * 64 + rd l i % 64 = 64 * x + rd l i - 128 by omega]; rfl
      · simp only [mk, vl, if_pos hf]
        by_cases hm : mk d (l.drop (i + 1)) 128 191 < d
        · rw [if_pos hm] at this; rw [if_pos (by omega)]
          rwa [show mk d (l.drop (i + 1)) 128 191 + 1 + i = mk d (l.drop (i + 1)) 128 191 + (i + 1) by omega]
        · rw [if_neg hm] at this; rw [if_neg (by omega)]; exact this
    · simp only [mk, if_neg hf]
      refine Ev.step (f := fun _ => some (65533, (i : Int))) (fun k => ?_) (ev_some ?_)
      · simp only [impl_readPoint.l0]
        rw [if_pos (by omega), if_neg (by omega), if_pos (by omega), if_pos hlt]
        by_cases g : rd l i < lo
        · rw [if_pos g]
        · rw [if_neg g, if_pos (by omega)]
      · rw [if_pos (by omega)]; simp
  · rw [List.drop_of_length_le (by omega)]
    rw [show mk (d + 1) [] lo hi = 0 from rfl]
    refine Ev.step (f := fun _ => some (65533, (i : Int))) (fun k => ?_) (ev_some ?_)
    · simp only [impl_readPoint.l0]
      rw [if_pos (by omega), if_pos (by omega)]
    · rw [if_pos (by omega)]; simp
theorem readPoint_ev (b : Int) (r : List Int) (hl : (b :: r).length ≤ 1000000000) (hw : ∀ x ∈ b :: r, (Lit.int .u8 x).wf = true) : Ev (fun k => impl_readPoint.f k (b :: r)) ((readPt (b :: r)).1, ((readPt (b :: r)).2 : Int)) := by
 have hb := wf8 (hw b (by simp))
 have e0 : rd (b :: r) 0 = b := rfl
 unfold impl_readPoint.f
 refine ev_pos (by simp only [List.length_cons]; omega) ?_
 simp only [e0, boundsOf_eq, Option.bind_some]
 refine Ev.bind (formOf_ev b hb.1 hb.2) ?_
 simp only [readPt]
 by_cases hz : formN b = 0
 · simp only [if_pos hz]; exact ev_pos (show (formN b : Int) = 0 by omega) (ev_some rfl)
 · refine ev_neg (show ¬ (formN b : Int) = 0 by omega) ?_
   simp only [if_neg hz]
   have hX : 0 ≤ formX b ∧ formX b ≤ 255 := by
    unfold formN at hz; unfold formX
    by_cases a1 : b < 128
    · rw [if_pos a1]; omega
    · by_cases a2 : b ≤ 223
      · rw [if_neg a1, if_pos a2]; rw [if_neg a1] at hz
        by_cases a3 : 194 ≤ b ∧ b ≤ 223
        · omega
        · rw [if_neg a3, if_neg (by omega), if_neg (by omega)] at hz; simp at hz
      · by_cases a3 : b ≤ 239
        · rw [if_neg a1, if_neg a2, if_pos a3]; omega
        · rw [if_neg a1, if_neg a2, if_neg a3]; omega
   have hL : 255 ≤ lim (formN b - 1) := by
    unfold lim; split <;> omega
   have hlo : 128 ≤ low1 b ∧ high1 b ≤ 191 := by
    unfold low1 high1
    constructor
    · split
      · omega
      · split <;> omega
    · split
      · omega
      · split <;> omega
   have := readPoint_l0 (b :: r) hl hw (formN b) (formN_le b) (formN b - 1) 1 (formX b) (low1 b) (high1 b) (by omega) (by omega) hX.1 (by omega) hlo.1 hlo.2
   refine Ev.congr (fun k => ?_) (ev_cast this ?_)
   · rfl
   · simp only [List.drop_succ_cons, List.drop_zero]
     split <;> rfl
theorem trim_eq (l : List Int) (hw : ∀ x ∈ l, (Lit.int .u8 x).wf = true) : bytes_TrimPrefix.f l [239, 187, 191] = some (unBom l) := by
 have hp : bytes_HasPrefix.f l [239, 187, 191] = some (decide (l.take 3 = [239, 187, 191])) := by
  unfold bytes_HasPrefix.f bytes_Equal.f
  by_cases h : l.length ≥ 3
  · rw [if_pos (by simp only [List.length_cons, List.length_nil]; omega)]
    show some (_ == _) = _
    rw [nums_eq _ _ (fun x hx => hw x (List.mem_of_mem_take hx)) (by decide)]
    rfl
  · rw [if_neg (by simp only [List.length_cons, List.length_nil]; omega)]
    have : ¬ l.take 3 = [239, 187, 191] := by
     intro g; have := congrArg List.length g; simp at this; omega
    rw [decide_eq_false this]
 unfold bytes_TrimPrefix.f unBom
 rw [hp, Option.bind_some]
 by_cases h : l.take 3 = [239, 187, 191]
 · have h3 : 3 ≤ l.length := by have := congrArg List.length h; simp at this; omega
   rw [decide_eq_true h, if_pos rfl, if_pos h, if_pos (by simp), if_pos (by simp only [List.length_cons, List.length_nil]; omega)]
   rfl
 · rw [decide_eq_false h, if_neg (by simp), if_neg h]
theorem impl_UtfRead_l0 : ∀ (d : Nat) (l acc : List Int), l.length ≤ d → d ≤ 100000 → (∀ x ∈ l, (Lit.int .u8 x).wf = true) → acc.length + l.length ≤ 100000 →
 Ev (fun k => impl_UtfRead.l0 k l acc) (acc ++ urAll l) := by
 intro d
 induction d with
 | zero =>
  intro l acc h _ hw ha
  have : l = [] := List.length_eq_zero_iff.1 (by omega)
  subst this
  refine Ev.step (f := fun _ => some acc) (fun k => ?_) (ev_some (by simp [urAll, ur]))
  simp [impl_UtfRead.l0]
 | succ d ih =>
  intro l acc h hd hw ha
  cases l with
  | nil =>
   refine Ev.step (f := fun _ => some acc) (fun k => ?_) (ev_some (by simp [urAll, ur]))
   simp [impl_UtfRead.l0]
  | cons b r =>
   have hn := readPt_n b r
   refine Ev.step (f := fun k => (impl_readPoint.f k (b :: r)).bind fun bt => if acc.length < 17592186044416 then (if 0 ≤ bt.2 then (if bt.2 ≤ ((b :: r).length : Int) then impl_UtfRead.l0 k ((b :: r).drop (bt.2 : Int).toNat) (acc ++ [bt.1]) else none) else none) else none) (fun k => ?_) (Ev.bind (readPoint_ev b r (by omega) hw) ?_)
   · simp only [impl_UtfRead.l0]; rw [if_pos (by simp only [List.length_cons]; omega)]
   · refine ev_pos (by omega) (ev_pos (by simp only; omega) (ev_pos (by simp only; omega) ?_))
     have := ih ((b :: r).drop (readPt (b :: r)).2) (acc ++ [(readPt (b :: r)).1]) (by simp only [List.length_drop, List.length_cons] at *; omega) (by omega) (wf_drop hw _) (by simp only [List.length_append, List.length_drop, List.length_cons, List.length_nil] at *; omega)
     rw [urAll_cons]
     simpa using this
theorem wf_unBom {l : List Int} (hw : ∀ x ∈ l, (Lit.int .u8 x).wf = true) : ∀ x ∈ unBom l, (Lit.int .u8 x).wf = true := by
 unfold unBom; split
 · exact wf_drop hw 3
 · exact hw
theorem impl_UtfRead_ev (l : List Int) (hw : ∀ x ∈ l, (Lit.int .u8 x).wf = true) : Ev (fun k => impl_UtfRead.f k l) (utfRead l) := by
 unfold impl_UtfRead.f utfRead
 by_cases h : (l.length : Int) > 3000
 · simp only [if_pos h]; exact Ev.now _
 simp only [if_neg h, trim_eq l hw, Option.bind_some]
 have hu := unBom_len l
 simpa using impl_UtfRead_l0 (unBom l).length (unBom l) [] (Nat.le_refl _) (by omega) (wf_unBom hw) (by simp; omega)
theorem impl_inRange_eq (x a b : Int) : impl_inRange.f x a b = some (decide (a ≤ x ∧ x ≤ b)) := by
 unfold impl_inRange.f
 by_cases h : x ≥ a
 · rw [if_pos h]; congr 1; simp; omega
 · rw [if_neg h]; congr 1; simp; omega
theorem impl_PointOk_eq (x : Int) : impl_PointOk.f x = some (pointOk x) := by
 unfold impl_PointOk.f pointOk
 simp only [impl_inRange_eq, Option.bind_some]
 by_cases h : 0 ≤ x ∧ x ≤ 1114111 <;> simp [h]
theorem impl_putPoint_good (k : Nat) (l : List Int) (x : Int) (hl : l.length + 4 < 140737488355328) (hp : pointOk x = true) : impl_putPoint.f (k + 1) l x = some (l ++ utf8 x) := by
 obtain ⟨h0, h1⟩ := ((pointOk_iff x).1 hp).1
 simp only [impl_putPoint.f, impl_PointOk_eq, Option.bind_some, hp, if_true]
 unfold utf8
 by_cases a : x < 128
 · simp only [if_pos a]; rw [if_pos (by omega), Int.emod_eq_of_lt h0 (by omega)]
 · by_cases b : x < 2048
   · simp only [if_neg a, if_pos b, List.length_cons, List.length_nil]
     rw [if_pos (by omega), and63 h0 (by omega), or192 (by omega) (by omega), or128 (by omega) (by omega), m256 (y := 192 + x / 64) (by omega) (by omega), m256 (y := 128 + x % 64) (by omega) (by omega)]
   · by_cases c : x < 65536
     · simp only [if_neg a, if_neg b, if_pos c, List.length_cons, List.length_nil]
       rw [if_pos (by omega), and63 (x := x / 64) (by omega) (by omega), and63 h0 (by omega), or224 (by omega) (by omega), or128 (by omega) (by omega), or128 (by omega) (by omega), m256 (y := 224 + x / 4096) (by omega) (by omega), m256 (y := 128 + x / 64 % 64) (by omega) (by omega), m256 (y := 128 + x % 64) (by omega) (by omega)]
     · simp only [if_neg a, if_neg b, if_neg c, List.length_cons, List.length_nil]
       rw [if_pos (by omega), and63 (x := x / 64) (by omega) (by omega), and63 (x := x / 4096) (by omega) (by omega), and63 h0 (by omega), or240 (by omega) (by omega), or128 (by omega) (by omega), or128 (by omega) (by omega), or128 (by omega) (by omega), m256 (y := 240 + x / 262144) (by omega) (by omega), m256 (y := 128 + x / 4096 % 64) (by omega) (by omega), m256 (y := 128 + x / 64 % 64) (by omega) (by omega), m256 (y := 128 + x % 64) (by omega) (by omega)]
theorem impl_putPoint_eq (k : Nat) (l : List Int) (x : Int) (hl : l.length + 4 < 140737488355328) : impl_putPoint.f (k + 2) l x = some (l ++ pointPut x) := by
 unfold pointPut point
 by_cases hp : pointOk x = true
 · rw [if_pos hp]; exact impl_putPoint_good (k + 1) l x hl hp
 · rw [if_neg hp]
   have : pointOk x = false := by simpa using hp
   simp only [impl_putPoint.f, impl_PointOk_eq, Option.bind_some, this, Bool.false_eq_true, if_false]
   have h := impl_putPoint_good k l 65533 hl (by decide)
   simp only [impl_putPoint.f, impl_PointOk_eq, Option.bind_some] at h
   rw [h]; rfl
theorem impl_putPoint_ev (l : List Int) (x : Int) (hl : l.length + 4 < 140737488355328) : Ev (fun k => impl_putPoint.f k l x) (l ++ pointPut x) :=
 ⟨2, fun k hk => by
  obtain ⟨m, rfl⟩ : ∃ m, k = m + 2 := ⟨k - 2, by omega⟩
  exact impl_putPoint_eq m l x hl⟩
theorem impl_PointsPut_l (l : List Int) (hl : l.length ≤ 3000) : ∀ (d : Nat) (i : Int) (acc : List Int), 0 ≤ i → i + d = l.length → acc.length + 4 * d ≤ 100000 →
 Ev (fun k => impl_PointsPut.l0 k acc l (l.length : Int) i) (acc ++ putAll (l.drop i.toNat)) := by
 intro d
 induction d with
 | zero =>
  intro i acc h0 h ha
  refine Ev.step (f := fun _ => some acc) (fun k => ?_) (ev_some ?_)
  · simp only [impl_PointsPut.l0]; rw [if_neg (by omega)]
  · rw [List.drop_of_length_le (by omega)]; simp [putAll]
 | succ d ih =>
  intro i acc h0 h ha
  have hp := pointPut_len (rd l i)
  refine Ev.step (f := fun k => (impl_putPoint.f k acc (rd l i)).bind fun t => impl_PointsPut.l0 k t l (l.length : Int) (i + 1)) (fun k => ?_) (Ev.bind (impl_putPoint_ev acc (rd l i) (by omega)) ?_)
  · simp only [impl_PointsPut.l0]; rw [if_pos (by omega), if_pos h0, if_pos (by omega), w64 (by omega) (by omega)]
  · have := ih (i + 1) (acc ++ pointPut (rd l i)) (by omega) (by omega) (by simp; omega)
    rw [drop_cons h0 (by omega)]
    simpa [putAll] using this
def pointsPut (l : List Int) : List Int := if (l.length : Int) > 3000 then [] else putAll l
theorem impl_PointsPut_ev (l : List Int) : Ev (fun k => impl_PointsPut.f k l) (pointsPut l) := by
 unfold impl_PointsPut.f pointsPut
 by_cases h : (l.length : Int) > 3000
 · simp only [if_pos h]; exact Ev.now _
 · simp only [if_neg h]
   simpa using impl_PointsPut_l l (by omega) l.length 0 [] (by omega) (by omega) (by simp; omega)
theorem spec_PointOk_eq (x : Int) : spec_PointOk.f x = some (pointOk x) := by
 unfold spec_PointOk.f pointOk
 simp only [spec_l1In_eq, Option.bind_some]
 by_cases h : 0 ≤ x ∧ x ≤ 1114111 <;> simp [h]
theorem spec_l1Point_eq (x : Int) : spec_l1Point.f x = some (point x) := by
 unfold spec_l1Point.f point
 simp only [spec_PointOk_eq, Option.bind_some]
 split <;> rfl
theorem spec_PointPut_eq (x : Int) : spec_PointPut.f x = some (pointPut x) := by
 unfold spec_PointPut.f pointPut utf8
 simp only [spec_l1Point_eq, Option.bind_some]
 obtain ⟨h0, h1⟩ := point_range x
 generalize point x = p at *
 by_cases a : p < 128
 · simp only [if_pos a]; congr 2; omega
 · by_cases b : p < 2048
   · simp only [if_neg a, if_pos b, Int.tdiv_eq_ediv_of_nonneg h0, Int.tmod_eq_emod_of_nonneg h0]
     rw [w64 (x := p / 64) (by omega) (by omega), w64 (by omega) (by omega), w64 (by omega) (by omega), m256 (y := 192 + p / 64) (by omega) (by omega), m256 (y := 128 + p % 64) (by omega) (by omega)]
   · by_cases c : p < 65536
     · simp only [if_neg a, if_neg b, if_pos c, Int.tdiv_eq_ediv_of_nonneg h0, Int.tmod_eq_emod_of_nonneg h0]
       rw [w64 (x := p / 64) (by omega) (by omega), w64 (x := p / 4096) (by omega) (by omega), Int.tmod_eq_emod_of_nonneg (by omega), w64 (by omega) (by omega), w64 (by omega) (by omega), w64 (by omega) (by omega), m256 (y := 224 + p / 4096) (by omega) (by omega), m256 (y := 128 + p / 64 % 64) (by omega) (by omega), m256 (y := 128 + p % 64) (by omega) (by omega)]
     · simp only [if_neg a, if_neg b, if_neg c, Int.tdiv_eq_ediv_of_nonneg h0, Int.tmod_eq_emod_of_nonneg h0]
       rw [w64 (x := p / 64) (by omega) (by omega), w64 (x := p / 4096) (by omega) (by omega), w64 (x := p / 262144) (by omega) (by omega), Int.tmod_eq_emod_of_nonneg (by omega), Int.tmod_eq_emod_of_nonneg (by omega), w64 (by omega) (by omega), w64 (by omega) (by omega), w64 (by omega) (by omega), w64 (by omega) (by omega), m256 (y := 240 + p / 262144) (by omega) (by omega), m256 (y := 128 + p / 4096 % 64) (by omega) (by omega), m256 (y := 128 + p / 64 % 64) (by omega) (by omega), m256 (y := 128 + p % 64) (by omega) (by omega)]
theorem spec_l1Put_l (l : List Int) (hl : l.length ≤ 1000000) : ∀ (d : Nat) (i : Int) (acc : List Int), 0 ≤ i → i + d = l.length → acc.length + 4 * d ≤ 100000000 →
 Ev (fun k => spec_l1Put.l0 k l acc i) (acc ++ putAll (l.drop i.toNat)) := by
 intro d
 induction d with
 | zero =>
  intro i acc h0 h ha
  refine Ev.step (f := fun _ => some acc) (fun k => ?_) (ev_some ?_)
  · simp only [spec_l1Put.l0]; rw [if_neg (by omega)]
  · rw [List.drop_of_length_le (by omega)]; simp [putAll]
 | succ d ih =>
  intro i acc h0 h ha
  have hp := pointPut_len (rd l i)
  refine Ev.step (f := fun k => spec_l1Put.l0 k l (acc ++ pointPut (rd l i)) (i + 1)) (fun k => ?_) ?_
  · simp only [spec_l1Put.l0, spec_PointPut_eq, Option.bind_some]; rw [if_pos (by omega), if_pos h0, if_pos (by omega), w64 (by omega) (by omega)]
  · have := ih (i + 1) (acc ++ pointPut (rd l i)) (by omega) (by omega) (by simp; omega)
    rw [drop_cons h0 (by omega)]
    simpa [putAll] using this
theorem spec_l1Put_ev (l : List Int) (hl : l.length ≤ 1000000) : Ev (fun k => spec_l1Put.f k l) (putAll l) := by
 unfold spec_l1Put.f
 simpa using spec_l1Put_l l hl l.length 0 [] (by omega) (by omega) (by simp; omega)
theorem spec_PointsPut_ev (l : List Int) : Ev (fun k => spec_PointsPut.f k l) (if (l.length : Int) > 3000 then [] else putAll l) := by
 unfold spec_PointsPut.f
 by_cases h : (l.length : Int) > 3000
 · simp only [if_pos h]; exact Ev.now _
 · simp only [if_neg h]
   exact Ev.bind (spec_l1Put_ev l (by omega)) (Ev.now _)
theorem wf_of8 {x : Int} (h : 0 ≤ x ∧ x ≤ 255) : (Lit.int .u8 x).wf = true := by
 simp only [Lit.wf, Bool.and_eq_true, decide_eq_true_eq]; exact h
theorem putAll_wf (l : List Int) : ∀ x ∈ putAll l, (Lit.int .u8 x).wf = true := by
 intro x hx
 simp only [putAll, List.mem_flatMap] at hx
 obtain ⟨a, _, hx⟩ := hx
 exact wf_of8 (utf8_bytes (point_range a).1 (point_range a).2 x hx)
theorem pointsPut_wf (l : List Int) : ∀ x ∈ pointsPut l, (Lit.int .u8 x).wf = true := by
 unfold pointsPut; split
 · simp
 · exact putAll_wf l
def utfOk (l : List Int) : Bool := decide (l.length ≤ 3000) && decide (pointsPut (utfRead l) = l)
theorem spec_UtfOk_ev (l : List Int) (hw : ∀ x ∈ l, (Lit.int .u8 x).wf = true) : Ev (fun k => spec_UtfOk.f k l) (utfOk l) := by
 unfold spec_UtfOk.f utfOk
 by_cases h : (l.length : Int) ≤ 3000
 · refine ev_pos h (Ev.bind (spec_UtfRead_ev l hw) (Ev.bind (spec_PointsPut_ev _) (ev_some ?_)))
   show (_ == _) = _
   have e : (if ((utfRead l).length : Int) > 3000 then [] else putAll (utfRead l)) = pointsPut (utfRead l) := rfl
   rw [e, nums_eq _ _ (pointsPut_wf _) hw, decide_eq_true (show l.length ≤ 3000 by omega), Bool.true_and]
 · exact ev_neg h (ev_some (by rw [decide_eq_false (show ¬ l.length ≤ 3000 by omega), Bool.false_and]))
theorem impl_UtfOk_ev (l : List Int) (hw : ∀ x ∈ l, (Lit.int .u8 x).wf = true) : Ev (fun k => impl_UtfOk.f k l) (utfOk l) := by
 unfold impl_UtfOk.f utfOk
 by_cases h : (l.length : Int) ≤ 3000
 · refine ev_pos h (Ev.bind (impl_UtfRead_ev l hw) (Ev.bind (impl_PointsPut_ev _) ?_))
   simp only [bytes_Equal.f, Option.bind_some]
   refine ev_some ?_
   rw [nums_eq _ _ (pointsPut_wf _) hw, decide_eq_true (show l.length ≤ 3000 by omega), Bool.true_and]
 · exact ev_neg h (ev_some (by rw [decide_eq_false (show ¬ l.length ≤ 3000 by omega), Bool.false_and]))
theorem data_eta (s : ByteArray) : (⟨s.data.toList.toArray⟩ : ByteArray) = s := by cases s; simp
theorem str_bytes (s : ByteArray) : strOfNums (bytesOf s) = s := by
 unfold bytesOf
 rw [Lib.Lz.strOfNums_map]
theorem bytes_str {b : List Int} (h : ∀ x ∈ b, 0 ≤ x ∧ x ≤ 255) : bytesOf (strOfNums b) = b := by
 have e : (strOfNums b).data.toList = Lib.bytesOf b := by rw [← Lib.toList_data, Lib.strOfNums_toList]
 unfold bytesOf
 rw [e]
 unfold Lib.bytesOf
 rw [List.map_map]
 conv => rhs; rw [← List.map_id b]
 refine List.map_congr_left (fun x hx => ?_)
 have := h x hx
 simp only [Function.comp, id]
 have : (UInt8.ofNat x.toNat).toNat = x.toNat := by simp; omega
 omega
theorem bytesOf_range (s : ByteArray) : ∀ x ∈ bytesOf s, 0 ≤ x ∧ x ≤ 255 := by
 intro x hx
 unfold bytesOf at hx
 obtain ⟨b, _, rfl⟩ := List.mem_map.1 hx
 have := b.toNat_lt
 omega
theorem bytesOf_wf (s : ByteArray) : ∀ x ∈ bytesOf s, (Lit.int .u8 x).wf = true := fun x hx => by
 simp only [Lit.wf, Bool.and_eq_true, decide_eq_true_eq]; exact bytesOf_range s x hx
theorem bytes_ext {s t : ByteArray} (h : bytesOf s = bytesOf t) : s = t := by rw [← str_bytes s, h, str_bytes]
theorem toList_ext {s t : ByteArray} (h : s.toList = t.toList) : s = t := by
 rw [Lib.toList_data, Lib.toList_data] at h
 rw [← data_eta s, h, data_eta]
theorem str_size (b : List Int) : (strOfNums b).size = b.length := by
 have e : (strOfNums b).data.toList = Lib.bytesOf b := by rw [← Lib.toList_data, Lib.strOfNums_toList]
 have := congrArg List.length e
 simpa [Lib.bytesOf] using this
def blank (x : Int) : Bool := decide (x = 9) || decide (x = 10) || decide (x = 12) || decide (x = 32)
def outer (x : Int) : Bool := blank x || decide (x = 47) || decide (x = 62) || decide (x = 0) || decide (65 ≤ x ∧ x ≤ 90)
def textOk (s : ByteArray) : Bool := utfOk (bytesOf s)
def nameOk (s : ByteArray) : Bool := decide (1 ≤ s.size ∧ s.size ≤ 60) && (decide (97 ≤ bt s 0 ∧ bt s 0 ≤ 122) && textOk s) && (bytesOf s).all (fun x => !outer x)
theorem bt_0 (s : ByteArray) (i : Int) : 0 ≤ bt s i ∧ bt s i ≤ 255 := bt_range s i
abbrev IA := S98
abbrev LA := S111
theorem toList_iff {s t : ByteArray} : s.toList = t.toList ↔ s = t := ⟨toList_ext, fun h => by rw [h]⟩
theorem rdA {l : List IA} {i : Int} (h0 : 0 ≤ i) (h : i < l.length) : rd_T98 l i = l[i.toNat]'(by omega) := by
 unfold rd_T98; rw [List.getD_eq_getElem?_getD, List.getElem?_eq_getElem (by omega)]; rfl
theorem rdLA {l : List LA} {i : Int} (h0 : 0 ≤ i) (h : i < l.length) : rd_T111 l i = l[i.toNat]'(by omega) := by
 unfold rd_T111; rw [List.getD_eq_getElem?_getD, List.getElem?_eq_getElem (by omega)]; rfl
theorem dropA {α : Type} {l : List α} {i : Int} (h0 : 0 ≤ i) (h : i < l.length) : l.drop i.toNat = l[i.toNat]'(by omega) :: l.drop (i + 1).toNat := by
 have e : (i + 1).toNat = i.toNat + 1 := by omega
 rw [e]; exact List.drop_eq_getElem_cons (by omega)
def cv (x : LA) : IA := ⟨x.f0, x.f1⟩
def attrOf : List IA → ByteArray → ByteArray × Bool
 | [], _ => (⟨#[]⟩, false)
 | x :: r, s => if x.f0.toList = s.toList then (x.f1, true) else attrOf r s
def attrIx : List IA → ByteArray → Int → Int
 | [], _, _ => -1
 | x :: r, s, i => if x.f0.toList = s.toList then i else attrIx r s (i + 1)
def attrOkB (x : IA) : Bool := decide (1 ≤ x.f0.size ∧ x.f0.size ≤ 60) && (decide (x.f1.size ≤ 3000) && (textOk x.f0 && textOk x.f1))
/-- No name stands twice. -/
def namesOnce : List IA → Prop
 | [] => True
 | x :: r => (∀ y ∈ r, y.f0 ≠ x.f0) ∧ namesOnce r
def attrsOkP (l : List IA) : Prop := l.length ≤ 20 ∧ (∀ x ∈ l, attrOkB x = true) ∧ namesOnce l
def attrsSameP (a b : List IA) : Prop := a.length = b.length ∧ ∀ x ∈ a, attrOf b x.f0 = (x.f1, true)
def attrAdd (l : List IA) (a : IA) : List IA := if (attrOf l a.f0).2 = true ∨ l.length ≥ 20 ∨ attrOkB a = false then l else l ++ [a]
theorem attrAdd_same {l : List IA} {a : IA} (h : (attrOf l a.f0).2 = true ∨ l.length ≥ 20 ∨ attrOkB a = false) : attrAdd l a = l := by unfold attrAdd; rw [if_pos h]
theorem attrAdd_new {l : List IA} {a : IA} (h : ¬ ((attrOf l a.f0).2 = true ∨ l.length ≥ 20 ∨ attrOkB a = false)) : attrAdd l a = l ++ [a] := by unfold attrAdd; rw [if_neg h]
theorem attrIx_get : ∀ (l : List IA) (s : ByteArray) (i : Int), 0 ≤ i → (attrIx l s i = -1 ∧ attrOf l s = (⟨#[]⟩, false)) ∨ ∃ j : Nat, ∃ h : j < l.length, attrIx l s i = i + j ∧ l[j].f0 = s ∧ attrOf l s = (l[j].f1, true) ∧ ∀ m (hm : m < j), (l[m]'(by omega)).f0 ≠ s := by
 intro l
 induction l with
 | nil => intro s i _; exact .inl ⟨rfl, rfl⟩
 | cons x r ih =>
  intro s i hi
  by_cases h : x.f0 = s
  · refine .inr ⟨0, by simp, ?_, h, ?_, fun m hm => by omega⟩
    · unfold attrIx; rw [if_pos (toList_iff.2 h)]; simp
    · unfold attrOf; rw [if_pos (toList_iff.2 h)]; rfl
  · have e1 : attrIx (x :: r) s i = attrIx r s (i + 1) := by conv => lhs; unfold attrIx; rw [if_neg (fun g => h (toList_iff.1 g))]
    have e2 : attrOf (x :: r) s = attrOf r s := by conv => lhs; unfold attrOf; rw [if_neg (fun g => h (toList_iff.1 g))]
    rw [e1, e2]
    rcases ih s (i + 1) (by omega) with ⟨g1, g2⟩ | ⟨j, hj, g1, g2, g3, g4⟩
    · exact .inl ⟨g1, g2⟩
    · refine .inr ⟨j + 1, by simp; omega, by rw [g1]; omega, by simpa using g2, by simpa using g3, fun m hm => ?_⟩
      cases m with
      | zero => simpa using h
      | succ m => simpa using g4 m (by omega)
theorem attrOf_none {l : List IA} {s : ByteArray} (h : ∀ x ∈ l, x.f0 ≠ s) : attrOf l s = (⟨#[]⟩, false) := by
 induction l with
 | nil => rfl
 | cons x r ih =>
  unfold attrOf
  rw [if_neg (fun g => h x (by simp) (toList_iff.1 g))]
  exact ih (fun y hy => h y (by simp [hy]))
theorem attrOf_mem {l : List IA} {s : ByteArray} (h : (attrOf l s).2 = true) : ∃ x ∈ l, x.f0 = s ∧ attrOf l s = (x.f1, true) := by
 rcases attrIx_get l s 0 (by omega) with ⟨_, g⟩ | ⟨j, hj, _, g2, g3, _⟩
 · rw [g] at h; simp at h
 · exact ⟨l[j], List.getElem_mem _, g2, g3⟩
theorem attrOf_once {l : List IA} (h : namesOnce l) : ∀ x ∈ l, attrOf l x.f0 = (x.f1, true) := by
 induction l with
 | nil => intro x hx; simp at hx
 | cons y r ih =>
  intro x hx
  unfold attrOf
  rcases List.mem_cons.1 hx with rfl | hx
  · rw [if_pos rfl]
  · rw [if_neg (fun e => h.1 x hx (toList_iff.1 e).symm)]
    exact ih h.2 x hx
theorem eq_attr {x y : IA} (h0 : x.f0 = y.f0) (h1 : x.f1 = y.f1) : x = y := by
 cases x; cases y; simp_all
theorem attrOf_iff {l : List IA} (h : namesOnce l) (x : IA) : attrOf l x.f0 = (x.f1, true) ↔ x ∈ l := by
 constructor
 · intro e
   obtain ⟨y, hy, h0, h1⟩ := attrOf_mem (l := l) (s := x.f0) (by rw [e])
   rw [e] at h1
   have : x = y := eq_attr h0.symm (by simpa using h1)
   rw [this]; exact hy
 · exact attrOf_once h x
theorem namesOnce_index (l : List IA) : namesOnce l ↔ ∀ i j (hi : i < j) (hj : j < l.length), (l[i]'(by omega)).f0 ≠ l[j].f0 := by
 induction l with
 | nil => simp [namesOnce]
 | cons x r ih =>
  unfold namesOnce
  rw [ih]
  constructor
  · rintro ⟨h1, h2⟩ i j hi hj
    cases j with
    | zero => omega
    | succ j =>
     cases i with
     | zero => simpa using (h1 (r[j]'(by simp at hj; omega)) (List.getElem_mem _)).symm
     | succ i => simpa using h2 i j (by omega) (by simp at hj; omega)
  · intro h
    refine ⟨fun y hy => ?_, fun i j hi hj => ?_⟩
    rotate_left
    · have := h (i + 1) (j + 1) (by omega) (by simp; omega)
      simp only [List.getElem_cons_succ] at this
      exact this
    obtain ⟨j, hj, rfl⟩ := List.getElem_of_mem hy
    have := h 0 (j + 1) (by omega) (by simp; omega)
    simp at this
    exact fun e => this e.symm
theorem bool_iff {a b : Bool} {P : Prop} (ha : a = true ↔ P) (hb : b = true ↔ P) : a = b := by
 cases a <;> cases b <;> simp_all
/-- A node's parent, by number; behind the tree's top there is none. -/
def parAt (P : List Int) (i : Int) : Int := if 0 ≤ i then P.getD i.toNat (-1) else -1
/-- The program's isAbove: k rounds from b on. -/
def aboveB (P : List Int) (a : Int) : Nat → Int → Bool
 | 0, b => decide (0 ≤ b)
 | k + 1, b => if b = a then true else if 0 ≤ b then aboveB P a k (parAt P b) else false
/-- The reference's way up: at most m steps. -/
def upOk (P : List Int) : Nat → Int → Bool
 | 0, u => decide (u < 0)
 | m + 1, u => if u < 0 then true else upOk P m (parAt P u)
def ups (P : List Int) (i : Int) : Nat → Int
 | 0 => i
 | k + 1 => parAt P (ups P i k)
theorem ups_neg {P : List Int} {i : Int} {k : Nat} (h : ups P i k < 0) : ∀ d, ups P i (k + d) < 0 := by
 intro d
 induction d with
 | zero => exact h
 | succ d ih =>
  show parAt P (ups P i (k + d)) < 0
  unfold parAt
  rw [if_neg (by omega)]; omega
theorem ups_par (P : List Int) (i : Int) : ∀ k, ups P (parAt P i) k = ups P i (k + 1) := by
 intro k
 induction k with
 | zero => rfl
 | succ k ih => show parAt P (ups P (parAt P i) k) = parAt P (ups P i (k + 1)); rw [ih]
theorem ups_add (P : List Int) (i : Int) (j : Nat) : ∀ k, ups P (ups P i j) k = ups P i (j + k) := by
 intro k
 induction k with
 | zero => rfl
 | succ k ih => show parAt P (ups P (ups P i j) k) = parAt P (ups P i (j + k)); rw [ih]
theorem upOk_iff (P : List Int) : ∀ m u, upOk P m u = true ↔ ups P u m < 0 := by
 intro m
 induction m with
 | zero => intro u; simp [upOk, ups]
 | succ m ih =>
  intro u
  unfold upOk
  by_cases h : u < 0
  · rw [if_pos h]
    have := ups_neg (P := P) (i := u) (k := 0) h (m + 1)
    simp only [Nat.zero_add] at this
    simp [this]
  · rw [if_neg h, ih, ups_par]
theorem above_iff (P : List Int) (a : Int) (ha : 0 ≤ a) : ∀ k b, aboveB P a k b = true ↔ (∃ j, j < k ∧ ups P b j = a) ∨ 0 ≤ ups P b k := by
 intro k
 induction k with
 | zero => intro b; simp [aboveB, ups]
 | succ k ih =>
  intro b
  unfold aboveB
  by_cases h : b = a
  · rw [if_pos h]; simp only [true_iff]; exact .inl ⟨0, by omega, h⟩
  · rw [if_neg h]
    by_cases hb : 0 ≤ b
    · rw [if_pos hb, ih]
      constructor
      · rintro (⟨j, hj, e⟩ | e)
        · exact .inl ⟨j + 1, by omega, by rw [← ups_par]; exact e⟩
        · exact .inr (by rw [← ups_par]; exact e)
      · rintro (⟨j, hj, e⟩ | e)
        · cases j with
          | zero => exact absurd e h
          | succ j => exact .inl ⟨j, by omega, by rw [ups_par]; exact e⟩
        · exact .inr (by rw [ups_par]; exact e)
    · rw [if_neg hb]
      have hn := fun d => ups_neg (P := P) (i := b) (k := 0) (by show b < 0; omega) d
      simp only [Nat.zero_add] at hn
      constructor
      · intro h_; cases h_
      · rintro (⟨j, hj, e⟩ | e)
        · have := hn j; omega
        · have := hn (k + 1); omega
theorem ups_round (P : List Int) (i : Int) (j : Nat) (h : ups P i j = i) : ∀ m, ups P i (m * j) = i := by
 intro m
 induction m with
 | zero => rw [Nat.zero_mul]; rfl
 | succ m ih => rw [Nat.succ_mul, ← ups_add, ih, h]
/-- The two ways to say that no node stands above itself. -/
theorem above_up (P : List Int) (n : Nat) (i : Int) (hi : 0 ≤ i) : aboveB P i n (parAt P i) = false ↔ upOk P (n + 1) i = true := by
 rw [upOk_iff]
 have h := above_iff P i hi n (parAt P i)
 constructor
 · intro hf
   apply Classical.byContradiction
   intro hc
   rw [h.2 (.inr (by rw [ups_par]; omega))] at hf
   cases hf
 · intro hneg
   apply Bool.eq_false_iff.2
   intro ht
   rcases h.1 ht with ⟨j, hj, e⟩ | e
   · rw [ups_par] at e
     have h1 := ups_round P i (j + 1) e (n + 1)
     have h2 := ups_neg hneg ((n + 1) * (j + 1) - (n + 1))
     have h3 : n + 1 ≤ (n + 1) * (j + 1) := Nat.le_mul_of_pos_right _ (by omega)
     rw [show n + 1 + ((n + 1) * (j + 1) - (n + 1)) = (n + 1) * (j + 1) by omega, h1] at h2
     omega
   · rw [ups_par] at e; omega
/-- A node's kids, one by one: each the node's own, none seen yet; lo: the least number that may be a kid. -/
def kidsRun (P : List Int) (lo at' : Int) : List Int → List Bool → Option (List Bool)
 | [], s => some s
 | k :: r, s => if lo ≤ k ∧ k < P.length ∧ P.getD k.toNat 0 = at' ∧ s.getD k.toNat false = false then kidsRun P lo at' r (s.set k.toNat true) else none
/-- All nodes' kids, from place i on. -/
def kidsAll (P : List Int) (lo : Int) : Int → List (List Int) → List Bool → Option (List Bool)
 | _, [], s => some s
 | i, K :: r, s => (kidsRun P lo i K s).bind (kidsAll P lo (i + 1) r)
theorem kidsRun_same (P : List Int) (at' : Int) (h0 : 0 ≤ at') (hP : P.getD 0 0 = -1) : ∀ (K : List Int) (s : List Bool), kidsRun P 0 at' K s = kidsRun P 1 at' K s := by
 intro K
 induction K with
 | nil => intro s; rfl
 | cons k r ih =>
  intro s
  unfold kidsRun
  by_cases h : 0 ≤ k ∧ k < P.length ∧ P.getD k.toNat 0 = at' ∧ s.getD k.toNat false = false
  · have hk : 1 ≤ k := by
     apply Classical.byContradiction
     intro hc
     have : k = 0 := by omega
     subst this
     have h3 := h.2.2.1
     simp only [Int.toNat_zero] at h3
     omega
    rw [if_pos h, if_pos ⟨hk, h.2⟩, ih]
  · rw [if_neg h, if_neg (fun g => h ⟨by omega, g.2⟩)]
theorem kidsAll_same (P : List Int) (hP : P.getD 0 0 = -1) : ∀ (K : List (List Int)) (i : Int) (s : List Bool), 0 ≤ i → kidsAll P 0 i K s = kidsAll P 1 i K s := by
 intro K
 induction K with
 | nil => intro i s _; rfl
 | cons k r ih =>
  intro i s h
  unfold kidsAll
  rw [kidsRun_same P i h hP]
  cases kidsRun P 1 i k s with
  | none => rfl
  | some t => simp only [Option.bind_some]; exact ih (i + 1) t (by omega)
/-- Who is seen has a parent in range. -/
def seenIn (P : List Int) (m : Int) (s : List Bool) : Prop := s.length = P.length ∧ ∀ j : Nat, s.getD j false = true → 0 ≤ P.getD j 0 ∧ P.getD j 0 < m
theorem kidsRun_in (P : List Int) (lo at' m : Int) (h0 : 0 ≤ at') (h1 : at' < m) : ∀ (K : List Int) (s t : List Bool), seenIn P m s → kidsRun P lo at' K s = some t → seenIn P m t := by
 intro K
 induction K with
 | nil => intro s t h e; unfold kidsRun at e; cases e; exact h
 | cons k r ih =>
  intro s t h e
  unfold kidsRun at e
  by_cases c : lo ≤ k ∧ k < P.length ∧ P.getD k.toNat 0 = at' ∧ s.getD k.toNat false = false
  · rw [if_pos c] at e
    refine ih _ t ⟨by rw [List.length_set]; exact h.1, fun j hj => ?_⟩ e
    by_cases hk : j = k.toNat
    · subst hk; omega
    · rw [List.getD_eq_getElem?_getD, List.getElem?_set_ne (by omega), ← List.getD_eq_getElem?_getD] at hj
      exact h.2 j hj
  · rw [if_neg c] at e; cases e
theorem kidsAll_in (P : List Int) (lo m : Int) : ∀ (K : List (List Int)) (i : Int) (s t : List Bool), 0 ≤ i → i + K.length ≤ m → seenIn P m s → kidsAll P lo i K s = some t → seenIn P m t := by
 intro K
 induction K with
 | nil => intro i s t _ _ h e; unfold kidsAll at e; cases e; exact h
 | cons k r ih =>
  intro i s t h0 h1 h e
  unfold kidsAll at e
  simp only [List.length_cons] at h1
  obtain ⟨u, e1, e2⟩ := Option.bind_eq_some_iff.1 e
  exact ih (i + 1) u t (by omega) (by omega) (kidsRun_in P lo i m h0 (by omega) k s u h e1) e2
/-- The program's isAbove, a number that is no node told apart. -/
def aboveN (P : List Int) (a : Int) : Nat → Int → Bool
 | 0, b => decide (0 ≤ b ∧ b < P.length)
 | k + 1, b => if b = a then true else if 0 ≤ b ∧ b < P.length then aboveN P a k (P.getD b.toNat 0) else false
def parsIn (P : List Int) : Prop := ∀ j : Nat, j < P.length → -1 ≤ P.getD j 0 ∧ P.getD j 0 < P.length
theorem parAt_in {P : List Int} {b : Int} (h0 : 0 ≤ b) (h1 : b < P.length) : parAt P b = P.getD b.toNat 0 := by
 unfold parAt
 rw [if_pos h0, List.getD_eq_getElem?_getD, List.getD_eq_getElem?_getD, List.getElem?_eq_getElem (by omega)]
 rfl
theorem aboveN_eq (P : List Int) (a : Int) (hP : parsIn P) : ∀ (k : Nat) (b : Int), b < P.length → aboveN P a k b = aboveB P a k b := by
 intro k
 induction k with
 | zero => intro b hb; unfold aboveN aboveB; by_cases h : 0 ≤ b <;> simp [h, hb]
 | succ k ih =>
  intro b hb
  unfold aboveN aboveB
  by_cases h : b = a
  · rw [if_pos h, if_pos h]
  · rw [if_neg h, if_neg h]
    by_cases h0 : 0 ≤ b
    · rw [if_pos ⟨h0, hb⟩, if_pos h0, parAt_in h0 hb]
      exact ih _ (hP b.toNat (by omega)).2
    · rw [if_neg (by omega), if_neg h0]
/-- What both sides ask of the links: the program's way, the reference's way. -/
def linksI (P : List Int) (K : List (List Int)) : Bool := match kidsAll P 0 0 K (List.replicate P.length false) with
 | none => false
 | some s => (List.range P.length).all fun i => !(decide (P.getD i 0 = -1) == s.getD i false) && !aboveN P i P.length (P.getD i 0)
def linksS (P : List Int) (K : List (List Int)) : Bool := match kidsAll P 1 0 K (List.replicate P.length false) with
 | none => false
 | some s => (List.range P.length).all fun i => (s.getD i false == decide (0 ≤ P.getD i 0)) && upOk P (P.length + 1) i
theorem links_same (P : List Int) (K : List (List Int)) (hl : K.length = P.length) (h0 : P.getD 0 0 = -1) : linksI P K = true ↔ parsIn P ∧ linksS P K = true := by
 unfold linksI linksS
 rw [kidsAll_same P h0 K 0 _ (by omega)]
 cases he : kidsAll P 1 0 K (List.replicate P.length false) with
 | none => simp
 | some s =>
  have hs : seenIn P P.length s := kidsAll_in P 1 P.length K 0 _ s (by omega) (by omega) ⟨by simp, fun j hj => by
   rw [List.getD_eq_getElem?_getD] at hj
   by_cases hjl : j < P.length
   · rw [List.getElem?_eq_getElem (by simpa using hjl)] at hj; simp at hj
   · rw [List.getElem?_eq_none (by simpa using hjl)] at hj; simp at hj⟩ he
  simp only [List.all_eq_true, List.mem_range, Bool.and_eq_true, Bool.not_eq_true', beq_iff_eq, beq_eq_false_iff_ne, ne_eq]
  constructor
  · intro h
    have hP : parsIn P := fun j hj => by
     have h1 := (h j hj).1
     have h2 := hs.2 j
     by_cases e : P.getD j 0 = -1
     · omega
     · have : s.getD j false = true := by
        rw [decide_eq_false e] at h1
        cases hsj : s.getD j false with
        | true => rfl
        | false => exact absurd hsj.symm h1
       have := h2 this
       omega
    refine ⟨hP, fun i hi => ?_⟩
    obtain ⟨h1, h2⟩ := h i hi
    have hr := hP i hi
    constructor
    · by_cases e : P.getD i 0 = -1
      · rw [decide_eq_true e] at h1
        rw [decide_eq_false (by omega)]
        cases hsj : s.getD i false with
        | false => rfl
        | true => exact absurd hsj.symm h1
      · rw [decide_eq_false e] at h1
        rw [decide_eq_true (by omega)]
        cases hsj : s.getD i false with
        | true => rfl
        | false => exact absurd hsj.symm h1
    · rw [aboveN_eq P i hP P.length _ hr.2] at h2
      rw [← above_up P P.length i (by omega), parAt_in (by omega) (by omega)]
      exact h2
  · rintro ⟨hP, h⟩ i hi
    obtain ⟨h1, h2⟩ := h i hi
    have hr := hP i hi
    constructor
    · rw [h1]
      intro hc
      by_cases e : P.getD i 0 = -1
      · rw [decide_eq_true e, decide_eq_false (by omega)] at hc; cases hc
      · rw [decide_eq_false e, decide_eq_true (by omega)] at hc; cases hc
    · rw [aboveN_eq P i hP P.length _ hr.2]
      have := (above_up P P.length i (by omega)).2 h2
      rw [parAt_in (by omega) (by omega)] at this
      exact this
abbrev IN := S45
abbrev LN := S39
/-- What a node has by itself is right. -/
def kindP (x : IN) : Prop :=
 (x.f0 = 1 ∧ x.f1.toList = [] ∧ x.f3.toList = [] ∧ x.f2.length = 0) ∨
 (x.f0 = 2 ∧ x.f3.toList = [] ∧ x.f2.length = 0 ∧ x.f1.size ≤ 60 ∧ textOk x.f1 = true ∧ x.f5.length = 0) ∨
 (x.f0 = 3 ∧ x.f3.toList = [] ∧ nameOk x.f1 = true ∧ attrsOkP x.f2) ∨
 (x.f0 = 4 ∧ x.f1.toList = [] ∧ x.f2.length = 0 ∧ ¬ x.f3.toList = [] ∧ textOk x.f3 = true ∧ x.f5.length = 0) ∨
 (x.f0 = 5 ∧ x.f1.toList = [] ∧ x.f2.length = 0 ∧ textOk x.f3 = true ∧ x.f5.length = 0)
def parsOf (xs : List IN) : List Int := xs.map (·.f4)
def kidsOf (xs : List IN) : List (List Int) := xs.map (·.f5)
/-- A node at its place. -/
def nodeP (x : IN) (i : Int) : Prop := kindP x ∧ (x.f0 = 1 ↔ i = 0) ∧ (i = 0 → x.f4 = -1)
/-- A tree is right. -/
def rightP (xs : List IN) : Prop := 1 ≤ xs.length ∧ xs.length ≤ 500 ∧ (∀ (i : Nat) (h : i < xs.length), nodeP xs[i] i) ∧ parsIn (parsOf xs) ∧ linksS (parsOf xs) (kidsOf xs) = true
/-- What a node bears is small enough for the machine. -/
def smallN (x : IN) : Prop := x.f1.size ≤ 1048576 ∧ x.f2.length ≤ 1048576 ∧ (∀ a ∈ x.f2, a.f0.size ≤ 1048576 ∧ a.f1.size ≤ 1048576) ∧ x.f3.size ≤ 1048576 ∧ (-9223372036854775808 ≤ x.f4 ∧ x.f4 ≤ 9223372036854775807) ∧ x.f5.length ≤ 1048576 ∧ ∀ k ∈ x.f5, -9223372036854775808 ≤ k ∧ k ≤ 9223372036854775807
def smallT (xs : List IN) : Prop := xs.length ≤ 1048576 ∧ ∀ x ∈ xs, smallN x
theorem rdN {l : List IN} {i : Int} (h0 : 0 ≤ i) (h : i < l.length) : rd_T45 l i = l[i.toNat]'(by omega) := by
 unfold rd_T45
 rw [List.getD_eq_getElem?_getD, List.getElem?_eq_getElem (by omega)]; rfl
theorem rdLN {l : List LN} {i : Int} (h0 : 0 ≤ i) (h : i < l.length) : rd_T39 l i = l[i.toNat]'(by omega) := by
 unfold rd_T39
 rw [List.getD_eq_getElem?_getD, List.getElem?_eq_getElem (by omega)]; rfl
theorem rdN' {l : List IN} {i : Nat} (h : i < l.length) : rd_T45 l (i : Int) = l[i] := by
 rw [rdN (by omega) (by omega)]; rfl
theorem smallN_at {xs : List IN} (h : smallT xs) {i : Int} (h0 : 0 ≤ i) (h1 : i < xs.length) : smallN (rd_T45 xs i) := by
 rw [rdN h0 h1]; exact h.2 _ (List.getElem_mem _)
theorem pars_at {xs : List IN} {i : Int} (h0 : 0 ≤ i) (h1 : i < xs.length) (d : Int) : (parsOf xs).getD i.toNat d = (rd_T45 xs i).f4 := by
 rw [rdN h0 h1]; unfold parsOf
 rw [List.getD_eq_getElem?_getD, List.getElem?_map, List.getElem?_eq_getElem (by omega)]; rfl
theorem kids_at {xs : List IN} {i : Int} (h0 : 0 ≤ i) (h1 : i < xs.length) : (kidsOf xs).drop i.toNat = (rd_T45 xs i).f5 :: (kidsOf xs).drop (i + 1).toNat := by
 rw [rdN h0 h1]; unfold kidsOf
 rw [show (i + 1).toNat = i.toNat + 1 by omega, List.drop_eq_getElem_cons (by simp; omega)]
 simp
theorem rd_in {l : List Int} {j : Int} (h0 : 0 ≤ j) (h1 : j < l.length) : rd l j ∈ l := by
 unfold rd
 rw [List.getD_eq_getElem?_getD, List.getElem?_eq_getElem (by omega)]
 exact List.getElem_mem _
theorem rd_dropI {l : List Int} {j : Int} (h0 : 0 ≤ j) (h1 : j < l.length) : l.drop j.toNat = rd l j :: l.drop (j + 1).toNat := by
 unfold rd
 rw [List.getD_eq_getElem?_getD, List.getElem?_eq_getElem (by omega), show (j + 1).toNat = j.toNat + 1 by omega, List.drop_eq_getElem_cons (by omega)]
 rfl
theorem parsOf_length (xs : List IN) : (parsOf xs).length = xs.length := by simp [parsOf]
theorem kidsOf_length (xs : List IN) : (kidsOf xs).length = xs.length := by simp [kidsOf]
/-- Behind rounds enough there is an answer, of which something is told. -/
def EvP {α : Type} (g : Nat → Option α) (Q : α → Prop) : Prop := ∃ r, Ev g r ∧ Q r
theorem EvP.bind {α β : Type} {g : Nat → Option α} {f : Nat → α → Option β} {P : α → Prop} {Q : β → Prop} (h : EvP g P) (hf : ∀ a, P a → EvP (fun k => f k a) Q) : EvP (fun k => (g k).bind (f k)) Q := by
 obtain ⟨a, e, hp⟩ := h
 obtain ⟨r, e2, hq⟩ := hf a hp
 exact ⟨r, Ev.bind e e2, hq⟩
theorem EvP.pos {α : Type} {c : Prop} [Decidable c] {g f : Nat → Option α} {Q : α → Prop} (hc : c) (h : EvP g Q) : EvP (fun k => if c then g k else f k) Q := by
 obtain ⟨r, e, hq⟩ := h; exact ⟨r, ev_pos hc e, hq⟩
theorem EvP.neg {α : Type} {c : Prop} [Decidable c] {g f : Nat → Option α} {Q : α → Prop} (hc : ¬ c) (h : EvP f Q) : EvP (fun k => if c then g k else f k) Q := by
 obtain ⟨r, e, hq⟩ := h; exact ⟨r, ev_neg hc e, hq⟩
theorem EvP.ite {α : Type} {c : Prop} [Decidable c] {g f : Nat → Option α} {Q : α → Prop} (h1 : c → EvP g Q) (h2 : ¬ c → EvP f Q) : EvP (fun k => if c then g k else f k) Q := by
 by_cases hc : c
 · exact EvP.pos hc (h1 hc)
 · exact EvP.neg hc (h2 hc)
theorem EvP.some {α : Type} {r : α} {Q : α → Prop} (h : Q r) : EvP (fun _ => Option.some r) Q := ⟨r, Ev.now _, h⟩
theorem EvP.const {α : Type} {g : Option α} {P : α → Prop} (h : ∃ a, g = Option.some a ∧ P a) : EvP (fun _ => g) P := by
 obtain ⟨a, e, hp⟩ := h; exact ⟨a, ev_const e, hp⟩
theorem EvP.succ {α : Type} {g : Nat → Option α} {Q : α → Prop} (h : EvP (fun k => g (k + 1)) Q) : EvP g Q := by
 obtain ⟨r, e, hq⟩ := h; exact ⟨r, ev_succ e, hq⟩
theorem EvP.mono {α : Type} {g : Nat → Option α} {P Q : α → Prop} (h : EvP g P) (hi : ∀ a, P a → Q a) : EvP g Q := by
 obtain ⟨r, e, hq⟩ := h; exact ⟨r, e, hi r hq⟩
theorem EvP.of {α : Type} {g : Nat → Option α} {r : α} {Q : α → Prop} (h : Ev g r) (hq : Q r) : EvP g Q := ⟨r, h, hq⟩
theorem EvP.ev {α : Type} {g : Nat → Option α} {r : α} (h : EvP g (fun x => x = r)) : Ev g r := by
 obtain ⟨x, e, hx⟩ := h
 subst hx
 exact e
/-- A callee that goes round not at all. -/
theorem EvP.bindS {α β : Type} {g : Option α} {f : Nat → α → Option β} {P : α → Prop} {Q : β → Prop} (h : ∃ a, g = Option.some a ∧ P a) (hf : ∀ a, P a → EvP (fun k => f k a) Q) : EvP (fun k => g.bind (f k)) Q := by
 obtain ⟨a, rfl, hp⟩ := h
 exact hf a hp
def LAok (l : List LA) : Prop := l.length ≤ 9223372036854775807 ∧ ∀ x ∈ l, x.f0.size ≤ 9223372036854775807 ∧ x.f1.size ≤ 9223372036854775807
def tot : List LA → Int
 | [] => 0
 | x :: r => x.f0.size + x.f1.size + tot r
theorem tot_nonneg (l : List LA) : 0 ≤ tot l := by
 induction l with
 | nil => simp [tot]
 | cons x r ih => simp only [tot]; omega
theorem szAttr_p (a b : ByteArray) (n : Int) (hn0 : 0 ≤ n) (hn : n ≤ 1048576) (ha : a.size ≤ 9223372036854775807) (hb : b.size ≤ 9223372036854775807) : ∃ r, laws_szAttr.f a b n = some r ∧ (r = -1 ∨ (0 ≤ r ∧ r = n - a.size - b.size)) := by
 unfold laws_szAttr.f
 rw [w64 (x := n - (a.size : Int)) (by omega) (by omega)]
 by_cases h : n - (a.size : Int) < 0
 · rw [if_pos h]; exact ⟨_, rfl, .inl rfl⟩
 · rw [if_neg h, w64 (by omega) (by omega)]
   by_cases h2 : n - (a.size : Int) - (b.size : Int) < 0
   · rw [if_pos h2]; exact ⟨_, rfl, .inl rfl⟩
   · rw [if_neg h2]; exact ⟨_, rfl, .inr ⟨by omega, rfl⟩⟩
theorem szAttrS_l (l : List LA) (hl : LAok l) (hlen : l.length ≤ 1048576) : ∀ (d : Nat) (i n : Int), 0 ≤ i → i + d = l.length → 0 ≤ n → n ≤ 1048576 → EvP (fun k => laws_szAttrS.l0 k l n i) (fun r => r = -1 ∨ (0 ≤ r ∧ r = n - tot (l.drop i.toNat))) := by
 intro d
 induction d with
 | zero =>
  intro i n h0 h hn0 hn
  refine EvP.succ ?_
  simp only [laws_szAttrS.l0]
  refine EvP.neg (by omega) (EvP.some (.inr ⟨hn0, ?_⟩))
  rw [List.drop_of_length_le (by omega)]; simp [tot]
 | succ d ih =>
  intro i n h0 h hn0 hn
  refine EvP.succ ?_
  simp only [laws_szAttrS.l0]
  rw [rdLA h0 (by omega), w64 (x := i + 1) (by omega) (by omega), dropA h0 (by omega)]
  have hm := hl.2 (l[i.toNat]'(by omega)) (List.getElem_mem _)
  refine EvP.pos (by omega) (EvP.pos h0 (EvP.bindS (szAttr_p _ _ n hn0 hn hm.1 hm.2) (fun r hr => ?_)))
  rcases hr with rfl | ⟨hr0, hr⟩
  · exact EvP.pos (by omega) (EvP.some (.inl rfl))
  · refine EvP.neg (by omega) (EvP.mono (ih (i + 1) r (by omega) (by omega) hr0 (by omega)) (fun q hq => ?_))
    simp only [tot]
    omega
/-- The bulk of what comes in is small, or the law says nothing. -/
theorem szAttrS_p (l : List LA) (hl : LAok l) (n : Int) (hn0 : 0 ≤ n) (hn : n ≤ 1048576) : EvP (fun k => laws_szAttrS.f k l n) (fun r => r = -1 ∨ (0 ≤ r ∧ r = n - l.length - tot l)) := by
 unfold laws_szAttrS.f
 have := hl.1
 rw [w64 (x := n - (l.length : Int)) (by omega) (by omega)]
 refine EvP.ite (fun _ => EvP.some (.inl rfl)) (fun h => ?_)
 have := szAttrS_l l hl (by omega) l.length 0 (n - l.length) (by omega) (by omega) (by omega) (by omega)
 simpa using this
theorem tot_size {l : List LA} {x : LA} (h : x ∈ l) : (x.f0.size : Int) + x.f1.size ≤ tot l := by
 induction l with
 | nil => simp at h
 | cons y r ih =>
  have := tot_nonneg r
  simp only [tot]
  rcases List.mem_cons.1 h with rfl | h
  · omega
  · have := ih h; omega
theorem toAttrS_l (l : List LA) (hl : l.length ≤ 1048576) : ∀ (d : Nat) (i : Int) (m : List IA), m.length = l.length → 0 ≤ i → i + d = l.length → m.take i.toNat = (l.take i.toNat).map cv → Ev (fun k => laws_toAttrS.l0 k l m i) (l.map cv) := by
 intro d
 induction d with
 | zero =>
  intro i m hm h0 h ht
  refine ev_succ ?_
  simp only [laws_toAttrS.l0]
  refine ev_neg (by omega) (ev_some ?_)
  rwa [List.take_of_length_le (by omega), List.take_of_length_le (by omega)] at ht
 | succ d ih =>
  intro i m hm h0 h ht
  refine ev_succ ?_
  simp only [laws_toAttrS.l0, laws_toAttr.f, Option.bind_some]
  rw [rdLA h0 (by omega), w64 (x := i + 1) (by omega) (by omega)]
  refine ev_pos (by omega) (ev_pos h0 (ev_pos (by omega) (ih (i + 1) _ (by simpa using hm) (by omega) (by omega) ?_)))
  have e : (i + 1).toNat = i.toNat + 1 := by omega
  rw [e, List.take_succ_eq_append_getElem (by simp; omega), List.take_succ_eq_append_getElem (by omega), List.take_set_of_le (Nat.le_refl _), ht, List.map_append, List.map_singleton, List.getElem_set_self]
  rfl
theorem toAttrS_ev (l : List LA) (hl : l.length ≤ 1048576) : Ev (fun k => laws_toAttrS.f k l) (l.map cv) := by
 unfold laws_toAttrS.f
 refine ev_pos (by omega) (ev_pos (by omega) ?_)
 exact toAttrS_l l hl l.length 0 _ (by simp) (by omega) (by omega) (by simp)
theorem eqAttrS_l (l : List IA) (hl : l.length ≤ 2000000) : ∀ (d : Nat) (i : Int), 0 ≤ i → i + d = l.length → Ev (fun k => laws_eqAttrS.l0 k l l i) true := by
 intro d
 induction d with
 | zero =>
  intro i h0 h
  refine ev_succ ?_
  simp only [laws_eqAttrS.l0]
  exact ev_neg (by omega) (Ev.now _)
 | succ d ih =>
  intro i h0 h
  refine ev_succ ?_
  simp only [laws_eqAttrS.l0, laws_eqAttr.f, if_true, Option.bind_some]
  rw [w64 (x := i + 1) (by omega) (by omega)]
  exact ev_pos (by omega) (ev_pos h0 (ev_pos (by omega) (ih (i + 1) (by omega) (by omega))))
theorem eqAttrS_same (l : List IA) (hl : l.length ≤ 2000000) : Ev (fun k => laws_eqAttrS.f k l l) true := by
 unfold laws_eqAttrS.f
 exact ev_pos rfl (eqAttrS_l l hl l.length 0 (by omega) (by omega))
theorem eqIntS_l (l : List Int) (hl : l.length ≤ 9223372036854775807) : ∀ (d : Nat) (i : Int), 0 ≤ i → i + d = l.length → Ev (fun k => laws_eqIntS.l0 k l l i) true := by
 intro d
 induction d with
 | zero =>
  intro i h0 h
  refine Ev.step (f := fun _ => some true) (fun k => ?_) (Ev.now _)
  simp only [laws_eqIntS.l0]; rw [if_neg (by omega)]
 | succ d ih =>
  intro i h0 h
  refine Ev.step (f := fun k => laws_eqIntS.l0 k l l (i + 1)) (fun k => ?_) (ih (i + 1) (by omega) (by omega))
  simp only [laws_eqIntS.l0]; rw [if_pos (by omega), if_pos h0, if_pos (by omega), if_pos True.intro, w64 (by omega) (by omega)]
theorem eqIntS_same (l : List Int) (hl : l.length ≤ 9223372036854775807) : Ev (fun k => laws_eqIntS.f k l l) true := by
 refine Ev.congr (f := fun k => laws_eqIntS.l0 k l l 0) (fun k => ?_) (eqIntS_l l hl l.length 0 (by omega) (by omega))
 simp only [laws_eqIntS.f]; rw [if_pos True.intro]
theorem toIntS_l (l : List Int) (hl : l.length ≤ 4611686018427387903) : ∀ (d : Nat) (i : Int) (m : List Int), m.length = l.length → 0 ≤ i → i + d = l.length → m.take i.toNat = l.take i.toNat → Ev (fun k => laws_toIntS.l0 k l m i) l := by
 intro d
 induction d with
 | zero =>
  intro i m hm h0 h ht
  refine Ev.step (f := fun _ => some m) (fun k => ?_) (ev_some ?_)
  · simp only [laws_toIntS.l0]; rw [if_neg (by omega)]
  · rwa [List.take_of_length_le (by omega), List.take_of_length_le (by omega)] at ht
 | succ d ih =>
  intro i m hm h0 h ht
  refine Ev.step (f := fun k => laws_toIntS.l0 k l (m.set i.toNat (rd l i)) (i + 1)) (fun k => ?_) (ih (i + 1) _ (by simpa using hm) (by omega) (by omega) ?_)
  · simp only [laws_toIntS.l0]; rw [if_pos (by omega), if_pos h0, if_pos (by omega), w64 (by omega) (by omega)]
  · have e : (i + 1).toNat = i.toNat + 1 := by omega
    have hr : rd l i = l[i.toNat]'(by omega) := by unfold rd; rw [List.getD_eq_getElem?_getD, List.getElem?_eq_getElem (by omega)]; rfl
    rw [e, List.take_succ_eq_append_getElem (by simp; omega), List.take_succ_eq_append_getElem (by omega), List.take_set_of_le (Nat.le_refl _), ht]
    simp [hr]
theorem toIntS_ev (l : List Int) (hl : l.length ≤ 17592186043904) : Ev (fun k => laws_toIntS.f k l) l := by
 unfold laws_toIntS.f
 refine ev_pos (by omega) (ev_pos (by omega) ?_)
 exact toIntS_l l (by omega) l.length 0 _ (by simp) (by omega) (by omega) (by simp)
/-- A law's tree as the program takes it. -/
def cvN (x : LN) : IN := ⟨x.f0, x.f1, x.f2.map cv, x.f3, x.f4, x.f5⟩
def LNok (x : LN) : Prop := (-9223372036854775808 ≤ x.f0 ∧ x.f0 ≤ 9223372036854775807) ∧ x.f1.size ≤ 9223372036854775807 ∧ LAok x.f2 ∧ x.f3.size ≤ 9223372036854775807 ∧ (-9223372036854775808 ≤ x.f4 ∧ x.f4 ≤ 9223372036854775807) ∧ (x.f5.length ≤ 9223372036854775807 ∧ ∀ k ∈ x.f5, -9223372036854775808 ≤ k ∧ k ≤ 9223372036854775807)
def LTok (l : List LN) : Prop := l.length ≤ 9223372036854775807 ∧ ∀ x ∈ l, LNok x
def wtN (x : LN) : Int := x.f1.size + x.f2.length + tot x.f2 + x.f3.size + x.f5.length
def wtT : List LN → Int
 | [] => 0
 | x :: r => wtN x + wtT r
theorem wtN_nonneg (x : LN) : 0 ≤ wtN x := by have := tot_nonneg x.f2; unfold wtN; omega
theorem wtT_nonneg (l : List LN) : 0 ≤ wtT l := by
 induction l with
 | nil => simp [wtT]
 | cons x r ih => have := wtN_nonneg x; simp only [wtT]; omega
theorem wtT_mem {l : List LN} {x : LN} (h : x ∈ l) : wtN x ≤ wtT l := by
 induction l with
 | nil => simp at h
 | cons y r ih =>
  have := wtT_nonneg r
  have := wtN_nonneg y
  simp only [wtT]
  rcases List.mem_cons.1 h with rfl | h
  · omega
  · have := ih h; omega
theorem szIntS_p (l : List Int) (n : Int) (hn0 : 0 ≤ n) (hn : n ≤ 1048576) (hl : l.length ≤ 9223372036854775807) : ∃ r, laws_szIntS.f l n = some r ∧ (r = -1 ∨ (0 ≤ r ∧ r = n - l.length)) := by
 unfold laws_szIntS.f
 rw [w64 (x := n - (l.length : Int)) (by omega) (by omega)]
 by_cases h : n - (l.length : Int) < 0
 · rw [if_pos h]; exact ⟨_, rfl, .inl rfl⟩
 · rw [if_neg h]; exact ⟨_, rfl, .inr ⟨by omega, rfl⟩⟩
theorem szNode_p (x : LN) (hx : LNok x) (n : Int) (hn0 : 0 ≤ n) (hn : n ≤ 1048576) : EvP (fun k => laws_szNode.f k x.f0 x.f1 x.f2 x.f3 x.f4 x.f5 n) (fun r => r = -1 ∨ (0 ≤ r ∧ r = n - wtN x)) := by
 obtain ⟨_, h1, h2, h3, _, h5, _⟩ := hx
 have ht := tot_nonneg x.f2
 unfold laws_szNode.f
 rw [w64 (x := n - (x.f1.size : Int)) (by omega) (by omega)]
 refine EvP.ite (fun _ => EvP.some (.inl rfl)) (fun c1 => EvP.bind (szAttrS_p x.f2 h2 _ (by omega) (by omega)) (fun a ha => EvP.ite (fun _ => EvP.some (.inl rfl)) (fun c2 => ?_)))
 rw [w64 (x := a - (x.f3.size : Int)) (by omega) (by omega)]
 refine EvP.ite (fun _ => EvP.some (.inl rfl)) (fun c3 => EvP.bindS (szIntS_p x.f5 _ (by omega) (by omega) h5) (fun b hb => EvP.ite (fun _ => EvP.some (.inl rfl)) (fun c4 => EvP.some (.inr ⟨by omega, ?_⟩))))
 unfold wtN; omega
theorem szNodeS_l (l : List LN) (hl : LTok l) (hlen : l.length ≤ 1048576) : ∀ (d : Nat) (i n : Int), 0 ≤ i → i + d = l.length → 0 ≤ n → n ≤ 1048576 → EvP (fun k => laws_szNodeS.l0 k l n i) (fun r => r = -1 ∨ (0 ≤ r ∧ r = n - wtT (l.drop i.toNat))) := by
 intro d
 induction d with
 | zero =>
  intro i n h0 h hn0 hn
  refine EvP.succ ?_
  simp only [laws_szNodeS.l0]
  refine EvP.neg (by omega) (EvP.some (.inr ⟨hn0, ?_⟩))
  rw [List.drop_of_length_le (by omega)]; simp [wtT]
 | succ d ih =>
  intro i n h0 h hn0 hn
  refine EvP.succ ?_
  simp only [laws_szNodeS.l0]
  rw [rdLN h0 (by omega), w64 (x := i + 1) (by omega) (by omega), dropA h0 (by omega)]
  have hm := hl.2 (l[i.toNat]'(by omega)) (List.getElem_mem _)
  have hw := wtN_nonneg (l[i.toNat]'(by omega))
  refine EvP.pos (by omega) (EvP.pos h0 (EvP.bind (szNode_p _ hm n hn0 hn) (fun r hr => ?_)))
  rcases hr with rfl | ⟨hr0, hr⟩
  · exact EvP.pos (by omega) (EvP.some (.inl rfl))
  · refine EvP.neg (by omega) (EvP.mono (ih (i + 1) r (by omega) (by omega) hr0 (by omega)) (fun q hq => ?_))
    simp only [wtT]
    omega
/-- The bulk of what comes in is small, or the law says nothing. -/
theorem szTree_p (l : List LN) (hl : LTok l) (n : Int) (hn0 : 0 ≤ n) (hn : n ≤ 1048576) : EvP (fun k => laws_szTree.f k l n) (fun r => r = -1 ∨ (0 ≤ r ∧ r = n - l.length - wtT l)) := by
 unfold laws_szTree.f
 refine EvP.bind (P := fun r => r = -1 ∨ (0 ≤ r ∧ r = n - l.length - wtT l)) ?_ (fun r hr => EvP.ite (fun _ => EvP.some (.inl rfl)) (fun c => EvP.some hr))
 unfold laws_szNodeS.f
 have := hl.1
 rw [w64 (x := n - (l.length : Int)) (by omega) (by omega)]
 refine EvP.ite (fun _ => EvP.some (.inl rfl)) (fun h => ?_)
 have := szNodeS_l l hl (by omega) l.length 0 (n - l.length) (by omega) (by omega) (by omega) (by omega)
 simpa using this
theorem toNode_ev (x : LN) (h2 : x.f2.length ≤ 1048576) (h5 : x.f5.length ≤ 1048576) : Ev (fun k => laws_toNode.f k x.f0 x.f1 x.f2 x.f3 x.f4 x.f5) (x.f0, x.f1, x.f2.map cv, x.f3, x.f4, x.f5) := by
 unfold laws_toNode.f
 exact Ev.bind (toAttrS_ev x.f2 h2) (Ev.bind (toIntS_ev x.f5 (by omega)) (Ev.now _))
theorem toNodeS_l (l : List LN) (hl : l.length ≤ 1048576) (hx : ∀ x ∈ l, x.f2.length ≤ 1048576 ∧ x.f5.length ≤ 1048576) : ∀ (d : Nat) (i : Int) (m : List IN), m.length = l.length → 0 ≤ i → i + d = l.length → m.take i.toNat = (l.take i.toNat).map cvN → Ev (fun k => laws_toNodeS.l0 k l m i) (l.map cvN) := by
 intro d
 induction d with
 | zero =>
  intro i m hm h0 h ht
  refine ev_succ ?_
  simp only [laws_toNodeS.l0]
  refine ev_neg (by omega) (ev_some ?_)
  rwa [List.take_of_length_le (by omega), List.take_of_length_le (by omega)] at ht
 | succ d ih =>
  intro i m hm h0 h ht
  refine ev_succ ?_
  simp only [laws_toNodeS.l0]
  rw [rdLN h0 (by omega), w64 (x := i + 1) (by omega) (by omega)]
  have hb := hx (l[i.toNat]'(by omega)) (List.getElem_mem _)
  refine ev_pos (by omega) (ev_pos h0 (Ev.bind (toNode_ev _ hb.1 hb.2) (ev_pos (by omega) (ih (i + 1) _ (by simpa using hm) (by omega) (by omega) ?_))))
  have e : (i + 1).toNat = i.toNat + 1 := by omega
  rw [e, List.take_succ_eq_append_getElem (by simp; omega), List.take_succ_eq_append_getElem (by omega), List.take_set_of_le (Nat.le_refl _), ht, List.map_append, List.map_singleton, List.getElem_set_self]
  rfl
theorem toTree_ev (l : List LN) (hl : l.length ≤ 1048576) (hx : ∀ x ∈ l, x.f2.length ≤ 1048576 ∧ x.f5.length ≤ 1048576) : Ev (fun k => laws_toTree.f k l) (l.map cvN) := by
 unfold laws_toTree.f
 refine Ev.bind ?_ (Ev.now _)
 unfold laws_toNodeS.f
 exact ev_pos (by omega) (toNodeS_l l hl hx l.length 0 _ (by simp) (by omega) (by omega) (by simp))
theorem eqNode_same (x : IN) (h2 : x.f2.length ≤ 2000000) (h5 : x.f5.length ≤ 2000000) : Ev (fun k => laws_eqNode.f k x.f0 x.f1 x.f2 x.f3 x.f4 x.f5 x.f0 x.f1 x.f2 x.f3 x.f4 x.f5) true := by
 unfold laws_eqNode.f
 exact ev_pos rfl (ev_pos rfl (Ev.bind (eqAttrS_same x.f2 h2) (ev_pos rfl (ev_pos rfl (ev_pos rfl (Ev.bind (eqIntS_same x.f5 (by omega)) (ev_pos rfl (Ev.now _))))))))
theorem eqNodeS_l (l : List IN) (hl : l.length ≤ 2000000) (hx : ∀ x ∈ l, x.f2.length ≤ 2000000 ∧ x.f5.length ≤ 2000000) : ∀ (d : Nat) (i : Int), 0 ≤ i → i + d = l.length → Ev (fun k => laws_eqNodeS.l0 k l l i) true := by
 intro d
 induction d with
 | zero =>
  intro i h0 h
  refine ev_succ ?_
  simp only [laws_eqNodeS.l0]
  exact ev_neg (by omega) (Ev.now _)
 | succ d ih =>
  intro i h0 h
  refine ev_succ ?_
  simp only [laws_eqNodeS.l0]
  rw [w64 (x := i + 1) (by omega) (by omega), rdN h0 (by omega)]
  have hb := hx (l[i.toNat]'(by omega)) (List.getElem_mem _)
  exact ev_pos (by omega) (ev_pos h0 (ev_pos (by omega) (Ev.bind (eqNode_same _ hb.1 hb.2) (ev_pos rfl (ih (i + 1) (by omega) (by omega))))))
theorem eqTree_same (l : List IN) (hl : l.length ≤ 2000000) (hx : ∀ x ∈ l, x.f2.length ≤ 2000000 ∧ x.f5.length ≤ 2000000) : Ev (fun k => laws_eqTree.f k l l) true := by
 unfold laws_eqTree.f
 refine Ev.bind ?_ (ev_pos rfl (Ev.now _))
 unfold laws_eqNodeS.f
 exact ev_pos rfl (eqNodeS_l l hl hx l.length 0 (by omega) (by omega))
/-- Of what is light all is small. -/
theorem small_cv {l : List LN} (hl : LTok l) (hlen : l.length ≤ 1048576) (hw : wtT l ≤ 1048576) : smallT (l.map cvN) := by
 refine ⟨by rw [List.length_map]; exact hlen, fun y hy => ?_⟩
 obtain ⟨x, hx, rfl⟩ := List.mem_map.1 hy
 have hxo := hl.2 x hx
 obtain ⟨_, h1, h2, h3, h4, h5, h5a⟩ := hxo
 have hm := wtT_mem hx
 have ht := tot_nonneg x.f2
 unfold wtN at hm
 refine ⟨by show x.f1.size ≤ _; omega, by show (x.f2.map cv).length ≤ _; rw [List.length_map]; omega, fun a ha => ?_, by show x.f3.size ≤ _; omega, h4, by show x.f5.length ≤ _; omega, h5a⟩
 obtain ⟨b, hb, rfl⟩ := List.mem_map.1 ha
 have := tot_size hb
 show b.f0.size ≤ _ ∧ b.f1.size ≤ _
 omega
theorem light_cv {l : List LN} (hlen : l.length ≤ 1048576) (hw : wtT l ≤ 1048576) : ∀ x ∈ l, x.f2.length ≤ 1048576 ∧ x.f5.length ≤ 1048576 := by
 intro x hx
 have hm := wtT_mem hx
 have ht := tot_nonneg x.f2
 unfold wtN at hm
 omega
theorem small_eq {xs : List IN} (h : smallT xs) : ∀ x ∈ xs, x.f2.length ≤ 2000000 ∧ x.f5.length ≤ 2000000 := by
 intro x hx
 obtain ⟨_, h2, _, _, _, h5, _⟩ := h.2 x hx
 omega
theorem takeSnoc {xs : List IN} {i : Int} (h0 : 0 ≤ i) (h1 : i < xs.length) : xs.take i.toNat ++ [rd_T45 xs i] = xs.take (i + 1).toNat := by
 rw [rdN h0 h1, show (i + 1).toNat = i.toNat + 1 by omega, List.take_succ_eq_append_getElem (by omega)]
theorem l6Copy_l {xs : List IN} (hs : smallT xs) (hn : xs.length ≤ 999999) : ∀ (d : Nat) (i : Int), 0 ≤ i → i + d = xs.length → Ev (fun k => spec_l6Copy.l0 k i xs (xs.take i.toNat)) xs := by
 have hl := hs.1
 intro d
 induction d with
 | zero =>
  intro i h0 h
  refine ev_succ ?_
  simp only [spec_l6Copy.l0]
  exact ev_neg (by omega) (ev_some (List.take_of_length_le (by omega)))
 | succ d ih =>
  intro i h0 h
  have hx := smallN_at hs (i := i) h0 (by omega)
  have ht : (xs.take i.toNat).length ≤ 999999 := by rw [List.length_take]; omega
  refine ev_succ ?_
  simp only [spec_l6Copy.l0]
  rw [w64 (x := i + 1) (by omega) (by omega)]
  refine ev_pos (by omega) (ev_pos h0 (ev_pos hx.2.1 (ev_pos hx.2.2.2.2.2.1 (ev_pos (by omega) ?_))))
  have := ih (i + 1) (by omega) (by omega)
  rw [← takeSnoc h0 (by omega)] at this
  exact this
theorem l6Copy_ev {xs : List IN} (hs : smallT xs) (hn : xs.length ≤ 999999) : Ev (fun k => spec_l6Copy.f k xs) xs := l6Copy_l hs hn xs.length 0 (by omega) (by omega)
theorem copyNode_eq (x : IN) (h : smallN x) : impl_copyNode.f x.f0 x.f1 x.f2 x.f3 x.f4 x.f5 = some (x.f0, x.f1, x.f2, x.f3, x.f4, x.f5) := by
 unfold impl_copyNode.f
 have h2 : impl_Attr_97.f x.f2 = some x.f2 := if_pos (by have := h.2.1; omega)
 have h5 : slices_Clone_int_int.f x.f5 = some x.f5 := if_pos (by have := h.2.2.2.2.2.1; omega)
 rw [h2, Option.bind_some, h5, Option.bind_some]
theorem copyTree_l {xs : List IN} (hs : smallT xs) (hn : xs.length ≤ 999999) : ∀ (d : Nat) (i : Int), 0 ≤ i → i + d = xs.length → Ev (fun k => impl_copyTree.l0 k i xs (xs.take i.toNat)) xs := by
 have hl := hs.1
 intro d
 induction d with
 | zero =>
  intro i h0 h
  refine ev_succ ?_
  simp only [impl_copyTree.l0]
  exact ev_neg (by omega) (ev_some (List.take_of_length_le (by omega)))
 | succ d ih =>
  intro i h0 h
  have hx := smallN_at hs (i := i) h0 (by omega)
  have ht : (xs.take i.toNat).length ≤ 999999 := by rw [List.length_take]; omega
  refine ev_succ ?_
  simp only [impl_copyTree.l0]
  rw [copyNode_eq _ hx, w64 (x := i + 1) (by omega) (by omega)]
  simp only [Option.bind_some]
  refine ev_pos (by omega) (ev_pos h0 (ev_pos (by omega) ?_))
  have := ih (i + 1) (by omega) (by omega)
  rw [← takeSnoc h0 (by omega)] at this
  exact this
theorem copyTree_ev {xs : List IN} (hs : smallT xs) (hn : xs.length ≤ 999999) : Ev (fun k => impl_copyTree.f k xs) xs := copyTree_l hs hn xs.length 0 (by omega) (by omega)
theorem spec_l1Ok_ev (s : ByteArray) (h : s.size ≤ 140737488355328) : Ev (fun k => spec_l1Ok.f k s) (textOk s) := by
 unfold spec_l1Ok.f
 exact ev_pos h (Ev.bind (spec_UtfOk_ev _ (bytesOf_wf s)) (Ev.now _))
theorem spec_IsBlank_eq (x : Int) : spec_IsBlank.f x = some (blank x) := by
 unfold spec_IsBlank.f blank
 by_cases a : x = 9
 · simp [a]
 · by_cases b : x = 10
   · simp [b]
   · by_cases c : x = 12
     · simp [c]
     · simp only [if_neg a, if_neg b, if_neg c, decide_eq_false a, decide_eq_false b, decide_eq_false c, Bool.false_or]
       rfl
theorem spec_NameOk_l0 (s : ByteArray) (hl : s.size ≤ 1000) : ∀ (d : Nat) (i : Int), 0 ≤ i → i + d = s.size → Ev (fun k => spec_NameOk.l0 k s i) (((bytesOf s).drop i.toNat).all (fun x => !outer x)) := by
 intro d
 have hlen := bytesOf_length s
 induction d with
 | zero =>
  intro i h0 h
  refine ev_succ ?_
  simp only [spec_NameOk.l0]
  refine ev_neg (by omega) (ev_some ?_)
  rw [List.drop_of_length_le (by omega)]; rfl
 | succ d ih =>
  intro i h0 h
  refine ev_succ ?_
  simp only [spec_NameOk.l0]
  have hr := bt_range s i
  rw [w64 (x := bt s i) (by omega) (by omega), w64 (x := i + 1) (by omega) (by omega), drop_cons h0 (by omega), rd_bytesOf]
  simp only [spec_IsBlank_eq, Option.bind_some, List.all_cons]
  have hi := ih (i + 1) (by omega) (by omega)
  refine ev_pos (by omega) (ev_pos h0 ?_)
  generalize bt s i = x at *
  unfold outer at hi ⊢
  by_cases h1 : blank x = true
  · exact ev_pos h1 (ev_some (by rw [h1]; rfl))
  refine ev_neg h1 ?_
  by_cases h2 : x = 47
  · exact ev_pos h2 (ev_some (by simp [h2]))
  refine ev_neg h2 ?_
  by_cases h3 : x = 62
  · exact ev_pos h3 (ev_some (by simp [h3]))
  refine ev_neg h3 ?_
  by_cases h4 : x = 0
  · exact ev_pos h4 (ev_some (by simp [h4]))
  refine ev_neg h4 ?_
  by_cases h5 : x ≥ 65
  · refine ev_pos h5 ?_
    by_cases h6 : x ≤ 90
    · exact ev_pos h6 (ev_some (by simp [h5, h6]))
    · exact ev_neg h6 (ev_cast hi (by simp [h1, h2, h3, h4, h6]))
  · exact ev_neg h5 (ev_cast hi (by simp [h1, h2, h3, h4]; omega))
theorem spec_NameOk_ev (s : ByteArray) (hs : s.size ≤ 140737488355328) : Ev (fun k => spec_NameOk.f k s) (nameOk s) := by
 unfold spec_NameOk.f nameOk
 simp only [spec_l1In_eq, Option.bind_some]
 have hjt : Ev (fun k => spec_NameOk.j0 k s true) false := by
  refine ev_succ ?_
  simp only [spec_NameOk.j0]
  exact ev_pos (by simp) (Ev.now _)
 by_cases hsz : 1 ≤ s.size ∧ s.size ≤ 60
 · rw [decide_eq_true hsz, decide_eq_true (show (1 : Int) ≤ s.size ∧ (s.size : Int) ≤ 60 by omega)]
   refine ev_pos (by simp) (Ev.bind (spec_l1Ok_ev s hs) ?_)
   cases textOk s with
   | false => exact ev_neg (by simp) (ev_cast hjt (by simp))
   | true =>
    refine ev_pos (by simp) (ev_pos (by omega) ?_)
    by_cases h1 : bt s 0 < 97
    · rw [decide_eq_false (show ¬ (97 ≤ bt s 0 ∧ bt s 0 ≤ 122) by omega)]
      exact ev_pos h1 (ev_cast hjt (by simp))
    · refine ev_neg h1 ?_
      by_cases h2 : bt s 0 > 122
      · rw [decide_eq_false (show ¬ (97 ≤ bt s 0 ∧ bt s 0 ≤ 122) by omega), decide_eq_true h2]
        exact ev_cast hjt (by simp)
      · rw [decide_eq_true (show (97 ≤ bt s 0 ∧ bt s 0 ≤ 122) by omega), decide_eq_false h2]
        refine ev_succ ?_
        simp only [spec_NameOk.j0]
        refine ev_neg (by simp) (ev_cast (spec_NameOk_l0 s (by omega) s.size 0 (by omega) (by omega)) (by simp))
 · rw [decide_eq_false hsz, decide_eq_false (show ¬ ((1 : Int) ≤ s.size ∧ (s.size : Int) ≤ 60) by omega)]
   exact ev_neg (by simp) (ev_cast hjt (by simp))
theorem spec_l4Attr_ev (x : IA) (h : x.f0.size ≤ 1048576 ∧ x.f1.size ≤ 1048576) : Ev (fun k => spec_l4Attr.f k x.f0 x.f1) (attrOkB x) := by
 unfold spec_l4Attr.f attrOkB
 simp only [spec_l1In_eq, Option.bind_some]
 by_cases h1 : 1 ≤ x.f0.size ∧ x.f0.size ≤ 60
 · rw [decide_eq_true h1, Bool.true_and]
   refine ev_pos (by simp; omega) ?_
   by_cases h2 : x.f1.size ≤ 3000
   · rw [decide_eq_true h2, Bool.true_and]
     refine ev_pos (by omega) (Ev.bind (spec_l1Ok_ev x.f0 (by omega)) ?_)
     cases textOk x.f0 with
     | true => exact ev_pos (by simp) (Ev.bind (spec_l1Ok_ev x.f1 (by omega)) (ev_some (by simp)))
     | false => exact ev_neg (by simp) (ev_some (by simp))
   · rw [decide_eq_false h2]
     exact ev_neg (by omega) (ev_some (by simp))
 · rw [decide_eq_false h1]
   exact ev_neg (by simp; omega) (ev_some (by simp))
theorem impl_textOk_ev (s : ByteArray) (h : s.size ≤ 140737488355328) : Ev (fun k => impl_textOk.f k s) (textOk s) := by
 unfold impl_textOk.f
 exact ev_pos h (Ev.bind (impl_UtfOk_ev _ (bytesOf_wf s)) (Ev.now _))
theorem impl_attrOk_ev (x : IA) (h : x.f0.size ≤ 1048576 ∧ x.f1.size ≤ 1048576) : Ev (fun k => impl_attrOk.f k x.f0 x.f1) (attrOkB x) := by
 unfold impl_attrOk.f attrOkB
 simp only [impl_inRange_eq, Option.bind_some]
 by_cases h1 : 1 ≤ x.f0.size ∧ x.f0.size ≤ 60
 · rw [decide_eq_true h1, Bool.true_and]
   refine ev_pos (by simp; omega) ?_
   by_cases h2 : x.f1.size ≤ 3000
   · rw [decide_eq_true h2, Bool.true_and]
     refine ev_pos (by omega) (Ev.bind (impl_textOk_ev x.f0 (by omega)) ?_)
     cases textOk x.f0 with
     | true => exact ev_pos (by simp) (Ev.bind (impl_textOk_ev x.f1 (by omega)) (ev_some (by simp)))
     | false => exact ev_neg (by simp) (ev_some (by simp))
   · rw [decide_eq_false h2]
     exact ev_neg (by omega) (ev_some (by simp))
 · rw [decide_eq_false h1]
   exact ev_neg (by simp; omega) (ev_some (by simp))
theorem impl_attrAt_l (l : List IA) (s : ByteArray) (hl : l.length ≤ 1048576) : ∀ (d : Nat) (i : Int), 0 ≤ i → i + d = l.length → Ev (fun k => impl_attrAt.l0 k l s i) (attrIx (l.drop i.toNat) s i) := by
 intro d
 induction d with
 | zero =>
  intro i h0 h
  refine ev_succ ?_
  simp only [impl_attrAt.l0]
  refine ev_neg (by omega) (ev_some ?_)
  rw [List.drop_of_length_le (by omega)]; rfl
 | succ d ih =>
  intro i h0 h
  refine ev_succ ?_
  simp only [impl_attrAt.l0]
  rw [dropA h0 (by omega), rdA h0 (by omega), w64 (x := i + 1) (by omega) (by omega)]
  refine ev_pos (by omega) (ev_pos h0 ?_)
  simp only [attrIx]
  by_cases c : (l[i.toNat]'(by omega)).f0 = s
  · rw [if_pos (toList_iff.2 c)]; exact ev_pos (toList_iff.2 c) (Ev.now _)
  · rw [if_neg (fun g => c (toList_iff.1 g))]; exact ev_neg (fun g => c (toList_iff.1 g)) (ih (i + 1) (by omega) (by omega))
theorem impl_attrAt_ev (l : List IA) (s : ByteArray) (hl : l.length ≤ 1048576) : Ev (fun k => impl_attrAt.f k l s) (attrIx l s 0) := by
 have := impl_attrAt_l l s hl l.length 0 (by omega) (by omega)
 simpa [impl_attrAt.f] using this
/-- From a place on: each attribute is right, and none ahead of it has its name. -/
def okFrom (l : List IA) (i : Nat) : Prop := ∀ j, i ≤ j → (h : j < l.length) → attrOkB l[j] = true ∧ ∀ m (hm : m < j), (l[m]'(by omega)).f0 ≠ l[j].f0
theorem okFrom_zero (l : List IA) (h : l.length ≤ 20) : attrsOkP l ↔ okFrom l 0 := by
 unfold attrsOkP okFrom
 rw [namesOnce_index]
 constructor
 · rintro ⟨_, h1, h2⟩ j _ hj
   exact ⟨h1 _ (List.getElem_mem _), fun m hm => h2 m j hm hj⟩
 · intro g
   refine ⟨h, fun x hx => ?_, fun i j hi hj => (g j (by omega) hj).2 i hi⟩
   obtain ⟨j, hj, rfl⟩ := List.getElem_of_mem hx
   exact (g j (by omega) hj).1
theorem attrIx_self (l : List IA) (i : Nat) (hi : i < l.length) : attrIx l l[i].f0 0 = i ↔ ∀ m (hm : m < i), (l[m]'(by omega)).f0 ≠ l[i].f0 := by
 rcases attrIx_get l l[i].f0 0 (by omega) with ⟨g, g2⟩ | ⟨j, hj, g1, g2, _, g4⟩
 · exfalso
   have := attrOf_mem (l := l) (s := l[i].f0)
   have hne : ∀ x ∈ l, x.f0 ≠ l[i].f0 := by
    intro x hx e
    rcases attrIx_get l l[i].f0 0 (by omega) with ⟨q, _⟩ | ⟨j, hj, q1, q2, _, _⟩
    · have key : ∀ (l : List IA) (s : ByteArray) (n : Int), 0 ≤ n → attrIx l s n = -1 → ∀ x ∈ l, x.f0 ≠ s := by
       intro l
       induction l with
       | nil => intro s n _ _ x hx; simp at hx
       | cons y r ih =>
        intro s n hn hq x hx
        unfold attrIx at hq
        by_cases c : y.f0.toList = s.toList
        · rw [if_pos c] at hq; omega
        · rw [if_neg c] at hq
          rcases List.mem_cons.1 hx with rfl | hx
          · exact fun e => c (toList_iff.2 e)
          · exact ih s (n + 1) (by omega) hq x hx
      exact key l _ 0 (by omega) q x hx e
    · omega
   exact hne l[i] (List.getElem_mem _) rfl
 · rw [g1]
   constructor
   · intro e m hm
     have : j = i := by omega
     subst this
     exact g4 m hm
   · intro h
     rcases Nat.lt_trichotomy i j with c | c | c
     · exact absurd rfl (g4 i c)
     · omega
     · exact absurd g2 (h j c)
theorem impl_AttrsOk_l (l : List IA) (hl : l.length ≤ 20) (hs : ∀ x ∈ l, x.f0.size ≤ 1048576 ∧ x.f1.size ≤ 1048576) : ∀ (d i : Nat), i + d = l.length → ∃ r, Ev (fun k => impl_AttrsOk.l0 k l l (l.length : Int) i) r ∧ (r = true ↔ okFrom l i) := by
 intro d
 induction d with
 | zero =>
  intro i h
  refine ⟨true, ?_, by simp; intro j h1 h2; omega⟩
  refine ev_succ ?_
  simp only [impl_AttrsOk.l0]
  exact ev_neg (by omega) (Ev.now _)
 | succ d ih =>
  intro i h
  have hi : i < l.length := by omega
  obtain ⟨r, hr, hrr⟩ := ih (i + 1) (by omega)
  have hrd : rd_T98 l (i : Int) = l[i] := rdA (l := l) (i := (i : Int)) (by omega) (by omega)
  have hstep : okFrom l i ↔ (attrOkB l[i] = true ∧ ∀ m (hm : m < i), (l[m]'(by omega)).f0 ≠ l[i].f0) ∧ okFrom l (i + 1) := by
   constructor
   · intro g; exact ⟨g i (Nat.le_refl _) hi, fun j hj h => g j (by omega) h⟩
   · rintro ⟨g1, g2⟩ j hj h
     by_cases e : j = i
     · subst e; exact g1
     · exact g2 j (by omega) h
  have hat := impl_attrAt_ev l l[i].f0 (by omega)
  have hok := impl_attrOk_ev l[i] (hs _ (List.getElem_mem _))
  have hself := attrIx_self l i hi
  by_cases c1 : attrIx l l[i].f0 0 = (i : Int)
  · by_cases c2 : attrOkB l[i] = true
    · refine ⟨r, ?_, by rw [hrr, hstep]; exact ⟨fun g => ⟨⟨c2, hself.1 c1⟩, g⟩, fun g => g.2⟩⟩
      refine ev_succ ?_
      simp only [impl_AttrsOk.l0]
      rw [hrd, w64 (x := (i : Int) + 1) (by omega) (by omega)]
      exact ev_pos (by omega) (ev_pos (by omega) (ev_pos (by omega) (Ev.bind hat (ev_pos c1 (Ev.bind hok (ev_pos c2 hr))))))
    · refine ⟨false, ?_, by rw [hstep]; simp [c2]⟩
      refine ev_succ ?_
      simp only [impl_AttrsOk.l0]
      rw [hrd]
      exact ev_pos (by omega) (ev_pos (by omega) (ev_pos (by omega) (Ev.bind hat (ev_pos c1 (Ev.bind hok (ev_neg c2 (Ev.now _)))))))
  · refine ⟨false, ?_, ?_⟩
    · refine ev_succ ?_
      simp only [impl_AttrsOk.l0]
      rw [hrd]
      exact ev_pos (by omega) (ev_pos (by omega) (ev_pos (by omega) (Ev.bind hat (ev_neg c1 (Ev.now _)))))
    · rw [hstep]
      constructor
      · intro g; simp at g
      · rintro ⟨⟨_, g⟩, _⟩; exact absurd (hself.2 g) c1
theorem impl_AttrsOk_ev (l : List IA) (hs : ∀ x ∈ l, x.f0.size ≤ 1048576 ∧ x.f1.size ≤ 1048576) : ∃ r, Ev (fun k => impl_AttrsOk.f k l) r ∧ (r = true ↔ attrsOkP l) := by
 by_cases h : l.length ≤ 20
 · obtain ⟨r, hr, hrr⟩ := impl_AttrsOk_l l h hs l.length 0 (by omega)
   refine ⟨r, ?_, by rw [hrr, okFrom_zero l h]⟩
   unfold impl_AttrsOk.f
   exact ev_neg (by omega) hr
 · refine ⟨false, ?_, by unfold attrsOkP; simp [h]⟩
   unfold impl_AttrsOk.f
   exact ev_pos (by omega) (Ev.now _)
theorem spec_AttrsOk_l (l : List IA) (hl : l.length ≤ 20) (hs : ∀ x ∈ l, x.f0.size ≤ 1048576 ∧ x.f1.size ≤ 1048576) : ∀ (d i : Nat), i + d = l.length → ∃ r, Ev (fun k => spec_AttrsOk.l0 k l i) r ∧ (r = true ↔ okFrom l i) := by
 intro d
 induction d with
 | zero =>
  intro i h
  refine ⟨true, ?_, by simp; intro j h1 h2; omega⟩
  refine ev_succ ?_
  simp only [spec_AttrsOk.l0]
  exact ev_neg (by omega) (Ev.now _)
 | succ d ih =>
  intro i h
  have hi : i < l.length := by omega
  obtain ⟨r, hr, hrr⟩ := ih (i + 1) (by omega)
  have hrd : ∀ (j : Nat) (hj : j < l.length), rd_T98 l (j : Int) = l[j] := fun j hj => rdA (l := l) (i := (j : Int)) (by omega) (by omega)
  have hstep : okFrom l i ↔ (attrOkB l[i] = true ∧ ∀ m (hm : m < i), (l[m]'(by omega)).f0 ≠ l[i].f0) ∧ okFrom l (i + 1) := by
   constructor
   · intro g; exact ⟨g i (Nat.le_refl _) hi, fun j hj h => g j (by omega) h⟩
   · rintro ⟨g1, g2⟩ j hj h
     by_cases e : j = i
     · subst e; exact g1
     · exact g2 j (by omega) h
  have hok := spec_l4Attr_ev l[i] (hs _ (List.getElem_mem _))
  have inner : ∀ (e m : Nat), m + e = i → ∃ r2, Ev (fun k => spec_AttrsOk.l1 k l i m) r2 ∧ (r2 = true ↔ (∀ m' (hm : m' < i), m ≤ m' → (l[m']'(by omega)).f0 ≠ l[i].f0) ∧ okFrom l (i + 1)) := by
   intro e
   induction e with
   | zero =>
    intro m hm
    refine ⟨r, ?_, ?_⟩
    · refine ev_succ ?_
      simp only [spec_AttrsOk.l1]
      rw [w64 (x := (i : Int) + 1) (by omega) (by omega)]
      exact ev_neg (by omega) hr
    · rw [hrr]
      constructor
      · intro g; exact ⟨fun m' h1 h2 => by omega, g⟩
      · intro g; exact g.2
   | succ e ihe =>
    intro m hm
    obtain ⟨r2, h2, h3⟩ := ihe (m + 1) (by omega)
    by_cases c : (l[m]'(by omega)).f0 = l[i].f0
    · refine ⟨false, ?_, ?_⟩
      · refine ev_succ ?_
        simp only [spec_AttrsOk.l1]
        rw [hrd m (by omega), hrd i hi]
        exact ev_pos (by omega) (ev_pos (by omega) (ev_pos (by omega) (ev_pos (by omega) (ev_pos (by omega) (ev_pos (toList_iff.2 c) (Ev.now _))))))
      · constructor
        · intro g; simp at g
        · rintro ⟨g, _⟩; exact absurd c (g m (by omega) (Nat.le_refl _))
    · refine ⟨r2, ?_, ?_⟩
      · refine ev_succ ?_
        simp only [spec_AttrsOk.l1]
        rw [hrd m (by omega), hrd i hi, w64 (x := (m : Int) + 1) (by omega) (by omega)]
        exact ev_pos (by omega) (ev_pos (by omega) (ev_pos (by omega) (ev_pos (by omega) (ev_pos (by omega) (ev_neg (fun g => c (toList_iff.1 g)) h2)))))
      · rw [h3]
        constructor
        · rintro ⟨g1, g2⟩
          refine ⟨fun m' hm' hle => ?_, g2⟩
          by_cases e : m' = m
          · subst e; exact c
          · exact g1 m' hm' (by omega)
        · rintro ⟨g1, g2⟩
          exact ⟨fun m' hm' hle => g1 m' hm' (by omega), g2⟩
  obtain ⟨r2, h2, h3⟩ := inner i 0 (by omega)
  by_cases c2 : attrOkB l[i] = true
  · refine ⟨r2, ?_, ?_⟩
    · refine ev_succ ?_
      simp only [spec_AttrsOk.l0]
      rw [hrd i hi]
      exact ev_pos (by omega) (ev_pos (by omega) (Ev.bind hok (ev_pos c2 h2)))
    · rw [h3, hstep]
      constructor
      · rintro ⟨g1, g2⟩; exact ⟨⟨c2, fun m hm => g1 m hm (by omega)⟩, g2⟩
      · rintro ⟨⟨_, g1⟩, g2⟩; exact ⟨fun m hm _ => g1 m hm, g2⟩
  · refine ⟨false, ?_, by rw [hstep]; simp [c2]⟩
    refine ev_succ ?_
    simp only [spec_AttrsOk.l0]
    rw [hrd i hi]
    exact ev_pos (by omega) (ev_pos (by omega) (Ev.bind hok (ev_neg c2 (Ev.now _))))
theorem spec_AttrsOk_ev (l : List IA) (hs : ∀ x ∈ l, x.f0.size ≤ 1048576 ∧ x.f1.size ≤ 1048576) : ∃ r, Ev (fun k => spec_AttrsOk.f k l) r ∧ (r = true ↔ attrsOkP l) := by
 by_cases h : l.length ≤ 20
 · obtain ⟨r, hr, hrr⟩ := spec_AttrsOk_l l h hs l.length 0 (by omega)
   refine ⟨r, ?_, by rw [hrr, okFrom_zero l h]⟩
   unfold spec_AttrsOk.f
   exact ev_neg (by omega) hr
 · refine ⟨false, ?_, by unfold attrsOkP; simp [h]⟩
   unfold spec_AttrsOk.f
   exact ev_pos (by omega) (Ev.now _)
theorem spec_l6Node_p (x : IN) (h : smallN x) : EvP (fun k => spec_l6Node.f k x.f0 x.f1 x.f2 x.f3 x.f4 x.f5) (fun r => r = true ↔ kindP x) := by
 obtain ⟨h1, h2, h2a, h3, h4, h5, h5a⟩ := h
 have hj : ∀ p : Bool, (p = true ↔ x.f1.toList = [] ∧ x.f3.toList = []) → EvP (fun k => spec_l6Node.j0 k p x.f0 x.f1 x.f2 x.f3 x.f4 x.f5) (fun r => r = true ↔ kindP x) := by
  intro p hp
  refine EvP.succ ?_
  simp only [spec_l6Node.j0]
  unfold kindP
  refine EvP.ite (fun e1 => ?_) (fun n1 => EvP.ite (fun e2 => ?_) (fun n2 => EvP.ite (fun e3 => ?_) (fun n3 => EvP.ite (fun e4 => ?_) (fun n4 => EvP.ite (fun e5 => ?_) (fun n5 => EvP.some ?_)))))
  · rw [e1]
    refine EvP.ite (fun hq => EvP.some ?_) (fun hq => EvP.some ?_)
    · have := hp.1 hq
      simp [this]
    · have : ¬ (x.f1.toList = [] ∧ x.f3.toList = []) := fun g => hq (hp.2 g)
      simp only [Bool.false_eq_true, false_iff]
      rintro (g | g | g | g | g)
      · exact this ⟨g.2.1, g.2.2.1⟩
      all_goals exact absurd g.1 (by decide)
  · rw [e2]
    refine EvP.ite (fun a1 => EvP.ite (fun a2 => EvP.ite (fun a3 => EvP.bind (EvP.of (spec_l1Ok_ev x.f1 (by omega)) rfl) (fun r hr => ?_)) (fun b => EvP.some ?_)) (fun b => EvP.some ?_)) (fun b => EvP.some ?_)
    · subst hr
      refine EvP.ite (fun a4 => EvP.some ?_) (fun b => EvP.some ?_)
      · have a2' : x.f2.length = 0 := by omega
        have a3' : x.f1.size ≤ 60 := by omega
        rw [a4]
        simp [a1, a2', a3']
      · simp [b]
    · simp only [Bool.false_eq_true, false_iff]
      rintro (g | g | g | g | g) <;> omega
    · simp only [Bool.false_eq_true, false_iff]
      rintro (g | g | g | g | g) <;> omega
    · simp [b]
  · rw [e3]
    refine EvP.ite (fun a1 => EvP.bind (EvP.of (spec_NameOk_ev x.f1 (by omega)) rfl) (fun r hr => ?_)) (fun b => EvP.some (by simp [b]))
    subst hr
    refine EvP.ite (fun a2 => ?_) (fun b => EvP.some (by simp [b]))
    obtain ⟨r, hr, hrr⟩ := spec_AttrsOk_ev x.f2 h2a
    refine EvP.bind (EvP.of hr rfl) (fun q hq => EvP.some ?_)
    subst hq
    rw [hrr]
    simp [a1, a2]
  · rw [e4]
    refine EvP.ite (fun a1 => EvP.ite (fun a2 => EvP.ite (fun a3 => EvP.some ?_) (fun a3 => EvP.bind (EvP.of (spec_l1Ok_ev x.f3 (by omega)) rfl) (fun r hr => ?_))) (fun b => EvP.some ?_)) (fun b => EvP.some (by simp [b]))
    · simp [a3]
    · subst hr
      have a2' : x.f2.length = 0 := by omega
      refine EvP.ite (fun a4 => EvP.some ?_) (fun b => EvP.some (by simp [b]))
      rw [a4]
      simp [a1, a2', a3]
    · simp only [Bool.false_eq_true, false_iff]
      rintro (g | g | g | g | g) <;> omega
  · rw [e5]
    refine EvP.ite (fun a1 => EvP.ite (fun a2 => EvP.bind (EvP.of (spec_l1Ok_ev x.f3 (by omega)) rfl) (fun r hr => ?_)) (fun b => EvP.some ?_)) (fun b => EvP.some (by simp [b]))
    · subst hr
      have a2' : x.f2.length = 0 := by omega
      refine EvP.ite (fun a4 => EvP.some ?_) (fun b => EvP.some (by simp [b]))
      rw [a4]
      simp [a1, a2']
    · simp only [Bool.false_eq_true, false_iff]
      rintro (g | g | g | g | g) <;> omega
  · simp [n1, n2, n3, n4, n5]
 unfold spec_l6Node.f
 refine EvP.ite (fun a => hj _ ?_) (fun b => hj _ ?_)
 · simp [a]
 · simp [b]
section
variable {xs : List IN} {n : Int}
theorem parAt_rd (hn : n = xs.length) {i : Int} (h0 : 0 ≤ i) (h1 : i < n) : parAt (parsOf xs) i = (rd_T45 xs i).f4 := by
 unfold parAt
 rw [if_pos h0, pars_at h0 (by omega)]
theorem parsIn_at (hp : parsIn (parsOf xs)) (hn : n = xs.length) {i : Int} (h0 : 0 ≤ i) (h1 : i < n) : -1 ≤ (rd_T45 xs i).f4 ∧ (rd_T45 xs i).f4 < n := by
 have := hp i.toNat (by rw [parsOf_length]; omega)
 rw [pars_at h0 (by omega), parsOf_length] at this
 omega
theorem spec_up_l (hs : xs.length ≤ 500) (hn : n = xs.length) (hp : parsIn (parsOf xs)) (s : List Bool) (i : Int) (r : Bool) (hr : Ev (fun k => spec_TreeOk.l2 k n s (wrap64 (i + 1)) xs) r) :
 ∀ (m : Nat) (up c : Int), up < n → 0 ≤ c → c + m = n + 1 → Ev (fun k => spec_TreeOk.l3 k n s i up c xs) (if upOk (parsOf xs) m up = true then r else false) := by
 intro m
 induction m with
 | zero =>
  intro up c hu hc hm
  refine ev_succ ?_
  simp only [spec_TreeOk.l3]
  by_cases h : up ≥ 0
  · refine ev_pos h (ev_pos (by omega) (ev_some ?_))
    unfold upOk
    rw [if_neg (by simp; omega)]
  · refine ev_neg h (ev_cast hr ?_)
    unfold upOk
    rw [if_pos (by simp; omega)]
 | succ m ih =>
  intro up c hu hc hm
  refine ev_succ ?_
  simp only [spec_TreeOk.l3]
  by_cases h : up ≥ 0
  · have hpi := parsIn_at hp hn h hu
    refine ev_pos h (ev_neg (by omega) (ev_pos h (ev_pos (by omega) ?_)))
    rw [w64 (x := c + 1) (by omega) (by omega)]
    refine ev_cast (ih _ (c + 1) hpi.2 (by omega) (by omega)) ?_
    conv => rhs; unfold upOk
    rw [if_neg (show ¬ up < 0 by omega), parAt_rd hn h hu]
  · refine ev_neg h (ev_cast hr ?_)
    unfold upOk
    rw [if_pos (show up < 0 by omega), if_pos rfl]
def linkAt (P : List Int) (s : List Bool) (j : Nat) : Prop := s.getD j false = decide (0 ≤ P.getD j 0) ∧ upOk P (P.length + 1) j = true
theorem spec_l2_p (hs : xs.length ≤ 500) (hn : n = xs.length) (hp : parsIn (parsOf xs)) (s : List Bool) (hl : s.length = xs.length) : ∀ (d i : Nat), i + d = xs.length → EvP (fun k => spec_TreeOk.l2 k n s (i : Int) xs) (fun r => r = true ↔ ∀ j, i ≤ j → j < xs.length → linkAt (parsOf xs) s j) := by
 intro d
 induction d with
 | zero =>
  intro i h
  refine EvP.succ ?_
  simp only [spec_TreeOk.l2]
  refine EvP.neg (by omega) (EvP.some ?_)
  simp only [true_iff]
  intro j h1 h2; omega
 | succ d ih =>
  intro i h
  refine EvP.succ ?_
  simp only [spec_TreeOk.l2]
  have hi0 : (0 : Int) ≤ (i : Int) := by omega
  have hi1 : (i : Int) < n := by omega
  have hP := pars_at (xs := xs) hi0 (by omega) 0
  rw [Int.toNat_natCast] at hP
  refine EvP.pos hi1 (EvP.pos hi0 (EvP.pos (by omega) (EvP.pos (by omega) ?_)))
  rw [← hP]
  have hrd : rdOf false s (i : Int) = s.getD i false := rfl
  rw [hrd]
  by_cases c : (s.getD i false != decide ((parsOf xs).getD i 0 ≥ 0)) = true
  · refine EvP.pos c (EvP.some ?_)
    simp only [Bool.false_eq_true, false_iff]
    intro g
    have g1 := (g i (Nat.le_refl _) (by omega)).1
    rw [g1] at c
    simp at c
  · refine EvP.neg c ?_
    have c' : s.getD i false = decide (0 ≤ (parsOf xs).getD i 0) := by
     have := Bool.eq_false_iff.2 c
     rw [bne_eq_false_iff_eq] at this
     exact this
    obtain ⟨r, hr, hrr⟩ := ih (i + 1) (by omega)
    have hw : wrap64 ((i : Int) + 1) = ((i + 1 : Nat) : Int) := by rw [w64 (by omega) (by omega)]; omega
    have hu := spec_up_l hs hn hp s (i : Int) r (by rw [hw]; exact hr) (xs.length + 1) (i : Int) 0 hi1 (by omega) (by omega)
    refine EvP.of hu ?_
    by_cases hup : upOk (parsOf xs) (xs.length + 1) (i : Int) = true
    · rw [if_pos hup, hrr]
      constructor
      · intro g j h1 h2
        by_cases e : j = i
        · subst e; exact ⟨c', by rw [parsOf_length]; exact hup⟩
        · exact g j (by omega) h2
      · intro g j h1 h2; exact g j (by omega) h2
    · rw [if_neg hup]
      simp only [Bool.false_eq_true, false_iff]
      intro g
      have := (g i (Nat.le_refl _) (by omega)).2
      rw [parsOf_length] at this
      exact hup this
theorem spec_l1_p (hs : smallT xs) (hs5 : xs.length ≤ 500) (hn : n = xs.length) (i : Int) (h0 : 0 ≤ i) (h1 : i < n) (R : List Bool → Bool → Prop) :
 ∀ (d : Nat) (j : Int) (s : List Bool), 0 ≤ j → j + d = (rd_T45 xs i).f5.length → s.length = xs.length →
 (∀ s', kidsRun (parsOf xs) 1 i ((rd_T45 xs i).f5.drop j.toNat) s = some s' → s'.length = xs.length → EvP (fun k => spec_TreeOk.l0 k n s' (wrap64 (i + 1)) xs) (R s')) →
 EvP (fun k => spec_TreeOk.l1 k n s i j xs (rd_T45 xs i).f0 (rd_T45 xs i).f1 (rd_T45 xs i).f2 (rd_T45 xs i).f3 (rd_T45 xs i).f4 (rd_T45 xs i).f5)
  (fun r => match kidsRun (parsOf xs) 1 i ((rd_T45 xs i).f5.drop j.toNat) s with | none => r = false | some s' => R s' r) := by
 have hsm := smallN_at hs h0 (by omega)
 obtain ⟨_, _, _, _, _, hk5, hk5a⟩ := hsm
 intro d
 induction d with
 | zero =>
  intro j s hj hd hl hR
  refine EvP.succ ?_
  simp only [spec_TreeOk.l1]
  refine EvP.neg (by omega) ?_
  rw [List.drop_of_length_le (by omega)] at hR ⊢
  exact hR s rfl hl
 | succ d ih =>
  intro j s hj hd hl hR
  have hjl : j < (rd_T45 xs i).f5.length := by omega
  have hdr := rd_dropI hj hjl
  have hk := hk5a _ (rd_in hj hjl)
  refine EvP.succ ?_
  simp only [spec_TreeOk.l1]
  rw [w64 (x := j + 1) (by omega) (by omega), w64 (x := n - 1) (by omega) (by omega)]
  rw [hdr] at hR ⊢
  unfold kidsRun at hR ⊢
  generalize rd (rd_T45 xs i).f5 j = kid at hk hR ⊢
  refine EvP.pos (by omega) (EvP.pos hj ?_)
  have hin : ∃ a, spec_l1In.f kid 1 (n - 1) = some a ∧ (a = true ↔ 1 ≤ kid ∧ kid ≤ n - 1) := by
   unfold spec_l1In.f
   by_cases c : kid ≥ 1
   · rw [if_pos c]; exact ⟨_, rfl, by rw [decide_eq_true_eq]; omega⟩
   · rw [if_neg c]; exact ⟨_, rfl, by simp; omega⟩
  refine EvP.bindS hin (fun a ha => ?_)
  rw [parsOf_length]
  by_cases c1 : 1 ≤ kid ∧ kid ≤ n - 1
  · have ck0 : 0 ≤ kid := by omega
    have ckl : kid < xs.length := by omega
    have hP := pars_at (xs := xs) ck0 ckl 0
    rw [hP] at hR ⊢
    have hrd : rdOf false s kid = s.getD kid.toNat false := rfl
    rw [hrd]
    refine EvP.pos (ha.2 c1) (EvP.pos ck0 (EvP.pos (by omega) ?_))
    by_cases c2 : s.getD kid.toNat false = true
    · refine EvP.pos c2 (EvP.some ?_)
      rw [if_neg (by rw [c2]; simp)]
    · refine EvP.neg c2 (EvP.pos ckl ?_)
      by_cases c3 : (rd_T45 xs kid).f4 = i
      · have hc : 1 ≤ kid ∧ kid < ((parsOf xs).length : Int) ∧ (rd_T45 xs kid).f4 = i ∧ s.getD kid.toNat false = false := ⟨c1.1, by rw [parsOf_length]; exact ckl, c3, by simpa using c2⟩
        rw [if_pos hc] at hR
        rw [parsOf_length] at hc
        rw [if_pos hc]
        exact EvP.pos c3 (ih (j + 1) (s.set kid.toNat true) (by omega) (by omega) (by rw [List.length_set]; exact hl) hR)
      · refine EvP.neg c3 (EvP.some ?_)
        rw [if_neg (fun g => c3 g.2.2.1)]
  · refine EvP.neg (fun g => c1 (ha.1 g)) (EvP.some ?_)
    rw [if_neg (by rintro ⟨g1, g2, _⟩; omega)]
/-- From node i on: nodes, kids, and all links behind them. -/
def restP (xs : List IN) (i : Nat) (s : List Bool) : Prop :=
 (∀ (j : Nat) (h : j < xs.length), i ≤ j → nodeP xs[j] j ∧ -1 ≤ xs[j].f4 ∧ xs[j].f4 < xs.length) ∧
 ∃ s', kidsAll (parsOf xs) 1 i ((kidsOf xs).drop i) s = some s' ∧ ∀ j, j < xs.length → linkAt (parsOf xs) s' j
theorem parsIn_of (h : ∀ (j : Nat) (h : j < xs.length), -1 ≤ xs[j].f4 ∧ xs[j].f4 < xs.length) : parsIn (parsOf xs) := by
 intro j hj
 rw [parsOf_length] at hj ⊢
 have := h j hj
 have e := pars_at (xs := xs) (i := (j : Int)) (by omega) (by omega) 0
 rw [Int.toNat_natCast, rdN' hj] at e
 rw [e]; exact this
theorem spec_l0_p (hs : smallT xs) (hs5 : xs.length ≤ 500) (hn : n = xs.length) : ∀ (d i : Nat) (s : List Bool), i + d = xs.length → s.length = xs.length → (∀ (j : Nat) (h : j < xs.length), j < i → -1 ≤ xs[j].f4 ∧ xs[j].f4 < xs.length) →
 EvP (fun k => spec_TreeOk.l0 k n s (i : Int) xs) (fun r => r = true ↔ restP xs i s) := by
 intro d
 induction d with
 | zero =>
  intro i s h hl hb
  refine EvP.succ ?_
  simp only [spec_TreeOk.l0]
  refine EvP.neg (by omega) ?_
  have hp : parsIn (parsOf xs) := parsIn_of (fun j hj => hb j hj (by omega))
  refine EvP.mono (spec_l2_p hs5 hn hp s hl xs.length 0 (by omega)) (fun r hr => ?_)
  rw [hr]
  unfold restP
  rw [List.drop_of_length_le (by rw [kidsOf_length]; omega)]
  constructor
  · intro g
    exact ⟨fun j hj hij => by omega, s, rfl, fun j hj => g j (by omega) hj⟩
  · rintro ⟨_, s', e, g⟩ j _ hj
    unfold kidsAll at e
    cases e
    exact g j hj
 | succ d ih =>
  intro i s h hl hb
  have hi0 : (0 : Int) ≤ (i : Int) := by omega
  have hi1 : (i : Int) < n := by omega
  have hil : i < xs.length := by omega
  have hsm := smallN_at hs hi0 (by omega)
  have hrd : rd_T45 xs (i : Int) = xs[i] := rdN' hil
  have hw : wrap64 ((i : Int) + 1) = ((i + 1 : Nat) : Int) := by rw [w64 (by omega) (by omega)]; omega
  refine EvP.succ ?_
  simp only [spec_TreeOk.l0]
  have hbad : ¬ (nodeP xs[i] i ∧ -1 ≤ xs[i].f4 ∧ xs[i].f4 < xs.length) → EvP (fun k => spec_TreeOk.j1 k n s (i : Int) true xs (rd_T45 xs i).f0 (rd_T45 xs i).f1 (rd_T45 xs i).f2 (rd_T45 xs i).f3 (rd_T45 xs i).f4 (rd_T45 xs i).f5) (fun r => r = true ↔ restP xs i s) := by
   intro hb
   refine EvP.succ ?_
   simp only [spec_TreeOk.j1]
   refine EvP.pos (by trivial) (EvP.some ?_)
   simp only [Bool.false_eq_true, false_iff]
   rintro ⟨g, _⟩
   exact hb (g i hil (Nat.le_refl _))
  have hgood : (nodeP xs[i] i ∧ -1 ≤ xs[i].f4 ∧ xs[i].f4 < xs.length) → EvP (fun k => spec_TreeOk.j1 k n s (i : Int) false xs (rd_T45 xs i).f0 (rd_T45 xs i).f1 (rd_T45 xs i).f2 (rd_T45 xs i).f3 (rd_T45 xs i).f4 (rd_T45 xs i).f5) (fun r => r = true ↔ restP xs i s) := by
   intro hg
   refine EvP.succ ?_
   simp only [spec_TreeOk.j1]
   refine EvP.neg (by decide) ?_
   refine EvP.mono (spec_l1_p hs hs5 hn (i : Int) hi0 hi1 (fun s' r => r = true ↔ restP xs (i + 1) s') (rd_T45 xs i).f5.length 0 s (by omega) (by omega) hl (fun s' _ hl' => ?_)) (fun r hr => ?_)
   · rw [hw]
     exact ih (i + 1) s' (by omega) hl' (fun j hj hji => by
      by_cases e : j = i
      · subst e; exact hg.2
      · exact hb j hj (by omega))
   · have hk := kids_at (xs := xs) hi0 (by omega)
     rw [Int.toNat_natCast] at hk
     rw [Int.toNat_zero, List.drop_zero] at hr
     unfold restP
     rw [hk]
     unfold kidsAll
     cases e : kidsRun (parsOf xs) 1 (i : Int) (rd_T45 xs i).f5 s with
     | none =>
      rw [e] at hr
      have hr' : r = false := hr
      subst hr'
      simp
     | some s' =>
      rw [e] at hr
      have hr' : r = true ↔ restP xs (i + 1) s' := hr
      rw [hr']
      unfold restP
      simp only [Option.bind_some]
      rw [show ((i : Int) + 1).toNat = i + 1 by omega, show (i : Int) + 1 = ((i + 1 : Nat) : Int) by omega]
      constructor
      · rintro ⟨g1, g2⟩
        refine ⟨fun j hj hij => ?_, g2⟩
        by_cases e : j = i
        · subst e; exact hg
        · exact g1 j hj (by omega)
      · rintro ⟨g1, g2⟩
        exact ⟨fun j hj hij => g1 j hj (by omega), g2⟩
  refine EvP.pos hi1 (EvP.pos hi0 (EvP.pos (by omega) ?_))
  refine EvP.bind (spec_l6Node_p _ hsm) (fun a ha => ?_)
  rw [hrd] at ha
  refine EvP.ite (fun c1 => ?_) (fun c1 => hbad (fun g => c1 (ha.2 g.1.1)))
  have hkind := ha.1 c1
  refine EvP.ite (fun c2 => hbad ?_) (fun c2 => ?_)
  · rintro ⟨⟨_, g, _⟩, _⟩
    rw [hrd] at c2
    rw [bne_iff_ne, ne_eq, Bool.eq_iff_iff, beq_iff_eq, beq_iff_eq] at c2
    exact c2 g
  have hpl : (xs[i].f0 = 1 ↔ (i : Int) = 0) := by
   rw [hrd] at c2
   rw [bne_iff_ne, ne_eq, Bool.eq_iff_iff, beq_iff_eq, beq_iff_eq] at c2
   exact Classical.byContradiction c2
  rw [w64 (x := n - 1) (by omega) (by omega)]
  have hin : ∃ a, spec_l1In.f (rd_T45 xs i).f4 (-1) (n - 1) = some a ∧ (a = true ↔ -1 ≤ xs[i].f4 ∧ xs[i].f4 < xs.length) := by
   rw [hrd]
   unfold spec_l1In.f
   by_cases c : xs[i].f4 ≥ -1
   · rw [if_pos c]; exact ⟨_, rfl, by rw [decide_eq_true_eq]; omega⟩
   · rw [if_neg c]; exact ⟨_, rfl, by simp; omega⟩
  refine EvP.bindS hin (fun a ha => EvP.ite (fun c3 => ?_) (fun c3 => hbad (fun g => c3 (ha.2 g.2))))
  have hpar := ha.1 c3
  refine EvP.ite (fun c4 => ?_) (fun c4 => hgood ⟨⟨hkind, hpl, fun e => absurd e c4⟩, hpar⟩)
  by_cases c5 : xs[i].f4 = -1
  · have e5 : ((rd_T45 xs (i : Int)).f4 != (-1)) = false := by rw [hrd, c5]; rfl
    rw [e5]
    exact hgood ⟨⟨hkind, hpl, fun _ => c5⟩, hpar⟩
  · have e5 : ((rd_T45 xs (i : Int)).f4 != (-1)) = true := by rw [hrd]; exact bne_iff_ne.2 c5
    rw [e5]
    exact hbad (fun g => c5 (g.1.2.2 c4))
theorem spec_TreeOk_p (hs : smallT xs) : EvP (fun k => spec_TreeOk.f k xs) (fun r => r = true ↔ rightP xs) := by
 have hsl := hs.1
 unfold spec_TreeOk.f
 have hin : ∃ a, spec_l1In.f (xs.length : Int) 1 500 = some a ∧ (a = true ↔ 1 ≤ xs.length ∧ xs.length ≤ 500) := by
  unfold spec_l1In.f
  by_cases c : (xs.length : Int) ≥ 1
  · rw [if_pos c]; exact ⟨_, rfl, by rw [decide_eq_true_eq]; omega⟩
  · rw [if_neg c]; exact ⟨_, rfl, by simp; omega⟩
 refine EvP.bindS hin (fun a ha => EvP.ite (fun c => ?_) (fun c => EvP.some ?_))
 · obtain ⟨h1, h5⟩ := ha.1 c
   refine EvP.pos (by omega) (EvP.pos (by omega) ?_)
   refine EvP.mono (spec_l0_p hs h5 rfl xs.length 0 _ (by omega) (by simp) (fun j hj hj0 => by omega)) (fun r hr => ?_)
   rw [hr]
   unfold restP rightP linksS
   rw [Int.toNat_natCast, List.drop_zero, parsOf_length]
   constructor
   · rintro ⟨g1, s', e, g2⟩
     refine ⟨h1, h5, fun i hi => (g1 i hi (by omega)).1, parsIn_of (fun j hj => (g1 j hj (by omega)).2), ?_⟩
     have e' : kidsAll (parsOf xs) 1 0 (kidsOf xs) (List.replicate xs.length false) = some s' := e
     rw [e']
     simp only [List.all_eq_true, List.mem_range, Bool.and_eq_true, beq_iff_eq]
     intro j hj
     have := g2 j hj
     unfold linkAt at this
     rw [parsOf_length] at this
     exact this
   · rintro ⟨_, _, g1, gp, g2⟩
     refine ⟨fun j hj _ => ⟨g1 j hj, ?_⟩, ?_⟩
     · have := gp j (by rw [parsOf_length]; exact hj)
       have e := pars_at (xs := xs) (i := (j : Int)) (by omega) (by omega) 0
       rw [Int.toNat_natCast, rdN' hj] at e
       rw [e, parsOf_length] at this
       exact this
     · cases e : kidsAll (parsOf xs) 1 0 (kidsOf xs) (List.replicate xs.length false) with
       | none => rw [e] at g2; cases g2
       | some s' =>
        rw [e] at g2
        refine ⟨s', rfl, fun j hj => ?_⟩
        simp only [List.all_eq_true, List.mem_range, Bool.and_eq_true, beq_iff_eq] at g2
        have := g2 j hj
        unfold linkAt
        rw [parsOf_length]
        exact this
 · simp only [Bool.false_eq_true, false_iff]
   rintro ⟨g1, g2, _⟩
   exact c (ha.2 ⟨g1, g2⟩)
end
theorem impl_IsBlank_eq (x : Int) : impl_IsBlank.f x = some (blank x) := by
 unfold impl_IsBlank.f blank
 by_cases a : x = 9
 · simp [a]
 · by_cases b : x = 10
   · simp [b]
   · by_cases c : x = 12
     · simp [c]
     · simp only [if_neg a, if_neg b, if_neg c, decide_eq_false a, decide_eq_false b, decide_eq_false c, Bool.false_or]
       rfl
theorem impl_isOuter_eq (x : Int) : impl_isOuter.f x = some (outer x) := by
 unfold impl_isOuter.f outer
 simp only [impl_IsBlank_eq, impl_inRange_eq, Option.bind_some]
 cases blank x with
 | true => simp
 | false =>
  by_cases a : x = 47
  · simp [a]
  · by_cases b : x = 62
    · simp [b]
    · by_cases c : x = 0
      · simp [c]
      · simp [a, b, c]
theorem impl_NameOk_l0 (l : List Int) (hl : l.length ≤ 1000) (hb : ∀ x ∈ l, 0 ≤ x ∧ x ≤ 255) : ∀ (d : Nat) (i : Int), 0 ≤ i → i + d = l.length → Ev (fun k => impl_NameOk.l0 k l (l.length : Int) i) ((l.drop i.toNat).all (fun x => !outer x)) := by
 intro d
 induction d with
 | zero =>
  intro i h0 h
  refine ev_succ ?_
  simp only [impl_NameOk.l0]
  refine ev_neg (by omega) (ev_some ?_)
  rw [List.drop_of_length_le (by omega)]; rfl
 | succ d ih =>
  intro i h0 h
  refine ev_succ ?_
  simp only [impl_NameOk.l0]
  have hr := hb (rd l i) (by rw [rd_get h0 (by omega)]; exact List.getElem_mem _)
  rw [w64 (x := rd l i) (by omega) (by omega), w64 (x := i + 1) (by omega) (by omega), drop_cons h0 (by omega)]
  simp only [impl_isOuter_eq, Option.bind_some, List.all_cons]
  refine ev_pos (by omega) (ev_pos h0 (ev_pos (by omega) ?_))
  by_cases ho : outer (rd l i) = true
  · exact ev_pos ho (ev_some (by rw [ho]; rfl))
  · refine ev_neg ho (ev_cast (ih (i + 1) (by omega) (by omega)) ?_)
    simp only [Bool.not_eq_true] at ho
    rw [ho]; rfl
theorem impl_NameOk_ev (s : ByteArray) (hs : s.size ≤ 140737488355328) : Ev (fun k => impl_NameOk.f k s) (nameOk s) := by
 unfold impl_NameOk.f nameOk
 simp only [impl_inRange_eq, Option.bind_some]
 have hj : ∀ c : Bool, Ev (fun k => impl_NameOk.j0 k s c) (if c = true then false else (bytesOf s).all (fun x => !outer x)) ∨ ¬ s.size ≤ 60 := by
  intro c
  by_cases h60 : s.size ≤ 60
  · left
    refine ev_succ ?_
    simp only [impl_NameOk.j0]
    cases c with
    | true => exact ev_pos (by simp) (Ev.now _)
    | false =>
     refine ev_neg (by simp) (ev_pos (by omega) ?_)
     simp only [Option.bind_some]
     have := impl_NameOk_l0 (bytesOf s) (by rw [bytesOf_length]; omega) (bytesOf_range s) (bytesOf s).length 0 (by omega) (by omega)
     simpa using this
  · exact .inr h60
 have hjt : Ev (fun k => impl_NameOk.j0 k s true) false := by
  refine ev_succ ?_
  simp only [impl_NameOk.j0]
  exact ev_pos (by simp) (Ev.now _)
 by_cases hsz : 1 ≤ s.size ∧ s.size ≤ 60
 · rw [decide_eq_true hsz, decide_eq_true (show (1 : Int) ≤ s.size ∧ (s.size : Int) ≤ 60 by omega)]
   refine ev_pos (by simp) (ev_pos (by omega) ?_)
   by_cases h1 : bt s 0 < 97
   · rw [decide_eq_false (show ¬ (97 ≤ bt s 0 ∧ bt s 0 ≤ 122) by omega)]
     exact ev_pos h1 (ev_cast hjt (by simp))
   · refine ev_neg h1 ?_
     by_cases h2 : bt s 0 > 122
     · rw [decide_eq_false (show ¬ (97 ≤ bt s 0 ∧ bt s 0 ≤ 122) by omega)]
       exact ev_pos h2 (ev_cast hjt (by simp))
     · rw [decide_eq_true (show (97 ≤ bt s 0 ∧ bt s 0 ≤ 122) by omega)]
       refine ev_neg h2 (Ev.bind (impl_textOk_ev s hs) ?_)
       rcases hj (!textOk s) with h | h
       · refine ev_cast h ?_
         cases textOk s <;> simp
       · exact absurd hsz.2 h
 · rw [decide_eq_false hsz, decide_eq_false (show ¬ ((1 : Int) ≤ s.size ∧ (s.size : Int) ≤ 60) by omega)]
   exact ev_neg (by simp) (ev_cast hjt (by simp))
theorem impl_nodeOk_p (x : IN) (h : smallN x) (i : Int) : EvP (fun k => impl_nodeOk.f k x.f0 x.f1 x.f2 x.f3 x.f4 x.f5 i) (fun r => r = true ↔ nodeP x i) := by
 obtain ⟨h1, h2, h2a, h3, h4, h5, h5a⟩ := h
 have hj : ∀ p : Bool, (p = false ↔ (x.f0 = 1 ↔ i = 0) ∧ (x.f5.length = 0 ∨ x.f0 = 1 ∨ x.f0 = 3) ∧ (x.f0 = 3 ∨ x.f2.length = 0)) → EvP (fun k => impl_nodeOk.j0 k p x.f0 x.f1 x.f2 x.f3 x.f4 x.f5) (fun r => r = true ↔ nodeP x i) := by
  intro p hp
  refine EvP.succ ?_
  simp only [impl_nodeOk.j0]
  unfold nodeP kindP
  refine EvP.ite (fun hq => EvP.some ?_) (fun hq => ?_)
  · have hn : ¬ ((x.f0 = 1 ↔ i = 0) ∧ (x.f5.length = 0 ∨ x.f0 = 1 ∨ x.f0 = 3) ∧ (x.f0 = 3 ∨ x.f2.length = 0)) := fun g => by rw [hp.2 g] at hq; cases hq
    simp only [Bool.false_eq_true, false_iff]
    rintro ⟨g, g1, _⟩
    apply hn
    refine ⟨g1, ?_⟩
    rcases g with g | g | g | g | g <;> omega
  · obtain ⟨q1, q2, q3⟩ := hp.1 (by simpa using hq)
    refine EvP.ite (fun e1 => ?_) (fun n1 => EvP.ite (fun e2 => ?_) (fun n2 => EvP.ite (fun e3 => ?_) (fun n3 => EvP.ite (fun e4 => ?_) (fun n4 => EvP.ite (fun e5 => ?_) (fun n5 => EvP.some ?_)))))
    · have hi : i = 0 := q1.1 e1
      have hl : x.f2.length = 0 := by omega
      rw [e1, hi]
      refine EvP.ite (fun a1 => EvP.ite (fun a2 => EvP.some ?_) (fun b => EvP.some (by simp [b]))) (fun b => EvP.some (by simp [b]))
      simp [a1, a2, hl]
    · have hi : ¬ i = 0 := fun g => by have := q1.2 g; omega
      have hk : x.f5.length = 0 := by omega
      have hl : x.f2.length = 0 := by omega
      rw [e2]
      have hd : EvP (fun k => impl_doctypeOk.f k x.f1) (fun r => r = true ↔ x.f1.size ≤ 60 ∧ textOk x.f1 = true) := by
       unfold impl_doctypeOk.f
       refine EvP.ite (fun a => EvP.bind (EvP.of (impl_textOk_ev x.f1 (by omega)) rfl) (fun r hr => EvP.some ?_)) (fun b => EvP.some ?_)
       · subst hr
         have : x.f1.size ≤ 60 := by omega
         simp [this]
       · simp; omega
      refine EvP.bind hd (fun r hr => EvP.ite (fun a => EvP.some ?_) (fun b => EvP.some ?_))
      · obtain ⟨r1, r2⟩ := hr.1 a
        simp [r1, r2, hk, hl, hi]
      · have hb : ¬ (x.f1.size ≤ 60 ∧ textOk x.f1 = true) := fun g => b (hr.2 g)
        simp only [Bool.false_eq_true, false_iff]
        rintro ⟨g, _⟩
        rcases g with g | g | g | g | g
        · exact absurd g.1 (by decide)
        · exact hb ⟨g.2.2.2.1, g.2.2.2.2.1⟩
        all_goals exact absurd g.1 (by decide)
    · have hi : ¬ i = 0 := fun g => by have := q1.2 g; omega
      rw [e3]
      refine EvP.bind (EvP.of (impl_NameOk_ev x.f1 (by omega)) rfl) (fun r hr => ?_)
      subst hr
      refine EvP.ite (fun a2 => ?_) (fun b => EvP.some (by simp [b]))
      obtain ⟨r, hr, hrr⟩ := impl_AttrsOk_ev x.f2 h2a
      refine EvP.bind (EvP.of hr rfl) (fun q hq => ?_)
      subst hq
      refine EvP.ite (fun a3 => EvP.some ?_) (fun b => EvP.some ?_)
      · have := hrr.1 a3
        simp [a2, this, hi]
      · have : ¬ attrsOkP x.f2 := fun g => b (hrr.2 g)
        simp [this]
    · have hi : ¬ i = 0 := fun g => by have := q1.2 g; omega
      have hk : x.f5.length = 0 := by omega
      have hl : x.f2.length = 0 := by omega
      rw [e4]
      refine EvP.ite (fun a1 => EvP.ite (fun a3 => EvP.some (by simp [a3])) (fun a3 => EvP.bind (EvP.of (impl_textOk_ev x.f3 (by omega)) rfl) (fun r hr => EvP.some ?_))) (fun b => EvP.some (by simp [b]))
      subst hr
      simp [a1, a3, hk, hl, hi]
    · have hi : ¬ i = 0 := fun g => by have := q1.2 g; omega
      have hk : x.f5.length = 0 := by omega
      have hl : x.f2.length = 0 := by omega
      rw [e5]
      refine EvP.ite (fun a1 => EvP.bind (EvP.of (impl_textOk_ev x.f3 (by omega)) rfl) (fun r hr => EvP.some ?_)) (fun b => EvP.some (by simp [b]))
      subst hr
      simp [a1, hk, hl, hi]
    · simp [n1, n2, n3, n4, n5]
 have hb : ((x.f0 == 1) != (i == 0)) = true ↔ ¬ (x.f0 = 1 ↔ i = 0) := by
  rw [bne_iff_ne, ne_eq, Bool.eq_iff_iff, beq_iff_eq, beq_iff_eq]
 unfold impl_nodeOk.f impl_Node_mayHold.f
 refine EvP.ite (fun a => hj _ ?_) (fun a => EvP.ite (fun b => ?_) (fun b => EvP.ite (fun c => hj _ ?_) (fun c => hj _ ?_)))
 · have := hb.1 a
   simp [this]
 · have ha : (x.f0 = 1 ↔ i = 0) := Classical.byContradiction fun g => a (hb.2 g)
   by_cases c : x.f0 = 1
   · refine EvP.bindS (P := fun r => r = true) ⟨true, by rw [if_pos c], rfl⟩ (fun r hr => EvP.pos hr (EvP.neg (by omega) (hj _ ?_)))
     simp [c, ha] at ha ⊢
     simp [ha]
   · by_cases d : x.f0 = 3
     · refine EvP.bindS (P := fun r => r = true) ⟨true, by rw [if_neg c, d]; rfl, rfl⟩ (fun r hr => EvP.pos hr (EvP.pos d (hj _ ?_)))
       rw [d] at ha ⊢
       simp at ha ⊢
       exact ha
     · refine EvP.bindS (P := fun r => r = false) ⟨false, by rw [if_neg c]; simp [d], rfl⟩ (fun r hr => EvP.neg (by simp [hr]) (hj _ ?_))
       constructor
       · intro g; cases g
       · rintro ⟨_, g, _⟩; omega
 · have ha : (x.f0 = 1 ↔ i = 0) := Classical.byContradiction fun g => a (hb.2 g)
   have hk : x.f5.length = 0 := by omega
   simp [hk, c]
   rw [c] at ha
   simpa using ha
 · have ha : (x.f0 = 1 ↔ i = 0) := Classical.byContradiction fun g => a (hb.2 g)
   have hk : x.f5.length = 0 := by omega
   simp [hk, c, ha]
section
variable {xs : List IN}
theorem impl_isNode_eq (hs : xs.length ≤ 1048576) (x : Int) : impl_Tree_isNode.f xs x = some (decide (0 ≤ x ∧ x < xs.length)) := by
 unfold impl_Tree_isNode.f
 rw [impl_inRange_eq, w64 (by omega) (by omega)]
 simp only [Option.bind_some]
 congr 1
 rw [Bool.eq_iff_iff, decide_eq_true_eq, decide_eq_true_eq]
 omega
theorem impl_above_l (hs : xs.length ≤ 1048576) (a : Int) : ∀ (m : Nat) (b c : Int), 0 ≤ c → c + m = xs.length → Ev (fun k => impl_Tree_isAbove.l0 k a b (xs.length : Int) c xs) (aboveN (parsOf xs) a m b) := by
 intro m
 induction m with
 | zero =>
  intro b c h0 h
  refine ev_succ ?_
  simp only [impl_Tree_isAbove.l0]
  rw [impl_isNode_eq hs]
  refine ev_neg (by omega) (ev_some ?_)
  unfold aboveN
  rw [parsOf_length]
 | succ m ih =>
  intro b c h0 h
  refine ev_succ ?_
  simp only [impl_Tree_isAbove.l0]
  rw [impl_isNode_eq hs, w64 (x := c + 1) (by omega) (by omega)]
  simp only [Option.bind_some]
  unfold aboveN
  rw [parsOf_length]
  refine ev_pos (by omega) ?_
  by_cases e : b = a
  · rw [if_pos e]; exact ev_pos e (Ev.now _)
  · rw [if_neg e]
    refine ev_neg e ?_
    by_cases g : 0 ≤ b ∧ b < (xs.length : Int)
    · rw [if_pos g, pars_at g.1 g.2]
      exact ev_pos (by simpa using g) (ev_pos g.1 (ev_pos g.2 (ih _ (c + 1) (by omega) (by omega))))
    · rw [if_neg g]
      exact ev_neg (by simpa using g) (Ev.now _)
theorem impl_isAbove_ev (hs : xs.length ≤ 1048576) (a b : Int) : Ev (fun k => impl_Tree_isAbove.f k xs a b) (aboveN (parsOf xs) a xs.length b) := by
 unfold impl_Tree_isAbove.f
 exact impl_above_l hs a xs.length b 0 (by omega) (by omega)
def seenB (s : List Int) : List Bool := s.map fun x => decide (0 < x)
def seen01 (s : List Int) : Prop := ∀ x ∈ s, x = 0 ∨ x = 1
theorem seenB_at (s : List Int) (j : Nat) : (seenB s).getD j false = decide (0 < s.getD j 0) := by
 unfold seenB
 rw [List.getD_eq_getElem?_getD, List.getD_eq_getElem?_getD, List.getElem?_map]
 cases s[j]? with
 | none => rfl
 | some x => rfl
theorem seenB_set (s : List Int) (j : Nat) : seenB (s.set j 1) = (seenB s).set j true := by
 unfold seenB
 rw [List.map_set]; rfl
theorem seen01_set {s : List Int} (h : seen01 s) (j : Nat) : seen01 (s.set j 1) := by
 intro x hx
 rcases List.mem_or_eq_of_mem_set hx with g | g
 · exact h x g
 · exact .inr g
theorem seen01_at {s : List Int} (h : seen01 s) (j : Nat) : s.getD j 0 = 0 ∨ s.getD j 0 = 1 := by
 rw [List.getD_eq_getElem?_getD]
 by_cases hj : j < s.length
 · rw [List.getElem?_eq_getElem hj]
   exact h _ (List.getElem_mem _)
 · rw [List.getElem?_eq_none (by omega)]; exact .inl rfl
def linkIAt (P : List Int) (s : List Bool) (j : Nat) : Prop := (decide (P.getD j 0 = -1) == s.getD j false) = false ∧ aboveN P j P.length (P.getD j 0) = false
theorem impl_l2_p (hs : xs.length ≤ 500) (s : List Int) : ∀ (d i : Nat), i + d = xs.length → EvP (fun k => impl_Tree_linksOk.l2 k (i : Int) s xs) (fun r => r = true ↔ ∀ j, i ≤ j → j < xs.length → linkIAt (parsOf xs) (seenB s) j) := by
 intro d
 induction d with
 | zero =>
  intro i h
  refine EvP.succ ?_
  simp only [impl_Tree_linksOk.l2]
  refine EvP.neg (by omega) (EvP.some ?_)
  simp only [true_iff]
  intro j h1 h2; omega
 | succ d ih =>
  intro i h
  refine EvP.succ ?_
  simp only [impl_Tree_linksOk.l2]
  have hi0 : (0 : Int) ≤ (i : Int) := by omega
  have hP := pars_at (xs := xs) hi0 (by omega) 0
  rw [Int.toNat_natCast] at hP
  rw [← hP, w64 (x := (i : Int) + 1) (by omega) (by omega)]
  have hrd : decide (0 < rd s (i : Int)) = (seenB s).getD i false := by rw [seenB_at]; rfl
  rw [hrd]
  have hd : ((parsOf xs).getD i 0 == -1) = decide ((parsOf xs).getD i 0 = -1) := by rw [Bool.eq_iff_iff, beq_iff_eq, decide_eq_true_eq]
  rw [hd]
  refine EvP.pos (by omega) (EvP.pos hi0 ?_)
  by_cases c : (decide ((parsOf xs).getD i 0 = -1) == (seenB s).getD i false) = true
  · refine EvP.pos c (EvP.some ?_)
    simp only [Bool.false_eq_true, false_iff]
    intro g
    have := (g i (Nat.le_refl _) (by omega)).1
    rw [this] at c; cases c
  · refine EvP.neg c (EvP.bind (EvP.of (impl_isAbove_ev (by omega) _ _) rfl) (fun a ha => ?_))
    subst ha
    have c' := Bool.eq_false_iff.2 c
    by_cases ab : aboveN (parsOf xs) (i : Int) xs.length ((parsOf xs).getD i 0) = true
    · refine EvP.pos ab (EvP.some ?_)
      simp only [Bool.false_eq_true, false_iff]
      intro g
      have := (g i (Nat.le_refl _) (by omega)).2
      rw [parsOf_length, ab] at this; cases this
    · refine EvP.neg ab ?_
      have := ih (i + 1) (by omega)
      rw [show ((i + 1 : Nat) : Int) = (i : Int) + 1 by omega] at this
      refine EvP.mono this (fun r hr => ?_)
      rw [hr]
      constructor
      · intro g j h1 h2
        by_cases e : j = i
        · subst e; exact ⟨c', by rw [parsOf_length]; exact Bool.eq_false_iff.2 ab⟩
        · exact g j (by omega) h2
      · intro g j h1 h2; exact g j (by omega) h2
theorem impl_l1_p (hs : smallT xs) (hs5 : xs.length ≤ 500) (i : Int) (h0 : 0 ≤ i) (h1 : i < xs.length) (R : List Bool → Bool → Prop) :
 ∀ (d : Nat) (j : Int) (s : List Int), 0 ≤ j → j + d = (rd_T45 xs i).f5.length → s.length = xs.length → seen01 s →
 (∀ s' : List Int, kidsRun (parsOf xs) 0 i ((rd_T45 xs i).f5.drop j.toNat) (seenB s) = some (seenB s') → s'.length = xs.length → seen01 s' → EvP (fun k => impl_Tree_linksOk.l0 k (wrap64 (i + 1)) s' xs) (R (seenB s'))) →
 EvP (fun k => impl_Tree_linksOk.l1 k i j s xs)
  (fun r => match kidsRun (parsOf xs) 0 i ((rd_T45 xs i).f5.drop j.toNat) (seenB s) with | none => r = false | some s' => R s' r) := by
 have hsm := smallN_at hs h0 (by omega)
 obtain ⟨_, _, _, _, _, hk5, hk5a⟩ := hsm
 intro d
 induction d with
 | zero =>
  intro j s hj hd hl h01 hR
  refine EvP.succ ?_
  simp only [impl_Tree_linksOk.l1]
  refine EvP.neg (by omega) ?_
  rw [List.drop_of_length_le (by omega)] at hR ⊢
  exact hR s rfl hl h01
 | succ d ih =>
  intro j s hj hd hl h01 hR
  have hjl : j < (rd_T45 xs i).f5.length := by omega
  have hdr := rd_dropI hj hjl
  have hk := hk5a _ (rd_in hj hjl)
  refine EvP.succ ?_
  simp only [impl_Tree_linksOk.l1]
  rw [w64 (x := j + 1) (by omega) (by omega)]
  rw [hdr] at hR ⊢
  unfold kidsRun at hR ⊢
  generalize rd (rd_T45 xs i).f5 j = kid at hk hR ⊢
  rw [impl_isNode_eq hs.1, parsOf_length]
  simp only [Option.bind_some]
  refine EvP.pos (by omega) (EvP.pos hj ?_)
  by_cases c1 : 0 ≤ kid ∧ kid < (xs.length : Int)
  · have hP := pars_at (xs := xs) c1.1 c1.2 0
    rw [hP, seenB_at] at hR ⊢
    have hrd : rd s kid = s.getD kid.toNat 0 := rfl
    rw [hrd]
    refine EvP.pos (by simpa using c1) (EvP.pos c1.1 (EvP.pos c1.2 ?_))
    by_cases c3 : (rd_T45 xs kid).f4 = i
    · refine EvP.pos c3 ?_
      by_cases c2 : 0 < s.getD kid.toNat 0
      · refine EvP.pos c2 (EvP.some ?_)
        rw [if_neg (by rintro ⟨_, _, _, g⟩; have := of_decide_eq_false g; omega)]
      · refine EvP.neg c2 ?_
        have h0' : s.getD kid.toNat 0 = 0 := by have := seen01_at h01 kid.toNat; omega
        have hc : 0 ≤ kid ∧ kid < ((parsOf xs).length : Int) ∧ (rd_T45 xs kid).f4 = i ∧ decide (0 < s.getD kid.toNat 0) = false := ⟨c1.1, by rw [parsOf_length]; exact c1.2, c3, by simpa using c2⟩
        rw [if_pos hc] at hR
        rw [parsOf_length] at hc
        rw [if_pos hc, h0', show wrap64 (0 + 1) = 1 by unfold wrap64; omega, ← seenB_set]
        rw [← seenB_set] at hR
        exact ih (j + 1) (s.set kid.toNat 1) (by omega) (by omega) (by rw [List.length_set]; exact hl) (seen01_set h01 _) hR
    · refine EvP.neg c3 (EvP.some ?_)
      rw [if_neg (fun g => c3 g.2.2.1)]
  · refine EvP.neg (by simpa using c1) (EvP.some ?_)
    rw [if_neg (by rintro ⟨g1, g2, _⟩; exact c1 ⟨g1, g2⟩)]
def restI (xs : List IN) (i : Nat) (s : List Bool) : Prop := ∃ s', kidsAll (parsOf xs) 0 i ((kidsOf xs).drop i) s = some s' ∧ ∀ j, j < xs.length → linkIAt (parsOf xs) s' j
theorem impl_l0_p (hs : smallT xs) (hs5 : xs.length ≤ 500) : ∀ (d i : Nat) (s : List Int), i + d = xs.length → s.length = xs.length → seen01 s → EvP (fun k => impl_Tree_linksOk.l0 k (i : Int) s xs) (fun r => r = true ↔ restI xs i (seenB s)) := by
 intro d
 induction d with
 | zero =>
  intro i s h hl h01
  refine EvP.succ ?_
  simp only [impl_Tree_linksOk.l0]
  refine EvP.neg (by omega) ?_
  refine EvP.mono (impl_l2_p hs5 s xs.length 0 (by omega)) (fun r hr => ?_)
  rw [hr]
  unfold restI
  rw [List.drop_of_length_le (by rw [kidsOf_length]; omega)]
  constructor
  · intro g
    exact ⟨_, rfl, fun j hj => g j (by omega) hj⟩
  · rintro ⟨s', e, g⟩ j _ hj
    unfold kidsAll at e
    cases e
    exact g j hj
 | succ d ih =>
  intro i s h hl h01
  have hi0 : (0 : Int) ≤ (i : Int) := by omega
  have hil : i < xs.length := by omega
  have hw : wrap64 ((i : Int) + 1) = ((i + 1 : Nat) : Int) := by rw [w64 (by omega) (by omega)]; omega
  refine EvP.succ ?_
  simp only [impl_Tree_linksOk.l0]
  refine EvP.pos (by omega) (EvP.pos hi0 ?_)
  refine EvP.mono (impl_l1_p hs hs5 (i : Int) hi0 (by omega) (fun s' r => r = true ↔ restI xs (i + 1) s') (rd_T45 xs i).f5.length 0 s (by omega) (by omega) hl h01 (fun s' _ hl' h01' => ?_)) (fun r hr => ?_)
  · rw [hw]; exact ih (i + 1) s' (by omega) hl' h01'
  · have hk := kids_at (xs := xs) hi0 (by omega)
    rw [Int.toNat_natCast] at hk
    rw [Int.toNat_zero, List.drop_zero] at hr
    unfold restI
    rw [hk]
    unfold kidsAll
    cases e : kidsRun (parsOf xs) 0 (i : Int) (rd_T45 xs i).f5 (seenB s) with
    | none =>
     rw [e] at hr
     have hr' : r = false := hr
     subst hr'
     simp
    | some s' =>
     rw [e] at hr
     have hr' : r = true ↔ restI xs (i + 1) s' := hr
     rw [hr']
     unfold restI
     simp only [Option.bind_some]
     rw [show ((i : Int) + 1).toNat = i + 1 by omega, show (i : Int) + 1 = ((i + 1 : Nat) : Int) by omega]
theorem impl_linksOk_p (hs : smallT xs) (h1 : 1 ≤ xs.length) (h5 : xs.length ≤ 500) : EvP (fun k => impl_Tree_linksOk.f k xs) (fun r => r = true ↔ linksI (parsOf xs) (kidsOf xs) = true) := by
 unfold impl_Tree_linksOk.f
 refine EvP.pos (by omega) (EvP.pos h5 ?_)
 refine EvP.mono (impl_l0_p hs h5 xs.length 0 _ (by omega) (by simp) (fun x hx => .inl (List.eq_of_mem_replicate hx))) (fun r hr => ?_)
 rw [hr]
 have hz : seenB (List.replicate xs.length 0) = List.replicate xs.length false := by unfold seenB; rw [List.map_replicate]; rfl
 unfold restI linksI
 rw [hz, List.drop_zero, parsOf_length]
 constructor
 · rintro ⟨s', e, g2⟩
   have e' : kidsAll (parsOf xs) 0 0 (kidsOf xs) (List.replicate xs.length false) = some s' := e
   rw [e']
   simp only [List.all_eq_true, List.mem_range, Bool.and_eq_true, Bool.not_eq_true']
   intro j hj
   have := g2 j hj
   unfold linkIAt at this
   rw [parsOf_length] at this
   exact this
 · intro g2
   cases e : kidsAll (parsOf xs) 0 0 (kidsOf xs) (List.replicate xs.length false) with
   | none => rw [e] at g2; cases g2
   | some s' =>
    rw [e] at g2
    refine ⟨s', rfl, fun j hj => ?_⟩
    simp only [List.all_eq_true, List.mem_range, Bool.and_eq_true, Bool.not_eq_true'] at g2
    have := g2 j hj
    unfold linkIAt
    rw [parsOf_length]
    exact this
theorem impl_TreeOk_l (hs : smallT xs) (h1 : 1 ≤ xs.length) (h5 : xs.length ≤ 500) : ∀ (d i : Nat), i + d = xs.length → EvP (fun k => impl_TreeOk.l0 k (i : Int) xs) (fun r => r = true ↔ (∀ (j : Nat) (h : j < xs.length), i ≤ j → nodeP xs[j] j) ∧ linksI (parsOf xs) (kidsOf xs) = true) := by
 intro d
 induction d with
 | zero =>
  intro i h
  refine EvP.succ ?_
  simp only [impl_TreeOk.l0]
  refine EvP.neg (by omega) (EvP.mono (impl_linksOk_p hs h1 h5) (fun r hr => ?_))
  rw [hr]
  exact ⟨fun g => ⟨fun j hj hij => by omega, g⟩, fun g => g.2⟩
 | succ d ih =>
  intro i h
  have hi0 : (0 : Int) ≤ (i : Int) := by omega
  have hil : i < xs.length := by omega
  refine EvP.succ ?_
  simp only [impl_TreeOk.l0]
  rw [w64 (x := (i : Int) + 1) (by omega) (by omega), show (i : Int) + 1 = ((i + 1 : Nat) : Int) by omega]
  refine EvP.pos (by omega) (EvP.pos hi0 (EvP.bind (impl_nodeOk_p _ (smallN_at hs hi0 (by omega)) (i : Int)) (fun a ha => EvP.ite (fun c => ?_) (fun c => EvP.some ?_))))
  · have := ha.1 c
    rw [rdN' hil] at this
    refine EvP.mono (ih (i + 1) (by omega)) (fun r hr => ?_)
    rw [hr]
    constructor
    · rintro ⟨g1, g2⟩
      refine ⟨fun j hj hij => ?_, g2⟩
      by_cases e : j = i
      · subst e; exact this
      · exact g1 j hj (by omega)
    · rintro ⟨g1, g2⟩
      exact ⟨fun j hj hij => g1 j hj (by omega), g2⟩
  · simp only [Bool.false_eq_true, false_iff]
    rintro ⟨g1, _⟩
    apply c
    rw [ha, rdN' hil]
    exact g1 i hil (Nat.le_refl _)
theorem impl_TreeOk_p (hs : smallT xs) : EvP (fun k => impl_TreeOk.f k xs) (fun r => r = true ↔ rightP xs) := by
 have hsl := hs.1
 unfold impl_TreeOk.f
 rw [impl_inRange_eq]
 simp only [Option.bind_some]
 refine EvP.ite (fun c => ?_) (fun c => EvP.some ?_)
 · obtain ⟨h1, h5⟩ : 1 ≤ xs.length ∧ xs.length ≤ 500 := by
    have := of_decide_eq_true c
    omega
   refine EvP.mono (impl_TreeOk_l hs h1 h5 xs.length 0 (by omega)) (fun r hr => ?_)
   rw [hr]
   unfold rightP
   have hsame : (∀ (i : Nat) (h : i < xs.length), nodeP xs[i] i) → (linksI (parsOf xs) (kidsOf xs) = true ↔ parsIn (parsOf xs) ∧ linksS (parsOf xs) (kidsOf xs) = true) := by
    intro g
    refine links_same _ _ (by rw [parsOf_length, kidsOf_length]) ?_
    have e := pars_at (xs := xs) (i := ((0 : Nat) : Int)) (by omega) (by omega) 0
    rw [rdN' (show 0 < xs.length by omega)] at e
    exact e.trans ((g 0 (by omega)).2.2 rfl)
   constructor
   · rintro ⟨g1, g2⟩
     have g1' : ∀ (i : Nat) (h : i < xs.length), nodeP xs[i] i := fun i hi => g1 i hi (by omega)
     exact ⟨h1, h5, g1', (hsame g1').1 g2⟩
   · rintro ⟨_, _, g1, g2⟩
     exact ⟨fun i hi _ => g1 i hi, (hsame g1).2 g2⟩
 · simp only [Bool.false_eq_true, false_iff]
   rintro ⟨g1, g2, _⟩
   apply c
   rw [decide_eq_true_eq]; omega
end
theorem ev_some' {α : Type} {g : Option α} {r : α} (h : g = some r) : Ev (fun _ => g) r := by rw [h]; exact Ev.now _
abbrev addN (x : IN) : IN := ⟨x.f0, x.f1, x.f2, x.f3, -1, []⟩
theorem l6Add_eq {xs : List IN} (hl : xs.length ≤ 500) (x : IN) (h : smallN x) (ks : List Int) : spec_l6Add.f xs x.f0 x.f1 x.f2 x.f3 x.f4 ks = some (xs ++ [addN x], (xs.length : Int)) := by
 unfold spec_l6Add.f
 rw [if_pos (by have := h.2.1; omega), if_pos (by omega)]
theorem small_addN {x : IN} (h : smallN x) : smallN (addN x) := ⟨h.1, h.2.1, h.2.2.1, h.2.2.2.1, by simp, by simp, by simp⟩
theorem small_nil5 {x : IN} (h : smallN x) : smallN ⟨x.f0, x.f1, x.f2, x.f3, x.f4, []⟩ := ⟨h.1, h.2.1, h.2.2.1, h.2.2.2.1, h.2.2.2.2.1, by simp, by simp⟩
/-- (*Tree).add: the row, with the node behind it where it may stand there. -/
theorem add_p {xs : List IN} (h1 : 1 ≤ xs.length) (h5 : xs.length ≤ 500) (x : IN) (h : smallN x) : EvP (fun k => impl_Tree_add.f k xs x.f0 x.f1 x.f2 x.f3) (fun r => ((xs.length < 500 ∧ kindP (addN x) ∧ x.f0 ≠ 1) ∧ r = ((xs.length : Int), xs ++ [addN x])) ∨ (¬ (xs.length < 500 ∧ kindP (addN x) ∧ x.f0 ≠ 1) ∧ r = (-1, xs))) := by
 unfold impl_Tree_add.f
 have h2 : impl_Attr_97.f x.f2 = some x.f2 := if_pos (by have := h.2.1; omega)
 rw [h2]
 simp only [Option.bind_some]
 refine EvP.ite (fun c => EvP.some (.inr ⟨fun hh => by omega, rfl⟩)) (fun c => ?_)
 refine EvP.bind (impl_nodeOk_p (addN x) (small_addN h) (xs.length : Int)) (fun ok hok => ?_)
 have hn : nodeP (addN x) (xs.length : Int) ↔ kindP (addN x) ∧ x.f0 ≠ 1 := by
  unfold nodeP
  constructor
  · rintro ⟨a, b, _⟩
    exact ⟨a, fun e => by have := b.1 e; omega⟩
  · rintro ⟨a, b⟩
    exact ⟨a, ⟨fun e => absurd e b, fun e => by omega⟩, fun e => by omega⟩
 refine EvP.ite (fun c2 => EvP.some (.inl ⟨⟨by omega, hn.1 (hok.1 c2)⟩, rfl⟩)) (fun c2 => EvP.some (.inr ⟨fun hh => c2 (hok.2 (hn.2 hh.2)), rfl⟩))
theorem kind_par (x : IN) : kindP ⟨x.f0, x.f1, x.f2, x.f3, x.f4, []⟩ ↔ kindP (addN x) := Iff.rfl
/-- TreeAdd on both sides. -/
theorem TreeAdd_both {xs : List IN} (hs : smallT xs) (x : IN) (h : smallN x) : ∃ ys r, Ev (fun k => spec_TreeAdd.f k xs x.f0 x.f1 x.f2 x.f3 x.f4 x.f5) (ys, r) ∧ Ev (fun k => impl_TreeAdd.f k xs x.f0 x.f1 x.f2 x.f3 x.f4 x.f5) (ys, r) ∧ ys.length ≤ 501 ∧ ∀ y ∈ ys, y.f2.length ≤ 1048576 ∧ y.f5.length ≤ 1048576 := by
 obtain ⟨u, hu, hu2⟩ := spec_TreeOk_p hs
 obtain ⟨v, hv, hv2⟩ := impl_TreeOk_p hs
 have e := bool_iff hu2 hv2
 subst e
 unfold spec_TreeAdd.f impl_TreeAdd.f
 cases u with
 | false => exact ⟨[], -1, Ev.bind hu (ev_neg (by simp) (Ev.now _)), Ev.bind hv (ev_neg (by simp) (Ev.now _)), by simp, by simp⟩
 | true =>
  obtain ⟨h1, h5, _⟩ := hu2.1 rfl
  have hsx : ∀ y ∈ xs, y.f2.length ≤ 1048576 ∧ y.f5.length ≤ 1048576 := fun y hy => ⟨(hs.2 y hy).2.1, (hs.2 y hy).2.2.2.2.2.1⟩
  obtain ⟨r, hr, hr2⟩ := add_p h1 h5 x h
  obtain ⟨q, hq, hq2⟩ := spec_l6Node_p ⟨x.f0, x.f1, x.f2, x.f3, x.f4, []⟩ (small_nil5 h)
  rw [kind_par] at hq2
  have hi : Ev (fun k => (impl_TreeOk.f k xs).bind fun b => if b = true then (impl_copyTree.f k xs).bind fun ys => (impl_Tree_add.f k ys x.f0 x.f1 x.f2 x.f3).bind fun z => some (z.2, z.1) else some ([], -1)) (r.2, r.1) := Ev.bind hv (ev_pos rfl (Ev.bind (copyTree_ev hs (by omega)) (Ev.bind hr (Ev.now _))))
  rcases hr2 with ⟨⟨a1, a2, a3⟩, rfl⟩ | ⟨a1, rfl⟩
  · refine ⟨_, _, Ev.bind hu (ev_pos rfl (ev_neg (by omega) (Ev.bind hq (ev_pos (hq2.2 a2) (ev_neg a3 (Ev.bind (l6Copy_ev hs (by omega)) ?_)))))), hi, by show (xs ++ [addN x]).length ≤ 501; rw [List.length_append, List.length_singleton]; omega, fun y hy => ?_⟩
    · exact ev_some' (l6Add_eq h5 x h [])
    · rcases List.mem_append.1 hy with hy | hy
      · exact hsx y hy
      · rw [List.mem_singleton.1 hy]; exact ⟨h.2.1, by simp⟩
  · refine ⟨_, _, Ev.bind hu (ev_pos rfl ?_), hi, by show xs.length ≤ 501; omega, hsx⟩
    have ht : Ev (fun k => (spec_l6Copy.f k xs).bind fun y => some (y, (-1 : Int))) (xs, -1) := Ev.bind (l6Copy_ev hs (by omega)) (Ev.now _)
    by_cases c : xs.length = 500
    · exact ev_pos (by omega) ht
    · refine ev_neg (by omega) (Ev.bind hq ?_)
      cases q with
      | false => exact ev_neg (by simp) ht
      | true =>
       have : x.f0 = 1 := by
        by_cases c2 : x.f0 = 1
        · exact c2
        · exact absurd ⟨by omega, hq2.1 rfl, c2⟩ a1
       exact ev_pos rfl (ev_pos this ht)
def mtextL : Nat → Int → ByteArray → ByteArray
 | 0, _, s => (⟨#[109]⟩ : ByteArray) ++ s
 | n + 1, x, s => if x > 0 then mtextL n (x / 10) (strOfNums [(48 + x % 10) % 256] ++ s) else (⟨#[109]⟩ : ByteArray) ++ s
def mtext (c : Int) : ByteArray := if c ≤ 0 then (⟨#[109, 48]⟩ : ByteArray) else mtextL 19 c (⟨#[]⟩ : ByteArray)
theorem pow10 (x : Int) (n : Nat) (h : x < 10 ^ (n + 1)) : x / 10 < 10 ^ n := by
 rw [Int.pow_succ] at h
 generalize (10 : Int) ^ n = p at *
 omega
theorem markText_l (n : Nat) : ∀ (x : Int) (s : ByteArray), x < 10 ^ n → 0 ≤ x → x ≤ 9223372036854775807 → s.size + n ≤ 9223372036854775806 → Ev (fun k => laws_markText.l0 k x s) (mtextL n x s) := by
 induction n with
 | zero =>
  intro x s h h0 hb hs
  have : ¬ x > 0 := by simp at h; omega
  refine Ev.step (f := fun _ => some ((⟨#[109]⟩ : ByteArray) ++ s)) (fun k => ?_) (Ev.now _)
  simp only [laws_markText.l0]; rw [if_neg this, if_pos (by omega)]
 | succ n ih =>
  intro x s h h0 hb hs
  unfold mtextL
  by_cases hx : x > 0
  · rw [if_pos hx]
    have hz : (strOfNums [(48 + x % 10) % 256]).size = 1 := by rw [strOfNums_size]; rfl
    refine Ev.step (f := fun k => laws_markText.l0 k (x / 10) (strOfNums [(48 + x % 10) % 256] ++ s)) (fun k => ?_) (ih (x / 10) _ (pow10 x n h) (by omega) (by omega) (by rw [ByteArray.size_append, hz]; omega))
    simp only [laws_markText.l0, Option.bind_some]
    rw [if_pos hx, Int.tmod_eq_emod_of_nonneg h0, Int.tdiv_eq_ediv_of_nonneg h0, w64 (x := 48 + _) (by omega) (by omega), w64 (x := x / 10) (by omega) (by omega), hz, if_pos (by omega)]
  · rw [if_neg hx]
    refine Ev.step (f := fun _ => some ((⟨#[109]⟩ : ByteArray) ++ s)) (fun k => ?_) (Ev.now _)
    simp only [laws_markText.l0]; rw [if_neg hx, if_pos (by omega)]
theorem markText_ev (c : Int) (h : c ≤ 9223372036854775807) : Ev (fun k => laws_markText.f k c) (mtext c) := by
 unfold laws_markText.f mtext
 by_cases h0 : c ≤ 0
 · simp only [if_pos h0]; exact Ev.now _
 · simp only [if_neg h0]
   exact markText_l 19 c _ (by omega) (by omega) h (by simp [ByteArray.size])
def markA (c : Int) : Nat → List IA
 | 0 => []
 | n + 1 => ⟨mtext c, mtext (c + 1)⟩ :: markA (c + 2) n
theorem markA_len (n : Nat) : ∀ c, (markA c n).length = n := by
 induction n with
 | zero => intro c; rfl
 | succ n ih => intro c; simp [markA, ih]
theorem markAttrS_l (n : Nat) (hn : n ≤ 2000000) : ∀ (d : Nat) (l : List IA) (c i : Int), l.length = n → 0 ≤ i → i + d = n → 0 ≤ c → c + 2 * d ≤ 4611686018427387903 →
 Ev (fun k => laws_markAttrS.l0 k l c i) (c + 2 * d, l.take i.toNat ++ markA c d) := by
 intro d
 induction d with
 | zero =>
  intro l c i hl h0 h hc hd
  refine ev_succ ?_
  simp only [laws_markAttrS.l0]
  refine ev_neg (by omega) (ev_some ?_)
  simp [markA, List.take_of_length_le (show l.length ≤ i.toNat by omega)]
 | succ d ih =>
  intro l c i hl h0 h hc hd
  refine ev_succ ?_
  simp only [laws_markAttrS.l0, Option.bind_some]
  rw [w64 (x := i + 1) (by omega) (by omega), w64 (x := c + 1) (by omega) (by omega), w64 (x := c + 1 + 1) (by omega) (by omega)]
  refine ev_pos (by omega) (Ev.bind (markText_ev c (by omega)) (ev_pos h0 (Ev.bind (markText_ev (c + 1) (by omega)) ?_)))
  have hr : rd_T98 (l.set i.toNat ⟨mtext c, (rd_T98 l i).f1⟩) i = ⟨mtext c, (rd_T98 l i).f1⟩ := by
   rw [rdA h0 (by simp; omega)]; simp
  rw [hr]
  have e : (((l.set i.toNat (⟨mtext c, (rd_T98 l i).f1⟩ : IA)).set i.toNat (⟨mtext c, mtext (c + 1)⟩ : IA)).take (i + 1).toNat) = l.take i.toNat ++ [⟨mtext c, mtext (c + 1)⟩] := by
   have : (i + 1).toNat = i.toNat + 1 := by omega
   rw [this, List.take_succ_eq_append_getElem (by simp; omega), List.take_set_of_le (Nat.le_refl _), List.take_set_of_le (Nat.le_refl _)]
   simp
  have := ih ((l.set i.toNat (⟨mtext c, (rd_T98 l i).f1⟩ : IA)).set i.toNat (⟨mtext c, mtext (c + 1)⟩ : IA)) (c + 2) (i + 1) (by simp [hl]) (by omega) (by omega) (by omega) (by omega)
  rw [e] at this
  simp only [List.append_assoc, List.singleton_append] at this
  have h2 : c + 2 + 2 * (d : Int) = c + 2 * ((d + 1 : Nat) : Int) := by omega
  rw [h2] at this
  rw [show c + 1 + 1 = c + 2 by omega]
  exact this
theorem markAttrS_ev (l : List IA) (hn : l.length ≤ 2000000) : Ev (fun k => laws_markAttrS.f k l 1) (1 + 2 * l.length, markA 1 l.length) := by
 have := markAttrS_l l.length hn l.length l 1 0 rfl (by omega) (by omega) (by omega) (by omega)
 simpa [laws_markAttrS.f] using this
theorem heldAttrS_l (n : Nat) (hn : n ≤ 2000000) (l : List IA) (hl : l.length = n) : ∀ (d : Nat) (c i : Int), 0 ≤ i → i + d = n → 0 ≤ c → c + 2 * d ≤ 4611686018427387903 → l.drop i.toNat = markA c d →
 Ev (fun k => laws_heldAttrS.l0 k l c i) (c + 2 * d) := by
 intro d
 induction d with
 | zero =>
  intro c i h0 h hc hd hm
  refine ev_succ ?_
  simp only [laws_heldAttrS.l0]
  exact ev_neg (by omega) (ev_some (by omega))
 | succ d ih =>
  intro c i h0 h hc hd hm
  have hr : rd_T98 l i = ⟨mtext c, mtext (c + 1)⟩ := by
   have h3 := congrArg (fun l => l[0]?) hm
   simp [markA] at h3
   unfold rd_T98
   rw [List.getD_eq_getElem?_getD, h3]; rfl
  refine ev_succ ?_
  simp only [laws_heldAttrS.l0, hr]
  rw [w64 (x := i + 1) (by omega) (by omega), w64 (x := c + 1) (by omega) (by omega), w64 (x := c + 1 + 1) (by omega) (by omega)]
  refine ev_pos (by omega) (ev_pos h0 (Ev.bind (markText_ev c (by omega)) (ev_pos rfl (Ev.bind (markText_ev (c + 1) (by omega)) (ev_pos rfl ?_)))))
  have h2 : c + 2 + 2 * (d : Int) = c + 2 * ((d + 1 : Nat) : Int) := by omega
  rw [← h2, show c + 1 + 1 = c + 2 by omega]
  refine ih (c + 2) (i + 1) (by omega) (by omega) (by omega) (by omega) ?_
  have e : (i + 1).toNat = i.toNat + 1 := by omega
  rw [e, ← List.drop_drop, hm]; rfl
theorem heldAttrS_ev (n : Nat) (hn : n ≤ 2000000) : Ev (fun k => laws_heldAttrS.f k (markA 1 n) 1) (1 + 2 * n) := by
 have := heldAttrS_l n hn (markA 1 n) (markA_len n 1) n 1 0 (by omega) (by omega) (by omega) (by omega) (by simp)
 simpa [laws_heldAttrS.f] using this
def markI (c : Int) : Nat → List Int
 | 0 => []
 | n + 1 => c :: markI (c + 1) n
theorem markI_len (n : Nat) : ∀ c, (markI c n).length = n := by
 induction n with
 | zero => intro c; rfl
 | succ n ih => intro c; simp [markI, ih]
theorem markIntS_l (n : Nat) (hn : n ≤ 4611686018427387903) : ∀ (d : Nat) (l : List Int) (c i : Int), l.length = n → 0 ≤ i → i + d = n → 0 ≤ c → c + d ≤ 4611686018427387903 →
 Ev (fun k => laws_markIntS.l0 k l c i) (c + d, l.take i.toNat ++ markI c d) := by
 intro d
 induction d with
 | zero =>
  intro l c i hl h0 h hc hd
  refine Ev.step (f := fun _ => some (c, l)) (fun k => ?_) (ev_some ?_)
  · simp only [laws_markIntS.l0]; rw [if_neg (by omega)]
  · simp [markI, List.take_of_length_le (show l.length ≤ i.toNat by omega)]
 | succ d ih =>
  intro l c i hl h0 h hc hd
  have e : (l.set i.toNat c).take (i + 1).toNat = l.take i.toNat ++ [c] := by
   have : (i + 1).toNat = i.toNat + 1 := by omega
   rw [this, List.take_succ_eq_append_getElem (by simp; omega), List.take_set_of_le (Nat.le_refl _)]
   simp
  refine Ev.step (f := fun k => laws_markIntS.l0 k (l.set i.toNat c) (c + 1) (i + 1)) (fun k => ?_) ?_
  · simp only [laws_markIntS.l0]; rw [if_pos (by omega), if_pos h0, w64 (by omega) (by omega), w64 (by omega) (by omega)]
  · have := ih (l.set i.toNat c) (c + 1) (i + 1) (by simp [hl]) (by omega) (by omega) (by omega) (by omega)
    rw [e] at this
    simp only [List.append_assoc, List.singleton_append] at this
    have h2 : c + 1 + (d : Int) = c + ((d + 1 : Nat) : Int) := by omega
    rw [h2] at this
    exact this
theorem markIntS_ev (l : List Int) (c : Int) (hc : 0 ≤ c) (h : c + l.length ≤ 4611686018427387903) : Ev (fun k => laws_markIntS.f k l c) (c + l.length, markI c l.length) := by
 have := markIntS_l l.length (by omega) l.length l c 0 rfl (by omega) (by omega) hc h
 simpa [laws_markIntS.f] using this
theorem heldIntS_l (n : Nat) (hn : n ≤ 4611686018427387903) (l : List Int) (hl : l.length = n) : ∀ (d : Nat) (c i : Int), 0 ≤ i → i + d = n → 0 ≤ c → c + d ≤ 4611686018427387903 → l.drop i.toNat = markI c d →
 Ev (fun k => laws_heldIntS.l0 k l c i) (c + d) := by
 intro d
 induction d with
 | zero =>
  intro c i h0 h hc hd hm
  refine Ev.step (f := fun _ => some c) (fun k => ?_) (ev_some (by omega))
  simp only [laws_heldIntS.l0]; rw [if_neg (by omega)]
 | succ d ih =>
  intro c i h0 h hc hd hm
  have hr : rd l i = c := rd_drop (by rw [hm]; rfl)
  have h2 : c + 1 + (d : Int) = c + ((d + 1 : Nat) : Int) := by omega
  refine Ev.step (f := fun k => laws_heldIntS.l0 k l (c + 1) (i + 1)) (fun k => ?_) ?_
  · simp only [laws_heldIntS.l0]; rw [if_pos (by omega), if_pos h0, if_pos hr, w64 (by omega) (by omega), w64 (by omega) (by omega)]
  · rw [← h2]
    refine ih (c + 1) (i + 1) (by omega) (by omega) (by omega) (by omega) ?_
    have e : (i + 1).toNat = i.toNat + 1 := by omega
    rw [e, ← List.drop_drop, hm]; rfl
theorem heldIntS_ev (n : Nat) (c : Int) (hc : 0 ≤ c) (h : c + n ≤ 4611686018427387903) : Ev (fun k => laws_heldIntS.f k (markI c n) c) (c + n) := by
 have := heldIntS_l n (by omega) (markI c n) (markI_len n c) n c 0 (by omega) (by omega) hc h (by simp)
 simpa [laws_heldIntS.f] using this
theorem markAttrS_at (l : List IA) (c : Int) (hn : l.length ≤ 2000000) (h0 : 0 ≤ c) (h : c + 2 * l.length ≤ 4611686018427387903) : Ev (fun k => laws_markAttrS.f k l c) (c + 2 * l.length, markA c l.length) := by
 have := markAttrS_l l.length hn l.length l c 0 rfl (by omega) (by omega) h0 h
 simpa [laws_markAttrS.f] using this
theorem heldAttrS_at (n : Nat) (c : Int) (hn : n ≤ 2000000) (h0 : 0 ≤ c) (h : c + 2 * n ≤ 4611686018427387903) : Ev (fun k => laws_heldAttrS.f k (markA c n) c) (c + 2 * n) := by
 have := heldAttrS_l n hn (markA c n) (markA_len n c) n c 0 (by omega) (by omega) h0 h (by simp)
 simpa [laws_heldAttrS.f] using this
/-- A node's marks from c on, and how many they are. -/
def markN (c : Int) (x : IN) : IN := ⟨c, mtext (c + 1), markA (c + 2) x.f2.length, mtext (c + 2 + 2 * x.f2.length), c + 3 + 2 * x.f2.length, markI (c + 4 + 2 * x.f2.length) x.f5.length⟩
def mkwN (x : IN) : Int := 4 + 2 * x.f2.length + x.f5.length
def markT : Int → List IN → List IN
 | _, [] => []
 | c, x :: r => markN c x :: markT (c + mkwN x) r
def endT : Int → List IN → Int
 | c, [] => c
 | c, x :: r => endT (c + mkwN x) r
def shortL (l : List IN) : Prop := ∀ x ∈ l, x.f2.length ≤ 1048576 ∧ x.f5.length ≤ 1048576
theorem endT_ge : ∀ (l : List IN) (c : Int), c ≤ endT c l := by
 intro l
 induction l with
 | nil => intro c; exact Int.le_refl _
 | cons x r ih =>
  intro c
  have := ih (c + mkwN x)
  unfold endT
  unfold mkwN at this ⊢
  omega
theorem markT_len : ∀ (l : List IN) (c : Int), (markT c l).length = l.length := by
 intro l
 induction l with
 | nil => intro c; rfl
 | cons x r ih => intro c; simp [markT, ih]
theorem markT_l (n : Nat) (hn : n ≤ 1048576) : ∀ (d : Nat) (l : List IN) (c i : Int), l.length = n → 0 ≤ i → i + d = n → 0 ≤ c → c + d * 4000000 ≤ 4611686018427387903 → shortL l →
 Ev (fun k => laws_markNodeS.l0 k l c i) (endT c (l.drop i.toNat), l.take i.toNat ++ markT c (l.drop i.toNat)) := by
 intro d
 induction d with
 | zero =>
  intro l c i hl h0 h hc hd hs
  refine ev_succ ?_
  simp only [laws_markNodeS.l0]
  refine ev_neg (by omega) (ev_some ?_)
  rw [List.drop_of_length_le (by omega), List.take_of_length_le (by omega)]
  simp [endT, markT]
 | succ d ih =>
  intro l c i hl h0 h hc hd hs
  have hi : i.toNat < l.length := by omega
  have hx := hs l[i.toNat] (List.getElem_mem _)
  have hrd : rd_T45 l i = l[i.toNat] := rdN h0 (by omega)
  refine ev_succ ?_
  simp only [laws_markNodeS.l0]
  rw [hrd, w64 (x := i + 1) (by omega) (by omega), w64 (x := c + 1) (by omega) (by omega), w64 (x := c + 1 + 1) (by omega) (by omega)]
  refine ev_pos (by omega) (ev_pos h0 (Ev.bind (markText_ev (c + 1) (by omega)) (Ev.bind (markAttrS_at l[i.toNat].f2 (c + 1 + 1) (by omega) (by omega) (by omega)) (Ev.bind (markText_ev _ (by show c + 1 + 1 + 2 * (l[i.toNat].f2.length : Int) ≤ _; omega)) ?_))))
  rw [show c + 1 + 1 = c + 2 by omega, w64 (x := c + 2 + 2 * (l[i.toNat].f2.length : Int) + 1) (by omega) (by omega), w64 (x := c + 2 + 2 * (l[i.toNat].f2.length : Int) + 1 + 1) (by omega) (by omega)]
  refine Ev.bind (markIntS_ev l[i.toNat].f5 (c + 2 + 2 * (l[i.toNat].f2.length : Int) + 1 + 1) (by omega) (by omega)) ?_
  have e : (⟨c, mtext (c + 1), markA (c + 2) l[i.toNat].f2.length, mtext (c + 2 + 2 * (l[i.toNat].f2.length : Int)), c + 2 + 2 * (l[i.toNat].f2.length : Int) + 1, markI (c + 2 + 2 * (l[i.toNat].f2.length : Int) + 1 + 1) l[i.toNat].f5.length⟩ : IN) = markN c l[i.toNat] := by
   unfold markN
   rw [show c + 2 + 2 * (l[i.toNat].f2.length : Int) + 1 + 1 = c + 4 + 2 * (l[i.toNat].f2.length : Int) by omega, show c + 2 + 2 * (l[i.toNat].f2.length : Int) + 1 = c + 3 + 2 * (l[i.toNat].f2.length : Int) by omega]
  rw [e]
  have hc2 : c + 2 + 2 * (l[i.toNat].f2.length : Int) + 1 + 1 + (l[i.toNat].f5.length : Int) = c + mkwN l[i.toNat] := by unfold mkwN; omega
  rw [hc2]
  have hw : 0 ≤ mkwN l[i.toNat] ∧ mkwN l[i.toNat] ≤ 4000000 := by unfold mkwN; omega
  have hnext := ih (l.set i.toNat (markN c l[i.toNat])) (c + mkwN l[i.toNat]) (i + 1) (by simp [hl]) (by omega) (by omega) (by omega) (by omega) (by
   intro x hx2
   rcases List.mem_or_eq_of_mem_set hx2 with h2 | rfl
   · exact hs x h2
   · show (markA _ _).length ≤ 1048576 ∧ (markI _ _).length ≤ 1048576
     rw [markA_len, markI_len]; exact hx)
  have e1 : (i + 1).toNat = i.toNat + 1 := by omega
  rw [e1, List.drop_set_of_lt (by omega), List.take_succ_eq_append_getElem (by simp; omega), List.take_set_of_le (Nat.le_refl _), List.getElem_set_self, List.append_assoc] at hnext
  rw [List.drop_eq_getElem_cons hi]
  exact hnext
theorem heldT_l (n : Nat) (hn : n ≤ 1048576) (l : List IN) (hl : l.length = n) : ∀ (r : List IN) (c i : Int), 0 ≤ i → i + r.length = n → 0 ≤ c → c + r.length * 4000000 ≤ 4611686018427387903 → shortL r → l.drop i.toNat = markT c r →
 Ev (fun k => laws_heldNodeS.l0 k l c i) (endT c r) := by
 intro r
 induction r with
 | nil =>
  intro c i h0 h hc hd hs hm
  refine ev_succ ?_
  simp only [laws_heldNodeS.l0]
  have : ([] : List IN).length = 0 := rfl
  exact ev_neg (by omega) (ev_some rfl)
 | cons x r ih =>
  intro c i h0 h hc hd hs hm
  rw [List.length_cons] at h hd
  have hx := hs x List.mem_cons_self
  have hr : rd_T45 l i = markN c x := by
   have h3 := congrArg (fun l => l[0]?) hm
   simp [markT] at h3
   unfold rd_T45
   rw [List.getD_eq_getElem?_getD, h3]; rfl
  have hw : 0 ≤ mkwN x ∧ mkwN x ≤ 4000000 := by unfold mkwN; omega
  refine ev_succ ?_
  simp only [laws_heldNodeS.l0, hr]
  rw [w64 (x := i + 1) (by omega) (by omega), w64 (x := c + 1) (by omega) (by omega), w64 (x := c + 1 + 1) (by omega) (by omega), show c + 1 + 1 = c + 2 by omega]
  refine ev_pos (by omega) (ev_pos h0 (ev_pos rfl (Ev.bind (markText_ev (c + 1) (by omega)) (ev_pos rfl (Ev.bind (heldAttrS_at x.f2.length (c + 2) (by omega) (by omega) (by omega)) (ev_neg (by omega) (Ev.bind (markText_ev _ (by omega)) (ev_pos rfl ?_))))))))
  rw [w64 (x := c + 2 + 2 * (x.f2.length : Int) + 1) (by omega) (by omega), w64 (x := c + 2 + 2 * (x.f2.length : Int) + 1 + 1) (by omega) (by omega)]
  refine ev_pos (by show c + 3 + 2 * (x.f2.length : Int) = _; omega) ?_
  have e5 : (markN c x).f5 = markI (c + 2 + 2 * (x.f2.length : Int) + 1 + 1) x.f5.length := by
   show markI (c + 4 + 2 * (x.f2.length : Int)) x.f5.length = _
   rw [show c + 4 + 2 * (x.f2.length : Int) = c + 2 + 2 * (x.f2.length : Int) + 1 + 1 by omega]
  rw [e5]
  refine Ev.bind (heldIntS_ev x.f5.length (c + 2 + 2 * (x.f2.length : Int) + 1 + 1) (by omega) (by omega)) (ev_neg (by omega) ?_)
  rw [show c + 2 + 2 * (x.f2.length : Int) + 1 + 1 + (x.f5.length : Int) = c + mkwN x by unfold mkwN; omega]
  refine ih (c + mkwN x) (i + 1) (by omega) (by omega) (by omega) (by omega) (fun y hy => hs y (List.mem_cons_of_mem _ hy)) ?_
  have e : (i + 1).toNat = i.toNat + 1 := by omega
  rw [e, ← List.drop_drop, hm]; rfl
/-- A tree is marked; its marks are found again. -/
theorem mark_held (l : List IN) (hn : l.length ≤ 1048576) (hs : shortL l) : ∃ m t, 1 ≤ m ∧ Ev (fun k => laws_markTree.f k l 1) (m, t) ∧ t.length = l.length ∧ Ev (fun k => laws_heldNodeS.f k t 1) m := by
 refine ⟨endT 1 l, markT 1 l, endT_ge l 1, ?_, markT_len l 1, ?_⟩
 · have := markT_l l.length hn l.length l 1 0 rfl (by omega) (by omega) (by omega) (by omega) hs
   simpa [laws_markTree.f, laws_markNodeS.f] using this
 · exact heldT_l l.length hn (markT 1 l) (markT_len l 1) l 1 0 (by omega) (by omega) (by omega) (by omega) hs (by simp)
end Go.Proofs.Ytgneacekgbjkkaa.Y
