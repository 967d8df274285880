/- What the Go functions that FnEscape reaches compute, and that their walks come to just that (written by a program of this project over the kit's print). Conditions: as each states. -/
import Derived.Shelf.Strings.Builder1
import Derived.Shelf.Strings.Builder2
import Derived.Shelf.Strings.Split
import Derived.Shelf.Strings.Replace
import Derived.Shelf.LaysM
import Derived.Test.YtlnmmcipioagaaaDoorProg
import Derived.Lib.ConvBytes
import Derived.Lib.AppendStr
import Derived.Test.YtlnmmcipioagaaaDoorKFnEscapew1
import Derived.Below
import Derived.Deep.Draws
import Derived.Deep.AppendLies
import Derived.Maps.AppendAt
import Derived.OwnWalk
import Derived.Laws.BytesArg
import Derived.Laws.MakeOwn
import Derived.Laws.OwnMore
import Derived.Deep.OwnRows
import Derived.Tactics
import Derived.Laws.Slices
import Derived.WalkKit
import Derived.KernelRfl
import Derived.RowKit3
import Derived.Deep.LoopGhost
import Derived.Deep.QuietTactic
import Derived.BigQuiet
import Derived.WideLaws
import Derived.Deep.DeepCutAuto
import Derived.Deep.CutBlock
import Derived.Deep.RegionHeld3
import Derived.Laws.Rows
import Derived.ArgAppend
import Derived.Laws.IdiomCopy
import Derived.OrdersHeld
import Derived.Laws.BitsLemmas
import Derived.RowKit
set_option maxHeartbeats 64000000
set_option maxRecDepth 100000
namespace Go.Proofs
open Go.Shelf
def Tryd.lays155_ren : Go.Shelf.Ren := ⟨fun | 155 => 13 | 154 => 24 | 138 => 39 | 165 => 40 | 143 => 41 | 166 => 42 | 197 => 43 | 169 => 44 | 195 => 48 | 218 => 49 | 240 => 50 | 241 => 51 | 219 => 52 | 260 => 53 | 276 => 55 | 277 => 56 | 217 => 57 | 225 => 58 | 224 => 59 | 267 => 60 | 266 => 62 | 314 => 63 | n => n, fun | 9 => 9 | 3 => 3 | 4 => 4 | 72 => 65 | 0 => 0 | 76 => 69 | 105 => 71 | 21 => 21 | 5 => 5 | 70 => 63 | 20 => 20 | 37 => 24 | 75 => 68 | 127 => 78 | 164 => 79 | 46 => 61 | 119 => 81 | 139 => 84 | 138 => 83 | 146 => 86 | 51 => 85 | 80 => 73 | n => n, fun | 1 => 0 | 3 => 1 | 4 => 2 | n => n⟩
theorem Tryd.lays155 : Go.Proofs.Lays.n155 Tryd.prog Tryd.lays155_ren := {
 mixed := by kernel_rfl
 f138 := Tryd.func39.trans (congrArg some (by kernel_rfl))
 f143 := Tryd.func41.trans (congrArg some (by kernel_rfl))
 f154 := Tryd.func24.trans (congrArg some (by kernel_rfl))
 f155 := Tryd.func13.trans (congrArg some (by kernel_rfl))
 f165 := Tryd.func40.trans (congrArg some (by kernel_rfl))
 f166 := Tryd.func42.trans (congrArg some (by kernel_rfl))
 f169 := Tryd.func44.trans (congrArg some (by kernel_rfl))
 f195 := Tryd.func48.trans (congrArg some (by kernel_rfl))
 f197 := Tryd.func43.trans (congrArg some (by kernel_rfl))
 f217 := Tryd.func57.trans (congrArg some (by kernel_rfl))
 f218 := Tryd.func49.trans (congrArg some (by kernel_rfl))
 f219 := Tryd.func52.trans (congrArg some (by kernel_rfl))
 f224 := Tryd.func59.trans (congrArg some (by kernel_rfl))
 f225 := Tryd.func58.trans (congrArg some (by kernel_rfl))
 f240 := Tryd.func50.trans (congrArg some (by kernel_rfl))
 f241 := Tryd.func51.trans (congrArg some (by kernel_rfl))
 f260 := Tryd.func53.trans (congrArg some (by kernel_rfl))
 f266 := Tryd.func62.trans (congrArg some (by kernel_rfl))
 f267 := Tryd.func60.trans (congrArg some (by kernel_rfl))
 f276 := Tryd.func55.trans (congrArg some (by kernel_rfl))
 f277 := Tryd.func56.trans (congrArg some (by kernel_rfl))
 f314 := Tryd.func63.trans (congrArg some (by kernel_rfl))
 t0 := Tryd.underlying0
 a0 := Tryd.isAgg0
 z0 := Tryd.sizeOf0
 v0 := Tryd.zeroValue0
 t3 := Tryd.underlying3
 a3 := Tryd.isAgg3
 z3 := Tryd.sizeOf3
 v3 := Tryd.zeroValue3
 t4 := Tryd.underlying4
 a4 := Tryd.isAgg4
 z4 := Tryd.sizeOf4
 v4 := Tryd.zeroValue4
 t5 := Tryd.underlying5
 a5 := Tryd.isAgg5
 z5 := Tryd.sizeOf5
 v5 := Tryd.zeroValue5
 t9 := Tryd.underlying9
 a9 := Tryd.isAgg9
 z9 := Tryd.sizeOf9
 v9 := Tryd.zeroValue9
 t20 := Tryd.underlying20
 a20 := Tryd.isAgg20
 z20 := Tryd.sizeOf20
 v20 := Tryd.zeroValue20
 t21 := Tryd.underlying21
 a21 := Tryd.isAgg21
 z21 := Tryd.sizeOf21
 v21 := Tryd.zeroValue21
 t37 := Tryd.underlying24
 a37 := Tryd.isAgg24
 z37 := Tryd.sizeOf24
 v37 := Tryd.zeroValue24
 t46 := Tryd.underlying61
 a46 := Tryd.isAgg61
 z46 := Tryd.sizeOf61
 v46 := Tryd.zeroValue61
 t51 := Tryd.underlying85
 a51 := Tryd.isAgg85
 z51 := Tryd.sizeOf85
 v51 := Tryd.zeroValue85
 t70 := Tryd.underlying63
 a70 := Tryd.isAgg63
 z70 := Tryd.sizeOf63
 v70 := Tryd.zeroValue63
 t72 := Tryd.underlying65
 a72 := Tryd.isAgg65
 z72 := Tryd.sizeOf65
 v72 := Tryd.zeroValue65
 t75 := Tryd.underlying68
 a75 := Tryd.isAgg68
 z75 := Tryd.sizeOf68
 v75 := Tryd.zeroValue68
 t76 := Tryd.underlying69
 a76 := Tryd.isAgg69
 z76 := Tryd.sizeOf69
 v76 := Tryd.zeroValue69
 t105 := Tryd.underlying71
 a105 := Tryd.isAgg71
 z105 := Tryd.sizeOf71
 v105 := Tryd.zeroValue71
 t119 := Tryd.underlying81
 a119 := Tryd.isAgg81
 z119 := Tryd.sizeOf81
 t127 := Tryd.underlying78
 a127 := Tryd.isAgg78
 z127 := Tryd.sizeOf78
 v127 := Tryd.zeroValue78
 t138 := Tryd.underlying83
 a138 := Tryd.isAgg83
 z138 := Tryd.sizeOf83
 v138 := Tryd.zeroValue83
 t139 := Tryd.underlying84
 a139 := Tryd.isAgg84
 z139 := Tryd.sizeOf84
 v139 := Tryd.zeroValue84
 t146 := Tryd.underlying86
 a146 := Tryd.isAgg86
 z146 := Tryd.sizeOf86
 v146 := Tryd.zeroValue86
 t164 := Tryd.underlying79
 a164 := Tryd.isAgg79
 z164 := Tryd.sizeOf79
 v164 := Tryd.zeroValue79
 g1 := by kernel_rfl
 g3 := by kernel_rfl
 g4 := by kernel_rfl }
theorem Tryd.Builder_Extra_155 : Builder.Extra Tryd.prog Tryd.lays155_ren := {
 sizeBuilder := by kernel_rfl
 liesBuilder := by kernel_rfl
 t5 := Tryd.underlying5
 a5 := Tryd.isAgg5
 z5 := Tryd.sizeOf5
 v5 := Tryd.zeroValue5
 infoByte := by kernel_rfl
 cellsByte := by kernel_rfl
 sizeByte := by kernel_rfl
 neB5 := by decide }
open Go.RowKit Go.Lib in
theorem Tryd.strings_ReplaceAll (s old new : ByteArray) (m : Int) (w : World) (hs : s.size < 4294967281) (hm : w.cell? ⟨0, 0, none⟩ = some (.int .i64 m)) (h1 : 1 ≤ old.size) (hlen : s.size + Lib.countB s old * new.size ≤ 140737488355328) :
 Calls Tryd.prog 13 #[.string s, .string old, .string new] w fun e w' =>
  e = .returned (.string ⟨(Lib.replaceAll s.data.toList old.data.toList new.data.toList).toArray⟩) ∧ Below w.heap.size w w' := Any.strings_ReplaceAll Tryd.lays155 Tryd.Builder_Extra_155 s old new m w hs hm h1 hlen
def Tryd.laysM155_ren : Go.Shelf.Ren := ⟨fun | 155 => 13 | 154 => 24 | 138 => 39 | 165 => 40 | 143 => 41 | 166 => 42 | 197 => 43 | 169 => 44 | 195 => 48 | 218 => 49 | 240 => 50 | 241 => 51 | 219 => 52 | 260 => 53 | 276 => 55 | 277 => 56 | 217 => 57 | 225 => 58 | 224 => 59 | 267 => 60 | 266 => 62 | 314 => 63 | n => n, fun | 9 => 9 | 3 => 3 | 4 => 4 | 72 => 65 | 0 => 0 | 76 => 69 | 105 => 71 | 21 => 21 | 5 => 5 | 70 => 63 | 20 => 20 | 37 => 24 | 75 => 68 | 127 => 78 | 164 => 79 | 46 => 61 | 119 => 81 | 139 => 84 | 138 => 83 | 146 => 86 | 51 => 85 | 80 => 73 | n => n, fun | 1 => 0 | 3 => 1 | 4 => 2 | n => n⟩
theorem Tryd.laysM155 : Go.Proofs.LaysM.n155 Tryd.prog Tryd.laysM155_ren := {
 mixed := by kernel_rfl
 f138 := Tryd.func39.trans (congrArg some (by kernel_rfl))
 f143 := Tryd.func41.trans (congrArg some (by kernel_rfl))
 f154 := Tryd.func24.trans (congrArg some (by kernel_rfl))
 f155 := Tryd.func13.trans (congrArg some (by kernel_rfl))
 f165 := Tryd.func40.trans (congrArg some (by kernel_rfl))
 f166 := Tryd.func42.trans (congrArg some (by kernel_rfl))
 f169 := Tryd.func44.trans (congrArg some (by kernel_rfl))
 f195 := Tryd.func48.trans (congrArg some (by kernel_rfl))
 f197 := Tryd.func43.trans (congrArg some (by kernel_rfl))
 f217 := Tryd.func57.trans (congrArg some (by kernel_rfl))
 f218 := Tryd.func49.trans (congrArg some (by kernel_rfl))
 f219 := Tryd.func52.trans (congrArg some (by kernel_rfl))
 f224 := Tryd.func59.trans (congrArg some (by kernel_rfl))
 f225 := Tryd.func58.trans (congrArg some (by kernel_rfl))
 f240 := Tryd.func50.trans (congrArg some (by kernel_rfl))
 f241 := Tryd.func51.trans (congrArg some (by kernel_rfl))
 f260 := Tryd.func53.trans (congrArg some (by kernel_rfl))
 f266 := Tryd.func62.trans (congrArg some (by kernel_rfl))
 f267 := Tryd.func60.trans (congrArg some (by kernel_rfl))
 f276 := Tryd.func55.trans (congrArg some (by kernel_rfl))
 f277 := Tryd.func56.trans (congrArg some (by kernel_rfl))
 f314 := Tryd.func63.trans (congrArg some (by kernel_rfl))
 t0 := Tryd.underlying0
 a0 := Tryd.isAgg0
 z0 := Tryd.sizeOf0
 v0 := Tryd.zeroValue0
 t3 := Tryd.underlying3
 a3 := Tryd.isAgg3
 z3 := Tryd.sizeOf3
 v3 := Tryd.zeroValue3
 t4 := Tryd.underlying4
 a4 := Tryd.isAgg4
 z4 := Tryd.sizeOf4
 v4 := Tryd.zeroValue4
 t5 := Tryd.underlying5
 a5 := Tryd.isAgg5
 z5 := Tryd.sizeOf5
 v5 := Tryd.zeroValue5
 t9 := Tryd.underlying9
 a9 := Tryd.isAgg9
 z9 := Tryd.sizeOf9
 v9 := Tryd.zeroValue9
 t20 := Tryd.underlying20
 a20 := Tryd.isAgg20
 z20 := Tryd.sizeOf20
 v20 := Tryd.zeroValue20
 t21 := Tryd.underlying21
 a21 := Tryd.isAgg21
 z21 := Tryd.sizeOf21
 v21 := Tryd.zeroValue21
 t37 := Tryd.underlying24
 a37 := Tryd.isAgg24
 z37 := Tryd.sizeOf24
 v37 := Tryd.zeroValue24
 t46 := Tryd.underlying61
 a46 := Tryd.isAgg61
 z46 := Tryd.sizeOf61
 v46 := Tryd.zeroValue61
 t51 := Tryd.underlying85
 a51 := Tryd.isAgg85
 z51 := Tryd.sizeOf85
 v51 := Tryd.zeroValue85
 t70 := Tryd.underlying63
 a70 := Tryd.isAgg63
 z70 := Tryd.sizeOf63
 v70 := Tryd.zeroValue63
 t72 := Tryd.underlying65
 a72 := Tryd.isAgg65
 z72 := Tryd.sizeOf65
 v72 := Tryd.zeroValue65
 t75 := Tryd.underlying68
 a75 := Tryd.isAgg68
 z75 := Tryd.sizeOf68
 v75 := Tryd.zeroValue68
 t76 := Tryd.underlying69
 a76 := Tryd.isAgg69
 z76 := Tryd.sizeOf69
 v76 := Tryd.zeroValue69
 t105 := Tryd.underlying71
 a105 := Tryd.isAgg71
 z105 := Tryd.sizeOf71
 v105 := Tryd.zeroValue71
 t119 := Tryd.underlying81
 a119 := Tryd.isAgg81
 z119 := Tryd.sizeOf81
 t127 := Tryd.underlying78
 a127 := Tryd.isAgg78
 z127 := Tryd.sizeOf78
 v127 := Tryd.zeroValue78
 t138 := Tryd.underlying83
 a138 := Tryd.isAgg83
 z138 := Tryd.sizeOf83
 v138 := Tryd.zeroValue83
 t139 := Tryd.underlying84
 a139 := Tryd.isAgg84
 z139 := Tryd.sizeOf84
 v139 := Tryd.zeroValue84
 t146 := Tryd.underlying86
 a146 := Tryd.isAgg86
 z146 := Tryd.sizeOf86
 v146 := Tryd.zeroValue86
 t164 := Tryd.underlying79
 a164 := Tryd.isAgg79
 z164 := Tryd.sizeOf79
 v164 := Tryd.zeroValue79
 g1 := by kernel_rfl
 g3 := by kernel_rfl
 g4 := by kernel_rfl
 t80 := Tryd.underlying73
 a80 := Tryd.isAgg73
 z80 := Tryd.sizeOf73
 v80 := Tryd.zeroValue73
 i0 := by kernel_rfl
 i3 := by kernel_rfl
 i4 := by kernel_rfl
 i5 := by kernel_rfl
 i9 := by kernel_rfl
 i20 := by kernel_rfl
 i21 := by kernel_rfl
 i37 := by kernel_rfl
 i46 := by kernel_rfl
 i51 := by kernel_rfl
 i70 := by kernel_rfl
 i72 := by kernel_rfl
 i75 := by kernel_rfl
 i76 := by kernel_rfl
 i80 := by kernel_rfl
 i105 := by kernel_rfl
 i127 := by kernel_rfl
 i138 := by kernel_rfl
 i139 := by kernel_rfl
 i146 := by kernel_rfl
 i164 := by kernel_rfl
 m1 := by kernel_rfl
 s1_3 := fun w h => Go.Proofs.cell_of_shapedOpen_int (zero := #[.int .i64 0]) (t := 3) h (of_decide_eq_true (by kernel_rfl)) (by kernel_rfl) rfl (by kernel_rfl) (by kernel_rfl) Tryd.underlying3
 m3 := by kernel_rfl
 m4 := by kernel_rfl }
end Go.Proofs
namespace Go.Proofs.YtlnmmcipioagaaaDoor.X
open Go.RowKit Go.Proofs.YtlnmmcipioagaaaDoorW.PrintWords Go.Proofs.YtlnmmcipioagaaaDoorW.PrintLast Go.Proofs.YtlnmmcipioagaaaDoorW.PrintMore
section
variable {P : Program} {ops : Array Oper} {rest : List Oper} {o : Oper} {a : Act} {Q : Exit → Act → World → Prop}
theorem conv_grown (W : World) (e : TypeId) (s : ByteArray) : W.grownBy (Lib.bytesWorld W e s) none :=
 ⟨rfl, rfl, rfl, by rw [Lib.bytesWorld_size]; omega, fun k hk _ => Lib.bytesWorld_at_old W e s k hk⟩
theorem conv_reads (W W' : World) (e : TypeId) (s : ByteArray) (hl : s.size ≤ 140737488355328) (h : W'.heap[W.heap.size]? = (Lib.bytesWorld W e s).heap[W.heap.size]?) :
 Kd.C (Kd.int .u8) W' (some ⟨W.heap.size, 0, none⟩) (bytesOf s).length (bytesOf s) := by
 have hr := bytes_reads W e s (by omega)
 have hr' : ReadsInt W' .u8 (some ⟨W.heap.size, 0, none⟩) s.size (bytesOf s) := by
  refine ⟨hr.1, hr.2.1, fun h0 => ?_⟩
  obtain ⟨ad, he, hc⟩ := hr.2.2 h0
  refine ⟨ad, he, fun j hj => ?_⟩
  rw [← hc j hj]
  injection he with he
  subst he
  refine World.cell?_of_block ?_
  have hb : ((⟨W.heap.size, 0, none⟩ : Addr).add j).block = W.heap.size := by unfold Addr.add; split <;> rfl
  rw [hb]; exact h
 rw [bytesOf_length]
 exact Kd.C_of_reads (d := (0 : Int)) (h1 := fun _ => rfl) hr'
theorem conv_V {w0 W : World} (base e : Nat) (hgd : o.guard = none) {N' : Tmp} (_hd : o.dst = some N') (src dst : TypeId) (x : Operand) (ho : o.op = .convert src dst x) (s : ByteArray) (hx : a.eval x = .string s)
 (hs : P.underlying src = some .string) (hds : P.underlying dst = some (.slice e)) (he : P.underlying e = some (.int .u8)) (hl : s.size ≤ 140737488355328) {ok : Nat → Prop} (hfresh : ok W.heap.size) (HB : Below base w0 W) (hbase : base ≤ W.heap.size)
 (h : ∀ v1 w1, Kd.V (Kd.int .u8) e w1 base ok v1 (bytesOf s) → Below base w0 w1 → W.grownBy w1 none → (∃ b, v1.ownBlock = some b ∧ W.heap.size ≤ b) → wpList P ops Q rest (a.put o.dst v1) w1) : wpList P ops Q (o :: rest) a W := by
 have hrun : (execOp a.eval o).run P W = .ok (.value (.slice (some ⟨W.heap.size, 0, none⟩) s.size (grownCap W s.size 0 e))) (Lib.bytesWorld W e s) := by
  simp [execOp, ho, hx, Lib.run_convert_string_bytes W src dst e s hs hds he]
 have hb := bytesOf_length s
 refine Kd.event_run hgd hrun (h _ _ ?_ (HB.grown (conv_grown W e s) hbase (fun j hj => by cases hj)) (conv_grown W e s) ⟨W.heap.size, by simp [Value.ownBlock], Nat.le_refl _⟩)
 rw [show s.size = (bytesOf s).length from hb.symm]
 refine Kd.V_mk (by rw [hb]; exact grownCap_ge W s.size 0 e) (fun W' hW => ?_)
 exact conv_reads W W' e s hl (hW W.heap.size hfresh (by rw [Lib.bytesWorld_size]; omega))
theorem append_str_hat (w : World) (base : Nat) (t u ty e : TypeId) (i : TypeInfo) (ht : P.underlying t = some (.slice e)) (hu : P.underlying u = some .string) (hi : P.info? e = some i) (hz : i.zero = some (.int .u8 0))
 (hsize : i.size = 1) (hby : i.bytes = 1) (v : Value) (n : Nat) (xs : List Value) (hown : w.ownsRow base e 1 v n xs) (s : ByteArray) (hbytes : n + s.size ≤ 140737488355328)
 {v' : Value} {w' : World} (hrun : (Builtin.append_ #[t, u] ty #[v, .string s]).run P w = .ok v' w') : v'.ownBlock = v.ownBlock ∨ ∃ b, v'.ownBlock = some b ∧ w.heap.size ≤ b := by
 have hxl : xs.length = n := by simpa using hown.1
 rcases hown.2 with ⟨rfl, rfl⟩ | ⟨g, cap, cur, rfl, hbg, hg, hnc, hcm, hcs, htake⟩
 ·by_cases hm : s.size = 0
  ·have hf := Lib.run_firstCells_string (P := P) w 1 s
   rw [hm] at hf
   have hr : (Builtin.append_ #[t, u] ty #[.slice none 0 0, .string s]).run P w = .ok (.slice none 0 0) w := by
    simp [Builtin.append_, run_underlying ht, run_underlying hu, sizeOf, typeInfo, hi, hsize, Builtin.lenOf, hm, hf]
   rw [hr] at hrun
   injection hrun with h1 h2
   exact .inl (by rw [← h1])
  ·have hr := run_append_nil_string (P := P) w t u ty e i (.int .u8 0) ht hu hi hz s (by omega) (by omega) (by rw [hby]; omega)
   rw [hr] at hrun
   injection hrun with h1 h2
   exact .inr ⟨w.heap.size, by rw [← h1]; rfl, Nat.le_refl _⟩
 ·by_cases hroom : n + s.size ≤ cap
  ·have hr := Lib.run_append_room_string (P := P) w t u ty e i ht hu hi hsize g n cap cur hg s hroom (by omega)
   rw [hr] at hrun
   injection hrun with h1 h2
   exact .inl (by rw [← h1]; rfl)
  ·have holds : ∀ j u, xs[j]? = some u → w.cell? ((⟨g, 0, none⟩ : Addr).add j) = some u := hown.cells (g := g) rfl
   have hr := Lib.run_append_grow_string (P := P) w t u ty e i (.int .u8 0) ht hu hi hz ⟨g, 0, none⟩ n cap xs (by rw [hsize]; simpa using hxl) holds s (by omega) (by omega) (by rw [hby]; exact growslice_fits (by omega) (by omega))
   rw [hr] at hrun
   injection hrun with h1 h2
   exact .inr ⟨w.heap.size, by rw [← h1]; rfl, Nat.le_refl _⟩
theorem append_str {w0 W : World} (base : Nat) (hgd : o.guard = none) (s x : Operand) (t u e : TypeId)
 (ho : o.op = .call { callee := .builtin .append, args := #[s, x], argTypes := #[t, u] })
 (ht : P.underlying t = some (.slice e)) (hu : P.underlying u = some .string) (hinfo : (P.info? e).map (fun i => (i.zero, i.size, i.bytes)) = some (some (.int .u8 0), 1, 1))
 (v : Value) (xs : List Int) (y : ByteArray) (ok : Nat → Prop) (hfresh : ∀ k, W.heap.size ≤ k → ok k) (hs : a.eval s = v) (hx : a.eval x = .string y)
 (HO : Kd.R (Kd.int .u8) e W base ok v xs) (HB : Below base w0 W) (hbase : base ≤ W.heap.size) (hl : xs.length + y.size ≤ 140737488355328)
 (h : ∀ v1 w1, Kd.R (Kd.int .u8) e w1 base ok v1 (xs ++ bytesOf y) → Below base w0 w1 → W.grownBy w1 v.ownBlock → (v1.ownBlock = v.ownBlock ∨ ∃ b, v1.ownBlock = some b ∧ W.heap.size ≤ b) → wpList P ops Q rest (a.put o.dst v1) w1) :
 wpList P ops Q (o :: rest) a W := by
 obtain ⟨i0, hi, hzz⟩ := Option.map_eq_some_iff.1 hinfo
 simp only [Prod.mk.injEq] at hzz
 obtain ⟨hz0, hz1, hz2⟩ := hzz
 have hown : W.ownsRow base e 1 v xs.length (nums .u8 xs) := Kd.own_of_R HO
 obtain ⟨v', w', hr, h2, h3, h4⟩ := Lib.run_append_own_string (P := P) W base t u o.type e i0 ht hu hi hz0 hz1 hz2 v xs.length (nums .u8 xs) hown y (by simp only [maxLen]; omega) hl hbase
 have hat := append_str_hat (P := P) W base t u o.type e i0 ht hu hi hz0 hz1 hz2 v xs.length (nums .u8 xs) hown y hl hr
 have hl2 : (xs ++ bytesOf y).length = xs.length + y.size := by rw [List.length_append, bytesOf_length]
 have hc : nums .u8 (xs ++ bytesOf y) = nums .u8 xs ++ Lib.strCells y := by
  rw [nums_append]
  congr 1
  simp [nums, bytesOf, Lib.strCells]
 refine wpList_plain hgd fun K hK => ?_
 unfold Oper.wp execOp
 simp only [ho, resolve, invoke, builtin, Sem.run_bind, Sem.run_pure, Result.andThen_ok, List.map_toArray, List.map_cons, List.map_nil, hs, hx, hr]
 refine hK _ _ (h v' w' (Kd.R_of_own (h1 := fun _ => rfl) (by rw [hl2]; show w'.ownsRow base e 1 v' _ (nums .u8 (xs ++ bytesOf y)); rw [hc]; exact h2) (fun k hk => ?_)) (HB.grown h3 hbase (own_base hown)) h3 hat)
 rcases hat with hat | ⟨b, hb, hle⟩
 ·exact HO.1 k (by rw [← hat]; exact hk)
 ·rw [hb] at hk
  injection hk with hk
  exact hfresh k (by omega)
end
end Go.Proofs.YtlnmmcipioagaaaDoor.X
namespace Go.Proofs.YtlnmmcipioagaaaDoor.X
open Go.RowKit Go.Proofs.YtlnmmcipioagaaaDoorW.PrintWords Go.Proofs.YtlnmmcipioagaaaDoorW.PrintLast Go.Proofs.YtlnmmcipioagaaaDoorW.PrintMore
attribute [local go_sem] max2_int min2_int max_two min_two max_three min_three max_four min_four
set_option linter.unusedVariables false
set_option linter.unusedSimpArgs false
theorem Ak {p : Prop} (h : p) : Aside0 p := ⟨h⟩
theorem Oi {α : Type} {a b : α} (h : some a = some b) : a = b := Option.some.inj h
theorem Ob {α β : Type} {o : Option α} {f : α → Option β} {b : β} (h : o.bind f = some b) : ∃ a, o = some a ∧ f a = some b := Option.bind_eq_some_iff.1 h
def errW : Option Int → Value
 | none => .nilIface
 | some c => .iface 0 (.int .i64 c)
theorem errW_none : errW none = .nilIface := rfl
theorem errW_some (c : Int) : errW (some c) = .iface 0 (.int .i64 c) := rfl
theorem info3 : (Tryd.prog.info? 3).map (fun i => (i.zero, i.size, i.bytes)) = some (some (.int .i64 0), 1, 8) := by kernel_rfl
theorem info5 : (Tryd.prog.info? 5).map (fun i => (i.zero, i.size, i.bytes)) = some (some (.int .u8 0), 1, 1) := by kernel_rfl
theorem info9 : (Tryd.prog.info? 9).map (fun i => (i.zero, i.size, i.bytes)) = some (some (.string ⟨#[]⟩), 1, 16) := by kernel_rfl
theorem info54 : (Tryd.prog.info? 54).map (fun i => (i.zero, i.size, i.bytes)) = some (some (.agg #[(.string ⟨#[]⟩), (.int .i64 0)]), 2, 24) := by kernel_rfl
/-! #### struct type 54 -/
structure S54 where
 f0 : ByteArray
 f1 : Int
def z54 : S54 := ⟨(⟨#[]⟩ : ByteArray), (0 : Int)⟩
def k54 : Kd S54 := Kd.iso (Kd.pair Kd.string (Kd.int .i64)) (fun x : S54 => (x.f0, x.f1))
theorem k54_open {w : World} {x : S54} {cs : List Value} (h : k54.K w x cs) : cs = [.string x.f0, .int .i64 x.f1] := by
 obtain ⟨_, _, rfl, rfl, rfl⟩ := h
 exact rfl
theorem k54_openM {w : World} {base : Nat} {ok : Nat → Prop} {x : S54} {cs : List Value} (h : k54.M w base ok x cs) : cs = [.string x.f0, .int .i64 x.f1] := by
 obtain ⟨_, _, rfl, rfl, rfl⟩ := h
 exact rfl
theorem k54_mk (w : World) (x : S54)  : k54.K w x [.string x.f0, .int .i64 x.f1] := ⟨[.string x.f0], [.int .i64 x.f1], rfl, rfl, rfl⟩
theorem k54_mkM (w : World) (base : Nat) (ok : Nat → Prop) (x : S54)  : k54.M w base ok x [.string x.f0, .int .i64 x.f1] := ⟨[.string x.f0], [.int .i64 x.f1], rfl, rfl, rfl⟩
def rd_T54 (xs : List S54) (i : Int) : S54 := xs.getD i.toNat z54
theorem at_T54 {w : World} {A : Option Addr} {n : Nat} {xs : List S54} (h : Kd.C k54 w A n xs) (i : Int) (h0 : 0 ≤ i) (h1 : i < n) : ∃ ad , A = some ad ∧ w.cell? (ad.add (i.toNat * 2)) = some (.string (rd_T54 xs i).f0) ∧ w.cell? ⟨(ad.add (i.toNat * 2)).block, (ad.add (i.toNat * 2)).off + 1, none⟩ = some (.int .i64 (rd_T54 xs i).f1) := by
 obtain ⟨ad, c, e, _, hK, hc0⟩ := Kd.C_get h z54 i h0 h1
 have hc : ∀ j u, c[j]? = some u → w.cell? (ad.add (i.toNat * 2 + j)) = some u := hc0
 obtain rfl := k54_open hK
 exact ⟨ad, e, hc 0 _ rfl, by rw [← add_field _ _ 1 (by omega)]; exact hc 1 _ rfl⟩
def spec_l1In.f (a0 : Int) (a1 : Int) (a2 : Int) : Option (Bool) := if a0 ≥ a1 then (some (decide (a0 ≤ a2))) else (some false)
theorem spec_l1In.calls (a0 : Int) (a1 : Int) (a2 : Int) (r : Bool) (w : World) (h : spec_l1In.f a0 a1 a2 = some r) :
 Calls Tryd.prog 46 #[.int .i64 a0, .int .i64 a1, .int .i64 a2] w fun e w' => e = .returned (.bool r) ∧ Drawn0 w w' := by
 have H : (if a0 ≥ a1 then (some (decide (a0 ≤ a2))) else (some false)) = some r := h
 clear h
 by_cases c4 : a0 ≥ a1
 ·rw [if_pos c4] at H
  have c4b0 : decide (a1 ≤ a0) = true := decide_eq_true c4
  clear c4
  obtain rfl := Oi H
  go_enter Tryd.func46, Tryd.ntmps46
  go_wp2
  go_ret
  exact ⟨rfl, by repeat (first | exact Drawn0.refl _ | apply Drawn0.step)⟩
 ·rw [if_neg c4] at H
  have c4b0 : decide (a1 ≤ a0) = false := decide_eq_false c4
  clear c4
  obtain rfl := Oi H
  go_enter Tryd.func46, Tryd.ntmps46
  go_wp2
  go_ret
  exact ⟨rfl, by repeat (first | exact Drawn0.refl _ | apply Drawn0.step)⟩
def spec_l1Forms.f (a0 : Int) : Option (Int) := if a0 < 128 then (some 1) else ((spec_l1In.f a0 194 223).bind fun t101 => (if t101 = true then (some 2) else ((spec_l1In.f a0 224 239).bind fun t102 => (if t102 = true then (some 3) else ((spec_l1In.f a0 240 244).bind fun t103 => (if t103 = true then (some 4) else (some 0)))))))
theorem spec_l1Forms.calls (a0 : Int) (r : Int) (w : World) (h : spec_l1Forms.f a0 = some r) :
 Calls Tryd.prog 27 #[.int .i64 a0] w fun e w' => e = .returned (.int .i64 r) ∧ Drawn0 w w' := by
 have H : (if a0 < 128 then (some 1) else ((spec_l1In.f a0 194 223).bind fun t101 => (if t101 = true then (some 2) else ((spec_l1In.f a0 224 239).bind fun t102 => (if t102 = true then (some 3) else ((spec_l1In.f a0 240 244).bind fun t103 => (if t103 = true then (some 4) else (some 0)))))))) = some r := h
 clear h
 by_cases c2 : a0 < 128
 ·rw [if_pos c2] at H
  have c2b0 := decide_eq_true c2
  clear c2
  obtain rfl := Oi H
  go_enter Tryd.func27, Tryd.ntmps27
  go_wp2
  go_ret
  exact ⟨rfl, by repeat (first | exact Drawn0.refl _ | apply Drawn0.step)⟩
 ·rw [if_neg c2] at H
  have c2b0 := decide_eq_false c2
  clear c2
  replace H := Ob H
  obtain ⟨t101, A30, H⟩ := H
  replace H : (if t101 = true then (some 2) else ((spec_l1In.f a0 224 239).bind fun t102 => (if t102 = true then (some 3) else ((spec_l1In.f a0 240 244).bind fun t103 => (if t103 = true then (some 4) else (some 0)))))) = some r := H
  have A3 := Ak A30
  clear A30
  by_cases c4 : t101 = true
  ·subst c4
   rw [if_pos rfl] at H
   obtain rfl := Oi H
   go_enter Tryd.func27, Tryd.ntmps27
   go_wp2_with (first | (go_at_call 46; (with_reducible refine (spec_l1In.calls a0 194 223 true _ A3.out).mono ?_); rintro e w' ⟨rfl, ⟨nd, rfl⟩⟩))
   go_ret
   exact ⟨rfl, by repeat (first | exact Drawn0.refl _ | apply Drawn0.step)⟩
  ·replace c4 := Bool.eq_false_iff.mpr c4
   subst c4
   rw [if_neg (show ¬ (false = true) by decide)] at H
   replace H := Ob H
   obtain ⟨t102, A50, H⟩ := H
   replace H : (if t102 = true then (some 3) else ((spec_l1In.f a0 240 244).bind fun t103 => (if t103 = true then (some 4) else (some 0)))) = some r := H
   have A5 := Ak A50
   clear A50
   by_cases c6 : t102 = true
   ·subst c6
    rw [if_pos rfl] at H
    obtain rfl := Oi H
    go_enter Tryd.func27, Tryd.ntmps27
    go_wp2_with (first | (go_at_call 46; (with_reducible refine (spec_l1In.calls a0 194 223 false _ A3.out).mono ?_); rintro e w' ⟨rfl, ⟨nd, rfl⟩⟩) | (go_at_call 46; (with_reducible refine (spec_l1In.calls a0 224 239 true _ A5.out).mono ?_); rintro e w' ⟨rfl, ⟨nd, rfl⟩⟩))
    go_ret
    exact ⟨rfl, by repeat (first | exact Drawn0.refl _ | apply Drawn0.step)⟩
   ·replace c6 := Bool.eq_false_iff.mpr c6
    subst c6
    rw [if_neg (show ¬ (false = true) by decide)] at H
    replace H := Ob H
    obtain ⟨t103, A70, H⟩ := H
    replace H : (if t103 = true then (some 4) else (some 0)) = some r := H
    have A7 := Ak A70
    clear A70
    by_cases c8 : t103 = true
    ·subst c8
     rw [if_pos rfl] at H
     obtain rfl := Oi H
     go_enter Tryd.func27, Tryd.ntmps27
     go_wp2_with (first | (go_at_call 46; (with_reducible refine (spec_l1In.calls a0 194 223 false _ A3.out).mono ?_); rintro e w' ⟨rfl, ⟨nd, rfl⟩⟩) | (go_at_call 46; (with_reducible refine (spec_l1In.calls a0 224 239 false _ A5.out).mono ?_); rintro e w' ⟨rfl, ⟨nd, rfl⟩⟩) | (go_at_call 46; (with_reducible refine (spec_l1In.calls a0 240 244 true _ A7.out).mono ?_); rintro e w' ⟨rfl, ⟨nd, rfl⟩⟩))
     go_ret
     exact ⟨rfl, by repeat (first | exact Drawn0.refl _ | apply Drawn0.step)⟩
    ·replace c8 := Bool.eq_false_iff.mpr c8
     subst c8
     rw [if_neg (show ¬ (false = true) by decide)] at H
     obtain rfl := Oi H
     go_enter Tryd.func27, Tryd.ntmps27
     go_wp2_with (first | (go_at_call 46; (with_reducible refine (spec_l1In.calls a0 194 223 false _ A3.out).mono ?_); rintro e w' ⟨rfl, ⟨nd, rfl⟩⟩) | (go_at_call 46; (with_reducible refine (spec_l1In.calls a0 224 239 false _ A5.out).mono ?_); rintro e w' ⟨rfl, ⟨nd, rfl⟩⟩) | (go_at_call 46; (with_reducible refine (spec_l1In.calls a0 240 244 false _ A7.out).mono ?_); rintro e w' ⟨rfl, ⟨nd, rfl⟩⟩))
     go_ret
     exact ⟨rfl, by repeat (first | exact Drawn0.refl _ | apply Drawn0.step)⟩
def spec_l1Fits.f (a0 : Int) (a1 : Int) (a2 : Int) : Option (Bool) := if a1 = 1 then (if a0 = 224 then ((spec_l1In.f a2 160 191).bind fun t101 => (some t101)) else (if a0 = 237 then ((spec_l1In.f a2 128 159).bind fun t102 => (some t102)) else (if a0 = 240 then ((spec_l1In.f a2 144 191).bind fun t103 => (some t103)) else (if a0 = 244 then ((spec_l1In.f a2 128 143).bind fun t104 => (some t104)) else ((spec_l1In.f a2 128 191).bind fun t105 => (some t105)))))) else ((spec_l1In.f a2 128 191).bind fun t106 => (some t106))
theorem spec_l1Fits.calls (a0 : Int) (a1 : Int) (a2 : Int) (r : Bool) (w : World) (h : spec_l1Fits.f a0 a1 a2 = some r) :
 Calls Tryd.prog 28 #[.int .i64 a0, .int .i64 a1, .int .i64 a2] w fun e w' => e = .returned (.bool r) ∧ Drawn0 w w' := by
 have H : (if a1 = 1 then (if a0 = 224 then ((spec_l1In.f a2 160 191).bind fun t101 => (some t101)) else (if a0 = 237 then ((spec_l1In.f a2 128 159).bind fun t102 => (some t102)) else (if a0 = 240 then ((spec_l1In.f a2 144 191).bind fun t103 => (some t103)) else (if a0 = 244 then ((spec_l1In.f a2 128 143).bind fun t104 => (some t104)) else ((spec_l1In.f a2 128 191).bind fun t105 => (some t105)))))) else ((spec_l1In.f a2 128 191).bind fun t106 => (some t106))) = some r := h
 clear h
 by_cases c4 : a1 = 1
 ·rw [if_pos c4] at H
  have c4b0 := beq_iff_eq.mpr c4
  have c4b1 := bne_eq_false_iff_eq.mpr c4
  clear c4
  by_cases c5 : a0 = 224
  ·rw [if_pos c5] at H
   have c5b0 := beq_iff_eq.mpr c5
   have c5b1 := bne_eq_false_iff_eq.mpr c5
   clear c5
   replace H := Ob H
   obtain ⟨t101, A60, H⟩ := H
   replace H : (some t101) = some r := H
   have A6 := Ak A60
   clear A60
   obtain rfl := Oi H
   go_enter Tryd.func28, Tryd.ntmps28
   go_wp2_with (first | (go_at_call 46; (with_reducible refine (spec_l1In.calls a2 160 191 t101 _ A6.out).mono ?_); rintro e w' ⟨rfl, ⟨nd, rfl⟩⟩))
   go_ret
   exact ⟨rfl, by repeat (first | exact Drawn0.refl _ | apply Drawn0.step)⟩
  ·rw [if_neg c5] at H
   have c5b0 := beq_eq_false_iff_ne.mpr c5
   have c5b1 := bne_iff_ne.mpr c5
   by_cases c7 : a0 = 237
   ·rw [if_pos c7] at H
    have c7b0 := beq_iff_eq.mpr c7
    have c7b1 := bne_eq_false_iff_eq.mpr c7
    clear c7
    replace H := Ob H
    obtain ⟨t102, A80, H⟩ := H
    replace H : (some t102) = some r := H
    have A8 := Ak A80
    clear A80
    obtain rfl := Oi H
    go_enter Tryd.func28, Tryd.ntmps28
    go_wp2_with (first | (go_at_call 46; (with_reducible refine (spec_l1In.calls a2 128 159 t102 _ A8.out).mono ?_); rintro e w' ⟨rfl, ⟨nd, rfl⟩⟩))
    go_ret
    exact ⟨rfl, by repeat (first | exact Drawn0.refl _ | apply Drawn0.step)⟩
   ·rw [if_neg c7] at H
    have c7b0 := beq_eq_false_iff_ne.mpr c7
    have c7b1 := bne_iff_ne.mpr c7
    by_cases c9 : a0 = 240
    ·rw [if_pos c9] at H
     have c9b0 := beq_iff_eq.mpr c9
     have c9b1 := bne_eq_false_iff_eq.mpr c9
     clear c9
     replace H := Ob H
     obtain ⟨t103, A100, H⟩ := H
     replace H : (some t103) = some r := H
     have A10 := Ak A100
     clear A100
     obtain rfl := Oi H
     go_enter Tryd.func28, Tryd.ntmps28
     go_wp2_with (first | (go_at_call 46; (with_reducible refine (spec_l1In.calls a2 144 191 t103 _ A10.out).mono ?_); rintro e w' ⟨rfl, ⟨nd, rfl⟩⟩))
     go_ret
     exact ⟨rfl, by repeat (first | exact Drawn0.refl _ | apply Drawn0.step)⟩
    ·rw [if_neg c9] at H
     have c9b0 := beq_eq_false_iff_ne.mpr c9
     have c9b1 := bne_iff_ne.mpr c9
     by_cases c11 : a0 = 244
     ·rw [if_pos c11] at H
      have c11b0 := beq_iff_eq.mpr c11
      have c11b1 := bne_eq_false_iff_eq.mpr c11
      clear c11
      replace H := Ob H
      obtain ⟨t104, A120, H⟩ := H
      replace H : (some t104) = some r := H
      have A12 := Ak A120
      clear A120
      obtain rfl := Oi H
      go_enter Tryd.func28, Tryd.ntmps28
      go_wp2_with (first | (go_at_call 46; (with_reducible refine (spec_l1In.calls a2 128 143 t104 _ A12.out).mono ?_); rintro e w' ⟨rfl, ⟨nd, rfl⟩⟩))
      go_ret
      exact ⟨rfl, by repeat (first | exact Drawn0.refl _ | apply Drawn0.step)⟩
     ·rw [if_neg c11] at H
      have c11b0 := beq_eq_false_iff_ne.mpr c11
      have c11b1 := bne_iff_ne.mpr c11
      replace H := Ob H
      obtain ⟨t105, A130, H⟩ := H
      replace H : (some t105) = some r := H
      have A13 := Ak A130
      clear A130
      obtain rfl := Oi H
      go_enter Tryd.func28, Tryd.ntmps28
      go_wp2_with (first | (go_at_call 46; (with_reducible refine (spec_l1In.calls a2 128 191 t105 _ A13.out).mono ?_); rintro e w' ⟨rfl, ⟨nd, rfl⟩⟩))
      go_ret
      exact ⟨rfl, by repeat (first | exact Drawn0.refl _ | apply Drawn0.step)⟩
 ·rw [if_neg c4] at H
  have c4b0 := beq_eq_false_iff_ne.mpr c4
  have c4b1 := bne_iff_ne.mpr c4
  replace H := Ob H
  obtain ⟨t106, A140, H⟩ := H
  replace H : (some t106) = some r := H
  have A14 := Ak A140
  clear A140
  obtain rfl := Oi H
  go_enter Tryd.func28, Tryd.ntmps28
  go_wp2_with (first | (go_at_call 46; (with_reducible refine (spec_l1In.calls a2 128 191 t106 _ A14.out).mono ?_); rintro e w' ⟨rfl, ⟨nd, rfl⟩⟩))
  go_ret
  exact ⟨rfl, by repeat (first | exact Drawn0.refl _ | apply Drawn0.step)⟩
mutual
def spec_l1Read.l0 : Nat → List Int → List Int → Int → Option (List Int)
 | 0, _, _, _ => none
 | k + 1, x0, x3, x4 => if x4 < (x0.length : Int) then (if 0 ≤ x4 then ((spec_l1Forms.f (wrap64 (rd x0 x4))).bind fun t105 => (spec_l1Read.l1 k x0 x3 x4 (wrap64 (rd x0 x4)) t105 1)) else (none)) else (some x3)
def spec_l1Read.j2 : Nat → List Int → List Int → Int → Int → Int → Int → Option (List Int)
 | 0, _, _, _, _, _, _ => none
 | k + 1, x0, x3, x4, x5, x6, x7 => if x6 = 0 then (spec_l1Read.j3 k x0 x3 x4 x5 x6 x7 true) else (spec_l1Read.j3 k x0 x3 x4 x5 x6 x7 (decide (x7 < x6)))
def spec_l1Read.j3 : Nat → List Int → List Int → Int → Int → Int → Int → Bool → Option (List Int)
 | 0, _, _, _, _, _, _, _ => none
 | k + 1, x0, x3, x4, x5, x6, x7, x53 => if x53 = true then (if x3.length < 17592186044416 then (spec_l1Read.l0 k x0 (x3 ++ [65533]) (wrap64 (x4 + x7))) else (none)) else (if x6 = 2 then (spec_l1Read.j4 k x0 x3 x4 x6 (wrap64 (x5 - 192))) else (if x6 = 3 then (spec_l1Read.j4 k x0 x3 x4 x6 (wrap64 (x5 - 224))) else (if x6 = 4 then (spec_l1Read.j4 k x0 x3 x4 x6 (wrap64 (x5 - 240))) else (spec_l1Read.j4 k x0 x3 x4 x6 x5))))
def spec_l1Read.j4 : Nat → List Int → List Int → Int → Int → Int → Option (List Int)
 | 0, _, _, _, _, _ => none
 | k + 1, x0, x3, x4, x6, x8 => spec_l1Read.l2 k x0 x3 x4 x6 x8 1
def spec_l1Read.l2 : Nat → List Int → List Int → Int → Int → Int → Int → Option (List Int)
 | 0, _, _, _, _, _, _ => none
 | k + 1, x0, x3, x4, x6, x8, x9 => if x9 < x6 then (if 0 ≤ (wrap64 (x4 + x9)) then (if (wrap64 (x4 + x9)) < (x0.length : Int) then (spec_l1Read.l2 k x0 x3 x4 x6 (wrap64 ((wrap64 ((wrap64 (64 * x8)) + (wrap64 (rd x0 (wrap64 (x4 + x9)))))) - 128)) (wrap64 (x9 + 1))) else (none)) else (none)) else (if x3.length < 17592186044416 then (spec_l1Read.l0 k x0 (x3 ++ [x8]) (wrap64 (x4 + x6))) else (none))
def spec_l1Read.l1 : Nat → List Int → List Int → Int → Int → Int → Int → Option (List Int)
 | 0, _, _, _, _, _, _ => none
 | k + 1, x0, x3, x4, x5, x6, x7 => if x7 < x6 then (if (wrap64 (x4 + x7)) < (x0.length : Int) then (if 0 ≤ (wrap64 (x4 + x7)) then ((spec_l1Fits.f x5 x7 (wrap64 (rd x0 (wrap64 (x4 + x7))))).bind fun t107 => (if t107 = true then (spec_l1Read.l1 k x0 x3 x4 x5 x6 (wrap64 (x7 + 1))) else (spec_l1Read.j2 k x0 x3 x4 x5 x6 x7))) else (none)) else (spec_l1Read.j2 k x0 x3 x4 x5 x6 x7)) else (spec_l1Read.j2 k x0 x3 x4 x5 x6 x7)
end
def spec_l1Read.f (k : Nat) (l0 : List Int) : Option (List Int) := spec_l1Read.l0 k l0 (([] : List Int)) 0
theorem spec_l1Read.mono_l : ∀ k, (∀ y0 y1 y2, LeO (spec_l1Read.l0 k y0 y1 y2) (spec_l1Read.l0 (k + 1) y0 y1 y2)) ∧ (∀ y0 y1 y2 y3 y4 y5, LeO (spec_l1Read.j2 k y0 y1 y2 y3 y4 y5) (spec_l1Read.j2 (k + 1) y0 y1 y2 y3 y4 y5)) ∧ (∀ y0 y1 y2 y3 y4 y5 y6, LeO (spec_l1Read.j3 k y0 y1 y2 y3 y4 y5 y6) (spec_l1Read.j3 (k + 1) y0 y1 y2 y3 y4 y5 y6)) ∧ (∀ y0 y1 y2 y3 y4, LeO (spec_l1Read.j4 k y0 y1 y2 y3 y4) (spec_l1Read.j4 (k + 1) y0 y1 y2 y3 y4)) ∧ (∀ y0 y1 y2 y3 y4 y5, LeO (spec_l1Read.l2 k y0 y1 y2 y3 y4 y5) (spec_l1Read.l2 (k + 1) y0 y1 y2 y3 y4 y5)) ∧ (∀ y0 y1 y2 y3 y4 y5, LeO (spec_l1Read.l1 k y0 y1 y2 y3 y4 y5) (spec_l1Read.l1 (k + 1) y0 y1 y2 y3 y4 y5))
 | 0 => ⟨fun _ _ _ r h => by simp [spec_l1Read.l0] at h, fun _ _ _ _ _ _ r h => by simp [spec_l1Read.j2] at h, fun _ _ _ _ _ _ _ r h => by simp [spec_l1Read.j3] at h, fun _ _ _ _ _ r h => by simp [spec_l1Read.j4] at h, fun _ _ _ _ _ _ r h => by simp [spec_l1Read.l2] at h, fun _ _ _ _ _ _ r h => by simp [spec_l1Read.l1] at h⟩
 | k + 1 => by
  obtain ⟨ih0, ih1, ih2, ih3, ih4, ih5⟩ := spec_l1Read.mono_l k
  refine ⟨?_, ?_, ?_, ?_, ?_, ?_⟩
  ·intro y0 y1 y2
   unfold spec_l1Read.l0
   repeat' (with_reducible first | exact ih0 _ _ _ | exact ih1 _ _ _ _ _ _ | exact ih2 _ _ _ _ _ _ _ | exact ih3 _ _ _ _ _ | exact ih4 _ _ _ _ _ _ | exact ih5 _ _ _ _ _ _ | exact LeO.refl _ | exact LeO.none _ | refine LeO.ite ?_ ?_ | refine LeO.bind ?_ (fun _ => ?_))
  ·intro y0 y1 y2 y3 y4 y5
   unfold spec_l1Read.j2
   repeat' (with_reducible first | exact ih0 _ _ _ | exact ih1 _ _ _ _ _ _ | exact ih2 _ _ _ _ _ _ _ | exact ih3 _ _ _ _ _ | exact ih4 _ _ _ _ _ _ | exact ih5 _ _ _ _ _ _ | exact LeO.refl _ | exact LeO.none _ | refine LeO.ite ?_ ?_ | refine LeO.bind ?_ (fun _ => ?_))
  ·intro y0 y1 y2 y3 y4 y5 y6
   unfold spec_l1Read.j3
   repeat' (with_reducible first | exact ih0 _ _ _ | exact ih1 _ _ _ _ _ _ | exact ih2 _ _ _ _ _ _ _ | exact ih3 _ _ _ _ _ | exact ih4 _ _ _ _ _ _ | exact ih5 _ _ _ _ _ _ | exact LeO.refl _ | exact LeO.none _ | refine LeO.ite ?_ ?_ | refine LeO.bind ?_ (fun _ => ?_))
  ·intro y0 y1 y2 y3 y4
   unfold spec_l1Read.j4
   repeat' (with_reducible first | exact ih0 _ _ _ | exact ih1 _ _ _ _ _ _ | exact ih2 _ _ _ _ _ _ _ | exact ih3 _ _ _ _ _ | exact ih4 _ _ _ _ _ _ | exact ih5 _ _ _ _ _ _ | exact LeO.refl _ | exact LeO.none _ | refine LeO.ite ?_ ?_ | refine LeO.bind ?_ (fun _ => ?_))
  ·intro y0 y1 y2 y3 y4 y5
   unfold spec_l1Read.l2
   repeat' (with_reducible first | exact ih0 _ _ _ | exact ih1 _ _ _ _ _ _ | exact ih2 _ _ _ _ _ _ _ | exact ih3 _ _ _ _ _ | exact ih4 _ _ _ _ _ _ | exact ih5 _ _ _ _ _ _ | exact LeO.refl _ | exact LeO.none _ | refine LeO.ite ?_ ?_ | refine LeO.bind ?_ (fun _ => ?_))
  ·intro y0 y1 y2 y3 y4 y5
   unfold spec_l1Read.l1
   repeat' (with_reducible first | exact ih0 _ _ _ | exact ih1 _ _ _ _ _ _ | exact ih2 _ _ _ _ _ _ _ | exact ih3 _ _ _ _ _ | exact ih4 _ _ _ _ _ _ | exact ih5 _ _ _ _ _ _ | exact LeO.refl _ | exact LeO.none _ | refine LeO.ite ?_ ?_ | refine LeO.bind ?_ (fun _ => ?_))
theorem spec_l1Read.mono : ∀ a0 k, LeO (spec_l1Read.f k a0) (spec_l1Read.f (k + 1) a0) := by
 intro a0 k
 obtain ⟨ih0, ih1, ih2, ih3, ih4, ih5⟩ := spec_l1Read.mono_l k
 unfold spec_l1Read.f
 repeat' (with_reducible first | exact ih0 _ _ _ | exact ih1 _ _ _ _ _ _ | exact ih2 _ _ _ _ _ _ _ | exact ih3 _ _ _ _ _ | exact ih4 _ _ _ _ _ _ | exact ih5 _ _ _ _ _ _ | exact LeO.refl _ | exact LeO.none _ | refine LeO.ite ?_ ?_ | refine LeO.bind ?_ (fun _ => ?_))
theorem spec_l1Read.calls (k : Nat) (A0 : Option Addr) (c0 : Nat) (l0 : List Int) (r : List Int) (w : World) (hr0 : Kd.C (Kd.int .u8) w A0 l0.length l0) (hc0 : l0.length ≤ c0) (h : spec_l1Read.f k l0 = some r) :
 Calls Tryd.prog 19 #[.slice A0 l0.length c0] w fun e w' => ∃ v0_ : Value, e = .returned (v0_) ∧ Kd.R (Kd.int .i64) 3 w' w.heap.size (fun _ => True) v0_ r ∧ Below w.heap.size w w' := by
 have HR0 := Ak hr0
 have HC0 := Ak hc0
 clear hr0 hc0
 have HB := Ak (Below.refl w.heap.size w)
 have H : (spec_l1Read.l0 k l0 (([] : List Int)) 0) = some r := h
 clear h
 obtain ⟨y101, hy101⟩ : ∃ y_ : List Int, y_ = (([] : List Int)) := ⟨_, rfl⟩
 replace H : (spec_l1Read.l0 k l0 y101 0) = some r := by rw [hy101]; exact H
 have Ny101 := Ak hy101
 clear hy101
 have H' := Ak H
 clear H
 go_enter Tryd.func19, Tryd.ntmps19
 go_wp2_with (first | ((with_reducible refine gate_dst (N := 10) rfl ?_); (try (refine gate_guard (by rfl) ?_; dsimp only)); refine Kd.R_lit (Kd.int .i64) _ 3 ?hg (N := 10) ?hd (xs := ([] : List Int)) (inner := []) (ok := fun _ => True) (okp := fun _ => True) ?hr ?hp (fun _ hk => hk) trivial (Below.refl _ _) (Nat.le_refl _) (by simp) ?_; (case hd => rfl); (case hg => rfl); (case hr => first | (go_simp; done) | (go_simp; rfl)); (case hp => exact (Reps.none _ _)); intro v102 w2 ho3 hb hg_ hnew_; clear hg_ hnew_; (first | rw [← Ny101.out] at ho3 | (simp only [Int.reduceToNat] at ho3; rw [← Ny101.out] at ho3)); replace HO103 := Ak (Kd.R_lower ho3 (below_size (by repeat (first | exact HB.out | apply below_alloc | apply pw_below_drewN | apply below_drew1)))); replace HB := Ak (below_step (by repeat (first | exact HB.out | apply below_alloc | apply pw_below_drewN | apply below_drew1)) hb); clear hb ho3))
 go_loopg [3, 4] k (fun kq v3 v4 w' => ∃ (x3_1 : List Int) (x4_1 : Int), v4 = .int .i64 x4_1 ∧ Aside0 (spec_l1Read.l0 kq l0 x3_1 x4_1 = some r) ∧ Aside0 (kq ≤ k) ∧ Aside0 (Kd.R (Kd.int .i64) 3 w' w.heap.size (fun _ => True) v3 x3_1) ∧ Aside0 (Below w.heap.size w w'))
 case atStart => exact ⟨(y101), (0), rfl, H', ⟨Nat.le_refl _⟩, ⟨by (with_reducible repeat (first | apply Kd.R_alloc | apply Kd.R_drewN | apply Kd.R_drew)); exact HO103.out⟩, ⟨by repeat (first | exact HB.out | apply below_alloc | apply pw_below_drewN | apply below_drew1)⟩⟩
 case round =>
  clear H'
  obtain ⟨x3_1, x4_1, rfl, HA, HK1, HO_3, HB⟩ := hrel
  cases gk with
  | zero => exact absurd HA.out (by simp [spec_l1Read.l0])
  | succ k1 =>
   have H := HA.out
   clear HA
   simp only [spec_l1Read.l0] at H
   by_cases c4 : x4_1 < (l0.length : Int)
   ·rw [if_pos c4] at H
    have c4b0 := decide_eq_true c4
    clear c4
    by_cases c5 : 0 ≤ x4_1
    ·rw [if_pos c5] at H
     have c5b0 := decide_eq_true c5
     clear c5
     replace H := Ob H
     obtain ⟨t105, A60, H⟩ := H
     replace H : (spec_l1Read.l1 k1 l0 x3_1 x4_1 (wrap64 (rd l0 x4_1)) t105 1) = some r := H
     have A6 := Ak A60
     clear A60
     have HC7 := Ak H
     clear H
     have p104 : 0 ≤ (x4_1 : Int) := of_decide_eq_true (by assumption)
     have q104 : x4_1 < (l0.length : Int) := of_decide_eq_true (by assumption)
     obtain ⟨ad104, e104, hx104_0⟩ := Kd.at_int HR0.out x4_1 p104 q104
     cases e104
     replace hx104_0 := pw_cell_below HB.out hx104_0
     replace p104 := eq_true p104
     replace q104 := eq_true q104
     go_upto_block 2 with (first | (go_at_call 27; (with_reducible refine (spec_l1Forms.calls (wrap64 (rd l0 x4_1)) t105 _ A6.out).mono ?_); rintro e w' ⟨rfl, ⟨nd, rfl⟩⟩))
     (try simp only [Act.put, List.setIfInBounds_toArray, List.set_cons_zero, List.set_cons_succ])
     go_cut [7] (fun v7 wc => ∃ (kq : Nat) (x7_6 : Int), v7 = .int .i64 x7_6 ∧ Aside0 (spec_l1Read.j2 kq l0 x3_1 x4_1 (wrap64 (rd l0 x4_1)) t105 x7_6 = some r) ∧ Aside0 (kq ≤ k1) ∧ Aside0 (Kd.R (Kd.int .i64) 3 wc w.heap.size (fun _ => True) u3 x3_1) ∧ Aside0 (Below w.heap.size w wc))
     case first =>
      have H := HC7.out
      clear HC7
      have H' := Ak H
      clear H
      go_wp2
      go_loopg [7] k1 (fun kq v7 w' => ∃ (x7_2 : Int), v7 = .int .i64 x7_2 ∧ Aside0 (spec_l1Read.l1 kq l0 x3_1 x4_1 (wrap64 (rd l0 x4_1)) t105 x7_2 = some r) ∧ Aside0 (kq ≤ k1) ∧ Aside0 (Kd.R (Kd.int .i64) 3 w' w.heap.size (fun _ => True) u3 x3_1) ∧ Aside0 (Below w.heap.size w w'))
      case atStart => exact ⟨(1), rfl, H', ⟨Nat.le_refl _⟩, ⟨by (with_reducible repeat (first | apply Kd.R_alloc | apply Kd.R_drewN | apply Kd.R_drew)); exact HO_3.out⟩, ⟨by repeat (first | exact HB.out | apply below_alloc | apply pw_below_drewN | apply below_drew1)⟩⟩
      case round =>
       clear H'
       obtain ⟨x7_2, rfl, HA, HK2, HO_3, HB⟩ := hrel
       cases gk with
       | zero => exact absurd HA.out (by simp [spec_l1Read.l1])
       | succ k2 =>
        have H := HA.out
        clear HA
        simp only [spec_l1Read.l1] at H
        by_cases c8 : x7_2 < t105
        ·rw [if_pos c8] at H
         have c8b0 := decide_eq_true c8
         clear c8
         (first | rw [c8b0] | (simp only [i64_w, i32_w]; rw [c8b0]) | skip)
         by_cases c9 : (wrap64 (x4_1 + x7_2)) < (l0.length : Int)
         ·rw [if_pos c9] at H
          have c9b0 := decide_eq_true c9
          clear c9
          obtain ⟨ji10, hji10⟩ : ∃ j_ : Int, (wrap64 (x4_1 + x7_2)) = j_ := ⟨_, rfl⟩
          replace H : (if 0 ≤ (ji10) then ((spec_l1Fits.f (wrap64 (rd l0 x4_1)) x7_2 (wrap64 (rd l0 (ji10)))).bind fun t107 => (if t107 = true then (spec_l1Read.l1 k2 l0 x3_1 x4_1 (wrap64 (rd l0 x4_1)) t105 (wrap64 (x7_2 + 1))) else (spec_l1Read.j2 k2 l0 x3_1 x4_1 (wrap64 (rd l0 x4_1)) t105 x7_2))) else (none)) = some r := by first | (rw [hji10] at H; exact H) | (simp only [hji10] at H ⊢; exact H)
          (try rw [hji10] at c9b0)
          have hji10w : (IntKind.i64.wrap (x4_1 + x7_2)) = ji10 := (i64_w _).trans hji10
          by_cases c11 : 0 ≤ (ji10)
          ·rw [if_pos c11] at H
           have c11b0 := decide_eq_true c11
           clear c11
           replace H := Ob H
           obtain ⟨t107, A120, H⟩ := H
           replace H : (if t107 = true then (spec_l1Read.l1 k2 l0 x3_1 x4_1 (wrap64 (rd l0 x4_1)) t105 (wrap64 (x7_2 + 1))) else (spec_l1Read.j2 k2 l0 x3_1 x4_1 (wrap64 (rd l0 x4_1)) t105 x7_2)) = some r := H
           have A12 := Ak A120
           clear A120
           by_cases c13 : t107 = true
           ·subst c13
            rw [if_pos rfl] at H
            have H' := Ak H
            clear H
            have p106 : 0 ≤ ((ji10) : Int) := of_decide_eq_true (by assumption)
            have q106 : (ji10) < (l0.length : Int) := of_decide_eq_true (by assumption)
            obtain ⟨ad106, e106, hx106_0⟩ := Kd.at_int HR0.out (ji10) p106 q106
            obtain rfl : ad104 = ad106 := (by injection e106)
            replace hx106_0 := pw_cell_below HB.out hx106_0
            replace p106 := eq_true p106
            replace q106 := eq_true q106
            go_wp2_with (first | (go_at_call 28; (with_reducible refine (spec_l1Fits.calls (wrap64 (rd l0 x4_1)) x7_2 (wrap64 (rd l0 (ji10))) true _ A12.out).mono ?_); rintro e w' ⟨rfl, ⟨nd, rfl⟩⟩))
            go_roundg k2
            case measure => have := HK1.out; have := HK2.out; omega
            case rel => exact ⟨(wrap64 (x7_2 + 1)), rfl, H', ⟨by have := HK1.out; have := HK2.out; omega⟩, ⟨by (with_reducible repeat (first | apply Kd.R_alloc | apply Kd.R_drewN | apply Kd.R_drew)); exact HO_3.out⟩, ⟨by repeat (first | exact HB.out | apply below_alloc | apply pw_below_drewN | apply below_drew1)⟩⟩
           ·replace c13 := Bool.eq_false_iff.mpr c13
            subst c13
            rw [if_neg (show ¬ (false = true) by decide)] at H
            have H' := Ak H
            clear H
            have p106 : 0 ≤ ((ji10) : Int) := of_decide_eq_true (by assumption)
            have q106 : (ji10) < (l0.length : Int) := of_decide_eq_true (by assumption)
            obtain ⟨ad106, e106, hx106_0⟩ := Kd.at_int HR0.out (ji10) p106 q106
            obtain rfl : ad104 = ad106 := (by injection e106)
            replace hx106_0 := pw_cell_below HB.out hx106_0
            replace p106 := eq_true p106
            replace q106 := eq_true q106
            go_wp2_with (first | (go_at_call 28; (with_reducible refine (spec_l1Fits.calls (wrap64 (rd l0 x4_1)) x7_2 (wrap64 (rd l0 (ji10))) false _ A12.out).mono ?_); rintro e w' ⟨rfl, ⟨nd, rfl⟩⟩))
            go_meet
            case rel => exact ⟨_, (x7_2), rfl, H', ⟨by have := HK1.out; have := HK2.out; first | omega | exact Nat.le_refl _⟩, ⟨by (with_reducible repeat (first | apply Kd.R_alloc | apply Kd.R_drewN | apply Kd.R_drew)); exact HO_3.out⟩, ⟨by repeat (first | exact HB.out | apply below_alloc | apply pw_below_drewN | apply below_drew1)⟩⟩
          ·rw [if_neg c11] at H
           exact absurd H (by simp)
         ·rw [if_neg c9] at H
          have c9b0 := decide_eq_false c9
          clear c9
          have H' := Ak H
          clear H
          go_wp2
          go_meet
          case rel => exact ⟨_, (x7_2), rfl, H', ⟨by have := HK1.out; have := HK2.out; first | omega | exact Nat.le_refl _⟩, ⟨by (with_reducible repeat (first | apply Kd.R_alloc | apply Kd.R_drewN | apply Kd.R_drew)); exact HO_3.out⟩, ⟨by repeat (first | exact HB.out | apply below_alloc | apply pw_below_drewN | apply below_drew1)⟩⟩
        ·rw [if_neg c8] at H
         have c8b0 := decide_eq_false c8
         clear c8
         (first | rw [c8b0] | (simp only [i64_w, i32_w]; rw [c8b0]) | skip)
         have H' := Ak H
         clear H
         go_wp2
         go_meet
         case rel => exact ⟨_, (x7_2), rfl, H', ⟨by have := HK1.out; have := HK2.out; first | omega | exact Nat.le_refl _⟩, ⟨by (with_reducible repeat (first | apply Kd.R_alloc | apply Kd.R_drewN | apply Kd.R_drew)); exact HO_3.out⟩, ⟨by repeat (first | exact HB.out | apply below_alloc | apply pw_below_drewN | apply below_drew1)⟩⟩
     case rest =>
      clear HC7
      obtain ⟨kq, x7_6, rfl, HA, HJ6, HO_3, HB⟩ := hcut
      cases kq with
      | zero => exact absurd HA.out (by simp [spec_l1Read.j2])
      | succ kj6 =>
       have H := HA.out
       clear HA
       simp only [spec_l1Read.j2] at H
       have HC14 := Ak H
       clear H
       go_upto_region 9 with (fail)
       go_cut [53] (fun v53 wc => ∃ (kq : Nat) (x53_13 : Bool), v53 = .bool x53_13 ∧ Aside0 (spec_l1Read.j3 kq l0 x3_1 x4_1 (wrap64 (rd l0 x4_1)) t105 x7_6 x53_13 = some r) ∧ Aside0 (kq ≤ kj6) ∧ Aside0 (Kd.R (Kd.int .i64) 3 wc w.heap.size (fun _ => True) u3 x3_1) ∧ Aside0 (Below w.heap.size w wc))
       case first =>
        have H := HC14.out
        clear HC14
        by_cases c15 : t105 = 0
        ·rw [if_pos c15] at H
         have c15b0 := beq_iff_eq.mpr c15
         have c15b1 := bne_eq_false_iff_eq.mpr c15
         clear c15
         (first | rw [c15b0] | (simp only [i64_w, i32_w]; rw [c15b0]) | skip)
         have H' := Ak H
         clear H
         go_wp2
         go_meet
         case rel => exact ⟨_, (true), rfl, H', ⟨by have := HK1.out; have := HJ6.out; first | omega | exact Nat.le_refl _⟩, ⟨by (with_reducible repeat (first | apply Kd.R_alloc | apply Kd.R_drewN | apply Kd.R_drew)); exact HO_3.out⟩, ⟨by repeat (first | exact HB.out | apply below_alloc | apply pw_below_drewN | apply below_drew1)⟩⟩
        ·rw [if_neg c15] at H
         have c15b0 := beq_eq_false_iff_ne.mpr c15
         have c15b1 := bne_iff_ne.mpr c15
         (first | rw [c15b0] | (simp only [i64_w, i32_w]; rw [c15b0]) | skip)
         have H' := Ak H
         clear H
         go_wp2
         go_meet
         case rel => exact ⟨_, (decide (x7_6 < t105)), rfl, H', ⟨by have := HK1.out; have := HJ6.out; first | omega | exact Nat.le_refl _⟩, ⟨by (with_reducible repeat (first | apply Kd.R_alloc | apply Kd.R_drewN | apply Kd.R_drew)); exact HO_3.out⟩, ⟨by repeat (first | exact HB.out | apply below_alloc | apply pw_below_drewN | apply below_drew1)⟩⟩
       case rest =>
        clear HC14
        obtain ⟨kq, x53_13, rfl, HA, HJ13, HO_3, HB⟩ := hcut
        cases kq with
        | zero => exact absurd HA.out (by simp [spec_l1Read.j3])
        | succ kj13 =>
         have H := HA.out
         clear HA
         simp only [spec_l1Read.j3] at H
         by_cases c16 : x53_13 = true
         ·subst c16
          rw [if_pos rfl] at H
          by_cases c17 : x3_1.length < 17592186044416
          ·rw [if_pos c17] at H
           have LMc17 := Ak c17
           clear c17
           obtain ⟨y108, hy108⟩ : ∃ y_ : List Int, y_ = (x3_1 ++ [65533]) := ⟨_, rfl⟩
           replace H : (spec_l1Read.l0 kj13 l0 y108 (wrap64 (x4_1 + x7_6))) = some r := by rw [hy108]; exact H
           have Ny108 := Ak hy108
           clear hy108
           have H' := Ak H
           clear H
           go_wp2_with (first | ((with_reducible refine gate_builtin (b := .append) (xs := #[.tmp 54, .tmp 55]) rfl ?_); (try (refine gate_guard (by rfl) ?_; dsimp only)); at_builtin; refine Kd.R_append (Kd.int .i64) (w0 := w) w.heap.size rfl (.tmp 54) (.tmp 55) 28 3 (.int .i64 0) 8 rfl Tryd.underlying28 info3 rfl (by decide) (by omega) u3 x3_1 65533 [.int .i64 65533] (fun _ => True) (fun _ => False) rfl rfl ?aP (fun _ hk => hk.elim) ?aF ?aO ?aB ?aS ?aL ?_; (case aP => exact rfl); (case aB => exact (by repeat (first | exact HB.out | apply below_alloc | apply pw_below_drewN | apply below_drew1))); (case aF => exact (fun _ _ => trivial)); (case aO => exact HO_3.out); (case aS => exact (below_size (by repeat (first | exact HB.out | apply below_alloc | apply pw_below_drewN | apply below_drew1)))); (case aL => have := LMc17.out; omega); intro v109 w18 ho hb hg hat; rw [← Ny108.out] at ho; replace HO110 := Ak (ho); replace HB := Ak (hb); clear ho hb hg hat))
           go_roundg kj13
           case measure => have := HK1.out; have := HJ6.out; have := HJ13.out; omega
           case rel => exact ⟨(y108), (wrap64 (x4_1 + x7_6)), rfl, H', ⟨by have := HK1.out; have := HJ6.out; have := HJ13.out; omega⟩, ⟨by (with_reducible repeat (first | apply Kd.R_alloc | apply Kd.R_drewN | apply Kd.R_drew)); exact HO110.out⟩, ⟨by repeat (first | exact HB.out | apply below_alloc | apply pw_below_drewN | apply below_drew1)⟩⟩
          ·rw [if_neg c17] at H
           exact absurd H (by simp)
         ·replace c16 := Bool.eq_false_iff.mpr c16
          subst c16
          rw [if_neg (show ¬ (false = true) by decide)] at H
          have HC19 := Ak H
          clear H
          go_upto_block 4 with (fail)
          go_cut [8] (fun v8 wc => ∃ (kq : Nat) (x8_18 : Int), v8 = .int .i64 x8_18 ∧ Aside0 (spec_l1Read.j4 kq l0 x3_1 x4_1 t105 x8_18 = some r) ∧ Aside0 (kq ≤ kj13) ∧ Aside0 (Kd.R (Kd.int .i64) 3 wc w.heap.size (fun _ => True) u3 x3_1) ∧ Aside0 (Below w.heap.size w wc))
          case first =>
           have H := HC19.out
           clear HC19
           by_cases c20 : t105 = 2
           ·rw [if_pos c20] at H
            have c20b0 := beq_iff_eq.mpr c20
            have c20b1 := bne_eq_false_iff_eq.mpr c20
            clear c20
            (first | rw [c20b0] | (simp only [i64_w, i32_w]; rw [c20b0]) | skip)
            have H' := Ak H
            clear H
            go_wp2
            go_meet
            case rel => exact ⟨_, (wrap64 ((wrap64 (rd l0 x4_1)) - 192)), rfl, H', ⟨by have := HK1.out; have := HJ6.out; have := HJ13.out; first | omega | exact Nat.le_refl _⟩, ⟨by (with_reducible repeat (first | apply Kd.R_alloc | apply Kd.R_drewN | apply Kd.R_drew)); exact HO_3.out⟩, ⟨by repeat (first | exact HB.out | apply below_alloc | apply pw_below_drewN | apply below_drew1)⟩⟩
           ·rw [if_neg c20] at H
            have c20b0 := beq_eq_false_iff_ne.mpr c20
            have c20b1 := bne_iff_ne.mpr c20
            (first | rw [c20b0] | (simp only [i64_w, i32_w]; rw [c20b0]) | skip)
            by_cases c21 : t105 = 3
            ·rw [if_pos c21] at H
             have c21b0 := beq_iff_eq.mpr c21
             have c21b1 := bne_eq_false_iff_eq.mpr c21
             clear c21
             have H' := Ak H
             clear H
             go_wp2
             go_meet
             case rel => exact ⟨_, (wrap64 ((wrap64 (rd l0 x4_1)) - 224)), rfl, H', ⟨by have := HK1.out; have := HJ6.out; have := HJ13.out; first | omega | exact Nat.le_refl _⟩, ⟨by (with_reducible repeat (first | apply Kd.R_alloc | apply Kd.R_drewN | apply Kd.R_drew)); exact HO_3.out⟩, ⟨by repeat (first | exact HB.out | apply below_alloc | apply pw_below_drewN | apply below_drew1)⟩⟩
            ·rw [if_neg c21] at H
             have c21b0 := beq_eq_false_iff_ne.mpr c21
             have c21b1 := bne_iff_ne.mpr c21
             by_cases c22 : t105 = 4
             ·rw [if_pos c22] at H
              have c22b0 := beq_iff_eq.mpr c22
              have c22b1 := bne_eq_false_iff_eq.mpr c22
              clear c22
              have H' := Ak H
              clear H
              go_wp2
              go_meet
              case rel => exact ⟨_, (wrap64 ((wrap64 (rd l0 x4_1)) - 240)), rfl, H', ⟨by have := HK1.out; have := HJ6.out; have := HJ13.out; first | omega | exact Nat.le_refl _⟩, ⟨by (with_reducible repeat (first | apply Kd.R_alloc | apply Kd.R_drewN | apply Kd.R_drew)); exact HO_3.out⟩, ⟨by repeat (first | exact HB.out | apply below_alloc | apply pw_below_drewN | apply below_drew1)⟩⟩
             ·rw [if_neg c22] at H
              have c22b0 := beq_eq_false_iff_ne.mpr c22
              have c22b1 := bne_iff_ne.mpr c22
              have H' := Ak H
              clear H
              go_wp2
              go_meet
              case rel => exact ⟨_, ((wrap64 (rd l0 x4_1))), rfl, H', ⟨by have := HK1.out; have := HJ6.out; have := HJ13.out; first | omega | exact Nat.le_refl _⟩, ⟨by (with_reducible repeat (first | apply Kd.R_alloc | apply Kd.R_drewN | apply Kd.R_drew)); exact HO_3.out⟩, ⟨by repeat (first | exact HB.out | apply below_alloc | apply pw_below_drewN | apply below_drew1)⟩⟩
          case rest =>
           clear HC19
           obtain ⟨kq, x8_18, rfl, HA, HJ18, HO_3, HB⟩ := hcut
           cases kq with
           | zero => exact absurd HA.out (by simp [spec_l1Read.j4])
           | succ kj18 =>
            have H := HA.out
            clear HA
            simp only [spec_l1Read.j4] at H
            have H' := Ak H
            clear H
            go_wp2
            go_loopg [8, 9] kj18 (fun kq v8 v9 w' => ∃ (x8_5 : Int) (x9_5 : Int), v8 = .int .i64 x8_5 ∧ v9 = .int .i64 x9_5 ∧ Aside0 (spec_l1Read.l2 kq l0 x3_1 x4_1 t105 x8_5 x9_5 = some r) ∧ Aside0 (kq ≤ kj18) ∧ Aside0 (Kd.R (Kd.int .i64) 3 w' w.heap.size (fun _ => True) u3 x3_1) ∧ Aside0 (Below w.heap.size w w'))
            case atStart => exact ⟨(x8_18), (1), rfl, rfl, H', ⟨Nat.le_refl _⟩, ⟨by (with_reducible repeat (first | apply Kd.R_alloc | apply Kd.R_drewN | apply Kd.R_drew)); exact HO_3.out⟩, ⟨by repeat (first | exact HB.out | apply below_alloc | apply pw_below_drewN | apply below_drew1)⟩⟩
            case round =>
             clear H'
             obtain ⟨x8_5, x9_5, rfl, rfl, HA, HK5, HO_3, HB⟩ := hrel
             cases gk with
             | zero => exact absurd HA.out (by simp [spec_l1Read.l2])
             | succ k5 =>
              have H := HA.out
              clear HA
              simp only [spec_l1Read.l2] at H
              by_cases c23 : x9_5 < t105
              ·rw [if_pos c23] at H
               have c23b0 := decide_eq_true c23
               clear c23
               obtain ⟨ji24, hji24⟩ : ∃ j_ : Int, (wrap64 (x4_1 + x9_5)) = j_ := ⟨_, rfl⟩
               replace H : (if 0 ≤ (ji24) then (if (ji24) < (l0.length : Int) then (spec_l1Read.l2 k5 l0 x3_1 x4_1 t105 (wrap64 ((wrap64 ((wrap64 (64 * x8_5)) + (wrap64 (rd l0 (ji24))))) - 128)) (wrap64 (x9_5 + 1))) else (none)) else (none)) = some r := by first | (rw [hji24] at H; exact H) | (simp only [hji24] at H ⊢; exact H)
               have hji24w : (IntKind.i64.wrap (x4_1 + x9_5)) = ji24 := (i64_w _).trans hji24
               by_cases c25 : 0 ≤ (ji24)
               ·rw [if_pos c25] at H
                have c25b0 := decide_eq_true c25
                clear c25
                by_cases c26 : (ji24) < (l0.length : Int)
                ·rw [if_pos c26] at H
                 have c26b0 := decide_eq_true c26
                 clear c26
                 have H' := Ak H
                 clear H
                 have p111 : 0 ≤ ((ji24) : Int) := of_decide_eq_true (by assumption)
                 have q111 : (ji24) < (l0.length : Int) := of_decide_eq_true (by assumption)
                 obtain ⟨ad111, e111, hx111_0⟩ := Kd.at_int HR0.out (ji24) p111 q111
                 obtain rfl : ad104 = ad111 := (by injection e111)
                 replace hx111_0 := pw_cell_below HB.out hx111_0
                 replace p111 := eq_true p111
                 replace q111 := eq_true q111
                 go_wp2
                 go_roundg k5
                 case measure => have := HK1.out; have := HJ6.out; have := HJ13.out; have := HJ18.out; have := HK5.out; omega
                 case rel => exact ⟨(wrap64 ((wrap64 ((wrap64 (64 * x8_5)) + (wrap64 (rd l0 (ji24))))) - 128)), (wrap64 (x9_5 + 1)), (by first | rfl | (simp; done) | (simp only [← hji24] <;> (first | rfl | simp)) | (simp [*]; done)), rfl, H', ⟨by have := HK1.out; have := HJ6.out; have := HJ13.out; have := HJ18.out; have := HK5.out; omega⟩, ⟨by (with_reducible repeat (first | apply Kd.R_alloc | apply Kd.R_drewN | apply Kd.R_drew)); exact HO_3.out⟩, ⟨by repeat (first | exact HB.out | apply below_alloc | apply pw_below_drewN | apply below_drew1)⟩⟩
                ·rw [if_neg c26] at H
                 exact absurd H (by simp)
               ·rw [if_neg c25] at H
                exact absurd H (by simp)
              ·rw [if_neg c23] at H
               have c23b0 := decide_eq_false c23
               clear c23
               by_cases c27 : x3_1.length < 17592186044416
               ·rw [if_pos c27] at H
                have LMc27 := Ak c27
                clear c27
                obtain ⟨y112, hy112⟩ : ∃ y_ : List Int, y_ = (x3_1 ++ [x8_5]) := ⟨_, rfl⟩
                replace H : (spec_l1Read.l0 k5 l0 y112 (wrap64 (x4_1 + t105))) = some r := by rw [hy112]; exact H
                have Ny112 := Ak hy112
                clear hy112
                have H' := Ak H
                clear H
                go_wp2_with (first | ((with_reducible refine gate_builtin (b := .append) (xs := #[.tmp 90, .tmp 92]) rfl ?_); (try (refine gate_guard (by rfl) ?_; dsimp only)); at_builtin; refine Kd.R_append (Kd.int .i64) (w0 := w) w.heap.size rfl (.tmp 90) (.tmp 92) 28 3 (.int .i64 0) 8 rfl Tryd.underlying28 info3 rfl (by decide) (by omega) u3 x3_1 x8_5 [.int .i64 x8_5] (fun _ => True) (fun _ => False) rfl rfl ?aP (fun _ hk => hk.elim) ?aF ?aO ?aB ?aS ?aL ?_; (case aP => exact rfl); (case aB => exact (by repeat (first | exact HB.out | apply below_alloc | apply pw_below_drewN | apply below_drew1))); (case aF => exact (fun _ _ => trivial)); (case aO => exact HO_3.out); (case aS => exact (below_size (by repeat (first | exact HB.out | apply below_alloc | apply pw_below_drewN | apply below_drew1)))); (case aL => have := LMc27.out; omega); intro v113 w28 ho hb hg hat; rw [← Ny112.out] at ho; replace HO114 := Ak (ho); replace HB := Ak (hb); clear ho hb hg hat))
                go_roundg k5
                case measure => have := HK1.out; have := HJ6.out; have := HJ13.out; have := HJ18.out; have := HK5.out; omega
                case rel => exact ⟨(y112), (wrap64 (x4_1 + t105)), rfl, H', ⟨by have := HK1.out; have := HJ6.out; have := HJ13.out; have := HJ18.out; have := HK5.out; omega⟩, ⟨by (with_reducible repeat (first | apply Kd.R_alloc | apply Kd.R_drewN | apply Kd.R_drew)); exact HO114.out⟩, ⟨by repeat (first | exact HB.out | apply below_alloc | apply pw_below_drewN | apply below_drew1)⟩⟩
               ·rw [if_neg c27] at H
                exact absurd H (by simp)
    ·rw [if_neg c5] at H
     exact absurd H (by simp)
   ·rw [if_neg c4] at H
    have c4b0 := decide_eq_false c4
    clear c4
    obtain rfl := Oi H
    go_wp2
    go_ret
    exact ⟨_, rfl, by (with_reducible repeat (first | apply Kd.R_alloc | apply Kd.R_drewN | apply Kd.R_drew)); exact HO_3.out, by repeat (first | exact HB.out | apply below_alloc | apply pw_below_drewN | apply below_drew1)⟩
def spec_UtfRead.j0 : Nat → List Int → Bool → Option (List Int)
 | 0, _, _ => none
 | k + 1, x0, x27 => if x27 = true then (if 3 ≤ (x0.length : Int) then ((spec_l1Read.f k (x0.drop 3)).bind fun t108 => (some t108)) else (none)) else ((spec_l1Read.f k x0).bind fun t111 => (some t111))
def spec_UtfRead.f (k : Nat) (l0 : List Int) : Option (List Int) := if (l0.length : Int) > 3000 then (some (([] : List Int))) else (if (l0.length : Int) ≥ 3 then (if 0 < (l0.length : Int) then (if (rd l0 0) = 239 then (if 1 < (l0.length : Int) then (if (rd l0 1) = 187 then (if 2 < (l0.length : Int) then (spec_UtfRead.j0 k l0 ((rd l0 2) == 191)) else (none)) else (spec_UtfRead.j0 k l0 false)) else (none)) else (spec_UtfRead.j0 k l0 false)) else (none)) else (spec_UtfRead.j0 k l0 false))
theorem spec_UtfRead.mono_l : ∀ k, (∀ y0 y1, LeO (spec_UtfRead.j0 k y0 y1) (spec_UtfRead.j0 (k + 1) y0 y1))
 | 0 => fun _ _ r h => by simp [spec_UtfRead.j0] at h
 | k + 1 => by
  have ih0 := spec_UtfRead.mono_l k
  ·intro y0 y1
   unfold spec_UtfRead.j0
   repeat' (with_reducible first | exact ih0 _ _ | exact spec_l1Read.mono _ _ | exact LeO.refl _ | exact LeO.none _ | refine LeO.ite ?_ ?_ | refine LeO.bind ?_ (fun _ => ?_))
theorem spec_UtfRead.mono : ∀ a0 k, LeO (spec_UtfRead.f k a0) (spec_UtfRead.f (k + 1) a0) := by
 intro a0 k
 have ih0 := spec_UtfRead.mono_l k
 unfold spec_UtfRead.f
 repeat' (with_reducible first | exact ih0 _ _ | exact spec_l1Read.mono _ _ | exact LeO.refl _ | exact LeO.none _ | refine LeO.ite ?_ ?_ | refine LeO.bind ?_ (fun _ => ?_))
theorem spec_UtfRead.calls (k : Nat) (A0 : Option Addr) (c0 : Nat) (l0 : List Int) (r : List Int) (w : World) (hr0 : Kd.C (Kd.int .u8) w A0 l0.length l0) (hc0 : l0.length ≤ c0) (h : spec_UtfRead.f k l0 = some r) :
 Calls Tryd.prog 10 #[.slice A0 l0.length c0] w fun e w' => ∃ v0_ : Value, e = .returned (v0_) ∧ Kd.R (Kd.int .i64) 3 w' w.heap.size (fun _ => True) v0_ r ∧ Below w.heap.size w w' := by
 have HR0 := Ak hr0
 have HC0 := Ak hc0
 clear hr0 hc0
 have HB := Ak (Below.refl w.heap.size w)
 have H : (if (l0.length : Int) > 3000 then (some (([] : List Int))) else (if (l0.length : Int) ≥ 3 then (if 0 < (l0.length : Int) then (if (rd l0 0) = 239 then (if 1 < (l0.length : Int) then (if (rd l0 1) = 187 then (if 2 < (l0.length : Int) then (spec_UtfRead.j0 k l0 ((rd l0 2) == 191)) else (none)) else (spec_UtfRead.j0 k l0 false)) else (none)) else (spec_UtfRead.j0 k l0 false)) else (none)) else (spec_UtfRead.j0 k l0 false))) = some r := h
 clear h
 by_cases c2 : (l0.length : Int) > 3000
 ·rw [if_pos c2] at H
  have c2b0 : decide (3000 < (l0.length : Int)) = true := decide_eq_true c2
  have c2b1 : decide (3000 < l0.length) = true := decide_eq_true (by omega)
  clear c2
  obtain ⟨y101, hy101⟩ : ∃ y_ : List Int, y_ = (([] : List Int)) := ⟨_, rfl⟩
  replace H : (some y101) = some r := by rw [hy101]; exact H
  have Ny101 := Ak hy101
  clear hy101
  obtain rfl := Oi H
  go_enter Tryd.func10, Tryd.ntmps10
  go_wp2_with (first | ((with_reducible refine gate_dst (N := 6) rfl ?_); refine Kd.R_lit (Kd.int .i64) _ 3 ?hg (N := 6) ?hd (xs := ([] : List Int)) (inner := []) (ok := fun _ => True) (okp := fun _ => True) ?hr ?hp (fun _ hk => hk) trivial (Below.refl _ _) (Nat.le_refl _) (by simp) ?_; (case hd => rfl); (case hg => rfl); (case hr => first | (go_simp; done) | (go_simp; rfl)); (case hp => exact (Reps.none _ _)); intro v102 w3 ho4 hb hg_ hnew_; clear hg_ hnew_; (first | rw [← Ny101.out] at ho4 | (simp only [Int.reduceToNat] at ho4; rw [← Ny101.out] at ho4)); replace HO103 := Ak (Kd.R_lower ho4 (below_size (HB.out))); replace HB := Ak (below_step (HB.out) hb); clear hb ho4))
  go_ret
  exact ⟨_, rfl, by (with_reducible repeat (first | apply Kd.R_alloc | apply Kd.R_drewN | apply Kd.R_drew)); exact HO103.out, HB.out⟩
 ·rw [if_neg c2] at H
  have c2b0 : decide (3000 < (l0.length : Int)) = false := decide_eq_false c2
  have c2b1 : decide (3000 < l0.length) = false := decide_eq_false (by omega)
  clear c2
  have HC5 := Ak H
  clear H
  go_enter Tryd.func10, Tryd.ntmps10
  go_upto_region 3 with (fail)
  go_cut [27] (fun v27 wc => ∃ (kq : Nat) (x27_4 : Bool), v27 = .bool x27_4 ∧ Aside0 (spec_UtfRead.j0 kq l0 x27_4 = some r) ∧ Aside0 (kq ≤ k) ∧ Aside0 (Below w.heap.size w wc))
  case first =>
   have H := HC5.out
   clear HC5
   by_cases c6 : (l0.length : Int) ≥ 3
   ·rw [if_pos c6] at H
    have c6b0 : decide (3 ≤ (l0.length : Int)) = true := decide_eq_true c6
    have c6b1 : decide (3 ≤ l0.length) = true := decide_eq_true (by omega)
    clear c6
    (first | rw [c6b0] | (simp only [i64_w, i32_w]; rw [c6b0]) | skip)
    by_cases c7 : 0 < (l0.length : Int)
    ·rw [if_pos c7] at H
     have c7b0 := decide_eq_true c7
     have c7b1 : decide (0 < l0.length) = true := decide_eq_true (by omega)
     clear c7
     by_cases c8 : (rd l0 0) = 239
     ·rw [if_pos c8] at H
      have c8b0 := beq_iff_eq.mpr c8
      have c8b1 := bne_eq_false_iff_eq.mpr c8
      clear c8
      by_cases c9 : 1 < (l0.length : Int)
      ·rw [if_pos c9] at H
       have c9b0 := decide_eq_true c9
       have c9b1 : decide (1 < l0.length) = true := decide_eq_true (by omega)
       clear c9
       by_cases c10 : (rd l0 1) = 187
       ·rw [if_pos c10] at H
        have c10b0 := beq_iff_eq.mpr c10
        have c10b1 := bne_eq_false_iff_eq.mpr c10
        clear c10
        by_cases c11 : 2 < (l0.length : Int)
        ·rw [if_pos c11] at H
         have c11b0 := decide_eq_true c11
         have c11b1 : decide (2 < l0.length) = true := decide_eq_true (by omega)
         clear c11
         have H' := Ak H
         clear H
         have p104 : 0 ≤ (0 : Int) := (by omega)
         have q104 : 0 < (l0.length : Int) := of_decide_eq_true (by assumption)
         obtain ⟨ad104, e104, hx104_0⟩ := Kd.at_int HR0.out 0 p104 q104
         cases e104
         have qi104 : (0 < l0.length) = True := eq_true (by omega)
         (try rw [show ((0 : Int)).toNat = 0 from rfl] at hx104_0)
         (try rw [Addr.add_zero'] at hx104_0)
         replace hx104_0 := pw_cell_below HB.out hx104_0
         replace p104 := eq_true p104
         replace q104 := eq_true q104
         have p105 : 0 ≤ (1 : Int) := (by omega)
         have q105 : 1 < (l0.length : Int) := of_decide_eq_true (by assumption)
         obtain ⟨ad105, e105, hx105_0⟩ := Kd.at_int HR0.out 1 p105 q105
         obtain rfl : ad104 = ad105 := (by injection e105)
         (try simp only [show (1 : Int).toNat = 1 from rfl, Nat.reduceMul, Nat.reduceEqDiff, Go.Addr.add, ↓reduceIte] at hx105_0)
         have qi105 : (1 < l0.length) = True := eq_true (by omega)
         (try rw [show ((1 : Int)).toNat = 1 from rfl] at hx105_0)
         replace hx105_0 := pw_cell_below HB.out hx105_0
         replace p105 := eq_true p105
         replace q105 := eq_true q105
         have p106 : 0 ≤ (2 : Int) := (by omega)
         have q106 : 2 < (l0.length : Int) := of_decide_eq_true (by assumption)
         obtain ⟨ad106, e106, hx106_0⟩ := Kd.at_int HR0.out 2 p106 q106
         obtain rfl : ad104 = ad106 := (by injection e106)
         (try simp only [show (2 : Int).toNat = 2 from rfl, Nat.reduceMul, Nat.reduceEqDiff, Go.Addr.add, ↓reduceIte] at hx106_0)
         have qi106 : (2 < l0.length) = True := eq_true (by omega)
         (try rw [show ((2 : Int)).toNat = 2 from rfl] at hx106_0)
         replace hx106_0 := pw_cell_below HB.out hx106_0
         replace p106 := eq_true p106
         replace q106 := eq_true q106
         go_wp2
         go_meet
         case rel => exact ⟨_, (((rd l0 2) == 191)), rfl, H', ⟨by first | omega | exact Nat.le_refl _⟩, ⟨HB.out⟩⟩
        ·rw [if_neg c11] at H
         exact absurd H (by simp)
       ·rw [if_neg c10] at H
        have c10b0 := beq_eq_false_iff_ne.mpr c10
        have c10b1 := bne_iff_ne.mpr c10
        have H' := Ak H
        clear H
        have p104 : 0 ≤ (0 : Int) := (by omega)
        have q104 : 0 < (l0.length : Int) := of_decide_eq_true (by assumption)
        obtain ⟨ad104, e104, hx104_0⟩ := Kd.at_int HR0.out 0 p104 q104
        cases e104
        have qi104 : (0 < l0.length) = True := eq_true (by omega)
        (try rw [show ((0 : Int)).toNat = 0 from rfl] at hx104_0)
        (try rw [Addr.add_zero'] at hx104_0)
        replace hx104_0 := pw_cell_below HB.out hx104_0
        replace p104 := eq_true p104
        replace q104 := eq_true q104
        have p105 : 0 ≤ (1 : Int) := (by omega)
        have q105 : 1 < (l0.length : Int) := of_decide_eq_true (by assumption)
        obtain ⟨ad105, e105, hx105_0⟩ := Kd.at_int HR0.out 1 p105 q105
        obtain rfl : ad104 = ad105 := (by injection e105)
        (try simp only [show (1 : Int).toNat = 1 from rfl, Nat.reduceMul, Nat.reduceEqDiff, Go.Addr.add, ↓reduceIte] at hx105_0)
        have qi105 : (1 < l0.length) = True := eq_true (by omega)
        (try rw [show ((1 : Int)).toNat = 1 from rfl] at hx105_0)
        replace hx105_0 := pw_cell_below HB.out hx105_0
        replace p105 := eq_true p105
        replace q105 := eq_true q105
        go_wp2
        go_meet
        case rel => exact ⟨_, (false), rfl, H', ⟨by first | omega | exact Nat.le_refl _⟩, ⟨HB.out⟩⟩
      ·rw [if_neg c9] at H
       exact absurd H (by simp)
     ·rw [if_neg c8] at H
      have c8b0 := beq_eq_false_iff_ne.mpr c8
      have c8b1 := bne_iff_ne.mpr c8
      have H' := Ak H
      clear H
      have p104 : 0 ≤ (0 : Int) := (by omega)
      have q104 : 0 < (l0.length : Int) := of_decide_eq_true (by assumption)
      obtain ⟨ad104, e104, hx104_0⟩ := Kd.at_int HR0.out 0 p104 q104
      cases e104
      have qi104 : (0 < l0.length) = True := eq_true (by omega)
      (try rw [show ((0 : Int)).toNat = 0 from rfl] at hx104_0)
      (try rw [Addr.add_zero'] at hx104_0)
      replace hx104_0 := pw_cell_below HB.out hx104_0
      replace p104 := eq_true p104
      replace q104 := eq_true q104
      go_wp2
      go_meet
      case rel => exact ⟨_, (false), rfl, H', ⟨by first | omega | exact Nat.le_refl _⟩, ⟨HB.out⟩⟩
    ·rw [if_neg c7] at H
     exact absurd H (by simp)
   ·rw [if_neg c6] at H
    have c6b0 : decide (3 ≤ (l0.length : Int)) = false := decide_eq_false c6
    have c6b1 : decide (3 ≤ l0.length) = false := decide_eq_false (by omega)
    clear c6
    (first | rw [c6b0] | (simp only [i64_w, i32_w]; rw [c6b0]) | skip)
    have H' := Ak H
    clear H
    go_wp2
    go_meet
    case rel => exact ⟨_, (false), rfl, H', ⟨by first | omega | exact Nat.le_refl _⟩, ⟨HB.out⟩⟩
  case rest =>
   clear HC5
   obtain ⟨kq, x27_4, rfl, HA, HJ4, HB⟩ := hcut
   cases kq with
   | zero => exact absurd HA.out (by simp [spec_UtfRead.j0])
   | succ kj4 =>
    have H := HA.out
    clear HA
    simp only [spec_UtfRead.j0] at H
    by_cases c12 : x27_4 = true
    ·subst c12
     rw [if_pos rfl] at H
     by_cases c13 : 3 ≤ (l0.length : Int)
     ·rw [if_pos c13] at H
      have c13b0 := eq_true c13
      have c13b1 := decide_eq_true c13
      clear c13
      replace H := Ob H
      obtain ⟨t108, A140, H⟩ := H
      replace H : (some t108) = some r := H
      have A14 := Ak A140
      clear A140
      obtain rfl := Oi H
      obtain ⟨i015, hi015, _, hsz15, _⟩ := info_parts info5
      obtain ⟨A15, hcut15, hA15, hC15⟩ := print_drop_of (P := Tryd.prog) (Value.int .u8) 0 24 5 .i64 Tryd.underlying24 hi015 hsz15 A0 c0 l0 3 (by omega) (of_decide_eq_true (by assumption)) HC0.out
      have HR107 := Ak (Kd.C_of_reads (h1 := fun _ => rfl) (hA15 _ (Kd.reads_of_C HR0.out)))
      have HC107 := Ak hC15
      clear hA15 hC15 hi015 hsz15
      go_wp2_with (first | ((with_reducible refine gate_callee (f := 19) rfl ?_); refine goesL_ (some 30) rfl rfl Tryd.func19 (by kernel_rfl) rfl #[.slice A15 (l0.drop 3).length (c0 - 3)] rfl (by (try simp only [List.map_toArray, List.map_cons, List.map_nil]); first | done | (rw [show (l0.drop 3).length = (l0.length - 3) from List.length_drop] <;> rfl) | rfl | (simp only [List.length_drop, List.length_take]; rfl)) ?_; (with_reducible refine (spec_l1Read.calls kj4 _ _ (l0.drop 3) t108 _ ?side1 ?side2 A14.out).mono ?_); (case side1 => exact (Kd.C_below HR107.out HB.out)); (case side2 => exact HC107.out); rintro e w16 ⟨v109, rfl, ho0, hb⟩; refine ⟨_, rfl, ?_⟩; replace HO110 := Ak (Kd.R_lower ho0 (below_size (HB.out))); replace HB := Ak (below_step (HB.out) hb); (try clear hb); (try clear ho0)))
      go_ret
      exact ⟨_, rfl, by (with_reducible repeat (first | apply Kd.R_alloc | apply Kd.R_drewN | apply Kd.R_drew)); exact HO110.out, HB.out⟩
     ·rw [if_neg c13] at H
      exact absurd H (by simp)
    ·replace c12 := Bool.eq_false_iff.mpr c12
     subst c12
     rw [if_neg (show ¬ (false = true) by decide)] at H
     replace H := Ob H
     obtain ⟨t111, A170, H⟩ := H
     replace H : (some t111) = some r := H
     have A17 := Ak A170
     clear A170
     obtain rfl := Oi H
     go_wp2_with (first | (go_at_call 19; (with_reducible refine (spec_l1Read.calls kj4 _ _ l0 t111 _ ?side1 ?side2 A17.out).mono ?_); (case side1 => exact (Kd.C_below HR0.out HB.out)); (case side2 => exact HC0.out); rintro e w18 ⟨v112, rfl, ho0, hb⟩; replace HO113 := Ak (Kd.R_lower ho0 (below_size (HB.out))); replace HB := Ak (below_step (HB.out) hb); (try clear hb); (try clear ho0)))
     go_ret
     exact ⟨_, rfl, by (with_reducible repeat (first | apply Kd.R_alloc | apply Kd.R_drewN | apply Kd.R_drew)); exact HO113.out, HB.out⟩
def impl_inRange.f (a0 : Int) (a1 : Int) (a2 : Int) : Option (Bool) := if a0 ≥ a1 then (some (decide (a0 ≤ a2))) else (some false)
theorem impl_inRange.calls (a0 : Int) (a1 : Int) (a2 : Int) (r : Bool) (w : World) (h : impl_inRange.f a0 a1 a2 = some r) :
 Calls Tryd.prog 29 #[.int .i64 a0, .int .i64 a1, .int .i64 a2] w fun e w' => e = .returned (.bool r) ∧ Drawn0 w w' := by
 have H : (if a0 ≥ a1 then (some (decide (a0 ≤ a2))) else (some false)) = some r := h
 clear h
 by_cases c4 : a0 ≥ a1
 ·rw [if_pos c4] at H
  have c4b0 : decide (a1 ≤ a0) = true := decide_eq_true c4
  clear c4
  obtain rfl := Oi H
  go_enter Tryd.func29, Tryd.ntmps29
  go_wp2
  go_ret
  exact ⟨rfl, by repeat (first | exact Drawn0.refl _ | apply Drawn0.step)⟩
 ·rw [if_neg c4] at H
  have c4b0 : decide (a1 ≤ a0) = false := decide_eq_false c4
  clear c4
  obtain rfl := Oi H
  go_enter Tryd.func29, Tryd.ntmps29
  go_wp2
  go_ret
  exact ⟨rfl, by repeat (first | exact Drawn0.refl _ | apply Drawn0.step)⟩
def impl_pointAt.f (l0 : List Int) (a1 : Int) : Option (Int) := (impl_inRange.f a1 0 (wrap64 ((l0.length : Int) - 1))).bind fun t101 => (if t101 = true then (if 0 ≤ a1 then (if a1 < (l0.length : Int) then (some (rd l0 a1)) else (none)) else (none)) else (some (-1)))
theorem impl_pointAt.calls (A0 : Option Addr) (c0 : Nat) (l0 : List Int) (a1 : Int) (r : Int) (w : World) (hr0 : Kd.C (Kd.int .i64) w A0 l0.length l0) (hc0 : l0.length ≤ c0) (h : impl_pointAt.f l0 a1 = some r) :
 Calls Tryd.prog 20 #[.slice A0 l0.length c0, .int .i64 a1] w fun e w' => e = .returned (.int .i64 r) ∧ Drawn0 w w' := by
 have HR0 := Ak hr0
 have HC0 := Ak hc0
 clear hr0 hc0
 have H : ((impl_inRange.f a1 0 (wrap64 ((l0.length : Int) - 1))).bind fun t101 => (if t101 = true then (if 0 ≤ a1 then (if a1 < (l0.length : Int) then (some (rd l0 a1)) else (none)) else (none)) else (some (-1)))) = some r := h
 clear h
 replace H := Ob H
 obtain ⟨t101, A30, H⟩ := H
 replace H : (if t101 = true then (if 0 ≤ a1 then (if a1 < (l0.length : Int) then (some (rd l0 a1)) else (none)) else (none)) else (some (-1))) = some r := H
 have A3 := Ak A30
 clear A30
 by_cases c4 : t101 = true
 ·subst c4
  rw [if_pos rfl] at H
  by_cases c5 : 0 ≤ a1
  ·rw [if_pos c5] at H
   have c5b0 : decide (0 ≤ a1) = true := decide_eq_true c5
   clear c5
   by_cases c6 : a1 < (l0.length : Int)
   ·rw [if_pos c6] at H
    have c6b0 : decide (a1 < (l0.length : Int)) = true := decide_eq_true c6
    clear c6
    obtain rfl := Oi H
    go_enter Tryd.func20, Tryd.ntmps20
    go_wp2_with (first | ((with_reducible refine gate_callee (f := 29) rfl ?_); refine goesL_ (some 9) rfl rfl Tryd.func29 (by kernel_rfl) rfl #[.int .i64 a1, .int .i64 0, .int .i64 (wrap64 ((l0.length : Int) - 1))] rfl (by (try simp only [List.map_toArray, List.map_cons, List.map_nil]); first | done | rfl | (simp only [List.length_drop, List.length_take]; rfl)) ?_; (with_reducible refine (impl_inRange.calls a1 0 (wrap64 ((l0.length : Int) - 1)) true _ A3.out).mono ?_); rintro e w' ⟨rfl, ⟨nd, rfl⟩⟩; refine ⟨_, rfl, ?_⟩; have p102 : 0 ≤ (a1 : Int) := of_decide_eq_true (by assumption); have q102 : a1 < (l0.length : Int) := of_decide_eq_true (by assumption); obtain ⟨ad102, e102, hx102_0⟩ := Kd.at_int HR0.out a1 p102 q102; cases e102; replace p102 := eq_true p102; replace q102 := eq_true q102))
    go_ret
    exact ⟨by first | rfl | (simp; done) | (simp [*]; done), by repeat (first | exact Drawn0.refl _ | apply Drawn0.step)⟩
   ·rw [if_neg c6] at H
    exact absurd H (by simp)
  ·rw [if_neg c5] at H
   exact absurd H (by simp)
 ·replace c4 := Bool.eq_false_iff.mpr c4
  subst c4
  rw [if_neg (show ¬ (false = true) by decide)] at H
  obtain rfl := Oi H
  go_enter Tryd.func20, Tryd.ntmps20
  go_wp2_with (first | ((with_reducible refine gate_callee (f := 29) rfl ?_); refine goesL_ (some 9) rfl rfl Tryd.func29 (by kernel_rfl) rfl #[.int .i64 a1, .int .i64 0, .int .i64 (wrap64 ((l0.length : Int) - 1))] rfl (by (try simp only [List.map_toArray, List.map_cons, List.map_nil]); first | done | rfl | (simp only [List.length_drop, List.length_take]; rfl)) ?_; (with_reducible refine (impl_inRange.calls a1 0 (wrap64 ((l0.length : Int) - 1)) false _ A3.out).mono ?_); rintro e w' ⟨rfl, ⟨nd, rfl⟩⟩; refine ⟨_, rfl, ?_⟩))
  go_ret
  exact ⟨by first | rfl | (simp; done) | (simp [*]; done), by repeat (first | exact Drawn0.refl _ | apply Drawn0.step)⟩
def impl_LowerOf.f (a0 : Int) : Option (Int) := (impl_inRange.f a0 65 90).bind fun t101 => (if t101 = true then (some (wrap64 ((wrap64 (a0 - 65)) + 97))) else (some a0))
theorem impl_LowerOf.calls (a0 : Int) (r : Int) (w : World) (h : impl_LowerOf.f a0 = some r) :
 Calls Tryd.prog 30 #[.int .i64 a0] w fun e w' => e = .returned (.int .i64 r) ∧ Drawn0 w w' := by
 have H : ((impl_inRange.f a0 65 90).bind fun t101 => (if t101 = true then (some (wrap64 ((wrap64 (a0 - 65)) + 97))) else (some a0))) = some r := h
 clear h
 replace H := Ob H
 obtain ⟨t101, A20, H⟩ := H
 replace H : (if t101 = true then (some (wrap64 ((wrap64 (a0 - 65)) + 97))) else (some a0)) = some r := H
 have A2 := Ak A20
 clear A20
 by_cases c3 : t101 = true
 ·subst c3
  rw [if_pos rfl] at H
  obtain rfl := Oi H
  go_enter Tryd.func30, Tryd.ntmps30
  go_wp2_with (first | ((with_reducible refine gate_callee (f := 29) rfl ?_); refine goesL_ (some 4) rfl rfl Tryd.func29 (by kernel_rfl) rfl #[.int .i64 a0, .int .i64 65, .int .i64 90] rfl (by (try simp only [List.map_toArray, List.map_cons, List.map_nil]); first | done | rfl | (simp only [List.length_drop, List.length_take]; rfl)) ?_; (with_reducible refine (impl_inRange.calls a0 65 90 true _ A2.out).mono ?_); rintro e w' ⟨rfl, ⟨nd, rfl⟩⟩; refine ⟨_, rfl, ?_⟩))
  go_ret
  exact ⟨by first | rfl | (simp; done) | (simp [*]; done), by repeat (first | exact Drawn0.refl _ | apply Drawn0.step)⟩
 ·replace c3 := Bool.eq_false_iff.mpr c3
  subst c3
  rw [if_neg (show ¬ (false = true) by decide)] at H
  obtain rfl := Oi H
  go_enter Tryd.func30, Tryd.ntmps30
  go_wp2_with (first | ((with_reducible refine gate_callee (f := 29) rfl ?_); refine goesL_ (some 4) rfl rfl Tryd.func29 (by kernel_rfl) rfl #[.int .i64 a0, .int .i64 65, .int .i64 90] rfl (by (try simp only [List.map_toArray, List.map_cons, List.map_nil]); first | done | rfl | (simp only [List.length_drop, List.length_take]; rfl)) ?_; (with_reducible refine (impl_inRange.calls a0 65 90 false _ A2.out).mono ?_); rintro e w' ⟨rfl, ⟨nd, rfl⟩⟩; refine ⟨_, rfl, ?_⟩))
  go_ret
  exact ⟨by first | rfl | (simp; done) | (simp [*]; done), by repeat (first | exact Drawn0.refl _ | apply Drawn0.step)⟩
def impl_DigitOf.j0 : Nat → Int → Int → Bool → Option (Int)
 | 0, _, _, _ => none
 | k + 1, x0, x1, x11 => if x11 = true then (some (-1)) else ((impl_LowerOf.f x0).bind fun t101 => ((impl_inRange.f x0 48 57).bind fun t102 => (if t102 = true then (some (wrap64 (x0 - 48))) else (if x1 = 16 then ((impl_inRange.f t101 97 102).bind fun t103 => (if t103 = true then (some (wrap64 ((wrap64 (t101 - 97)) + 10))) else (some (-1)))) else (some (-1))))))
def impl_DigitOf.f (k : Nat) (a0 : Int) (a1 : Int) : Option (Int) := if a1 = 10 then (impl_DigitOf.j0 k a0 a1 false) else (impl_DigitOf.j0 k a0 a1 (a1 != 16))
theorem impl_DigitOf.mono_l : ∀ k, (∀ y0 y1 y2, LeO (impl_DigitOf.j0 k y0 y1 y2) (impl_DigitOf.j0 (k + 1) y0 y1 y2))
 | 0 => fun _ _ _ r h => by simp [impl_DigitOf.j0] at h
 | k + 1 => by
  have ih0 := impl_DigitOf.mono_l k
  ·intro y0 y1 y2
   unfold impl_DigitOf.j0
   repeat' first
   | (with_reducible exact ih0 _ _ _)
   | (with_reducible exact LeO.refl _)
   | (with_reducible exact LeO.none _)
   | (with_reducible refine LeO.ite ?_ ?_)
   | (with_reducible refine LeO.bind ?_ (fun _ => ?_))
   | exact ih0 _ _ _
   | exact LeO.none _
   | refine LeO.ite ?_ ?_
   | refine LeO.bind ?_ (fun _ => ?_)
theorem impl_DigitOf.mono : ∀ a0 a1 k, LeO (impl_DigitOf.f k a0 a1) (impl_DigitOf.f (k + 1) a0 a1) := by
 intro a0 a1 k
 have ih0 := impl_DigitOf.mono_l k
 unfold impl_DigitOf.f
 repeat' first
  | (with_reducible exact ih0 _ _ _)
  | (with_reducible exact LeO.refl _)
  | (with_reducible exact LeO.none _)
  | (with_reducible refine LeO.ite ?_ ?_)
  | (with_reducible refine LeO.bind ?_ (fun _ => ?_))
  | exact ih0 _ _ _
  | exact LeO.none _
  | refine LeO.ite ?_ ?_
  | refine LeO.bind ?_ (fun _ => ?_)
theorem impl_DigitOf.calls (k : Nat) (a0 : Int) (a1 : Int) (r : Int) (w : World) (h : impl_DigitOf.f k a0 a1 = some r) :
 Calls Tryd.prog 36 #[.int .i64 a0, .int .i64 a1] w fun e w' => e = .returned (.int .i64 r) ∧ Drawn0 w w' := by
 have H : (if a1 = 10 then (impl_DigitOf.j0 k a0 a1 false) else (impl_DigitOf.j0 k a0 a1 (a1 != 16))) = some r := h
 clear h
 have HC3 := Ak H
 clear H
 go_enter Tryd.func36, Tryd.ntmps36
 go_upto_region 1 with (fail)
 go_cut [11] (fun v11 wc => ∃ (kq : Nat) (x11_2 : Bool), v11 = .bool x11_2 ∧ Aside0 (impl_DigitOf.j0 kq a0 a1 x11_2 = some r) ∧ Aside0 (kq ≤ k) ∧ Drawn0 w wc)
 case first =>
  have H := HC3.out
  clear HC3
  by_cases c4 : a1 = 10
  ·rw [if_pos c4] at H
   have c4b0 : (a1 == 10) = true := beq_iff_eq.mpr c4
   have c4b1 : (a1 != 10) = false := bne_eq_false_iff_eq.mpr c4
   clear c4
   (first | rw [c4b0] | (simp only [i64_w, i32_w]; rw [c4b0]) | skip)
   have H' := Ak H
   clear H
   go_wp2
   go_meet
   case rel => exact ⟨_, (false), (by first | rfl | (simp; done) | (simp [*]; done)), H', ⟨by first | omega | exact Nat.le_refl _⟩, by repeat (first | exact Drawn0.refl _ | apply Drawn0.step)⟩
  ·rw [if_neg c4] at H
   have c4b0 : (a1 == 10) = false := beq_eq_false_iff_ne.mpr c4
   have c4b1 : (a1 != 10) = true := bne_iff_ne.mpr c4
   (first | rw [c4b0] | (simp only [i64_w, i32_w]; rw [c4b0]) | skip)
   have H' := Ak H
   clear H
   go_wp2
   go_meet
   case rel => exact ⟨_, ((a1 != 16)), (by first | rfl | (simp; done) | (simp [*]; done)), H', ⟨by first | omega | exact Nat.le_refl _⟩, by repeat (first | exact Drawn0.refl _ | apply Drawn0.step)⟩
 case rest =>
  clear HC3
  try clear p2
  try clear c3
  try clear c4
  try clear c4b0
  try clear c4b1
  obtain ⟨kq, x11_2, rfl, HA, HJ2, ⟨mc2, rfl⟩⟩ := hcut
  cases kq with
  | zero => exact absurd HA.out (by simp [impl_DigitOf.j0])
  | succ kj2 =>
   have H := HA.out
   clear HA
   simp only [impl_DigitOf.j0] at H
   by_cases c5 : x11_2 = true
   ·subst c5
    rw [if_pos rfl] at H
    obtain rfl := Oi H
    go_wp2
    go_ret
    exact ⟨by first | rfl | (simp; done) | (simp [*]; done), by repeat (first | exact Drawn0.refl _ | apply Drawn0.step)⟩
   ·replace c5 := Bool.eq_false_iff.mpr c5
    subst c5
    rw [if_neg (show ¬ (false = true) by decide)] at H
    replace H := Ob H
    obtain ⟨t101, A60, H⟩ := H
    replace H : ((impl_inRange.f a0 48 57).bind fun t102 => (if t102 = true then (some (wrap64 (a0 - 48))) else (if a1 = 16 then ((impl_inRange.f t101 97 102).bind fun t103 => (if t103 = true then (some (wrap64 ((wrap64 (t101 - 97)) + 10))) else (some (-1)))) else (some (-1))))) = some r := H
    have A6 := Ak A60
    clear A60
    replace H := Ob H
    obtain ⟨t102, A70, H⟩ := H
    replace H : (if t102 = true then (some (wrap64 (a0 - 48))) else (if a1 = 16 then ((impl_inRange.f t101 97 102).bind fun t103 => (if t103 = true then (some (wrap64 ((wrap64 (t101 - 97)) + 10))) else (some (-1)))) else (some (-1)))) = some r := H
    have A7 := Ak A70
    clear A70
    by_cases c8 : t102 = true
    ·subst c8
     rw [if_pos rfl] at H
     obtain rfl := Oi H
     go_wp2_with (first | ((with_reducible refine gate_callee (f := 30) rfl ?_); refine goesL_ (some 13) rfl rfl Tryd.func30 (by kernel_rfl) rfl #[.int .i64 a0] rfl (by (try simp only [List.map_toArray, List.map_cons, List.map_nil]); first | done | rfl | (simp only [List.length_drop, List.length_take]; rfl)) ?_; (with_reducible refine (impl_LowerOf.calls a0 t101 _ A6.out).mono ?_); rintro e w' ⟨rfl, ⟨nd, rfl⟩⟩; refine ⟨_, rfl, ?_⟩) | ((with_reducible refine gate_callee (f := 29) rfl ?_); refine goesL_ (some 16) rfl rfl Tryd.func29 (by kernel_rfl) rfl #[.int .i64 a0, .int .i64 48, .int .i64 57] rfl (by (try simp only [List.map_toArray, List.map_cons, List.map_nil]); first | done | rfl | (simp only [List.length_drop, List.length_take]; rfl)) ?_; (with_reducible refine (impl_inRange.calls a0 48 57 true _ A7.out).mono ?_); rintro e w' ⟨rfl, ⟨nd, rfl⟩⟩; refine ⟨_, rfl, ?_⟩))
     go_ret
     exact ⟨by first | rfl | (simp; done) | (simp [*]; done), by repeat (first | exact Drawn0.refl _ | apply Drawn0.step)⟩
    ·replace c8 := Bool.eq_false_iff.mpr c8
     subst c8
     rw [if_neg (show ¬ (false = true) by decide)] at H
     by_cases c9 : a1 = 16
     ·rw [if_pos c9] at H
      have c9b0 : (a1 == 16) = true := beq_iff_eq.mpr c9
      have c9b1 : (a1 != 16) = false := bne_eq_false_iff_eq.mpr c9
      clear c9
      replace H := Ob H
      obtain ⟨t103, A100, H⟩ := H
      replace H : (if t103 = true then (some (wrap64 ((wrap64 (t101 - 97)) + 10))) else (some (-1))) = some r := H
      have A10 := Ak A100
      clear A100
      by_cases c11 : t103 = true
      ·subst c11
       rw [if_pos rfl] at H
       obtain rfl := Oi H
       go_wp2_with (first | ((with_reducible refine gate_callee (f := 30) rfl ?_); refine goesL_ (some 13) rfl rfl Tryd.func30 (by kernel_rfl) rfl #[.int .i64 a0] rfl (by (try simp only [List.map_toArray, List.map_cons, List.map_nil]); first | done | rfl | (simp only [List.length_drop, List.length_take]; rfl)) ?_; (with_reducible refine (impl_LowerOf.calls a0 t101 _ A6.out).mono ?_); rintro e w' ⟨rfl, ⟨nd, rfl⟩⟩; refine ⟨_, rfl, ?_⟩) | ((with_reducible refine gate_callee (f := 29) rfl ?_); refine goesL_ (some 16) rfl rfl Tryd.func29 (by kernel_rfl) rfl #[.int .i64 a0, .int .i64 48, .int .i64 57] rfl (by (try simp only [List.map_toArray, List.map_cons, List.map_nil]); first | done | rfl | (simp only [List.length_drop, List.length_take]; rfl)) ?_; (with_reducible refine (impl_inRange.calls a0 48 57 false _ A7.out).mono ?_); rintro e w' ⟨rfl, ⟨nd, rfl⟩⟩; refine ⟨_, rfl, ?_⟩) | (go_at_call 29; (with_reducible refine (impl_inRange.calls t101 97 102 true _ A10.out).mono ?_); rintro e w' ⟨rfl, ⟨nd, rfl⟩⟩))
       go_ret
       exact ⟨by first | rfl | (simp; done) | (simp [*]; done), by repeat (first | exact Drawn0.refl _ | apply Drawn0.step)⟩
      ·replace c11 := Bool.eq_false_iff.mpr c11
       subst c11
       rw [if_neg (show ¬ (false = true) by decide)] at H
       obtain rfl := Oi H
       go_wp2_with (first | ((with_reducible refine gate_callee (f := 30) rfl ?_); refine goesL_ (some 13) rfl rfl Tryd.func30 (by kernel_rfl) rfl #[.int .i64 a0] rfl (by (try simp only [List.map_toArray, List.map_cons, List.map_nil]); first | done | rfl | (simp only [List.length_drop, List.length_take]; rfl)) ?_; (with_reducible refine (impl_LowerOf.calls a0 t101 _ A6.out).mono ?_); rintro e w' ⟨rfl, ⟨nd, rfl⟩⟩; refine ⟨_, rfl, ?_⟩) | ((with_reducible refine gate_callee (f := 29) rfl ?_); refine goesL_ (some 16) rfl rfl Tryd.func29 (by kernel_rfl) rfl #[.int .i64 a0, .int .i64 48, .int .i64 57] rfl (by (try simp only [List.map_toArray, List.map_cons, List.map_nil]); first | done | rfl | (simp only [List.length_drop, List.length_take]; rfl)) ?_; (with_reducible refine (impl_inRange.calls a0 48 57 false _ A7.out).mono ?_); rintro e w' ⟨rfl, ⟨nd, rfl⟩⟩; refine ⟨_, rfl, ?_⟩) | (go_at_call 29; (with_reducible refine (impl_inRange.calls t101 97 102 false _ A10.out).mono ?_); rintro e w' ⟨rfl, ⟨nd, rfl⟩⟩))
       go_ret
       exact ⟨by first | rfl | (simp; done) | (simp [*]; done), by repeat (first | exact Drawn0.refl _ | apply Drawn0.step)⟩
     ·rw [if_neg c9] at H
      have c9b0 : (a1 == 16) = false := beq_eq_false_iff_ne.mpr c9
      have c9b1 : (a1 != 16) = true := bne_iff_ne.mpr c9
      obtain rfl := Oi H
      go_wp2_with (first | ((with_reducible refine gate_callee (f := 30) rfl ?_); refine goesL_ (some 13) rfl rfl Tryd.func30 (by kernel_rfl) rfl #[.int .i64 a0] rfl (by (try simp only [List.map_toArray, List.map_cons, List.map_nil]); first | done | rfl | (simp only [List.length_drop, List.length_take]; rfl)) ?_; (with_reducible refine (impl_LowerOf.calls a0 t101 _ A6.out).mono ?_); rintro e w' ⟨rfl, ⟨nd, rfl⟩⟩; refine ⟨_, rfl, ?_⟩) | ((with_reducible refine gate_callee (f := 29) rfl ?_); refine goesL_ (some 16) rfl rfl Tryd.func29 (by kernel_rfl) rfl #[.int .i64 a0, .int .i64 48, .int .i64 57] rfl (by (try simp only [List.map_toArray, List.map_cons, List.map_nil]); first | done | rfl | (simp only [List.length_drop, List.length_take]; rfl)) ?_; (with_reducible refine (impl_inRange.calls a0 48 57 false _ A7.out).mono ?_); rintro e w' ⟨rfl, ⟨nd, rfl⟩⟩; refine ⟨_, rfl, ?_⟩))
      go_ret
      exact ⟨by first | rfl | (simp; done) | (simp [*]; done), by repeat (first | exact Drawn0.refl _ | apply Drawn0.step)⟩
mutual
def impl_readDigits.l0 : Nat → List Int → Int → Int → Int → Int → Option (Int × Int)
 | 0, _, _, _, _, _ => none
 | k + 1, x0, x1, x2, x8, x9 => (impl_pointAt.f x0 x1).bind fun t101 => ((impl_DigitOf.f k t101 x2).bind fun t102 => (if t102 ≥ 0 then (if 0 ≤ x1 then (if x1 < (x0.length : Int) then ((impl_DigitOf.f k (rd x0 x1) x2).bind fun t104 => (if x9 > 0 then (impl_readDigits.j1 k x0 x1 x2 x8 x9 t104 true) else (impl_readDigits.j1 k x0 x1 x2 x8 x9 t104 (decide (t104 > 0))))) else (none)) else (none)) else (some (x8, x1))))
def impl_readDigits.j1 : Nat → List Int → Int → Int → Int → Int → Int → Bool → Option (Int × Int)
 | 0, _, _, _, _, _, _, _ => none
 | k + 1, x0, x1, x2, x8, x9, x10, x28 => if x28 = true then (if (wrap64 (x9 + 1)) > 7 then (impl_readDigits.l0 k x0 (wrap64 (x1 + 1)) x2 1114112 (wrap64 (x9 + 1))) else (impl_readDigits.l0 k x0 (wrap64 (x1 + 1)) x2 (wrap64 ((wrap64 (x8 * x2)) + x10)) (wrap64 (x9 + 1)))) else (if x9 > 7 then (impl_readDigits.l0 k x0 (wrap64 (x1 + 1)) x2 1114112 x9) else (impl_readDigits.l0 k x0 (wrap64 (x1 + 1)) x2 (wrap64 ((wrap64 (x8 * x2)) + x10)) x9))
end
def impl_readDigits.f (k : Nat) (l0 : List Int) (a1 : Int) (a2 : Int) : Option (Int × Int) := impl_readDigits.l0 k l0 a1 a2 0 0
theorem impl_readDigits.mono_l : ∀ k, (∀ y0 y1 y2 y3 y4, LeO (impl_readDigits.l0 k y0 y1 y2 y3 y4) (impl_readDigits.l0 (k + 1) y0 y1 y2 y3 y4)) ∧ (∀ y0 y1 y2 y3 y4 y5 y6, LeO (impl_readDigits.j1 k y0 y1 y2 y3 y4 y5 y6) (impl_readDigits.j1 (k + 1) y0 y1 y2 y3 y4 y5 y6))
 | 0 => ⟨fun _ _ _ _ _ r h => by simp [impl_readDigits.l0] at h, fun _ _ _ _ _ _ _ r h => by simp [impl_readDigits.j1] at h⟩
 | k + 1 => by
  obtain ⟨ih0, ih1⟩ := impl_readDigits.mono_l k
  refine ⟨?_, ?_⟩
  ·intro y0 y1 y2 y3 y4
   unfold impl_readDigits.l0
   repeat' first
   | (with_reducible exact ih0 _ _ _ _ _)
   | (with_reducible exact ih1 _ _ _ _ _ _ _)
   | (with_reducible exact impl_DigitOf.mono _ _ _)
   | (with_reducible exact LeO.refl _)
   | (with_reducible exact LeO.none _)
   | (with_reducible refine LeO.ite ?_ ?_)
   | (with_reducible refine LeO.bind ?_ (fun _ => ?_))
   | exact ih0 _ _ _ _ _
   | exact ih1 _ _ _ _ _ _ _
   | exact impl_DigitOf.mono _ _ _
   | exact LeO.none _
   | refine LeO.ite ?_ ?_
   | refine LeO.bind ?_ (fun _ => ?_)
  ·intro y0 y1 y2 y3 y4 y5 y6
   unfold impl_readDigits.j1
   repeat' first
   | (with_reducible exact ih0 _ _ _ _ _)
   | (with_reducible exact ih1 _ _ _ _ _ _ _)
   | (with_reducible exact impl_DigitOf.mono _ _ _)
   | (with_reducible exact LeO.refl _)
   | (with_reducible exact LeO.none _)
   | (with_reducible refine LeO.ite ?_ ?_)
   | (with_reducible refine LeO.bind ?_ (fun _ => ?_))
   | exact ih0 _ _ _ _ _
   | exact ih1 _ _ _ _ _ _ _
   | exact impl_DigitOf.mono _ _ _
   | exact LeO.none _
   | refine LeO.ite ?_ ?_
   | refine LeO.bind ?_ (fun _ => ?_)
theorem impl_readDigits.mono : ∀ a0 a1 a2 k, LeO (impl_readDigits.f k a0 a1 a2) (impl_readDigits.f (k + 1) a0 a1 a2) := by
 intro a0 a1 a2 k
 obtain ⟨ih0, ih1⟩ := impl_readDigits.mono_l k
 unfold impl_readDigits.f
 repeat' first
  | (with_reducible exact ih0 _ _ _ _ _)
  | (with_reducible exact ih1 _ _ _ _ _ _ _)
  | (with_reducible exact impl_DigitOf.mono _ _ _)
  | (with_reducible exact LeO.refl _)
  | (with_reducible exact LeO.none _)
  | (with_reducible refine LeO.ite ?_ ?_)
  | (with_reducible refine LeO.bind ?_ (fun _ => ?_))
  | exact ih0 _ _ _ _ _
  | exact ih1 _ _ _ _ _ _ _
  | exact impl_DigitOf.mono _ _ _
  | exact LeO.none _
  | refine LeO.ite ?_ ?_
  | refine LeO.bind ?_ (fun _ => ?_)
theorem impl_readDigits.calls (k : Nat) (A0 : Option Addr) (c0 : Nat) (l0 : List Int) (a1 : Int) (a2 : Int) (r1 : Int) (r2 : Int) (w : World) (hr0 : Kd.C (Kd.int .i64) w A0 l0.length l0) (hc0 : l0.length ≤ c0) (h : impl_readDigits.f k l0 a1 a2 = some (r1, r2)) :
 Calls Tryd.prog 31 #[.slice A0 l0.length c0, .int .i64 a1, .int .i64 a2] w fun e w' => e = .returned (.tuple #[.int .i64 r1, .int .i64 r2]) ∧ Drawn0 w w' := by
 have HR0 := Ak hr0
 have HC0 := Ak hc0
 clear hr0 hc0
 have H : (impl_readDigits.l0 k l0 a1 a2 0 0) = some (r1, r2) := h
 clear h
 have H' := Ak H
 clear H
 go_enter Tryd.func31, Tryd.ntmps31
 go_wp2
 go_loopg [1, 8, 9] k (fun kq v1 v8 v9 w' => ∃ (x1_1 : Int) (x8_1 : Int) (x9_1 : Int), v1 = .int .i64 x1_1 ∧ v8 = .int .i64 x8_1 ∧ v9 = .int .i64 x9_1 ∧ Aside0 (impl_readDigits.l0 kq l0 x1_1 a2 x8_1 x9_1 = some (r1, r2)) ∧ Aside0 (kq ≤ k) ∧ Drawn0 w w')
 case atStart => exact ⟨(a1), (0), (0), (by first | rfl | (simp; done) | (simp [*]; done)), (by first | rfl | (simp; done) | (simp [*]; done)), (by first | rfl | (simp; done) | (simp [*]; done)), H', ⟨Nat.le_refl _⟩, by repeat (first | exact Drawn0.refl _ | apply Drawn0.step)⟩
 case round =>
  clear H'
  try clear p2
  try clear c3
  obtain ⟨x1_1, x8_1, x9_1, rfl, rfl, rfl, HA, HK1, ⟨m1, rfl⟩⟩ := hrel
  cases gk with
  | zero => exact absurd HA.out (by simp [impl_readDigits.l0])
  | succ k1 =>
   have H := HA.out
   clear HA
   simp only [impl_readDigits.l0] at H
   replace H := Ob H
   obtain ⟨t101, A40, H⟩ := H
   replace H : ((impl_DigitOf.f k1 t101 a2).bind fun t102 => (if t102 ≥ 0 then (if 0 ≤ x1_1 then (if x1_1 < (l0.length : Int) then ((impl_DigitOf.f k1 (rd l0 x1_1) a2).bind fun t104 => (if x9_1 > 0 then (impl_readDigits.j1 k1 l0 x1_1 a2 x8_1 x9_1 t104 true) else (impl_readDigits.j1 k1 l0 x1_1 a2 x8_1 x9_1 t104 (decide (t104 > 0))))) else (none)) else (none)) else (some (x8_1, x1_1)))) = some (r1, r2) := H
   have A4 := Ak A40
   clear A40
   replace H := Ob H
   obtain ⟨t102, A50, H⟩ := H
   replace H : (if t102 ≥ 0 then (if 0 ≤ x1_1 then (if x1_1 < (l0.length : Int) then ((impl_DigitOf.f k1 (rd l0 x1_1) a2).bind fun t104 => (if x9_1 > 0 then (impl_readDigits.j1 k1 l0 x1_1 a2 x8_1 x9_1 t104 true) else (impl_readDigits.j1 k1 l0 x1_1 a2 x8_1 x9_1 t104 (decide (t104 > 0))))) else (none)) else (none)) else (some (x8_1, x1_1))) = some (r1, r2) := H
   have A5 := Ak A50
   clear A50
   by_cases c6 : t102 ≥ 0
   ·rw [if_pos c6] at H
    have c6b0 : decide (0 ≤ t102) = true := decide_eq_true c6
    clear c6
    by_cases c7 : 0 ≤ x1_1
    ·rw [if_pos c7] at H
     have c7b0 : decide (0 ≤ x1_1) = true := decide_eq_true c7
     clear c7
     by_cases c8 : x1_1 < (l0.length : Int)
     ·rw [if_pos c8] at H
      have c8b0 : decide (x1_1 < (l0.length : Int)) = true := decide_eq_true c8
      clear c8
      replace H := Ob H
      obtain ⟨t104, A90, H⟩ := H
      replace H : (if x9_1 > 0 then (impl_readDigits.j1 k1 l0 x1_1 a2 x8_1 x9_1 t104 true) else (impl_readDigits.j1 k1 l0 x1_1 a2 x8_1 x9_1 t104 (decide (t104 > 0)))) = some (r1, r2) := H
      have A9 := Ak A90
      clear A90
      have HC10 := Ak H
      clear H
      go_upto_region 4 with (first | ((with_reducible refine gate_callee (f := 20) rfl ?_); refine goesL_ (some 13) rfl rfl Tryd.func20 (by kernel_rfl) rfl #[.slice A0 l0.length c0, .int .i64 x1_1] rfl (by (try simp only [List.map_toArray, List.map_cons, List.map_nil]); first | done | rfl | (simp only [List.length_drop, List.length_take]; rfl)) ?_; (with_reducible refine (impl_pointAt.calls _ _ l0 x1_1 t101 _ ?side1 ?side2 A4.out).mono ?_); (case side1 => repeat (first | exact HR0.out | (with_reducible refine Kd.C_alloc ?_ _) | (with_reducible refine Kd.C_drewN ?_ _) | (with_reducible refine Kd.C_drew ?_))); (case side2 => exact HC0.out); rintro e w' ⟨rfl, ⟨nd, rfl⟩⟩; refine ⟨_, rfl, ?_⟩) | ((with_reducible refine gate_callee (f := 36) rfl ?_); refine goesL_ (some 15) rfl rfl Tryd.func36 (by kernel_rfl) rfl #[.int .i64 t101, .int .i64 a2] rfl (by (try simp only [List.map_toArray, List.map_cons, List.map_nil]); first | done | rfl | (simp only [List.length_drop, List.length_take]; rfl)) ?_; (with_reducible refine (impl_DigitOf.calls k1 t101 a2 t102 _ A5.out).mono ?_); rintro e w' ⟨rfl, ⟨nd, rfl⟩⟩; refine ⟨_, rfl, ?_⟩; have p103 : 0 ≤ (x1_1 : Int) := of_decide_eq_true (by assumption); have q103 : x1_1 < (l0.length : Int) := of_decide_eq_true (by assumption); obtain ⟨ad103, e103, hx103_0⟩ := Kd.at_int HR0.out x1_1 p103 q103; cases e103; replace p103 := eq_true p103; replace q103 := eq_true q103) | ((with_reducible refine gate_callee (f := 36) rfl ?_); refine goesL_ (some 22) rfl rfl Tryd.func36 (by kernel_rfl) rfl #[.int .i64 (rd l0 x1_1), .int .i64 a2] rfl (by (try simp only [List.map_toArray, List.map_cons, List.map_nil]); first | done | rfl | (simp only [List.length_drop, List.length_take]; rfl)) ?_; (with_reducible refine (impl_DigitOf.calls k1 (rd l0 x1_1) a2 t104 _ A9.out).mono ?_); rintro e w' ⟨rfl, ⟨nd, rfl⟩⟩; refine ⟨_, rfl, ?_⟩))
      (try simp only [Act.put, List.setIfInBounds_toArray, List.set_cons_zero, List.set_cons_succ])
      go_cut [28] (fun v28 wc => ∃ (kq : Nat) (x28_9 : Bool), v28 = .bool x28_9 ∧ Aside0 (impl_readDigits.j1 kq l0 x1_1 a2 x8_1 x9_1 t104 x28_9 = some (r1, r2)) ∧ Aside0 (kq ≤ k1) ∧ Drawn0 w wc)
      case first =>
       have H := HC10.out
       clear HC10
       by_cases c11 : x9_1 > 0
       ·rw [if_pos c11] at H
        have c11b0 : decide (0 < x9_1) = true := decide_eq_true c11
        clear c11
        (first | rw [c11b0] | (simp only [i64_w, i32_w]; rw [c11b0]) | skip)
        have H' := Ak H
        clear H
        go_wp2
        go_meet
        case rel => exact ⟨_, (true), (by first | rfl | (simp; done) | (simp [*]; done)), H', ⟨by have := HK1.out; first | omega | exact Nat.le_refl _⟩, by repeat (first | exact Drawn0.refl _ | apply Drawn0.step)⟩
       ·rw [if_neg c11] at H
        have c11b0 : decide (0 < x9_1) = false := decide_eq_false c11
        clear c11
        (first | rw [c11b0] | (simp only [i64_w, i32_w]; rw [c11b0]) | skip)
        have H' := Ak H
        clear H
        go_wp2
        go_meet
        case rel => exact ⟨_, (decide (t104 > 0)), (by first | rfl | (simp; done) | (simp [*]; done)), H', ⟨by have := HK1.out; first | omega | exact Nat.le_refl _⟩, by repeat (first | exact Drawn0.refl _ | apply Drawn0.step)⟩
      case rest =>
       clear HC10
       try clear c1
       try clear p1
       try clear q1
       try clear hx1
       try clear c2
       try clear p2
       try clear c3
       try clear c6
       try clear c6b0
       try clear c7
       try clear c7b0
       try clear c8
       try clear c8b0
       try clear p10
       try clear q10
       try clear hx10
       try clear c11
       try clear c11b0
       try clear hx103_0
       try clear p103
       try clear p2
       try clear q103
       obtain ⟨kq, x28_9, rfl, HA, HJ9, ⟨mc9, rfl⟩⟩ := hcut
       cases kq with
       | zero => exact absurd HA.out (by simp [impl_readDigits.j1])
       | succ kj9 =>
        have H := HA.out
        clear HA
        simp only [impl_readDigits.j1] at H
        by_cases c12 : x28_9 = true
        ·subst c12
         rw [if_pos rfl] at H
         by_cases c13 : (wrap64 (x9_1 + 1)) > 7
         ·rw [if_pos c13] at H
          have c13b0 : decide (7 < (wrap64 (x9_1 + 1))) = true := decide_eq_true c13
          clear c13
          have H' := Ak H
          clear H
          go_wp2
          go_roundg kj9
          case measure => have := HK1.out; have := HJ9.out; omega
          case rel => exact ⟨(wrap64 (x1_1 + 1)), (1114112), (wrap64 (x9_1 + 1)), (by first | rfl | (simp; done) | (simp [*]; done)), (by first | rfl | (simp; done) | (simp [*]; done)), (by first | rfl | (simp; done) | (simp [*]; done)), H', ⟨by have := HK1.out; have := HJ9.out; omega⟩, by repeat (first | exact Drawn0.refl _ | apply Drawn0.step)⟩
         ·rw [if_neg c13] at H
          have c13b0 : decide (7 < (wrap64 (x9_1 + 1))) = false := decide_eq_false c13
          clear c13
          have H' := Ak H
          clear H
          go_wp2
          go_roundg kj9
          case measure => have := HK1.out; have := HJ9.out; omega
          case rel => exact ⟨(wrap64 (x1_1 + 1)), (wrap64 ((wrap64 (x8_1 * a2)) + t104)), (wrap64 (x9_1 + 1)), (by first | rfl | (simp; done) | (simp [*]; done)), (by first | rfl | (simp; done) | (simp [*]; done)), (by first | rfl | (simp; done) | (simp [*]; done)), H', ⟨by have := HK1.out; have := HJ9.out; omega⟩, by repeat (first | exact Drawn0.refl _ | apply Drawn0.step)⟩
        ·replace c12 := Bool.eq_false_iff.mpr c12
         subst c12
         rw [if_neg (show ¬ (false = true) by decide)] at H
         by_cases c14 : x9_1 > 7
         ·rw [if_pos c14] at H
          have c14b0 : decide (7 < x9_1) = true := decide_eq_true c14
          clear c14
          have H' := Ak H
          clear H
          go_wp2
          go_roundg kj9
          case measure => have := HK1.out; have := HJ9.out; omega
          case rel => exact ⟨(wrap64 (x1_1 + 1)), (1114112), (x9_1), (by first | rfl | (simp; done) | (simp [*]; done)), (by first | rfl | (simp; done) | (simp [*]; done)), (by first | rfl | (simp; done) | (simp [*]; done)), H', ⟨by have := HK1.out; have := HJ9.out; omega⟩, by repeat (first | exact Drawn0.refl _ | apply Drawn0.step)⟩
         ·rw [if_neg c14] at H
          have c14b0 : decide (7 < x9_1) = false := decide_eq_false c14
          clear c14
          have H' := Ak H
          clear H
          go_wp2
          go_roundg kj9
          case measure => have := HK1.out; have := HJ9.out; omega
          case rel => exact ⟨(wrap64 (x1_1 + 1)), (wrap64 ((wrap64 (x8_1 * a2)) + t104)), (x9_1), (by first | rfl | (simp; done) | (simp [*]; done)), (by first | rfl | (simp; done) | (simp [*]; done)), (by first | rfl | (simp; done) | (simp [*]; done)), H', ⟨by have := HK1.out; have := HJ9.out; omega⟩, by repeat (first | exact Drawn0.refl _ | apply Drawn0.step)⟩
     ·rw [if_neg c8] at H
      exact absurd H (by simp)
    ·rw [if_neg c7] at H
     exact absurd H (by simp)
   ·rw [if_neg c6] at H
    have c6b0 : decide (0 ≤ t102) = false := decide_eq_false c6
    clear c6
    simp only [Option.some.injEq, Prod.mk.injEq] at H
    obtain ⟨rfl, rfl⟩ := H
    go_wp2_with (first | ((with_reducible refine gate_callee (f := 20) rfl ?_); refine goesL_ (some 13) rfl rfl Tryd.func20 (by kernel_rfl) rfl #[.slice A0 l0.length c0, .int .i64 x1_1] rfl (by (try simp only [List.map_toArray, List.map_cons, List.map_nil]); first | done | rfl | (simp only [List.length_drop, List.length_take]; rfl)) ?_; (with_reducible refine (impl_pointAt.calls _ _ l0 x1_1 t101 _ ?side1 ?side2 A4.out).mono ?_); (case side1 => repeat (first | exact HR0.out | (with_reducible refine Kd.C_alloc ?_ _) | (with_reducible refine Kd.C_drewN ?_ _) | (with_reducible refine Kd.C_drew ?_))); (case side2 => exact HC0.out); rintro e w' ⟨rfl, ⟨nd, rfl⟩⟩; refine ⟨_, rfl, ?_⟩) | ((with_reducible refine gate_callee (f := 36) rfl ?_); refine goesL_ (some 15) rfl rfl Tryd.func36 (by kernel_rfl) rfl #[.int .i64 t101, .int .i64 a2] rfl (by (try simp only [List.map_toArray, List.map_cons, List.map_nil]); first | done | rfl | (simp only [List.length_drop, List.length_take]; rfl)) ?_; (with_reducible refine (impl_DigitOf.calls k1 t101 a2 t102 _ A5.out).mono ?_); rintro e w' ⟨rfl, ⟨nd, rfl⟩⟩; refine ⟨_, rfl, ?_⟩))
    go_ret2
    exact ⟨by first | rfl | (simp; done) | (simp [*]; done), by repeat (first | exact Drawn0.refl _ | apply Drawn0.step)⟩
def refTab : List Int := [8364, 129, 8218, 402, 8222, 8230, 8224, 8225, 710, 8240, 352, 8249, 338, 141, 381, 143, 144, 8216, 8217, 8220, 8221, 8226, 8211, 8212, 732, 8482, 353, 8250, 339, 157, 382, 376]
def impl_RefNumber.f (a0 : Int) : Option (Int) := some (if a0 = 0 ∨ a0 < 0 ∨ 1114111 < a0 ∨ (55296 ≤ a0 ∧ a0 ≤ 57343) then 65533 else if 128 ≤ a0 ∧ a0 ≤ 159 then refTab.getD (a0 - 128).toNat 0 else a0)
theorem refTab_index (a0 : Int) (h1 : 128 ≤ a0) (h2 : a0 ≤ 159) (W : World) :
 Sem.run Tryd.prog (Instr.index 75 (.agg #[.int .i64 8364, .int .i64 129, .int .i64 8218, .int .i64 402, .int .i64 8222, .int .i64 8230, .int .i64 8224, .int .i64 8225, .int .i64 710, .int .i64 8240, .int .i64 352, .int .i64 8249, .int .i64 338, .int .i64 141, .int .i64 381, .int .i64 143, .int .i64 144, .int .i64 8216, .int .i64 8217, .int .i64 8220, .int .i64 8221, .int .i64 8226, .int .i64 8211, .int .i64 8212, .int .i64 732, .int .i64 8482, .int .i64 353, .int .i64 8250, .int .i64 339, .int .i64 157, .int .i64 382, .int .i64 376]) (.int .i64 (a0 - 128))) W = .ok (.int .i64 (refTab.getD (a0 - 128).toNat 0)) W := by
 have h : a0 = 128 ∨ a0 = 129 ∨ a0 = 130 ∨ a0 = 131 ∨ a0 = 132 ∨ a0 = 133 ∨ a0 = 134 ∨ a0 = 135 ∨ a0 = 136 ∨ a0 = 137 ∨ a0 = 138 ∨ a0 = 139 ∨ a0 = 140 ∨ a0 = 141 ∨ a0 = 142 ∨ a0 = 143 ∨ a0 = 144 ∨ a0 = 145 ∨ a0 = 146 ∨ a0 = 147 ∨ a0 = 148 ∨ a0 = 149 ∨ a0 = 150 ∨ a0 = 151 ∨ a0 = 152 ∨ a0 = 153 ∨ a0 = 154 ∨ a0 = 155 ∨ a0 = 156 ∨ a0 = 157 ∨ a0 = 158 ∨ a0 = 159 := by omega
 rcases h with h | h | h | h | h | h | h | h | h | h | h | h | h | h | h | h | h | h | h | h | h | h | h | h | h | h | h | h | h | h | h | h <;> subst h <;> rfl
theorem impl_RefNumber.calls (a0 : Int) (r : Int) (w : World) (h : impl_RefNumber.f a0 = some r) :
 Calls Tryd.prog 32 #[.int .i64 a0] w fun e w' => e = .returned (.int .i64 r) ∧ Drawn0 w w' := by
 unfold impl_RefNumber.f at h
 have H := Oi h
 clear h
 by_cases h0 : a0 = 0
 ·rw [if_pos (.inl h0)] at H
  subst H
  have b0 : (a0 == 0) = true := by simpa using h0
  clear h0
  go_enter Tryd.func32, Tryd.ntmps32
  go_wp2
  go_ret
  exact ⟨rfl, Drawn0.refl _⟩
 have b0 : (a0 == 0) = false := by simpa using h0
 by_cases h1 : a0 < 0
 ·rw [if_pos (.inr (.inl h1))] at H
  subst H
  have b1 : decide (0 ≤ a0) = false := by simpa using h1
  clear h1 h0
  go_enter Tryd.func32, Tryd.ntmps32
  go_wp2
  go_ret
  exact ⟨rfl, Drawn0.refl _⟩
 have b1 : decide (0 ≤ a0) = true := by simp; omega
 by_cases h2 : 1114111 < a0
 ·rw [if_pos (.inr (.inr (.inl h2)))] at H
  subst H
  have b2 : decide (a0 ≤ 1114111) = false := by simp; omega
  clear h1 h0 h2
  go_enter Tryd.func32, Tryd.ntmps32
  go_wp2
  go_ret
  exact ⟨rfl, Drawn0.refl _⟩
 have b2 : decide (a0 ≤ 1114111) = true := by simp; omega
 by_cases h3 : 55296 ≤ a0 ∧ a0 ≤ 57343
 ·rw [if_pos (.inr (.inr (.inr h3)))] at H
  subst H
  have b3 : decide (55296 ≤ a0) = true := by simp; omega
  have b4 : decide (a0 ≤ 57343) = true := by simp; omega
  clear h1 h0 h2 h3
  go_enter Tryd.func32, Tryd.ntmps32
  go_wp2
  go_ret
  exact ⟨rfl, Drawn0.refl _⟩
 rw [if_neg (by omega)] at H
 by_cases h4 : 128 ≤ a0
 ·by_cases h5 : a0 ≤ 159
  ·rw [if_pos ⟨h4, h5⟩] at H
   subst H
   have b3 : decide (55296 ≤ a0) = false := by simp; omega
   have b5 : decide (128 ≤ a0) = true := by simp; omega
   have b6 : decide (a0 ≤ 159) = true := by simp; omega
   have hi := refTab_index a0 h4 h5
   clear h3 h2 h1 h0
   go_enter Tryd.func32, Tryd.ntmps32
   go_wp2
   go_ret
   exact ⟨rfl, Drawn0.refl _⟩
  ·rw [if_neg (by omega)] at H
   subst H
   have b5 : decide (128 ≤ a0) = true := by simp; omega
   have b6 : decide (a0 ≤ 159) = false := by simp; omega
   by_cases h6 : 55296 ≤ a0
   ·have b3 : decide (55296 ≤ a0) = true := by simp; omega
    have b4 : decide (a0 ≤ 57343) = false := by simp; omega
    clear h0 h1 h2 h3 h4 h5 h6
    go_enter Tryd.func32, Tryd.ntmps32
    go_wp2
    go_ret
    exact ⟨rfl, Drawn0.refl _⟩
   ·have b3 : decide (55296 ≤ a0) = false := by simp; omega
    clear h0 h1 h2 h3 h4 h5 h6
    go_enter Tryd.func32, Tryd.ntmps32
    go_wp2
    go_ret
    exact ⟨rfl, Drawn0.refl _⟩
 ·rw [if_neg (by omega)] at H
  subst H
  have b3 : decide (55296 ≤ a0) = false := by simp; omega
  have b5 : decide (128 ≤ a0) = false := by simp; omega
  clear h0 h1 h2 h3 h4
  go_enter Tryd.func32, Tryd.ntmps32
  go_wp2
  go_ret
  exact ⟨rfl, Drawn0.refl _⟩
def impl_refDigits.j0 : Nat → List Int → Int → Int → Option (Int × Int × Bool)
 | 0, _, _, _ => none
 | k + 1, x0, x7, x8 => (impl_readDigits.f k x0 x7 x8).bind fun bt103 => (if bt103.2 = x7 then (some (0, 0, false)) else ((impl_pointAt.f x0 bt103.2).bind fun t105 => (if t105 = 59 then ((impl_RefNumber.f bt103.1).bind fun t106 => (some (t106, wrap64 (bt103.2 + 1), true))) else ((impl_RefNumber.f bt103.1).bind fun t107 => (some (t107, bt103.2, true))))))
def impl_refDigits.f (k : Nat) (l0 : List Int) (a1 : Int) : Option (Int × Int × Bool) := (impl_pointAt.f l0 a1).bind fun t101 => ((impl_LowerOf.f t101).bind fun t102 => (if t102 = 120 then (impl_refDigits.j0 k l0 (wrap64 (a1 + 1)) 16) else (impl_refDigits.j0 k l0 a1 10)))
theorem impl_refDigits.mono_l : ∀ k, (∀ y0 y1 y2, LeO (impl_refDigits.j0 k y0 y1 y2) (impl_refDigits.j0 (k + 1) y0 y1 y2))
 | 0 => fun _ _ _ r h => by simp [impl_refDigits.j0] at h
 | k + 1 => by
  have ih0 := impl_refDigits.mono_l k
  ·intro y0 y1 y2
   unfold impl_refDigits.j0
   repeat' first
   | (with_reducible exact ih0 _ _ _)
   | (with_reducible exact impl_readDigits.mono _ _ _ _)
   | (with_reducible exact LeO.refl _)
   | (with_reducible exact LeO.none _)
   | (with_reducible refine LeO.ite ?_ ?_)
   | (with_reducible refine LeO.bind ?_ (fun _ => ?_))
   | exact ih0 _ _ _
   | exact impl_readDigits.mono _ _ _ _
   | exact LeO.none _
   | refine LeO.ite ?_ ?_
   | refine LeO.bind ?_ (fun _ => ?_)
theorem impl_refDigits.mono : ∀ a0 a1 k, LeO (impl_refDigits.f k a0 a1) (impl_refDigits.f (k + 1) a0 a1) := by
 intro a0 a1 k
 have ih0 := impl_refDigits.mono_l k
 unfold impl_refDigits.f
 repeat' first
  | (with_reducible exact ih0 _ _ _)
  | (with_reducible exact impl_readDigits.mono _ _ _ _)
  | (with_reducible exact LeO.refl _)
  | (with_reducible exact LeO.none _)
  | (with_reducible refine LeO.ite ?_ ?_)
  | (with_reducible refine LeO.bind ?_ (fun _ => ?_))
  | exact ih0 _ _ _
  | exact impl_readDigits.mono _ _ _ _
  | exact LeO.none _
  | refine LeO.ite ?_ ?_
  | refine LeO.bind ?_ (fun _ => ?_)
theorem impl_refDigits.calls (k : Nat) (A0 : Option Addr) (c0 : Nat) (l0 : List Int) (a1 : Int) (r1 : Int) (r2 : Int) (r3 : Bool) (w : World) (hr0 : Kd.C (Kd.int .i64) w A0 l0.length l0) (hc0 : l0.length ≤ c0) (h : impl_refDigits.f k l0 a1 = some (r1, r2, r3)) :
 Calls Tryd.prog 21 #[.slice A0 l0.length c0, .int .i64 a1] w fun e w' => e = .returned (.tuple #[.int .i64 r1, .int .i64 r2, .bool r3]) ∧ Drawn0 w w' := by
 have HR0 := Ak hr0
 have HC0 := Ak hc0
 clear hr0 hc0
 have H : ((impl_pointAt.f l0 a1).bind fun t101 => ((impl_LowerOf.f t101).bind fun t102 => (if t102 = 120 then (impl_refDigits.j0 k l0 (wrap64 (a1 + 1)) 16) else (impl_refDigits.j0 k l0 a1 10)))) = some (r1, r2, r3) := h
 clear h
 replace H := Ob H
 obtain ⟨t101, A30, H⟩ := H
 replace H : ((impl_LowerOf.f t101).bind fun t102 => (if t102 = 120 then (impl_refDigits.j0 k l0 (wrap64 (a1 + 1)) 16) else (impl_refDigits.j0 k l0 a1 10))) = some (r1, r2, r3) := H
 have A3 := Ak A30
 clear A30
 replace H := Ob H
 obtain ⟨t102, A40, H⟩ := H
 replace H : (if t102 = 120 then (impl_refDigits.j0 k l0 (wrap64 (a1 + 1)) 16) else (impl_refDigits.j0 k l0 a1 10)) = some (r1, r2, r3) := H
 have A4 := Ak A40
 clear A40
 have HC5 := Ak H
 clear H
 go_enter Tryd.func21, Tryd.ntmps21
 go_upto_if 16 with (first | ((with_reducible refine gate_callee (f := 20) rfl ?_); refine goesL_ (some 14) rfl rfl Tryd.func20 (by kernel_rfl) rfl #[.slice A0 l0.length c0, .int .i64 a1] rfl (by (try simp only [List.map_toArray, List.map_cons, List.map_nil]); first | done | rfl | (simp only [List.length_drop, List.length_take]; rfl)) ?_; (with_reducible refine (impl_pointAt.calls _ _ l0 a1 t101 _ ?side1 ?side2 A3.out).mono ?_); (case side1 => repeat (first | exact HR0.out | (with_reducible refine Kd.C_alloc ?_ _) | (with_reducible refine Kd.C_drewN ?_ _) | (with_reducible refine Kd.C_drew ?_))); (case side2 => exact HC0.out); rintro e w' ⟨rfl, ⟨nd, rfl⟩⟩; refine ⟨_, rfl, ?_⟩) | ((with_reducible refine gate_callee (f := 30) rfl ?_); refine goesL_ (some 15) rfl rfl Tryd.func30 (by kernel_rfl) rfl #[.int .i64 t101] rfl (by (try simp only [List.map_toArray, List.map_cons, List.map_nil]); first | done | rfl | (simp only [List.length_drop, List.length_take]; rfl)) ?_; (with_reducible refine (impl_LowerOf.calls t101 t102 _ A4.out).mono ?_); rintro e w' ⟨rfl, ⟨nd, rfl⟩⟩; refine ⟨_, rfl, ?_⟩))
 (try simp only [Act.put, List.setIfInBounds_toArray, List.set_cons_zero, List.set_cons_succ])
 go_cut [7, 8] (fun v7 v8 wc => ∃ (kq : Nat) (x7_4 : Int) (x8_4 : Int), v7 = .int .i64 x7_4 ∧ v8 = .int .i64 x8_4 ∧ Aside0 (impl_refDigits.j0 kq l0 x7_4 x8_4 = some (r1, r2, r3)) ∧ Aside0 (kq ≤ k) ∧ Drawn0 w wc)
 case first =>
  have H := HC5.out
  clear HC5
  by_cases c6 : t102 = 120
  ·rw [if_pos c6] at H
   have c6b0 : (t102 == 120) = true := beq_iff_eq.mpr c6
   have c6b1 : (t102 != 120) = false := bne_eq_false_iff_eq.mpr c6
   clear c6
   (first | rw [c6b0] | (simp only [i64_w, i32_w]; rw [c6b0]) | skip)
   have H' := Ak H
   clear H
   go_wp2
   go_meet
   case rel => exact ⟨_, (wrap64 (a1 + 1)), (16), (by first | rfl | (simp; done) | (simp [*]; done)), (by first | rfl | (simp; done) | (simp [*]; done)), H', ⟨by first | omega | exact Nat.le_refl _⟩, by repeat (first | exact Drawn0.refl _ | apply Drawn0.step)⟩
  ·rw [if_neg c6] at H
   have c6b0 : (t102 == 120) = false := beq_eq_false_iff_ne.mpr c6
   have c6b1 : (t102 != 120) = true := bne_iff_ne.mpr c6
   (first | rw [c6b0] | (simp only [i64_w, i32_w]; rw [c6b0]) | skip)
   have H' := Ak H
   clear H
   go_wp2
   go_meet
   case rel => exact ⟨_, (a1), (10), (by first | rfl | (simp; done) | (simp [*]; done)), (by first | rfl | (simp; done) | (simp [*]; done)), H', ⟨by first | omega | exact Nat.le_refl _⟩, by repeat (first | exact Drawn0.refl _ | apply Drawn0.step)⟩
 case rest =>
  clear HC5
  try clear c2
  try clear p2
  try clear c3
  try clear c6
  try clear c6b0
  try clear c6b1
  try clear p6
  obtain ⟨kq, x7_4, x8_4, rfl, rfl, HA, HJ4, ⟨mc4, rfl⟩⟩ := hcut
  cases kq with
  | zero => exact absurd HA.out (by simp [impl_refDigits.j0])
  | succ kj4 =>
   have H := HA.out
   clear HA
   simp only [impl_refDigits.j0] at H
   replace H := Ob H
   obtain ⟨⟨t103, t104⟩, A70, H⟩ := H
   replace H : (if t104 = x7_4 then (some (0, 0, false)) else ((impl_pointAt.f l0 t104).bind fun t105 => (if t105 = 59 then ((impl_RefNumber.f t103).bind fun t106 => (some (t106, wrap64 (t104 + 1), true))) else ((impl_RefNumber.f t103).bind fun t107 => (some (t107, t104, true)))))) = some (r1, r2, r3) := H
   have A7 := Ak A70
   clear A70
   by_cases c8 : t104 = x7_4
   ·rw [if_pos c8] at H
    have c8b0 : (t104 == x7_4) = true := beq_iff_eq.mpr c8
    have c8b1 : (t104 != x7_4) = false := bne_eq_false_iff_eq.mpr c8
    clear c8
    simp only [Option.some.injEq, Prod.mk.injEq] at H
    obtain ⟨rfl, rfl, rfl⟩ := H
    go_wp2_with (first | ((with_reducible refine gate_callee (f := 31) rfl ?_); refine goesL_ (some 23) rfl rfl Tryd.func31 (by kernel_rfl) rfl #[.slice A0 l0.length c0, .int .i64 x7_4, .int .i64 x8_4] rfl (by (try simp only [List.map_toArray, List.map_cons, List.map_nil]); first | done | rfl | (simp only [List.length_drop, List.length_take]; rfl)) ?_; (with_reducible refine (impl_readDigits.calls kj4 _ _ l0 x7_4 x8_4 t103 t104 _ ?side1 ?side2 A7.out).mono ?_); (case side1 => repeat (first | exact HR0.out | (with_reducible refine Kd.C_alloc ?_ _) | (with_reducible refine Kd.C_drewN ?_ _) | (with_reducible refine Kd.C_drew ?_))); (case side2 => exact HC0.out); rintro e w' ⟨rfl, ⟨nd, rfl⟩⟩; refine ⟨_, rfl, ?_⟩))
    go_ret3
    exact ⟨by first | rfl | (simp; done) | (simp [*]; done), by repeat (first | exact Drawn0.refl _ | apply Drawn0.step)⟩
   ·rw [if_neg c8] at H
    have c8b0 : (t104 == x7_4) = false := beq_eq_false_iff_ne.mpr c8
    have c8b1 : (t104 != x7_4) = true := bne_iff_ne.mpr c8
    replace H := Ob H
    obtain ⟨t105, A90, H⟩ := H
    replace H : (if t105 = 59 then ((impl_RefNumber.f t103).bind fun t106 => (some (t106, wrap64 (t104 + 1), true))) else ((impl_RefNumber.f t103).bind fun t107 => (some (t107, t104, true)))) = some (r1, r2, r3) := H
    have A9 := Ak A90
    clear A90
    by_cases c10 : t105 = 59
    ·rw [if_pos c10] at H
     have c10b0 : (t105 == 59) = true := beq_iff_eq.mpr c10
     have c10b1 : (t105 != 59) = false := bne_eq_false_iff_eq.mpr c10
     clear c10
     replace H := Ob H
     obtain ⟨t106, A110, H⟩ := H
     replace H : (some (t106, wrap64 (t104 + 1), true)) = some (r1, r2, r3) := H
     have A11 := Ak A110
     clear A110
     simp only [Option.some.injEq, Prod.mk.injEq] at H
     obtain ⟨rfl, rfl, rfl⟩ := H
     go_wp2_with (first | ((with_reducible refine gate_callee (f := 31) rfl ?_); refine goesL_ (some 23) rfl rfl Tryd.func31 (by kernel_rfl) rfl #[.slice A0 l0.length c0, .int .i64 x7_4, .int .i64 x8_4] rfl (by (try simp only [List.map_toArray, List.map_cons, List.map_nil]); first | done | rfl | (simp only [List.length_drop, List.length_take]; rfl)) ?_; (with_reducible refine (impl_readDigits.calls kj4 _ _ l0 x7_4 x8_4 t103 t104 _ ?side1 ?side2 A7.out).mono ?_); (case side1 => repeat (first | exact HR0.out | (with_reducible refine Kd.C_alloc ?_ _) | (with_reducible refine Kd.C_drewN ?_ _) | (with_reducible refine Kd.C_drew ?_))); (case side2 => exact HC0.out); rintro e w' ⟨rfl, ⟨nd, rfl⟩⟩; refine ⟨_, rfl, ?_⟩) | ((with_reducible refine gate_callee (f := 20) rfl ?_); refine goesL_ (some 31) rfl rfl Tryd.func20 (by kernel_rfl) rfl #[.slice A0 l0.length c0, .int .i64 t104] rfl (by (try simp only [List.map_toArray, List.map_cons, List.map_nil]); first | done | rfl | (simp only [List.length_drop, List.length_take]; rfl)) ?_; (with_reducible refine (impl_pointAt.calls _ _ l0 t104 t105 _ ?side1 ?side2 A9.out).mono ?_); (case side1 => repeat (first | exact HR0.out | (with_reducible refine Kd.C_alloc ?_ _) | (with_reducible refine Kd.C_drewN ?_ _) | (with_reducible refine Kd.C_drew ?_))); (case side2 => exact HC0.out); rintro e w' ⟨rfl, ⟨nd, rfl⟩⟩; refine ⟨_, rfl, ?_⟩) | ((with_reducible refine gate_callee (f := 32) rfl ?_); refine goesL_ (some 36) rfl rfl Tryd.func32 (by kernel_rfl) rfl #[.int .i64 t103] rfl (by (try simp only [List.map_toArray, List.map_cons, List.map_nil]); first | done | rfl | (simp only [List.length_drop, List.length_take]; rfl)) ?_; (with_reducible refine (impl_RefNumber.calls t103 t106 _ A11.out).mono ?_); rintro e w' ⟨rfl, ⟨nd, rfl⟩⟩; refine ⟨_, rfl, ?_⟩))
     go_ret3
     exact ⟨by first | rfl | (simp; done) | (simp [*]; done), by repeat (first | exact Drawn0.refl _ | apply Drawn0.step)⟩
    ·rw [if_neg c10] at H
     have c10b0 : (t105 == 59) = false := beq_eq_false_iff_ne.mpr c10
     have c10b1 : (t105 != 59) = true := bne_iff_ne.mpr c10
     replace H := Ob H
     obtain ⟨t107, A120, H⟩ := H
     replace H : (some (t107, t104, true)) = some (r1, r2, r3) := H
     have A12 := Ak A120
     clear A120
     simp only [Option.some.injEq, Prod.mk.injEq] at H
     obtain ⟨rfl, rfl, rfl⟩ := H
     go_wp2_with (first | ((with_reducible refine gate_callee (f := 31) rfl ?_); refine goesL_ (some 23) rfl rfl Tryd.func31 (by kernel_rfl) rfl #[.slice A0 l0.length c0, .int .i64 x7_4, .int .i64 x8_4] rfl (by (try simp only [List.map_toArray, List.map_cons, List.map_nil]); first | done | rfl | (simp only [List.length_drop, List.length_take]; rfl)) ?_; (with_reducible refine (impl_readDigits.calls kj4 _ _ l0 x7_4 x8_4 t103 t104 _ ?side1 ?side2 A7.out).mono ?_); (case side1 => repeat (first | exact HR0.out | (with_reducible refine Kd.C_alloc ?_ _) | (with_reducible refine Kd.C_drewN ?_ _) | (with_reducible refine Kd.C_drew ?_))); (case side2 => exact HC0.out); rintro e w' ⟨rfl, ⟨nd, rfl⟩⟩; refine ⟨_, rfl, ?_⟩) | ((with_reducible refine gate_callee (f := 20) rfl ?_); refine goesL_ (some 31) rfl rfl Tryd.func20 (by kernel_rfl) rfl #[.slice A0 l0.length c0, .int .i64 t104] rfl (by (try simp only [List.map_toArray, List.map_cons, List.map_nil]); first | done | rfl | (simp only [List.length_drop, List.length_take]; rfl)) ?_; (with_reducible refine (impl_pointAt.calls _ _ l0 t104 t105 _ ?side1 ?side2 A9.out).mono ?_); (case side1 => repeat (first | exact HR0.out | (with_reducible refine Kd.C_alloc ?_ _) | (with_reducible refine Kd.C_drewN ?_ _) | (with_reducible refine Kd.C_drew ?_))); (case side2 => exact HC0.out); rintro e w' ⟨rfl, ⟨nd, rfl⟩⟩; refine ⟨_, rfl, ?_⟩) | ((with_reducible refine gate_callee (f := 32) rfl ?_); refine goesL_ (some 36) rfl rfl Tryd.func32 (by kernel_rfl) rfl #[.int .i64 t103] rfl (by (try simp only [List.map_toArray, List.map_cons, List.map_nil]); first | done | rfl | (simp only [List.length_drop, List.length_take]; rfl)) ?_; (with_reducible refine (impl_RefNumber.calls t103 t107 _ A12.out).mono ?_); rintro e w' ⟨rfl, ⟨nd, rfl⟩⟩; refine ⟨_, rfl, ?_⟩))
     go_ret3
     exact ⟨by first | rfl | (simp; done) | (simp [*]; done), by repeat (first | exact Drawn0.refl _ | apply Drawn0.step)⟩
def impl_Refs.f  : Option ((List (S54))) := some (([(⟨(⟨#[97, 109, 112]⟩ : ByteArray), 38⟩ : S54), (⟨(⟨#[97, 109, 112, 59]⟩ : ByteArray), 38⟩ : S54), (⟨(⟨#[99, 111, 112, 121]⟩ : ByteArray), 169⟩ : S54), (⟨(⟨#[99, 111, 112, 121, 59]⟩ : ByteArray), 169⟩ : S54), (⟨(⟨#[102, 114, 97, 99, 49, 50, 59]⟩ : ByteArray), 189⟩ : S54), (⟨(⟨#[103, 116]⟩ : ByteArray), 62⟩ : S54), (⟨(⟨#[103, 116, 59]⟩ : ByteArray), 62⟩ : S54), (⟨(⟨#[104, 101, 108, 108, 105, 112, 59]⟩ : ByteArray), 8230⟩ : S54), (⟨(⟨#[108, 116]⟩ : ByteArray), 60⟩ : S54), (⟨(⟨#[108, 116, 59]⟩ : ByteArray), 60⟩ : S54), (⟨(⟨#[109, 100, 97, 115, 104, 59]⟩ : ByteArray), 8212⟩ : S54), (⟨(⟨#[110, 98, 115, 112]⟩ : ByteArray), 160⟩ : S54), (⟨(⟨#[110, 98, 115, 112, 59]⟩ : ByteArray), 160⟩ : S54), (⟨(⟨#[110, 111, 116]⟩ : ByteArray), 172⟩ : S54), (⟨(⟨#[110, 111, 116, 59]⟩ : ByteArray), 172⟩ : S54), (⟨(⟨#[110, 111, 116, 105, 110, 59]⟩ : ByteArray), 8713⟩ : S54), (⟨(⟨#[113, 117, 111, 116]⟩ : ByteArray), 34⟩ : S54), (⟨(⟨#[113, 117, 111, 116, 59]⟩ : ByteArray), 34⟩ : S54), (⟨(⟨#[114, 101, 103]⟩ : ByteArray), 174⟩ : S54), (⟨(⟨#[114, 101, 103, 59]⟩ : ByteArray), 174⟩ : S54), (⟨(⟨#[115, 117, 112, 49]⟩ : ByteArray), 185⟩ : S54), (⟨(⟨#[115, 117, 112, 49, 59]⟩ : ByteArray), 185⟩ : S54), (⟨(⟨#[116, 105, 109, 101, 115, 59]⟩ : ByteArray), 215⟩ : S54), (⟨(⟨#[121, 101, 110, 59]⟩ : ByteArray), 165⟩ : S54)] : List (S54)))
theorem impl_Refs.calls  (r : List (S54)) (w : World) (h : impl_Refs.f  = some r) :
 Calls Tryd.prog 33 #[] w fun e w' => ∃ v0_ : Value, e = .returned (v0_) ∧ Kd.R k54 54 w' w.heap.size (fun _ => True) v0_ r ∧ Below w.heap.size w w' := by
 have hu54 := Tryd.underlying54
 have HB := Ak (Below.refl w.heap.size w)
 have H : (some (([(⟨(⟨#[97, 109, 112]⟩ : ByteArray), 38⟩ : S54), (⟨(⟨#[97, 109, 112, 59]⟩ : ByteArray), 38⟩ : S54), (⟨(⟨#[99, 111, 112, 121]⟩ : ByteArray), 169⟩ : S54), (⟨(⟨#[99, 111, 112, 121, 59]⟩ : ByteArray), 169⟩ : S54), (⟨(⟨#[102, 114, 97, 99, 49, 50, 59]⟩ : ByteArray), 189⟩ : S54), (⟨(⟨#[103, 116]⟩ : ByteArray), 62⟩ : S54), (⟨(⟨#[103, 116, 59]⟩ : ByteArray), 62⟩ : S54), (⟨(⟨#[104, 101, 108, 108, 105, 112, 59]⟩ : ByteArray), 8230⟩ : S54), (⟨(⟨#[108, 116]⟩ : ByteArray), 60⟩ : S54), (⟨(⟨#[108, 116, 59]⟩ : ByteArray), 60⟩ : S54), (⟨(⟨#[109, 100, 97, 115, 104, 59]⟩ : ByteArray), 8212⟩ : S54), (⟨(⟨#[110, 98, 115, 112]⟩ : ByteArray), 160⟩ : S54), (⟨(⟨#[110, 98, 115, 112, 59]⟩ : ByteArray), 160⟩ : S54), (⟨(⟨#[110, 111, 116]⟩ : ByteArray), 172⟩ : S54), (⟨(⟨#[110, 111, 116, 59]⟩ : ByteArray), 172⟩ : S54), (⟨(⟨#[110, 111, 116, 105, 110, 59]⟩ : ByteArray), 8713⟩ : S54), (⟨(⟨#[113, 117, 111, 116]⟩ : ByteArray), 34⟩ : S54), (⟨(⟨#[113, 117, 111, 116, 59]⟩ : ByteArray), 34⟩ : S54), (⟨(⟨#[114, 101, 103]⟩ : ByteArray), 174⟩ : S54), (⟨(⟨#[114, 101, 103, 59]⟩ : ByteArray), 174⟩ : S54), (⟨(⟨#[115, 117, 112, 49]⟩ : ByteArray), 185⟩ : S54), (⟨(⟨#[115, 117, 112, 49, 59]⟩ : ByteArray), 185⟩ : S54), (⟨(⟨#[116, 105, 109, 101, 115, 59]⟩ : ByteArray), 215⟩ : S54), (⟨(⟨#[121, 101, 110, 59]⟩ : ByteArray), 165⟩ : S54)] : List (S54)))) = some r := h
 clear h
 obtain ⟨y101, hy101⟩ : ∃ y_ : List (S54), y_ = (([(⟨(⟨#[97, 109, 112]⟩ : ByteArray), 38⟩ : S54), (⟨(⟨#[97, 109, 112, 59]⟩ : ByteArray), 38⟩ : S54), (⟨(⟨#[99, 111, 112, 121]⟩ : ByteArray), 169⟩ : S54), (⟨(⟨#[99, 111, 112, 121, 59]⟩ : ByteArray), 169⟩ : S54), (⟨(⟨#[102, 114, 97, 99, 49, 50, 59]⟩ : ByteArray), 189⟩ : S54), (⟨(⟨#[103, 116]⟩ : ByteArray), 62⟩ : S54), (⟨(⟨#[103, 116, 59]⟩ : ByteArray), 62⟩ : S54), (⟨(⟨#[104, 101, 108, 108, 105, 112, 59]⟩ : ByteArray), 8230⟩ : S54), (⟨(⟨#[108, 116]⟩ : ByteArray), 60⟩ : S54), (⟨(⟨#[108, 116, 59]⟩ : ByteArray), 60⟩ : S54), (⟨(⟨#[109, 100, 97, 115, 104, 59]⟩ : ByteArray), 8212⟩ : S54), (⟨(⟨#[110, 98, 115, 112]⟩ : ByteArray), 160⟩ : S54), (⟨(⟨#[110, 98, 115, 112, 59]⟩ : ByteArray), 160⟩ : S54), (⟨(⟨#[110, 111, 116]⟩ : ByteArray), 172⟩ : S54), (⟨(⟨#[110, 111, 116, 59]⟩ : ByteArray), 172⟩ : S54), (⟨(⟨#[110, 111, 116, 105, 110, 59]⟩ : ByteArray), 8713⟩ : S54), (⟨(⟨#[113, 117, 111, 116]⟩ : ByteArray), 34⟩ : S54), (⟨(⟨#[113, 117, 111, 116, 59]⟩ : ByteArray), 34⟩ : S54), (⟨(⟨#[114, 101, 103]⟩ : ByteArray), 174⟩ : S54), (⟨(⟨#[114, 101, 103, 59]⟩ : ByteArray), 174⟩ : S54), (⟨(⟨#[115, 117, 112, 49]⟩ : ByteArray), 185⟩ : S54), (⟨(⟨#[115, 117, 112, 49, 59]⟩ : ByteArray), 185⟩ : S54), (⟨(⟨#[116, 105, 109, 101, 115, 59]⟩ : ByteArray), 215⟩ : S54), (⟨(⟨#[121, 101, 110, 59]⟩ : ByteArray), 165⟩ : S54)] : List (S54))) := ⟨_, rfl⟩
 replace H : (some y101) = some r := by first | (rw [hy101]; with_reducible exact H) | (have H2_ := (Option.bind_some _ _).symm.trans H; rw [hy101]; with_reducible exact H2_) | (have H2_ := (Option.bind_some _ _).symm.trans H; with_reducible exact H2_) | with_reducible exact H | (rw [hy101]; exact H) | exact H
 have Ny101 := Ak hy101
 clear hy101
 obtain rfl := Oi H
 go_enter Tryd.func33, Tryd.ntmps33
 go_wp2_with (first | ((with_reducible refine gate_dst (N := 25) rfl ?_); refine Kd.R_lit k54 _ 54 ?hg (N := 25) ?hd (xs := ([(⟨(⟨#[97, 109, 112]⟩ : ByteArray), 38⟩ : S54), (⟨(⟨#[97, 109, 112, 59]⟩ : ByteArray), 38⟩ : S54), (⟨(⟨#[99, 111, 112, 121]⟩ : ByteArray), 169⟩ : S54), (⟨(⟨#[99, 111, 112, 121, 59]⟩ : ByteArray), 169⟩ : S54), (⟨(⟨#[102, 114, 97, 99, 49, 50, 59]⟩ : ByteArray), 189⟩ : S54), (⟨(⟨#[103, 116]⟩ : ByteArray), 62⟩ : S54), (⟨(⟨#[103, 116, 59]⟩ : ByteArray), 62⟩ : S54), (⟨(⟨#[104, 101, 108, 108, 105, 112, 59]⟩ : ByteArray), 8230⟩ : S54), (⟨(⟨#[108, 116]⟩ : ByteArray), 60⟩ : S54), (⟨(⟨#[108, 116, 59]⟩ : ByteArray), 60⟩ : S54), (⟨(⟨#[109, 100, 97, 115, 104, 59]⟩ : ByteArray), 8212⟩ : S54), (⟨(⟨#[110, 98, 115, 112]⟩ : ByteArray), 160⟩ : S54), (⟨(⟨#[110, 98, 115, 112, 59]⟩ : ByteArray), 160⟩ : S54), (⟨(⟨#[110, 111, 116]⟩ : ByteArray), 172⟩ : S54), (⟨(⟨#[110, 111, 116, 59]⟩ : ByteArray), 172⟩ : S54), (⟨(⟨#[110, 111, 116, 105, 110, 59]⟩ : ByteArray), 8713⟩ : S54), (⟨(⟨#[113, 117, 111, 116]⟩ : ByteArray), 34⟩ : S54), (⟨(⟨#[113, 117, 111, 116, 59]⟩ : ByteArray), 34⟩ : S54), (⟨(⟨#[114, 101, 103]⟩ : ByteArray), 174⟩ : S54), (⟨(⟨#[114, 101, 103, 59]⟩ : ByteArray), 174⟩ : S54), (⟨(⟨#[115, 117, 112, 49]⟩ : ByteArray), 185⟩ : S54), (⟨(⟨#[115, 117, 112, 49, 59]⟩ : ByteArray), 185⟩ : S54), (⟨(⟨#[116, 105, 109, 101, 115, 59]⟩ : ByteArray), 215⟩ : S54), (⟨(⟨#[121, 101, 110, 59]⟩ : ByteArray), 165⟩ : S54)] : List (S54))) (inner := [.string (⟨#[97, 109, 112]⟩ : ByteArray), .int .i64 38, .string (⟨#[97, 109, 112, 59]⟩ : ByteArray), .int .i64 38, .string (⟨#[99, 111, 112, 121]⟩ : ByteArray), .int .i64 169, .string (⟨#[99, 111, 112, 121, 59]⟩ : ByteArray), .int .i64 169, .string (⟨#[102, 114, 97, 99, 49, 50, 59]⟩ : ByteArray), .int .i64 189, .string (⟨#[103, 116]⟩ : ByteArray), .int .i64 62, .string (⟨#[103, 116, 59]⟩ : ByteArray), .int .i64 62, .string (⟨#[104, 101, 108, 108, 105, 112, 59]⟩ : ByteArray), .int .i64 8230, .string (⟨#[108, 116]⟩ : ByteArray), .int .i64 60, .string (⟨#[108, 116, 59]⟩ : ByteArray), .int .i64 60, .string (⟨#[109, 100, 97, 115, 104, 59]⟩ : ByteArray), .int .i64 8212, .string (⟨#[110, 98, 115, 112]⟩ : ByteArray), .int .i64 160, .string (⟨#[110, 98, 115, 112, 59]⟩ : ByteArray), .int .i64 160, .string (⟨#[110, 111, 116]⟩ : ByteArray), .int .i64 172, .string (⟨#[110, 111, 116, 59]⟩ : ByteArray), .int .i64 172, .string (⟨#[110, 111, 116, 105, 110, 59]⟩ : ByteArray), .int .i64 8713, .string (⟨#[113, 117, 111, 116]⟩ : ByteArray), .int .i64 34, .string (⟨#[113, 117, 111, 116, 59]⟩ : ByteArray), .int .i64 34, .string (⟨#[114, 101, 103]⟩ : ByteArray), .int .i64 174, .string (⟨#[114, 101, 103, 59]⟩ : ByteArray), .int .i64 174, .string (⟨#[115, 117, 112, 49]⟩ : ByteArray), .int .i64 185, .string (⟨#[115, 117, 112, 49, 59]⟩ : ByteArray), .int .i64 185, .string (⟨#[116, 105, 109, 101, 115, 59]⟩ : ByteArray), .int .i64 215, .string (⟨#[121, 101, 110, 59]⟩ : ByteArray), .int .i64 165]) (ok := fun _ => True) (okp := fun _ => True) ?hr ?hp (fun _ hk => hk) trivial (Below.refl _ _) (Nat.le_refl _) (by simp) ?_; (case hd => rfl); (case hg => rfl); (case hr => first | (go_simp; done) | (go_simp; rfl)); (case hp => exact (Reps.c2 (show Kd.M k54 _ _ _ (⟨(⟨#[97, 109, 112]⟩ : ByteArray), 38⟩ : S54) [.string (⟨#[97, 109, 112]⟩ : ByteArray), .int .i64 38] from (k54_mkM _ _ _ (⟨(⟨#[97, 109, 112]⟩ : ByteArray), 38⟩ : S54) )) (Reps.c2 (show Kd.M k54 _ _ _ (⟨(⟨#[97, 109, 112, 59]⟩ : ByteArray), 38⟩ : S54) [.string (⟨#[97, 109, 112, 59]⟩ : ByteArray), .int .i64 38] from (k54_mkM _ _ _ (⟨(⟨#[97, 109, 112, 59]⟩ : ByteArray), 38⟩ : S54) )) (Reps.c2 (show Kd.M k54 _ _ _ (⟨(⟨#[99, 111, 112, 121]⟩ : ByteArray), 169⟩ : S54) [.string (⟨#[99, 111, 112, 121]⟩ : ByteArray), .int .i64 169] from (k54_mkM _ _ _ (⟨(⟨#[99, 111, 112, 121]⟩ : ByteArray), 169⟩ : S54) )) (Reps.c2 (show Kd.M k54 _ _ _ (⟨(⟨#[99, 111, 112, 121, 59]⟩ : ByteArray), 169⟩ : S54) [.string (⟨#[99, 111, 112, 121, 59]⟩ : ByteArray), .int .i64 169] from (k54_mkM _ _ _ (⟨(⟨#[99, 111, 112, 121, 59]⟩ : ByteArray), 169⟩ : S54) )) (Reps.c2 (show Kd.M k54 _ _ _ (⟨(⟨#[102, 114, 97, 99, 49, 50, 59]⟩ : ByteArray), 189⟩ : S54) [.string (⟨#[102, 114, 97, 99, 49, 50, 59]⟩ : ByteArray), .int .i64 189] from (k54_mkM _ _ _ (⟨(⟨#[102, 114, 97, 99, 49, 50, 59]⟩ : ByteArray), 189⟩ : S54) )) (Reps.c2 (show Kd.M k54 _ _ _ (⟨(⟨#[103, 116]⟩ : ByteArray), 62⟩ : S54) [.string (⟨#[103, 116]⟩ : ByteArray), .int .i64 62] from (k54_mkM _ _ _ (⟨(⟨#[103, 116]⟩ : ByteArray), 62⟩ : S54) )) (Reps.c2 (show Kd.M k54 _ _ _ (⟨(⟨#[103, 116, 59]⟩ : ByteArray), 62⟩ : S54) [.string (⟨#[103, 116, 59]⟩ : ByteArray), .int .i64 62] from (k54_mkM _ _ _ (⟨(⟨#[103, 116, 59]⟩ : ByteArray), 62⟩ : S54) )) (Reps.c2 (show Kd.M k54 _ _ _ (⟨(⟨#[104, 101, 108, 108, 105, 112, 59]⟩ : ByteArray), 8230⟩ : S54) [.string (⟨#[104, 101, 108, 108, 105, 112, 59]⟩ : ByteArray), .int .i64 8230] from (k54_mkM _ _ _ (⟨(⟨#[104, 101, 108, 108, 105, 112, 59]⟩ : ByteArray), 8230⟩ : S54) )) (Reps.c2 (show Kd.M k54 _ _ _ (⟨(⟨#[108, 116]⟩ : ByteArray), 60⟩ : S54) [.string (⟨#[108, 116]⟩ : ByteArray), .int .i64 60] from (k54_mkM _ _ _ (⟨(⟨#[108, 116]⟩ : ByteArray), 60⟩ : S54) )) (Reps.c2 (show Kd.M k54 _ _ _ (⟨(⟨#[108, 116, 59]⟩ : ByteArray), 60⟩ : S54) [.string (⟨#[108, 116, 59]⟩ : ByteArray), .int .i64 60] from (k54_mkM _ _ _ (⟨(⟨#[108, 116, 59]⟩ : ByteArray), 60⟩ : S54) )) (Reps.c2 (show Kd.M k54 _ _ _ (⟨(⟨#[109, 100, 97, 115, 104, 59]⟩ : ByteArray), 8212⟩ : S54) [.string (⟨#[109, 100, 97, 115, 104, 59]⟩ : ByteArray), .int .i64 8212] from (k54_mkM _ _ _ (⟨(⟨#[109, 100, 97, 115, 104, 59]⟩ : ByteArray), 8212⟩ : S54) )) (Reps.c2 (show Kd.M k54 _ _ _ (⟨(⟨#[110, 98, 115, 112]⟩ : ByteArray), 160⟩ : S54) [.string (⟨#[110, 98, 115, 112]⟩ : ByteArray), .int .i64 160] from (k54_mkM _ _ _ (⟨(⟨#[110, 98, 115, 112]⟩ : ByteArray), 160⟩ : S54) )) (Reps.c2 (show Kd.M k54 _ _ _ (⟨(⟨#[110, 98, 115, 112, 59]⟩ : ByteArray), 160⟩ : S54) [.string (⟨#[110, 98, 115, 112, 59]⟩ : ByteArray), .int .i64 160] from (k54_mkM _ _ _ (⟨(⟨#[110, 98, 115, 112, 59]⟩ : ByteArray), 160⟩ : S54) )) (Reps.c2 (show Kd.M k54 _ _ _ (⟨(⟨#[110, 111, 116]⟩ : ByteArray), 172⟩ : S54) [.string (⟨#[110, 111, 116]⟩ : ByteArray), .int .i64 172] from (k54_mkM _ _ _ (⟨(⟨#[110, 111, 116]⟩ : ByteArray), 172⟩ : S54) )) (Reps.c2 (show Kd.M k54 _ _ _ (⟨(⟨#[110, 111, 116, 59]⟩ : ByteArray), 172⟩ : S54) [.string (⟨#[110, 111, 116, 59]⟩ : ByteArray), .int .i64 172] from (k54_mkM _ _ _ (⟨(⟨#[110, 111, 116, 59]⟩ : ByteArray), 172⟩ : S54) )) (Reps.c2 (show Kd.M k54 _ _ _ (⟨(⟨#[110, 111, 116, 105, 110, 59]⟩ : ByteArray), 8713⟩ : S54) [.string (⟨#[110, 111, 116, 105, 110, 59]⟩ : ByteArray), .int .i64 8713] from (k54_mkM _ _ _ (⟨(⟨#[110, 111, 116, 105, 110, 59]⟩ : ByteArray), 8713⟩ : S54) )) (Reps.c2 (show Kd.M k54 _ _ _ (⟨(⟨#[113, 117, 111, 116]⟩ : ByteArray), 34⟩ : S54) [.string (⟨#[113, 117, 111, 116]⟩ : ByteArray), .int .i64 34] from (k54_mkM _ _ _ (⟨(⟨#[113, 117, 111, 116]⟩ : ByteArray), 34⟩ : S54) )) (Reps.c2 (show Kd.M k54 _ _ _ (⟨(⟨#[113, 117, 111, 116, 59]⟩ : ByteArray), 34⟩ : S54) [.string (⟨#[113, 117, 111, 116, 59]⟩ : ByteArray), .int .i64 34] from (k54_mkM _ _ _ (⟨(⟨#[113, 117, 111, 116, 59]⟩ : ByteArray), 34⟩ : S54) )) (Reps.c2 (show Kd.M k54 _ _ _ (⟨(⟨#[114, 101, 103]⟩ : ByteArray), 174⟩ : S54) [.string (⟨#[114, 101, 103]⟩ : ByteArray), .int .i64 174] from (k54_mkM _ _ _ (⟨(⟨#[114, 101, 103]⟩ : ByteArray), 174⟩ : S54) )) (Reps.c2 (show Kd.M k54 _ _ _ (⟨(⟨#[114, 101, 103, 59]⟩ : ByteArray), 174⟩ : S54) [.string (⟨#[114, 101, 103, 59]⟩ : ByteArray), .int .i64 174] from (k54_mkM _ _ _ (⟨(⟨#[114, 101, 103, 59]⟩ : ByteArray), 174⟩ : S54) )) (Reps.c2 (show Kd.M k54 _ _ _ (⟨(⟨#[115, 117, 112, 49]⟩ : ByteArray), 185⟩ : S54) [.string (⟨#[115, 117, 112, 49]⟩ : ByteArray), .int .i64 185] from (k54_mkM _ _ _ (⟨(⟨#[115, 117, 112, 49]⟩ : ByteArray), 185⟩ : S54) )) (Reps.c2 (show Kd.M k54 _ _ _ (⟨(⟨#[115, 117, 112, 49, 59]⟩ : ByteArray), 185⟩ : S54) [.string (⟨#[115, 117, 112, 49, 59]⟩ : ByteArray), .int .i64 185] from (k54_mkM _ _ _ (⟨(⟨#[115, 117, 112, 49, 59]⟩ : ByteArray), 185⟩ : S54) )) (Reps.c2 (show Kd.M k54 _ _ _ (⟨(⟨#[116, 105, 109, 101, 115, 59]⟩ : ByteArray), 215⟩ : S54) [.string (⟨#[116, 105, 109, 101, 115, 59]⟩ : ByteArray), .int .i64 215] from (k54_mkM _ _ _ (⟨(⟨#[116, 105, 109, 101, 115, 59]⟩ : ByteArray), 215⟩ : S54) )) (Reps.c2 (show Kd.M k54 _ _ _ (⟨(⟨#[121, 101, 110, 59]⟩ : ByteArray), 165⟩ : S54) [.string (⟨#[121, 101, 110, 59]⟩ : ByteArray), .int .i64 165] from (k54_mkM _ _ _ (⟨(⟨#[121, 101, 110, 59]⟩ : ByteArray), 165⟩ : S54) )) (Reps.none _ _)))))))))))))))))))))))))); intro v102 w1 ho2 hb hg_ hnew_; clear hg_ hnew_; (first | rw [← Ny101.out] at ho2 | (simp only [Int.reduceToNat] at ho2; rw [← Ny101.out] at ho2)); have n0_ := Ak (Kd.R_lower ho2 (below_size (by repeat (first | exact HB.out | apply below_alloc | apply pw_below_drewN | apply below_drew1)))); have n1_ := Ak (below_step (by repeat (first | exact HB.out | apply below_alloc | apply pw_below_drewN | apply below_drew1)) hb); clear HB; have HO103 := n0_; have HB := n1_; clear n0_ n1_; clear hb ho2))
 go_ret
 exact ⟨_, by first | rfl | (simp [*] <;> rfl), by (with_reducible repeat (first | apply Kd.R_alloc | apply Kd.R_drewN | apply Kd.R_drew)); exact HO103.out, by repeat (first | exact HB.out | apply below_alloc | apply pw_below_drewN | apply below_drew1)⟩
def impl_standsAt.l0 : Nat → List Int → Int → ByteArray → Int → Option (Bool)
 | 0, _, _, _, _ => none
 | k + 1, x0, x1, x2, x7 => if x7 < (x2.size : Int) then ((impl_pointAt.f x0 (wrap64 (x1 + x7))).bind fun t101 => (if 0 ≤ x7 then (if t101 = (wrap64 (bt x2 x7)) then (impl_standsAt.l0 k x0 x1 x2 (wrap64 (x7 + 1))) else (some false)) else (none))) else (some true)
def impl_standsAt.f (k : Nat) (l0 : List Int) (a1 : Int) (a2 : ByteArray) : Option (Bool) := impl_standsAt.l0 k l0 a1 a2 0
theorem impl_standsAt.mono_l : ∀ k, (∀ y0 y1 y2 y3, LeO (impl_standsAt.l0 k y0 y1 y2 y3) (impl_standsAt.l0 (k + 1) y0 y1 y2 y3))
 | 0 => fun _ _ _ _ r h => by simp [impl_standsAt.l0] at h
 | k + 1 => by
  have ih0 := impl_standsAt.mono_l k
  ·intro y0 y1 y2 y3
   unfold impl_standsAt.l0
   repeat' first
   | (with_reducible exact ih0 _ _ _ _)
   | (with_reducible exact LeO.refl _)
   | (with_reducible exact LeO.none _)
   | (with_reducible refine LeO.ite ?_ ?_)
   | (with_reducible refine LeO.bind ?_ (fun _ => ?_))
   | exact ih0 _ _ _ _
   | exact LeO.none _
   | refine LeO.ite ?_ ?_
   | refine LeO.bind ?_ (fun _ => ?_)
theorem impl_standsAt.mono : ∀ a0 a1 a2 k, LeO (impl_standsAt.f k a0 a1 a2) (impl_standsAt.f (k + 1) a0 a1 a2) := by
 intro a0 a1 a2 k
 have ih0 := impl_standsAt.mono_l k
 unfold impl_standsAt.f
 repeat' first
  | (with_reducible exact ih0 _ _ _ _)
  | (with_reducible exact LeO.refl _)
  | (with_reducible exact LeO.none _)
  | (with_reducible refine LeO.ite ?_ ?_)
  | (with_reducible refine LeO.bind ?_ (fun _ => ?_))
  | exact ih0 _ _ _ _
  | exact LeO.none _
  | refine LeO.ite ?_ ?_
  | refine LeO.bind ?_ (fun _ => ?_)
theorem impl_standsAt.calls (k : Nat) (A0 : Option Addr) (c0 : Nat) (l0 : List Int) (a1 : Int) (a2 : ByteArray) (r : Bool) (w : World) (hr0 : Kd.C (Kd.int .i64) w A0 l0.length l0) (hc0 : l0.length ≤ c0) (h : impl_standsAt.f k l0 a1 a2 = some r) :
 Calls Tryd.prog 34 #[.slice A0 l0.length c0, .int .i64 a1, .string a2] w fun e w' => e = .returned (.bool r) ∧ Drawn0 w w' := by
 have HR0 := Ak hr0
 have HC0 := Ak hc0
 clear hr0 hc0
 have H : (impl_standsAt.l0 k l0 a1 a2 0) = some r := h
 clear h
 have H' := Ak H
 clear H
 go_enter Tryd.func34, Tryd.ntmps34
 go_wp2
 repeat (go_quiet (fail); try go_wp2)
 go_loopg [7] k (fun kq v7 w' => ∃ (x7_1 : Int), v7 = .int .i64 x7_1 ∧ Aside0 (impl_standsAt.l0 kq l0 a1 a2 x7_1 = some r) ∧ Aside0 (kq ≤ k) ∧ Drawn0 w w')
 case atStart => exact ⟨(0), (by first | rfl | (simp; done) | (simp [*]; done)), H', ⟨Nat.le_refl _⟩, by repeat (first | exact Drawn0.refl _ | apply Drawn0.step)⟩
 case round =>
  clear H'
  try clear p2
  try clear c3
  obtain ⟨x7_1, rfl, HA, HK1, ⟨m1, rfl⟩⟩ := hrel
  cases gk with
  | zero => exact absurd HA.out (by simp [impl_standsAt.l0])
  | succ k1 =>
   have H := HA.out
   clear HA
   simp only [impl_standsAt.l0] at H
   by_cases c4 : x7_1 < (a2.size : Int)
   ·rw [if_pos c4] at H
    have c4b0 : decide (x7_1 < (a2.size : Int)) = true := decide_eq_true c4
    clear c4
    replace H := Ob H
    obtain ⟨t101, A50, H⟩ := H
    replace H : (if 0 ≤ x7_1 then (if t101 = (wrap64 (bt a2 x7_1)) then (impl_standsAt.l0 k1 l0 a1 a2 (wrap64 (x7_1 + 1))) else (some false)) else (none)) = some r := H
    have A5 := Ak A50
    clear A50
    by_cases c6 : 0 ≤ x7_1
    ·rw [if_pos c6] at H
     have c6b0 : decide (0 ≤ x7_1) = true := decide_eq_true c6
     clear c6
     by_cases c8 : t101 = (wrap64 (bt a2 x7_1))
     ·rw [if_pos c8] at H
      have c8b0 : (t101 == (wrap64 (bt a2 x7_1))) = true := beq_iff_eq.mpr c8
      have c8b1 : (t101 != (wrap64 (bt a2 x7_1))) = false := bne_eq_false_iff_eq.mpr c8
      clear c8
      have H' := Ak H
      clear H
      have p7 : 0 ≤ (x7_1 : Int) := of_decide_eq_true (by assumption)
      have q7 : x7_1 < (a2.size : Int) := of_decide_eq_true (by assumption)
      have hx7 := bt_at a2 x7_1
      replace p7 := eq_true p7
      replace q7 := eq_true q7
      go_wp2_with (first | (go_at_call 20; (with_reducible refine (impl_pointAt.calls _ _ l0 (wrap64 (a1 + x7_1)) t101 _ ?side1 ?side2 A5.out).mono ?_); (case side1 => repeat (first | exact HR0.out | (with_reducible refine Kd.C_alloc ?_ _) | (with_reducible refine Kd.C_drewN ?_ _) | (with_reducible refine Kd.C_drew ?_))); (case side2 => exact HC0.out); rintro e w' ⟨rfl, ⟨nd, rfl⟩⟩; (try first | exact ⟨rfl, _, World.drewN_drewN _ _ _⟩ | exact ⟨rfl, _, Eq.trans (World.drewN_drewN _ _ _) (congrArg (World.drewN _) (Nat.add_assoc _ _ _))⟩)))
      repeat (go_quiet (first | (go_at_call 20; (with_reducible refine (impl_pointAt.calls _ _ l0 (wrap64 (a1 + x7_1)) t101 _ ?side1 ?side2 A5.out).mono ?_); (case side1 => repeat (first | exact HR0.out | (with_reducible refine Kd.C_alloc ?_ _) | (with_reducible refine Kd.C_drewN ?_ _) | (with_reducible refine Kd.C_drew ?_))); (case side2 => exact HC0.out); rintro e w' ⟨rfl, ⟨nd, rfl⟩⟩; (try first | exact ⟨rfl, _, World.drewN_drewN _ _ _⟩ | exact ⟨rfl, _, Eq.trans (World.drewN_drewN _ _ _) (congrArg (World.drewN _) (Nat.add_assoc _ _ _))⟩))); try go_wp2_with (first | (go_at_call 20; (with_reducible refine (impl_pointAt.calls _ _ l0 (wrap64 (a1 + x7_1)) t101 _ ?side1 ?side2 A5.out).mono ?_); (case side1 => repeat (first | exact HR0.out | (with_reducible refine Kd.C_alloc ?_ _) | (with_reducible refine Kd.C_drewN ?_ _) | (with_reducible refine Kd.C_drew ?_))); (case side2 => exact HC0.out); rintro e w' ⟨rfl, ⟨nd, rfl⟩⟩; (try first | exact ⟨rfl, _, World.drewN_drewN _ _ _⟩ | exact ⟨rfl, _, Eq.trans (World.drewN_drewN _ _ _) (congrArg (World.drewN _) (Nat.add_assoc _ _ _))⟩))))
      go_roundg k1
      case measure => have := HK1.out; omega
      case rel => exact ⟨(wrap64 (x7_1 + 1)), (by first | rfl | (simp; done) | (simp [*]; done)), H', ⟨by have := HK1.out; omega⟩, by repeat (first | exact Drawn0.refl _ | apply Drawn0.step)⟩
     ·rw [if_neg c8] at H
      have c8b0 : (t101 == (wrap64 (bt a2 x7_1))) = false := beq_eq_false_iff_ne.mpr c8
      have c8b1 : (t101 != (wrap64 (bt a2 x7_1))) = true := bne_iff_ne.mpr c8
      obtain rfl := Oi H
      have p7 : 0 ≤ (x7_1 : Int) := of_decide_eq_true (by assumption)
      have q7 : x7_1 < (a2.size : Int) := of_decide_eq_true (by assumption)
      have hx7 := bt_at a2 x7_1
      replace p7 := eq_true p7
      replace q7 := eq_true q7
      go_wp2_with (first | (go_at_call 20; (with_reducible refine (impl_pointAt.calls _ _ l0 (wrap64 (a1 + x7_1)) t101 _ ?side1 ?side2 A5.out).mono ?_); (case side1 => repeat (first | exact HR0.out | (with_reducible refine Kd.C_alloc ?_ _) | (with_reducible refine Kd.C_drewN ?_ _) | (with_reducible refine Kd.C_drew ?_))); (case side2 => exact HC0.out); rintro e w' ⟨rfl, ⟨nd, rfl⟩⟩; (try first | exact ⟨rfl, _, World.drewN_drewN _ _ _⟩ | exact ⟨rfl, _, Eq.trans (World.drewN_drewN _ _ _) (congrArg (World.drewN _) (Nat.add_assoc _ _ _))⟩)))
      repeat (go_quiet (first | (go_at_call 20; (with_reducible refine (impl_pointAt.calls _ _ l0 (wrap64 (a1 + x7_1)) t101 _ ?side1 ?side2 A5.out).mono ?_); (case side1 => repeat (first | exact HR0.out | (with_reducible refine Kd.C_alloc ?_ _) | (with_reducible refine Kd.C_drewN ?_ _) | (with_reducible refine Kd.C_drew ?_))); (case side2 => exact HC0.out); rintro e w' ⟨rfl, ⟨nd, rfl⟩⟩; (try first | exact ⟨rfl, _, World.drewN_drewN _ _ _⟩ | exact ⟨rfl, _, Eq.trans (World.drewN_drewN _ _ _) (congrArg (World.drewN _) (Nat.add_assoc _ _ _))⟩))); try go_wp2_with (first | (go_at_call 20; (with_reducible refine (impl_pointAt.calls _ _ l0 (wrap64 (a1 + x7_1)) t101 _ ?side1 ?side2 A5.out).mono ?_); (case side1 => repeat (first | exact HR0.out | (with_reducible refine Kd.C_alloc ?_ _) | (with_reducible refine Kd.C_drewN ?_ _) | (with_reducible refine Kd.C_drew ?_))); (case side2 => exact HC0.out); rintro e w' ⟨rfl, ⟨nd, rfl⟩⟩; (try first | exact ⟨rfl, _, World.drewN_drewN _ _ _⟩ | exact ⟨rfl, _, Eq.trans (World.drewN_drewN _ _ _) (congrArg (World.drewN _) (Nat.add_assoc _ _ _))⟩))))
      go_ret
      exact ⟨by first | rfl | (simp; done) | (simp [*]; done), by repeat (first | exact Drawn0.refl _ | apply Drawn0.step)⟩
    ·rw [if_neg c6] at H
     exact absurd H (by simp)
   ·rw [if_neg c4] at H
    have c4b0 : decide (x7_1 < (a2.size : Int)) = false := decide_eq_false c4
    clear c4
    obtain rfl := Oi H
    go_wp2
    repeat (go_quiet (fail); try go_wp2)
    go_ret
    exact ⟨by first | rfl | (simp; done) | (simp [*]; done), by repeat (first | exact Drawn0.refl _ | apply Drawn0.step)⟩
def impl_IsAlpha.f (a0 : Int) : Option (Bool) := (impl_inRange.f a0 65 90).bind fun t101 => (if t101 = true then (some true) else ((impl_inRange.f a0 97 122).bind fun t102 => (some t102)))
theorem impl_IsAlpha.calls (a0 : Int) (r : Bool) (w : World) (h : impl_IsAlpha.f a0 = some r) :
 Calls Tryd.prog 35 #[.int .i64 a0] w fun e w' => e = .returned (.bool r) ∧ Drawn0 w w' := by
 have H : ((impl_inRange.f a0 65 90).bind fun t101 => (if t101 = true then (some true) else ((impl_inRange.f a0 97 122).bind fun t102 => (some t102)))) = some r := h
 clear h
 replace H := Ob H
 obtain ⟨t101, A20, H⟩ := H
 replace H : (if t101 = true then (some true) else ((impl_inRange.f a0 97 122).bind fun t102 => (some t102))) = some r := H
 have A2 := Ak A20
 clear A20
 by_cases c3 : t101 = true
 ·subst c3
  rw [if_pos rfl] at H
  obtain rfl := Oi H
  go_enter Tryd.func35, Tryd.ntmps35
  go_wp2_with (first | ((with_reducible refine gate_callee (f := 29) rfl ?_); refine goesL_ (some 4) rfl rfl Tryd.func29 (by kernel_rfl) rfl #[.int .i64 a0, .int .i64 65, .int .i64 90] rfl (by (try simp only [List.map_toArray, List.map_cons, List.map_nil]); first | done | rfl | (simp only [List.length_drop, List.length_take]; rfl)) ?_; (with_reducible refine (impl_inRange.calls a0 65 90 true _ A2.out).mono ?_); rintro e w' ⟨rfl, ⟨nd, rfl⟩⟩; refine ⟨_, rfl, ?_⟩))
  go_ret
  exact ⟨by first | rfl | (simp; done) | (simp [*]; done), by repeat (first | exact Drawn0.refl _ | apply Drawn0.step)⟩
 ·replace c3 := Bool.eq_false_iff.mpr c3
  subst c3
  rw [if_neg (show ¬ (false = true) by decide)] at H
  replace H := Ob H
  obtain ⟨t102, A40, H⟩ := H
  replace H : (some t102) = some r := H
  have A4 := Ak A40
  clear A40
  obtain rfl := Oi H
  go_enter Tryd.func35, Tryd.ntmps35
  go_wp2_with (first | ((with_reducible refine gate_callee (f := 29) rfl ?_); refine goesL_ (some 4) rfl rfl Tryd.func29 (by kernel_rfl) rfl #[.int .i64 a0, .int .i64 65, .int .i64 90] rfl (by (try simp only [List.map_toArray, List.map_cons, List.map_nil]); first | done | rfl | (simp only [List.length_drop, List.length_take]; rfl)) ?_; (with_reducible refine (impl_inRange.calls a0 65 90 false _ A2.out).mono ?_); rintro e w' ⟨rfl, ⟨nd, rfl⟩⟩; refine ⟨_, rfl, ?_⟩) | (go_at_call 29; (with_reducible refine (impl_inRange.calls a0 97 122 t102 _ A4.out).mono ?_); rintro e w' ⟨rfl, ⟨nd, rfl⟩⟩))
  go_ret
  exact ⟨by first | rfl | (simp; done) | (simp [*]; done), by repeat (first | exact Drawn0.refl _ | apply Drawn0.step)⟩
def stringslite_HasSuffix.f (a0 : ByteArray) (a1 : ByteArray) : Option (Bool) := if (a0.size : Int) ≥ (a1.size : Int) then (if 0 ≤ (wrap64 ((a0.size : Int) - (a1.size : Int))) then (if (wrap64 ((a0.size : Int) - (a1.size : Int))) ≤ (a0.size : Int) then (some ((a0.extract ((wrap64 ((a0.size : Int) - (a1.size : Int))) : Int).toNat a0.size).toList == a1.toList)) else (none)) else (none)) else (some false)
theorem stringslite_HasSuffix.calls (a0 : ByteArray) (a1 : ByteArray) (r : Bool) (w : World) (h : stringslite_HasSuffix.f a0 a1 = some r) :
 Calls Tryd.prog 47 #[.string a0, .string a1] w fun e w' => e = .returned (.bool r) ∧ Drawn0 w w' := by
 have H : (if (a0.size : Int) ≥ (a1.size : Int) then (if 0 ≤ (wrap64 ((a0.size : Int) - (a1.size : Int))) then (if (wrap64 ((a0.size : Int) - (a1.size : Int))) ≤ (a0.size : Int) then (some ((a0.extract ((wrap64 ((a0.size : Int) - (a1.size : Int))) : Int).toNat a0.size).toList == a1.toList)) else (none)) else (none)) else (some false)) = some r := h
 clear h
 by_cases c3 : (a0.size : Int) ≥ (a1.size : Int)
 ·rw [if_pos c3] at H
  have c3b0 : decide ((a1.size : Int) ≤ (a0.size : Int)) = true := decide_eq_true c3
  have c3b1 : decide (a1.size ≤ a0.size) = true := decide_eq_true (Int.ofNat_le.mp c3)
  clear c3
  obtain ⟨ji4, hji4⟩ : ∃ j_ : Int, (wrap64 ((a0.size : Int) - (a1.size : Int))) = j_ := ⟨_, rfl⟩
  replace H : (if 0 ≤ (ji4) then (if (ji4) ≤ (a0.size : Int) then (some ((a0.extract ((ji4) : Int).toNat a0.size).toList == a1.toList)) else (none)) else (none)) = some r := by first | (rw [hji4] at H; exact H) | (simp only [hji4] at H ⊢; exact H)
  have hji4w : (IntKind.i64.wrap ((a0.size : Int) - (a1.size : Int))) = ji4 := (i64_w _).trans hji4
  by_cases c5 : 0 ≤ (ji4)
  ·rw [if_pos c5] at H
   have c5b0 := eq_true c5
   have c5b1 : decide (0 ≤ (ji4)) = true := decide_eq_true c5
   clear c5
   by_cases c6 : (ji4) ≤ (a0.size : Int)
   ·rw [if_pos c6] at H
    have c6b0 := eq_true c6
    have c6b1 : decide ((ji4) ≤ (a0.size : Int)) = true := decide_eq_true c6
    clear c6
    obtain rfl := Oi H
    go_enter Tryd.func47, Tryd.ntmps47
    go_wp2
    go_ret
    exact ⟨by first | rfl | (simp; done) | (simp only [← hji4] <;> (first | rfl | simp)) | (simp [*]; done), by repeat (first | exact Drawn0.refl _ | apply Drawn0.step)⟩
   ·rw [if_neg c6] at H
    exact absurd H (by simp)
  ·rw [if_neg c5] at H
   exact absurd H (by simp)
 ·rw [if_neg c3] at H
  have c3b0 : decide ((a1.size : Int) ≤ (a0.size : Int)) = false := decide_eq_false c3
  have c3b1 : decide (a1.size ≤ a0.size) = false := decide_eq_false (fun h => c3 (Int.ofNat_le.mpr h))
  clear c3
  obtain rfl := Oi H
  go_enter Tryd.func47, Tryd.ntmps47
  go_wp2
  go_ret
  exact ⟨by first | rfl | (simp; done) | (simp [*]; done), by repeat (first | exact Drawn0.refl _ | apply Drawn0.step)⟩
def strings_HasSuffix.f (a0 : ByteArray) (a1 : ByteArray) : Option (Bool) := (stringslite_HasSuffix.f a0 a1).bind fun t101 => (some t101)
theorem strings_HasSuffix.calls (a0 : ByteArray) (a1 : ByteArray) (r : Bool) (w : World) (h : strings_HasSuffix.f a0 a1 = some r) :
 Calls Tryd.prog 37 #[.string a0, .string a1] w fun e w' => e = .returned (.bool r) ∧ Drawn0 w w' := by
 have H : ((stringslite_HasSuffix.f a0 a1).bind fun t101 => (some t101)) = some r := h
 clear h
 replace H := Ob H
 obtain ⟨t101, A30, H⟩ := H
 replace H : (some t101) = some r := H
 have A3 := Ak A30
 clear A30
 obtain rfl := Oi H
 go_enter Tryd.func37, Tryd.ntmps37
 go_wp2_with (first | ((with_reducible refine gate_callee (f := 47) rfl ?_); refine goesL_ (some 7) rfl rfl Tryd.func47 (by kernel_rfl) rfl #[.string a0, .string a1] rfl (by (try simp only [List.map_toArray, List.map_cons, List.map_nil]); first | done | rfl | (simp only [List.length_drop, List.length_take]; rfl)) ?_; (with_reducible refine (stringslite_HasSuffix.calls a0 a1 t101 _ A3.out).mono ?_); rintro e w' ⟨rfl, ⟨nd, rfl⟩⟩; refine ⟨_, rfl, ?_⟩))
 go_ret
 exact ⟨by first | rfl | (simp; done) | (simp [*]; done), by repeat (first | exact Drawn0.refl _ | apply Drawn0.step)⟩
def impl_refName.l0 : Nat → List Int → Int → Bool → List (S54) → Int → Int → ByteArray → Int → Option (Int × Int × Bool)
 | 0, _, _, _, _, _, _, _, _ => none
 | k + 1, x0, x1, x2, x15, x16, x17, x102000, x102001 => if x17 < x16 then (if 0 ≤ x17 then (if x17 < (x15.length : Int) then (if (((rd_T54 x15 x17).f0).size : Int) > (x102000.size : Int) then ((impl_standsAt.f k x0 x1 ((rd_T54 x15 x17).f0)).bind fun t107 => (if t107 = true then (impl_refName.l0 k x0 x1 x2 x15 x16 (wrap64 (x17 + 1)) ((rd_T54 x15 x17).f0) ((rd_T54 x15 x17).f1)) else (impl_refName.l0 k x0 x1 x2 x15 x16 (wrap64 (x17 + 1)) x102000 x102001))) else (impl_refName.l0 k x0 x1 x2 x15 x16 (wrap64 (x17 + 1)) x102000 x102001)) else (none)) else (none)) else ((impl_pointAt.f x0 (wrap64 (x1 + (x102000.size : Int)))).bind fun t108 => (if t108 = 61 then (if x102000.toList = ([] : List UInt8) then (some (0, 0, false)) else (if x2 = true then ((strings_HasSuffix.f x102000 (⟨#[59]⟩ : ByteArray)).bind fun t109 => (if t109 = true then (some (x102001, wrap64 (x1 + (x102000.size : Int)), true)) else (some (0, 0, false)))) else (some (x102001, wrap64 (x1 + (x102000.size : Int)), true)))) else ((impl_IsAlpha.f t108).bind fun t110 => (if t110 = true then (if x102000.toList = ([] : List UInt8) then (some (0, 0, false)) else (if x2 = true then ((strings_HasSuffix.f x102000 (⟨#[59]⟩ : ByteArray)).bind fun t111 => (if t111 = true then (some (x102001, wrap64 (x1 + (x102000.size : Int)), true)) else (some (0, 0, false)))) else (some (x102001, wrap64 (x1 + (x102000.size : Int)), true)))) else ((impl_DigitOf.f k t108 10).bind fun t112 => (if x102000.toList = ([] : List UInt8) then (some (0, 0, false)) else (if x2 = true then (if t112 ≥ 0 then ((strings_HasSuffix.f x102000 (⟨#[59]⟩ : ByteArray)).bind fun t113 => (if t113 = true then (some (x102001, wrap64 (x1 + (x102000.size : Int)), true)) else (some (0, 0, false)))) else (some (x102001, wrap64 (x1 + (x102000.size : Int)), true))) else (some (x102001, wrap64 (x1 + (x102000.size : Int)), true)))))))))
def impl_refName.f (k : Nat) (l0 : List Int) (a1 : Int) (a2 : Bool) : Option (Int × Int × Bool) := (impl_Refs.f).bind fun t102 => (impl_refName.l0 k l0 a1 a2 t102 (t102.length : Int) 0 (⟨#[]⟩ : ByteArray) 0)
theorem impl_refName.mono_l : ∀ k, (∀ y0 y1 y2 y3 y4 y5 y6 y7, LeO (impl_refName.l0 k y0 y1 y2 y3 y4 y5 y6 y7) (impl_refName.l0 (k + 1) y0 y1 y2 y3 y4 y5 y6 y7))
 | 0 => fun _ _ _ _ _ _ _ _ r h => by simp [impl_refName.l0] at h
 | k + 1 => by
  have ih0 := impl_refName.mono_l k
  ·intro y0 y1 y2 y3 y4 y5 y6 y7
   unfold impl_refName.l0
   repeat' first
   | (with_reducible exact ih0 _ _ _ _ _ _ _ _)
   | (with_reducible exact impl_DigitOf.mono _ _ _)
   | (with_reducible exact impl_standsAt.mono _ _ _ _)
   | (with_reducible exact LeO.refl _)
   | (with_reducible exact LeO.none _)
   | (with_reducible refine LeO.ite ?_ ?_)
   | (with_reducible refine LeO.bind ?_ (fun _ => ?_))
   | exact ih0 _ _ _ _ _ _ _ _
   | exact impl_DigitOf.mono _ _ _
   | exact impl_standsAt.mono _ _ _ _
   | exact LeO.none _
   | refine LeO.ite ?_ ?_
   | refine LeO.bind ?_ (fun _ => ?_)
theorem impl_refName.mono : ∀ a0 a1 a2 k, LeO (impl_refName.f k a0 a1 a2) (impl_refName.f (k + 1) a0 a1 a2) := by
 intro a0 a1 a2 k
 have ih0 := impl_refName.mono_l k
 unfold impl_refName.f
 repeat' first
  | (with_reducible exact ih0 _ _ _ _ _ _ _ _)
  | (with_reducible exact impl_DigitOf.mono _ _ _)
  | (with_reducible exact impl_standsAt.mono _ _ _ _)
  | (with_reducible exact LeO.refl _)
  | (with_reducible exact LeO.none _)
  | (with_reducible refine LeO.ite ?_ ?_)
  | (with_reducible refine LeO.bind ?_ (fun _ => ?_))
  | exact ih0 _ _ _ _ _ _ _ _
  | exact impl_DigitOf.mono _ _ _
  | exact impl_standsAt.mono _ _ _ _
  | exact LeO.none _
  | refine LeO.ite ?_ ?_
  | refine LeO.bind ?_ (fun _ => ?_)
theorem impl_refName.calls (k : Nat) (A0 : Option Addr) (c0 : Nat) (l0 : List Int) (a1 : Int) (a2 : Bool) (r1 : Int) (r2 : Int) (r3 : Bool) (w : World) (hr0 : Kd.C (Kd.int .i64) w A0 l0.length l0) (hc0 : l0.length ≤ c0) (h : impl_refName.f k l0 a1 a2 = some (r1, r2, r3)) :
 Calls Tryd.prog 22 #[.slice A0 l0.length c0, .int .i64 a1, .bool a2] w fun e w' => e = .returned (.tuple #[.int .i64 r1, .int .i64 r2, .bool r3]) ∧ Below w.heap.size w w' := by
 have hu54 := Tryd.underlying54
 have HR0 := Ak hr0
 have HC0 := Ak hc0
 clear hr0 hc0
 have HB := Ak (Below.refl w.heap.size w)
 have H : ((impl_Refs.f).bind fun t102 => (impl_refName.l0 k l0 a1 a2 t102 (t102.length : Int) 0 (⟨#[]⟩ : ByteArray) 0)) = some (r1, r2, r3) := h
 clear h
 replace H := Ob H
 obtain ⟨t102, A40, H⟩ := H
 replace H : (impl_refName.l0 k l0 a1 a2 t102 (t102.length : Int) 0 (⟨#[]⟩ : ByteArray) 0) = some (r1, r2, r3) := H
 have A4 := Ak A40
 clear A40
 have H' := Ak H
 clear H
 go_enter Tryd.func22, Tryd.ntmps22
 go_wp2_with (first | ((with_reducible refine gate_dst (N := 9) rfl ?_); refine box_event ?hg (N := 9) ?hd (cs := #[.string (⟨#[]⟩ : ByteArray), .int .i64 0]) (t := 54) ?hr ?_; (case hd => rfl); (case hg => rfl); (case hr => first | (go_simp; done) | (go_simp; rfl)); intro gb101 hg w5 hbox hb; have n0_ := Ak (below_step (by repeat (first | exact HB.out | apply below_alloc | apply pw_below_drewN | apply below_drew1)) hb); have n1_ := Ak (hbox); have n2_ := Ak ((by rw [hg]; exact (below_size (by repeat (first | exact HB.out | apply below_alloc | apply pw_below_drewN | apply below_drew1))) : w.heap.size ≤ gb101)); have n3_ := n2_; clear HB; have HB := n0_; have BK101 := n1_; have GW101 := n2_; have GE101 := n3_; clear n0_ n1_ n2_ n3_; clear hb hbox hg) | ((with_reducible refine gate_callee (f := 33) rfl ?_); refine goesL_ (some 15) rfl rfl Tryd.func33 (by kernel_rfl) rfl #[] rfl (by (try simp only [List.map_toArray, List.map_cons, List.map_nil]); first | done | rfl | (simp only [List.length_drop, List.length_take]; rfl)) ?_; (with_reducible refine (impl_Refs.calls  t102 _ A4.out).mono ?_); rintro e w6 ⟨v103, rfl, ho0, hb⟩; refine ⟨_, rfl, ?_⟩; have n0_ := Ak (Kd.R_lower (Kd.R_newB ho0 (g := gb101) (o := .cells #[.string (⟨#[]⟩ : ByteArray), .int .i64 0] 54 (0, 0)) (by (with_reducible repeat (first | refine blk_drewN ?_ _ | refine blk_drew ?_ | refine blk_alloc ?_ _)); exact BK101.out)) (below_size (by repeat (first | exact HB.out | apply below_alloc | apply pw_below_drewN | apply below_drew1 | refine below_set ?_ GE101.out)))); have n1_ := Ak (blk_below (g := gb101) (o := .cells #[.string (⟨#[]⟩ : ByteArray), .int .i64 0] 54 (0, 0)) (by (with_reducible repeat (first | refine blk_drewN ?_ _ | refine blk_drew ?_ | refine blk_alloc ?_ _)); exact BK101.out) hb); have n2_ := Ak (below_step (by repeat (first | exact HB.out | apply below_alloc | apply pw_below_drewN | apply below_drew1 | refine below_set ?_ GE101.out)) hb); clear BK101; clear HB; have HO104 := n0_; have BK101 := n1_; have HB := n2_; clear n0_ n1_ n2_; (try clear hb); (try clear hb2); (try clear hk); (try clear hi); (try clear ho0); obtain ⟨Ao7, co7, eo7⟩ := Kd.R_slice HO104.out; subst eo7))
 go_loopg [17] k (fun kq v17 w' => ∃ (x17_1 : Int) (x102000_1 : ByteArray) (x102001_1 : Int), v17 = .int .i64 x17_1 ∧ Aside0 (impl_refName.l0 kq l0 a1 a2 t102 (t102.length : Int) x17_1 x102000_1 x102001_1 = some (r1, r2, r3)) ∧ Aside0 (kq ≤ k) ∧ Aside0 (Kd.R k54 54 w' w.heap.size (fun k_ => k_ ≠ gb101) (.slice Ao7 t102.length co7) t102) ∧ Aside0 (w'.heap[gb101]? = some (.cells #[.string x102000_1, .int .i64 x102001_1] 54 (0, 0))) ∧ Aside0 (Below w.heap.size w w'))
 case atStart => exact ⟨(0), ((⟨#[]⟩ : ByteArray)), (0), (by first | rfl | (simp; done) | (simp [*]; done)), H', ⟨Nat.le_refl _⟩, ⟨by (with_reducible repeat (first | apply Kd.R_alloc | apply Kd.R_drewN | apply Kd.R_drew)); exact Kd.R_mono HO104.out (fun _ hk => hk.2)⟩, ⟨by (with_reducible repeat (first | refine blk_drewN ?_ _ | refine blk_drew ?_ | refine blk_alloc ?_ _)); exact BK101.out⟩, ⟨by repeat (first | exact HB.out | apply below_alloc | apply pw_below_drewN | apply below_drew1 | refine below_set ?_ GE101.out)⟩⟩
 case round =>
  clear H'
  try clear c2
  try clear p2
  try clear c3
  obtain ⟨x17_1, x102000_1, x102001_1, rfl, HA, HK1, HO_15, BK101, HB⟩ := hrel
  cases gk with
  | zero => exact absurd HA.out (by simp [impl_refName.l0])
  | succ k1 =>
   have H := HA.out
   clear HA
   simp only [impl_refName.l0] at H
   by_cases c8 : x17_1 < (t102.length : Int)
   ·rw [if_pos c8] at H
    have c8b0 : decide (x17_1 < (t102.length : Int)) = true := decide_eq_true c8
    clear c8
    by_cases c9 : 0 ≤ x17_1
    ·rw [if_pos c9] at H
     have c9b0 : decide (0 ≤ x17_1) = true := decide_eq_true c9
     clear c9
     by_cases c10 : x17_1 < (t102.length : Int)
     ·rw [if_pos c10] at H
      have c10b0 : decide (x17_1 < (t102.length : Int)) = true := decide_eq_true c10
      clear c10
      by_cases c11 : (((rd_T54 t102 x17_1).f0).size : Int) > (x102000_1.size : Int)
      ·rw [if_pos c11] at H
       have c11b0 : decide ((x102000_1.size : Int) < (((rd_T54 t102 x17_1).f0).size : Int)) = true := decide_eq_true c11
       have c11b1 : decide (x102000_1.size < ((rd_T54 t102 x17_1).f0).size) = true := decide_eq_true (Int.ofNat_lt.mp c11)
       clear c11
       replace H := Ob H
       obtain ⟨t107, A120, H⟩ := H
       replace H : (if t107 = true then (impl_refName.l0 k1 l0 a1 a2 t102 (t102.length : Int) (wrap64 (x17_1 + 1)) ((rd_T54 t102 x17_1).f0) ((rd_T54 t102 x17_1).f1)) else (impl_refName.l0 k1 l0 a1 a2 t102 (t102.length : Int) (wrap64 (x17_1 + 1)) x102000_1 x102001_1)) = some (r1, r2, r3) := H
       have A12 := Ak A120
       clear A120
       by_cases c13 : t107 = true
       ·subst c13
        rw [if_pos rfl] at H
        have H' := Ak H
        clear H
        have p105 : 0 ≤ (x17_1 : Int) := of_decide_eq_true (by assumption)
        have q105 : x17_1 < (t102.length : Int) := of_decide_eq_true (by assumption)
        obtain ⟨ad105, e105, hx105_0, hx105_1⟩ := at_T54 (Kd.R_reads' HO_15.out).2.2 x17_1 p105 q105
        cases e105
        replace p105 := eq_true p105
        replace q105 := eq_true q105
        go_wp2_with (first | ((with_reducible refine gate_dst (N := 11) rfl ?_); refine box_event ?hg (N := 11) ?hd (cs := #[.string (⟨#[]⟩ : ByteArray), .int .i64 0]) (t := 54) ?hr ?_; (case hd => rfl); (case hg => rfl); (case hr => first | (go_simp; done) | (go_simp; rfl)); intro gb106 hg w14 hbox hb; have n0_ := Ak (Kd.R_below (Kd.R_elderB (by (with_reducible repeat (first | apply Kd.R_alloc | apply Kd.R_drewN | apply Kd.R_drew)); exact HO_15.out) gb106 (Nat.le_of_eq hg.symm)) hb); have n1_ := Ak (blk_below (g := gb101) (o := .cells #[.string x102000_1, .int .i64 x102001_1] 54 (0, 0)) (by (with_reducible repeat (first | refine blk_drewN ?_ _ | refine blk_drew ?_ | refine blk_alloc ?_ _)); exact BK101.out) hb); have n2_ := Ak (below_step (by repeat (first | exact HB.out | apply below_alloc | apply pw_below_drewN | apply below_drew1 | refine below_set ?_ GE101.out)) hb); have n3_ := Ak (hbox); have n4_ := Ak ((by rw [hg]; exact (below_size (by repeat (first | exact HB.out | apply below_alloc | apply pw_below_drewN | apply below_drew1 | refine below_set ?_ GE101.out))) : w.heap.size ≤ gb106)); have n5_ := n4_; have n6_ := Ak ((by rw [hg]; exact Nat.ne_of_lt (blk_lt (g := gb101) (o := .cells #[.string x102000_1, .int .i64 x102001_1] 54 (0, 0)) (by (with_reducible repeat (first | refine blk_drewN ?_ _ | refine blk_drew ?_ | refine blk_alloc ?_ _)); exact BK101.out)) : gb101 ≠ gb106)); have n7_ := Ak (Ne.symm n6_.out); clear HO_15; clear BK101; clear HB; have HO_15 := n0_; have BK101 := n1_; have HB := n2_; have BK106 := n3_; have GW106 := n4_; have GE106 := n5_; have NB101_106 := n6_; have NB106_101 := n7_; clear n0_ n1_ n2_ n3_ n4_ n5_ n6_ n7_; clear hb hbox hg; have hnb15 := NB106_101.out; have hnc15 := NB101_106.out; have hcz16_0 := blk_cell BK106.out 0; have hcz16_1 := blk_cell BK106.out 1; have hfz16_0 := blk_frozen BK106.out 0; have hfz16_1 := blk_frozen BK106.out 1; have hcz17_0 := blk_cell BK101.out 0; have hcz17_1 := blk_cell BK101.out 1; have hfz17_0 := blk_frozen BK101.out 0; have hfz17_1 := blk_frozen BK101.out 1) | (go_at_call 34; (with_reducible refine (impl_standsAt.calls k1 _ _ l0 a1 ((rd_T54 t102 x17_1).f0) true _ ?side1 ?side2 A12.out).mono ?_); (case side1 => exact Kd.C_below HR0.out (by repeat (first | exact HB.out | apply below_alloc | apply pw_below_drewN | apply below_drew1 | refine below_set ?_ GE101.out | refine below_set ?_ GE106.out))); (case side2 => exact HC0.out); rintro e w' ⟨rfl, ⟨nd, rfl⟩⟩))
        go_roundg k1
        case measure => have := HK1.out; omega
        case rel => exact ⟨(wrap64 (x17_1 + 1)), ((rd_T54 t102 x17_1).f0), ((rd_T54 t102 x17_1).f1), (by first | rfl | (simp; done) | (simp [*]; done)), H', ⟨by have := HK1.out; omega⟩, ⟨by (with_reducible repeat (first | apply Kd.R_alloc | apply Kd.R_drewN | apply Kd.R_drew)); exact Kd.R_mono (Kd.R_far (p := ⟨gb101, 1, none⟩) (Kd.R_far (p := ⟨gb101, 0, none⟩) (Kd.R_far (p := ⟨gb106, 1, none⟩) (Kd.R_far (p := ⟨gb106, 0, none⟩) (Kd.R_mono (Kd.R_mono HO_15.out (fun k_ hk => (⟨hk, hk.2⟩ : _ ∧ k_ ≠ gb106))) (fun k_ hk => (⟨hk, hk.1.1⟩ : _ ∧ k_ ≠ gb101))) (fun _ hk => hk.1.2) (.string ((rd_T54 t102 x17_1).f0))) (fun _ hk => hk.1.2) (.int .i64 ((rd_T54 t102 x17_1).f1))) (fun _ hk => hk.2) (.string ((rd_T54 t102 x17_1).f0))) (fun _ hk => hk.2) (.int .i64 ((rd_T54 t102 x17_1).f1))) (fun _ hk => hk.1.1.1)⟩, ⟨by (with_reducible repeat (first | refine blk_drewN ?_ _ | refine blk_drew ?_ | refine blk_alloc ?_ _)); refine blk_put (cs := #[.string ((rd_T54 t102 x17_1).f0), .int .i64 x102001_1]) ?_ 1 _ rfl; (with_reducible repeat (first | refine blk_drewN ?_ _ | refine blk_drew ?_ | refine blk_alloc ?_ _)); refine blk_put (cs := #[.string x102000_1, .int .i64 x102001_1]) ?_ 0 _ rfl; (with_reducible repeat (first | refine blk_drewN ?_ _ | refine blk_drew ?_ | refine blk_alloc ?_ _)); refine blk_far ?_ NB101_106.out _; (with_reducible repeat (first | refine blk_drewN ?_ _ | refine blk_drew ?_ | refine blk_alloc ?_ _)); refine blk_far ?_ NB101_106.out _; (with_reducible repeat (first | refine blk_drewN ?_ _ | refine blk_drew ?_ | refine blk_alloc ?_ _)); exact BK101.out⟩, ⟨by repeat (first | exact HB.out | apply below_alloc | apply pw_below_drewN | apply below_drew1 | refine below_set ?_ GE101.out | refine below_set ?_ GE106.out)⟩⟩
       ·replace c13 := Bool.eq_false_iff.mpr c13
        subst c13
        rw [if_neg (show ¬ (false = true) by decide)] at H
        have H' := Ak H
        clear H
        have p105 : 0 ≤ (x17_1 : Int) := of_decide_eq_true (by assumption)
        have q105 : x17_1 < (t102.length : Int) := of_decide_eq_true (by assumption)
        obtain ⟨ad105, e105, hx105_0, hx105_1⟩ := at_T54 (Kd.R_reads' HO_15.out).2.2 x17_1 p105 q105
        cases e105
        replace p105 := eq_true p105
        replace q105 := eq_true q105
        go_wp2_with (first | ((with_reducible refine gate_dst (N := 11) rfl ?_); refine box_event ?hg (N := 11) ?hd (cs := #[.string (⟨#[]⟩ : ByteArray), .int .i64 0]) (t := 54) ?hr ?_; (case hd => rfl); (case hg => rfl); (case hr => first | (go_simp; done) | (go_simp; rfl)); intro gb106 hg w18 hbox hb; have n0_ := Ak (Kd.R_below (Kd.R_elderB (by (with_reducible repeat (first | apply Kd.R_alloc | apply Kd.R_drewN | apply Kd.R_drew)); exact HO_15.out) gb106 (Nat.le_of_eq hg.symm)) hb); have n1_ := Ak (blk_below (g := gb101) (o := .cells #[.string x102000_1, .int .i64 x102001_1] 54 (0, 0)) (by (with_reducible repeat (first | refine blk_drewN ?_ _ | refine blk_drew ?_ | refine blk_alloc ?_ _)); exact BK101.out) hb); have n2_ := Ak (below_step (by repeat (first | exact HB.out | apply below_alloc | apply pw_below_drewN | apply below_drew1 | refine below_set ?_ GE101.out)) hb); have n3_ := Ak (hbox); have n4_ := Ak ((by rw [hg]; exact (below_size (by repeat (first | exact HB.out | apply below_alloc | apply pw_below_drewN | apply below_drew1 | refine below_set ?_ GE101.out))) : w.heap.size ≤ gb106)); have n5_ := n4_; have n6_ := Ak ((by rw [hg]; exact Nat.ne_of_lt (blk_lt (g := gb101) (o := .cells #[.string x102000_1, .int .i64 x102001_1] 54 (0, 0)) (by (with_reducible repeat (first | refine blk_drewN ?_ _ | refine blk_drew ?_ | refine blk_alloc ?_ _)); exact BK101.out)) : gb101 ≠ gb106)); have n7_ := Ak (Ne.symm n6_.out); clear HO_15; clear BK101; clear HB; have HO_15 := n0_; have BK101 := n1_; have HB := n2_; have BK106 := n3_; have GW106 := n4_; have GE106 := n5_; have NB101_106 := n6_; have NB106_101 := n7_; clear n0_ n1_ n2_ n3_ n4_ n5_ n6_ n7_; clear hb hbox hg; have hnb19 := NB106_101.out; have hnc19 := NB101_106.out; have hcz20_0 := blk_cell BK106.out 0; have hcz20_1 := blk_cell BK106.out 1; have hfz20_0 := blk_frozen BK106.out 0; have hfz20_1 := blk_frozen BK106.out 1; have hcz21_0 := blk_cell BK101.out 0; have hcz21_1 := blk_cell BK101.out 1; have hfz21_0 := blk_frozen BK101.out 0; have hfz21_1 := blk_frozen BK101.out 1) | (go_at_call 34; (with_reducible refine (impl_standsAt.calls k1 _ _ l0 a1 ((rd_T54 t102 x17_1).f0) false _ ?side1 ?side2 A12.out).mono ?_); (case side1 => exact Kd.C_below HR0.out (by repeat (first | exact HB.out | apply below_alloc | apply pw_below_drewN | apply below_drew1 | refine below_set ?_ GE101.out | refine below_set ?_ GE106.out))); (case side2 => exact HC0.out); rintro e w' ⟨rfl, ⟨nd, rfl⟩⟩))
        go_roundg k1
        case measure => have := HK1.out; omega
        case rel => exact ⟨(wrap64 (x17_1 + 1)), (x102000_1), (x102001_1), (by first | rfl | (simp; done) | (simp [*]; done)), H', ⟨by have := HK1.out; omega⟩, ⟨by (with_reducible repeat (first | apply Kd.R_alloc | apply Kd.R_drewN | apply Kd.R_drew)); exact Kd.R_mono (Kd.R_far (p := ⟨gb106, 1, none⟩) (Kd.R_far (p := ⟨gb106, 0, none⟩) (Kd.R_mono HO_15.out (fun k_ hk => (⟨hk, hk.2⟩ : _ ∧ k_ ≠ gb106))) (fun _ hk => hk.2) (.string ((rd_T54 t102 x17_1).f0))) (fun _ hk => hk.2) (.int .i64 ((rd_T54 t102 x17_1).f1))) (fun _ hk => hk.1.1)⟩, ⟨by (with_reducible repeat (first | refine blk_drewN ?_ _ | refine blk_drew ?_ | refine blk_alloc ?_ _)); refine blk_far ?_ NB101_106.out _; (with_reducible repeat (first | refine blk_drewN ?_ _ | refine blk_drew ?_ | refine blk_alloc ?_ _)); refine blk_far ?_ NB101_106.out _; (with_reducible repeat (first | refine blk_drewN ?_ _ | refine blk_drew ?_ | refine blk_alloc ?_ _)); exact BK101.out⟩, ⟨by repeat (first | exact HB.out | apply below_alloc | apply pw_below_drewN | apply below_drew1 | refine below_set ?_ GE101.out | refine below_set ?_ GE106.out)⟩⟩
      ·rw [if_neg c11] at H
       have c11b0 : decide ((x102000_1.size : Int) < (((rd_T54 t102 x17_1).f0).size : Int)) = false := decide_eq_false c11
       have c11b1 : decide (x102000_1.size < ((rd_T54 t102 x17_1).f0).size) = false := decide_eq_false (fun h => c11 (Int.ofNat_lt.mpr h))
       clear c11
       have H' := Ak H
       clear H
       have p105 : 0 ≤ (x17_1 : Int) := of_decide_eq_true (by assumption)
       have q105 : x17_1 < (t102.length : Int) := of_decide_eq_true (by assumption)
       obtain ⟨ad105, e105, hx105_0, hx105_1⟩ := at_T54 (Kd.R_reads' HO_15.out).2.2 x17_1 p105 q105
       cases e105
       replace p105 := eq_true p105
       replace q105 := eq_true q105
       go_wp2_with (first | ((with_reducible refine gate_dst (N := 11) rfl ?_); refine box_event ?hg (N := 11) ?hd (cs := #[.string (⟨#[]⟩ : ByteArray), .int .i64 0]) (t := 54) ?hr ?_; (case hd => rfl); (case hg => rfl); (case hr => first | (go_simp; done) | (go_simp; rfl)); intro gb106 hg w22 hbox hb; have n0_ := Ak (Kd.R_below (Kd.R_elderB (by (with_reducible repeat (first | apply Kd.R_alloc | apply Kd.R_drewN | apply Kd.R_drew)); exact HO_15.out) gb106 (Nat.le_of_eq hg.symm)) hb); have n1_ := Ak (blk_below (g := gb101) (o := .cells #[.string x102000_1, .int .i64 x102001_1] 54 (0, 0)) (by (with_reducible repeat (first | refine blk_drewN ?_ _ | refine blk_drew ?_ | refine blk_alloc ?_ _)); exact BK101.out) hb); have n2_ := Ak (below_step (by repeat (first | exact HB.out | apply below_alloc | apply pw_below_drewN | apply below_drew1 | refine below_set ?_ GE101.out)) hb); have n3_ := Ak (hbox); have n4_ := Ak ((by rw [hg]; exact (below_size (by repeat (first | exact HB.out | apply below_alloc | apply pw_below_drewN | apply below_drew1 | refine below_set ?_ GE101.out))) : w.heap.size ≤ gb106)); have n5_ := n4_; have n6_ := Ak ((by rw [hg]; exact Nat.ne_of_lt (blk_lt (g := gb101) (o := .cells #[.string x102000_1, .int .i64 x102001_1] 54 (0, 0)) (by (with_reducible repeat (first | refine blk_drewN ?_ _ | refine blk_drew ?_ | refine blk_alloc ?_ _)); exact BK101.out)) : gb101 ≠ gb106)); have n7_ := Ak (Ne.symm n6_.out); clear HO_15; clear BK101; clear HB; have HO_15 := n0_; have BK101 := n1_; have HB := n2_; have BK106 := n3_; have GW106 := n4_; have GE106 := n5_; have NB101_106 := n6_; have NB106_101 := n7_; clear n0_ n1_ n2_ n3_ n4_ n5_ n6_ n7_; clear hb hbox hg; have hnb23 := NB106_101.out; have hnc23 := NB101_106.out; have hcz24_0 := blk_cell BK106.out 0; have hcz24_1 := blk_cell BK106.out 1; have hfz24_0 := blk_frozen BK106.out 0; have hfz24_1 := blk_frozen BK106.out 1; have hcz25_0 := blk_cell BK101.out 0; have hcz25_1 := blk_cell BK101.out 1; have hfz25_0 := blk_frozen BK101.out 0; have hfz25_1 := blk_frozen BK101.out 1))
       go_roundg k1
       case measure => have := HK1.out; omega
       case rel => exact ⟨(wrap64 (x17_1 + 1)), (x102000_1), (x102001_1), (by first | rfl | (simp; done) | (simp [*]; done)), H', ⟨by have := HK1.out; omega⟩, ⟨by (with_reducible repeat (first | apply Kd.R_alloc | apply Kd.R_drewN | apply Kd.R_drew)); exact Kd.R_mono (Kd.R_far (p := ⟨gb106, 1, none⟩) (Kd.R_far (p := ⟨gb106, 0, none⟩) (Kd.R_mono HO_15.out (fun k_ hk => (⟨hk, hk.2⟩ : _ ∧ k_ ≠ gb106))) (fun _ hk => hk.2) (.string ((rd_T54 t102 x17_1).f0))) (fun _ hk => hk.2) (.int .i64 ((rd_T54 t102 x17_1).f1))) (fun _ hk => hk.1.1)⟩, ⟨by (with_reducible repeat (first | refine blk_drewN ?_ _ | refine blk_drew ?_ | refine blk_alloc ?_ _)); refine blk_far ?_ NB101_106.out _; (with_reducible repeat (first | refine blk_drewN ?_ _ | refine blk_drew ?_ | refine blk_alloc ?_ _)); refine blk_far ?_ NB101_106.out _; (with_reducible repeat (first | refine blk_drewN ?_ _ | refine blk_drew ?_ | refine blk_alloc ?_ _)); exact BK101.out⟩, ⟨by repeat (first | exact HB.out | apply below_alloc | apply pw_below_drewN | apply below_drew1 | refine below_set ?_ GE101.out | refine below_set ?_ GE106.out)⟩⟩
     ·rw [if_neg c10] at H
      exact absurd H (by simp)
    ·rw [if_neg c9] at H
     exact absurd H (by simp)
   ·rw [if_neg c8] at H
    have c8b0 : decide (x17_1 < (t102.length : Int)) = false := decide_eq_false c8
    clear c8
    replace H := Ob H
    obtain ⟨t108, A260, H⟩ := H
    replace H : (if t108 = 61 then (if x102000_1.toList = ([] : List UInt8) then (some (0, 0, false)) else (if a2 = true then ((strings_HasSuffix.f x102000_1 (⟨#[59]⟩ : ByteArray)).bind fun t109 => (if t109 = true then (some (x102001_1, wrap64 (a1 + (x102000_1.size : Int)), true)) else (some (0, 0, false)))) else (some (x102001_1, wrap64 (a1 + (x102000_1.size : Int)), true)))) else ((impl_IsAlpha.f t108).bind fun t110 => (if t110 = true then (if x102000_1.toList = ([] : List UInt8) then (some (0, 0, false)) else (if a2 = true then ((strings_HasSuffix.f x102000_1 (⟨#[59]⟩ : ByteArray)).bind fun t111 => (if t111 = true then (some (x102001_1, wrap64 (a1 + (x102000_1.size : Int)), true)) else (some (0, 0, false)))) else (some (x102001_1, wrap64 (a1 + (x102000_1.size : Int)), true)))) else ((impl_DigitOf.f k1 t108 10).bind fun t112 => (if x102000_1.toList = ([] : List UInt8) then (some (0, 0, false)) else (if a2 = true then (if t112 ≥ 0 then ((strings_HasSuffix.f x102000_1 (⟨#[59]⟩ : ByteArray)).bind fun t113 => (if t113 = true then (some (x102001_1, wrap64 (a1 + (x102000_1.size : Int)), true)) else (some (0, 0, false)))) else (some (x102001_1, wrap64 (a1 + (x102000_1.size : Int)), true))) else (some (x102001_1, wrap64 (a1 + (x102000_1.size : Int)), true)))))))) = some (r1, r2, r3) := H
    have A26 := Ak A260
    clear A260
    by_cases c27 : t108 = 61
    ·rw [if_pos c27] at H
     have c27b0 : (t108 == 61) = true := beq_iff_eq.mpr c27
     have c27b1 : (t108 != 61) = false := bne_eq_false_iff_eq.mpr c27
     clear c27
     by_cases c28 : x102000_1.toList = ([] : List UInt8)
     ·rw [if_pos c28] at H
      have c28b0 : (x102000_1.toList == ([] : List UInt8)) = true := beq_iff_eq.mpr c28
      have c28b1 : (x102000_1.toList != ([] : List UInt8)) = false := bne_eq_false_iff_eq.mpr c28
      clear c28
      simp only [Option.some.injEq, Prod.mk.injEq] at H
      obtain ⟨rfl, rfl, rfl⟩ := H
      have hcz29_0 := blk_cell BK101.out 0
      have hcz29_1 := blk_cell BK101.out 1
      have hfz29_0 := blk_frozen BK101.out 0
      have hfz29_1 := blk_frozen BK101.out 1
      go_wp2_with (first | ((with_reducible refine gate_callee (f := 20) rfl ?_); refine goesL_ (some 44) rfl rfl Tryd.func20 (by kernel_rfl) rfl #[.slice A0 l0.length c0, .int .i64 (wrap64 (a1 + (x102000_1.size : Int)))] rfl (by (try simp only [List.map_toArray, List.map_cons, List.map_nil]); first | done | rfl | (simp only [List.length_drop, List.length_take]; rfl)) ?_; (with_reducible refine (impl_pointAt.calls _ _ l0 (wrap64 (a1 + (x102000_1.size : Int))) t108 _ ?side1 ?side2 A26.out).mono ?_); (case side1 => repeat (first | exact (Kd.C_below HR0.out HB.out) | (with_reducible refine Kd.C_alloc ?_ _) | (with_reducible refine Kd.C_drewN ?_ _) | (with_reducible refine Kd.C_drew ?_))); (case side2 => exact HC0.out); rintro e w' ⟨rfl, ⟨nd, rfl⟩⟩; refine ⟨_, rfl, ?_⟩))
      go_ret3
      exact ⟨by first | rfl | (simp [*] <;> rfl), by repeat (first | exact HB.out | apply below_alloc | apply pw_below_drewN | apply below_drew1 | refine below_set ?_ GE101.out)⟩
     ·rw [if_neg c28] at H
      have c28b0 : (x102000_1.toList == ([] : List UInt8)) = false := beq_eq_false_iff_ne.mpr c28
      have c28b1 : (x102000_1.toList != ([] : List UInt8)) = true := bne_iff_ne.mpr c28
      by_cases c30 : a2 = true
      ·subst c30
       rw [if_pos rfl] at H
       replace H := Ob H
       obtain ⟨t109, A310, H⟩ := H
       replace H : (if t109 = true then (some (x102001_1, wrap64 (a1 + (x102000_1.size : Int)), true)) else (some (0, 0, false))) = some (r1, r2, r3) := H
       have A31 := Ak A310
       clear A310
       by_cases c32 : t109 = true
       ·subst c32
        rw [if_pos rfl] at H
        simp only [Option.some.injEq, Prod.mk.injEq] at H
        obtain ⟨rfl, rfl, rfl⟩ := H
        have hcz33_0 := blk_cell BK101.out 0
        have hcz33_1 := blk_cell BK101.out 1
        have hfz33_0 := blk_frozen BK101.out 0
        have hfz33_1 := blk_frozen BK101.out 1
        go_wp2_with (first | ((with_reducible refine gate_callee (f := 20) rfl ?_); refine goesL_ (some 44) rfl rfl Tryd.func20 (by kernel_rfl) rfl #[.slice A0 l0.length c0, .int .i64 (wrap64 (a1 + (x102000_1.size : Int)))] rfl (by (try simp only [List.map_toArray, List.map_cons, List.map_nil]); first | done | rfl | (simp only [List.length_drop, List.length_take]; rfl)) ?_; (with_reducible refine (impl_pointAt.calls _ _ l0 (wrap64 (a1 + (x102000_1.size : Int))) t108 _ ?side1 ?side2 A26.out).mono ?_); (case side1 => repeat (first | exact (Kd.C_below HR0.out HB.out) | (with_reducible refine Kd.C_alloc ?_ _) | (with_reducible refine Kd.C_drewN ?_ _) | (with_reducible refine Kd.C_drew ?_))); (case side2 => exact HC0.out); rintro e w' ⟨rfl, ⟨nd, rfl⟩⟩; refine ⟨_, rfl, ?_⟩) | (go_at_call 37; (with_reducible refine (strings_HasSuffix.calls x102000_1 (⟨#[59]⟩ : ByteArray) true _ A31.out).mono ?_); rintro e w' ⟨rfl, ⟨nd, rfl⟩⟩))
        go_ret3
        exact ⟨by first | rfl | (simp [*] <;> rfl), by repeat (first | exact HB.out | apply below_alloc | apply pw_below_drewN | apply below_drew1 | refine below_set ?_ GE101.out)⟩
       ·replace c32 := Bool.eq_false_iff.mpr c32
        subst c32
        rw [if_neg (show ¬ (false = true) by decide)] at H
        simp only [Option.some.injEq, Prod.mk.injEq] at H
        obtain ⟨rfl, rfl, rfl⟩ := H
        have hcz34_0 := blk_cell BK101.out 0
        have hcz34_1 := blk_cell BK101.out 1
        have hfz34_0 := blk_frozen BK101.out 0
        have hfz34_1 := blk_frozen BK101.out 1
        go_wp2_with (first | ((with_reducible refine gate_callee (f := 20) rfl ?_); refine goesL_ (some 44) rfl rfl Tryd.func20 (by kernel_rfl) rfl #[.slice A0 l0.length c0, .int .i64 (wrap64 (a1 + (x102000_1.size : Int)))] rfl (by (try simp only [List.map_toArray, List.map_cons, List.map_nil]); first | done | rfl | (simp only [List.length_drop, List.length_take]; rfl)) ?_; (with_reducible refine (impl_pointAt.calls _ _ l0 (wrap64 (a1 + (x102000_1.size : Int))) t108 _ ?side1 ?side2 A26.out).mono ?_); (case side1 => repeat (first | exact (Kd.C_below HR0.out HB.out) | (with_reducible refine Kd.C_alloc ?_ _) | (with_reducible refine Kd.C_drewN ?_ _) | (with_reducible refine Kd.C_drew ?_))); (case side2 => exact HC0.out); rintro e w' ⟨rfl, ⟨nd, rfl⟩⟩; refine ⟨_, rfl, ?_⟩) | (go_at_call 37; (with_reducible refine (strings_HasSuffix.calls x102000_1 (⟨#[59]⟩ : ByteArray) false _ A31.out).mono ?_); rintro e w' ⟨rfl, ⟨nd, rfl⟩⟩))
        go_ret3
        exact ⟨by first | rfl | (simp [*] <;> rfl), by repeat (first | exact HB.out | apply below_alloc | apply pw_below_drewN | apply below_drew1 | refine below_set ?_ GE101.out)⟩
      ·replace c30 := Bool.eq_false_iff.mpr c30
       subst c30
       rw [if_neg (show ¬ (false = true) by decide)] at H
       simp only [Option.some.injEq, Prod.mk.injEq] at H
       obtain ⟨rfl, rfl, rfl⟩ := H
       have hcz35_0 := blk_cell BK101.out 0
       have hcz35_1 := blk_cell BK101.out 1
       have hfz35_0 := blk_frozen BK101.out 0
       have hfz35_1 := blk_frozen BK101.out 1
       go_wp2_with (first | ((with_reducible refine gate_callee (f := 20) rfl ?_); refine goesL_ (some 44) rfl rfl Tryd.func20 (by kernel_rfl) rfl #[.slice A0 l0.length c0, .int .i64 (wrap64 (a1 + (x102000_1.size : Int)))] rfl (by (try simp only [List.map_toArray, List.map_cons, List.map_nil]); first | done | rfl | (simp only [List.length_drop, List.length_take]; rfl)) ?_; (with_reducible refine (impl_pointAt.calls _ _ l0 (wrap64 (a1 + (x102000_1.size : Int))) t108 _ ?side1 ?side2 A26.out).mono ?_); (case side1 => repeat (first | exact (Kd.C_below HR0.out HB.out) | (with_reducible refine Kd.C_alloc ?_ _) | (with_reducible refine Kd.C_drewN ?_ _) | (with_reducible refine Kd.C_drew ?_))); (case side2 => exact HC0.out); rintro e w' ⟨rfl, ⟨nd, rfl⟩⟩; refine ⟨_, rfl, ?_⟩))
       go_ret3
       exact ⟨by first | rfl | (simp [*] <;> rfl), by repeat (first | exact HB.out | apply below_alloc | apply pw_below_drewN | apply below_drew1 | refine below_set ?_ GE101.out)⟩
    ·rw [if_neg c27] at H
     have c27b0 : (t108 == 61) = false := beq_eq_false_iff_ne.mpr c27
     have c27b1 : (t108 != 61) = true := bne_iff_ne.mpr c27
     replace H := Ob H
     obtain ⟨t110, A360, H⟩ := H
     replace H : (if t110 = true then (if x102000_1.toList = ([] : List UInt8) then (some (0, 0, false)) else (if a2 = true then ((strings_HasSuffix.f x102000_1 (⟨#[59]⟩ : ByteArray)).bind fun t111 => (if t111 = true then (some (x102001_1, wrap64 (a1 + (x102000_1.size : Int)), true)) else (some (0, 0, false)))) else (some (x102001_1, wrap64 (a1 + (x102000_1.size : Int)), true)))) else ((impl_DigitOf.f k1 t108 10).bind fun t112 => (if x102000_1.toList = ([] : List UInt8) then (some (0, 0, false)) else (if a2 = true then (if t112 ≥ 0 then ((strings_HasSuffix.f x102000_1 (⟨#[59]⟩ : ByteArray)).bind fun t113 => (if t113 = true then (some (x102001_1, wrap64 (a1 + (x102000_1.size : Int)), true)) else (some (0, 0, false)))) else (some (x102001_1, wrap64 (a1 + (x102000_1.size : Int)), true))) else (some (x102001_1, wrap64 (a1 + (x102000_1.size : Int)), true)))))) = some (r1, r2, r3) := H
     have A36 := Ak A360
     clear A360
     by_cases c37 : t110 = true
     ·subst c37
      rw [if_pos rfl] at H
      by_cases c38 : x102000_1.toList = ([] : List UInt8)
      ·rw [if_pos c38] at H
       have c38b0 : (x102000_1.toList == ([] : List UInt8)) = true := beq_iff_eq.mpr c38
       have c38b1 : (x102000_1.toList != ([] : List UInt8)) = false := bne_eq_false_iff_eq.mpr c38
       clear c38
       simp only [Option.some.injEq, Prod.mk.injEq] at H
       obtain ⟨rfl, rfl, rfl⟩ := H
       have hcz39_0 := blk_cell BK101.out 0
       have hcz39_1 := blk_cell BK101.out 1
       have hfz39_0 := blk_frozen BK101.out 0
       have hfz39_1 := blk_frozen BK101.out 1
       go_wp2_with (first | ((with_reducible refine gate_callee (f := 20) rfl ?_); refine goesL_ (some 44) rfl rfl Tryd.func20 (by kernel_rfl) rfl #[.slice A0 l0.length c0, .int .i64 (wrap64 (a1 + (x102000_1.size : Int)))] rfl (by (try simp only [List.map_toArray, List.map_cons, List.map_nil]); first | done | rfl | (simp only [List.length_drop, List.length_take]; rfl)) ?_; (with_reducible refine (impl_pointAt.calls _ _ l0 (wrap64 (a1 + (x102000_1.size : Int))) t108 _ ?side1 ?side2 A26.out).mono ?_); (case side1 => repeat (first | exact (Kd.C_below HR0.out HB.out) | (with_reducible refine Kd.C_alloc ?_ _) | (with_reducible refine Kd.C_drewN ?_ _) | (with_reducible refine Kd.C_drew ?_))); (case side2 => exact HC0.out); rintro e w' ⟨rfl, ⟨nd, rfl⟩⟩; refine ⟨_, rfl, ?_⟩) | (go_at_call 35; (with_reducible refine (impl_IsAlpha.calls t108 true _ A36.out).mono ?_); rintro e w' ⟨rfl, ⟨nd, rfl⟩⟩))
       go_ret3
       exact ⟨by first | rfl | (simp [*] <;> rfl), by repeat (first | exact HB.out | apply below_alloc | apply pw_below_drewN | apply below_drew1 | refine below_set ?_ GE101.out)⟩
      ·rw [if_neg c38] at H
       have c38b0 : (x102000_1.toList == ([] : List UInt8)) = false := beq_eq_false_iff_ne.mpr c38
       have c38b1 : (x102000_1.toList != ([] : List UInt8)) = true := bne_iff_ne.mpr c38
       by_cases c40 : a2 = true
       ·subst c40
        rw [if_pos rfl] at H
        replace H := Ob H
        obtain ⟨t111, A410, H⟩ := H
        replace H : (if t111 = true then (some (x102001_1, wrap64 (a1 + (x102000_1.size : Int)), true)) else (some (0, 0, false))) = some (r1, r2, r3) := H
        have A41 := Ak A410
        clear A410
        by_cases c42 : t111 = true
        ·subst c42
         rw [if_pos rfl] at H
         simp only [Option.some.injEq, Prod.mk.injEq] at H
         obtain ⟨rfl, rfl, rfl⟩ := H
         have hcz43_0 := blk_cell BK101.out 0
         have hcz43_1 := blk_cell BK101.out 1
         have hfz43_0 := blk_frozen BK101.out 0
         have hfz43_1 := blk_frozen BK101.out 1
         go_wp2_with (first | ((with_reducible refine gate_callee (f := 20) rfl ?_); refine goesL_ (some 44) rfl rfl Tryd.func20 (by kernel_rfl) rfl #[.slice A0 l0.length c0, .int .i64 (wrap64 (a1 + (x102000_1.size : Int)))] rfl (by (try simp only [List.map_toArray, List.map_cons, List.map_nil]); first | done | rfl | (simp only [List.length_drop, List.length_take]; rfl)) ?_; (with_reducible refine (impl_pointAt.calls _ _ l0 (wrap64 (a1 + (x102000_1.size : Int))) t108 _ ?side1 ?side2 A26.out).mono ?_); (case side1 => repeat (first | exact (Kd.C_below HR0.out HB.out) | (with_reducible refine Kd.C_alloc ?_ _) | (with_reducible refine Kd.C_drewN ?_ _) | (with_reducible refine Kd.C_drew ?_))); (case side2 => exact HC0.out); rintro e w' ⟨rfl, ⟨nd, rfl⟩⟩; refine ⟨_, rfl, ?_⟩) | (go_at_call 35; (with_reducible refine (impl_IsAlpha.calls t108 true _ A36.out).mono ?_); rintro e w' ⟨rfl, ⟨nd, rfl⟩⟩) | (go_at_call 37; (with_reducible refine (strings_HasSuffix.calls x102000_1 (⟨#[59]⟩ : ByteArray) true _ A41.out).mono ?_); rintro e w' ⟨rfl, ⟨nd, rfl⟩⟩))
         go_ret3
         exact ⟨by first | rfl | (simp [*] <;> rfl), by repeat (first | exact HB.out | apply below_alloc | apply pw_below_drewN | apply below_drew1 | refine below_set ?_ GE101.out)⟩
        ·replace c42 := Bool.eq_false_iff.mpr c42
         subst c42
         rw [if_neg (show ¬ (false = true) by decide)] at H
         simp only [Option.some.injEq, Prod.mk.injEq] at H
         obtain ⟨rfl, rfl, rfl⟩ := H
         have hcz44_0 := blk_cell BK101.out 0
         have hcz44_1 := blk_cell BK101.out 1
         have hfz44_0 := blk_frozen BK101.out 0
         have hfz44_1 := blk_frozen BK101.out 1
         go_wp2_with (first | ((with_reducible refine gate_callee (f := 20) rfl ?_); refine goesL_ (some 44) rfl rfl Tryd.func20 (by kernel_rfl) rfl #[.slice A0 l0.length c0, .int .i64 (wrap64 (a1 + (x102000_1.size : Int)))] rfl (by (try simp only [List.map_toArray, List.map_cons, List.map_nil]); first | done | rfl | (simp only [List.length_drop, List.length_take]; rfl)) ?_; (with_reducible refine (impl_pointAt.calls _ _ l0 (wrap64 (a1 + (x102000_1.size : Int))) t108 _ ?side1 ?side2 A26.out).mono ?_); (case side1 => repeat (first | exact (Kd.C_below HR0.out HB.out) | (with_reducible refine Kd.C_alloc ?_ _) | (with_reducible refine Kd.C_drewN ?_ _) | (with_reducible refine Kd.C_drew ?_))); (case side2 => exact HC0.out); rintro e w' ⟨rfl, ⟨nd, rfl⟩⟩; refine ⟨_, rfl, ?_⟩) | (go_at_call 35; (with_reducible refine (impl_IsAlpha.calls t108 true _ A36.out).mono ?_); rintro e w' ⟨rfl, ⟨nd, rfl⟩⟩) | (go_at_call 37; (with_reducible refine (strings_HasSuffix.calls x102000_1 (⟨#[59]⟩ : ByteArray) false _ A41.out).mono ?_); rintro e w' ⟨rfl, ⟨nd, rfl⟩⟩))
         go_ret3
         exact ⟨by first | rfl | (simp [*] <;> rfl), by repeat (first | exact HB.out | apply below_alloc | apply pw_below_drewN | apply below_drew1 | refine below_set ?_ GE101.out)⟩
       ·replace c40 := Bool.eq_false_iff.mpr c40
        subst c40
        rw [if_neg (show ¬ (false = true) by decide)] at H
        simp only [Option.some.injEq, Prod.mk.injEq] at H
        obtain ⟨rfl, rfl, rfl⟩ := H
        have hcz45_0 := blk_cell BK101.out 0
        have hcz45_1 := blk_cell BK101.out 1
        have hfz45_0 := blk_frozen BK101.out 0
        have hfz45_1 := blk_frozen BK101.out 1
        go_wp2_with (first | ((with_reducible refine gate_callee (f := 20) rfl ?_); refine goesL_ (some 44) rfl rfl Tryd.func20 (by kernel_rfl) rfl #[.slice A0 l0.length c0, .int .i64 (wrap64 (a1 + (x102000_1.size : Int)))] rfl (by (try simp only [List.map_toArray, List.map_cons, List.map_nil]); first | done | rfl | (simp only [List.length_drop, List.length_take]; rfl)) ?_; (with_reducible refine (impl_pointAt.calls _ _ l0 (wrap64 (a1 + (x102000_1.size : Int))) t108 _ ?side1 ?side2 A26.out).mono ?_); (case side1 => repeat (first | exact (Kd.C_below HR0.out HB.out) | (with_reducible refine Kd.C_alloc ?_ _) | (with_reducible refine Kd.C_drewN ?_ _) | (with_reducible refine Kd.C_drew ?_))); (case side2 => exact HC0.out); rintro e w' ⟨rfl, ⟨nd, rfl⟩⟩; refine ⟨_, rfl, ?_⟩) | (go_at_call 35; (with_reducible refine (impl_IsAlpha.calls t108 true _ A36.out).mono ?_); rintro e w' ⟨rfl, ⟨nd, rfl⟩⟩))
        go_ret3
        exact ⟨by first | rfl | (simp [*] <;> rfl), by repeat (first | exact HB.out | apply below_alloc | apply pw_below_drewN | apply below_drew1 | refine below_set ?_ GE101.out)⟩
     ·replace c37 := Bool.eq_false_iff.mpr c37
      subst c37
      rw [if_neg (show ¬ (false = true) by decide)] at H
      replace H := Ob H
      obtain ⟨t112, A460, H⟩ := H
      replace H : (if x102000_1.toList = ([] : List UInt8) then (some (0, 0, false)) else (if a2 = true then (if t112 ≥ 0 then ((strings_HasSuffix.f x102000_1 (⟨#[59]⟩ : ByteArray)).bind fun t113 => (if t113 = true then (some (x102001_1, wrap64 (a1 + (x102000_1.size : Int)), true)) else (some (0, 0, false)))) else (some (x102001_1, wrap64 (a1 + (x102000_1.size : Int)), true))) else (some (x102001_1, wrap64 (a1 + (x102000_1.size : Int)), true)))) = some (r1, r2, r3) := H
      have A46 := Ak A460
      clear A460
      by_cases c47 : x102000_1.toList = ([] : List UInt8)
      ·rw [if_pos c47] at H
       have c47b0 : (x102000_1.toList == ([] : List UInt8)) = true := beq_iff_eq.mpr c47
       have c47b1 : (x102000_1.toList != ([] : List UInt8)) = false := bne_eq_false_iff_eq.mpr c47
       clear c47
       simp only [Option.some.injEq, Prod.mk.injEq] at H
       obtain ⟨rfl, rfl, rfl⟩ := H
       have hcz48_0 := blk_cell BK101.out 0
       have hcz48_1 := blk_cell BK101.out 1
       have hfz48_0 := blk_frozen BK101.out 0
       have hfz48_1 := blk_frozen BK101.out 1
       go_wp2_with (first | ((with_reducible refine gate_callee (f := 20) rfl ?_); refine goesL_ (some 44) rfl rfl Tryd.func20 (by kernel_rfl) rfl #[.slice A0 l0.length c0, .int .i64 (wrap64 (a1 + (x102000_1.size : Int)))] rfl (by (try simp only [List.map_toArray, List.map_cons, List.map_nil]); first | done | rfl | (simp only [List.length_drop, List.length_take]; rfl)) ?_; (with_reducible refine (impl_pointAt.calls _ _ l0 (wrap64 (a1 + (x102000_1.size : Int))) t108 _ ?side1 ?side2 A26.out).mono ?_); (case side1 => repeat (first | exact (Kd.C_below HR0.out HB.out) | (with_reducible refine Kd.C_alloc ?_ _) | (with_reducible refine Kd.C_drewN ?_ _) | (with_reducible refine Kd.C_drew ?_))); (case side2 => exact HC0.out); rintro e w' ⟨rfl, ⟨nd, rfl⟩⟩; refine ⟨_, rfl, ?_⟩) | (go_at_call 35; (with_reducible refine (impl_IsAlpha.calls t108 false _ A36.out).mono ?_); rintro e w' ⟨rfl, ⟨nd, rfl⟩⟩) | (go_at_call 36; (with_reducible refine (impl_DigitOf.calls k1 t108 10 t112 _ A46.out).mono ?_); rintro e w' ⟨rfl, ⟨nd, rfl⟩⟩))
       go_ret3
       exact ⟨by first | rfl | (simp [*] <;> rfl), by repeat (first | exact HB.out | apply below_alloc | apply pw_below_drewN | apply below_drew1 | refine below_set ?_ GE101.out)⟩
      ·rw [if_neg c47] at H
       have c47b0 : (x102000_1.toList == ([] : List UInt8)) = false := beq_eq_false_iff_ne.mpr c47
       have c47b1 : (x102000_1.toList != ([] : List UInt8)) = true := bne_iff_ne.mpr c47
       by_cases c49 : a2 = true
       ·subst c49
        rw [if_pos rfl] at H
        by_cases c50 : t112 ≥ 0
        ·rw [if_pos c50] at H
         have c50b0 : decide (0 ≤ t112) = true := decide_eq_true c50
         clear c50
         replace H := Ob H
         obtain ⟨t113, A510, H⟩ := H
         replace H : (if t113 = true then (some (x102001_1, wrap64 (a1 + (x102000_1.size : Int)), true)) else (some (0, 0, false))) = some (r1, r2, r3) := H
         have A51 := Ak A510
         clear A510
         by_cases c52 : t113 = true
         ·subst c52
          rw [if_pos rfl] at H
          simp only [Option.some.injEq, Prod.mk.injEq] at H
          obtain ⟨rfl, rfl, rfl⟩ := H
          have hcz53_0 := blk_cell BK101.out 0
          have hcz53_1 := blk_cell BK101.out 1
          have hfz53_0 := blk_frozen BK101.out 0
          have hfz53_1 := blk_frozen BK101.out 1
          go_wp2_with (first | ((with_reducible refine gate_callee (f := 20) rfl ?_); refine goesL_ (some 44) rfl rfl Tryd.func20 (by kernel_rfl) rfl #[.slice A0 l0.length c0, .int .i64 (wrap64 (a1 + (x102000_1.size : Int)))] rfl (by (try simp only [List.map_toArray, List.map_cons, List.map_nil]); first | done | rfl | (simp only [List.length_drop, List.length_take]; rfl)) ?_; (with_reducible refine (impl_pointAt.calls _ _ l0 (wrap64 (a1 + (x102000_1.size : Int))) t108 _ ?side1 ?side2 A26.out).mono ?_); (case side1 => repeat (first | exact (Kd.C_below HR0.out HB.out) | (with_reducible refine Kd.C_alloc ?_ _) | (with_reducible refine Kd.C_drewN ?_ _) | (with_reducible refine Kd.C_drew ?_))); (case side2 => exact HC0.out); rintro e w' ⟨rfl, ⟨nd, rfl⟩⟩; refine ⟨_, rfl, ?_⟩) | (go_at_call 35; (with_reducible refine (impl_IsAlpha.calls t108 false _ A36.out).mono ?_); rintro e w' ⟨rfl, ⟨nd, rfl⟩⟩) | (go_at_call 36; (with_reducible refine (impl_DigitOf.calls k1 t108 10 t112 _ A46.out).mono ?_); rintro e w' ⟨rfl, ⟨nd, rfl⟩⟩) | (go_at_call 37; (with_reducible refine (strings_HasSuffix.calls x102000_1 (⟨#[59]⟩ : ByteArray) true _ A51.out).mono ?_); rintro e w' ⟨rfl, ⟨nd, rfl⟩⟩))
          go_ret3
          exact ⟨by first | rfl | (simp [*] <;> rfl), by repeat (first | exact HB.out | apply below_alloc | apply pw_below_drewN | apply below_drew1 | refine below_set ?_ GE101.out)⟩
         ·replace c52 := Bool.eq_false_iff.mpr c52
          subst c52
          rw [if_neg (show ¬ (false = true) by decide)] at H
          simp only [Option.some.injEq, Prod.mk.injEq] at H
          obtain ⟨rfl, rfl, rfl⟩ := H
          have hcz54_0 := blk_cell BK101.out 0
          have hcz54_1 := blk_cell BK101.out 1
          have hfz54_0 := blk_frozen BK101.out 0
          have hfz54_1 := blk_frozen BK101.out 1
          go_wp2_with (first | ((with_reducible refine gate_callee (f := 20) rfl ?_); refine goesL_ (some 44) rfl rfl Tryd.func20 (by kernel_rfl) rfl #[.slice A0 l0.length c0, .int .i64 (wrap64 (a1 + (x102000_1.size : Int)))] rfl (by (try simp only [List.map_toArray, List.map_cons, List.map_nil]); first | done | rfl | (simp only [List.length_drop, List.length_take]; rfl)) ?_; (with_reducible refine (impl_pointAt.calls _ _ l0 (wrap64 (a1 + (x102000_1.size : Int))) t108 _ ?side1 ?side2 A26.out).mono ?_); (case side1 => repeat (first | exact (Kd.C_below HR0.out HB.out) | (with_reducible refine Kd.C_alloc ?_ _) | (with_reducible refine Kd.C_drewN ?_ _) | (with_reducible refine Kd.C_drew ?_))); (case side2 => exact HC0.out); rintro e w' ⟨rfl, ⟨nd, rfl⟩⟩; refine ⟨_, rfl, ?_⟩) | (go_at_call 35; (with_reducible refine (impl_IsAlpha.calls t108 false _ A36.out).mono ?_); rintro e w' ⟨rfl, ⟨nd, rfl⟩⟩) | (go_at_call 36; (with_reducible refine (impl_DigitOf.calls k1 t108 10 t112 _ A46.out).mono ?_); rintro e w' ⟨rfl, ⟨nd, rfl⟩⟩) | (go_at_call 37; (with_reducible refine (strings_HasSuffix.calls x102000_1 (⟨#[59]⟩ : ByteArray) false _ A51.out).mono ?_); rintro e w' ⟨rfl, ⟨nd, rfl⟩⟩))
          go_ret3
          exact ⟨by first | rfl | (simp [*] <;> rfl), by repeat (first | exact HB.out | apply below_alloc | apply pw_below_drewN | apply below_drew1 | refine below_set ?_ GE101.out)⟩
        ·rw [if_neg c50] at H
         have c50b0 : decide (0 ≤ t112) = false := decide_eq_false c50
         clear c50
         simp only [Option.some.injEq, Prod.mk.injEq] at H
         obtain ⟨rfl, rfl, rfl⟩ := H
         have hcz55_0 := blk_cell BK101.out 0
         have hcz55_1 := blk_cell BK101.out 1
         have hfz55_0 := blk_frozen BK101.out 0
         have hfz55_1 := blk_frozen BK101.out 1
         go_wp2_with (first | ((with_reducible refine gate_callee (f := 20) rfl ?_); refine goesL_ (some 44) rfl rfl Tryd.func20 (by kernel_rfl) rfl #[.slice A0 l0.length c0, .int .i64 (wrap64 (a1 + (x102000_1.size : Int)))] rfl (by (try simp only [List.map_toArray, List.map_cons, List.map_nil]); first | done | rfl | (simp only [List.length_drop, List.length_take]; rfl)) ?_; (with_reducible refine (impl_pointAt.calls _ _ l0 (wrap64 (a1 + (x102000_1.size : Int))) t108 _ ?side1 ?side2 A26.out).mono ?_); (case side1 => repeat (first | exact (Kd.C_below HR0.out HB.out) | (with_reducible refine Kd.C_alloc ?_ _) | (with_reducible refine Kd.C_drewN ?_ _) | (with_reducible refine Kd.C_drew ?_))); (case side2 => exact HC0.out); rintro e w' ⟨rfl, ⟨nd, rfl⟩⟩; refine ⟨_, rfl, ?_⟩) | (go_at_call 35; (with_reducible refine (impl_IsAlpha.calls t108 false _ A36.out).mono ?_); rintro e w' ⟨rfl, ⟨nd, rfl⟩⟩) | (go_at_call 36; (with_reducible refine (impl_DigitOf.calls k1 t108 10 t112 _ A46.out).mono ?_); rintro e w' ⟨rfl, ⟨nd, rfl⟩⟩))
         go_ret3
         exact ⟨by first | rfl | (simp [*] <;> rfl), by repeat (first | exact HB.out | apply below_alloc | apply pw_below_drewN | apply below_drew1 | refine below_set ?_ GE101.out)⟩
       ·replace c49 := Bool.eq_false_iff.mpr c49
        subst c49
        rw [if_neg (show ¬ (false = true) by decide)] at H
        simp only [Option.some.injEq, Prod.mk.injEq] at H
        obtain ⟨rfl, rfl, rfl⟩ := H
        have hcz56_0 := blk_cell BK101.out 0
        have hcz56_1 := blk_cell BK101.out 1
        have hfz56_0 := blk_frozen BK101.out 0
        have hfz56_1 := blk_frozen BK101.out 1
        go_wp2_with (first | ((with_reducible refine gate_callee (f := 20) rfl ?_); refine goesL_ (some 44) rfl rfl Tryd.func20 (by kernel_rfl) rfl #[.slice A0 l0.length c0, .int .i64 (wrap64 (a1 + (x102000_1.size : Int)))] rfl (by (try simp only [List.map_toArray, List.map_cons, List.map_nil]); first | done | rfl | (simp only [List.length_drop, List.length_take]; rfl)) ?_; (with_reducible refine (impl_pointAt.calls _ _ l0 (wrap64 (a1 + (x102000_1.size : Int))) t108 _ ?side1 ?side2 A26.out).mono ?_); (case side1 => repeat (first | exact (Kd.C_below HR0.out HB.out) | (with_reducible refine Kd.C_alloc ?_ _) | (with_reducible refine Kd.C_drewN ?_ _) | (with_reducible refine Kd.C_drew ?_))); (case side2 => exact HC0.out); rintro e w' ⟨rfl, ⟨nd, rfl⟩⟩; refine ⟨_, rfl, ?_⟩) | (go_at_call 35; (with_reducible refine (impl_IsAlpha.calls t108 false _ A36.out).mono ?_); rintro e w' ⟨rfl, ⟨nd, rfl⟩⟩) | (go_at_call 36; (with_reducible refine (impl_DigitOf.calls k1 t108 10 t112 _ A46.out).mono ?_); rintro e w' ⟨rfl, ⟨nd, rfl⟩⟩))
        go_ret3
        exact ⟨by first | rfl | (simp [*] <;> rfl), by repeat (first | exact HB.out | apply below_alloc | apply pw_below_drewN | apply below_drew1 | refine below_set ?_ GE101.out)⟩
def impl_RefRead.j0 : Nat → List Int → Int → Bool → Bool → Option (List Int × Int)
 | 0, _, _, _, _ => none
 | k + 1, x0, x1, x2, x19 => if x19 = true then (some (([] : List Int), x1)) else ((impl_pointAt.f x0 (wrap64 (x1 + 1))).bind fun t102 => (if t102 = 35 then ((impl_refDigits.f k x0 (wrap64 (x1 + 2))).bind fun bt103 => (if bt103.2.2 = true then (some ((([bt103.1] : List Int)), bt103.2.1)) else (some ((([38] : List Int)), wrap64 (x1 + 1))))) else ((impl_refName.f k x0 (wrap64 (x1 + 1)) x2).bind fun bt112 => (if bt112.2.2 = true then (some ((([bt112.1] : List Int)), bt112.2.1)) else (some ((([38] : List Int)), wrap64 (x1 + 1)))))))
def impl_RefRead.f (k : Nat) (l0 : List Int) (a1 : Int) (a2 : Bool) : Option (List Int × Int) := if (l0.length : Int) > 3000 then (impl_RefRead.j0 k l0 a1 a2 true) else ((impl_pointAt.f l0 a1).bind fun t101 => (impl_RefRead.j0 k l0 a1 a2 (t101 != 38)))
theorem impl_RefRead.mono_l : ∀ k, (∀ y0 y1 y2 y3, LeO (impl_RefRead.j0 k y0 y1 y2 y3) (impl_RefRead.j0 (k + 1) y0 y1 y2 y3))
 | 0 => fun _ _ _ _ r h => by simp [impl_RefRead.j0] at h
 | k + 1 => by
  have ih0 := impl_RefRead.mono_l k
  ·intro y0 y1 y2 y3
   unfold impl_RefRead.j0
   repeat' first
   | (with_reducible exact ih0 _ _ _ _)
   | (with_reducible exact impl_refDigits.mono _ _ _)
   | (with_reducible exact impl_refName.mono _ _ _ _)
   | (with_reducible exact LeO.refl _)
   | (with_reducible exact LeO.none _)
   | (with_reducible refine LeO.ite ?_ ?_)
   | (with_reducible refine LeO.bind ?_ (fun _ => ?_))
   | exact ih0 _ _ _ _
   | exact impl_refDigits.mono _ _ _
   | exact impl_refName.mono _ _ _ _
   | exact LeO.none _
   | refine LeO.ite ?_ ?_
   | refine LeO.bind ?_ (fun _ => ?_)
theorem impl_RefRead.mono : ∀ a0 a1 a2 k, LeO (impl_RefRead.f k a0 a1 a2) (impl_RefRead.f (k + 1) a0 a1 a2) := by
 intro a0 a1 a2 k
 have ih0 := impl_RefRead.mono_l k
 unfold impl_RefRead.f
 repeat' first
  | (with_reducible exact ih0 _ _ _ _)
  | (with_reducible exact impl_refDigits.mono _ _ _)
  | (with_reducible exact impl_refName.mono _ _ _ _)
  | (with_reducible exact LeO.refl _)
  | (with_reducible exact LeO.none _)
  | (with_reducible refine LeO.ite ?_ ?_)
  | (with_reducible refine LeO.bind ?_ (fun _ => ?_))
  | exact ih0 _ _ _ _
  | exact impl_refDigits.mono _ _ _
  | exact impl_refName.mono _ _ _ _
  | exact LeO.none _
  | refine LeO.ite ?_ ?_
  | refine LeO.bind ?_ (fun _ => ?_)
theorem impl_RefRead.calls (k : Nat) (A0 : Option Addr) (c0 : Nat) (l0 : List Int) (a1 : Int) (a2 : Bool) (r1 : List Int) (r2 : Int) (w : World) (hr0 : Kd.C (Kd.int .i64) w A0 l0.length l0) (hc0 : l0.length ≤ c0) (h : impl_RefRead.f k l0 a1 a2 = some (r1, r2)) :
 Calls Tryd.prog 11 #[.slice A0 l0.length c0, .int .i64 a1, .bool a2] w fun e w' => ∃ v0_ : Value, e = .returned (.tuple #[v0_, .int .i64 r2]) ∧ Kd.R (Kd.int .i64) 3 w' w.heap.size (fun _ => True) v0_ r1 ∧ Below w.heap.size w w' := by
 have HR0 := Ak hr0
 have HC0 := Ak hc0
 clear hr0 hc0
 have HB := Ak (Below.refl w.heap.size w)
 have H : (if (l0.length : Int) > 3000 then (impl_RefRead.j0 k l0 a1 a2 true) else ((impl_pointAt.f l0 a1).bind fun t101 => (impl_RefRead.j0 k l0 a1 a2 (t101 != 38)))) = some (r1, r2) := h
 clear h
 have HC4 := Ak H
 clear H
 go_enter Tryd.func11, Tryd.ntmps11
 go_upto_region 1 with (fail)
 go_cut [19] (fun v19 wc => ∃ (kq : Nat) (x19_3 : Bool), v19 = .bool x19_3 ∧ Aside0 (impl_RefRead.j0 kq l0 a1 a2 x19_3 = some (r1, r2)) ∧ Aside0 (kq ≤ k) ∧ Aside0 (Below w.heap.size w wc))
 case first =>
  have H := HC4.out
  clear HC4
  by_cases c5 : (l0.length : Int) > 3000
  ·rw [if_pos c5] at H
   have c5b0 : decide (3000 < (l0.length : Int)) = true := decide_eq_true c5
   have c5b1 : decide (3000 < l0.length) = true := decide_eq_true (by omega)
   clear c5
   (first | rw [c5b0] | (simp only [i64_w, i32_w]; rw [c5b0]) | skip)
   have H' := Ak H
   clear H
   go_wp2
   go_meet
   case rel => exact ⟨_, (true), (by first | rfl | (simp; done) | (simp [*]; done)), H', ⟨by first | omega | exact Nat.le_refl _⟩, ⟨by repeat (first | exact HB.out | apply below_alloc | apply pw_below_drewN | apply below_drew1)⟩⟩
  ·rw [if_neg c5] at H
   have c5b0 : decide (3000 < (l0.length : Int)) = false := decide_eq_false c5
   have c5b1 : decide (3000 < l0.length) = false := decide_eq_false (by omega)
   clear c5
   (first | rw [c5b0] | (simp only [i64_w, i32_w]; rw [c5b0]) | skip)
   replace H := Ob H
   obtain ⟨t101, A60, H⟩ := H
   replace H : (impl_RefRead.j0 k l0 a1 a2 (t101 != 38)) = some (r1, r2) := H
   have A6 := Ak A60
   clear A60
   have H' := Ak H
   clear H
   go_wp2_with (first | (go_at_call 20; (with_reducible refine (impl_pointAt.calls _ _ l0 a1 t101 _ ?side1 ?side2 A6.out).mono ?_); (case side1 => repeat (first | exact (Kd.C_below HR0.out HB.out) | (with_reducible refine Kd.C_alloc ?_ _) | (with_reducible refine Kd.C_drewN ?_ _) | (with_reducible refine Kd.C_drew ?_))); (case side2 => exact HC0.out); rintro e w' ⟨rfl, ⟨nd, rfl⟩⟩))
   go_meet
   case rel => exact ⟨_, ((t101 != 38)), (by first | rfl | (simp; done) | (simp [*]; done)), H', ⟨by first | omega | exact Nat.le_refl _⟩, ⟨by repeat (first | exact HB.out | apply below_alloc | apply pw_below_drewN | apply below_drew1)⟩⟩
 case rest =>
  clear HC4
  try clear c1
  try clear p2
  try clear c5
  try clear c5b0
  try clear c5b1
  obtain ⟨kq, x19_3, rfl, HA, HJ3, HB⟩ := hcut
  cases kq with
  | zero => exact absurd HA.out (by simp [impl_RefRead.j0])
  | succ kj3 =>
   have H := HA.out
   clear HA
   simp only [impl_RefRead.j0] at H
   by_cases c7 : x19_3 = true
   ·subst c7
    rw [if_pos rfl] at H
    simp only [Option.some.injEq, Prod.mk.injEq] at H
    obtain ⟨rfl, rfl⟩ := H
    go_wp2
    go_ret2
    exact ⟨_, by first | rfl | (simp [*] <;> rfl), by first | exact Kd.R_nil _ _ _ _ _ | exact Kd.N_nil _ _ _ _ _ | exact Kd.V_nil _ _ _ _ _ | exact Kd.Q_nil _ _ _ _ _ | exact Kd.S_nil _ _ _ _ _, by repeat (first | exact HB.out | apply below_alloc | apply pw_below_drewN | apply below_drew1)⟩
   ·replace c7 := Bool.eq_false_iff.mpr c7
    subst c7
    rw [if_neg (show ¬ (false = true) by decide)] at H
    replace H := Ob H
    obtain ⟨t102, A80, H⟩ := H
    replace H : (if t102 = 35 then ((impl_refDigits.f kj3 l0 (wrap64 (a1 + 2))).bind fun bt103 => (if bt103.2.2 = true then (some ((([bt103.1] : List Int)), bt103.2.1)) else (some ((([38] : List Int)), wrap64 (a1 + 1))))) else ((impl_refName.f kj3 l0 (wrap64 (a1 + 1)) a2).bind fun bt112 => (if bt112.2.2 = true then (some ((([bt112.1] : List Int)), bt112.2.1)) else (some ((([38] : List Int)), wrap64 (a1 + 1)))))) = some (r1, r2) := H
    have A8 := Ak A80
    clear A80
    by_cases c9 : t102 = 35
    ·rw [if_pos c9] at H
     have c9b0 : (t102 == 35) = true := beq_iff_eq.mpr c9
     have c9b1 : (t102 != 35) = false := bne_eq_false_iff_eq.mpr c9
     clear c9
     replace H := Ob H
     obtain ⟨⟨t103, t104, t105⟩, A100, H⟩ := H
     replace H : (if t105 = true then (some ((([t103] : List Int)), t104)) else (some ((([38] : List Int)), wrap64 (a1 + 1)))) = some (r1, r2) := H
     have A10 := Ak A100
     clear A100
     by_cases c11 : t105 = true
     ·subst c11
      rw [if_pos rfl] at H
      obtain ⟨y106, hy106⟩ : ∃ y_ : List Int, y_ = (([t103] : List Int)) := ⟨_, rfl⟩
      replace H : (some (y106, t104)) = some (r1, r2) := by first | (rw [hy106]; with_reducible exact H) | (have H2_ := (Option.bind_some _ _).symm.trans H; rw [hy106]; with_reducible exact H2_) | (have H2_ := (Option.bind_some _ _).symm.trans H; with_reducible exact H2_) | with_reducible exact H | (rw [hy106]; exact H) | exact H
      have Ny106 := Ak hy106
      clear hy106
      simp only [Option.some.injEq, Prod.mk.injEq] at H
      obtain ⟨rfl, rfl⟩ := H
      go_wp2_with (first | ((with_reducible refine gate_callee (f := 20) rfl ?_); refine goesL_ (some 24) rfl rfl Tryd.func20 (by kernel_rfl) rfl #[.slice A0 l0.length c0, .int .i64 (wrap64 (a1 + 1))] rfl (by (try simp only [List.map_toArray, List.map_cons, List.map_nil]); first | done | rfl | (simp only [List.length_drop, List.length_take]; rfl)) ?_; (with_reducible refine (impl_pointAt.calls _ _ l0 (wrap64 (a1 + 1)) t102 _ ?side1 ?side2 A8.out).mono ?_); (case side1 => repeat (first | exact (Kd.C_below HR0.out HB.out) | (with_reducible refine Kd.C_alloc ?_ _) | (with_reducible refine Kd.C_drewN ?_ _) | (with_reducible refine Kd.C_drew ?_))); (case side2 => exact HC0.out); rintro e w' ⟨rfl, ⟨nd, rfl⟩⟩; refine ⟨_, rfl, ?_⟩) | ((with_reducible refine gate_callee (f := 21) rfl ?_); refine goesL_ (some 30) rfl rfl Tryd.func21 (by kernel_rfl) rfl #[.slice A0 l0.length c0, .int .i64 (wrap64 (a1 + 2))] rfl (by (try simp only [List.map_toArray, List.map_cons, List.map_nil]); first | done | rfl | (simp only [List.length_drop, List.length_take]; rfl)) ?_; (with_reducible refine (impl_refDigits.calls kj3 _ _ l0 (wrap64 (a1 + 2)) t103 t104 true _ ?side1 ?side2 A10.out).mono ?_); (case side1 => repeat (first | exact (Kd.C_below HR0.out (by repeat (first | exact HB.out | apply below_alloc | apply pw_below_drewN | apply below_drew1))) | (with_reducible refine Kd.C_alloc ?_ _) | (with_reducible refine Kd.C_drewN ?_ _) | (with_reducible refine Kd.C_drew ?_))); (case side2 => exact HC0.out); rintro e w' ⟨rfl, ⟨nd, rfl⟩⟩; refine ⟨_, rfl, ?_⟩) | ((with_reducible refine gate_dst (N := 49) rfl ?_); refine Kd.R_lit (Kd.int .i64) _ 3 ?hg (N := 49) ?hd (xs := ([t103] : List Int)) (inner := [.int .i64 t103]) (ok := fun _ => True) (okp := fun _ => True) ?hr ?hp (fun _ hk => hk) trivial (Below.refl _ _) (Nat.le_refl _) (by simp) ?_; (case hd => rfl); (case hg => rfl); (case hr => first | (go_simp; done) | (go_simp; rfl)); (case hp => exact (Reps.one (show Kd.M (Kd.int .i64) _ _ _ t103 [.int .i64 t103] from rfl) (Reps.none _ _))); intro v107 w12 ho13 hb hg_ hnew_; clear hg_ hnew_; (first | rw [← Ny106.out] at ho13 | (simp only [Int.reduceToNat] at ho13; rw [← Ny106.out] at ho13)); have n0_ := Ak (Kd.R_lower ho13 (below_size (by repeat (first | exact HB.out | apply below_alloc | apply pw_below_drewN | apply below_drew1)))); have n1_ := Ak (below_step (by repeat (first | exact HB.out | apply below_alloc | apply pw_below_drewN | apply below_drew1)) hb); clear HB; have HO108 := n0_; have HB := n1_; clear n0_ n1_; clear hb ho13))
      go_ret2
      exact ⟨_, by first | rfl | (simp [*] <;> rfl), by (with_reducible repeat (first | apply Kd.R_alloc | apply Kd.R_drewN | apply Kd.R_drew)); exact HO108.out, by repeat (first | exact HB.out | apply below_alloc | apply pw_below_drewN | apply below_drew1)⟩
     ·replace c11 := Bool.eq_false_iff.mpr c11
      subst c11
      rw [if_neg (show ¬ (false = true) by decide)] at H
      obtain ⟨y109, hy109⟩ : ∃ y_ : List Int, y_ = (([38] : List Int)) := ⟨_, rfl⟩
      replace H : (some (y109, wrap64 (a1 + 1))) = some (r1, r2) := by first | (rw [hy109]; with_reducible exact H) | (have H2_ := (Option.bind_some _ _).symm.trans H; rw [hy109]; with_reducible exact H2_) | (have H2_ := (Option.bind_some _ _).symm.trans H; with_reducible exact H2_) | with_reducible exact H | (rw [hy109]; exact H) | exact H
      have Ny109 := Ak hy109
      clear hy109
      simp only [Option.some.injEq, Prod.mk.injEq] at H
      obtain ⟨rfl, rfl⟩ := H
      go_wp2_with (first | ((with_reducible refine gate_callee (f := 20) rfl ?_); refine goesL_ (some 24) rfl rfl Tryd.func20 (by kernel_rfl) rfl #[.slice A0 l0.length c0, .int .i64 (wrap64 (a1 + 1))] rfl (by (try simp only [List.map_toArray, List.map_cons, List.map_nil]); first | done | rfl | (simp only [List.length_drop, List.length_take]; rfl)) ?_; (with_reducible refine (impl_pointAt.calls _ _ l0 (wrap64 (a1 + 1)) t102 _ ?side1 ?side2 A8.out).mono ?_); (case side1 => repeat (first | exact (Kd.C_below HR0.out HB.out) | (with_reducible refine Kd.C_alloc ?_ _) | (with_reducible refine Kd.C_drewN ?_ _) | (with_reducible refine Kd.C_drew ?_))); (case side2 => exact HC0.out); rintro e w' ⟨rfl, ⟨nd, rfl⟩⟩; refine ⟨_, rfl, ?_⟩) | ((with_reducible refine gate_callee (f := 21) rfl ?_); refine goesL_ (some 30) rfl rfl Tryd.func21 (by kernel_rfl) rfl #[.slice A0 l0.length c0, .int .i64 (wrap64 (a1 + 2))] rfl (by (try simp only [List.map_toArray, List.map_cons, List.map_nil]); first | done | rfl | (simp only [List.length_drop, List.length_take]; rfl)) ?_; (with_reducible refine (impl_refDigits.calls kj3 _ _ l0 (wrap64 (a1 + 2)) t103 t104 false _ ?side1 ?side2 A10.out).mono ?_); (case side1 => repeat (first | exact (Kd.C_below HR0.out (by repeat (first | exact HB.out | apply below_alloc | apply pw_below_drewN | apply below_drew1))) | (with_reducible refine Kd.C_alloc ?_ _) | (with_reducible refine Kd.C_drewN ?_ _) | (with_reducible refine Kd.C_drew ?_))); (case side2 => exact HC0.out); rintro e w' ⟨rfl, ⟨nd, rfl⟩⟩; refine ⟨_, rfl, ?_⟩) | ((with_reducible refine gate_dst (N := 45) rfl ?_); refine Kd.R_lit (Kd.int .i64) _ 3 ?hg (N := 45) ?hd (xs := ([38] : List Int)) (inner := [.int .i64 38]) (ok := fun _ => True) (okp := fun _ => True) ?hr ?hp (fun _ hk => hk) trivial (Below.refl _ _) (Nat.le_refl _) (by simp) ?_; (case hd => rfl); (case hg => rfl); (case hr => first | (go_simp; done) | (go_simp; rfl)); (case hp => exact (Reps.one (show Kd.M (Kd.int .i64) _ _ _ 38 [.int .i64 38] from rfl) (Reps.none _ _))); intro v110 w14 ho15 hb hg_ hnew_; clear hg_ hnew_; (first | rw [← Ny109.out] at ho15 | (simp only [Int.reduceToNat] at ho15; rw [← Ny109.out] at ho15)); have n0_ := Ak (Kd.R_lower ho15 (below_size (by repeat (first | exact HB.out | apply below_alloc | apply pw_below_drewN | apply below_drew1)))); have n1_ := Ak (below_step (by repeat (first | exact HB.out | apply below_alloc | apply pw_below_drewN | apply below_drew1)) hb); clear HB; have HO111 := n0_; have HB := n1_; clear n0_ n1_; clear hb ho15))
      go_ret2
      exact ⟨_, by first | rfl | (simp [*] <;> rfl), by (with_reducible repeat (first | apply Kd.R_alloc | apply Kd.R_drewN | apply Kd.R_drew)); exact HO111.out, by repeat (first | exact HB.out | apply below_alloc | apply pw_below_drewN | apply below_drew1)⟩
    ·rw [if_neg c9] at H
     have c9b0 : (t102 == 35) = false := beq_eq_false_iff_ne.mpr c9
     have c9b1 : (t102 != 35) = true := bne_iff_ne.mpr c9
     replace H := Ob H
     obtain ⟨⟨t112, t113, t114⟩, A160, H⟩ := H
     replace H : (if t114 = true then (some ((([t112] : List Int)), t113)) else (some ((([38] : List Int)), wrap64 (a1 + 1)))) = some (r1, r2) := H
     have A16 := Ak A160
     clear A160
     by_cases c17 : t114 = true
     ·subst c17
      rw [if_pos rfl] at H
      obtain ⟨y115, hy115⟩ : ∃ y_ : List Int, y_ = (([t112] : List Int)) := ⟨_, rfl⟩
      replace H : (some (y115, t113)) = some (r1, r2) := by first | (rw [hy115]; with_reducible exact H) | (have H2_ := (Option.bind_some _ _).symm.trans H; rw [hy115]; with_reducible exact H2_) | (have H2_ := (Option.bind_some _ _).symm.trans H; with_reducible exact H2_) | with_reducible exact H | (rw [hy115]; exact H) | exact H
      have Ny115 := Ak hy115
      clear hy115
      simp only [Option.some.injEq, Prod.mk.injEq] at H
      obtain ⟨rfl, rfl⟩ := H
      go_wp2_with (first | ((with_reducible refine gate_callee (f := 20) rfl ?_); refine goesL_ (some 24) rfl rfl Tryd.func20 (by kernel_rfl) rfl #[.slice A0 l0.length c0, .int .i64 (wrap64 (a1 + 1))] rfl (by (try simp only [List.map_toArray, List.map_cons, List.map_nil]); first | done | rfl | (simp only [List.length_drop, List.length_take]; rfl)) ?_; (with_reducible refine (impl_pointAt.calls _ _ l0 (wrap64 (a1 + 1)) t102 _ ?side1 ?side2 A8.out).mono ?_); (case side1 => repeat (first | exact (Kd.C_below HR0.out HB.out) | (with_reducible refine Kd.C_alloc ?_ _) | (with_reducible refine Kd.C_drewN ?_ _) | (with_reducible refine Kd.C_drew ?_))); (case side2 => exact HC0.out); rintro e w' ⟨rfl, ⟨nd, rfl⟩⟩; refine ⟨_, rfl, ?_⟩) | ((with_reducible refine gate_callee (f := 22) rfl ?_); refine goesL_ (some 39) rfl rfl Tryd.func22 (by kernel_rfl) rfl #[.slice A0 l0.length c0, .int .i64 (wrap64 (a1 + 1)), .bool a2] rfl (by (try simp only [List.map_toArray, List.map_cons, List.map_nil]); first | done | rfl | (simp only [List.length_drop, List.length_take]; rfl)) ?_; (with_reducible refine (impl_refName.calls kj3 _ _ l0 (wrap64 (a1 + 1)) a2 t112 t113 true _ ?side1 ?side2 A16.out).mono ?_); (case side1 => repeat (first | exact (Kd.C_below HR0.out (by repeat (first | exact HB.out | apply below_alloc | apply pw_below_drewN | apply below_drew1))) | (with_reducible refine Kd.C_alloc ?_ _) | (with_reducible refine Kd.C_drewN ?_ _) | (with_reducible refine Kd.C_drew ?_))); (case side2 => exact HC0.out); rintro e w18 ⟨rfl, hb⟩; refine ⟨_, rfl, ?_⟩; have n0_ := Ak (below_step (by repeat (first | exact HB.out | apply below_alloc | apply pw_below_drewN | apply below_drew1)) hb); clear HB; have HB := n0_; clear n0_; (try clear hb); (try clear hb2); (try clear hk); (try clear hi)) | ((with_reducible refine gate_dst (N := 49) rfl ?_); refine Kd.R_lit (Kd.int .i64) _ 3 ?hg (N := 49) ?hd (xs := ([t112] : List Int)) (inner := [.int .i64 t112]) (ok := fun _ => True) (okp := fun _ => True) ?hr ?hp (fun _ hk => hk) trivial (Below.refl _ _) (Nat.le_refl _) (by simp) ?_; (case hd => rfl); (case hg => rfl); (case hr => first | (go_simp; done) | (go_simp; rfl)); (case hp => exact (Reps.one (show Kd.M (Kd.int .i64) _ _ _ t112 [.int .i64 t112] from rfl) (Reps.none _ _))); intro v116 w19 ho20 hb hg_ hnew_; clear hg_ hnew_; (first | rw [← Ny115.out] at ho20 | (simp only [Int.reduceToNat] at ho20; rw [← Ny115.out] at ho20)); have n0_ := Ak (Kd.R_lower ho20 (below_size (by repeat (first | exact HB.out | apply below_alloc | apply pw_below_drewN | apply below_drew1)))); have n1_ := Ak (below_step (by repeat (first | exact HB.out | apply below_alloc | apply pw_below_drewN | apply below_drew1)) hb); clear HB; have HO117 := n0_; have HB := n1_; clear n0_ n1_; clear hb ho20))
      go_ret2
      exact ⟨_, by first | rfl | (simp [*] <;> rfl), by (with_reducible repeat (first | apply Kd.R_alloc | apply Kd.R_drewN | apply Kd.R_drew)); exact HO117.out, by repeat (first | exact HB.out | apply below_alloc | apply pw_below_drewN | apply below_drew1)⟩
     ·replace c17 := Bool.eq_false_iff.mpr c17
      subst c17
      rw [if_neg (show ¬ (false = true) by decide)] at H
      obtain ⟨y118, hy118⟩ : ∃ y_ : List Int, y_ = (([38] : List Int)) := ⟨_, rfl⟩
      replace H : (some (y118, wrap64 (a1 + 1))) = some (r1, r2) := by first | (rw [hy118]; with_reducible exact H) | (have H2_ := (Option.bind_some _ _).symm.trans H; rw [hy118]; with_reducible exact H2_) | (have H2_ := (Option.bind_some _ _).symm.trans H; with_reducible exact H2_) | with_reducible exact H | (rw [hy118]; exact H) | exact H
      have Ny118 := Ak hy118
      clear hy118
      simp only [Option.some.injEq, Prod.mk.injEq] at H
      obtain ⟨rfl, rfl⟩ := H
      go_wp2_with (first | ((with_reducible refine gate_callee (f := 20) rfl ?_); refine goesL_ (some 24) rfl rfl Tryd.func20 (by kernel_rfl) rfl #[.slice A0 l0.length c0, .int .i64 (wrap64 (a1 + 1))] rfl (by (try simp only [List.map_toArray, List.map_cons, List.map_nil]); first | done | rfl | (simp only [List.length_drop, List.length_take]; rfl)) ?_; (with_reducible refine (impl_pointAt.calls _ _ l0 (wrap64 (a1 + 1)) t102 _ ?side1 ?side2 A8.out).mono ?_); (case side1 => repeat (first | exact (Kd.C_below HR0.out HB.out) | (with_reducible refine Kd.C_alloc ?_ _) | (with_reducible refine Kd.C_drewN ?_ _) | (with_reducible refine Kd.C_drew ?_))); (case side2 => exact HC0.out); rintro e w' ⟨rfl, ⟨nd, rfl⟩⟩; refine ⟨_, rfl, ?_⟩) | ((with_reducible refine gate_callee (f := 22) rfl ?_); refine goesL_ (some 39) rfl rfl Tryd.func22 (by kernel_rfl) rfl #[.slice A0 l0.length c0, .int .i64 (wrap64 (a1 + 1)), .bool a2] rfl (by (try simp only [List.map_toArray, List.map_cons, List.map_nil]); first | done | rfl | (simp only [List.length_drop, List.length_take]; rfl)) ?_; (with_reducible refine (impl_refName.calls kj3 _ _ l0 (wrap64 (a1 + 1)) a2 t112 t113 false _ ?side1 ?side2 A16.out).mono ?_); (case side1 => repeat (first | exact (Kd.C_below HR0.out (by repeat (first | exact HB.out | apply below_alloc | apply pw_below_drewN | apply below_drew1))) | (with_reducible refine Kd.C_alloc ?_ _) | (with_reducible refine Kd.C_drewN ?_ _) | (with_reducible refine Kd.C_drew ?_))); (case side2 => exact HC0.out); rintro e w21 ⟨rfl, hb⟩; refine ⟨_, rfl, ?_⟩; have n0_ := Ak (below_step (by repeat (first | exact HB.out | apply below_alloc | apply pw_below_drewN | apply below_drew1)) hb); clear HB; have HB := n0_; clear n0_; (try clear hb); (try clear hb2); (try clear hk); (try clear hi)) | ((with_reducible refine gate_dst (N := 45) rfl ?_); refine Kd.R_lit (Kd.int .i64) _ 3 ?hg (N := 45) ?hd (xs := ([38] : List Int)) (inner := [.int .i64 38]) (ok := fun _ => True) (okp := fun _ => True) ?hr ?hp (fun _ hk => hk) trivial (Below.refl _ _) (Nat.le_refl _) (by simp) ?_; (case hd => rfl); (case hg => rfl); (case hr => first | (go_simp; done) | (go_simp; rfl)); (case hp => exact (Reps.one (show Kd.M (Kd.int .i64) _ _ _ 38 [.int .i64 38] from rfl) (Reps.none _ _))); intro v119 w22 ho23 hb hg_ hnew_; clear hg_ hnew_; (first | rw [← Ny118.out] at ho23 | (simp only [Int.reduceToNat] at ho23; rw [← Ny118.out] at ho23)); have n0_ := Ak (Kd.R_lower ho23 (below_size (by repeat (first | exact HB.out | apply below_alloc | apply pw_below_drewN | apply below_drew1)))); have n1_ := Ak (below_step (by repeat (first | exact HB.out | apply below_alloc | apply pw_below_drewN | apply below_drew1)) hb); clear HB; have HO120 := n0_; have HB := n1_; clear n0_ n1_; clear hb ho23))
      go_ret2
      exact ⟨_, by first | rfl | (simp [*] <;> rfl), by (with_reducible repeat (first | apply Kd.R_alloc | apply Kd.R_drewN | apply Kd.R_drew)); exact HO120.out, by repeat (first | exact HB.out | apply below_alloc | apply pw_below_drewN | apply below_drew1)⟩
def impl_PointOk.f (a0 : Int) : Option (Bool) := (impl_inRange.f a0 0 1114111).bind fun t101 => (if t101 = true then ((impl_inRange.f a0 55296 57343).bind fun t102 => (some (!t102))) else (some false))
theorem impl_PointOk.calls (a0 : Int) (r : Bool) (w : World) (h : impl_PointOk.f a0 = some r) :
 Calls Tryd.prog 38 #[.int .i64 a0] w fun e w' => e = .returned (.bool r) ∧ Drawn0 w w' := by
 have H : ((impl_inRange.f a0 0 1114111).bind fun t101 => (if t101 = true then ((impl_inRange.f a0 55296 57343).bind fun t102 => (some (!t102))) else (some false))) = some r := h
 clear h
 replace H := Ob H
 obtain ⟨t101, A20, H⟩ := H
 replace H : (if t101 = true then ((impl_inRange.f a0 55296 57343).bind fun t102 => (some (!t102))) else (some false)) = some r := H
 have A2 := Ak A20
 clear A20
 by_cases c3 : t101 = true
 ·subst c3
  rw [if_pos rfl] at H
  replace H := Ob H
  obtain ⟨t102, A40, H⟩ := H
  replace H : (some (!t102)) = some r := H
  have A4 := Ak A40
  clear A40
  obtain rfl := Oi H
  go_enter Tryd.func38, Tryd.ntmps38
  go_wp2_with (first | (go_at_call 29; (with_reducible refine (impl_inRange.calls a0 0 1114111 true _ A2.out).mono ?_); rintro e w' ⟨rfl, ⟨nd, rfl⟩⟩) | (go_at_call 29; (with_reducible refine (impl_inRange.calls a0 55296 57343 t102 _ A4.out).mono ?_); rintro e w' ⟨rfl, ⟨nd, rfl⟩⟩))
  go_ret
  exact ⟨rfl, by repeat (first | exact Drawn0.refl _ | apply Drawn0.step)⟩
 ·replace c3 := Bool.eq_false_iff.mpr c3
  subst c3
  rw [if_neg (show ¬ (false = true) by decide)] at H
  obtain rfl := Oi H
  go_enter Tryd.func38, Tryd.ntmps38
  go_wp2_with (first | (go_at_call 29; (with_reducible refine (impl_inRange.calls a0 0 1114111 false _ A2.out).mono ?_); rintro e w' ⟨rfl, ⟨nd, rfl⟩⟩))
  go_ret
  exact ⟨rfl, by repeat (first | exact Drawn0.refl _ | apply Drawn0.step)⟩
def impl_putPoint.f : Nat → List Int → Int → Option (List Int)
 | 0, _, _ => none
 | k + 1, l0, a1 => (impl_PointOk.f a1).bind fun t101 => (if t101 = true then (if a1 < 128 then (if l0.length < 140737488355328 then (some (l0 ++ [(a1) % 256])) else (none)) else (if a1 < 2048 then ((some (([(Go.bits .or .i64 192 (a1 / 64)) % 256, (Go.bits .or .i64 128 (Go.bits .and .i64 a1 63)) % 256] : List Int) : List Int)).bind fun y105 => (if l0.length + y105.length < 140737488355328 then (some (l0 ++ y105)) else (none))) else (if a1 < 65536 then ((some (([(Go.bits .or .i64 224 (a1 / 4096)) % 256, (Go.bits .or .i64 128 (Go.bits .and .i64 (a1 / 64) 63)) % 256, (Go.bits .or .i64 128 (Go.bits .and .i64 a1 63)) % 256] : List Int) : List Int)).bind fun y111 => (if l0.length + y111.length < 140737488355328 then (some (l0 ++ y111)) else (none))) else ((some (([(Go.bits .or .i64 240 (a1 / 262144)) % 256, (Go.bits .or .i64 128 (Go.bits .and .i64 (a1 / 4096) 63)) % 256, (Go.bits .or .i64 128 (Go.bits .and .i64 (a1 / 64) 63)) % 256, (Go.bits .or .i64 128 (Go.bits .and .i64 a1 63)) % 256] : List Int) : List Int)).bind fun y117 => (if l0.length + y117.length < 140737488355328 then (some (l0 ++ y117)) else (none)))))) else ((impl_putPoint.f k l0 65533).bind fun t123 => (some t123)))
theorem impl_putPoint.mono_l : ∀ k, (∀ y0 y1, LeO (impl_putPoint.f k y0 y1) (impl_putPoint.f (k + 1) y0 y1))
 | 0 => fun _ _ r h => by simp [impl_putPoint.f] at h
 | k + 1 => by
  have ih0 := impl_putPoint.mono_l k
  ·intro y0 y1
   unfold impl_putPoint.f
   repeat' (with_reducible first | exact ih0 _ _ | exact LeO.refl _ | exact LeO.none _ | refine LeO.ite ?_ ?_ | refine LeO.bind ?_ (fun _ => ?_))
theorem impl_putPoint.mono : ∀ a0 a1 k, LeO (impl_putPoint.f k a0 a1) (impl_putPoint.f (k + 1) a0 a1) := by
 intro a0 a1 k
 have ih0 := impl_putPoint.mono_l k
 exact ih0 a0 a1
theorem impl_putPoint.calls (k : Nat) : ∀ (P0_ : Nat → Prop) (u9000_ : Value) (l0 : List Int) (a1 : Int) (r : List Int) (w0 w : World) (hB : Below w0.heap.size w0 w) (ho0 : Kd.R (Kd.int .u8) 5 w w0.heap.size P0_ u9000_ l0) (h : impl_putPoint.f k l0 a1 = some r),
 Calls Tryd.prog 23 #[u9000_, .int .i64 a1] w fun e w' => ∃ v0_ : Value, e = .returned (v0_) ∧ Kd.R (Kd.int .u8) 5 w' w0.heap.size (fun k_ => (P0_ k_ ∨ w.heap.size ≤ k_)) v0_ r ∧ Below w0.heap.size w0 w' ∧ Kept w w' (fun k_ => P0_ k_) := by
 induction k using Nat.strongRecOn with
 | _ k ih =>
 intro P0_ u9000_ l0 a1 r w0 w hB ho0 h
 cases k with
 | zero => exact absurd h (by simp [impl_putPoint.f])
 | succ k =>
 simp only [impl_putPoint.f] at h
 have HO0 := Ak (show Kd.R (Kd.int .u8) 5 w w0.heap.size (fun k_ => (P0_ k_ ∨ w.heap.size ≤ k_)) u9000_ l0 from Kd.R_mono ho0 (fun k_ hk => (.inl hk)))
 have HK := Ak (Kept.refl w (fun k_ => P0_ k_))
 have HW0 := Ak hB.size
 have HB := Ak hB
 clear hB
 have H : ((impl_PointOk.f a1).bind fun t101 => (if t101 = true then (if a1 < 128 then (if l0.length < 140737488355328 then (some (l0 ++ [(a1) % 256])) else (none)) else (if a1 < 2048 then ((some (([(Go.bits .or .i64 192 (a1 / 64)) % 256, (Go.bits .or .i64 128 (Go.bits .and .i64 a1 63)) % 256] : List Int) : List Int)).bind fun y105 => (if l0.length + y105.length < 140737488355328 then (some (l0 ++ y105)) else (none))) else (if a1 < 65536 then ((some (([(Go.bits .or .i64 224 (a1 / 4096)) % 256, (Go.bits .or .i64 128 (Go.bits .and .i64 (a1 / 64) 63)) % 256, (Go.bits .or .i64 128 (Go.bits .and .i64 a1 63)) % 256] : List Int) : List Int)).bind fun y111 => (if l0.length + y111.length < 140737488355328 then (some (l0 ++ y111)) else (none))) else ((some (([(Go.bits .or .i64 240 (a1 / 262144)) % 256, (Go.bits .or .i64 128 (Go.bits .and .i64 (a1 / 4096) 63)) % 256, (Go.bits .or .i64 128 (Go.bits .and .i64 (a1 / 64) 63)) % 256, (Go.bits .or .i64 128 (Go.bits .and .i64 a1 63)) % 256] : List Int) : List Int)).bind fun y117 => (if l0.length + y117.length < 140737488355328 then (some (l0 ++ y117)) else (none)))))) else ((impl_putPoint.f k l0 65533).bind fun t123 => (some t123)))) = some r := h
 clear h
 replace H := Ob H
 obtain ⟨t101, A30, H⟩ := H
 replace H : (if t101 = true then (if a1 < 128 then (if l0.length < 140737488355328 then (some (l0 ++ [(a1) % 256])) else (none)) else (if a1 < 2048 then ((some (([(Go.bits .or .i64 192 (a1 / 64)) % 256, (Go.bits .or .i64 128 (Go.bits .and .i64 a1 63)) % 256] : List Int) : List Int)).bind fun y105 => (if l0.length + y105.length < 140737488355328 then (some (l0 ++ y105)) else (none))) else (if a1 < 65536 then ((some (([(Go.bits .or .i64 224 (a1 / 4096)) % 256, (Go.bits .or .i64 128 (Go.bits .and .i64 (a1 / 64) 63)) % 256, (Go.bits .or .i64 128 (Go.bits .and .i64 a1 63)) % 256] : List Int) : List Int)).bind fun y111 => (if l0.length + y111.length < 140737488355328 then (some (l0 ++ y111)) else (none))) else ((some (([(Go.bits .or .i64 240 (a1 / 262144)) % 256, (Go.bits .or .i64 128 (Go.bits .and .i64 (a1 / 4096) 63)) % 256, (Go.bits .or .i64 128 (Go.bits .and .i64 (a1 / 64) 63)) % 256, (Go.bits .or .i64 128 (Go.bits .and .i64 a1 63)) % 256] : List Int) : List Int)).bind fun y117 => (if l0.length + y117.length < 140737488355328 then (some (l0 ++ y117)) else (none)))))) else ((impl_putPoint.f k l0 65533).bind fun t123 => (some t123))) = some r := H
 have A3 := Ak A30
 clear A30
 by_cases c4 : t101 = true
 ·subst c4
  rw [if_pos rfl] at H
  by_cases c5 : a1 < 128
  ·rw [if_pos c5] at H
   have c5b0 := decide_eq_true c5
   clear c5
   by_cases c6 : l0.length < 140737488355328
   ·rw [if_pos c6] at H
    have LMc6 := Ak c6
    clear c6
    obtain ⟨y102, hy102⟩ : ∃ y_ : List Int, y_ = (l0 ++ [(a1) % 256]) := ⟨_, rfl⟩
    replace H : (some y102) = some r := by rw [hy102]; exact H
    have Ny102 := Ak hy102
    clear hy102
    obtain rfl := Oi H
    go_enter Tryd.func23, Tryd.ntmps23
    go_wp2_with (first | (go_at_call 38; (with_reducible refine (impl_PointOk.calls a1 true _ A3.out).mono ?_); rintro e w' ⟨rfl, ⟨nd, rfl⟩⟩) | ((with_reducible refine gate_builtin (b := .append) (xs := #[.tmp 14, .tmp 17]) rfl ?_); at_builtin; refine Kd.R_append (Kd.int .u8) (w0 := w0) w0.heap.size rfl (.tmp 14) (.tmp 17) 24 5 (.int .u8 0) 1 rfl Tryd.underlying24 info5 rfl (by decide) (by omega) u9000_ l0 ((a1) % 256) [.int .u8 ((a1) % 256)] (fun k_ => (P0_ k_ ∨ w.heap.size ≤ k_)) (fun _ => False) rfl rfl ?aP (fun _ hk => hk.elim) ?aF ?aO ?aB ?aS ?aL ?_; (case aP => exact rfl); (case aB => exact (by repeat (first | (with_reducible first | exact HB.out | apply below_alloc | apply pw_below_drewN | apply below_drew1) | exact HB.out))); (case aF => exact (fun k_ hk => (.inr (Nat.le_trans (by first | exact HK.out.1 | exact (show Kept w _ (fun k_ => P0_ k_) from by repeat (first | (with_reducible first | exact HK.out | apply Kept.alloc | apply Kept.drewN | apply Kept.drew) | exact HK.out)).1) hk)))); (case aO => exact (by (with_reducible repeat (first | apply Kd.R_alloc | apply Kd.R_drewN | apply Kd.R_drew)); exact HO0.out)); (case aS => exact (below_size (by repeat (first | (with_reducible first | exact HB.out | apply below_alloc | apply pw_below_drewN | apply below_drew1) | exact HB.out)))); (case aL => have := LMc6.out; omega); intro v103 w7 ho hb hg hat; rw [← Ny102.out] at ho; have n0_ := Ak (hb); have n1_ := Ak (Kept.of_grown (S := (fun k_ => P0_ k_)) hg (by repeat (first | (with_reducible first | exact HK.out | apply Kept.alloc | apply Kept.drewN | apply Kept.drew) | exact HK.out)) (fun k_ e_ => (HO0.out.1 k_ e_))); have n2_ := Ak (ho); clear HB; clear HK; clear HO0; have HB := n0_; have HK := n1_; have HO104 := n2_; clear n0_ n1_ n2_; clear ho hb hg hat))
    go_ret
    exact ⟨_, rfl, by (with_reducible repeat (first | apply Kd.R_alloc | apply Kd.R_drewN | apply Kd.R_drew)); exact HO104.out, by repeat (first | (with_reducible first | exact HB.out | apply below_alloc | apply pw_below_drewN | apply below_drew1) | exact HB.out), by repeat (first | (with_reducible first | exact HK.out | apply Kept.alloc | apply Kept.drewN | apply Kept.drew) | exact HK.out)⟩
   ·rw [if_neg c6] at H
    exact absurd H (by simp)
  ·rw [if_neg c5] at H
   have c5b0 := decide_eq_false c5
   clear c5
   by_cases c8 : a1 < 2048
   ·rw [if_pos c8] at H
    have c8b0 := decide_eq_true c8
    clear c8
    obtain ⟨y105, hy105⟩ : ∃ y_ : List Int, y_ = (([(Go.bits .or .i64 192 (a1 / 64)) % 256, (Go.bits .or .i64 128 (Go.bits .and .i64 a1 63)) % 256] : List Int)) := ⟨_, rfl⟩
    replace H : (if l0.length + y105.length < 140737488355328 then (some (l0 ++ y105)) else (none)) = some r := by rw [hy105]; exact H
    have Ny105 := Ak hy105
    clear hy105
    by_cases c9 : l0.length + y105.length < 140737488355328
    ·rw [if_pos c9] at H
     have LMc9 := Ak c9
     clear c9
     obtain ⟨y108, hy108⟩ : ∃ y_ : List Int, y_ = (l0 ++ y105) := ⟨_, rfl⟩
     replace H : (some y108) = some r := by rw [hy108]; exact H
     have Ny108 := Ak hy108
     clear hy108
     obtain rfl := Oi H
     go_enter Tryd.func23, Tryd.ntmps23
     go_wp2_with (first | (go_at_call 38; (with_reducible refine (impl_PointOk.calls a1 true _ A3.out).mono ?_); rintro e w' ⟨rfl, ⟨nd, rfl⟩⟩) | ((with_reducible refine gate_dst (N := 31) rfl ?_); refine Kd.R_lit (Kd.int .u8) _ 5 ?hg (N := 31) ?hd (xs := ([(Go.bits .or .i64 192 (a1 / 64)) % 256, (Go.bits .or .i64 128 (Go.bits .and .i64 a1 63)) % 256] : List Int)) (inner := [.int .u8 ((Go.bits .or .i64 192 (a1 / 64)) % 256), .int .u8 ((Go.bits .or .i64 128 (Go.bits .and .i64 a1 63)) % 256)]) (ok := fun _ => True) (okp := fun _ => True) ?hr ?hp (fun _ hk => hk) trivial (Below.refl _ _) (Nat.le_refl _) (by simp) ?_; (case hd => rfl); (case hg => rfl); (case hr => go_simp); (case hp => exact (Reps.one (show Kd.M (Kd.int .u8) _ _ _ ((Go.bits .or .i64 192 (a1 / 64)) % 256) [.int .u8 ((Go.bits .or .i64 192 (a1 / 64)) % 256)] from rfl) (Reps.one (show Kd.M (Kd.int .u8) _ _ _ ((Go.bits .or .i64 128 (Go.bits .and .i64 a1 63)) % 256) [.int .u8 ((Go.bits .or .i64 128 (Go.bits .and .i64 a1 63)) % 256)] from rfl) (Reps.none _ _)))); intro v106 w10 ho11 hb hg_ hnew_; clear hg_ hnew_; (first | rw [← Ny105.out] at ho11 | (simp only [Int.reduceToNat] at ho11; rw [← Ny105.out] at ho11)); have n0_ := Ak (Kd.R_elder' (by (with_reducible repeat (first | apply Kd.R_alloc | apply Kd.R_drewN | apply Kd.R_drew)); exact HO0.out) (Kd.R_base ho11) hb); have n1_ := Ak (Kd.R_lower (Kd.R_new' (Kd.R_newM (M := fun k_ => (P0_ k_ ∨ w.heap.size ≤ k_)) ho11 (by first | exact HK.out.1 | exact (show Kept w _ (fun k_ => P0_ k_) from by repeat (first | (with_reducible first | exact HK.out | apply Kept.alloc | apply Kept.drewN | apply Kept.drew) | exact HK.out)).1) (fun k_ h_ => .inr h_)) (Kd.R_lt (by (with_reducible repeat (first | apply Kd.R_alloc | apply Kd.R_drewN | apply Kd.R_drew)); exact HO0.out))) (below_size (by repeat (first | (with_reducible first | exact HB.out | apply below_alloc | apply pw_below_drewN | apply below_drew1) | exact HB.out)))); have n2_ := Ak (Kept.below (S := (fun k_ => P0_ k_)) (by repeat (first | (with_reducible first | exact HK.out | apply Kept.alloc | apply Kept.drewN | apply Kept.drew) | exact HK.out)) hb); have n3_ := Ak (below_step (by repeat (first | (with_reducible first | exact HB.out | apply below_alloc | apply pw_below_drewN | apply below_drew1) | exact HB.out)) hb); clear HO0; clear HK; clear HB; have HO0 := n0_; have HO107 := n1_; have HK := n2_; have HB := n3_; clear n0_ n1_ n2_ n3_; clear hb ho11; obtain ⟨Ao13, co13, eo13⟩ := Kd.R_slice HO107.out; subst eo13) | ((with_reducible refine gate_builtin (b := .append) (xs := #[.tmp 22, .tmp 31]) rfl ?_); at_builtin; refine Kd.R_append_rows (Kd.int .u8) (w0 := w0) w0.heap.size rfl (.tmp 22) (.tmp 31) 24 5 (.int .u8 0) 1 rfl Tryd.underlying24 info5 rfl (by decide) (by omega) u9000_ l0 y105 _ _ _ (fun k_ => (P0_ k_ ∨ w.heap.size ≤ k_) ∧ some k_ ≠ (.slice Ao13 y105.length co13 : Value).ownBlock) (fun _ => False) rfl rfl ?aO ?aR (fun _ _ h => h) (fun _ h => h.elim) ?aF ?aB ?aS ?aL ?_; (case aR => repeat (first | exact (Kd.R_reads' HO107.out).2.2 | (with_reducible refine Kd.C_alloc ?_ _) | (with_reducible refine Kd.C_drewN ?_ _) | (with_reducible refine Kd.C_drew ?_))); (case aB => exact (by repeat (first | (with_reducible first | exact HB.out | apply below_alloc | apply pw_below_drewN | apply below_drew1) | exact HB.out))); (case aF => exact (fun k_ hk => ⟨(.inr (Nat.le_trans (by first | exact HK.out.1 | exact (show Kept w _ (fun k_ => P0_ k_) from by repeat (first | (with_reducible first | exact HK.out | apply Kept.alloc | apply Kept.drewN | apply Kept.drew) | exact HK.out)).1) hk)), Kd.fresh' (Kd.R_lt (by (with_reducible repeat (first | apply Kd.R_alloc | apply Kd.R_drewN | apply Kd.R_drew)); exact HO107.out)) k_ hk⟩)); (case aO => exact (by (with_reducible repeat (first | apply Kd.R_alloc | apply Kd.R_drewN | apply Kd.R_drew)); exact HO0.out)); (case aS => exact (below_size (by repeat (first | (with_reducible first | exact HB.out | apply below_alloc | apply pw_below_drewN | apply below_drew1) | exact HB.out)))); (case aL => have := LMc9.out; omega); intro v109 w12 ho hb hg hat; rw [← Ny108.out] at ho; have n0_ := Ak (Kd.R_after (ok := (fun k_ => (P0_ k_ ∨ w.heap.size ≤ k_))) (by (with_reducible repeat (first | apply Kd.R_alloc | apply Kd.R_drewN | apply Kd.R_drew)); exact Kd.R_mono HO107.out (fun _ hk => ⟨hk.1.1, hk.2⟩)) hg hat); have n1_ := Ak (hb); have n2_ := Ak (Kept.of_grown (S := (fun k_ => P0_ k_)) hg (by repeat (first | (with_reducible first | exact HK.out | apply Kept.alloc | apply Kept.drewN | apply Kept.drew) | exact HK.out)) (fun k_ e_ => (HO0.out.1 k_ e_).1)); have n3_ := Ak (ho); clear HO107; clear HB; clear HK; clear HO0; have HO107 := n0_; have HB := n1_; have HK := n2_; have HO110 := n3_; clear n0_ n1_ n2_ n3_; clear ho hb hg hat))
     go_ret
     exact ⟨_, rfl, by (with_reducible repeat (first | apply Kd.R_alloc | apply Kd.R_drewN | apply Kd.R_drew)); exact Kd.R_mono HO110.out (fun _ hk => hk.1), by repeat (first | (with_reducible first | exact HB.out | apply below_alloc | apply pw_below_drewN | apply below_drew1) | exact HB.out), by repeat (first | (with_reducible first | exact HK.out | apply Kept.alloc | apply Kept.drewN | apply Kept.drew) | exact HK.out)⟩
    ·rw [if_neg c9] at H
     exact absurd H (by simp)
   ·rw [if_neg c8] at H
    have c8b0 := decide_eq_false c8
    clear c8
    by_cases c14 : a1 < 65536
    ·rw [if_pos c14] at H
     have c14b0 := decide_eq_true c14
     clear c14
     obtain ⟨y111, hy111⟩ : ∃ y_ : List Int, y_ = (([(Go.bits .or .i64 224 (a1 / 4096)) % 256, (Go.bits .or .i64 128 (Go.bits .and .i64 (a1 / 64) 63)) % 256, (Go.bits .or .i64 128 (Go.bits .and .i64 a1 63)) % 256] : List Int)) := ⟨_, rfl⟩
     replace H : (if l0.length + y111.length < 140737488355328 then (some (l0 ++ y111)) else (none)) = some r := by rw [hy111]; exact H
     have Ny111 := Ak hy111
     clear hy111
     by_cases c15 : l0.length + y111.length < 140737488355328
     ·rw [if_pos c15] at H
      have LMc15 := Ak c15
      clear c15
      obtain ⟨y114, hy114⟩ : ∃ y_ : List Int, y_ = (l0 ++ y111) := ⟨_, rfl⟩
      replace H : (some y114) = some r := by rw [hy114]; exact H
      have Ny114 := Ak hy114
      clear hy114
      obtain rfl := Oi H
      go_enter Tryd.func23, Tryd.ntmps23
      go_wp2_with (first | (go_at_call 38; (with_reducible refine (impl_PointOk.calls a1 true _ A3.out).mono ?_); rintro e w' ⟨rfl, ⟨nd, rfl⟩⟩) | ((with_reducible refine gate_dst (N := 50) rfl ?_); refine Kd.R_lit (Kd.int .u8) _ 5 ?hg (N := 50) ?hd (xs := ([(Go.bits .or .i64 224 (a1 / 4096)) % 256, (Go.bits .or .i64 128 (Go.bits .and .i64 (a1 / 64) 63)) % 256, (Go.bits .or .i64 128 (Go.bits .and .i64 a1 63)) % 256] : List Int)) (inner := [.int .u8 ((Go.bits .or .i64 224 (a1 / 4096)) % 256), .int .u8 ((Go.bits .or .i64 128 (Go.bits .and .i64 (a1 / 64) 63)) % 256), .int .u8 ((Go.bits .or .i64 128 (Go.bits .and .i64 a1 63)) % 256)]) (ok := fun _ => True) (okp := fun _ => True) ?hr ?hp (fun _ hk => hk) trivial (Below.refl _ _) (Nat.le_refl _) (by simp) ?_; (case hd => rfl); (case hg => rfl); (case hr => go_simp); (case hp => exact (Reps.one (show Kd.M (Kd.int .u8) _ _ _ ((Go.bits .or .i64 224 (a1 / 4096)) % 256) [.int .u8 ((Go.bits .or .i64 224 (a1 / 4096)) % 256)] from rfl) (Reps.one (show Kd.M (Kd.int .u8) _ _ _ ((Go.bits .or .i64 128 (Go.bits .and .i64 (a1 / 64) 63)) % 256) [.int .u8 ((Go.bits .or .i64 128 (Go.bits .and .i64 (a1 / 64) 63)) % 256)] from rfl) (Reps.one (show Kd.M (Kd.int .u8) _ _ _ ((Go.bits .or .i64 128 (Go.bits .and .i64 a1 63)) % 256) [.int .u8 ((Go.bits .or .i64 128 (Go.bits .and .i64 a1 63)) % 256)] from rfl) (Reps.none _ _))))); intro v112 w16 ho17 hb hg_ hnew_; clear hg_ hnew_; (first | rw [← Ny111.out] at ho17 | (simp only [Int.reduceToNat] at ho17; rw [← Ny111.out] at ho17)); have n0_ := Ak (Kd.R_elder' (by (with_reducible repeat (first | apply Kd.R_alloc | apply Kd.R_drewN | apply Kd.R_drew)); exact HO0.out) (Kd.R_base ho17) hb); have n1_ := Ak (Kd.R_lower (Kd.R_new' (Kd.R_newM (M := fun k_ => (P0_ k_ ∨ w.heap.size ≤ k_)) ho17 (by first | exact HK.out.1 | exact (show Kept w _ (fun k_ => P0_ k_) from by repeat (first | (with_reducible first | exact HK.out | apply Kept.alloc | apply Kept.drewN | apply Kept.drew) | exact HK.out)).1) (fun k_ h_ => .inr h_)) (Kd.R_lt (by (with_reducible repeat (first | apply Kd.R_alloc | apply Kd.R_drewN | apply Kd.R_drew)); exact HO0.out))) (below_size (by repeat (first | (with_reducible first | exact HB.out | apply below_alloc | apply pw_below_drewN | apply below_drew1) | exact HB.out)))); have n2_ := Ak (Kept.below (S := (fun k_ => P0_ k_)) (by repeat (first | (with_reducible first | exact HK.out | apply Kept.alloc | apply Kept.drewN | apply Kept.drew) | exact HK.out)) hb); have n3_ := Ak (below_step (by repeat (first | (with_reducible first | exact HB.out | apply below_alloc | apply pw_below_drewN | apply below_drew1) | exact HB.out)) hb); clear HO0; clear HK; clear HB; have HO0 := n0_; have HO113 := n1_; have HK := n2_; have HB := n3_; clear n0_ n1_ n2_ n3_; clear hb ho17; obtain ⟨Ao19, co19, eo19⟩ := Kd.R_slice HO113.out; subst eo19) | ((with_reducible refine gate_builtin (b := .append) (xs := #[.tmp 36, .tmp 50]) rfl ?_); at_builtin; refine Kd.R_append_rows (Kd.int .u8) (w0 := w0) w0.heap.size rfl (.tmp 36) (.tmp 50) 24 5 (.int .u8 0) 1 rfl Tryd.underlying24 info5 rfl (by decide) (by omega) u9000_ l0 y111 _ _ _ (fun k_ => (P0_ k_ ∨ w.heap.size ≤ k_) ∧ some k_ ≠ (.slice Ao19 y111.length co19 : Value).ownBlock) (fun _ => False) rfl rfl ?aO ?aR (fun _ _ h => h) (fun _ h => h.elim) ?aF ?aB ?aS ?aL ?_; (case aR => repeat (first | exact (Kd.R_reads' HO113.out).2.2 | (with_reducible refine Kd.C_alloc ?_ _) | (with_reducible refine Kd.C_drewN ?_ _) | (with_reducible refine Kd.C_drew ?_))); (case aB => exact (by repeat (first | (with_reducible first | exact HB.out | apply below_alloc | apply pw_below_drewN | apply below_drew1) | exact HB.out))); (case aF => exact (fun k_ hk => ⟨(.inr (Nat.le_trans (by first | exact HK.out.1 | exact (show Kept w _ (fun k_ => P0_ k_) from by repeat (first | (with_reducible first | exact HK.out | apply Kept.alloc | apply Kept.drewN | apply Kept.drew) | exact HK.out)).1) hk)), Kd.fresh' (Kd.R_lt (by (with_reducible repeat (first | apply Kd.R_alloc | apply Kd.R_drewN | apply Kd.R_drew)); exact HO113.out)) k_ hk⟩)); (case aO => exact (by (with_reducible repeat (first | apply Kd.R_alloc | apply Kd.R_drewN | apply Kd.R_drew)); exact HO0.out)); (case aS => exact (below_size (by repeat (first | (with_reducible first | exact HB.out | apply below_alloc | apply pw_below_drewN | apply below_drew1) | exact HB.out)))); (case aL => have := LMc15.out; omega); intro v115 w18 ho hb hg hat; rw [← Ny114.out] at ho; have n0_ := Ak (Kd.R_after (ok := (fun k_ => (P0_ k_ ∨ w.heap.size ≤ k_))) (by (with_reducible repeat (first | apply Kd.R_alloc | apply Kd.R_drewN | apply Kd.R_drew)); exact Kd.R_mono HO113.out (fun _ hk => ⟨hk.1.1, hk.2⟩)) hg hat); have n1_ := Ak (hb); have n2_ := Ak (Kept.of_grown (S := (fun k_ => P0_ k_)) hg (by repeat (first | (with_reducible first | exact HK.out | apply Kept.alloc | apply Kept.drewN | apply Kept.drew) | exact HK.out)) (fun k_ e_ => (HO0.out.1 k_ e_).1)); have n3_ := Ak (ho); clear HO113; clear HB; clear HK; clear HO0; have HO113 := n0_; have HB := n1_; have HK := n2_; have HO116 := n3_; clear n0_ n1_ n2_ n3_; clear ho hb hg hat))
      go_ret
      exact ⟨_, rfl, by (with_reducible repeat (first | apply Kd.R_alloc | apply Kd.R_drewN | apply Kd.R_drew)); exact Kd.R_mono HO116.out (fun _ hk => hk.1), by repeat (first | (with_reducible first | exact HB.out | apply below_alloc | apply pw_below_drewN | apply below_drew1) | exact HB.out), by repeat (first | (with_reducible first | exact HK.out | apply Kept.alloc | apply Kept.drewN | apply Kept.drew) | exact HK.out)⟩
     ·rw [if_neg c15] at H
      exact absurd H (by simp)
    ·rw [if_neg c14] at H
     have c14b0 := decide_eq_false c14
     clear c14
     obtain ⟨y117, hy117⟩ : ∃ y_ : List Int, y_ = (([(Go.bits .or .i64 240 (a1 / 262144)) % 256, (Go.bits .or .i64 128 (Go.bits .and .i64 (a1 / 4096) 63)) % 256, (Go.bits .or .i64 128 (Go.bits .and .i64 (a1 / 64) 63)) % 256, (Go.bits .or .i64 128 (Go.bits .and .i64 a1 63)) % 256] : List Int)) := ⟨_, rfl⟩
     replace H : (if l0.length + y117.length < 140737488355328 then (some (l0 ++ y117)) else (none)) = some r := by rw [hy117]; exact H
     have Ny117 := Ak hy117
     clear hy117
     by_cases c20 : l0.length + y117.length < 140737488355328
     ·rw [if_pos c20] at H
      have LMc20 := Ak c20
      clear c20
      obtain ⟨y120, hy120⟩ : ∃ y_ : List Int, y_ = (l0 ++ y117) := ⟨_, rfl⟩
      replace H : (some y120) = some r := by rw [hy120]; exact H
      have Ny120 := Ak hy120
      clear hy120
      obtain rfl := Oi H
      go_enter Tryd.func23, Tryd.ntmps23
      go_wp2_with (first | (go_at_call 38; (with_reducible refine (impl_PointOk.calls a1 true _ A3.out).mono ?_); rintro e w' ⟨rfl, ⟨nd, rfl⟩⟩) | ((with_reducible refine gate_dst (N := 71) rfl ?_); refine Kd.R_lit (Kd.int .u8) _ 5 ?hg (N := 71) ?hd (xs := ([(Go.bits .or .i64 240 (a1 / 262144)) % 256, (Go.bits .or .i64 128 (Go.bits .and .i64 (a1 / 4096) 63)) % 256, (Go.bits .or .i64 128 (Go.bits .and .i64 (a1 / 64) 63)) % 256, (Go.bits .or .i64 128 (Go.bits .and .i64 a1 63)) % 256] : List Int)) (inner := [.int .u8 ((Go.bits .or .i64 240 (a1 / 262144)) % 256), .int .u8 ((Go.bits .or .i64 128 (Go.bits .and .i64 (a1 / 4096) 63)) % 256), .int .u8 ((Go.bits .or .i64 128 (Go.bits .and .i64 (a1 / 64) 63)) % 256), .int .u8 ((Go.bits .or .i64 128 (Go.bits .and .i64 a1 63)) % 256)]) (ok := fun _ => True) (okp := fun _ => True) ?hr ?hp (fun _ hk => hk) trivial (Below.refl _ _) (Nat.le_refl _) (by simp) ?_; (case hd => rfl); (case hg => rfl); (case hr => go_simp); (case hp => exact (Reps.one (show Kd.M (Kd.int .u8) _ _ _ ((Go.bits .or .i64 240 (a1 / 262144)) % 256) [.int .u8 ((Go.bits .or .i64 240 (a1 / 262144)) % 256)] from rfl) (Reps.one (show Kd.M (Kd.int .u8) _ _ _ ((Go.bits .or .i64 128 (Go.bits .and .i64 (a1 / 4096) 63)) % 256) [.int .u8 ((Go.bits .or .i64 128 (Go.bits .and .i64 (a1 / 4096) 63)) % 256)] from rfl) (Reps.one (show Kd.M (Kd.int .u8) _ _ _ ((Go.bits .or .i64 128 (Go.bits .and .i64 (a1 / 64) 63)) % 256) [.int .u8 ((Go.bits .or .i64 128 (Go.bits .and .i64 (a1 / 64) 63)) % 256)] from rfl) (Reps.one (show Kd.M (Kd.int .u8) _ _ _ ((Go.bits .or .i64 128 (Go.bits .and .i64 a1 63)) % 256) [.int .u8 ((Go.bits .or .i64 128 (Go.bits .and .i64 a1 63)) % 256)] from rfl) (Reps.none _ _)))))); intro v118 w21 ho22 hb hg_ hnew_; clear hg_ hnew_; (first | rw [← Ny117.out] at ho22 | (simp only [Int.reduceToNat] at ho22; rw [← Ny117.out] at ho22)); have n0_ := Ak (Kd.R_elder' (by (with_reducible repeat (first | apply Kd.R_alloc | apply Kd.R_drewN | apply Kd.R_drew)); exact HO0.out) (Kd.R_base ho22) hb); have n1_ := Ak (Kd.R_lower (Kd.R_new' (Kd.R_newM (M := fun k_ => (P0_ k_ ∨ w.heap.size ≤ k_)) ho22 (by first | exact HK.out.1 | exact (show Kept w _ (fun k_ => P0_ k_) from by repeat (first | (with_reducible first | exact HK.out | apply Kept.alloc | apply Kept.drewN | apply Kept.drew) | exact HK.out)).1) (fun k_ h_ => .inr h_)) (Kd.R_lt (by (with_reducible repeat (first | apply Kd.R_alloc | apply Kd.R_drewN | apply Kd.R_drew)); exact HO0.out))) (below_size (by repeat (first | (with_reducible first | exact HB.out | apply below_alloc | apply pw_below_drewN | apply below_drew1) | exact HB.out)))); have n2_ := Ak (Kept.below (S := (fun k_ => P0_ k_)) (by repeat (first | (with_reducible first | exact HK.out | apply Kept.alloc | apply Kept.drewN | apply Kept.drew) | exact HK.out)) hb); have n3_ := Ak (below_step (by repeat (first | (with_reducible first | exact HB.out | apply below_alloc | apply pw_below_drewN | apply below_drew1) | exact HB.out)) hb); clear HO0; clear HK; clear HB; have HO0 := n0_; have HO119 := n1_; have HK := n2_; have HB := n3_; clear n0_ n1_ n2_ n3_; clear hb ho22; obtain ⟨Ao24, co24, eo24⟩ := Kd.R_slice HO119.out; subst eo24) | ((with_reducible refine gate_builtin (b := .append) (xs := #[.tmp 52, .tmp 71]) rfl ?_); at_builtin; refine Kd.R_append_rows (Kd.int .u8) (w0 := w0) w0.heap.size rfl (.tmp 52) (.tmp 71) 24 5 (.int .u8 0) 1 rfl Tryd.underlying24 info5 rfl (by decide) (by omega) u9000_ l0 y117 _ _ _ (fun k_ => (P0_ k_ ∨ w.heap.size ≤ k_) ∧ some k_ ≠ (.slice Ao24 y117.length co24 : Value).ownBlock) (fun _ => False) rfl rfl ?aO ?aR (fun _ _ h => h) (fun _ h => h.elim) ?aF ?aB ?aS ?aL ?_; (case aR => repeat (first | exact (Kd.R_reads' HO119.out).2.2 | (with_reducible refine Kd.C_alloc ?_ _) | (with_reducible refine Kd.C_drewN ?_ _) | (with_reducible refine Kd.C_drew ?_))); (case aB => exact (by repeat (first | (with_reducible first | exact HB.out | apply below_alloc | apply pw_below_drewN | apply below_drew1) | exact HB.out))); (case aF => exact (fun k_ hk => ⟨(.inr (Nat.le_trans (by first | exact HK.out.1 | exact (show Kept w _ (fun k_ => P0_ k_) from by repeat (first | (with_reducible first | exact HK.out | apply Kept.alloc | apply Kept.drewN | apply Kept.drew) | exact HK.out)).1) hk)), Kd.fresh' (Kd.R_lt (by (with_reducible repeat (first | apply Kd.R_alloc | apply Kd.R_drewN | apply Kd.R_drew)); exact HO119.out)) k_ hk⟩)); (case aO => exact (by (with_reducible repeat (first | apply Kd.R_alloc | apply Kd.R_drewN | apply Kd.R_drew)); exact HO0.out)); (case aS => exact (below_size (by repeat (first | (with_reducible first | exact HB.out | apply below_alloc | apply pw_below_drewN | apply below_drew1) | exact HB.out)))); (case aL => have := LMc20.out; omega); intro v121 w23 ho hb hg hat; rw [← Ny120.out] at ho; have n0_ := Ak (Kd.R_after (ok := (fun k_ => (P0_ k_ ∨ w.heap.size ≤ k_))) (by (with_reducible repeat (first | apply Kd.R_alloc | apply Kd.R_drewN | apply Kd.R_drew)); exact Kd.R_mono HO119.out (fun _ hk => ⟨hk.1.1, hk.2⟩)) hg hat); have n1_ := Ak (hb); have n2_ := Ak (Kept.of_grown (S := (fun k_ => P0_ k_)) hg (by repeat (first | (with_reducible first | exact HK.out | apply Kept.alloc | apply Kept.drewN | apply Kept.drew) | exact HK.out)) (fun k_ e_ => (HO0.out.1 k_ e_).1)); have n3_ := Ak (ho); clear HO119; clear HB; clear HK; clear HO0; have HO119 := n0_; have HB := n1_; have HK := n2_; have HO122 := n3_; clear n0_ n1_ n2_ n3_; clear ho hb hg hat))
      go_ret
      exact ⟨_, rfl, by (with_reducible repeat (first | apply Kd.R_alloc | apply Kd.R_drewN | apply Kd.R_drew)); exact Kd.R_mono HO122.out (fun _ hk => hk.1), by repeat (first | (with_reducible first | exact HB.out | apply below_alloc | apply pw_below_drewN | apply below_drew1) | exact HB.out), by repeat (first | (with_reducible first | exact HK.out | apply Kept.alloc | apply Kept.drewN | apply Kept.drew) | exact HK.out)⟩
     ·rw [if_neg c20] at H
      exact absurd H (by simp)
 ·replace c4 := Bool.eq_false_iff.mpr c4
  subst c4
  rw [if_neg (show ¬ (false = true) by decide)] at H
  replace H := Ob H
  obtain ⟨t123, A250, H⟩ := H
  replace H : (some t123) = some r := H
  have A25 := Ak A250
  clear A250
  obtain rfl := Oi H
  go_enter Tryd.func23, Tryd.ntmps23
  go_wp2_with (first | (go_at_call 38; (with_reducible refine (impl_PointOk.calls a1 false _ A3.out).mono ?_); rintro e w' ⟨rfl, ⟨nd, rfl⟩⟩; obtain ⟨Ao26, co26, eo26⟩ := Kd.R_slice HO0.out; subst eo26) | (go_at_call 23; (with_reducible refine (ih k (by omega) (fun k_ => some k_ = (.slice Ao26 l0.length co26 : Value).ownBlock) (.slice Ao26 l0.length co26) l0 65533 t123 w0 _ ?side1 ?side2 A25.out).mono ?_); (case side1 => repeat (first | (with_reducible first | exact HB.out | apply below_alloc | apply pw_below_drewN | apply below_drew1) | exact HB.out)); (case side2 => exact Kd.R_tight rfl HO0.out); rintro e w27 ⟨v124, rfl, ho0, hb, hkp⟩; have n0_ := Ak (Kd.R_mono (ok' := fun k_ => (P0_ k_ ∨ w.heap.size ≤ k_)) ho0 (fun k_ hk_ => Or.elim hk_ (fun hs_ => (HO0.out.1 k_ (hs_).symm)) (fun hn_ => (.inr (Nat.le_trans (by first | exact HK.out.1 | exact (show Kept w _ (fun k_ => P0_ k_) from by repeat (first | (with_reducible first | exact HK.out | apply Kept.alloc | apply Kept.drewN | apply Kept.drew) | exact HK.out)).1) hn_))))); have n1_ := Ak (Kept.then_ (S := (fun k_ => P0_ k_)) (by repeat (first | (with_reducible first | exact HK.out | apply Kept.alloc | apply Kept.drewN | apply Kept.drew) | exact HK.out)) hkp (fun k_ hs_ => (fun e_ => (HO0.out.1 k_ e_.symm)) hs_)); have n2_ := Ak (hb); clear HK; clear HB; clear HO0; have HO125 := n0_; have HK := n1_; have HB := n2_; clear n0_ n1_ n2_; (try clear hb); (try clear hkp); (try clear ho0)))
  go_ret
  exact ⟨_, rfl, by (with_reducible repeat (first | apply Kd.R_alloc | apply Kd.R_drewN | apply Kd.R_drew)); exact HO125.out, by repeat (first | (with_reducible first | exact HB.out | apply below_alloc | apply pw_below_drewN | apply below_drew1) | exact HB.out), by repeat (first | (with_reducible first | exact HK.out | apply Kept.alloc | apply Kept.drewN | apply Kept.drew) | exact HK.out)⟩
end Go.Proofs.YtlnmmcipioagaaaDoor.X
